import Derived.Test.YtippdjmpkafifaaGreatCT17
import Derived.Test.YtippdjmpkafifaaGreatCT16
import Derived.Laws.ResultCell
set_option maxRecDepth 100000
set_option maxHeartbeats 64000000
namespace Go.Proofs.YtippdjmpkafifaaGreat
open Go.RowKit
structure Dj (x:C) (o:List Int) (wS:World) (S:Value) (k:Nat) (tv:Value) (a t:Int) (ts:List Int) (wr:World):Prop where
 ak:K.ak x.nd x.l x.s x.r [] x.s.ag x.s.start o=⟨ts ++ (K.ak x.nd x.l x.s x.r (o.take k) a t (o.drop k)).times,(K.ak x.nd x.l x.s x.r (o.take k) a t (o.drop k)).a,(K.ak x.nd x.l x.s x.r (o.take k) a t (o.drop k)).t,(K.ak x.nd x.l x.s x.r (o.take k) a t (o.drop k)).e⟩
 len:ts.length=k
 blk:gm wr wS.heap.size 0 S tv 0
 own:wr.ownsRow (wS.heap.size + 1) 3 1 tv k (intCells ts)
 a0:0<=a/\a < x.nd
 t0:0<=t/\t<=1000000
 bw:Below wS.heap.size wS wr
theorem Dj.next {x:C} {o:List Int} {wS wr w5 w6:World} {S:Value} {k:Nat} {tv tv':Value} {a t i lb le:Int} {ts:List Int} (h:Dj x o wS S k tv a t ts wr) (hi:o[k]? = some i) (hlb:lb=(K.ax x.nd x.l x.s x.r (o.take k) i a t).1) (hle:le=(K.ax x.nd x.l x.s x.r (o.take k) i a t).2) (h0:le=0)
  (hb:Below wr.heap.size wr w5)
  (hown:w6.ownsRow (wS.heap.size + 1) 3 1 tv' (k + 1) (intCells (ts ++ [lb]))) (hgrow:(w5.alloc (.cells #[.int .i64 lb] 3)).grownBy w6 tv.ownBlock)
  (hno:0<=(K.req x.r i).node/\(K.req x.r i).node < x.nd) (hse:0<=(K.req x.r i).service):Dj x o wS S (k + 1) tv' (K.req x.r i).node (lb + (K.req x.r i).service) (ts ++ [lb]) (w6.setCell ⟨wS.heap.size,2,none⟩ tv'):=by
 subst hlb;have hl:(K.ax x.nd x.l x.s x.r (o.take k) i a t).2=0:=by rw [<-hle];exact h0
 have hlt:∀ g,tv.ownBlock=some g->wS.heap.size + 1<=g/\g < wr.heap.size:=λg e=>h.own.lt g e;have hs6:=hgrow.size;rw [World.size_alloc] at hs6;have ba:Below w5.heap.size w5 (w5.alloc (.cells #[.int .i64 (K.ax x.nd x.l x.s x.r (o.take k) i a t).1] 3)):=(Below.refl _ _).alloc (zG _) _;have b6:Below wS.heap.size wS w6:=a_ (bel (bel h.bw hb) ba) hgrow (λg e=>by have:=(hlt g e).1;omega);have dR:gm w6 wS.heap.size 0 S tv 0:=eX hgrow ((h.blk.below hb).below ba) (λe=>by have:=(hlt _ e.symm).1;omega);obtain ⟨-,-,-,l4,l5,l6,l7⟩:=K.xk hl;obtain ⟨-,r2,r3,-⟩:=K.o7 l4;obtain ⟨-,-,-,f1,f2⟩:=H.lM l5;refine ⟨?_,by rw [List.length_append,h.len];rfl,bg dR 2 _,?_,hno,?_,b6.setCell (zG _) _⟩
 ·rw [h.ak,K.QC hi hl,List.append_assoc];rfl
 ·exact ownsRow_setCell_below hown (Nat.lt_succ_self _) _
 ·have:=h.t0;rw [l6] at l7 ⊢;omega
theorem abt (x:C) (V:Option Addr) (vn vc:Nat) (o:List Int) (w:World) (hx:At w x) (hV:Ints w V vn o) (lg:vn<=vc) (hvn:vn<=100000) :
  Calls Tryz.prog 131 #[.agg #[.int .i64 x.nd,.slice x.A x.n x.c],.agg #[.int .i64 x.s.day,.int .i64 x.s.ag,.int .i64 x.s.start,.int .i64 x.s.end_,.int .i64 x.s.aj,.slice x.s.A x.s.n x.s.c],.slice x.B x.m x.d,.slice V vn vc] w λe w'=>GX w w' (K.run x.nd x.l x.s x.r o) e:=by
 obtain ⟨w1,hw1⟩:=zB (w.alloc (.cells #[.int .i64 x.nd,.slice x.A x.n x.c] 24));obtain ⟨w2,hw2⟩:=zB (w1.alloc (.cells #[.int .i64 x.s.day,.int .i64 x.s.ag,.int .i64 x.s.start,.int .i64 x.s.end_,.int .i64 x.s.aj,.slice x.s.A x.s.n x.s.c] 63));obtain ⟨w3,hw3⟩:=zB (w2.alloc (.cells #[.int .i64 0,.slice none 0 0,.slice none 0 0,.int .i64 0] 80));have z1:w1.heap.size=w.heap.size + 1:=by rw [hw1];exact World.size_alloc _ _
 have z2:w2.heap.size=w.heap.size + 1 + 1:=by rw [hw2,World.size_alloc,z1]
 have z3:w3.heap.size=w.heap.size + 1 + 1 + 1:=by rw [hw3,World.size_alloc,z2]
 have b01:=zA hw1;have b12:=zA hw2;have bH:=zA hw3;have hP:Net w3 w.heap.size x.nd x.A x.n x.c:=by
  have h1:Net w1 w.heap.size x.nd x.A x.n x.c:=by rw [hw1];exact Net.new _ _ _ _ _
  exact (h1.below b12).below bH
 have hS:aT w3 (w.heap.size + 1) x.s:=by
  have h1:aT w2 (w.heap.size + 1) x.s:=by rw [<-z1,hw2];exact aT.new _ _
  exact h1.below bH
 have hR:jg w3 (w.heap.size + 1 + 1) (.slice none 0 0) (.slice none 0 0) 0:=by rw [<-z2,hw3];exact heap_alloc_new _ _
 have b3:=bel (bel b01 b12) bH;have p0:=hP.c0;have p1:=hP.c1;obtain ⟨s0,s1,s2,s3,s4,s5⟩:=hS.cells;have Z3:=zC z3;rw [hw3,hw2,hw1] at p0 p1 s0 s1 s2 s3 s4 s5;go_enter Tryz.func131,Tryz.ntmps131;go_wp2_with fail;rw [<-hw1,<-hw2,<-hw3];clear hw1 hw2 hw3 z1 z2 z3 b01 b12 bH p0 p1 s0 s1 s2 s3 s4 s5;refine (abr x V vn vc o _ (hx.below b3) (hV.below b3) (by omega)).mono ?_;rintro e w4 ⟨rfl,eF⟩;have hP:=hP.below eF;have hS:=hS.below eF;have hR:=hR.below eF (by rw [Z3.out];omega);have b4:=bel b3 eF;clear b3;cases hr:K.right x.nd x.l x.s x.r o
 ·have HX:=zC (show K.run x.nd x.l x.s x.r o=⟨K.Tr.zero,1,0⟩ by unfold K.run;rw [if_pos hr]);clear hr;obtain ⟨r0,r1,r2,r3⟩:=hR.cells;have f0:=hR.free 0;have f1:=hR.free 1;have f2:=hR.free 2;have f3:=hR.free 3;go_wp2_with fail;refine bodyPost_ret_by (v:=.tuple #[.agg #[.int .i64 0,.slice none 0 0,.slice none 0 0,.int .i64 0],.int .i64 1,.int .i64 0]) ?_ rfl ?_
  ·obtain ⟨z0,z1,z2,z3⟩:=(hR.set (.slice none 0 0) (.slice none 0 0) 0).cells;rw [uT rfl];simp [go_sem,z0,z1,z2,z3]
  ·exact zM HX.out (jM b4 (by omega) _ _ _ _)
 ·obtain ⟨hne,hld,hdp,hno⟩:=K.xy hr;obtain ⟨hck,hset,hall⟩:=T.jS hld;obtain ⟨-,⟨d0,d1⟩,st0,st1,pX⟩:=K.pW hck;have Ad:=zC (T.BH hset);have xG:=zC hall;have xO:=zC hno;have xQ:=zC hr;have kQ:=zC hne;clear hr hne hld hset hall hck hno;obtain ⟨i0,hi,hz0,hz1,hz2⟩:=info_parts Tryz.info3;have hrs:w.heap.size + 1 + 1 < w4.heap.size:=by have:=eF.size;have:=Z3.out;omega
  have aK:=zC hV.1;have gZ:(w4.alloc (.cells #[] 3)).ownsRow w4.heap.size 3 1 (.slice (some ⟨w4.heap.size,0,none⟩) 0 0) 0 []:=mM (heap_alloc_new w4 (.cells #[] 3)) (zG _);have Nj:Below w4.heap.size w4 (w4.alloc (.cells #[] 3)):=(Below.refl _ _).alloc (zG _) _;go_wp2_with (at_builtin;refine jW rfl (.tmp 25) (.tmp 26) 48 rfl w4.heap.size 3 i0 (.int .i64 0) 1 8 Tryz.underlying48 hi hz0 hz1 hz2 rfl (by decide) (.slice (some ⟨w4.heap.size,0,none⟩) 0 0) 0 [] rfl gZ V vn vc (intCells o) rfl (hV.below (bel b4 Nj)).2 (oU o) (by simp only [maxLen];omega) (by omega) (by first | (simp;done) | (simp;omega)) ?_;intro v' w5 hown5 Bf aeV;rw [Nat.zero_add,List.nil_append] at hown5;obtain ⟨SA,sc,rfl,fQ⟩:=mJ hown5 aK.out;have gq:=(λad (e:SA=some ad)=>(hown5.lt _ (by rw [e];rfl)));have aU:Below w4.heap.size w4 w5:=a_ Nj Bf (zq (zG _));have Hr:Below w5.heap.size w5 (w5.alloc (.cells #[.int .i64 0,.slice SA vn sc,.slice none 0 0,.int .i64 0] 80)):=(Below.refl _ _).alloc (zG _) _;have g1:=((hS.below aU).below Hr).cells.2.1;have g2:=((hS.below aU).below Hr).cells.2.2.1);have b5:=bel b4 aU;have hP:=hP.below aU;have hS:=hS.below aU;have hR:=hR.below aU hrs;have P9:w.heap.size + 1 + 1 < w5.heap.size:=by have:=aU.size;omega
  have qB:Dj x o w5 (.slice SA vn sc) 0 (.slice none 0 0) x.s.ag x.s.start [] (w5.alloc (.cells #[.int .i64 0,.slice SA vn sc,.slice none 0 0,.int .i64 0] 80)) :=
   ⟨by simp,rfl,heap_alloc_new w5 _,World.ownsRow_nil _ _ _ _,⟨d0,hdp⟩,⟨st0,by omega⟩,Hr⟩
  clear hown5 Bf aeV gZ Nj hi hz0 hz1 hz2 aU g1 g2 Hr eF;go_loopw [12,13,14] (λv12 v13 v14 wr=>∃ (k:Nat) (tv:Value) (a t:Int) (ts:List Int),v12=.int .i64 t/\v13=.int .i64 a/\v14=.int .i64 k/\k<=vn/\Dj x o w5 (.slice SA vn sc) k tv a t ts wr) (λ_ _ v14 _=>vn - (intOf v14).toNat)
  case atStart=>exact ⟨0,_,_,_,[],rfl,rfl,rfl,by omega,qB⟩
  case round =>
   clear qB;obtain ⟨k,tv,a,t,ts,rfl,rfl,rfl,hk,hrr⟩:=hrel;have hbr:=hrr.bw;have hbw:=bel b5 hbr;have hSr:=hS.below hbr;have wQ:=hP.below hbr;by_cases hlt:k < vn
   ·obtain ⟨iM,i,rfl,hi,H_⟩:=hV.at_ hlt;have ci:=(hbw.cell (cell_lt H_)).trans H_;have him:=zD hi;obtain ⟨hi0,hi1⟩:=Ad.out i him;obtain ⟨j,rfl⟩:∃ j:Nat,i=(j:Int):=⟨i.toNat,by omega⟩;obtain ⟨q,hq⟩:∃ q,x.r[j]? = some q:=⟨_,zF (by omega)⟩;obtain ⟨⟨n0,-⟩,⟨e0,e1⟩,-⟩:=K.zO (xG.out q (zD hq));have hnq:=xO.out _ him;rw [K.jH hq] at hnq;have dB:=zC (K.jH hq);have HI:=zC hi;have HRR:=zC hrr;have ha0:=hrr.a0;have ht0:=hrr.t0;have him:j < x.m:=by rw [hx.aN.1];omega
    have j0:(0:Int)<=(j:Int):=by omega
    have j1:(j:Int) < (x.m:Int):=by omega
    obtain ⟨wu,q',hB,hgq,-,y0,-,-,y3,-⟩:=hx.aN.at_ him;rw [hq] at hgq;injection hgq with hgq;subst hgq;obtain ⟨lb,hlb⟩:=zB ((K.ax x.nd x.l x.s x.r (o.take k) j a t).1);obtain ⟨le,hle⟩:=zB ((K.ax x.nd x.l x.s x.r (o.take k) j a t).2);have hAr:=hx.below hbw;have hIk:∀ w',Below wr.heap.size wr w'->Ints w' (some iM) k (o.take k):=λw' h=>(hV.below (bel hbw h)).take (by omega);have CL:=λz:ah wr=>agv x (some iM) k vc (o.take k) j q a t z.val (hAr.below z.property) (hIk _ z.property) (by omega) kQ.out ha0 hq ⟨n0,hnq⟩ ht0 ⟨e0,e1⟩;unfold MM at CL;simp only [<-hlb,<-hle,hB] at CL;rw [hB];clear hB;obtain ⟨s0,s1,s2,s3,s4,s5⟩:=hSr.cells;have g0:=ah.cell wQ.c0;have g1:=ah.cell wQ.c1;have f0:=ah.cell s0;have f1:=ah.cell s1;have f2:=ah.cell s2;have f3:=ah.cell s3;have f4:=ah.cell s4;have f5:=ah.cell s5;have fi:=ah.cell ci;have k0:(0:Int)<=(k:Int):=by omega
    have k1:(k:Int)<=(vc:Int):=by omega
    have k2:(k:Int) < (vn:Int):=by omega
    have sW:=zC hlb;have sZ:=zC hle;clear hi him hrr hlb hle s0 s1 s2 s3 s4 s5;go_wp2_with fail;refine dU (by kernel_rfl) (by kernel_rfl) ?_;repeat (go_big_quiet_step ((go_at_call 180;exact ah.calls (CL _))))
    refine wpQuiet_nil ?_;rintro w6 ⟨⟨_,aX⟩,rfl⟩;have Ja:=bel hbw aX;have eG:=hR.below (bel hbr aX) P9;clear CL g0 g1 f0 f1 f2 f3 f4 f5 fi;cases h0:(le == 0)
    ·have h0':(le != 0)=true:=by simp [bne,h0]
     have hne0:le ≠ 0:=by simpa using h0
     have HX:=zC (show K.run x.nd x.l x.s x.r o=⟨K.Tr.zero,le,k⟩ by
      rw [K.FQ xQ.out HRR.out.ak,K.QB HI.out (by rw [<-sZ.out];exact hne0),<-sZ.out,if_pos hne0];simp [HRR.out.len])
     obtain ⟨r0,r1,r2,r3⟩:=eG.cells;have f0:=eG.free 0;have f1:=eG.free 1;have f2:=eG.free 2;have f3:=eG.free 3;clear h0 hne0;go_wp2_with fail;refine bodyPost_ret_by (v:=.tuple #[.agg #[.int .i64 0,.slice none 0 0,.slice none 0 0,.int .i64 0],.int .i64 le,.int .i64 k]) ?_ rfl ?_
     ·obtain ⟨z0,z1,z2,z3⟩:=(eG.set (.slice none 0 0) (.slice none 0 0) 0).cells;rw [uT rfl];simp [go_sem,z0,z1,z2,z3]
     ·exact zM HX.out (jM Ja (by omega) _ _ _ _)
    ·have h0':(le != 0)=false:=by simp [bne,h0]
     have hee:le=0:=by simpa using h0
     have tC:=zC (show (0:Int)=(K.ax x.nd x.l x.s x.r (List.take k o) j a t).2 by rw [<-hee];exact sZ.out);have dR:=HRR.out.blk.below aX;have u2:=dR.cells.2.2.1;have hown6:(w6.alloc (.cells #[.int .i64 lb] 3)).ownsRow (w5.heap.size + 1) 3 1 tv k (intCells ts):=(own_below HRR.out.own aX).alloc _;have UU:Below w6.heap.size w6 (w6.alloc (.cells #[.int .i64 lb] 3)):=(Below.refl _ _).alloc (zG _) _;have hs5:=aX.size;have hs4:=hbr.size;have hbL:=HRR.out.own.lt;have hlk:=K.xk (nd:=x.nd) (l:=x.l) (s:=x.s) (r:=x.r) (v:=List.take k o) (i:=j) (a:=a) (t:=t) tC.out.symm;have afg:0<=lb/\lb<=1000000:=by
      obtain ⟨-,-,-,l4,l5,l6,l7⟩:=hlk;obtain ⟨-,-,-,f1,f2⟩:=H.lM l5;obtain ⟨-,r2,r3,-⟩:=K.o7 l4;have h9:=sW.out;rw [l6] at h9 l7;rw [dB.out] at *;omega
     obtain ⟨lb0,lb1⟩:=afg;have hwrap:IntKind.i64.wrap (lb + q.service)=lb + q.service:=IntWalk.i64_in _ (by omega);have hs6:w5.heap.size + 1<=(w6.alloc (.cells #[.int .i64 lb] 3)).heap.size:=by rw [World.size_alloc];omega
     clear h0 hlk;subst hee;go_wp2_with (at_builtin;refine rq rfl (.tmp 61) (.tmp 63) rfl (w5.heap.size + 1) tv k ts rfl hown6 w6.heap.size lb rfl (bI _ _ _ rfl) (by omega) hs6 ?_;intro tv' w7 fF uD uA;obtain ⟨A7,c7,rfl,-,-⟩:=dh fF;have uy:=eX uD (dR.below UU) (λe=>(by have:=(hbL _ e.symm).1;omega));have v2:=gI uy 2;have v2c:=af uy 2 _ rfl;have b7:Below w5.heap.size w5 w7:=a_ (bel (bel hbr aX) UU) uD (λg e=>(by have:=(hbL g e).1;omega));have b8:Below w.heap.size w (w7.setCell ⟨w5.heap.size,2,none⟩ (.slice A7 (k + 1) c7)):=bel b5 (b7.setCell (zG _) _);have yy0:=(b8.cell (cell_lt y0)).trans y0;have yy3:=(b8.cell (cell_lt y3)).trans y3;have ci8:=(b8.cell (cell_lt H_)).trans H_);have hN:=HRR.out.next HI.out sW.out tC.out rfl aX fF uD (by rw [dB.out];exact ⟨n0,hnq⟩) (by rw [dB.out];exact e0);rw [dB.out] at hN;go_roundw
     case rel=>exact ⟨k + 1,.slice A7 (k + 1) c7,_,_,ts ++ [lb],rfl,rfl,by go_num,by omega,hN⟩
     case measure=>simp [intOf];omega
   ·have hkv:vn=k:=by omega
    subst hkv;have hto:o.take vn=o:=List.take_of_length_le (by rw [<-hV.1];omega);have hdo:o.drop vn=[]:=List.drop_eq_nil_of_le (by rw [<-hV.1];omega);have hl0:=hrr.ak;rw [hto,hdo] at hl0;have hl1:K.ak x.nd x.l x.s x.r [] x.s.ag x.s.start o=⟨ts,a,t,0⟩:=by rw [hl0];simp [K.ak]
    have uw:=K.FQ xQ.out hl1;simp only [ne_eq,not_true_eq_false,if_false] at uw;have aO:=zC uw;obtain ⟨A7,c7,rfl,oG⟩:=mJ hrr.own hrr.len.symm;have Aw:∀ ad,A7=some ad->w5.heap.size + 1<=ad.block:=λad e=>(hrr.own.lt _ (by rw [e];rfl)).1;have hblk:=hrr.blk;have ha0:=hrr.a0;have ht0:=hrr.t0;clear hrr hto hdo hl0 hl1 uw;obtain ⟨dn,hdn⟩:∃ dn:Nat,x.s.ag=(dn:Int):=⟨x.s.ag.toNat,by omega⟩;obtain ⟨s0,s1,s2,s3,s4,s5⟩:=hSr.cells;have g0:=ah.cell wQ.c0;have g1:=ah.cell wQ.c1;have f0:=ah.cell s0;have f1:=ah.cell s1;have f2:=ah.cell s2;have f3:=ah.cell s3;have f4:=ah.cell s4;have f5:=ah.cell s5;have kV:=hx.below hbw;have jP:=hV.below hbw;obtain ⟨wt,hwt⟩:=zB (T.weight x.s x.r o);obtain ⟨y,hy⟩:=zB (K.way x.nd x.l a wt x.s.ag);have ae6:(dn:Int) < x.nd:=by omega
    have CW:=λj:ah wr=>Ky x.s x.B x.m x.d x.r V vn vc o j.val ((kV.below j.property).g_) hx.b2 ((kV.below j.property).aN) hx.b3 hx.b4 (jP.below j.property) (by omega);have CY:=λj:ah wr=>aby x.nd x.A x.n x.c x.l a dn wt j.val ((kV.below j.property).net) hx.b1 kQ.out ha0 ae6;simp only [<-hwt] at CW;simp only [<-hdn,<-hy] at CY;have hyb:=K.iJ x.nd x.l a wt x.s.ag;rw [<-hy] at hyb;obtain ⟨hy0,hy1⟩:=hyb;have HY:=zC (show K.way x.nd x.l a (T.weight x.s x.r o) x.s.ag=y by rw [<-hwt,hy]);clear hy hwt hdn s0 s1 s2 s3 s4 s5;go_wp2_with fail;refine dU (by kernel_rfl) (by kernel_rfl) ?_;repeat (go_big_quiet_step ((first | (go_at_call 146;exact ah.calls (CW _)) | (go_at_call 181;exact ah.calls (CY _)))))
    refine wpQuiet_nil ?_;rintro w6 ⟨⟨_,aX⟩,rfl⟩;clear CW CY g0 g1 f0 f1 f2 f3 f4 f5 kV jP;have Ja:=bel hbw aX;have b6:=bel hbr aX;have eG:=hR.below b6 P9;have dR:=hblk.below aX;obtain ⟨s0,s1,s2,s3,s4,s5⟩:=(hSr.below aX).cells;obtain ⟨r0,r1,r2,r3⟩:=eG.cells;have f0:=eG.free 0;have f1:=eG.free 1;have f2:=eG.free 2;have f3:=eG.free 3;cases h1:decide (y < 0);rotate_left
    ·have HX:=zC (show K.run x.nd x.l x.s x.r o=⟨K.Tr.zero,4,vn⟩ by
      have hr:K.reach x.nd x.l x.s x.r o a t x.s.ag=(0,4):=by unfold K.reach;rw [HY.out,if_pos (by have h1:=of_decide_eq_true h1;omega)]
      rw [aO.out,hr,if_pos (by decide),<-aK.out])
     go_wp2_with fail;refine bodyPost_ret_by (v:=.tuple #[.agg #[.int .i64 0,.slice none 0 0,.slice none 0 0,.int .i64 0],.int .i64 4,.int .i64 vn]) ?_ rfl ?_
     ·obtain ⟨z0,z1,z2,z3⟩:=(eG.set (.slice none 0 0) (.slice none 0 0) 0).cells;rw [uT rfl];simp [go_sem,z0,z1,z2,z3]
     ·exact zM HX.out (jM Ja (by omega) _ _ _ _)
    have hyp:¬ y < 0:=of_decide_eq_false h1;have hwrap:IntKind.i64.wrap (t + y)=t + y:=IntWalk.i64_in _ (by omega);cases h2:decide (x.s.end_ < t + y);rotate_left
    ·have HX:=zC (show K.run x.nd x.l x.s x.r o=⟨K.Tr.zero,18,vn⟩ by
      have hr:K.reach x.nd x.l x.s x.r o a t x.s.ag=(0,18):=by unfold K.reach;rw [HY.out,if_neg (by omega),if_pos (of_decide_eq_true h2)]
      rw [aO.out,hr,if_pos (by decide),<-aK.out])
     go_wp2_with fail;refine bodyPost_ret_by (v:=.tuple #[.agg #[.int .i64 0,.slice none 0 0,.slice none 0 0,.int .i64 0],.int .i64 18,.int .i64 vn]) ?_ rfl ?_
     ·obtain ⟨z0,z1,z2,z3⟩:=(eG.set (.slice none 0 0) (.slice none 0 0) 0).cells;rw [uT rfl];simp [go_sem,z0,z1,z2,z3]
     ·exact zM HX.out (jM Ja (by omega) _ _ _ _)
    have h2':¬ x.s.end_ < t + y:=of_decide_eq_false h2;have HX:=zC (show K.run x.nd x.l x.s x.r o=⟨⟨o,ts,t + y⟩,0,o.length⟩ by
     have hr:K.reach x.nd x.l x.s x.r o a t x.s.ag=(t + y,0):=by unfold K.reach;rw [HY.out,if_neg (by omega),if_neg h2']
     rw [aO.out,hr];simp)
    clear hyp h2' r0 r1 r2 r3 f0 f1 f2 f3;have v3:=gI dR 3;have v3c:=af dR 3 _ rfl;have b7:Below w5.heap.size w5 (w6.setCell ⟨w5.heap.size,3,none⟩ (.int .i64 (t + y))):=b6.setCell (zG _) _;have uy:gm (w6.setCell ⟨w5.heap.size,3,none⟩ (.int .i64 (t + y))) w5.heap.size 0 (.slice SA vn sc) (.slice A7 vn c7) (t + y):=bg dR 3 _;obtain ⟨y0,y1,y2,y3⟩:=uy.cells;have rM:=hR.below b7 P9;obtain ⟨r0,r1,r2,r3⟩:=rM.cells;have f0:=rM.free 0;have f1:=rM.free 1;have f2:=rM.free 2;have f3:=rM.free 3;have NW:Ints (w6.setCell ⟨w5.heap.size,3,none⟩ (.int .i64 (t + y))) SA vn o:=(fQ.below b6).set _ (λad e=>by have:=gq ad e;omega);have fP:Ints (w6.setCell ⟨w5.heap.size,3,none⟩ (.int .i64 (t + y))) A7 vn ts:=(oG.below aX).set _ (λad e=>by have:=Aw ad e;omega);go_wp2_with fail;refine bodyPost_ret_by (v:=.tuple #[.agg #[.int .i64 0,.slice SA vn sc,.slice A7 vn c7,.int .i64 (t + y)],.int .i64 0,.int .i64 vn]) ?_ rfl ?_
    ·obtain ⟨z0,z1,z2,z3⟩:=(rM.set (.slice SA vn sc) (.slice A7 vn c7) (t + y)).cells;rw [uT rfl];simp [go_sem,z0,z1,z2,z3]
    ·exact aa5 HX.out rfl (by rw [aK.out]) (bel b5 b7) NW fP (λad e=>by have:=gq ad e;omega) (λad e=>by have:=Aw ad e;omega) (by omega) rfl
def xE (w:World) (g:Nat) (b:Option K.Tr):Prop :=
 ∃ A n c A' n' c',jg w g (.slice A n c) (.slice A' n' c') ((b.getD K.Tr.zero).end_)/\Ints w A n (b.getD K.Tr.zero).stops/\Ints w A' n' (b.getD K.Tr.zero).times/\(∀ ad,A=some ad->g < ad.block)/\(∀ ad,A'=some ad->g < ad.block)
theorem xE.below {w w':World} {g:Nat} {b:Option K.Tr} (h:xE w g b) (hb:Below w.heap.size w w'):xE w' g b:=by
 obtain ⟨A,n,c,A',n',c',h1,h2,h3,h4,h5⟩:=h;exact ⟨A,n,c,A',n',c',h1.below hb (lt_of_block h1),h2.below hb,h3.below hb,h4,h5⟩
theorem Ints.set0 {w:World} {A:Option Addr} {n:Nat} {l:List Int} (h:Ints w A n l) {g i:Nat} (u:Value) (hg:0 < n->∀ ad,A=some ad->ad.block ≠ g):Ints (w.setCell ⟨g,i,none⟩ u) A n l:=by
 by_cases h0:0 < n
 ·exact h.set u (hg h0)
 ·exact ⟨h.1,h.2.1,λh1=>absurd h1 h0⟩
def Ub (w w':World) (y:K.Tr × Int) (e:Ending):Prop :=
 (∃ A n c A' n' c',e=.returned (.tuple #[.agg #[.int .i64 0,.slice A n c,.slice A' n' c',.int .i64 y.1.end_],.int .i64 y.2])/\Ints w' A n y.1.stops/\Ints w' A' n' y.1.times/\(∀ ad,A=some ad->w.heap.size<=ad.block)/\∀ ad,A'=some ad->w.heap.size<=ad.block)/\Below w.heap.size w w'
theorem aaY {w w':World} {er:Int} {y:K.Tr × Int} (h:y=(K.Tr.zero,er)) (hb:Below w.heap.size w w'):Ub w w' y (.returned (.tuple #[.agg #[.int .i64 0,.slice none 0 0,.slice none 0 0,.int .i64 0],.int .i64 er])):=by
 subst h;exact ⟨⟨none,0,0,none,0,0,rfl,gK _,gK _,λad e=>(nomatch e),λad e=>(nomatch e)⟩,hb⟩
theorem UY (x:C) (V:Option Addr) (vn vc:Nat) (v:List Int) (w:World) (hx:At w x) (hV:Ints w V vn v) (hvn:vn<=1000000000) (h4:K.aP x.nd x.l x.s x.r v=true->v.length<=4) :
  Calls Tryz.prog 81 #[.agg #[.int .i64 x.nd,.slice x.A x.n x.c],.agg #[.int .i64 x.s.day,.int .i64 x.s.ag,.int .i64 x.s.start,.int .i64 x.s.end_,.int .i64 x.s.aj,.slice x.s.A x.s.n x.s.c],.slice x.B x.m x.d,.slice V vn vc] w λe w'=>Ub w w' (K.gG x.nd x.l x.s x.r v) e:=by
 obtain ⟨w0,hw0⟩:=zB (((w.alloc (.cells #[.int .i64 x.nd,.slice x.A x.n x.c] 24)).alloc (.cells #[.int .i64 x.s.day,.int .i64 x.s.ag,.int .i64 x.s.start,.int .i64 x.s.end_,.int .i64 x.s.aj,.slice x.s.A x.s.n x.s.c] 63)).alloc (.cells #[.int .i64 0,.slice none 0 0,.slice none 0 0,.int .i64 0] 80));have b0:Below w.heap.size w w0:=by rw [hw0];exact bel (bel ((Below.refl _ _).alloc (zG _) _) ((Below.refl _ _).alloc (zG _) _)) ((Below.refl _ _).alloc (zG _) _)
 have z1:=World.size_alloc w (.cells #[.int .i64 x.nd,.slice x.A x.n x.c] 24);have z2:=World.size_alloc (w.alloc (.cells #[.int .i64 x.nd,.slice x.A x.n x.c] 24)) (.cells #[.int .i64 x.s.day,.int .i64 x.s.ag,.int .i64 x.s.start,.int .i64 x.s.end_,.int .i64 x.s.aj,.slice x.s.A x.s.n x.s.c] 63);have hR:jg w0 (w.heap.size + 1 + 1) (.slice none 0 0) (.slice none 0 0) 0:=by rw [hw0];exact bI _ _ _ (by rw [z2,z1])
 have hS:aT w0 (w.heap.size + 1) x.s:=by
  have h:=(aT.new (w.alloc (.cells #[.int .i64 x.nd,.slice x.A x.n x.c] 24)) x.s).below ((Below.refl _ _).alloc (zG _) (.cells #[.int .i64 0,.slice none 0 0,.slice none 0 0,.int .i64 0] 80));rw [z1] at h;rw [hw0];exact h
 have hN:Net w0 w.heap.size x.nd x.A x.n x.c:=by
  rw [hw0];exact (Net.new w x.nd x.A x.n x.c).below (bel ((Below.refl _ _).alloc (zG _) _) ((Below.refl _ _).alloc (zG _) _))
 have p0:=hN.c0;have p1:=hN.c1;obtain ⟨s0,s1,s2,s3,s4,s5⟩:=hS.cells;rw [hw0] at p0 p1 s0 s1 s2 s3 s4 s5;go_enter Tryz.func81,Tryz.ntmps81;go_wp2_with fail;rw [<-hw0];refine (Kq x V vn vc v _ (hx.below b0) (hV.below b0) hvn).mono ?_;obtain ⟨okb,jQ⟩:=zB (K.aP x.nd x.l x.s x.r v);rw [<-jQ];rintro e w1 ⟨rfl,b1⟩;have hb:=bel b0 b1;have hsz:=b0.size;have hR0:=lt_of_block hR;have hR1:=hR.below b1 hR0;have hS1:=hS.below b1;have hN1:=hN.below b1;have hsz1:=b1.size;clear p0 p1 s0 s1 s2 s3 s4 s5 hw0 z1 z2 hR hS hN b0 b1;cases okb
 ·have HX:=zC (K.UZ jQ.symm);clear jQ h4;obtain ⟨r0,r1,r2,r3⟩:=hR1.cells;have f0:=hR1.free 0;have f1:=hR1.free 1;have f2:=hR1.free 2;have f3:=hR1.free 3;go_wp2_with fail;refine bodyPost_ret_by (v:=.tuple #[.agg #[.int .i64 0,.slice none 0 0,.slice none 0 0,.int .i64 0],.int .i64 1]) ?_ rfl ?_
  ·obtain ⟨z0,z1,z2,z3⟩:=(hR1.set (.slice none 0 0) (.slice none 0 0) 0).cells;rw [results_cell_tmp rfl];simp [go_sem,z0,z1,z2,z3]
  ·exact aaY HX.out (jM hb (by omega) _ _ _ _)
 have hok:=jQ.symm;have hv4:=h4 hok;have kR:=zC hV.1;have afO:vn<=4:=by rw [hV.1];exact hv4
 have TF:=zC (K.ahR (nd:=x.nd) (l:=x.l) (s:=x.s) (r:=x.r) hok hv4);have HFW:=zC (K.aht hok hv4);have aJ:=zC hok;clear hok jQ h4 hv4;obtain ⟨i0,hi,hz0,hz1,hz2⟩:=info_parts Tryz.info3;obtain ⟨w2,hw2⟩:=zB (w1.alloc (.cells #[.int .i64 0,.slice none 0 0,.slice none 0 0,.int .i64 0] 80));obtain ⟨g,hg⟩:=zB w1.heap.size;have b12:=zA hw2;have hB2:xE w2 g none:=⟨none,0,0,none,0,0,by rw [hw2,hg];exact heap_alloc_new _ _,gK _,gK _,λ_ e=>(nomatch e),λ_ e=>(nomatch e)⟩;have hz2':w2.heap.size=w1.heap.size + 1:=by rw [hw2];exact World.size_alloc _ _
 have gZ:(w2.alloc (.cells #[] 3)).ownsRow w2.heap.size 3 1 (.slice (some ⟨w2.heap.size,0,none⟩) 0 0) 0 []:=mM (heap_alloc_new w2 (.cells #[] 3)) (zG _);have ba:Below w2.heap.size w2 (w2.alloc (.cells #[] 3)):=(Below.refl _ _).alloc (zG _) _;have hb2:=bel hb b12;have aY:=hN1.below b12;have hS2:=hS1.below b12;have hR2:=hR1.below b12 (lt_of_block hR1);have hRg:w.heap.size + 1 + 1 < g:=by rw [hg];exact lt_of_block hR1
 have hgw:w.heap.size<=g:=by omega
 go_upto_region 5 with fail;rw [<-hw2,<-hg];have HZ2:=zC hz2';have HG:=zC hg;clear hw2 b12 hN1 hS1 hR1 hb hz2' hg;go_wp2_with (at_builtin;refine jW rfl (.tmp 25) (.tmp 26) 48 rfl w2.heap.size 3 i0 (.int .i64 0) 1 8 Tryz.underlying48 hi hz0 hz1 hz2 rfl (by decide) (.slice (some ⟨w2.heap.size,0,none⟩) 0 0) 0 [] rfl gZ V vn vc (intCells v) rfl (hV.below (bel hb2 ba)).2 (oU v) (by simp only [maxLen];omega) (by omega) (by first | (simp;done) | (simp;omega)) ?_;intro v' w3 hown3 hgrow3 OY;rw [Nat.zero_add,List.nil_append] at hown3;obtain ⟨A3,c3,rfl,yB,hc3,hO3⟩:=aac hown3 kR.out;have bH:Below w2.heap.size w2 w3:=a_ ba hgrow3 (zq (zG _));clear hown3 hgrow3 OY gZ ba);have acm:=zC (show 0 < vn->∀ ad,A3=some ad->g < ad.block from λh0 ad e=>by obtain ⟨ad',e',-,hb'⟩:=hO3 h0;rw [e'] at e;injection e with e;have:=HZ2.out;have:=HG.out;rw [<-e];omega);clear hO3;have hN3:=aY.below bH;have hS3:=hS2.below bH;have nD:=hR2.below bH (by rw [HZ2.out];omega);have hB3:=hB2.below bH;have hb3:=bel hb2 bH;have hg3:g < w3.heap.size:=by have:=bH.size;have:=HZ2.out;have:=HG.out;omega
 clear aY hS2 hR2 hB2 hb2 bH hi hz0 hz1 hz2 hsz hsz1;go_loopw [11,12,13] (λv11 v12 v13 wr=>∃ (b:Option K.Tr) (A:Option Addr) (c:Nat) (o:List Int) (mr:Bool),v11=.bool b.isSome/\v13=.bool mr/\(∃ n,v12=.slice A n c/\(mr=true->Ints wr A n o/\n<=c/\n<=4/\(0 < n->∀ ad,A=some ad->g < ad.block)))/\Hid (mr=true->K.pick x.nd x.l x.s x.r (K.orders 25 v) none=K.pick x.nd x.l x.s x.r (K.orders 25 o) b/\(K.orders 25 o).length<=24)/\Hid (mr=false->K.pick x.nd x.l x.s x.r (K.orders 25 v) none=b)/\xE wr g b/\w3.grownBy wr (some g)) (λ_ v12 v13 wr=>leftOf wr v12 v13)
 case atStart=>exact ⟨none,A3,c3,v,true,rfl,rfl,⟨vn,rfl,λ_=>⟨yB,hc3,afO,acm.out⟩⟩,λ_=>⟨rfl,HFW.out⟩,λh=>(nomatch h),hB3,ni _ _⟩
 case round =>
  clear hB3;obtain ⟨b,A,c,o,mr,rfl,rfl,⟨n,rfl,yC⟩,hpk,hend,hBr,hgr⟩:=hrel;have hbr:Below w.heap.size w wr:=a_ hb3 hgr (λg' e=>by injection e with e;omega);have iD:Net wr w.heap.size x.nd x.A x.n x.c:=eX hgr hN3 (λe=>by injection e with e;omega);have hSr:aT wr (w.heap.size + 1) x.s:=eX hgr hS3 (λe=>by injection e with e;omega);have hRr:jg wr (w.heap.size + 1 + 1) (.slice none 0 0) (.slice none 0 0) 0:=eX hgr nD (λe=>by injection e with e;omega);have akw:g < wr.heap.size:=Nat.lt_of_lt_of_le hg3 hgr.size;cases mr
  ·have HE:=zC (hend.out rfl);clear yC hpk hend iD hSr;obtain ⟨A0,n0,c0,A1,n1,c1,hT,hI,hJ,hA,hA'⟩:=hBr;obtain ⟨r0,r1,r2,r3⟩:=hRr.cells;have f0:=hRr.free 0;have f1:=hRr.free 1;have f2:=hRr.free 2;have f3:=hRr.free 3;cases b with
   | none =>
    have HX:=zC (K.Ns aJ.out (TF.out.symm.trans HE.out));go_wp2_with fail;refine bodyPost_ret_by (v:=.tuple #[.agg #[.int .i64 0,.slice none 0 0,.slice none 0 0,.int .i64 0],.int .i64 4]) ?_ rfl ?_
    ·obtain ⟨z0,z1,z2,z3⟩:=(hRr.set (.slice none 0 0) (.slice none 0 0) 0).cells;rw [results_cell_tmp rfl];simp [go_sem,z0,z1,z2,z3]
    ·exact aaY HX.out (jM hbr (by omega) _ _ _ _)
   | some bt =>
    have HX:=zC (K.Ht aJ.out (TF.out.symm.trans HE.out));have hT:jg wr g (.slice A0 n0 c0) (.slice A1 n1 c1) bt.end_:=hT;have hI:Ints wr A0 n0 bt.stops:=hI;have hJ:Ints wr A1 n1 bt.times:=hJ;obtain ⟨t0,t1,t2,t3⟩:=hT.cells;go_wp2_with fail;refine bodyPost_ret_by (v:=.tuple #[.agg #[.int .i64 0,.slice A0 n0 c0,.slice A1 n1 c1,.int .i64 bt.end_],.int .i64 0]) ?_ rfl ?_
    ·obtain ⟨z0,z1,z2,z3⟩:=(hRr.set (.slice A0 n0 c0) (.slice A1 n1 c1) bt.end_).cells;rw [results_cell_tmp rfl];simp [go_sem,z0,z1,z2,z3]
    ·rw [HX.out];have hne1:∀ ad,A0=some ad->ad.block ≠ w.heap.size + 1 + 1:=λad e=>by have:=hA ad e;omega
     have hne2:∀ ad,A1=some ad->ad.block ≠ w.heap.size + 1 + 1:=λad e=>by have:=hA' ad e;omega
     exact ⟨⟨A0,n0,c0,A1,n1,c1,rfl,(((hI.set _ hne1).set _ hne1).set _ hne1).set _ hne1,(((hJ.set _ hne2).set _ hne2).set _ hne2).set _ hne2,λad e=>(by have:=hA ad e;omega),λad e=>(by have:=hA' ad e;omega)⟩,jM hbr (by omega) _ _ _ _⟩
  ·obtain ⟨hI,hnc,hn4,WR⟩:=yC rfl;have TE:=zC WR;clear WR;obtain ⟨hpk,hlen⟩:=hpk.out rfl;have vM:=zC hpk;have n_:=zC hI;have HLEN:=zC hlen;clear hend yC hpk hlen;have p0:=iD.c0;have p1:=iD.c1;obtain ⟨s0,s1,s2,s3,s4,s5⟩:=hSr.cells;go_wp2_with fail;clear p0 p1 s0 s1 s2 s3 s4 s5 hRr iD hSr;refine (abt x A n c o wr (hx.below hbr) hI hnc (by omega)).mono ?_;obtain ⟨R,hR⟩:=zB (K.run x.nd x.l x.s x.r o);rw [<-hR];have HR:=zC hR;clear hR;rintro e w4 ⟨⟨A0,n0,c0,A1,n1,c1,rfl,hI0,hI1,hA0,hA1⟩,b4⟩;obtain ⟨w5,hw5⟩:=zB (w4.alloc (.cells #[.int .i64 0,.slice A0 n0 c0,.slice A1 n1 c1,.int .i64 R.aI.end_] 80));obtain ⟨G,hG⟩:=zB w4.heap.size;have b5:Below wr.heap.size wr w5:=by rw [hw5];exact bel b4 ((Below.refl _ _).alloc (zG _) _)
   have dA:jg w5 G (.slice A0 n0 c0) (.slice A1 n1 c1) R.aI.end_:=by rw [hw5,hG];exact heap_alloc_new _ _
   have h45:=zA hw5;have AO:=hI0.below h45;have p_:=hI1.below h45;have dF:=hBr.below b5;have hgr5:=fM hgr b5;have wP:=hI.below b5;have hb5:=bel hbr b5;have hG1:g < G:=by have:=b4.size;omega
   have Iq:∀ ad,A0=some ad->g < ad.block:=λad e=>by have:=hA0 ad e;omega
   have Ir:∀ ad,A1=some ad->g < ad.block:=λad e=>by have:=hA1 ad e;omega
   clear hI0 hI1 hA0 hA1 hBr hgr hI hbr b4 b5 h45;go_upto_region 9 with fail;rw [<-hw5,<-hG];clear hw5 hG;by_cases he:R.e=0
   ·have Ee:(R.e == 0)=true:=by rw [he];rfl
    have Ef:decide (R.e=0)=true:=by simp [he]
    cases b with
    | none =>
     have HST:=zC (λos=>K.aaq (os:=os) (b:=none) (HR.out ▸ he) (HR.out ▸ (rfl:K.better none R.aI.end_=true)));rw [<-HR.out] at HST;have aX:Below w5.heap.size w5 w5:=Below.refl _ _;have dR:=dA.below aX (lt_of_block dA);obtain ⟨A9,n9,c9,A8,n8,c8,jl,-⟩:=dF.below aX;have fD:=fM hgr5 aX;have wL:=AO.below aX;have wM:=p_.below aX;have uo:=wP.below aX;clear aX dF hgr5 wP dA AO p_;obtain ⟨t0,t1,t2,t3⟩:=dR.cells;obtain ⟨d0,d1,d2,d3⟩:=jl.cells;have f0:=jl.free 0;have f1:=jl.free 1;have f2:=jl.free 2;have f3:=jl.free 3;obtain ⟨w7,hw7⟩:=zB ((((w5.setCell ⟨g,0,none⟩ (.int .i64 0)).setCell ⟨g,1,none⟩ (.slice A0 n0 c0)).setCell ⟨g,2,none⟩ (.slice A1 n1 c1)).setCell ⟨g,3,none⟩ (.int .i64 R.aI.end_));have hne1:∀ ad,A0=some ad->ad.block ≠ g:=λad e=>by have:=Iq ad e;omega
     have hne2:∀ ad,A1=some ad->ad.block ≠ g:=λad e=>by have:=Ir ad e;omega
     have jD:xE w7 g (some R.aI):=by
      rw [hw7];exact ⟨A0,n0,c0,A1,n1,c1,jl.set _ _ _,(((wL.set _ hne1).set _ hne1).set _ hne1).set _ hne1,(((wM.set _ hne2).set _ hne2).set _ hne2).set _ hne2,Iq,Ir⟩
     have fE:w3.grownBy w7 (some g):=by rw [hw7];exact kU (kU (kU (kU fD _ _ _ rfl) _ _ _ rfl) _ _ _ rfl) _ _ _ rfl
     have Ol:Ints w7 A n o:=by
      rw [hw7];have uG:0 < n->∀ ad,A=some ad->ad.block ≠ g:=λh0 ad e=>by have:=TE.out h0 ad e;omega
      exact (((uo.set0 _ uG).set0 _ uG).set0 _ uG).set0 _ uG
     clear wL wM hne1 hne2 jl fD uo;go_upto_region 11 with fail;rw [<-hw7];clear hw7 d0 d1 d2 d3 t0 t1 t2 t3 f0 f1 f2 f3 dR Ee Ef;go_wp2_with fail;refine (next_any A n c o w7 Ol (by omega)).mono ?_;obtain ⟨nx,hnx⟩:=zB (K.jG o);rw [<-hnx];rintro e w8 ⟨hret,b7⟩;have B7:=jD.below b7;have g7:=fM fE b7;rcases hret with ⟨h1,rfl⟩ | ⟨o',A',n',c',h1,hnc',rfl,hI',hA'⟩
     ·have HE:=zC (show K.pick x.nd x.l x.s x.r (K.orders 25 v) none=(some R.aI) by rw [vM.out,K.JR (hnx.symm.trans h1),HST.out];rfl);clear hnx h1 jD fE;go_wp2_with fail;go_roundw
      case rel=>exact ⟨(some R.aI),none,0,[],false,rfl,rfl,⟨0,rfl,λh=>(nomatch h)⟩,λh=>(nomatch h),λ_=>HE.out,B7,g7⟩
      case measure=>rw [JB,oV n_.out];omega
     ·obtain ⟨k1,k2⟩:=K.JS (hnx.symm.trans h1) HLEN.out;have xP:=zC (show K.pick x.nd x.l x.s x.r (K.orders 25 v) none=K.pick x.nd x.l x.s x.r (K.orders 25 o') (some R.aI) by rw [vM.out,k1,HST.out]);have xK:=zC (Nat.lt_of_lt_of_le hg3 fE.size);have aK:=zC (show (K.orders 25 o').length<=24 by have:=HLEN.out;omega);have xN:=zC k2;have hn':n'<=4:=by have h2:=K.JJ (hnx.symm.trans h1);have h3:=hI'.1;have h4:=n_.out.1;omega
      clear hnx h1 k1 k2 jD fE;go_wp2_with fail;go_roundw
      case rel=>exact ⟨(some R.aI),A',c',o',true,rfl,rfl,⟨n',rfl,λ_=>⟨hI',hnc',hn',λ_ ad e=>Nat.lt_of_lt_of_le xK.out (hA' ad e)⟩⟩,λ_=>⟨xP.out,aK.out⟩,λh=>(nomatch h),B7,g7⟩
      case measure=>rw [oV hI',oV n_.out];have:=xN.out;omega
    | some bt =>
     have Iw:=dF;obtain ⟨A6,n6,c6,A7,n7,c7,wK,-⟩:=Iw;have wK:jg w5 g (.slice A6 n6 c6) (.slice A7 n7 c7) bt.end_:=wK;have q3:=wK.cells.2.2.2;have r3:=dA.cells.2.2.2;by_cases hlt:R.aI.end_ < bt.end_
     ·have hd:decide (R.aI.end_ < bt.end_)=true:=zH hlt;have HST:=zC (λos=>K.aaq (os:=os) (b:=(some bt)) (HR.out ▸ he) (HR.out ▸ (zH hlt:K.better (some bt) R.aI.end_=true)));rw [<-HR.out] at HST;have aX:Below w5.heap.size w5 w5:=Below.refl _ _;have dR:=dA.below aX (lt_of_block dA);obtain ⟨A9,n9,c9,A8,n8,c8,jl,-⟩:=dF.below aX;have fD:=fM hgr5 aX;have wL:=AO.below aX;have wM:=p_.below aX;have uo:=wP.below aX;clear aX dF hgr5 wP dA AO p_;obtain ⟨t0,t1,t2,t3⟩:=dR.cells;obtain ⟨d0,d1,d2,d3⟩:=jl.cells;have f0:=jl.free 0;have f1:=jl.free 1;have f2:=jl.free 2;have f3:=jl.free 3;obtain ⟨w7,hw7⟩:=zB ((((w5.setCell ⟨g,0,none⟩ (.int .i64 0)).setCell ⟨g,1,none⟩ (.slice A0 n0 c0)).setCell ⟨g,2,none⟩ (.slice A1 n1 c1)).setCell ⟨g,3,none⟩ (.int .i64 R.aI.end_));have hne1:∀ ad,A0=some ad->ad.block ≠ g:=λad e=>by have:=Iq ad e;omega
      have hne2:∀ ad,A1=some ad->ad.block ≠ g:=λad e=>by have:=Ir ad e;omega
      have jD:xE w7 g (some R.aI):=by
       rw [hw7];exact ⟨A0,n0,c0,A1,n1,c1,jl.set _ _ _,(((wL.set _ hne1).set _ hne1).set _ hne1).set _ hne1,(((wM.set _ hne2).set _ hne2).set _ hne2).set _ hne2,Iq,Ir⟩
      have fE:w3.grownBy w7 (some g):=by rw [hw7];exact kU (kU (kU (kU fD _ _ _ rfl) _ _ _ rfl) _ _ _ rfl) _ _ _ rfl
      have Ol:Ints w7 A n o:=by
       rw [hw7];have uG:0 < n->∀ ad,A=some ad->ad.block ≠ g:=λh0 ad e=>by have:=TE.out h0 ad e;omega
       exact (((uo.set0 _ uG).set0 _ uG).set0 _ uG).set0 _ uG
      clear wL wM hne1 hne2 jl fD uo;go_upto_region 11 with fail;rw [<-hw7];clear hw7 d0 d1 d2 d3 t0 t1 t2 t3 f0 f1 f2 f3 dR Ee Ef hd wK q3 r3;go_wp2_with fail;refine (next_any A n c o w7 Ol (by omega)).mono ?_;obtain ⟨nx,hnx⟩:=zB (K.jG o);rw [<-hnx];rintro e w8 ⟨hret,b7⟩;have B7:=jD.below b7;have g7:=fM fE b7;rcases hret with ⟨h1,rfl⟩ | ⟨o',A',n',c',h1,hnc',rfl,hI',hA'⟩
      ·have HE:=zC (show K.pick x.nd x.l x.s x.r (K.orders 25 v) none=(some R.aI) by rw [vM.out,K.JR (hnx.symm.trans h1),HST.out];rfl);clear hnx h1 jD fE;go_wp2_with fail;go_roundw
       case rel=>exact ⟨(some R.aI),none,0,[],false,rfl,rfl,⟨0,rfl,λh=>(nomatch h)⟩,λh=>(nomatch h),λ_=>HE.out,B7,g7⟩
       case measure=>rw [JB,oV n_.out];omega
      ·obtain ⟨k1,k2⟩:=K.JS (hnx.symm.trans h1) HLEN.out;have xP:=zC (show K.pick x.nd x.l x.s x.r (K.orders 25 v) none=K.pick x.nd x.l x.s x.r (K.orders 25 o') (some R.aI) by rw [vM.out,k1,HST.out]);have xK:=zC (Nat.lt_of_lt_of_le hg3 fE.size);have aK:=zC (show (K.orders 25 o').length<=24 by have:=HLEN.out;omega);have xN:=zC k2;have hn':n'<=4:=by have h2:=K.JJ (hnx.symm.trans h1);have h3:=hI'.1;have h4:=n_.out.1;omega
       clear hnx h1 k1 k2 jD fE;go_wp2_with fail;go_roundw
       case rel=>exact ⟨(some R.aI),A',c',o',true,rfl,rfl,⟨n',rfl,λ_=>⟨hI',hnc',hn',λ_ ad e=>Nat.lt_of_lt_of_le xK.out (hA' ad e)⟩⟩,λ_=>⟨xP.out,aK.out⟩,λh=>(nomatch h),B7,g7⟩
       case measure=>rw [oV hI',oV n_.out];have:=xN.out;omega
     ·have hd:decide (R.aI.end_ < bt.end_)=false:=zI hlt;have HST:=zC (λos=>K.aap (os:=os) (b:=(some bt)) (HR.out ▸ (λh=>hlt (of_decide_eq_true h.2):¬ (R.e=0/\K.better (some bt) R.aI.end_=true))));go_wp2_with fail;have aX:Below w5.heap.size w5 w5:=Below.refl _ _;have fP:=dF.below aX;have fD:=fM hgr5 aX;have uo:=wP.below aX;clear aX dF hgr5 wP dA AO p_ Ee Ef hd wK q3 r3;go_wp2_with fail;refine (next_any A n c o w5 uo (by omega)).mono ?_;obtain ⟨nx,hnx⟩:=zB (K.jG o);rw [<-hnx];rintro e w7 ⟨hret,b7⟩;have B7:=fP.below b7;have g7:=fM fD b7;rcases hret with ⟨h1,rfl⟩ | ⟨o',A',n',c',h1,hnc',rfl,hI',hA'⟩
      ·have HE:=zC (show K.pick x.nd x.l x.s x.r (K.orders 25 v) none=(some bt) by rw [vM.out,K.JR (hnx.symm.trans h1),HST.out];rfl);clear hnx h1 fP fD;go_wp2_with fail;go_roundw
       case rel=>exact ⟨(some bt),none,0,[],false,rfl,rfl,⟨0,rfl,λh=>(nomatch h)⟩,λh=>(nomatch h),λ_=>HE.out,B7,g7⟩
       case measure=>rw [JB,oV n_.out];omega
      ·obtain ⟨k1,k2⟩:=K.JS (hnx.symm.trans h1) HLEN.out;have xP:=zC (show K.pick x.nd x.l x.s x.r (K.orders 25 v) none=K.pick x.nd x.l x.s x.r (K.orders 25 o') (some bt) by rw [vM.out,k1,HST.out]);have xK:=zC (Nat.lt_of_lt_of_le hg3 fD.size);have aK:=zC (show (K.orders 25 o').length<=24 by have:=HLEN.out;omega);have xN:=zC k2;have hn':n'<=4:=by have h2:=K.JJ (hnx.symm.trans h1);have h3:=hI'.1;have h4:=n_.out.1;omega
       clear hnx h1 k1 k2 fP fD;go_wp2_with fail;go_roundw
       case rel=>exact ⟨(some bt),A',c',o',true,rfl,rfl,⟨n',rfl,λ_=>⟨hI',hnc',hn',λ_ ad e=>Nat.lt_of_lt_of_le xK.out (hA' ad e)⟩⟩,λ_=>⟨xP.out,aK.out⟩,λh=>(nomatch h),B7,g7⟩
       case measure=>rw [oV hI',oV n_.out];have:=xN.out;omega
   ·have Ee:(R.e == 0)=false:=by simp [he]
    have Ef:decide (R.e=0)=false:=by simp [he]
    have HST:=zC (λos=>K.aap (os:=os) (b:=b) (HR.out ▸ (λh=>he h.1:¬ (R.e=0/\K.better b R.aI.end_=true))));go_wp2_with fail;have aX:Below w5.heap.size w5 w5:=Below.refl _ _;have fP:=dF.below aX;have fD:=fM hgr5 aX;have uo:=wP.below aX;clear aX dF hgr5 wP dA AO p_ Ee Ef;go_wp2_with fail;refine (next_any A n c o w5 uo (by omega)).mono ?_;obtain ⟨nx,hnx⟩:=zB (K.jG o);rw [<-hnx];rintro e w7 ⟨hret,b7⟩;have B7:=fP.below b7;have g7:=fM fD b7;rcases hret with ⟨h1,rfl⟩ | ⟨o',A',n',c',h1,hnc',rfl,hI',hA'⟩
    ·have HE:=zC (show K.pick x.nd x.l x.s x.r (K.orders 25 v) none=b by rw [vM.out,K.JR (hnx.symm.trans h1),HST.out];rfl);clear hnx h1 fP fD;go_wp2_with fail;go_roundw
     case rel=>exact ⟨b,none,0,[],false,rfl,rfl,⟨0,rfl,λh=>(nomatch h)⟩,λh=>(nomatch h),λ_=>HE.out,B7,g7⟩
     case measure=>rw [JB,oV n_.out];omega
    ·obtain ⟨k1,k2⟩:=K.JS (hnx.symm.trans h1) HLEN.out;have xP:=zC (show K.pick x.nd x.l x.s x.r (K.orders 25 v) none=K.pick x.nd x.l x.s x.r (K.orders 25 o') b by rw [vM.out,k1,HST.out]);have xK:=zC (Nat.lt_of_lt_of_le hg3 fD.size);have aK:=zC (show (K.orders 25 o').length<=24 by have:=HLEN.out;omega);have xN:=zC k2;have hn':n'<=4:=by have h2:=K.JJ (hnx.symm.trans h1);have h3:=hI'.1;have h4:=n_.out.1;omega
     clear hnx h1 k1 k2 fP fD;go_wp2_with fail;go_roundw
     case rel=>exact ⟨b,A',c',o',true,rfl,rfl,⟨n',rfl,λ_=>⟨hI',hnc',hn',λ_ ad e=>Nat.lt_of_lt_of_le xK.out (hA' ad e)⟩⟩,λ_=>⟨xP.out,aK.out⟩,λh=>(nomatch h),B7,g7⟩
     case measure=>rw [oV hI',oV n_.out];have:=xN.out;omega
theorem Tryz.underlying109k:Tryz.prog.underlying 109=some (.slice 4):=by kernel_rfl
theorem Tryz.underlying103k:Tryz.prog.underlying 103=some (.slice 111):=by kernel_rfl
theorem Tryz.info4k:(Tryz.prog.info? 4).map (λi=>(i.zero,i.size,i.bytes))=some (some (.bool false),1,1):=by kernel_rfl
theorem Tryz.info111k:(Tryz.prog.info? 111).map (λi=>(i.zero,i.size,i.bytes))=some (some (.agg #[.slice none 0 0,.slice none 0 0]),2,48):=by kernel_rfl
theorem K.aaz {n:Nat} (h:n<=4):2 ^ n<=16:=Nat.pow_le_pow_right (by decide) h
theorem K.ah5 (n:Nat):1<=2 ^ n:=Nat.one_le_two_pow
theorem K.ahJ (k n:Nat):(K.part (K.iota k) n).length<=k:=by
 have:=K.nN (K.iota k) n;rwa [K.Jz] at this
theorem K.ahI (k n:Nat):K.part (K.iota (k + 1)) n=K.part (K.iota k) n ++ if n.testBit k=true then [(k:Int)] else []:=by rw [K.YS,K.BO,K.Jz]
theorem acW (y:BB):∀ u ∈ y.cells,u.oneCell'=true:=λu hu=>by
 simp [BB.cells] at hu;rcases hu with rfl | rfl <;> rfl
theorem ac4 (x:Cs) (w:World) (hx:bF w x) (hm4:x.m<=4) (qC:x.sn<=4) :
  Calls Tryz.prog 70 #[.agg #[.int .i64 x.nd,.slice x.A x.n x.c],.slice x.SA x.sn x.sc,.slice x.B x.m x.d] w λe w'=>acy x w w' e:=by
 obtain ⟨w1,hw1⟩:=zB (w.alloc (.cells #[.int .i64 x.nd,.slice x.A x.n x.c] 24));have hN1:Net w1 w.heap.size x.nd x.A x.n x.c:=by rw [hw1];exact Net.new w x.nd x.A x.n x.c
 have hb1:=zA hw1;obtain ⟨G0,hG0⟩:=zB w.heap.size;rw [<-hG0] at hN1;have bf:=zC hx.shifts.1.1;have aO:=zC hx.aN.1;obtain ⟨PW,DU⟩:∃ p,p=2 ^ x.m:=⟨_,rfl⟩;have akK:PW<=16:=by rw [DU];exact K.aaz hm4
 have hp1:1<=PW:=by rw [DU];exact K.ah5 _
 have HPW:=zC DU;have kD:=zC (show 2 ^ x.r.length=PW by rw [<-aO.out];exact DU.symm);clear DU;obtain ⟨B1,hB1⟩:=zB w1.heap.size;have HB1:=zC hB1;go_enter Tryz.func70,Tryz.ntmps70;go_wp2_with fail;rw [<-hw1,<-hG0];clear hw1 hG0;go_loopw [7,8] (λv7 v8 wr=>∃ (s:Nat) (L:List BB),v8=.int .i64 s/\s<=x.sn/\qL wr B1 v7 L/\Hid (L.length=s)/\Hid (Cj x PW L)/\Below w1.heap.size w1 wr) (λ_ v8 _=>x.sn - (intOf v8).toNat)
 case atStart=>exact ⟨0,[],rfl,Nat.zero_le _,qL.nil _ _,rfl,λk y s h=>(by cases h),Below.refl _ _⟩
 case round =>
  obtain ⟨s,L,rfl,hs,hR,WG,kW,hbr⟩:=hrel;obtain ⟨ws,hws⟩:=zB wr;rw [<-hws] at hR hbr;rw [<-hws];clear hws;by_cases hlt:s < x.sn;rotate_left
  ·have hd:decide ((s:Int) < (x.sn:Int))=false:=zI (by omega);have hd2:decide (s < x.sn)=false:=zI hlt;obtain ⟨EA,ec,rfl,jO,hfr⟩:=dh hR.row;have HLS:=zC (show L.length=x.sn by rw [WG.out];omega);go_wp2_with fail;go_ret;exact ⟨⟨EA,_,ec,L,rfl,⟨rfl,jO⟩,HLS.out,hR.has,λy hy g e=>Nat.le_trans hb1.size (by rw [<-HB1.out];exact (hR.off y hy g e).1),by rw [kD.out];exact kW.out⟩,bel hb1 hbr⟩
  have i0:(0:Int)<=(s:Int):=by omega
  have i1:(s:Int) < (x.sn:Int):=by omega
  have d0:decide ((s:Int) < (x.sn:Int))=true:=zH i1;have d0':decide (s < x.sn)=true:=zH hlt;have hbs:=bel hb1 hbr;have hNs:=hN1.below hbr;have hxs:=hx.below hbs;obtain ⟨au,sS,gq,hsS,qf,s0,s1,s2,s3,s4,s5⟩:=hxs.shifts.at_ hlt;have dW:=zC hsS;have mW:=zC (zD hsS);have pK:=zC gq;obtain ⟨BS,hBS⟩:=zB ws.heap.size;obtain ⟨w5,hw5⟩:=zB (((ws.alloc (.cells #[.int .i64 0,.slice none 0 0,.slice none 0 0,.int .i64 0] 80)).alloc (.cells #[.bool true] 4)).alloc (.cells #[.slice (some ⟨BS,0,none⟩) 1 1,.slice (some ⟨BS + 1,0,none⟩) 1 1] 111));have b5:Below ws.heap.size ws w5:=by rw [hw5];exact bel (bel ((Below.refl _ _).alloc (zG _) _) ((Below.refl _ _).alloc (zG _) _)) ((Below.refl _ _).alloc (zG _) _)
  have z1:=World.size_alloc ws (.cells #[.int .i64 0,.slice none 0 0,.slice none 0 0,.int .i64 0] 80);have z2:=World.size_alloc (ws.alloc (.cells #[.int .i64 0,.slice none 0 0,.slice none 0 0,.int .i64 0] 80)) (.cells #[.bool true] 4);have hb0:w5.heap[BS]? = some (.cells #[.int .i64 0,.slice none 0 0,.slice none 0 0,.int .i64 0] 80 (0,0)):=by rw [hw5,hBS];exact bu (bu (heap_alloc_new ws _) _) _
  have hb1':w5.heap[BS + 1]? = some (.cells #[.bool true] 4 (0,0)):=by rw [hw5,hBS];exact bu (bI _ _ _ (by rw [z1])) _
  have hb2:w5.heap[BS + 1 + 1]? = some (.cells #[.slice (some ⟨BS,0,none⟩) 1 1,.slice (some ⟨BS + 1,0,none⟩) 1 1] 111 (0,0)):=by rw [hw5,hBS];exact bI _ _ _ (by rw [z2,z1])
  obtain ⟨gb,hgb⟩:=zB (BS + 1 + 1);have hSt:lu w5 BS gb (.slice (some ⟨BS,0,none⟩) 1 1) (.slice (some ⟨BS + 1,0,none⟩) 1 1) [⟨0,none,0,0,none,0,0,K.Tr.zero⟩] [true]:=by
   refine ⟨by rw [hgb];exact hb2,by omega,⟨rfl,.inr ⟨BS,1,_,rfl,zG _,hb0,zG _,by simp [maxLen],rfl,rfl⟩⟩,⟨rfl,.inr ⟨BS + 1,1,_,rfl,by omega,hb1',zG _,by simp [maxLen],rfl,rfl⟩⟩,λg e e2=>?_,λe=>?_,λe=>?_,λy hy=>?_,λy hy g e=>?_⟩
   ·injection e with e;injection e2 with e2;dsimp only at e e2;omega
   ·injection e with e;dsimp only at e;omega
   ·injection e with e;dsimp only at e;omega
   ·rw [List.mem_singleton.1 hy];exact ⟨gK _,gK _⟩
   ·rw [List.mem_singleton.1 hy] at e;rcases e with ⟨h0,-⟩ | ⟨h0,-⟩ <;> exact absurd h0 (Nat.lt_irrefl 0)
  clear z1 z2 hb0 hb1' hb2 qf hsS gq;go_upto_region 6 with fail;rw [<-hBS,<-hgb,<-hw5];have kP:=zC hBS;clear hw5 hgb d0 d0' hBS;have hpw:IntKind.i64.wrap ((2:Int) ^ x.m)=(PW:Int):=by rw [pz (by omega),HPW.out];push_cast;rfl
  have akL:wrap64 ((2:Int) ^ x.m)=(PW:Int):=by rw [<-IntWalk.i64_left];exact hpw
  have Ji:(x.m:Int) < 64:=by omega
  go_wp2_with fail;go_loopw [10] (λv10 wr=>∃ (n:Nat) (ts:List TV) (ok:List Bool) (vT vO:Value),v10=.int .i64 n/\1<=n/\n<=PW/\lu wr BS gb vT vO ts ok/\Hid (mO x.nd x.l sS x.r s n ts ok)/\Below ws.heap.size ws wr) (λv10 _=>PW - (intOf v10).toNat)
  case atStart=>exact ⟨1,_,_,_,_,rfl,zG _,hp1,hSt,mO.one _ _ _ _ _,b5⟩
  case round =>
   clear hSt b5;obtain ⟨n,ts,ok,vT,vO,rfl,hn1,hnP,hSt,D6,hbn⟩:=hrel;obtain ⟨wn,hwn⟩:=zB wr;rw [<-hwn] at hSt hbn;rw [<-hwn];clear hwn;have pM:=zC D6.out.len.1;have lC:=zC D6.out.len.2;have hmk:∀ w',Below ws.heap.size ws w'->(λw':World=>w'.cell? ⟨G0,0,none⟩=some (.int .i64 x.nd)/\w'.cell? ⟨G0,1,none⟩=some (.slice x.A x.n x.c)/\w'.cell? (au.add (s * 6))=some (.int .i64 sS.day)/\w'.cell? ⟨(au.add (s * 6)).block,(au.add (s * 6)).off + 1,none⟩=some (.int .i64 sS.ag)/\w'.cell? ⟨(au.add (s * 6)).block,(au.add (s * 6)).off + 2,none⟩=some (.int .i64 sS.start)/\w'.cell? ⟨(au.add (s * 6)).block,(au.add (s * 6)).off + 3,none⟩=some (.int .i64 sS.end_)/\w'.cell? ⟨(au.add (s * 6)).block,(au.add (s * 6)).off + 4,none⟩=some (.int .i64 sS.aj)/\w'.cell? ⟨(au.add (s * 6)).block,(au.add (s * 6)).off + 5,none⟩=some (.slice sS.A sS.n sS.c)) w':=λw' h=>by
    have mv:∀ {p:Addr} {v:Value},ws.cell? p=some v->w'.cell? p=some v:=λg=>(h.cell (cell_lt g)).trans g;exact ⟨mv hNs.c0,mv hNs.c1,mv s0,mv s1,mv s2,mv s3,mv s4,mv s5⟩
   have bC:=zC hmk;clear hmk;by_cases hnl:n < PW;rotate_left
   ·have hd:decide ((n:Int) < (PW:Int))=false:=zI (by omega);have hd2:decide (n < PW)=false:=zI hnl;have Ya:n=PW:=by omega
    rw [Ya] at D6;obtain ⟨TA,tc,OA,oc,rfl,rfl,hH,hU⟩:=hSt.done;obtain ⟨w6,hw6⟩:=zB (wn.alloc (.cells #[.slice TA ts.length tc,.slice OA ok.length oc] 111));obtain ⟨g6,jq⟩:=zB wn.heap.size;have b6:=zA hw6;have hL6:w6.heap[g6]? = some (.cells #[.slice TA ts.length tc,.slice OA ok.length oc] 111 (0,0)):=by rw [hw6,jq];exact heap_alloc_new _ _
    have q0:=af hSt.blk 0 _ rfl;have q1:=af hSt.blk 1 _ rfl;have eG:=(hR.below hbn).below b6;have ae1:=bel hbn b6;have hb6:=bel hbr ae1;have hz6:B1<=w6.heap.size:=by rw [HB1.out];exact hb6.size
    have yF:=WG.out;have akl:L.length<=1000000:=by omega
    have HLx:=zC yF;have hUo:∀ g,tV ⟨TA,ts.length,tc,ts,OA,ok.length,oc,ok⟩ g->B1<=g/\u7.ownBlock ≠ some g:=λg e=>by
     have h1:=hU g e;have h2:=hbr.size;have h3:=kP.out;refine ⟨by rw [HB1.out];omega,λe2=>?_⟩;have:=(bG hR.row g e2).2;omega
    obtain ⟨Qp,hi0,hy0,hy1,hy2⟩:=info_parts Tryz.info111k;have hSM:=kW.out.snoc (y:=⟨TA,ts.length,tc,ts,OA,ok.length,oc,ok⟩) (by rw [yF];exact dW.out) (by rw [yF];exact D6.out);have Gj:=zC hSM;clear Ya hSM yF;go_wp2_with (first
     | (at_builtin;rw [<-hw6,<-jq];refine jW rfl _ _ 103 rfl B1 111 Qp (.agg #[.slice none 0 0,.slice none 0 0]) 2 48 Tryz.underlying103k hi0 hy0 hy1 hy2 rfl (by decide) _ L.length (L.flatMap BB.cells) rfl eG.row (some ⟨g6,0,none⟩) 1 1 (BB.cells ⟨TA,ts.length,tc,ts,OA,ok.length,oc,ok⟩) rfl (Rd.of_block hL6 2 1 rfl) (acW _) (by simp only [maxLen];omega) (by omega) hz6 ?_;intro v' w9 b_ jE kZ)
     | fail)
    have yL:=eG.app (hH.below b6) hUo jE kZ (by rw [List.flatMap_append,List.flatMap_singleton];exact b_);have bU:Below w1.heap.size w1 w9:=a_ hb6 jE (λg e=>by rw [<-HB1.out];exact (bG eG.row g e).1);go_roundw
    case rel=>(go_light;exact ⟨s + 1,L ++ [(⟨TA,ts.length,tc,ts,OA,ok.length,oc,ok⟩:BB)],by go_num,hlt,yL,by show _=_;rw [List.length_append,HLx.out];rfl,Gj.out,bU⟩)
    case measure=>(go_light;simp [intOf];omega)
   have hd:decide ((n:Int) < (PW:Int))=true:=zH (by omega);have hd2:decide (n < PW)=true:=zH hnl;go_wp2_with fail;go_loopw [11,12] (λv11 v12 wr=>∃ k:Nat,v12=.int .i64 k/\k<=x.m/\wr.ownsRow wn.heap.size 3 1 v11 (K.part (K.iota k) n).length (intCells (K.part (K.iota k) n))/\Below wn.heap.size wn wr) (λ_ v12 _=>x.m - (intOf v12).toNat)
   case atStart=>exact ⟨0,rfl,Nat.zero_le _,World.ownsRow_nil _ _ _ _,Below.refl _ _⟩
   case round =>
    clear hd hd2;obtain ⟨k,rfl,hk,hown,hbk⟩:=hrel;have yF:=K.ahJ k n;obtain ⟨v,hv⟩:=zB (K.part (K.iota k) n);rw [<-hv] at hown yF;have HV:=zC hv;clear hv;by_cases hkm:k < x.m
    ·have k0:(0:Int)<=(k:Int):=by omega
     have k2:k + 1<=x.m:=hkm;have k3:(k:Int) < 64:=by omega
     have kd:decide ((k:Int) < (x.m:Int))=true:=zH (by omega);have qE:decide (k < x.m)=true:=zH hkm;have hb:=lI (m:=n) (k:=k) (by omega) (by omega);have TP:=zC (K.ahI k n);cases hbit:n.testBit k
     ·rw [hbit,if_neg (by decide)] at hb;have HE:=zC (show K.part (K.iota (k + 1)) n=v by rw [TP.out,hbit,HV.out];simp);clear hbit;go_wp2_with fail;go_roundw
      case rel=>(go_light;exact ⟨k + 1,by go_num,k2,by rw [HE.out];exact hown,hbk⟩)
      case measure=>(go_light;simp [intOf];omega)
     ·rw [hbit,if_pos rfl] at hb;have HE:=zC (show K.part (K.iota (k + 1)) n=v ++ [(k:Int)] by rw [TP.out,hbit,HV.out];simp);obtain ⟨g9,jE⟩:=zB wr.heap.size;obtain ⟨w6,hw6⟩:=zB (wr.alloc (.cells #[.int .i64 k] 3));have b6:Below wr.heap.size wr w6:=by rw [hw6];exact ry _ _
      have fP:w6.heap[g9]? = some (.cells #[.int .i64 k] 3 (0,0)):=by rw [hw6,jE];exact heap_alloc_new _ _
      have hown6:=own_below hown b6;have hb6:=bel hbk b6;have Pn:wn.heap.size<=w6.heap.size:=hb6.size;have hv6:v.length<=1000000:=by omega
      clear hbit;go_wp2_with (first
       | (at_builtin;rw [<-hw6,<-jE];refine rq rfl _ _ rfl wn.heap.size _ v.length v rfl hown6 g9 k rfl fP hv6 Pn ?_;intro v7 w7 fF uD _)
       | fail)
      have hb7:Below wn.heap.size wn w7:=a_ hb6 uD (λg e=>(bG hown6 g e).1);go_roundw
      case rel=>(go_light;exact ⟨k + 1,by go_num,k2,by rw [HE.out,List.length_append];exact fF,hb7⟩)
      case measure=>(go_light;simp [intOf];omega)
    have kd:decide ((k:Int) < (x.m:Int))=false:=zI (by omega);have qE:decide (k < x.m)=false:=zI hkm;have wW:k=x.m:=by omega
    have HV2:=zC (show v=K.part (K.iota x.r.length) n by rw [HV.out,wW,aO.out]);obtain ⟨V,vc,rfl,Xp,hVn⟩:=dh hown;have IX:Ints wr V v.length v:=⟨rfl,Xp⟩;obtain ⟨vn,Qg⟩:=zB v.length;rw [<-Qg] at IX yF ⊢;have kR:=zC Qg;clear wW Qg Xp hVn hown;obtain ⟨wd,hwd⟩:=zB wr;rw [<-hwd] at hbk IX;rw [<-hwd];clear hwd;have qi:=IX;have EI:vn<=1000000000:=by omega
    have hv4:K.aP (x.one sS).nd (x.one sS).l (x.one sS).s (x.one sS).r v=true->v.length<=4:=λ_=>by rw [<-kR.out];omega
    have Jb:=bel hbn hbk;have DN:=((hxs.below Jb).case mW.out);obtain ⟨p0,p1,s0,s1,s2,s3,s4,s5⟩:=bC.out _ Jb;obtain ⟨Y,hY⟩:=zB (K.gG x.nd x.l sS x.r v);have HY:=zC hY;have GG:=zC (show Y=K.lH x.nd x.l sS x.r n by unfold K.lH;rw [if_neg (by omega),<-HV2.out];exact hY);rw [pK.out];clear hY IX;have hmk:∀ w',Below wd.heap.size wd w'->(λw':World=>w'.cell? ⟨G0,0,none⟩=some (.int .i64 x.nd)/\w'.cell? ⟨G0,1,none⟩=some (.slice x.A x.n x.c)/\w'.cell? (au.add (s * 6))=some (.int .i64 sS.day)/\w'.cell? ⟨(au.add (s * 6)).block,(au.add (s * 6)).off + 1,none⟩=some (.int .i64 sS.ag)/\w'.cell? ⟨(au.add (s * 6)).block,(au.add (s * 6)).off + 2,none⟩=some (.int .i64 sS.start)/\w'.cell? ⟨(au.add (s * 6)).block,(au.add (s * 6)).off + 3,none⟩=some (.int .i64 sS.end_)/\w'.cell? ⟨(au.add (s * 6)).block,(au.add (s * 6)).off + 4,none⟩=some (.int .i64 sS.aj)/\w'.cell? ⟨(au.add (s * 6)).block,(au.add (s * 6)).off + 5,none⟩=some (.slice sS.A sS.n sS.c)) w':=λw' h=>by
     have mv:∀ {p:Addr} {v:Value},wd.cell? p=some v->w'.cell? p=some v:=λg=>(h.cell (cell_lt g)).trans g;exact ⟨mv p0,mv p1,mv s0,mv s1,mv s2,mv s3,mv s4,mv s5⟩
    have hbd0:Below wd.heap.size wd wd:=Below.refl _ _;have S0:=hmk _ hbd0;have ba:Below wd.heap.size wd (wd.alloc (.cells #[.int .i64 0,.slice none 0 0,.slice none 0 0,.int .i64 0] 80)):=(Below.refl _ _).alloc (zG _) _;have qV:=hmk _ ba;have aW:=hmk _ hbd0.drew;have qW:=hmk _ ba.drew;have hAt:=λw' (h:Below wd.heap.size wd w')=>DN.below h;go_upto_region 15 with fail;go_cut [13,14] from 48 to 57 (λvp ve wc=>∃ g A n c A' n' c',vp=.pointer (some ⟨g,0,none⟩)/\ve=.int .i64 Y.2/\gm wc g 0 (.slice A n c) (.slice A' n' c') Y.1.end_/\Ints wc A n Y.1.stops/\Ints wc A' n' Y.1.times/\Below wd.heap.size wd wc/\wd.heap.size<=g/\(∀ b,Ft A n b\/Ft A' n' b->b ≠ g/\wd.heap.size<=b))
    case first =>
     go_region_held3 (λw':World=>w'.cell? ⟨G0,0,none⟩=some (.int .i64 x.nd)/\w'.cell? ⟨G0,1,none⟩=some (.slice x.A x.n x.c)/\w'.cell? (au.add (s * 6))=some (.int .i64 sS.day)/\w'.cell? ⟨(au.add (s * 6)).block,(au.add (s * 6)).off + 1,none⟩=some (.int .i64 sS.ag)/\w'.cell? ⟨(au.add (s * 6)).block,(au.add (s * 6)).off + 2,none⟩=some (.int .i64 sS.start)/\w'.cell? ⟨(au.add (s * 6)).block,(au.add (s * 6)).off + 3,none⟩=some (.int .i64 sS.end_)/\w'.cell? ⟨(au.add (s * 6)).block,(au.add (s * 6)).off + 4,none⟩=some (.int .i64 sS.aj)/\w'.cell? ⟨(au.add (s * 6)).block,(au.add (s * 6)).off + 5,none⟩=some (.slice sS.A sS.n sS.c))
      (first | with_reducible exact Dp | with_reducible exact Dn | with_reducible exact xZ | with_reducible exact S1 | with_reducible exact qW | with_reducible exact qV | with_reducible exact aW | with_reducible exact S0 | fail)
      (first
       | (go_at_call 81;refine (UY (x.one sS) V vn vc v _ (hAt _ ?_) (qi.below ?_) EI hv4).mono ?_;(first | with_reducible exact hbd0 | with_reducible exact ba | with_reducible exact hbd0.drew | with_reducible exact ba.drew);(first | with_reducible exact hbd0 | with_reducible exact ba | with_reducible exact hbd0.drew | with_reducible exact ba.drew);rw [show K.gG (x.one sS).nd (x.one sS).l (x.one sS).s (x.one sS).r v=Y from HY.out.symm];rintro e w5 ⟨⟨A0,n0,c0,A1,n1,c1,rfl,hI0,hI1,hf0,hf1⟩,hbn⟩;(first | (have b5:=bel hbd0.drew hbn;have ww:=bel b5 ((Below.refl _ _).alloc (zG _) (.cells #[.int .i64 0,.slice A0 n0 c0,.slice A1 n1 c1,.int .i64 Y.1.end_] 80));have Dn:=hmk _ ww;have xZ:=hmk _ (bel b5 ((Below.refl _ _).alloc (zG _) (.cells #[.int .i64 0,.slice none 0 0,.slice none 0 0,.int .i64 0] 80)))) | (have b5:=bel ba.drew hbn;have dA:=az hbn (heap_alloc_new wd (.cells #[.int .i64 0,.slice none 0 0,.slice none 0 0,.int .i64 0] 80));have Dp:=hmk _ (jM b5 (zG _) (.int .i64 0) (.slice A0 n0 c0) (.slice A1 n1 c1) (.int .i64 Y.1.end_));obtain ⟨t0,t1,t2,t3⟩:=gm.cells (h:=0) dA;have tf:=gI dA));have S1:=hmk _ b5)
       | fail)
     ·have hdz:wd.drew.heap.size=wd.heap.size:=rfl;have hlo:∀ b,Ft A0 n0 b\/Ft A1 n1 b->b ≠ w5.heap.size/\wd.heap.size<=b:=λb e=>by
       rcases e with e | e
       ·have h8:=BG hI0 e;obtain ⟨-,ad,e1,e2⟩:=e;have h9:=hf0 ad e1;rw [e2,hdz] at h9;exact ⟨by omega,h9⟩
       ·have h8:=BG hI1 e;obtain ⟨-,ad,e1,e2⟩:=e;have h9:=hf1 ad e1;rw [e2,hdz] at h9;exact ⟨by omega,h9⟩
      go_wp2_with fail;go_meet
      case rel=>(go_light;exact ⟨w5.heap.size,A0,n0,c0,A1,n1,c1,rfl,rfl,heap_alloc_new _ _,hI0.below ((Below.refl _ _).alloc (zG _) _),hI1.below ((Below.refl _ _).alloc (zG _) _),ww,b5.size,hlo⟩)
     ·have BD:=World.size_alloc wd (.cells #[.int .i64 0,.slice none 0 0,.slice none 0 0,.int .i64 0] 80);have hdz:(wd.alloc (.cells #[.int .i64 0,.slice none 0 0,.slice none 0 0,.int .i64 0] 80)).drew.heap.size=(wd.alloc (.cells #[.int .i64 0,.slice none 0 0,.slice none 0 0,.int .i64 0] 80)).heap.size:=rfl;have hlo:∀ b,Ft A0 n0 b\/Ft A1 n1 b->b ≠ wd.heap.size/\wd.heap.size<=b:=λb e=>by
       rcases e with e | e
       ·obtain ⟨-,ad,e1,e2⟩:=e;have h9:=hf0 ad e1;rw [e2,hdz,BD] at h9;exact ⟨by omega,by omega⟩
       ·obtain ⟨-,ad,e1,e2⟩:=e;have h9:=hf1 ad e1;rw [e2,hdz,BD] at h9;exact ⟨by omega,by omega⟩
      have hne0:∀ ad':Addr,A0=some ad'->ad'.block ≠ wd.heap.size:=λad' e h9=>by
       have h8:=hf0 ad' e;rw [h9,hdz,BD] at h8;omega
      have hne1:∀ ad':Addr,A1=some ad'->ad'.block ≠ wd.heap.size:=λad' e h9=>by
       have h8:=hf1 ad' e;rw [h9,hdz,BD] at h8;omega
      have rO:gm ((((w5.setCell ⟨wd.heap.size,0,none⟩ (.int .i64 0)).setCell ⟨wd.heap.size,1,none⟩ (.slice A0 n0 c0)).setCell ⟨wd.heap.size,2,none⟩ (.slice A1 n1 c1)).setCell ⟨wd.heap.size,3,none⟩ (.int .i64 Y.1.end_)) wd.heap.size 0 (.slice A0 n0 c0) (.slice A1 n1 c1) Y.1.end_:=bg (bg (bg (bg dA 0 _) 1 _) 2 _) 3 _;have b9:=jM b5 (zG _) (.int .i64 0) (.slice A0 n0 c0) (.slice A1 n1 c1) (.int .i64 Y.1.end_);clear BD hdz;go_wp2_with fail;go_meet
      case rel=>(go_light;exact ⟨wd.heap.size,A0,n0,c0,A1,n1,c1,rfl,rfl,rO,(((hI0.set _ hne0).set _ hne0).set _ hne0).set _ hne0,(((hI1.set _ hne1).set _ hne1).set _ hne1).set _ hne1,b9,zG _,hlo⟩)
    case rest =>
     obtain ⟨g,A0,n0,c0,A1,n1,c1,rfl,rfl,hT,hI0,hI1,hbc,hgw,hfr⟩:=hcut;rw [<-pK.out];have Pm:=bel hbk hbc;have hgs:BS<=g:=by have:=Jb.size;have:=kP.out;omega
     have aeQ:=hSt.below Pm;have akv:=lt_of_block hT;have Jc:=hbk;clear S0 qV aW qW hmk hAt qi ba hbd0 hbc p0 p1 s0 s1 s2 s3 s4 s5 DN hbk;obtain ⟨t0,t1,t2,t3⟩:=hT.cells;have tf:=gI hT;obtain ⟨w6,hw6⟩:=zB (wc.setCell ⟨g,0,none⟩ (.int .i64 s));have afa:wn.heap.size<=g:=by have:=Jc.size;omega
     have Nu:Below wn.heap.size wn w6:=by rw [hw6];exact Pm.setCell (p:=⟨g,0,none⟩) afa _
     have dR:gm w6 g s (.slice A0 n0 c0) (.slice A1 n1 c1) Y.1.end_:=by rw [hw6];exact bg hT 0 _
     have wL:Ints w6 A0 n0 Y.1.stops:=by rw [hw6];exact hI0.set0 _ λh0 ad e e2=>(hfr g (.inl ⟨h0,ad,e,e2⟩)).1 rfl
     have wM:Ints w6 A1 n1 Y.1.times:=by rw [hw6];exact hI1.set0 _ λh0 ad e e2=>(hfr g (.inr ⟨h0,ad,e,e2⟩)).1 rfl
     have OO:=hSt.below Nu;go_upto_region 17 with fail;rw [<-hw6];clear hw6 t0 t1 t2 t3 tf hT hI0 hI1 aeQ Pm;obtain ⟨t0,t1,t2,t3⟩:=dR.cells;obtain ⟨w7,hw7⟩:=zB (w6.alloc (.cells #[.int .i64 s,.slice A0 n0 c0,.slice A1 n1 c1,.int .i64 Y.1.end_] 80));obtain ⟨g7,qx⟩:=zB w6.heap.size;have b7:Below w6.heap.size w6 w7:=by rw [hw7];exact ry _ _
     have hL7:w7.heap[g7]? = some (.cells #[.int .i64 s,.slice A0 n0 c0,.slice A1 n1 c1,.int .i64 Y.1.end_] 80 (0,0)):=by rw [hw7,qx];exact heap_alloc_new _ _
     have AY:=OO.below b7;have Pj:=bel hbn (bel Nu b7);have zi:BS<=w7.heap.size:=by rw [kP.out];exact Pj.size
     have q0:=af OO.blk 0 _ rfl;have Qc:ts.length<=1000000:=by have:=pM.out;omega
     have akJ:ok.length<=1000000:=by have:=lC.out;omega
     have hyo:∀ b,Ft A0 n0 b\/Ft A1 n1 b->BS<=b/\vT.ownBlock ≠ some b/\vO.ownBlock ≠ some b/\b ≠ gb:=λb e=>by
      have h1:=(hfr b e).2;have h2:=Jb.size;have h3:=kP.out;refine ⟨by omega,λe2=>?_,λe2=>?_,λe2=>?_⟩
      ·have:=(bG hSt.rowT b e2).2;have:=Jc.size;omega
      ·have:=(bG hSt.zS b e2).2;have:=Jc.size;omega
      ·have:=lt_of_block hSt.blk;have:=Jc.size;omega
     go_upto_region 18 with (first
      | (at_builtin;rw [<-hw7,<-qx];refine Na rfl _ _ rfl BS _ ts.length ts rfl AY.rowT g7 ⟨s,A0,n0,c0,A1,n1,c1,Y.1⟩ rfl hL7 Qc zi ?_;intro v8 w8 gu yV I9;have yz:=eX yV AY.blk (λe=>AY.nT e.symm);have z0:w8.cell? ⟨gb,0,none⟩=some vT:=af yz 0 _ rfl;have zf:=gI yz;obtain ⟨T8,c8,rfl,-,-⟩:=dh gu)
      | fail)
     obtain ⟨w9,uI⟩:=zB (w8.setCell ⟨gb,0,none⟩ (.slice T8 (ts.length + 1) c8));rw [<-uI];have OQ:lu w9 BS gb (.slice T8 (ts.length + 1) c8) vO (ts ++ [⟨s,A0,n0,c0,A1,n1,c1,Y.1⟩]) ok:=by rw [uI];exact AY.acP ⟨wL.below b7,wM.below b7⟩ hyo yV I9 gu
     have XE:Below ws.heap.size ws w8:=a_ Pj yV (λg e=>by rw [<-kP.out];exact (bG AY.rowT g e).1);have Eb:Below ws.heap.size ws w9:=by rw [uI];exact XE.setCell (p:=⟨gb,0,none⟩) (by rw [<-kP.out];exact hSt.hB) _
     clear uI yz z0 zf gu yV I9 hw7 qx hL7 AY Pj zi q0 OO t0 t1 t2 t3 wL wM dR b7 Nu hyo XE;obtain ⟨z,hz⟩:=zB ((Y.2 == 0));have d1:(Y.2 == 0)=z:=hz.symm;have d2:decide (Y.2=0)=z:=by rw [hz,Bool.eq_iff_iff];simp
     have HZ:=zC hz;clear hz;obtain ⟨w10,Jt⟩:=zB (w9.alloc (.cells #[.bool z] 4));obtain ⟨g10,Pz⟩:=zB w9.heap.size;have b10:Below w9.heap.size w9 w10:=by rw [Jt];exact ry _ _
     have WE:w10.heap[g10]? = some (.cells #[.bool z] 4 (0,0)):=by rw [Jt,Pz];exact heap_alloc_new _ _
     have AX:=OQ.below b10;have Ph:=bel Eb b10;have YQ:BS<=w10.heap.size:=by rw [kP.out];exact Ph.size
     have q1:=af OQ.blk 1 _ rfl;obtain ⟨Qp,hi0,hy0,hy1,hy2⟩:=info_parts Tryz.info4k;go_upto_region 8 with (first
      | (at_builtin;rw [<-Jt,<-Pz];refine jW rfl _ _ 109 rfl BS 4 Qp (.bool false) 1 1 Tryz.underlying109k hi0 hy0 hy1 hy2 rfl (by decide) _ ok.length (ok.flatMap yl) rfl AX.zS (some ⟨g10,0,none⟩) 1 1 (yl z) rfl (Rd.of_block WE 1 1 rfl) (by intro u hu;rw [show u=.bool z from List.mem_singleton.1 hu];rfl) (by simp only [maxLen];omega) (by omega) YQ ?_;intro v11 F6 PY Jf Xw;have N7:=eX Jf AX.blk (λe=>AX.nO e.symm);have z0:F6.cell? ⟨gb,1,none⟩=some vO:=af N7 1 _ rfl;have zf:=gI N7;obtain ⟨T11,c11,rfl,-,-⟩:=dh PY)
      | fail)
     obtain ⟨w12,Bv⟩:=zB (F6.setCell ⟨gb,1,none⟩ (.slice T11 (ok.length + 1) c11));rw [<-Bv];have aeP:lu w12 BS gb (.slice T8 (ts.length + 1) c8) (.slice T11 (ok.length + 1) c11) (ts ++ [⟨s,A0,n0,c0,A1,n1,c1,Y.1⟩]) (ok ++ [z]):=by rw [Bv];exact AX.acO Jf Xw PY
     have aeZ:Below ws.heap.size ws F6:=a_ Ph Jf (λg e=>by rw [<-kP.out];exact (bG AX.zS g e).1);have ae0:Below ws.heap.size ws w12:=by rw [Bv];exact aeZ.setCell (p:=⟨gb,1,none⟩) (by rw [<-kP.out];exact hSt.hB) _
     have mY:=zC (D6.out.snoc (y:=⟨s,A0,n0,c0,A1,n1,c1,Y.1⟩) (b:=z) (by omega) (by rw [<-GG.out];rfl) (by rw [<-GG.out];exact HZ.out));clear Bv N7 z0 zf PY Jf Xw Jt Pz WE AX Ph YQ q1 d1 d2 b10 OQ Eb;go_wp2_with fail;go_roundw
     case rel=>(go_light;exact ⟨n + 1,_,_,_,_,by go_num,by omega,hnl,aeP,mY.out,ae0⟩)
     case measure=>(go_light;simp [intOf];omega)
end Go.Proofs.YtippdjmpkafifaaGreat
