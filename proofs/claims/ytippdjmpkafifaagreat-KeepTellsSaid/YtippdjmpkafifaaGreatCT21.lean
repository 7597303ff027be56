import Derived.Test.YtippdjmpkafifaaGreatCT19
import Derived.Test.YtippdjmpkafifaaGreatCT20
import Derived.Test.YtippdjmpkafifaaGreatCT13
import Derived.Test.YtippdjmpkafifaaGreatCT14
import Derived.Test.YtippdjmpkafifaaGreatCT15
set_option maxRecDepth 100000
set_option maxHeartbeats 64000000
namespace Go.Proofs.YtippdjmpkafifaaGreat
open Go.RowKit
theorem aic (x:Cs) (TA:Option Addr) (tn tc:Nat) (ts:List TV) (w:World) (hx:bF w x) (hT:dY w TA tn ts) (hF:sQ tn ts) (BC:∀ y ∈ ts,y.n<=y.c) :
  Calls Tryz.prog 27 #[.agg #[.int .i64 x.nd,.slice x.A x.n x.c],.slice x.SA x.sn x.sc,.slice x.B x.m x.d,.slice TA tn tc] w λe w'=>e=.returned (.int .i64 (K.checks x.nd x.l x.ss x.r (ts.map TV.pr)))/\Below w.heap.size w w':=by
 obtain ⟨w0,hw0⟩:=zB (w.alloc (.cells #[.int .i64 x.nd,.slice x.A x.n x.c] 24));have b0:=zA hw0;obtain ⟨G0,hG0⟩:=zB w.heap.size;have hN:Net w0 G0 x.nd x.A x.n x.c:=by rw [hw0,hG0];exact Net.new w x.nd x.A x.n x.c
 have p0:=hN.c0;have p1:=hN.c1;go_enter Tryz.func27,Tryz.ntmps27;go_wp2_with fail;rw [<-hw0,<-hG0];clear hw0 hG0;refine (Ru x _ (hx.below b0)).mono ?_;obtain ⟨ce,hce⟩:=zB (K.aH x.nd x.l x.ss x.r);rw [<-hce];rintro e w1 ⟨rfl,b1⟩;have hN1:=hN.below b1;have hb1:=bel b0 b1;clear p0 p1 b0 b1 hN;by_cases hz:ce=0;rotate_left
 ·have HX:=zC (show K.checks x.nd x.l x.ss x.r (ts.map TV.pr)=ce by rw [hce] at hz ⊢;exact K.Vr hz);have hd:(ce != 0)=true:=by simp [bne,hz]
  clear hce;go_wp2_with fail;go_ret;exact ⟨by rw [HX.out];rfl,hb1⟩
 subst hz;have aJ:=zC hce.symm;clear hce;have bf:=zC hx.shifts.1.1;have aO:=zC hx.aN.1;have xU:=zC hT.1.1;have j_:x.m<=6:=by rw [aO.out];exact (K.gQ aJ.out).2.2.2.2
 have qC:x.sn<=4:=by rw [bf.out];exact (K.gQ aJ.out).2.1
 have CJ:=zC (show K.checks x.nd x.l x.ss x.r (ts.map TV.pr)=_ from K.Vq aJ.out);obtain ⟨L,hL⟩:=zB (ts.map TV.pr);rw [<-hL] at CJ;have HL:=zC hL;obtain ⟨afL,hty⟩:=hF;have HYC:=zC BC;clear BC;clear hL;have hown0:w1.ownsRow w1.heap.size 3 1 (.slice none 0 0) ([]:List Int).length (intCells []):=World.ownsRow_nil _ _ _ _;go_wp2_with fail;go_loopw [10,11] (λv10 v11 wr=>∃ (k:Nat) (last:Int) (served:List Int),v11=.int .i64 k/\k<=tn/\wr.ownsRow w1.heap.size 3 1 v10 served.length (intCells served)/\Below w1.heap.size w1 wr/\Hid (served.Nodup/\(∀ z ∈ served,0<=z/\z < (x.m:Int)))/\served.length<=6/\Hid (K.checks x.nd x.l x.ss x.r L=K.fJ x.nd x.l x.ss x.r last served (L.drop k))/\Hid ((k=0/\last=-1)\/∃ j y,k=j + 1/\ts[j]? = some y/\y.sh=last)) (λ_ v11 _=>tn - (intOf v11).toNat)
 case atStart=>exact ⟨0,-1,[],rfl,Nat.zero_le _,hown0,Below.refl _ _,⟨List.nodup_nil,λz hz=>(by cases hz)⟩,Nat.zero_le _,CJ.out,.inl ⟨rfl,rfl⟩⟩
 case round =>
  clear hown0;obtain ⟨k,last,served,rfl,hk,hown,hbr,hsv,bJ,hck,hla⟩:=hrel;by_cases hlt:k < tn
  ·obtain ⟨ad,y,hTA,hy,⟨hI1,hI2⟩,c0,c1,c2,c3⟩:=(hT.below (bel hb1 hbr)).at_ hlt;have ML:=zC (zD hy);obtain ⟨hyn,Qn⟩:=hty y (zD hy);have hLk:L[k]? = some y.pr:=by rw [HL.out,List.getElem?_map,hy];rfl
   have HDR:=zC (show K.checks x.nd x.l x.ss x.r L=K.fJ x.nd x.l x.ss x.r last served (y.pr :: L.drop (k + 1)) by rw [hck.out,yx hLk]);have ach:=zC (show ts[k]? = some y from hy);have k0:(0:Int)<=(k:Int):=by omega
   have k1:(k:Int) < (tn:Int):=by omega
   obtain ⟨g,hg⟩:=zB wr.heap.size;obtain ⟨w3,hw3⟩:=zB (wr.alloc (.cells #[.int .i64 y.sh,.slice y.A y.n y.c,.slice y.A' y.n' y.c',.int .i64 y.t.end_] 80));have b3:=zA hw3;have hB3:gm w3 g y.sh (.slice y.A y.n y.c) (.slice y.A' y.n' y.c') y.t.end_:=by rw [hw3,hg];exact heap_alloc_new _ _
   have hown3:=own_below hown b3;have hb3:=bel hbr b3;have pY:=hI1.below b3;have wO:=hI2.below b3;have hN3:=hN1.below hb3;have Xm:=hT.below (bel hb1 hb3);clear hy hLk hck hown hI1 hI2 hbr;have mZ:=zC pY.1;obtain ⟨t0,t1,t2,t3⟩:=hB3.cells;rw [hTA];go_upto_region 9 with fail;rw [<-hw3,<-hg];clear hw3 hg c0 c1 c2 c3 b3;by_cases hneg:y.sh < 0
   ·have hd1:decide (y.sh < 0)=true:=zH hneg;have HX:=zC (show K.checks x.nd x.l x.ss x.r L=1 by rw [HDR.out];exact K.H8 (.inl hneg));clear hneg;go_wp2_with fail;go_ret;exact ⟨by rw [<-HL.out,HX.out];rfl,bel hb1 hb3⟩
   have hd1:decide (y.sh < 0)=false:=zI hneg;by_cases hbig:(x.sn:Int)<=y.sh
   ·have hd2:decide ((x.sn:Int)<=y.sh)=true:=zH hbig;have HX:=zC (show K.checks x.nd x.l x.ss x.r L=1 by rw [HDR.out];exact K.H8 (.inr (by rw [<-bf.out];exact hbig)));clear hneg hbig;go_wp2_with fail;go_ret;exact ⟨by rw [<-HL.out,HX.out];rfl,bel hb1 hb3⟩
   have hd2:decide ((x.sn:Int)<=y.sh)=false:=zI hbig;obtain ⟨s,hs⟩:∃ s:Nat,y.sh=(s:Int):=⟨y.sh.toNat,by omega⟩;have hsn:s < x.sn:=by omega
   obtain ⟨au,sS,gq,hsS,qf,s0,s1,s2,s3,s4,s5⟩:=((hx.below hb1).below hb3).shifts.at_ hsn;have HST:Hid (K.checks x.nd x.l x.ss x.r L=if y.sh<=last then 5 else if y.t.stops.isEmpty || !(K.check x.nd x.l sS x.r y.t) then 24 else if y.t.stops.any (λk=>served.any (· == k)) then 5 else K.fJ x.nd x.l x.ss x.r y.sh (served ++ y.t.stops) (L.drop (k + 1))) :=
    zC (HDR.out.trans (K.Ve (t:=y.pr) (by show 0<=y.sh;omega) (by show x.ss[y.sh.toNat]? = _;rw [hs];exact hsS)))
   have hsm:=zD hsS;have dW:=zC hs;have HSX:=zC hsS;clear hs HDR hsS hneg hbig gq;obtain ⟨zl,hzl⟩:=zB (decide (y.sh<=last));have tH:=zC hzl;clear hzl;go_upto_region 11 with fail;clear hd1 hd2;go_cut [54] from 41 to 54 (λv54 wc=>v54=.bool zl/\Below w3.heap.size w3 wc)
   case first =>
    have q0:=ah.cell t0;rcases hla.out with ⟨rfl,Em⟩ | ⟨j,yj,rfl,hyj,Em⟩
    ·have hz0:zl=false:=by rw [tH.out,Em,dW.out];simp;omega
     subst hz0;have f1:decide ((0:Int) < ((0:Nat):Int))=false:=by decide
     clear s0 s1 s2 s3 s4 s5 t0 t1 t2 t3;refine dU (by kernel_rfl) (by kernel_rfl) ?_;repeat (go_big_quiet_step (fail))
     refine wpQuiet_nil ?_;rintro w4 ⟨⟨w4,b4⟩,rfl⟩;go_wp2_with fail;go_meet;exact ⟨rfl,b4⟩
    ·obtain ⟨adj,yj',wR,Jw,-,cj0,-,-,-⟩:=Xm.at_ (show j < tn by omega);rw [hTA] at wR;injection wR with wR;subst wR;rw [hyj] at Jw;injection Jw with Jw;subst Jw;have qj:=ah.cell cj0;have f1:decide ((0:Int) < ((j + 1:Nat):Int))=true:=by simp
     have f2:((j + 1:Nat):Int) - 1=(j:Int):=by omega
     have f3:IntKind.i64.wrap (((j + 1:Nat):Int) - 1)=(j:Int):=by rw [f2];exact IntWalk.i64_in _ (by omega)
     have f4:decide ((j:Int) < 0)=false:=by simp
     have f5:max (j:Int) 0=(j:Int):=by omega
     have f6:(j:Int) < (tn:Int):=by omega
     have f7:(0:Int)<=(j:Int):=by omega
     have f8:decide (y.sh<=yj.sh)=zl:=by rw [tH.out,Em]
     clear s0 s1 s2 s3 s4 s5 t0 t1 t2 t3 hyj Em;refine dU (by kernel_rfl) (by kernel_rfl) ?_;repeat (go_big_quiet_step (fail))
     refine wpQuiet_nil ?_;rintro w4 ⟨⟨w4,b4⟩,rfl⟩;go_wp2_with fail;go_meet;trace_state
     exact ⟨rfl,b4⟩
   case rest =>
    obtain ⟨rfl,b4⟩:=hcut;have hB4:=hB3.below b4;have hown4:=own_below hown3 b4;have hb4:=bel hb3 b4;have yA:=pY.below b4;have Ws:=wO.below b4;have rH:=hN3.below b4;have hx4:=((hx.below hb1).below hb3).below b4;clear t0 t1 t2 t3 s0 s1 s2 s3 s4 s5 hB3 hown3 pY wO hN3 Xm qf;cases zl;rotate_left
    ·have HX:=zC (show K.checks x.nd x.l x.ss x.r L=5 by rw [HST.out,if_pos (of_decide_eq_true tH.out.symm)]);go_wp2_with fail;go_ret;exact ⟨by rw [<-HL.out,HX.out];rfl,bel hb1 hb4⟩
    have mX:=zC (HST.out.trans (if_neg (of_decide_eq_false tH.out.symm)));obtain ⟨t0,t1,t2,t3⟩:=hB4.cells;clear HST tH;go_wp2_with fail;by_cases hn0:y.n=0
    ·have hd4:((y.n:Int) == 0)=true:=by rw [hn0];rfl
     have hd5:decide ((y.n:Int)=0)=true:=by rw [hn0];rfl
     have HX:=zC (show K.checks x.nd x.l x.ss x.r L=24 by
      rw [mX.out,show y.t.stops=[] from List.length_eq_zero_iff.1 (by rw [<-mZ.out];exact hn0)];rfl)
     clear hn0;go_quiet (fail);go_wp2_with fail;go_ret;exact ⟨by rw [<-HL.out,HX.out];rfl,bel hb1 (below_drewN hb4 _)⟩
    have hd4:((y.n:Int) == 0)=false:=by simp [hn0]
    have hd5:decide ((y.n:Int)=0)=false:=by simp [hn0]
    have hie:y.t.stops.isEmpty=false:=by
     cases he:y.t.stops with
     | nil=>have h9:=mZ.out;rw [he] at h9;exact absurd h9 hn0
     | cons a b=>rfl
    rw [hie,Bool.false_or] at mX;obtain ⟨Ux,qI,OL,Yx,aeK,s0,s1,s2,s3,s4,s5⟩:=hx4.shifts.at_ hsn;obtain rfl:qI=sS:=by have:=HSX.out;rw [Yx] at this;injection this
    have p0:=ah.cell rH.c0;have p1:=ah.cell rH.c1;have q0:=ah.cell t0;have q1:=ah.cell t1;have q2:=ah.cell t2;have q3:=ah.cell t3;have r0:=ah.cell s0;have r1:=ah.cell s1;have r2:=ah.cell s2;have r3:=ah.cell s3;have r4:=ah.cell s4;have r5:=ah.cell s5;obtain ⟨cb,hcb⟩:=zB (K.check x.nd x.l qI x.r y.t);have pG:=zC hcb;rw [<-hcb] at mX;have zV:∀ i:ah wc,Calls Tryz.prog 87 #[.agg #[.int .i64 x.nd,.slice x.A x.n x.c],.agg #[.int .i64 qI.day,.int .i64 qI.ag,.int .i64 qI.start,.int .i64 qI.end_,.int .i64 qI.aj,.slice qI.A qI.n qI.c],.slice x.B x.m x.d,.agg #[.int .i64 s,.slice y.A y.n y.c,.slice y.A' y.n' y.c',.int .i64 y.t.end_]] i.val λe w'=>e=.returned (.bool cb)/\Below i.val.heap.size i.val w':=λi=>by
     rw [hcb];have h9:=aiU (x.one qI) y i.val ((hx4.below i.property).case hsm) ⟨yA.below i.property,Ws.below i.property,by omega,Qn⟩ hyn (HYC.out y ML.out);rw [dW.out] at h9;exact h9
    have EP:(0:Int)<=(s:Int):=by omega
    have EQ:(s:Int) < (x.sn:Int):=by omega
    clear hcb hie hn0 Yx aeK s0 s1 s2 s3 s4 s5;rw [dW.out] at t0 q0;rw [OL];have pK:=zC OL;clear OL;refine dU (by kernel_rfl) (by kernel_rfl) ?_;repeat (go_big_quiet_step ((go_at_call 87;exact ah.calls (zV _))))
    refine wpQuiet_nil ?_;rintro w5 ⟨⟨w5,b5⟩,rfl⟩;rw [<-pK.out];have dF:=hB4.below b5;have hown5:=own_below hown4 b5;have hb5:=bel hb4 b5;have p_:=yA.below b5;clear p0 p1 q0 q1 q2 q3 r0 r1 r2 r3 r4 r5 t0 t1 t2 t3 zV hB4 hown4 yA Ws rH hx4 hd4 hd5 EP EQ b5 b4;obtain ⟨t0,t1,t2,t3⟩:=dF.cells;cases cb
    ·have HX:=zC (show K.checks x.nd x.l x.ss x.r L=24 by rw [mX.out];rfl);clear t0 t1 t2 t3;go_wp2_with fail;go_ret;exact ⟨by rw [<-HL.out,HX.out];rfl,bel hb1 hb5⟩
    rw [show (!true)=false from rfl];obtain ⟨-,hst2,hst3⟩:=K.Nz pG.out.symm;have Me:=zC hst3;have HS2:=zC (show ∀ z ∈ y.t.stops,0<=z/\z < (x.m:Int) from λz hz=>by have:=hst2 z hz;have:=aO.out;omega);have vP:=zC (show K.checks x.nd x.l x.ss x.r L=if y.t.stops.any (λk=>served.any (· == k)) then 5 else K.fJ x.nd x.l x.ss x.r y.sh (served ++ y.t.stops) (L.drop (k + 1)) by rw [mX.out];rfl);have Yl:=hown5;obtain ⟨A9,c9,rfl,OG,Iy⟩:=dh Yl;clear Yl;have hIs:Ints w5 A9 served.length served:=⟨rfl,OG⟩;clear mX hst2 hst3 t0 t1 t2 t3;go_wp2_with fail;go_loopw [13] (λv13 wi=>∃ j:Nat,v13=.int .i64 j/\j<=y.n/\Hid (y.t.stops.any (λk=>served.any (· == k))=(y.t.stops.drop j).any (λk=>served.any (· == k)))/\Below w5.heap.size w5 wi) (λv13 _=>y.n - (intOf v13).toNat)
    case atStart=>exact ⟨0,rfl,Nat.zero_le _,(by show _=_;rw [List.drop_zero]),Below.refl _ _⟩
    case round =>
     obtain ⟨j,rfl,hj,hany,hbi⟩:=hrel;have hBi:=dF.below hbi;obtain ⟨t0,t1,t2,t3⟩:=hBi.cells;by_cases Bi:j < y.n
     ·obtain ⟨Hg,z,Jv,hz,cz⟩:=(p_.below hbi).at_ Bi;have SG:=zC (lJ (p:=λk=>served.any (· == k)) hz);obtain ⟨Ba,hhb⟩:=zB (served.any (· == z));have Gq:=zC hhb;have CH:=I8 A9 served.length c9 served z wr (hIs.below hbi) (by omega);rw [<-hhb] at CH;have kj0:(0:Int)<=(j:Int):=by omega
      have kj1:(j:Int) < (y.n:Int):=by omega
      clear hz hhb;rw [Jv] at t1;clear Jv;go_wp2_with fail;refine CH.mono ?_;rintro e w6 ⟨rfl,b6⟩;have hb6:=bel hbi b6;clear t0 t1 t2 t3 CH;cases Ba
      ·go_wp2_with fail;go_roundw
       case rel=>(go_light;exact ⟨j + 1,by go_num,Bi,(by show _=_;rw [hany.out,SG.out,<-Gq.out];rfl),hb6⟩)
       case measure=>(go_light;simp [intOf];omega)
      ·have HX:=zC (show K.checks x.nd x.l x.ss x.r L=5 by rw [vP.out,hany.out,SG.out,<-Gq.out];rfl);go_wp2_with fail;go_ret;exact ⟨by rw [<-HL.out,HX.out];rfl,bel hb1 (bel hb5 hb6)⟩
     ·have hd:decide ((j:Int) < (y.n:Int))=false:=by simp;omega
      have hd2:decide (j < y.n)=false:=by simp;omega
      have Gl:=zC (show y.t.stops.any (λk=>served.any (· == k))=false by
       rw [hany.out,List.drop_eq_nil_of_le (by rw [<-mZ.out];omega)];rfl)
      have MB:=zC (show K.checks x.nd x.l x.ss x.r L=K.fJ x.nd x.l x.ss x.r y.sh (served ++ y.t.stops) (L.drop (k + 1)) by rw [vP.out,Gl.out];rfl);have hnd:=K.ZT hsv.out.1 Me.out Gl.out;have hrg:∀ z ∈ served ++ y.t.stops,0<=z/\z < (x.m:Int):=λz hz=>(List.mem_append.1 hz).elim (hsv.out.2 z) (HS2.out z);have hlen:=K.JM hnd hrg;have Bh:(served ++ y.t.stops).length<=6:=by omega
      have LH:=zC (And.intro hnd hrg);have acp:=zC (show y.n=y.t.stops.length from mZ.out);have hown6:=own_below hown5 hbi;have hIy:=p_.below hbi;obtain ⟨i0,hi,hz0,hz1,hz2⟩:=info_parts Tryz.info3;have Em:served.length + y.n<=1000:=by rw [List.length_append] at Bh;have:=mZ.out;omega
      have YB:w1.heap.size<=wr.heap.size:=Nat.le_trans hb5.size hbi.size;have hb6:=bel hb5 hbi;have HKT:=zC (show k + 1<=tn from hlt);clear hnd hrg hlen hlt vP hany Bi hj;go_wp2_with (first
       | (at_builtin;refine jW rfl _ _ 48 rfl w1.heap.size 3 i0 (.int .i64 0) 1 8 Tryz.underlying48 hi hz0 hz1 hz2 rfl (by decide) _ served.length (intCells served) rfl hown6 y.A y.n y.c (intCells y.t.stops) rfl hIy.2 (oU _) (by simp only [maxLen];omega) (by omega) YB ?_;intro v7 w7 fF fE _)
       | fail)
      have hb7:Below w1.heap.size w1 w7:=a_ hb6 fE (λg e=>(hown6.lt g e).1);have P6:w7.ownsRow w1.heap.size 3 1 v7 (served ++ y.t.stops).length (intCells (served ++ y.t.stops)):=by
       rw [List.length_append,<-acp.out,BF];exact fF
      clear fF hown6 t0 t1 t2 t3;go_roundw
      case rel=>(go_light;exact ⟨k + 1,y.sh,served ++ y.t.stops,by go_num,HKT.out,P6,hb7,LH.out,Bh,MB.out,.inr ⟨k,y,rfl,ach.out,rfl⟩⟩)
      case measure=>(go_light;simp [intOf];omega)
  ·have HE:=zC (show K.checks x.nd x.l x.ss x.r L=if served.length < x.m then 4 else 0 by
    rw [hck.out,List.drop_eq_nil_of_le (by rw [HL.out,List.length_map,<-xU.out];omega),aO.out];rfl)
   have hdk:decide ((k:Int) < (tn:Int))=false:=by simp;omega
   have aks:decide (k < tn)=false:=by simp;omega
   obtain ⟨A9,c9,rfl,-,-⟩:=dh hown;by_cases hlm:served.length < x.m
   ·have hd:decide ((served.length:Int) < (x.m:Int))=true:=by simp;omega
    have hdn:decide (served.length < x.m)=true:=zH hlm;go_wp2_with fail;go_ret;exact ⟨by rw [<-HL.out,HE.out,if_pos hlm];rfl,bel hb1 hbr⟩
   ·have hd:decide ((served.length:Int) < (x.m:Int))=false:=by simp;omega
    have hdn:decide (served.length < x.m)=false:=zI hlm;go_wp2_with fail;go_ret;exact ⟨by rw [<-HL.out,HE.out,if_neg hlm];rfl,bel hb1 hbr⟩
theorem zy {α β:Type} {f:α->β} {l:List α} {m:List β} (h:l.map f=m) {i:Nat} {x:α} (hx:l[i]? = some x) {y:β} (hy:m[i]? = some y):f x=y:=by
 rw [<-h,List.getElem?_map,hx] at hy;injection hy
theorem Rt (x:Cs) (LA:Option Addr) (ln lc:Nat) (lost:List Int) (w:World) (hx:bF w x) (hL:Ints w LA ln lost) (hln:ln<=1000000000) (hsn:x.sn<=1000000) :
  Calls Tryz.prog 46 #[.agg #[.int .i64 x.nd,.slice x.A x.n x.c,.slice x.SA x.sn x.sc,.slice x.B x.m x.d],.slice LA ln lc] w λe w'=>Dl w w' (K.jV x.nd x.l x.ss x.r lost) (K.dM x.nd x.l x.ss x.r lost) e:=by
 obtain ⟨w1,hw1⟩:=zB (w.alloc (.cells #[.int .i64 x.nd,.slice x.A x.n x.c,.slice x.SA x.sn x.sc,.slice x.B x.m x.d] 44));obtain ⟨g,hg⟩:=zB w.heap.size;have b1:=zA hw1;have hN1:ja w1 g x:=by rw [hw1,hg];exact ja.new _ _
 have p2:=af hN1 2 _ rfl;have bf:=zC hx.shifts.1.1;have aO:=zC hx.aN.1;obtain ⟨ER,uj⟩:=zB (K.dM x.nd x.l x.ss x.r lost);obtain ⟨RR,hRR⟩:=zB (K.jV x.nd x.l x.ss x.r lost);rw [<-uj,<-hRR];have dV:=zC (show ER=if K.dZ x.sn (-1) lost=true then (if K.zN x.nd x.l x.ss x.r=true then (if 6 < x.m then 6 else 0) else 1) else 1 by
  rw [uj,bf.out,aO.out,<-K.aao];rfl)
 have HRR:=zC (show RR=if ER=0 then K.dN lost 0 x.ss else [] by rw [hRR,uj];rfl);have hmb:=hx.b4;clear uj hRR;go_enter Tryz.func46,Tryz.ntmps46;go_upto_region 1 with fail;rw [<-hw1,<-hg];clear hw1 hg;have CR:=aba LA ln lc lost x.sn w1 (hL.below b1) hln (by omega);obtain ⟨z,hz⟩:=zB (K.dZ x.sn (-1) lost);rw [<-hz] at CR dV;clear hz;go_wp2_with fail;refine CR.mono ?_;rintro e w2 ⟨rfl,b2⟩;have aY:=hN1.below b2;have hb2:=bel b1 b2;clear CR p2 b1 b2 hN1;cases z
 ·have HX:=zC (show ER=1 from dV.out);have HY:=zC (show RR=[] by rw [HRR.out,HX.out];rfl);go_wp2_with fail;go_ret2
  rw [HX.out,HY.out];exact BR hb2
 have p0:=af aY 0 _ rfl;have p1:=af aY 1 _ rfl;have p2:=af aY 2 _ rfl;have p3:=af aY 3 _ rfl;have CC:=abp x w2 (hx.below hb2);obtain ⟨z,hz⟩:=zB (K.zN x.nd x.l x.ss x.r);rw [<-hz] at CC dV;clear hz;go_wp2_with fail;refine CC.mono ?_;rintro e w3 ⟨rfl,b3⟩;have hN3:=aY.below b3;have hb3:=bel hb2 b3;clear CC p0 p1 p2 p3 aY hb2 b3;cases z
 ·have HX:=zC (show ER=1 from dV.out);have HY:=zC (show RR=[] by rw [HRR.out,HX.out];rfl);go_wp2_with fail;go_ret2
  rw [HX.out,HY.out];exact BR hb3
 have p3:=af hN3 3 _ rfl;by_cases h6:6 < x.m
 ·have d1:decide ((6:Int) < (x.m:Int))=true:=by simp;omega
  have d2:decide (6 < x.m)=true:=by simp;omega
  have HX:=zC (show ER=6 by have h9:=dV.out;simpa [h6] using h9);have HY:=zC (show RR=[] by rw [HRR.out,HX.out];rfl);clear h6;go_wp2_with fail;go_ret2
  rw [HX.out,HY.out];exact BR hb3
 have d1:decide ((6:Int) < (x.m:Int))=false:=by simp;omega
 have d2:decide (6 < x.m)=false:=by simp;omega
 have HX:=zC (show ER=0 by have h9:=dV.out;simpa [h6] using h9);have HY:=zC (show RR=K.dN lost 0 x.ss by rw [HRR.out,if_pos HX.out]);clear h6;go_wp2_with fail;clear d1 d2 p3;go_loopw [6,7] (λv6 v7 wr=>∃ (k:Nat) (L:List S),v7=.int .i64 k/\k<=x.sn/\wr.ownsRow w3.heap.size 63 6 v6 L.length (L.flatMap S.cells)/\L.length<=k/\Hid (L=K.dN lost 0 (x.ss.take k))/\Below w3.heap.size w3 wr) (λ_ v7 _=>x.sn - (intOf v7).toNat)
 case atStart=>exact ⟨0,[],rfl,Nat.zero_le _,World.ownsRow_nil _ _ _ _,Nat.zero_le _,rfl,Below.refl _ _⟩
 case round =>
  obtain ⟨k,L,rfl,hk,hown,hlk,hbare,hbr⟩:=hrel;have hbw:=bel hb3 hbr;have iD:=hN3.below hbr;have p2:=af iD 2 _ rfl;by_cases hlt:k < x.sn
  ·obtain ⟨ad,s,hA,hs,hI,c0,c1,c2,c3,c4,c5⟩:=(hx.shifts.below hbw).at_ hlt;have h_:=zC (K.aaX (lost:=lost) hs);have dW:=zC (show ∀ s',x.ss[k]? = some s'->s'=s from λs' h=>by rw [hs] at h;injection h with h;exact h.symm);have k0:(0:Int)<=(k:Int):=by omega
   have k1:(k:Int) < (x.sn:Int):=by omega
   have hkt:k + 1<=x.sn:=hlt;have CK:=I8 LA ln lc lost k wr (hL.below hbw) hln;obtain ⟨z,hz⟩:=zB (lost.any (· == (k:Int)));rw [<-hz] at CK h_;have HA:=zC hA;clear hz hs hI c0 c1 c2 c3 c4 c5 hA;go_wp2_with fail;refine CK.mono ?_;rintro e w5 ⟨rfl,b5⟩;have hb5:=bel hbr b5;have hown5:=own_below hown b5;cases z;rotate_left
   ·have HB:=zC (show L=K.dN lost 0 (x.ss.take (k + 1)) by rw [h_.out,if_pos rfl,List.append_nil];exact hbare.out);clear CK hown p2;go_wp2_with fail;go_roundw
    case rel=>(go_light;exact ⟨k + 1,L,by go_num,hkt,hown5,by omega,HB.out,hb5⟩)
    case measure=>(go_light;simp [intOf];omega)
   ·obtain ⟨ad',s',hA',hs',hI',c0,c1,c2,c3,c4,c5⟩:=(hx.shifts.below (bel hb3 hb5)).at_ hlt;have p2:=af (iD.below b5) 2 _ rfl;obtain ⟨w8,hw8⟩:=zB (w5.alloc (.cells #[.int .i64 s'.day,.int .i64 s'.ag,.int .i64 s'.start,.int .i64 s'.end_,.int .i64 s'.aj,.slice s'.A s'.n s'.c] 63));obtain ⟨g8,gY⟩:=zB w5.heap.size;have b8:=zA hw8;have lQ:w8.heap[g8]? = some (.cells #[.int .i64 s'.day,.int .i64 s'.ag,.int .i64 s'.start,.int .i64 s'.end_,.int .i64 s'.aj,.slice s'.A s'.n s'.c] 63 (0,0)):=by rw [hw8,gY];exact heap_alloc_new _ _
    have gu:=own_below hown5 b8;obtain ⟨i0,hi,hz0,hz1,hz2⟩:=info_parts Vw;have iY:w3.heap.size<=w8.heap.size:=Nat.le_trans hb5.size b8.size;have hb8:=bel hb5 b8;have hss:s'=s:=dW.out s' hs';have HB:=zC (show L ++ [s'] = K.dN lost 0 (x.ss.take (k + 1)) by rw [h_.out,if_neg (by decide),hbare.out,hss]);rw [hA'] at p2;clear hs' hI' hown CK hown5 hA' hss;go_wp2_with (first
     | (at_builtin;rw [<-hw8,<-gY];refine jW rfl _ _ 25 rfl w3.heap.size 63 i0 (.agg #[.int .i64 0,.int .i64 0,.int .i64 0,.int .i64 0,.int .i64 0,.slice none 0 0]) 6 64 Tryz.underlying25 hi hz0 hz1 hz2 rfl (by decide) _ L.length (L.flatMap S.cells) rfl gu (some ⟨g8,0,none⟩) 1 1 s'.cells rfl (Rd.of_block lQ 6 1 rfl) (abN _) (by simp only [maxLen];omega) (by omega) iY ?_;intro v9 w9 ku oP _)
     | fail)
    have bU:Below w3.heap.size w3 w9:=a_ hb8 oP (λg e=>(gu.lt g e).1);have y7:w9.ownsRow w3.heap.size 63 6 v9 (L ++ [s']).length ((L ++ [s']).flatMap S.cells):=by
     rw [List.length_append,List.flatMap_append,List.flatMap_singleton];exact ku
    have aK:=zC (show (L ++ [s']).length<=k + 1 by rw [List.length_append,List.length_singleton];omega);clear ku oP gu hw8 gY c0 c1 c2 c3 c4 c5;go_roundw
    case rel=>(go_light;exact ⟨k + 1,_,by go_num,hkt,y7,aK.out,HB.out,bU⟩)
    case measure=>(go_light;simp [intOf];omega)
  ·have hd:decide ((k:Int) < (x.sn:Int))=false:=by simp;omega
   have hd2:decide (k < x.sn)=false:=by simp;omega
   have HB:=zC (show L=RR by rw [HY.out,hbare.out,List.take_of_length_le (by rw [<-bf.out];omega)]);have hsub:∀ s ∈ L,s ∈ x.ss:=λs hs=>(K.uS x.ss 0).subset (by rw [<-HY.out,<-HB.out];exact hs);obtain ⟨A9,c9,rfl,yL,-⟩:=dh hown;go_wp2_with fail;go_ret2
   rw [HX.out];exact ⟨⟨A9,L.length,c9,L,rfl,⟨⟨rfl,yL⟩,λs hs=>(hx.shifts.2 s (hsub s hs)).below hbw⟩,by rw [HB.out]⟩,hbw⟩
theorem rC (w:World) (o:Obj):Below w.heap.size w (w.alloc o):=(Below.refl _ _).alloc (zG _) _
theorem aaB (x:Cs) (LA:Option Addr) (ln lc:Nat) (lost:List Int) (KA:Option Addr) (kn kc:Nat) (kept:List Int) (TA:Option Addr) (tn tc:Nat) (ts:List TV) (RA:Option Addr) (rn rc:Nat) (rl:List RV) (w:World) (hx:bF w x) (hL:Ints w LA ln lost) (hK:Ints w KA kn kept) (hT:dY w TA tn ts) (hR:lD w RA rn rl)
  (hln:ln<=1000000000) (hkn:kn<=1000000000) (lN:sQ tn ts) (BC:∀ y ∈ ts,y.n<=y.c) (ny:Gi rn rl) (hsn:x.sn<=1000000) (kK:∀ s ∈ x.ss,s.n<=1000000) :
  Calls Tryz.prog 53 #[.agg #[.int .i64 x.nd,.slice x.A x.n x.c,.slice x.SA x.sn x.sc,.slice x.B x.m x.d],.slice LA ln lc,.slice KA kn kc,.slice TA tn tc,.slice RA rn rc] w λe w'=>e=.returned (.bool (K.lU x.nd x.l x.ss x.r lost kept (ts.map TV.pr) (rl.map RV.pr)))/\Below w.heap.size w w':=by
 obtain ⟨w1,hw1⟩:=zB (w.alloc (.cells #[.int .i64 x.nd,.slice x.A x.n x.c,.slice x.SA x.sn x.sc,.slice x.B x.m x.d] 44));obtain ⟨g,hg⟩:=zB w.heap.size;have b1:=zA hw1;have hN1:ja w1 g x:=by rw [hw1,hg];exact ja.new _ _
 have p0:=af hN1 0 _ rfl;have p1:=af hN1 1 _ rfl;have p2:=af hN1 2 _ rfl;have p3:=af hN1 3 _ rfl;have CR:=Rt x LA ln lc lost w1 (hx.below b1) (hL.below b1) hln hsn;obtain ⟨Z,hZ⟩:=zB (K.lU x.nd x.l x.ss x.r lost kept (ts.map TV.pr) (rl.map RV.pr));rw [<-hZ];have HZ:=zC hZ;clear hZ;have aO:=zC hx.aN.1;have CU:=zC hK.1;have aK:=zC (show (rl.map RV.pr).length=rn by rw [List.length_map,hR.1.1]);have hb4:=hx.b4;have hfr:=ny.1;go_enter Tryz.func53,Tryz.ntmps53;go_upto_region 1 with fail;rw [<-hw1,<-hg];clear hw1 hg;go_wp2_with fail;refine CR.mono ?_;obtain ⟨er,her⟩:=zB (K.dM x.nd x.l x.ss x.r lost);rw [<-her];have dV:=zC her;clear her;rintro e w2 ⟨⟨iL,iH,gU,RL,rfl,hRS,jm⟩,b2⟩;have aY:=hN1.below b2;have hb2:=bel b1 b2;clear CR p0 p1 p2 p3 b1 b2 hN1;have p0:=af aY 0 _ rfl;have p1:=af aY 1 _ rfl;have p2:=af aY 2 _ rfl;have p3:=af aY 3 _ rfl;by_cases hz:er=0;rotate_left
 ·have HX:=zC (show Z=false by rw [HZ.out];exact K.Y1 (by rw [<-dV.out];exact hz) _ _ _);have hd:(er != 0)=true:=by simp [bne,hz]
  go_wp2_with fail;go_ret;exact ⟨by rw [HX.out];rfl,hb2⟩
 subst hz;have hE0:K.dM x.nd x.l x.ss x.r lost=0:=dV.out.symm;have HP:=zC (K.BQ hE0).2;have j_:x.m<=6:=by rw [hx.aN.1];exact (K.gQ HP.out).2.2.2.2
 obtain ⟨R,hRe⟩:=zB (K.jV x.nd x.l x.ss x.r lost);rw [<-hRe] at jm;have HR:=zC (show R=K.dN lost 0 x.ss by rw [hRe];unfold K.jV;rw [if_pos hE0]);obtain ⟨hrn,hrs⟩:=FM hx hsn kK (by rw [hRe];exact FI) hRS jm;have HZ2:=zC (show Z=(K.dZ x.r.length (-1) kept && ((kept.length + (rl.map RV.pr).length == x.r.length) && K.mG x.nd x.l R kept (ts.map TV.pr) 0 x.r [] (rl.map RV.pr))) by
  rw [HZ.out,HR.out];unfold K.lU;rw [hE0];rfl)
 have og:=zC jm;clear HZ dV hE0 hRe jm;have CA:=aba KA kn kc kept x.m w2 (hK.below hb2) hkn (by omega);obtain ⟨z,hz⟩:=zB (K.dZ x.m (-1) kept);rw [<-hz] at CA;have HA:=zC (show z=K.dZ x.r.length (-1) kept by rw [hz,aO.out]);clear hz;obtain ⟨sm,hsm⟩:=zB (kn + rn);have hwr:IntKind.i64.wrap ((kn:Int) + (rn:Int))=(sm:Int):=by rw [IntWalk.i64_in _ (by omega)];omega
 have dW:=zC hsm;clear hsm;cases z
 ·have HX:=zC (show Z=false by rw [HZ2.out,<-HA.out,Bool.false_and]);go_wp2_with fail;refine CA.mono ?_;rintro e w3 ⟨rfl,b3⟩;go_wp2_with fail;go_ret;exact ⟨by rw [HX.out];rfl,bel hb2 b3⟩
 go_wp2_with fail;refine CA.mono ?_;rintro e w3 ⟨rfl,b3⟩;have hb3:=bel hb2 b3;have hN3:=aY.below b3;have DW:=hRS.below b3;clear CA p0 p1 p2 p3 aY hb2 b3 hRS;have p0:=af hN3 0 _ rfl;have p1:=af hN3 1 _ rfl;have p2:=af hN3 2 _ rfl;have p3:=af hN3 3 _ rfl;by_cases hs:sm=x.m;rotate_left
 ·have HX:=zC (show Z=false by rw [HZ2.out,<-HA.out,Bool.true_and,aK.out,<-CU.out,<-aO.out,<-dW.out,beq_eq_false_iff_ne.2 hs,Bool.false_and]);have hd:((sm:Int) != (x.m:Int))=true:=by simp [bne];omega
  go_wp2_with fail;go_ret;exact ⟨by rw [HX.out];rfl,hb3⟩
 rw [hs] at hwr;have mW:=zC (show kept.length + (rl.map RV.pr).length=x.r.length by rw [aK.out,<-CU.out,<-aO.out,<-dW.out];exact hs);have HZ3:=zC (show Z=K.mG x.nd x.l R kept (ts.map TV.pr) 0 x.r [] (rl.map RV.pr) by rw [HZ2.out,<-HA.out,Bool.true_and,mW.out,beq_self_eq_true,Bool.true_and]);clear HZ2 hs dW;obtain ⟨B,hB⟩:=zB w3.heap.size;have hx3:=hx.below hb3;have hK3:=hK.below hb3;have nD:=hR.below hb3;have iV:=hT.below hb3;go_wp2_with fail;clear p0 p1 p2 p3 hwr;go_loopw [13,14,15] (λv13 v14 v15 wr=>∃ (i j:Nat) (sv:List Q),v15=.int .i64 i/\v14=.int .i64 j/\i<=x.m/\j + sv.length=i/\wr.ownsRow B 47 7 v13 sv.length (sv.flatMap Q.cells)/\nU x.nd x.l R x.r kept (ts.map TV.pr) (rl.map RV.pr) Z i sv/\Below w3.heap.size w3 wr) (λ_ _ v15 _=>x.m - (intOf v15).toNat)
 case atStart=>exact ⟨0,0,[],rfl,rfl,Nat.zero_le _,rfl,World.ownsRow_nil _ _ _ _,by rw [HZ3.out];exact nU.zero HA.out.symm,Below.refl _ _⟩
 case round =>
  obtain ⟨i,j,sv,rfl,rfl,hi,hj,hown,hS,hbr⟩:=hrel;have hxr:=hx3.below hbr;have iD:=hN3.below hbr;have hsl:=hS.le;have p3:=af iD 3 _ rfl;by_cases hlt:i < x.m
  ·obtain ⟨q,hq⟩:∃ q,x.r[i]? = some q:=⟨_,zF (by rw [<-aO.out];exact hlt)⟩;have HQ:=zC hq;have k0:(0:Int)<=(i:Int):=by omega
   have k1:(i:Int) < (x.m:Int):=by omega
   have CK:=I8 KA kn kc kept i wr (hK3.below hbr) hkn;obtain ⟨z,hz⟩:=zB (kept.contains (i:Int));rw [UC,<-hz] at CK;have HC:=zC hz;have hin:∀ p ∈ sv ++ [q],p ∈ x.r:=λp hp=>by
    rcases List.mem_append.1 hp with hp | hp
    ·exact hS.inr p hp
    ·rw [List.mem_singleton.1 hp];exact zD HQ.out
   clear hq hz;go_wp2_with fail;refine CK.mono ?_;rintro e w5 ⟨rfl,b5⟩;have hown5:=own_below hown b5;have hx5:=hxr.below b5;have iQ:=iD.below b5;have hb5:=bel hbr b5;clear CK p3;have p3:=af iQ 3 _ rfl;obtain ⟨aZ,q',hA,hq',hW,c0,c1,c2,c3,c4,c5,c6⟩:=hx5.aN.at_ hlt;obtain rfl:q=q':=by
    have h9:=HQ.out;rw [hq'] at h9;injection h9 with h9;exact h9.symm
   rw [hA] at p3;clear hq' hA hW;cases z;rotate_left
   ·have mY:=zC (hS.yes HA.out.symm HQ.out HC.out.symm);obtain ⟨w8,hw8⟩:=zB (w5.alloc (.cells #[.int .i64 q.node,.int .i64 q.room,.int .i64 q.aF,.int .i64 q.service,.int .i64 q.aB,.int .i64 q.aA,.slice q.A q.n q.c] 47));obtain ⟨g8,gY⟩:=zB w5.heap.size;have b8:=zA hw8;have lQ:w8.heap[g8]? = some (.cells #[.int .i64 q.node,.int .i64 q.room,.int .i64 q.aF,.int .i64 q.service,.int .i64 q.aB,.int .i64 q.aA,.slice q.A q.n q.c] 47 (0,0)):=by rw [hw8,gY];exact heap_alloc_new _ _
    have gu:=own_below hown5 b8;have hb8:=bel hb5 b8;have iY:B<=w8.heap.size:=by rw [hB];exact hb8.size
    obtain ⟨i0,hi0,hy0,hy1,hy2⟩:=info_parts yu;have hj2:j + (sv ++ [q]).length=i + 1:=by rw [List.length_append,List.length_singleton];omega
    go_wp2_with (first
     | (at_builtin;rw [<-hw8,<-gY];refine jW rfl _ _ 26 rfl B 47 i0 (.agg #[.int .i64 0,.int .i64 0,.int .i64 0,.int .i64 0,.int .i64 0,.int .i64 0,.slice none 0 0]) 7 72 Tryz.underlying26 hi0 hy0 hy1 hy2 rfl (by decide) _ sv.length (sv.flatMap Q.cells) rfl gu (some ⟨g8,0,none⟩) 1 1 (Q.cells q) rfl (Rd.of_block lQ 7 1 rfl) (uQ q) (by simp only [maxLen];omega) (by omega) iY ?_;intro v9 w9 ku oP kZ)
     | fail)
    have bU:Below w3.heap.size w3 w9:=a_ hb8 oP (λg e=>by rw [<-hB];exact (bG gu g e).1);have y7:w9.ownsRow B 47 7 v9 (sv ++ [q]).length ((sv ++ [q]).flatMap Q.cells):=by
     rw [List.length_append,List.flatMap_append,List.flatMap_singleton];exact ku
    clear gu ku oP kZ;go_roundw
    case rel=>(go_light;exact ⟨i + 1,j,sv ++ [q],by go_num,rfl,hlt,hj2,y7,mY.out,bU⟩)
    case measure=>(go_light;simp [intOf];omega)
   ·obtain ⟨bb,hbb,hno,hyes⟩:=hS.no HA.out.symm mW.out HQ.out HC.out.symm;rw [show i - sv.length=j by omega] at hbb;have hjn:j < rn:=by
     have:=(zE.1 hbb).1;have:=aK.out;omega
    have jZ:=nD.below hb5;obtain ⟨Dw,y,oI,hy,hyB,cy⟩:=jZ.at_ hjn;have HY:=zC (show y.bl.map BV.pr=bb by
     rw [List.getElem?_map,hy] at hbb;injection hbb)
    have uk:=(ny.2 y (zD hy)).1;have xO:=zC hno;have MK:=zC hyes;have j0:(0:Int)<=(j:Int):=by omega
    have j1:(j:Int) < (rn:Int):=by omega
    have hj2:j + 1 + sv.length=i + 1:=by omega
    obtain ⟨SV,KF,rfl,hRv,-⟩:=dh hown5;have q0:=af iQ 0 _ rfl;have q1:=af iQ 1 _ rfl;have bC:=zC (show ∀ w',Below w5.heap.size w5 w'->(λw':World=>w'.cell? ⟨g,0,none⟩=some (.int .i64 x.nd)/\w'.cell? ⟨g,1,none⟩=some (.slice x.A x.n x.c)/\w'.cell? ⟨g,3,none⟩=some (.slice (some aZ) x.m x.d)/\w'.cell? (Dw.add j)=some (.slice y.A y.n y.c)/\w'.cell? (aZ.add (i * 7))=some (.int .i64 q.node)/\w'.cell? ⟨(aZ.add (i * 7)).block,(aZ.add (i * 7)).off + 1,none⟩=some (.int .i64 q.room)/\w'.cell? ⟨(aZ.add (i * 7)).block,(aZ.add (i * 7)).off + 2,none⟩=some (.int .i64 q.aF)/\w'.cell? ⟨(aZ.add (i * 7)).block,(aZ.add (i * 7)).off + 3,none⟩=some (.int .i64 q.service)/\w'.cell? ⟨(aZ.add (i * 7)).block,(aZ.add (i * 7)).off + 4,none⟩=some (.int .i64 q.aB)/\w'.cell? ⟨(aZ.add (i * 7)).block,(aZ.add (i * 7)).off + 5,none⟩=some (.int .i64 q.aA)/\w'.cell? ⟨(aZ.add (i * 7)).block,(aZ.add (i * 7)).off + 6,none⟩=some (.slice q.A q.n q.c)) w' from λw' h =>
     ⟨(h.cell (cell_lt q0)).trans q0,(h.cell (cell_lt q1)).trans q1,(h.cell (cell_lt p3)).trans p3,(h.cell (cell_lt cy)).trans cy,(h.cell (cell_lt c0)).trans c0,(h.cell (cell_lt c1)).trans c1,(h.cell (cell_lt c2)).trans c2,(h.cell (cell_lt c3)).trans c3,(h.cell (cell_lt c4)).trans c4,(h.cell (cell_lt c5)).trans c5,(h.cell (cell_lt c6)).trans c6⟩)
    have aeO:=DW.below hb5;have nY:=zC (show ∀ (w':World) (A:Option Addr) (k:Nat),Below w5.heap.size w5 w'->Rd w' 7 A (sv.length + 1) (sv.flatMap Q.cells ++ q.cells)->bF w' ⟨x.nd,x.A,x.n,x.c,x.l,iL,iH,gU,RL,A,sv.length + 1,k,sv ++ [q]⟩ from λw' A k hb hR =>
     ⟨(hx5.below hb).net,aeO.below hb,⟨by rw [List.length_append];rfl,by rw [xw,List.flatMap_append,List.flatMap_singleton];exact hR,λp hp=>(hx5.below hb).aN.2.2 p (hin p hp)⟩,hx.b1,λs hs=>by have:=hrs s hs;omega,by show iH<=_;omega,by show sv.length + 1<=_;omega,λp hp=>hx.b5 p (hin p hp)⟩)
    rw [oI];have L_:=zC oI;have Gq:=zC hyB;clear oI q0 q1 cy hbb hno hyes hy p3 c0 c1 c2 c3 c4 c5 c6 hyB;have rQ:Below w5.heap.size w5 w5:=Below.refl _ _;have Fd:Below w5.heap.size w5 w5.drew:=rQ.drew;have Fz:Below w5.heap.size w5 (w5.alloc (.cells #[] 47)):=rC _ _;have S0:=bC.out _ rQ;have aW:=bC.out _ Fd;have xW:=bC.out _ Fz;have xX:=bC.out _ Fz.drew;obtain ⟨i0,hi,EK,EL,EM⟩:=info_parts yu;have hone:∀ u ∈ sv.flatMap Q.cells,u.oneCell'=true:=NP Q.cells uQ _;have Jm:∀ u ∈ q.cells,u.oneCell'=true:=uQ q;have hm63:0 + sv.length<=maxLen:=by simp only [maxLen];omega
    have yX:(0 + sv.length) * 72<=140737488355328:=by omega
    have hn63:sv.length + 1<=maxLen:=by simp only [maxLen];omega
    have hn47:(sv.length + 1) * 72<=140737488355328:=by omega
    have Cz:∀ g,(Value.slice (some ⟨w5.heap.size,0,none⟩) 0 0).ownBlock=some g->w5.heap.size<=g:=λg e=>by injection e with e;rw [<-e];exact zG _
    have Oa:(w5.alloc (.cells #[] 47)).drew.ownsRow w5.heap.size 47 7 (.slice (some ⟨w5.heap.size,0,none⟩) 0 0) 0 []:=mM (heap_alloc_new w5 (.cells #[] 47)) (zG _);have Rq:Rd w5 7 (SV) sv.length (sv.flatMap Q.cells):=hRv;have Ra:=Rq.below Fz.drew;have Oz:True:=trivial;have Fx:Below w5.heap.size w5 (w5.alloc (.cells #[.int .i64 q.node,.int .i64 q.room,.int .i64 q.aF,.int .i64 q.service,.int .i64 q.aB,.int .i64 q.aA,.slice q.A q.n q.c] 47)):=rC _ _;have nX:Below w5.heap.size w5 ((w5.alloc (.cells #[] 47)).alloc (.cells #[.int .i64 q.node,.int .i64 q.room,.int .i64 q.aF,.int .i64 q.service,.int .i64 q.aB,.int .i64 q.aA,.slice q.A q.n q.c] 47)):=bel Fz (rC _ _);have nV:Below w5.heap.size w5 ((w5.alloc (.cells #[.int .i64 q.node,.int .i64 q.room,.int .i64 q.aF,.int .i64 q.service,.int .i64 q.aB,.int .i64 q.aA,.slice q.A q.n q.c] 47)).alloc (.cells #[] 47)):=bel Fx (rC _ _);have GY:=bC.out _ Fx;have G7:=bC.out _ nX;have G5:=bC.out _ nV;have GZ:=bC.out _ Fx.drew;have G8:=bC.out _ nX.drew;have G6:=bC.out _ nV.drew;have Ob:((w5.alloc (.cells #[] 47)).alloc (.cells #[.int .i64 q.node,.int .i64 q.room,.int .i64 q.aF,.int .i64 q.service,.int .i64 q.aB,.int .i64 q.aA,.slice q.A q.n q.c] 47)).drew.ownsRow w5.heap.size 47 7 (.slice (some ⟨w5.heap.size,0,none⟩) 0 0) 0 []:=mM (bu (heap_alloc_new w5 (.cells #[] 47)) (.cells #[.int .i64 q.node,.int .i64 q.room,.int .i64 q.aF,.int .i64 q.service,.int .i64 q.aB,.int .i64 q.aA,.slice q.A q.n q.c] 47)) (zG _);have Oc:((w5.alloc (.cells #[.int .i64 q.node,.int .i64 q.room,.int .i64 q.aF,.int .i64 q.service,.int .i64 q.aB,.int .i64 q.aA,.slice q.A q.n q.c] 47)).alloc (.cells #[] 47)).drew.ownsRow w5.heap.size 47 7 (.slice (some ⟨w5.heap.size + 1,0,none⟩) 0 0) 0 []:=mM (bI (w5.alloc (.cells #[.int .i64 q.node,.int .i64 q.room,.int .i64 q.aF,.int .i64 q.service,.int .i64 q.aB,.int .i64 q.aA,.slice q.A q.n q.c] 47)) (.cells #[] 47) _ (World.size_alloc _ _).symm) (Nat.le_succ _);have Xb:((w5.alloc (.cells #[] 47)).alloc (.cells #[.int .i64 q.node,.int .i64 q.room,.int .i64 q.aF,.int .i64 q.service,.int .i64 q.aB,.int .i64 q.aA,.slice q.A q.n q.c] 47)).drew.heap[w5.heap.size + 1]? = some (.cells #[.int .i64 q.node,.int .i64 q.room,.int .i64 q.aF,.int .i64 q.service,.int .i64 q.aB,.int .i64 q.aA,.slice q.A q.n q.c] 47 (0,0)):=bI (w5.alloc (.cells #[] 47)) (.cells #[.int .i64 q.node,.int .i64 q.room,.int .i64 q.aF,.int .i64 q.service,.int .i64 q.aB,.int .i64 q.aA,.slice q.A q.n q.c] 47) _ (World.size_alloc _ _).symm;have Xc:((w5.alloc (.cells #[.int .i64 q.node,.int .i64 q.room,.int .i64 q.aF,.int .i64 q.service,.int .i64 q.aB,.int .i64 q.aA,.slice q.A q.n q.c] 47)).alloc (.cells #[] 47)).drew.heap[w5.heap.size]? = some (.cells #[.int .i64 q.node,.int .i64 q.room,.int .i64 q.aF,.int .i64 q.service,.int .i64 q.aB,.int .i64 q.aA,.slice q.A q.n q.c] 47 (0,0)):=bu (heap_alloc_new w5 (.cells #[.int .i64 q.node,.int .i64 q.room,.int .i64 q.aF,.int .i64 q.service,.int .i64 q.aB,.int .i64 q.aA,.slice q.A q.n q.c] 47)) (.cells #[] 47);have Rb:=Rq.below nX.drew;have Rc:=Rq.below nV.drew;have DX:∀ (W:World) (gg:Nat),W.heap[gg]? = some (.cells #[.int .i64 q.node,.int .i64 q.room,.int .i64 q.aF,.int .i64 q.service,.int .i64 q.aB,.int .i64 q.aA,.slice q.A q.n q.c] 47 (0,0))->Rd W 7 (some ⟨gg,0,none⟩) 1 (q.cells):=λW gg h=>Rd.of_block h 7 1 rfl;have Ac:=zC DX;have Gg:∀ g,(Value.slice (some ⟨w5.heap.size + 1,0,none⟩) 0 0).ownBlock=some g->w5.heap.size<=g:=λg e=>by injection e with e;rw [<-e];exact Nat.le_succ _
    have Nb:some (w5.heap.size + 1) ≠ (Value.slice (some ⟨w5.heap.size,0,none⟩) 0 0).ownBlock:=λe=>by injection e with e;dsimp only at e;omega
    have Nc:some w5.heap.size ≠ (Value.slice (some ⟨w5.heap.size + 1,0,none⟩) 0 0).ownBlock:=λe=>by injection e with e;dsimp only at e;omega
    clear DX;go_wp2_with fail
    go_region_held3 (λw':World=>w'.cell? ⟨g,0,none⟩=some (.int .i64 x.nd)/\w'.cell? ⟨g,1,none⟩=some (.slice x.A x.n x.c)/\w'.cell? ⟨g,3,none⟩=some (.slice (some aZ) x.m x.d)/\w'.cell? (Dw.add j)=some (.slice y.A y.n y.c)/\w'.cell? (aZ.add (i * 7))=some (.int .i64 q.node)/\w'.cell? ⟨(aZ.add (i * 7)).block,(aZ.add (i * 7)).off + 1,none⟩=some (.int .i64 q.room)/\w'.cell? ⟨(aZ.add (i * 7)).block,(aZ.add (i * 7)).off + 2,none⟩=some (.int .i64 q.aF)/\w'.cell? ⟨(aZ.add (i * 7)).block,(aZ.add (i * 7)).off + 3,none⟩=some (.int .i64 q.service)/\w'.cell? ⟨(aZ.add (i * 7)).block,(aZ.add (i * 7)).off + 4,none⟩=some (.int .i64 q.aB)/\w'.cell? ⟨(aZ.add (i * 7)).block,(aZ.add (i * 7)).off + 5,none⟩=some (.int .i64 q.aA)/\w'.cell? ⟨(aZ.add (i * 7)).block,(aZ.add (i * 7)).off + 6,none⟩=some (.slice q.A q.n q.c))
     (first | with_reducible exact S8 | with_reducible exact x8 | with_reducible exact S7s | with_reducible exact S7 | with_reducible exact vY | with_reducible exact S6 | with_reducible exact G8 | with_reducible exact G6 | with_reducible exact xX | with_reducible exact GZ | with_reducible exact G7 | with_reducible exact G5 | with_reducible exact xW | with_reducible exact GY | with_reducible exact aW | with_reducible exact S0 | fail)
     (first
      | (go_at_call 29;refine (aiT ⟨x.nd,x.A,x.n,x.c,x.l,iL,iH,gU,RL,A7,sv.length + 1,k7,sv ++ [q]⟩ y.A y.n y.c y.bl _ hCs jD uk).mono ?_;rintro e w8 ⟨rfl,b8⟩;have S8:=bC.out _ (bel pU b8))
      | (have h0:=Oz;clear Oz;apply pg (hgd:=rfl) (s:=.tmp 64) (x:=.tmp 65) (t:=26) (ho:=rfl) (base:=w5.heap.size) (e:=47) (i:=i0) (z:=(.agg #[.int .i64 0,.int .i64 0,.int .i64 0,.int .i64 0,.int .i64 0,.int .i64 0,.slice none 0 0])) (size:=7) (bytes:=72) (ht:=Tryz.underlying26) (hi:=hi) (hz:=EK) (hsize:=EL) (hby:=EM) (hzs:=rfl) (hsz:=by decide) (v:=.slice (some ⟨_,0,none⟩) 0 0) (n:=0) (xs:=[]) (hs:=rfl) (A:=SV) (m:=sv.length) (c:=KF) (news:=sv.flatMap Q.cells) (hx:=rfl) (h1:=hone) (h63:=hm63) (hbytes:=yX);(first | with_reducible exact Oa | with_reducible exact Ob | with_reducible exact Oc | fail);(first | with_reducible exact Ra | with_reducible exact Rb | with_reducible exact Rc | fail);(first | with_reducible exact Fz.drew.size | with_reducible exact nX.drew.size | with_reducible exact nV.drew.size | fail);intro v6 w6 hown6 fD gW;(first | (have jh:Below w5.heap.size w5 w6:=by with_reducible exact a_ Fz.drew fD Cz) | (have jh:Below w5.heap.size w5 w6:=by with_reducible exact a_ nX.drew fD Cz) | (have jh:Below w5.heap.size w5 w6:=by with_reducible exact a_ nV.drew fD Gg) | fail);(first | (with_reducible (have hL:=eX fD Xb Nb)) | (with_reducible (have hL:=eX fD Xc Nc)) | skip);have S6:=bC.out _ jh;have mQ:Below w6.heap.size w6 (w6.alloc (.cells #[.int .i64 q.node,.int .i64 q.room,.int .i64 q.aF,.int .i64 q.service,.int .i64 q.aB,.int .i64 q.aA,.slice q.A q.n q.c] 47)):=rC _ _;have vY:=bC.out _ (bel jh mQ);rw [Nat.zero_add,List.nil_append] at hown6)
      | (have h9:=hown6;clear hown6;apply pg (hgd:=rfl) (s:=.tmp 66) (x:=.tmp 72) (t:=26) (ho:=rfl) (base:=w5.heap.size) (e:=47) (i:=i0) (z:=(.agg #[.int .i64 0,.int .i64 0,.int .i64 0,.int .i64 0,.int .i64 0,.int .i64 0,.slice none 0 0])) (size:=7) (bytes:=72) (ht:=Tryz.underlying26) (hi:=hi) (hz:=EK) (hsize:=EL) (hby:=EM) (hzs:=rfl) (hsz:=by decide) (v:=v6) (n:=sv.length) (xs:=sv.flatMap Q.cells) (hs:=rfl) (A:=some ⟨_,0,none⟩) (m:=1) (c:=1) (news:=q.cells) (hx:=rfl) (h1:=Jm) (h63:=hn63) (hbytes:=hn47);rotate_right 1;(first | with_reducible exact h9 | with_reducible exact own_below h9 mQ | fail);(first | with_reducible exact Ac.out _ _ hL | with_reducible exact Ac.out _ _ (heap_alloc_new w6 _) | fail);(first | with_reducible exact jh.size | with_reducible exact Nat.le_trans jh.size mQ.size | fail);intro v7 w7 fF fE uA;obtain ⟨A7,k7,rfl,AU,rF⟩:=dh fF;(first | (have pU:Below w5.heap.size w5 w7:=by with_reducible exact a_ jh fE (λg e=>(h9.lt g e).1)) | (have pU:Below w5.heap.size w5 w7:=by with_reducible exact a_ (bel jh mQ) fE (λg e=>(h9.lt g e).1)) | fail);have S7:=bC.out _ pU;have x8:=bC.out _ pU.drew;have hCs:=nY.out _ A7 k7 pU AU;have jD:=Gq.out.below pU)
      | fail)
    all_goals
     rw [show K.refutes (Cs.nd ⟨x.nd,x.A,x.n,x.c,x.l,iL,iH,gU,RL,A7,sv.length + 1,k7,sv ++ [q]⟩) (Cs.l ⟨x.nd,x.A,x.n,x.c,x.l,iL,iH,gU,RL,A7,sv.length + 1,k7,sv ++ [q]⟩) (Cs.ss ⟨x.nd,x.A,x.n,x.c,x.l,iL,iH,gU,RL,A7,sv.length + 1,k7,sv ++ [q]⟩) (Cs.r ⟨x.nd,x.A,x.n,x.c,x.l,iL,iH,gU,RL,A7,sv.length + 1,k7,sv ++ [q]⟩) (y.bl.map BV.pr)=K.refutes x.nd x.l R (sv ++ [q]) bb by rw [HY.out];exact K.aaQ rfl og.out _];obtain ⟨z,hz⟩:=zB (K.refutes x.nd x.l R (sv ++ [q]) bb);rw [<-hz];have Di:=zC hz;have UN:=bel pU b8;have hb8:=bel hb5 UN;have gu:=own_below hown (bel b5 UN);clear hz;cases z
     ·have HX:=zC (xO.out Di.out.symm);go_wp2_with fail;go_ret;exact ⟨by rw [HX.out];rfl,bel hb3 hb8⟩
     ·have mY:=zC (MK.out Di.out.symm);go_wp2_with fail;rw [<-L_.out];go_roundw
      case rel=>(go_light;exact ⟨i + 1,j + 1,sv,by go_num,by go_num,hlt,hj2,gu,mY.out,hb8⟩)
      case measure=>(go_light;simp [intOf];omega)
  ·have hd:decide ((i:Int) < (x.m:Int))=false:=by simp;omega
   have hd2:decide (i < x.m)=false:=by simp;omega
   have HI:Hid (i=x.r.length):=zC (by rw [<-aO.out];omega);obtain ⟨SB,cB,rfl,hCs⟩:=ND (rc:=gU) hxr (DW.below hbr) hrn hrs rfl hown hS.inr (by omega);have CC:=aic ⟨x.nd,x.A,x.n,x.c,x.l,iL,iH,gU,RL,SB,sv.length,cB,sv⟩ TA tn tc ts wr hCs (iV.below hbr) lN BC;rw [show K.checks (Cs.nd ⟨x.nd,x.A,x.n,x.c,x.l,iL,iH,gU,RL,SB,sv.length,cB,sv⟩) (Cs.l ⟨x.nd,x.A,x.n,x.c,x.l,iL,iH,gU,RL,SB,sv.length,cB,sv⟩) (Cs.ss ⟨x.nd,x.A,x.n,x.c,x.l,iL,iH,gU,RL,SB,sv.length,cB,sv⟩) (Cs.r ⟨x.nd,x.A,x.n,x.c,x.l,iL,iH,gU,RL,SB,sv.length,cB,sv⟩) (ts.map TV.pr)=K.checks x.nd x.l R sv (ts.map TV.pr) from K.Vs rfl og.out _] at CC;obtain ⟨ce,hce⟩:=zB (K.checks x.nd x.l R sv (ts.map TV.pr));rw [<-hce] at CC;have HV:=zC (show Z=(ce == 0) by
    rw [hS.val,HI.out,List.drop_length,hce];rfl)
   have p0:=af iD 0 _ rfl;have p1:=af iD 1 _ rfl;clear hce;go_wp2_with fail;refine CC.mono ?_;rintro e w9 ⟨rfl,b9⟩;go_wp2_with fail;go_ret;exact ⟨by rw [HV.out];rfl,bel hb3 (bel hbr b9)⟩
theorem K.ah1 {nd:Int} {l:List Ro} {ss:List S} (h:K.aH nd l ss [] = 0):K.plan nd l ss [] = ([],0):=by
 have hp:A.possible (K.bM nd l ss []) ss.length [] = true:=by
  unfold A.possible;rw [List.all_eq_true];intro s _;rfl
 have hf:A.first (K.bM nd l ss []) ss.length 0=some []:=by
  unfold A.first;show List.find? _ [[]] = _;rw [List.find?_cons_of_pos hp]
 unfold K.plan;rw [if_pos h,List.length_nil,hf];have:K.nR nd l ss [] [] = []:=by
  unfold K.nR;rw [List.filterMap_eq_nil_iff];intro s _;rfl
 show (K.nR nd l ss [] [],(0:Int))=_;rw [this]
theorem K.Y8 {nd:Int} {l:List Ro} {rest:List S} {r:List Q} (hp:K.aH nd l rest [] = 0):∀ (i:Nat),i<=r.length->(K.bV nd l rest r i).dG=(K.plan nd l rest (K.bV nd l rest r i).served).1.map λt=>((t.1:Int),t.2)
 | 0,_=>by
  show ([]:List (Int × K.Tr))=(K.plan nd l rest []).1.map _;rw [K.ah1 hp];rfl
 | i + 1,h=>by
  have ih:=K.Y8 hp i (Nat.le_of_succ_le h);rw [K.xg (zF h)];unfold K.lm;split
  ·rfl
  ·exact ih
structure pO (nd:Int) (l:List Ro) (R:List S) (r:List Q) (i:Nat) (d:KD):Prop where
 kept:d.kept=(K.bV nd l R r i).kept
 sv:d.sv=(K.bV nd l R r i).served
 rs:d.L.map RV.pr=(K.bV nd l R r i).reasons
 kl:d.kept.length<=i
 ll:d.L.length<=i
 sl:d.sn<=i
 inr:∀ q ∈ d.sv,q ∈ r
theorem pO.zero (nd:Int) (l:List Ro) (R:List S) (r:List Q):pO nd l R r 0 ⟨[],[],none,0,0,[],none,0,0,[]⟩ :=
 ⟨rfl,rfl,rfl,zG _,zG _,zG _,λq h=>(by cases h)⟩
theorem pO.yes {nd:Int} {l:List Ro} {R:List S} {r:List Q} {i:Nat} {d:KD} (h:pO nd l R r i d) {q:Q} (hq:r[i]? = some q) (hf:(K.plan nd l R (d.sv ++ [q])).2=0) {SA:Option Addr} {sc:Nat} :
  pO nd l R r (i + 1) ⟨d.kept ++ [(i:Int)],d.L,none,0,0,[],SA,d.sn + 1,sc,d.sv ++ [q]⟩:=by
 have e:=K.xg (nd:=nd) (l:=l) (rest:=R) hq;have hy:K.kL nd l R (K.bV nd l R r i) q=true:=by unfold K.kL;rw [<-h.sv,hf];rfl
 unfold K.lm at e;rw [if_pos hy] at e;refine ⟨?_,?_,?_,?_,?_,?_,?_⟩
 ·rw [e];show d.kept ++ _=_;rw [h.kept]
 ·rw [e];show d.sv ++ _=_;rw [h.sv]
 ·rw [e];exact h.rs
 ·show (d.kept ++ [(i:Int)]).length<=i + 1;have:=h.kl;rw [List.length_append,List.length_singleton];omega
 ·have:=h.ll;show d.L.length<=i + 1;omega
 ·have:=h.sl;show d.sn + 1<=i + 1;omega
 ·intro p hp;rcases List.mem_append.1 hp with hp | hp
  ·exact h.inr p hp
  ·rw [List.mem_singleton.1 hp];exact zD hq
theorem pO.no {nd:Int} {l:List Ro} {R:List S} {r:List Q} {i:Nat} {d:KD} (h:pO nd l R r i d) {q:Q} (hq:r[i]? = some q) (hf:(K.plan nd l R (d.sv ++ [q])).2 ≠ 0) {y:RV} (hy:y.bl.map BV.pr=(K.refute nd l R (d.sv ++ [q])).1.map λb=>((b.1:Int),b.2)) :
  pO nd l R r (i + 1) ⟨d.kept,d.L ++ [y],d.TA,d.tn,d.tc,d.ts,d.SA,d.sn,d.sc,d.sv⟩:=by
 have e:=K.xg (nd:=nd) (l:=l) (rest:=R) hq;have hn:¬ K.kL nd l R (K.bV nd l R r i) q=true:=by unfold K.kL;rw [<-h.sv,beq_iff_eq];exact hf
 unfold K.lm at e;rw [if_neg hn] at e;refine ⟨?_,?_,?_,?_,?_,?_,h.inr⟩
 ·rw [e];exact h.kept
 ·rw [e];exact h.sv
 ·rw [e];show (d.L ++ [y]).map RV.pr=_;rw [List.map_append,h.rs,<-h.sv,<-hy];rfl
 ·have:=h.kl;show d.kept.length<=i + 1;omega
 ·show (d.L ++ [y]).length<=i + 1;have:=h.ll;rw [List.length_append,List.length_singleton];omega
 ·have:=h.sl;show d.sn<=i + 1;omega
def Uc (w w':World) (k:K.Kp) (er:Int) (e:Ending):Prop :=
 (∃ KA kn kc TA tn tc ts RA rn rc L,e=.returned (.tuple #[.slice KA kn kc,.slice TA tn tc,.slice RA rn rc,.int .i64 er])/\Ints w' KA kn k.kept/\dY w' TA tn ts/\ts.map TV.pr=k.dG/\lD w' RA rn L/\L.map RV.pr=k.reasons)/\Below w.heap.size w w'
theorem aiq {w w':World} {er:Int} (hb:Below w.heap.size w w'):Uc w w' K.Kp.zero er (.returned (.tuple #[.slice none 0 0,.slice none 0 0,.slice none 0 0,.int .i64 er])) :=
 ⟨⟨none,0,0,none,0,0,[],none,0,0,[],rfl,⟨rfl,rfl,λh=>absurd h (by decide)⟩,⟨⟨rfl,rfl,λh=>absurd h (by decide)⟩,λy h=>(by cases h)⟩,rfl,⟨⟨rfl,rfl,λh=>absurd h (by decide)⟩,λy h=>(by cases h)⟩,rfl⟩,hb⟩
theorem aiB (x:Cs) (LA:Option Addr) (ln lc:Nat) (lost:List Int) (w:World) (hx:bF w x) (hL:Ints w LA ln lost) (hln:ln<=1000000000) (hsn:x.sn<=1000000) (kK:∀ s ∈ x.ss,s.n<=1000000) (Ep:x.m<=6->x.m<=4) :
  Calls Tryz.prog 48 #[.agg #[.int .i64 x.nd,.slice x.A x.n x.c,.slice x.SA x.sn x.sc,.slice x.B x.m x.d],.slice LA ln lc] w λe w'=>Uc w w' (K.cZ x.nd x.l x.ss x.r lost).1 (K.cZ x.nd x.l x.ss x.r lost).2 e:=by
 obtain ⟨w1,hw1⟩:=zB (w.alloc (.cells #[.int .i64 x.nd,.slice x.A x.n x.c,.slice x.SA x.sn x.sc,.slice x.B x.m x.d] 44));obtain ⟨g,hg⟩:=zB w.heap.size;have b1:=zA hw1;have hN1:ja w1 g x:=by rw [hw1,hg];exact ja.new _ _
 have p0:=af hN1 0 _ rfl;have p1:=af hN1 1 _ rfl;have p2:=af hN1 2 _ rfl;have p3:=af hN1 3 _ rfl;have CR:=Rt x LA ln lc lost w1 (hx.below b1) (hL.below b1) hln hsn;obtain ⟨KK,oH⟩:=zB (K.cZ x.nd x.l x.ss x.r lost);rw [<-oH];have HKK:=zC oH;clear oH;go_enter Tryz.func48,Tryz.ntmps48;go_upto_region 1 with fail;rw [<-hw1,<-hg];clear hw1 hg;go_wp2_with fail;refine CR.mono ?_;obtain ⟨er,her⟩:=zB (K.dM x.nd x.l x.ss x.r lost);rw [<-her];have dV:=zC her;clear her;rintro e w2 ⟨⟨RA,rn,rc,RL,rfl,hRS,jm⟩,b2⟩;have aY:=hN1.below b2;have hb2:=bel b1 b2;clear CR p0 p1 p2 p3 b1 b2 hN1;by_cases hz:er=0;rotate_left
 ·have HX:=zC (show KK=(K.Kp.zero,er) by rw [HKK.out,dV.out];unfold K.cZ;rw [if_neg (by rw [<-dV.out];exact hz)]);have hd:(er != 0)=true:=by simp [bne,hz]
  go_wp2_with fail;refine bodyPost_ret (J_ rfl _ _ _) rfl ?_;rw [HX.out];exact aiq hb2
 subst hz;have hE0:K.dM x.nd x.l x.ss x.r lost=0:=dV.out.symm;have HP:=zC (K.BQ hE0).2;have hm4:x.m<=4:=Ep (by rw [hx.aN.1];exact (K.gQ HP.out).2.2.2.2);obtain ⟨R,hR⟩:=zB (K.jV x.nd x.l x.ss x.r lost);rw [<-hR] at jm;have HR:=zC (show R=K.dN lost 0 x.ss by rw [hR];unfold K.jV;rw [if_pos hE0]);obtain ⟨hrn,hrs⟩:=FM hx hsn kK (by rw [hR];exact FI) hRS jm;have Lm:=zC (show KK=(K.bV x.nd x.l R x.r x.r.length,0) by rw [HKK.out];unfold K.cZ;rw [if_pos hE0,HR.out,K.BJ]);have og:=zC jm;have aO:=zC hx.aN.1;clear HKK dV hE0 hR jm Ep;obtain ⟨B,hB⟩:=zB w2.heap.size;have hBz:w.heap.size<=B:=by rw [hB];exact hb2.size
 have HB:=zC hB;have hQ2:=hx.aN.below hb2;clear hB;go_upto_region 7 with fail;go_wp2_with fail;go_loopw [10,11,12,13] (λv10 v11 v12 v13 wr=>∃ (i:Nat) (d:KD),v13=.int .i64 i/\i<=x.m/\v11=.slice d.SA d.sn d.sc/\ig wr B v10 v12 d/\pO x.nd x.l R x.r i d/\Below w2.heap.size w2 wr) (λ_ _ _ v13 _=>x.m - (intOf v13).toNat)
 case atStart=>exact ⟨0,_,rfl,Nat.zero_le _,rfl,ig.zero _ _,pO.zero _ _ _ _,Below.refl _ _⟩
 case round =>
  obtain ⟨i,d,rfl,hi,rfl,hK,hS,hbr⟩:=hrel;have hbw:=bel hb2 hbr;have iD:=aY.below hbr;have p0:=af iD 0 _ rfl;have p1:=af iD 1 _ rfl;have p3:=af iD 3 _ rfl;have hsl:=hS.sl;have hkl:=hS.kl;have hll:=hS.ll;by_cases hlt:i < x.m
  ·obtain ⟨aZ,q,hA,hq,hW,c0,c1,c2,c3,c4,c5,c6⟩:=(hx.aN.below hbw).at_ hlt;have HQ:=zC hq;have k0:(0:Int)<=(i:Int):=by omega
   have k1:(i:Int) < (x.m:Int):=by omega
   have kd:decide ((i:Int) < (x.m:Int))=true:=zH k1;have qE:decide (i < x.m)=true:=zH hlt;rw [hA] at p3;have HA:=zC hA;have bC:=zC (show ∀ w',Below wr.heap.size wr w'->(λw':World=>w'.cell? ⟨g,3,none⟩=some (.slice (some aZ) x.m x.d)/\w'.cell? (aZ.add (i * 7))=some (.int .i64 q.node)/\w'.cell? ⟨(aZ.add (i * 7)).block,(aZ.add (i * 7)).off + 1,none⟩=some (.int .i64 q.room)/\w'.cell? ⟨(aZ.add (i * 7)).block,(aZ.add (i * 7)).off + 2,none⟩=some (.int .i64 q.aF)/\w'.cell? ⟨(aZ.add (i * 7)).block,(aZ.add (i * 7)).off + 3,none⟩=some (.int .i64 q.service)/\w'.cell? ⟨(aZ.add (i * 7)).block,(aZ.add (i * 7)).off + 4,none⟩=some (.int .i64 q.aB)/\w'.cell? ⟨(aZ.add (i * 7)).block,(aZ.add (i * 7)).off + 5,none⟩=some (.int .i64 q.aA)/\w'.cell? ⟨(aZ.add (i * 7)).block,(aZ.add (i * 7)).off + 6,none⟩=some (.slice q.A q.n q.c)) w' from λw' h =>
    ⟨(h.cell (cell_lt p3)).trans p3,(h.cell (cell_lt c0)).trans c0,(h.cell (cell_lt c1)).trans c1,(h.cell (cell_lt c2)).trans c2,(h.cell (cell_lt c3)).trans c3,(h.cell (cell_lt c4)).trans c4,(h.cell (cell_lt c5)).trans c5,(h.cell (cell_lt c6)).trans c6⟩)
   have Xd:Rd wr 7 d.SA d.sn (d.sv.flatMap Q.cells):=by have h:=hK.served.2.1;rw [xw] at h;exact h
   go_upto_region 10 with fail;clear kd qE hA hq c0 c1 c2 c3 c4 c5 c6;have rQ:Below wr.heap.size wr wr:=Below.refl _ _;have Fd:Below wr.heap.size wr wr.drew:=rQ.drew;have Fz:Below wr.heap.size wr (wr.alloc (.cells #[] 47)):=rC _ _;have S0:=bC.out _ rQ;have aW:=bC.out _ Fd;have xW:=bC.out _ Fz;have xX:=bC.out _ Fz.drew;obtain ⟨i0,hi,EK,EL,EM⟩:=info_parts yu;have hone:∀ u ∈ d.sv.flatMap Q.cells,u.oneCell'=true:=NP Q.cells uQ _;have Jm:∀ u ∈ q.cells,u.oneCell'=true:=uQ q;have hm63:0 + d.sn<=maxLen:=by simp only [maxLen];omega
   have yX:(0 + d.sn) * 72<=140737488355328:=by omega
   have hn63:d.sn + 1<=maxLen:=by simp only [maxLen];omega
   have hn47:(d.sn + 1) * 72<=140737488355328:=by omega
   have Cz:∀ g,(Value.slice (some ⟨wr.heap.size,0,none⟩) 0 0).ownBlock=some g->wr.heap.size<=g:=λg e=>by injection e with e;rw [<-e];exact zG _
   have Oa:(wr.alloc (.cells #[] 47)).drew.ownsRow wr.heap.size 47 7 (.slice (some ⟨wr.heap.size,0,none⟩) 0 0) 0 []:=mM (heap_alloc_new wr (.cells #[] 47)) (zG _);have Rq:Rd wr 7 (d.SA) d.sn (d.sv.flatMap Q.cells):=Xd;have Ra:=Rq.below Fz.drew;have Oz:True:=trivial;have Fx:Below wr.heap.size wr (wr.alloc (.cells #[.int .i64 q.node,.int .i64 q.room,.int .i64 q.aF,.int .i64 q.service,.int .i64 q.aB,.int .i64 q.aA,.slice q.A q.n q.c] 47)):=rC _ _;have nX:Below wr.heap.size wr ((wr.alloc (.cells #[] 47)).alloc (.cells #[.int .i64 q.node,.int .i64 q.room,.int .i64 q.aF,.int .i64 q.service,.int .i64 q.aB,.int .i64 q.aA,.slice q.A q.n q.c] 47)):=bel Fz (rC _ _);have nV:Below wr.heap.size wr ((wr.alloc (.cells #[.int .i64 q.node,.int .i64 q.room,.int .i64 q.aF,.int .i64 q.service,.int .i64 q.aB,.int .i64 q.aA,.slice q.A q.n q.c] 47)).alloc (.cells #[] 47)):=bel Fx (rC _ _);have GY:=bC.out _ Fx;have G7:=bC.out _ nX;have G5:=bC.out _ nV;have GZ:=bC.out _ Fx.drew;have G8:=bC.out _ nX.drew;have G6:=bC.out _ nV.drew;have Ob:((wr.alloc (.cells #[] 47)).alloc (.cells #[.int .i64 q.node,.int .i64 q.room,.int .i64 q.aF,.int .i64 q.service,.int .i64 q.aB,.int .i64 q.aA,.slice q.A q.n q.c] 47)).drew.ownsRow wr.heap.size 47 7 (.slice (some ⟨wr.heap.size,0,none⟩) 0 0) 0 []:=mM (bu (heap_alloc_new wr (.cells #[] 47)) (.cells #[.int .i64 q.node,.int .i64 q.room,.int .i64 q.aF,.int .i64 q.service,.int .i64 q.aB,.int .i64 q.aA,.slice q.A q.n q.c] 47)) (zG _);have Oc:((wr.alloc (.cells #[.int .i64 q.node,.int .i64 q.room,.int .i64 q.aF,.int .i64 q.service,.int .i64 q.aB,.int .i64 q.aA,.slice q.A q.n q.c] 47)).alloc (.cells #[] 47)).drew.ownsRow wr.heap.size 47 7 (.slice (some ⟨wr.heap.size + 1,0,none⟩) 0 0) 0 []:=mM (bI (wr.alloc (.cells #[.int .i64 q.node,.int .i64 q.room,.int .i64 q.aF,.int .i64 q.service,.int .i64 q.aB,.int .i64 q.aA,.slice q.A q.n q.c] 47)) (.cells #[] 47) _ (World.size_alloc _ _).symm) (Nat.le_succ _);have Xb:((wr.alloc (.cells #[] 47)).alloc (.cells #[.int .i64 q.node,.int .i64 q.room,.int .i64 q.aF,.int .i64 q.service,.int .i64 q.aB,.int .i64 q.aA,.slice q.A q.n q.c] 47)).drew.heap[wr.heap.size + 1]? = some (.cells #[.int .i64 q.node,.int .i64 q.room,.int .i64 q.aF,.int .i64 q.service,.int .i64 q.aB,.int .i64 q.aA,.slice q.A q.n q.c] 47 (0,0)):=bI (wr.alloc (.cells #[] 47)) (.cells #[.int .i64 q.node,.int .i64 q.room,.int .i64 q.aF,.int .i64 q.service,.int .i64 q.aB,.int .i64 q.aA,.slice q.A q.n q.c] 47) _ (World.size_alloc _ _).symm;have Xc:((wr.alloc (.cells #[.int .i64 q.node,.int .i64 q.room,.int .i64 q.aF,.int .i64 q.service,.int .i64 q.aB,.int .i64 q.aA,.slice q.A q.n q.c] 47)).alloc (.cells #[] 47)).drew.heap[wr.heap.size]? = some (.cells #[.int .i64 q.node,.int .i64 q.room,.int .i64 q.aF,.int .i64 q.service,.int .i64 q.aB,.int .i64 q.aA,.slice q.A q.n q.c] 47 (0,0)):=bu (heap_alloc_new wr (.cells #[.int .i64 q.node,.int .i64 q.room,.int .i64 q.aF,.int .i64 q.service,.int .i64 q.aB,.int .i64 q.aA,.slice q.A q.n q.c] 47)) (.cells #[] 47);have Rb:=Rq.below nX.drew;have Rc:=Rq.below nV.drew;have DX:∀ (W:World) (gg:Nat),W.heap[gg]? = some (.cells #[.int .i64 q.node,.int .i64 q.room,.int .i64 q.aF,.int .i64 q.service,.int .i64 q.aB,.int .i64 q.aA,.slice q.A q.n q.c] 47 (0,0))->Rd W 7 (some ⟨gg,0,none⟩) 1 (q.cells):=λW gg h=>Rd.of_block h 7 1 rfl;have Ac:=zC DX;have Gg:∀ g,(Value.slice (some ⟨wr.heap.size + 1,0,none⟩) 0 0).ownBlock=some g->wr.heap.size<=g:=λg e=>by injection e with e;rw [<-e];exact Nat.le_succ _
   have Nb:some (wr.heap.size + 1) ≠ (Value.slice (some ⟨wr.heap.size,0,none⟩) 0 0).ownBlock:=λe=>by injection e with e;dsimp only at e;omega
   have Nc:some wr.heap.size ≠ (Value.slice (some ⟨wr.heap.size + 1,0,none⟩) 0 0).ownBlock:=λe=>by injection e with e;dsimp only at e;omega
   clear DX;clear p0 p1 p3;go_cut [14] from 37 to 46 (λv14 wc=>∃ A7 k7,v14=.slice A7 (d.sn + 1) k7/\Rd wc 7 A7 (d.sn + 1) (d.sv.flatMap Q.cells ++ q.cells)/\(∀ ad,A7=some ad->wr.heap.size<=ad.block)/\Below wr.heap.size wr wc)
   case first =>
    go_region_held3 (λw':World=>w'.cell? ⟨g,3,none⟩=some (.slice (some aZ) x.m x.d)/\w'.cell? (aZ.add (i * 7))=some (.int .i64 q.node)/\w'.cell? ⟨(aZ.add (i * 7)).block,(aZ.add (i * 7)).off + 1,none⟩=some (.int .i64 q.room)/\w'.cell? ⟨(aZ.add (i * 7)).block,(aZ.add (i * 7)).off + 2,none⟩=some (.int .i64 q.aF)/\w'.cell? ⟨(aZ.add (i * 7)).block,(aZ.add (i * 7)).off + 3,none⟩=some (.int .i64 q.service)/\w'.cell? ⟨(aZ.add (i * 7)).block,(aZ.add (i * 7)).off + 4,none⟩=some (.int .i64 q.aB)/\w'.cell? ⟨(aZ.add (i * 7)).block,(aZ.add (i * 7)).off + 5,none⟩=some (.int .i64 q.aA)/\w'.cell? ⟨(aZ.add (i * 7)).block,(aZ.add (i * 7)).off + 6,none⟩=some (.slice q.A q.n q.c))
     (first | with_reducible exact S7s | with_reducible exact S7 | with_reducible exact vY | with_reducible exact S6 | with_reducible exact G8 | with_reducible exact G6 | with_reducible exact xX | with_reducible exact GZ | with_reducible exact G7 | with_reducible exact G5 | with_reducible exact xW | with_reducible exact GY | with_reducible exact aW | with_reducible exact S0 | fail)
     (first
      | (have h0:=Oz;clear Oz;apply pg (hgd:=rfl) (s:=.tmp 37) (x:=.tmp 38) (t:=26) (ho:=rfl) (base:=wr.heap.size) (e:=47) (i:=i0) (z:=(.agg #[.int .i64 0,.int .i64 0,.int .i64 0,.int .i64 0,.int .i64 0,.int .i64 0,.slice none 0 0])) (size:=7) (bytes:=72) (ht:=Tryz.underlying26) (hi:=hi) (hz:=EK) (hsize:=EL) (hby:=EM) (hzs:=rfl) (hsz:=by decide) (v:=.slice (some ⟨_,0,none⟩) 0 0) (n:=0) (xs:=[]) (hs:=rfl) (A:=d.SA) (m:=d.sn) (c:=d.sc) (news:=d.sv.flatMap Q.cells) (hx:=rfl) (h1:=hone) (h63:=hm63) (hbytes:=yX);(first | with_reducible exact Oa | with_reducible exact Ob | with_reducible exact Oc | fail);(first | with_reducible exact Ra | with_reducible exact Rb | with_reducible exact Rc | fail);(first | with_reducible exact Fz.drew.size | with_reducible exact nX.drew.size | with_reducible exact nV.drew.size | fail);intro v6 w6 hown6 fD gW;(first | (have jh:Below wr.heap.size wr w6:=by with_reducible exact a_ Fz.drew fD Cz) | (have jh:Below wr.heap.size wr w6:=by with_reducible exact a_ nX.drew fD Cz) | (have jh:Below wr.heap.size wr w6:=by with_reducible exact a_ nV.drew fD Gg) | fail);(first | (with_reducible (have hL:=eX fD Xb Nb)) | (with_reducible (have hL:=eX fD Xc Nc)) | skip);have S6:=bC.out _ jh;have mQ:Below w6.heap.size w6 (w6.alloc (.cells #[.int .i64 q.node,.int .i64 q.room,.int .i64 q.aF,.int .i64 q.service,.int .i64 q.aB,.int .i64 q.aA,.slice q.A q.n q.c] 47)):=rC _ _;have vY:=bC.out _ (bel jh mQ);rw [Nat.zero_add,List.nil_append] at hown6)
      | (have h9:=hown6;clear hown6;apply pg (hgd:=rfl) (s:=.tmp 39) (x:=.tmp 45) (t:=26) (ho:=rfl) (base:=wr.heap.size) (e:=47) (i:=i0) (z:=(.agg #[.int .i64 0,.int .i64 0,.int .i64 0,.int .i64 0,.int .i64 0,.int .i64 0,.slice none 0 0])) (size:=7) (bytes:=72) (ht:=Tryz.underlying26) (hi:=hi) (hz:=EK) (hsize:=EL) (hby:=EM) (hzs:=rfl) (hsz:=by decide) (v:=v6) (n:=d.sn) (xs:=d.sv.flatMap Q.cells) (hs:=rfl) (A:=some ⟨_,0,none⟩) (m:=1) (c:=1) (news:=q.cells) (hx:=rfl) (h1:=Jm) (h63:=hn63) (hbytes:=hn47);rotate_right 1;(first | with_reducible exact h9 | with_reducible exact own_below h9 mQ | fail);(first | with_reducible exact Ac.out _ _ hL | with_reducible exact Ac.out _ _ (heap_alloc_new w6 _) | fail);(first | with_reducible exact jh.size | with_reducible exact Nat.le_trans jh.size mQ.size | fail);intro v7 w7 fF fE uA;obtain ⟨A7,k7,rfl,AU,rF⟩:=dh fF;(first | (have pU:Below wr.heap.size wr w7:=by with_reducible exact a_ jh fE (λg e=>(h9.lt g e).1)) | (have pU:Below wr.heap.size wr w7:=by with_reducible exact a_ (bel jh mQ) fE (λg e=>(h9.lt g e).1)) | fail);have S7:=bC.out _ pU)
      | fail)
    all_goals go_wp2_with fail
    all_goals go_meet
    all_goals exact ⟨A7,k7,rfl,AU,λad e=>(rF ad.block (by rw [e];rfl)).1,pU⟩
   case rest =>
   obtain ⟨A7,k7,rfl,AU,Aw,b5⟩:=hcut;obtain ⟨w5,hw5⟩:=zB wc;rw [<-hw5] at AU b5;rw [<-hw5];clear hw5 Xd rQ Fd Fz S0 aW xW xX hone Jm hm63 yX hn63 hn47 Cz Oa Rq Ra Oz Fx nX nV GY G7 G5 GZ G8 G6 Ob Oc Xb Xc Rb Rc Ac Gg Nb Nc;have hK5:=hK.below b5;have iQ:=iD.below b5;have hS5:bW w5 A7 (d.sn + 1) (d.sv ++ [q]):=⟨by rw [List.length_append,<-hK.served.1];rfl,by rw [xw,List.flatMap_append,List.flatMap_singleton];exact AU,λp hp=>by
    rcases List.mem_append.1 hp with hp | hp
    ·exact (hK5.served).2.2 p hp
    ·rw [List.mem_singleton.1 hp];exact hW.below b5⟩
   have hUS:∀ g,UQ A7 (d.sn + 1) (d.sv ++ [q]) g->wr.heap.size<=g\/g < B:=by
    rintro g (⟨-,ad,e,rfl⟩ | ⟨p,hp,e⟩)
    ·exact .inl (Aw ad e)
    ·refine .inr ?_;rw [HB.out];have hpr:p ∈ x.r:=by
      rcases List.mem_append.1 hp with hp | hp
      ·exact hS.inr p hp
      ·rw [List.mem_singleton.1 hp];exact zD HQ.out
     exact hQ2.jC (.inr ⟨p,hpr,e⟩)
   have hCs:bF w5 ⟨x.nd,x.A,x.n,x.c,x.l,RA,rn,rc,RL,A7,d.sn + 1,k7,d.sv ++ [q]⟩ :=
    ⟨aQ.below hx.net (bel hbw b5),hRS.below (bel hbr b5),hS5,hx.b1,λs hs=>by have:=hrs s hs;omega,by show rn<=_;omega,by show d.sn + 1<=_;omega,λp hp=>by
     rcases List.mem_append.1 hp with hp | hp
     ·exact hx.b5 p (hS.inr p hp)
     ·rw [List.mem_singleton.1 hp];exact hx.b5 q (zD HQ.out)⟩
   have Il:d.sn + 1<=4:=by omega
   have CP:=Rn ⟨x.nd,x.A,x.n,x.c,x.l,RA,rn,rc,RL,A7,d.sn + 1,k7,d.sv ++ [q]⟩ w5 hCs (λ_=>Il);rw [show K.plan (Cs.nd ⟨x.nd,x.A,x.n,x.c,x.l,RA,rn,rc,RL,A7,d.sn + 1,k7,d.sv ++ [q]⟩) (Cs.l ⟨x.nd,x.A,x.n,x.c,x.l,RA,rn,rc,RL,A7,d.sn + 1,k7,d.sv ++ [q]⟩) (Cs.ss ⟨x.nd,x.A,x.n,x.c,x.l,RA,rn,rc,RL,A7,d.sn + 1,k7,d.sv ++ [q]⟩) (Cs.r ⟨x.nd,x.A,x.n,x.c,x.l,RA,rn,rc,RL,A7,d.sn + 1,k7,d.sv ++ [q]⟩)=K.plan x.nd x.l R (d.sv ++ [q]) from K.JZ rfl og.out] at CP;obtain ⟨PP,l_⟩:=zB (K.plan x.nd x.l R (d.sv ++ [q]));rw [<-l_] at CP;have qQ:=zC l_;clear l_;have p0:=af iQ 0 _ rfl;have p1:=af iQ 1 _ rfl;go_wp2_with fail;refine CP.mono ?_;rintro e w6 ⟨⟨TA,tn,tc,ts,rfl,-,-,-,-⟩,b6⟩;have aX:=bel b5 b6;have hK6:=hK5.below b6;have kY:=iQ.below b6;have N_:=hCs.below b6;have hS6:=hS5.below b6;obtain ⟨f,hf⟩:=zB PP.2;rw [<-hf];have HF:=zC hf;clear hf CP p0 p1 iQ hCs hS5 hK5;by_cases hf0:f=0
   ·subst hf0;have mY:=zC (hS.yes (SA:=A7) (sc:=k7) HQ.out (by rw [<-qQ.out];exact HF.out.symm));obtain ⟨w8,hw8⟩:=zB (w6.alloc (.cells #[.int .i64 i] 3));obtain ⟨g8,gY⟩:=zB w6.heap.size;have b8:=zA hw8;have lQ:w8.heap[g8]? = some (.cells #[.int .i64 i] 3 (0,0)):=by rw [hw8,gY];exact heap_alloc_new _ _
    have hK8:=(hK6.turn (TA:=none) (tn:=0) (tc:=0) (ts:=[]) (sc:=k7) ⟨⟨rfl,rfl,λh=>absurd h (by decide)⟩,λy h=>(by cases h)⟩ ⟨zG _,λy h=>(by cases h)⟩ hS6 (λg e=>by
     rcases e with ⟨h,-⟩ | ⟨y,hy,-⟩
     ·exact absurd h (Nat.lt_irrefl 0)
     ·cases hy) (λg e=>hK.new (Below.refl _ _) (hUS g e))).below b8
    have hb8:=bel hbr (bel aX b8);have iY:B<=w8.heap.size:=by rw [HB.out];exact hb8.size
    have afe:d.kept.length<=1000000:=by omega
    go_wp2_with (first
     | (at_builtin;rw [<-hw8,<-gY];refine rq rfl _ _ rfl B _ d.kept.length d.kept rfl hK8.row4 g8 i rfl lQ afe iY ?_;intro v' w9 b_ jE kZ)
     | fail)
    have hK9:=hK8.UD jE kZ b_;have bU:Below w2.heap.size w2 w9:=a_ hb8 jE (λg e=>by rw [<-HB.out];exact (bG hK8.row4 g e).1);go_roundw
    case rel=>(go_light;exact ⟨i + 1,_,by go_num,hlt,rfl,hK9,mY.out,bU⟩)
    case measure=>(go_light;simp [intOf];omega)
   ·have LJ:=zC (show (K.plan x.nd x.l R (d.sv ++ [q])).2 ≠ 0 by rw [<-qQ.out,<-HF.out];exact hf0);have hd:(f == 0)=false:=by simp [hf0]
    have hd2:decide (f=0)=false:=by simp [hf0]
    have CF:=aiS ⟨x.nd,x.A,x.n,x.c,x.l,RA,rn,rc,RL,A7,d.sn + 1,k7,d.sv ++ [q]⟩ w6 N_ (λ_=>Il);rw [show K.refute (Cs.nd ⟨x.nd,x.A,x.n,x.c,x.l,RA,rn,rc,RL,A7,d.sn + 1,k7,d.sv ++ [q]⟩) (Cs.l ⟨x.nd,x.A,x.n,x.c,x.l,RA,rn,rc,RL,A7,d.sn + 1,k7,d.sv ++ [q]⟩) (Cs.ss ⟨x.nd,x.A,x.n,x.c,x.l,RA,rn,rc,RL,A7,d.sn + 1,k7,d.sv ++ [q]⟩) (Cs.r ⟨x.nd,x.A,x.n,x.c,x.l,RA,rn,rc,RL,A7,d.sn + 1,k7,d.sv ++ [q]⟩)=K.refute x.nd x.l R (d.sv ++ [q]) from K.Rf rfl og.out] at CF;obtain ⟨PF,yK⟩:=zB ((K.refute x.nd x.l R (d.sv ++ [q])).1.map λb=>((b.1:Int),b.2));obtain ⟨ef,hef⟩:=zB ((K.refute x.nd x.l R (d.sv ++ [q])).2);rw [<-yK,<-hef] at CF;have LX:=zC yK;have p0:=af kY 0 _ rfl;have p1:=af kY 1 _ rfl;clear yK hef;go_wp2_with fail;refine CF.mono ?_;rintro e w7 ⟨⟨FA,fn,fc,fl,rfl,rF,hfp,Wj,hfc,uk⟩,b7⟩;have bf:=zC (hS.no HQ.out LJ.out (y:=⟨FA,fn,fc,fl⟩) (by rw [<-LX.out];exact hfp));have b57:=bel aX b7;obtain ⟨w8,hw8⟩:=zB (w7.alloc (.cells #[.slice FA fn fc] 28));obtain ⟨g8,gY⟩:=zB w7.heap.size;have b8:=zA hw8;have lQ:w8.heap[g8]? = some (.cells #[.slice FA fn fc] 28 (0,0)):=by rw [hw8,gY];exact heap_alloc_new _ _
    have hK8:=(hK6.below b7).below b8;have Oe:=rF.below b8;have hb8:=bel hbr (bel b57 b8);have iY:B<=w8.heap.size:=by rw [HB.out];exact hb8.size
    obtain ⟨i0,hi0,hy0,hy1,hy2⟩:=info_parts Tryz.info28k;clear p0 p1 CF;go_wp2_with (first
     | (at_builtin;rw [<-hw8,<-gY];refine jW rfl _ _ 65 rfl B 28 i0 (.slice none 0 0) 1 24 Tryz.underlying65k hi0 hy0 hy1 hy2 rfl (by decide) _ d.L.length (d.L.flatMap RV.cells) rfl hK8.qG (some ⟨g8,0,none⟩) 1 1 (RV.cells ⟨FA,fn,fc,fl⟩) rfl (Rd.of_block lQ 1 1 rfl) (by intro u hu;rw [show u=.slice FA fn fc from List.mem_singleton.1 hu];rfl) (by simp only [maxLen];omega) (by omega) iY ?_;intro v' w9 b_ jE kZ)
     | fail)
    have hK9:=hK8.UE (y:=⟨FA,fn,fc,fl⟩) jE kZ Oe ⟨uk,hfc⟩ (λg e=>(hK.new aX (.inl (Wj g e))).1) (λg e=>(hK.new aX (.inl (Wj g e))).2) (by rw [List.flatMap_append,List.flatMap_singleton];exact b_);have bU:Below w2.heap.size w2 w9:=a_ hb8 jE (λg e=>by rw [<-HB.out];exact (bG hK8.qG g e).1);go_roundw
    case rel=>(go_light;exact ⟨i + 1,⟨d.kept,d.L ++ [⟨FA,fn,fc,fl⟩],d.TA,d.tn,d.tc,d.ts,d.SA,d.sn,d.sc,d.sv⟩,by go_num,hlt,rfl,hK9,bf.out,bU⟩)
    case measure=>(go_light;simp [intOf];omega)
  ·have hd:decide ((i:Int) < (x.m:Int))=false:=by simp;omega
   have hd2:decide (i < x.m)=false:=by simp;omega
   have HE:Hid (i=x.r.length):=zC (by rw [<-aO.out];omega);obtain ⟨KA,kc,rfl,OD,-⟩:=dh hK.row4;obtain ⟨FA,fc,rfl,eG,-⟩:=dh hK.qG;have hP0:K.aH x.nd x.l R [] = 0:=K.JW HP.out (by rw [HR.out];exact K.uS _ _) (List.nil_sublist _);have MH:=zC (K.Y8 (nd:=x.nd) (l:=x.l) (r:=x.r) hP0 x.r.length (zG _));have hSl:pO x.nd x.l R x.r x.r.length d:=by rw [<-HE.out];exact hS
   have MF:=zC hSl;have hCs:bF wr ⟨x.nd,x.A,x.n,x.c,x.l,RA,rn,rc,RL,d.SA,d.sn,d.sc,d.sv⟩ :=
    ⟨aQ.below hx.net hbw,hRS.below hbr,hK.served,hx.b1,λs hs=>by have:=hrs s hs;omega,by show rn<=_;omega,by show d.sn<=_;omega,λp hp=>hx.b5 p (hS.inr p hp)⟩
   have Il:d.sn<=4:=by omega
   have CP:=Rn ⟨x.nd,x.A,x.n,x.c,x.l,RA,rn,rc,RL,d.SA,d.sn,d.sc,d.sv⟩ wr hCs (λ_=>Il);rw [show K.plan (Cs.nd ⟨x.nd,x.A,x.n,x.c,x.l,RA,rn,rc,RL,d.SA,d.sn,d.sc,d.sv⟩) (Cs.l ⟨x.nd,x.A,x.n,x.c,x.l,RA,rn,rc,RL,d.SA,d.sn,d.sc,d.sv⟩) (Cs.ss ⟨x.nd,x.A,x.n,x.c,x.l,RA,rn,rc,RL,d.SA,d.sn,d.sc,d.sv⟩) (Cs.r ⟨x.nd,x.A,x.n,x.c,x.l,RA,rn,rc,RL,d.SA,d.sn,d.sc,d.sv⟩)=K.plan x.nd x.l R (d.sv) from K.JZ rfl og.out] at CP;clear hSl hP0;go_wp2_with fail;refine CP.mono ?_;rintro e w6 ⟨⟨TA,tn,tc,ts,rfl,hT,hts,-,-⟩,b6⟩;have iT:=zC hts;clear CP hts p0 p1 p3;go_wp2_with fail;refine bodyPost_ret (J_ rfl _ _ _) rfl ?_;rw [Lm.out];exact ⟨⟨KA,d.kept.length,kc,TA,tn,tc,ts,FA,d.L.length,fc,d.L,rfl,by rw [<-MF.out.kept];exact ⟨rfl,OD.below b6⟩,hT,by rw [MH.out,<-MF.out.sv];exact iT.out,⟨⟨rfl,eG.below b6⟩,λy hy=>(hK.reasons y hy).below b6⟩,MF.out.rs⟩,bel hbw b6⟩
end Go.Proofs.YtippdjmpkafifaaGreat
