import Derived.Test.YtippdjmpkafifaaGreatCR18
import Derived.Test.YtippdjmpkafifaaGreatCR17
import Derived.Laws.ResultCell
import Derived.Test.YtippdjmpkafifaaGreatCR12
set_option maxRecDepth 100000
set_option maxHeartbeats 64000000
namespace Go.Proofs.YtippdjmpkafifaaGreat
open Go.RowKit
def Ai (w:World) (g:Nat) (b:Option K.Tr):Prop :=
 ∃ A n c A' n' c',kZ w g (.slice A n c) (.slice A' n' c') ((b.getD K.Tr.zero).end_)/\Ints w A n (b.getD K.Tr.zero).stops/\Ints w A' n' (b.getD K.Tr.zero).times/\(∀ ad,A=some ad->g < ad.block)/\(∀ ad,A'=some ad->g < ad.block)
theorem Ai.below {w w':World} {g:Nat} {b:Option K.Tr} (h:Ai w g b) (hb:af w w'):Ai w' g b:=by
 obtain ⟨A,n,c,A',n',c',h1,h2,h3,h4,h5⟩:=h;exact ⟨A,n,c,A',n',c',h1.below hb (lt_of_block h1),h2.below hb,h3.below hb,h4,h5⟩
theorem Ints.set0 {w:World} {A:aj} {n:Nat} {l:ag} (h:Ints w A n l) {g i:Nat} (u:Value) (hg:0 < n->∀ ad,A=some ad->ad.block ≠ g):Ints (w.setCell ⟨g,i,none⟩ u) A n l:=by
 by_cases h0:0 < n
 ·exact h.set u (hg h0)
 ·exact ⟨h.1,h.2.1,λh1=>absurd h1 h0⟩
def Xa (w w':World) (y:K.Tr × Int) (e:Ending):Prop :=
 (∃ A n c A' n' c',e=.returned (.tuple #[.agg #[.int .i64 0,.slice A n c,.slice A' n' c',.int .i64 y.1.end_],.int .i64 y.2])/\Ints w' A n y.1.stops/\Ints w' A' n' y.1.times/\(∀ ad,A=some ad->w.heap.size<=ad.block)/\∀ ad,A'=some ad->w.heap.size<=ad.block)/\af w w'
theorem acV {w w':World} {er:Int} {y:K.Tr × Int} (h:y=(K.Tr.zero,er)) (hb:af w w'):Xa w w' y (.returned (.tuple #[.agg #[.int .i64 0,.slice none 0 0,.slice none 0 0,.int .i64 0],.int .i64 er])):=by
 subst h;exact ⟨⟨none,0,0,none,0,0,rfl,iQ _,iQ _,λad e=>(nomatch e),λad e=>(nomatch e)⟩,hb⟩
theorem XU (x:C) (V:aj) (vn vc:Nat) (v:ag) (w:World) (hx:At w x) (hV:Ints w V vn v) (hvn:vn<=1000000000) (h4:K.bF x.nd x.l x.s x.r v=true->v.length<=4) :
  ay 81 #[.agg #[.int .i64 x.nd,.slice x.A x.n x.c],fG x.s,.slice x.B x.m x.d,.slice V vn vc] w λe w'=>Xa w w' (K.jF x.nd x.l x.s x.r v) e:=by
 obtain ⟨w0,hw0⟩:=zB (((w.alloc (.cells #[.int .i64 x.nd,.slice x.A x.n x.c] 24)).alloc (.cells #[.int .i64 x.s.day,.int .i64 x.s.ax,.int .i64 x.s.start,.int .i64 x.s.end_,.int .i64 x.s.aU,.slice x.s.A x.s.n x.s.c] 63)).alloc (.cells #[.int .i64 0,.slice none 0 0,.slice none 0 0,.int .i64 0] 80));have b0:af w w0:=by rw [hw0];exact bel (bel (ai.alloc (zG _) _) (ai.alloc (zG _) _)) (ai.alloc (zG _) _)
 have z1:=aF w (.cells #[.int .i64 x.nd,.slice x.A x.n x.c] 24);have z2:=aF (w.alloc (.cells #[.int .i64 x.nd,.slice x.A x.n x.c] 24)) (.cells #[.int .i64 x.s.day,.int .i64 x.s.ax,.int .i64 x.s.start,.int .i64 x.s.end_,.int .i64 x.s.aU,.slice x.s.A x.s.n x.s.c] 63);have hR:kZ w0 (w.heap.size + 1 + 1) (.slice none 0 0) (.slice none 0 0) 0:=by rw [hw0];exact bU _ _ _ (by rw [z2,z1])
 have hS:bI w0 (w.heap.size + 1) x.s:=by
  have h:=(bI.new (w.alloc (.cells #[.int .i64 x.nd,.slice x.A x.n x.c] 24)) x.s).below (ai.alloc (zG _) (.cells #[.int .i64 0,.slice none 0 0,.slice none 0 0,.int .i64 0] 80));rw [z1] at h;rw [hw0];exact h
 have hN:Net w0 w.heap.size x.nd x.A x.n x.c:=by
  rw [hw0];exact (Net.new w x.nd x.A x.n x.c).below (bel (ai.alloc (zG _) _) (ai.alloc (zG _) _))
 have p0:=hN.c0;have p1:=hN.c1;obtain ⟨s0,s1,s2,s3,s4,s5⟩:=hS.cells;rw [hw0] at p0 p1 s0 s1 s2 s3 s4 s5;go_enter Tryz.func81,Tryz.ntmps81;go_wp2_with fail;rw [<-hw0];refine (Oe x V vn vc v _ (hx.below b0) (hV.below b0) hvn).mono ?_;obtain ⟨okb,mJ⟩:=zB (K.bF x.nd x.l x.s x.r v);rw [<-mJ];rintro e w1 ⟨rfl,b1⟩;have hb:=bel b0 b1;have hsz:=b0.size;have hR0:=lt_of_block hR;have hR1:=hR.below b1 hR0;have hS1:=hS.below b1;have hN1:=hN.below b1;have hsz1:=b1.size;clear p0 p1 s0 s1 s2 s3 s4 s5 hw0 z1 z2 hR hS hN b0 b1;cases okb
 ·have HX:=zC (K.XV mJ.symm);clear mJ h4;obtain ⟨r0,r1,r2,r3⟩:=hR1.cells;have f0:=hR1.free 0;have f1:=hR1.free 1;have f2:=hR1.free 2;have f3:=hR1.free 3;go_wp2_with fail;refine jc (v:=.tuple #[.agg #[.int .i64 0,.slice none 0 0,.slice none 0 0,.int .i64 0],.int .i64 1]) ?_ rfl ?_
  ·obtain ⟨z0,z1,z2,z3⟩:=(hR1.set (.slice none 0 0) (.slice none 0 0) 0).cells;rw [results_cell_tmp rfl];simp [go_sem,z0,z1,z2,z3]
  ·exact acV HX.out (mX hb (by omega) _ _ _ _)
 have hok:=mJ.symm;have hv4:=h4 hok;have iR:=zC hV.1;have ah7:vn<=4:=by rw [hV.1];exact hv4
 have WI:=zC (K.ajX (nd:=x.nd) (l:=x.l) (s:=x.s) (r:=x.r) hok hv4);have HFW:=zC (K.ajw hok hv4);have aY:=zC hok;clear hok mJ h4 hv4;obtain ⟨i0,hi,hz0,hz1,hz2⟩:=info_parts Tryz.info3;obtain ⟨w2,hw2⟩:=zB (w1.alloc (.cells #[.int .i64 0,.slice none 0 0,.slice none 0 0,.int .i64 0] 80));obtain ⟨g,hg⟩:=zB w1.heap.size;have b12:=aH hw2;have hB2:Ai w2 g none:=⟨none,0,0,none,0,0,by rw [hw2,hg];exact aA _ _,iQ _,iQ _,λ_ e=>(nomatch e),λ_ e=>(nomatch e)⟩;have hz2':w2.heap.size=w1.heap.size + 1:=by rw [hw2];exact aF _ _
 have iK:(w2.alloc (.cells #[] 3)).ownsRow w2.heap.size 3 1 (.slice (some ⟨w2.heap.size,0,none⟩) 0 0) 0 []:=uy (aA w2 (.cells #[] 3)) (zG _);have ba:af w2 (w2.alloc (.cells #[] 3)):=ai.alloc (zG _) _;have hb2:=bel hb b12;have kJ:=hN1.below b12;have hS2:=hS1.below b12;have hR2:=hR1.below b12 (lt_of_block hR1);have hRg:w.heap.size + 1 + 1 < g:=by rw [hg];exact lt_of_block hR1
 have hgw:w.heap.size<=g:=by omega
 go_upto_region 5 with fail;rw [<-hw2,<-hg];have HZ2:=zC hz2';have HG:=zC hg;clear hw2 b12 hN1 hS1 hR1 hb hz2' hg;go_wp2_with (at_builtin;refine nU rfl (.tmp 25) (.tmp 26) 48 rfl w2.heap.size 3 i0 (.int .i64 0) 1 8 Tryz.underlying48 hi hz0 hz1 hz2 rfl (by decide) (.slice (some ⟨w2.heap.size,0,none⟩) 0 0) 0 [] rfl iK V vn vc (intCells v) rfl (hV.below (bel hb2 ba)).2 (qI v) (by simp only [maxLen];omega) (by omega) (by first | (simp;done) | (simp;omega)) ?_;intro v' w3 hown3 hgrow3 SC;rw [Nat.zero_add,List.nil_append] at hown3;obtain ⟨A3,c3,rfl,BC,hc3,hO3⟩:=ab7 hown3 iR.out;have bQ:af w2 w3:=dY ba hgrow3 (CQ (zG _));clear hown3 hgrow3 SC iK ba);have aeA:=zC (show 0 < vn->∀ ad,A3=some ad->g < ad.block from λh0 ad e=>by obtain ⟨ad',e',-,hb'⟩:=hO3 h0;rw [e'] at e;injection e with e;have:=HZ2.out;have:=HG.out;rw [<-e];omega);clear hO3;have hN3:=kJ.below bQ;have hS3:=hS2.below bQ;have oD:=hR2.below bQ (by rw [HZ2.out];omega);have hB3:=hB2.below bQ;have hb3:=bel hb2 bQ;have hg3:g < w3.heap.size:=by have:=bQ.size;have:=HZ2.out;have:=HG.out;omega
 clear kJ hS2 hR2 hB2 hb2 bQ hi hz0 hz1 hz2 hsz hsz1;go_loopw [11,12,13] (λv11 v12 v13 wr=>∃ (b:Option K.Tr) (A:aj) (c:Nat) (o:ag) (mr:Bool),v11=.bool b.isSome/\v13=.bool mr/\(∃ n,v12=.slice A n c/\(mr=true->Ints wr A n o/\n<=c/\n<=4/\(0 < n->∀ ad,A=some ad->g < ad.block)))/\Hid (mr=true->K.pick x.nd x.l x.s x.r (K.orders 25 v) none=K.pick x.nd x.l x.s x.r (K.orders 25 o) b/\(K.orders 25 o).length<=24)/\Hid (mr=false->K.pick x.nd x.l x.s x.r (K.orders 25 v) none=b)/\Ai wr g b/\w3.grownBy wr (some g)) (λ_ v12 v13 wr=>leftOf wr v12 v13)
 case atStart=>exact ⟨none,A3,c3,v,true,rfl,rfl,⟨vn,rfl,λ_=>⟨BC,hc3,ah7,aeA.out⟩⟩,λ_=>⟨rfl,HFW.out⟩,λh=>(nomatch h),hB3,qy _ _⟩
 case round =>
  clear hB3;obtain ⟨b,A,c,o,mr,rfl,rfl,⟨n,rfl,BD⟩,hpk,hend,hBr,hgr⟩:=hrel;have hbr:af w wr:=dY hb3 hgr (λg' e=>by injection e with e;omega);have BJ:Net wr w.heap.size x.nd x.A x.n x.c:=iV hgr hN3 (λe=>by injection e with e;omega);have hSr:bI wr (w.heap.size + 1) x.s:=iV hgr hS3 (λe=>by injection e with e;omega);have hRr:kZ wr (w.heap.size + 1 + 1) (.slice none 0 0) (.slice none 0 0) 0:=iV hgr oD (λe=>by injection e with e;omega);have ank:g < wr.heap.size:=dO hg3 hgr.size;cases mr
  ·have HE:=zC (hend.out rfl);clear BD hpk hend BJ hSr;obtain ⟨A0,n0,c0,A1,n1,c1,hT,hI,hJ,hA,hA'⟩:=hBr;obtain ⟨r0,r1,r2,r3⟩:=hRr.cells;have f0:=hRr.free 0;have f1:=hRr.free 1;have f2:=hRr.free 2;have f3:=hRr.free 3;cases b with
   | none =>
    have HX:=zC (K.Qv aY.out (WI.out.symm.trans HE.out));go_wp2_with fail;refine jc (v:=.tuple #[.agg #[.int .i64 0,.slice none 0 0,.slice none 0 0,.int .i64 0],.int .i64 4]) ?_ rfl ?_
    ·obtain ⟨z0,z1,z2,z3⟩:=(hRr.set (.slice none 0 0) (.slice none 0 0) 0).cells;rw [results_cell_tmp rfl];simp [go_sem,z0,z1,z2,z3]
    ·exact acV HX.out (mX hbr (by omega) _ _ _ _)
   | some bt =>
    have HX:=zC (K.KD aY.out (WI.out.symm.trans HE.out));have hT:kZ wr g (.slice A0 n0 c0) (.slice A1 n1 c1) bt.end_:=hT;have hI:Ints wr A0 n0 bt.stops:=hI;have hJ:Ints wr A1 n1 bt.times:=hJ;obtain ⟨t0,t1,t2,t3⟩:=hT.cells;go_wp2_with fail;refine jc (v:=.tuple #[.agg #[.int .i64 0,.slice A0 n0 c0,.slice A1 n1 c1,.int .i64 bt.end_],.int .i64 0]) ?_ rfl ?_
    ·obtain ⟨z0,z1,z2,z3⟩:=(hRr.set (.slice A0 n0 c0) (.slice A1 n1 c1) bt.end_).cells;rw [results_cell_tmp rfl];simp [go_sem,z0,z1,z2,z3]
    ·rw [HX.out];have hne1:∀ ad,A0=some ad->ad.block ≠ w.heap.size + 1 + 1:=λad e=>by have:=hA ad e;omega
     have hne2:∀ ad,A1=some ad->ad.block ≠ w.heap.size + 1 + 1:=λad e=>by have:=hA' ad e;omega
     exact ⟨⟨A0,n0,c0,A1,n1,c1,rfl,(((hI.set _ hne1).set _ hne1).set _ hne1).set _ hne1,(((hJ.set _ hne2).set _ hne2).set _ hne2).set _ hne2,λad e=>(by have:=hA ad e;omega),λad e=>(by have:=hA' ad e;omega)⟩,mX hbr (by omega) _ _ _ _⟩
  ·obtain ⟨hI,hnc,hn4,Zy⟩:=BD rfl;have WH:=zC Zy;clear Zy;obtain ⟨hpk,hlen⟩:=hpk.out rfl;have yC:=zC hpk;have qV:=zC hI;have HLEN:=zC hlen;clear hend BD hpk hlen;have p0:=BJ.c0;have p1:=BJ.c1;obtain ⟨s0,s1,s2,s3,s4,s5⟩:=hSr.cells;go_wp2_with fail;clear p0 p1 s0 s1 s2 s3 s4 s5 hRr BJ hSr;refine (adu x A n c o wr (hx.below hbr) hI hnc (by omega)).mono ?_;obtain ⟨R,hR⟩:=zB (K.run x.nd x.l x.s x.r o);rw [<-hR];have HR:=zC hR;clear hR;rintro e w4 ⟨⟨A0,n0,c0,A1,n1,c1,rfl,hI0,hI1,hA0,hA1⟩,b4⟩;obtain ⟨w5,hw5⟩:=zB (w4.alloc (.cells #[.int .i64 0,.slice A0 n0 c0,.slice A1 n1 c1,.int .i64 R.bC.end_] 80));obtain ⟨G,hG⟩:=zB w4.heap.size;have b5:af wr w5:=by rw [hw5];exact bel b4 (ai.alloc (zG _) _)
   have fM:kZ w5 G (.slice A0 n0 c0) (.slice A1 n1 c1) R.bC.end_:=by rw [hw5,hG];exact aA _ _
   have h45:=aH hw5;have Ea:=hI0.below h45;have tK:=hI1.below h45;have jH:=hBr.below b5;have hgr5:=jg hgr b5;have y8:=hI.below b5;have hb5:=bel hbr b5;have hG1:g < G:=by have:=b4.size;omega
   have KZ:∀ ad,A0=some ad->g < ad.block:=λad e=>by have:=hA0 ad e;omega
   have K_:∀ ad,A1=some ad->g < ad.block:=λad e=>by have:=hA1 ad e;omega
   clear hI0 hI1 hA0 hA1 hBr hgr hI hbr b4 b5 h45;go_upto_region 9 with fail;rw [<-hw5,<-hG];clear hw5 hG;by_cases he:R.e=0
   ·have Hy:(R.e == 0)=true:=by rw [he];rfl
    have Hz:decide (R.e=0)=true:=by simp [he]
    cases b with
    | none =>
     have HST:=zC (λos=>K.acn (os:=os) (b:=none) (HR.out ▸ he) (HR.out ▸ (rfl:K.better none R.bC.end_=true)));rw [<-HR.out] at HST;have dI:af w5 w5:=ai;have jh:=fM.below dI (lt_of_block fM);obtain ⟨A9,n9,c9,A8,n8,c8,lq,-⟩:=jH.below dI;have h_:=jg hgr5 dI;have yY:=Ea.below dI;have yZ:=tK.below dI;have xm:=y8.below dI;clear dI jH hgr5 y8 fM Ea tK;obtain ⟨t0,t1,t2,t3⟩:=jh.cells;obtain ⟨d0,d1,d2,d3⟩:=lq.cells;have f0:=lq.free 0;have f1:=lq.free 1;have f2:=lq.free 2;have f3:=lq.free 3;obtain ⟨w7,hw7⟩:=zB ((((w5.setCell ⟨g,0,none⟩ (.int .i64 0)).setCell ⟨g,1,none⟩ (.slice A0 n0 c0)).setCell ⟨g,2,none⟩ (.slice A1 n1 c1)).setCell ⟨g,3,none⟩ (.int .i64 R.bC.end_));have hne1:∀ ad,A0=some ad->ad.block ≠ g:=λad e=>by have:=KZ ad e;omega
     have hne2:∀ ad,A1=some ad->ad.block ≠ g:=λad e=>by have:=K_ ad e;omega
     have oq:Ai w7 g (some R.bC):=by
      rw [hw7];exact ⟨A0,n0,c0,A1,n1,c1,lq.set _ _ _,(((yY.set _ hne1).set _ hne1).set _ hne1).set _ hne1,(((yZ.set _ hne2).set _ hne2).set _ hne2).set _ hne2,KZ,K_⟩
     have iO:w3.grownBy w7 (some g):=by rw [hw7];exact oh (oh (oh (oh h_ _ _ _ rfl) _ _ _ rfl) _ _ _ rfl) _ _ _ rfl
     have Ri:Ints w7 A n o:=by
      rw [hw7];have xE:0 < n->∀ ad,A=some ad->ad.block ≠ g:=λh0 ad e=>by have:=WH.out h0 ad e;omega
      exact (((xm.set0 _ xE).set0 _ xE).set0 _ xE).set0 _ xE
     clear yY yZ hne1 hne2 lq h_ xm;go_upto_region 11 with fail;rw [<-hw7];clear hw7 d0 d1 d2 d3 t0 t1 t2 t3 f0 f1 f2 f3 jh Hy Hz;go_wp2_with fail;refine (next_any A n c o w7 Ri (by omega)).mono ?_;obtain ⟨nx,hnx⟩:=zB (K.lY o);rw [<-hnx];rintro e w8 ⟨hret,b7⟩;have B7:=oq.below b7;have g7:=jg iO b7;rcases hret with ⟨h1,rfl⟩ | ⟨o',A',n',c',h1,hnc',rfl,hI',hA'⟩
     ·have HE:=zC (show K.pick x.nd x.l x.s x.r (K.orders 25 v) none=(some R.bC) by rw [yC.out,K.NI (hnx.symm.trans h1),HST.out];rfl);clear hnx h1 oq iO;go_wp2_with fail;go_roundw
      case rel=>exact ⟨(some R.bC),none,0,[],false,rfl,rfl,⟨0,rfl,λh=>(nomatch h)⟩,λh=>(nomatch h),λ_=>HE.out,B7,g7⟩
      case measure=>rw [Nl,rQ qV.out];omega
     ·obtain ⟨k1,k2⟩:=K.NJ (hnx.symm.trans h1) HLEN.out;have qm:=zC (show K.pick x.nd x.l x.s x.r (K.orders 25 v) none=K.pick x.nd x.l x.s x.r (K.orders 25 o') (some R.bC) by rw [yC.out,k1,HST.out]);have Au:=zC (dO hg3 iO.size);have bM:=zC (show (K.orders 25 o').length<=24 by have:=HLEN.out;omega);have AB:=zC k2;have hn':n'<=4:=by have h2:=K.Ny (hnx.symm.trans h1);have h3:=hI'.1;have h4:=qV.out.1;omega
      clear hnx h1 k1 k2 oq iO;go_wp2_with fail;go_roundw
      case rel=>exact ⟨(some R.bC),A',c',o',true,rfl,rfl,⟨n',rfl,λ_=>⟨hI',hnc',hn',λ_ ad e=>dO Au.out (hA' ad e)⟩⟩,λ_=>⟨qm.out,bM.out⟩,λh=>(nomatch h),B7,g7⟩
      case measure=>rw [rQ hI',rQ qV.out];have:=AB.out;omega
    | some bt =>
     have agZ:=jH;obtain ⟨A6,n6,c6,A7,n7,c7,ou,-⟩:=agZ;have ou:kZ w5 g (.slice A6 n6 c6) (.slice A7 n7 c7) bt.end_:=ou;have q3:=ou.cells.2.2.2;have r3:=fM.cells.2.2.2;by_cases hlt:R.bC.end_ < bt.end_
     ·have hd:decide (R.bC.end_ < bt.end_)=true:=zH hlt;have HST:=zC (λos=>K.acn (os:=os) (b:=(some bt)) (HR.out ▸ he) (HR.out ▸ (zH hlt:K.better (some bt) R.bC.end_=true)));rw [<-HR.out] at HST;have dI:af w5 w5:=ai;have jh:=fM.below dI (lt_of_block fM);obtain ⟨A9,n9,c9,A8,n8,c8,lq,-⟩:=jH.below dI;have h_:=jg hgr5 dI;have yY:=Ea.below dI;have yZ:=tK.below dI;have xm:=y8.below dI;clear dI jH hgr5 y8 fM Ea tK;obtain ⟨t0,t1,t2,t3⟩:=jh.cells;obtain ⟨d0,d1,d2,d3⟩:=lq.cells;have f0:=lq.free 0;have f1:=lq.free 1;have f2:=lq.free 2;have f3:=lq.free 3;obtain ⟨w7,hw7⟩:=zB ((((w5.setCell ⟨g,0,none⟩ (.int .i64 0)).setCell ⟨g,1,none⟩ (.slice A0 n0 c0)).setCell ⟨g,2,none⟩ (.slice A1 n1 c1)).setCell ⟨g,3,none⟩ (.int .i64 R.bC.end_));have hne1:∀ ad,A0=some ad->ad.block ≠ g:=λad e=>by have:=KZ ad e;omega
      have hne2:∀ ad,A1=some ad->ad.block ≠ g:=λad e=>by have:=K_ ad e;omega
      have oq:Ai w7 g (some R.bC):=by
       rw [hw7];exact ⟨A0,n0,c0,A1,n1,c1,lq.set _ _ _,(((yY.set _ hne1).set _ hne1).set _ hne1).set _ hne1,(((yZ.set _ hne2).set _ hne2).set _ hne2).set _ hne2,KZ,K_⟩
      have iO:w3.grownBy w7 (some g):=by rw [hw7];exact oh (oh (oh (oh h_ _ _ _ rfl) _ _ _ rfl) _ _ _ rfl) _ _ _ rfl
      have Ri:Ints w7 A n o:=by
       rw [hw7];have xE:0 < n->∀ ad,A=some ad->ad.block ≠ g:=λh0 ad e=>by have:=WH.out h0 ad e;omega
       exact (((xm.set0 _ xE).set0 _ xE).set0 _ xE).set0 _ xE
      clear yY yZ hne1 hne2 lq h_ xm;go_upto_region 11 with fail;rw [<-hw7];clear hw7 d0 d1 d2 d3 t0 t1 t2 t3 f0 f1 f2 f3 jh Hy Hz hd ou q3 r3;go_wp2_with fail;refine (next_any A n c o w7 Ri (by omega)).mono ?_;obtain ⟨nx,hnx⟩:=zB (K.lY o);rw [<-hnx];rintro e w8 ⟨hret,b7⟩;have B7:=oq.below b7;have g7:=jg iO b7;rcases hret with ⟨h1,rfl⟩ | ⟨o',A',n',c',h1,hnc',rfl,hI',hA'⟩
      ·have HE:=zC (show K.pick x.nd x.l x.s x.r (K.orders 25 v) none=(some R.bC) by rw [yC.out,K.NI (hnx.symm.trans h1),HST.out];rfl);clear hnx h1 oq iO;go_wp2_with fail;go_roundw
       case rel=>exact ⟨(some R.bC),none,0,[],false,rfl,rfl,⟨0,rfl,λh=>(nomatch h)⟩,λh=>(nomatch h),λ_=>HE.out,B7,g7⟩
       case measure=>rw [Nl,rQ qV.out];omega
      ·obtain ⟨k1,k2⟩:=K.NJ (hnx.symm.trans h1) HLEN.out;have qm:=zC (show K.pick x.nd x.l x.s x.r (K.orders 25 v) none=K.pick x.nd x.l x.s x.r (K.orders 25 o') (some R.bC) by rw [yC.out,k1,HST.out]);have Au:=zC (dO hg3 iO.size);have bM:=zC (show (K.orders 25 o').length<=24 by have:=HLEN.out;omega);have AB:=zC k2;have hn':n'<=4:=by have h2:=K.Ny (hnx.symm.trans h1);have h3:=hI'.1;have h4:=qV.out.1;omega
       clear hnx h1 k1 k2 oq iO;go_wp2_with fail;go_roundw
       case rel=>exact ⟨(some R.bC),A',c',o',true,rfl,rfl,⟨n',rfl,λ_=>⟨hI',hnc',hn',λ_ ad e=>dO Au.out (hA' ad e)⟩⟩,λ_=>⟨qm.out,bM.out⟩,λh=>(nomatch h),B7,g7⟩
       case measure=>rw [rQ hI',rQ qV.out];have:=AB.out;omega
     ·have hd:decide (R.bC.end_ < bt.end_)=false:=zI hlt;have HST:=zC (λos=>K.acm (os:=os) (b:=(some bt)) (HR.out ▸ (λh=>hlt (iH h.2):¬ (R.e=0/\K.better (some bt) R.bC.end_=true))));go_wp2_with fail;have dI:af w5 w5:=ai;have lU:=jH.below dI;have h_:=jg hgr5 dI;have xm:=y8.below dI;clear dI jH hgr5 y8 fM Ea tK Hy Hz hd ou q3 r3;go_wp2_with fail;refine (next_any A n c o w5 xm (by omega)).mono ?_;obtain ⟨nx,hnx⟩:=zB (K.lY o);rw [<-hnx];rintro e w7 ⟨hret,b7⟩;have B7:=lU.below b7;have g7:=jg h_ b7;rcases hret with ⟨h1,rfl⟩ | ⟨o',A',n',c',h1,hnc',rfl,hI',hA'⟩
      ·have HE:=zC (show K.pick x.nd x.l x.s x.r (K.orders 25 v) none=(some bt) by rw [yC.out,K.NI (hnx.symm.trans h1),HST.out];rfl);clear hnx h1 lU h_;go_wp2_with fail;go_roundw
       case rel=>exact ⟨(some bt),none,0,[],false,rfl,rfl,⟨0,rfl,λh=>(nomatch h)⟩,λh=>(nomatch h),λ_=>HE.out,B7,g7⟩
       case measure=>rw [Nl,rQ qV.out];omega
      ·obtain ⟨k1,k2⟩:=K.NJ (hnx.symm.trans h1) HLEN.out;have qm:=zC (show K.pick x.nd x.l x.s x.r (K.orders 25 v) none=K.pick x.nd x.l x.s x.r (K.orders 25 o') (some bt) by rw [yC.out,k1,HST.out]);have Au:=zC (dO hg3 h_.size);have bM:=zC (show (K.orders 25 o').length<=24 by have:=HLEN.out;omega);have AB:=zC k2;have hn':n'<=4:=by have h2:=K.Ny (hnx.symm.trans h1);have h3:=hI'.1;have h4:=qV.out.1;omega
       clear hnx h1 k1 k2 lU h_;go_wp2_with fail;go_roundw
       case rel=>exact ⟨(some bt),A',c',o',true,rfl,rfl,⟨n',rfl,λ_=>⟨hI',hnc',hn',λ_ ad e=>dO Au.out (hA' ad e)⟩⟩,λ_=>⟨qm.out,bM.out⟩,λh=>(nomatch h),B7,g7⟩
       case measure=>rw [rQ hI',rQ qV.out];have:=AB.out;omega
   ·have Hy:(R.e == 0)=false:=by simp [he]
    have Hz:decide (R.e=0)=false:=by simp [he]
    have HST:=zC (λos=>K.acm (os:=os) (b:=b) (HR.out ▸ (λh=>he h.1:¬ (R.e=0/\K.better b R.bC.end_=true))));go_wp2_with fail;have dI:af w5 w5:=ai;have lU:=jH.below dI;have h_:=jg hgr5 dI;have xm:=y8.below dI;clear dI jH hgr5 y8 fM Ea tK Hy Hz;go_wp2_with fail;refine (next_any A n c o w5 xm (by omega)).mono ?_;obtain ⟨nx,hnx⟩:=zB (K.lY o);rw [<-hnx];rintro e w7 ⟨hret,b7⟩;have B7:=lU.below b7;have g7:=jg h_ b7;rcases hret with ⟨h1,rfl⟩ | ⟨o',A',n',c',h1,hnc',rfl,hI',hA'⟩
    ·have HE:=zC (show K.pick x.nd x.l x.s x.r (K.orders 25 v) none=b by rw [yC.out,K.NI (hnx.symm.trans h1),HST.out];rfl);clear hnx h1 lU h_;go_wp2_with fail;go_roundw
     case rel=>exact ⟨b,none,0,[],false,rfl,rfl,⟨0,rfl,λh=>(nomatch h)⟩,λh=>(nomatch h),λ_=>HE.out,B7,g7⟩
     case measure=>rw [Nl,rQ qV.out];omega
    ·obtain ⟨k1,k2⟩:=K.NJ (hnx.symm.trans h1) HLEN.out;have qm:=zC (show K.pick x.nd x.l x.s x.r (K.orders 25 v) none=K.pick x.nd x.l x.s x.r (K.orders 25 o') b by rw [yC.out,k1,HST.out]);have Au:=zC (dO hg3 h_.size);have bM:=zC (show (K.orders 25 o').length<=24 by have:=HLEN.out;omega);have AB:=zC k2;have hn':n'<=4:=by have h2:=K.Ny (hnx.symm.trans h1);have h3:=hI'.1;have h4:=qV.out.1;omega
     clear hnx h1 k1 k2 lU h_;go_wp2_with fail;go_roundw
     case rel=>exact ⟨b,A',c',o',true,rfl,rfl,⟨n',rfl,λ_=>⟨hI',hnc',hn',λ_ ad e=>dO Au.out (hA' ad e)⟩⟩,λ_=>⟨qm.out,bM.out⟩,λh=>(nomatch h),B7,g7⟩
     case measure=>rw [rQ hI',rQ qV.out];have:=AB.out;omega
theorem Tryz.underlying109k:Tryz.prog.underlying 109=some (.slice 4):=by kernel_rfl
theorem Tryz.underlying103k:Tryz.prog.underlying 103=some (.slice 111):=by kernel_rfl
theorem Tryz.info4k:(Tryz.prog.info? 4).map (λi=>(i.zero,i.size,i.bytes))=some (some (.bool false),1,1):=by kernel_rfl
theorem Tryz.info111k:(Tryz.prog.info? 111).map (λi=>(i.zero,i.size,i.bytes))=some (some (.agg #[.slice none 0 0,.slice none 0 0]),2,48):=by kernel_rfl
theorem K.acA {n:Nat} (h:n<=4):2 ^ n<=16:=Nat.pow_le_pow_right (by decide) h
theorem K.aj_ (n:Nat):1<=2 ^ n:=Nat.one_le_two_pow
theorem K.ajM (k n:Nat):(K.part (K.iota k) n).length<=k:=by
 have:=K.qM (K.iota k) n;rwa [K.Nj] at this
theorem K.ajL (k n:Nat):K.part (K.iota (k + 1)) n=K.part (K.iota k) n ++ if n.testBit k=true then [(k:Int)] else []:=by rw [K.aa2,K.EQ,K.Nj]
theorem afb (y:BB):∀ u ∈ y.cells,u.oneCell'=true:=λu hu=>by
 simp [BB.cells] at hu;rcases hu with rfl | rfl <;> rfl
theorem afj (x:Cs) (w:World) (hx:eu w x) (hm4:x.m<=4) (uw:x.sn<=4) :
  ay 70 #[.agg #[.int .i64 x.nd,.slice x.A x.n x.c],.slice x.SA x.sn x.sc,.slice x.B x.m x.d] w λe w'=>aeI x w w' e:=by
 obtain ⟨w1,hw1⟩:=zB (w.alloc (.cells #[.int .i64 x.nd,.slice x.A x.n x.c] 24));have hN1:Net w1 w.heap.size x.nd x.A x.n x.c:=by rw [hw1];exact Net.new w x.nd x.A x.n x.c
 have hb1:=aH hw1;obtain ⟨G0,hG0⟩:=zB w.heap.size;rw [<-hG0] at hN1;have eF:=zC hx.shifts.1.1;have aS:=zC hx.bf.1;obtain ⟨PW,GZ⟩:∃ p,p=2 ^ x.m:=⟨_,rfl⟩;have anw:PW<=16:=by rw [GZ];exact K.acA hm4
 have hp1:1<=PW:=by rw [GZ];exact K.aj_ _
 have HPW:=zC GZ;have nH:=zC (show 2 ^ x.r.length=PW by rw [<-aS.out];exact GZ.symm);clear GZ;obtain ⟨B1,hB1⟩:=zB w1.heap.size;have HB1:=zC hB1;go_enter Tryz.func70,Tryz.ntmps70;go_wp2_with fail;rw [<-hw1,<-hG0];clear hw1 hG0;go_loopw [7,8] (λv7 v8 wr=>∃ (s:Nat) (L:List BB),v8=.int .i64 s/\s<=x.sn/\uG wr B1 v7 L/\Hid (L.length=s)/\Hid (Fb x PW L)/\af w1 wr) (λ_ v8 _=>x.sn - (intOf v8).toNat)
 case atStart=>exact ⟨0,[],rfl,aW _,uG.nil _ _,rfl,λk y s h=>(by cases h),ai⟩
 case round =>
  obtain ⟨s,L,rfl,hs,hR,Zr,m_,hbr⟩:=hrel;obtain ⟨ws,hws⟩:=zB wr;rw [<-hws] at hR hbr;rw [<-hws];clear hws;by_cases hlt:s < x.sn;rotate_left
  ·obtain ⟨hd,hd2⟩:=zL (a:=s) (b:=x.sn) (by omega);obtain ⟨EA,ec,rfl,jL,hfr⟩:=fP hR.row;have HLS:=zC (show L.length=x.sn by rw [Zr.out];omega);go_wp2_with fail;go_ret;exact ⟨⟨EA,_,ec,L,rfl,⟨rfl,jL⟩,HLS.out,hR.has,λy hy g e=>aN hb1.size (by rw [<-HB1.out];exact (hR.off y hy g e).1),by rw [nH.out];exact m_.out⟩,bel hb1 hbr⟩
  obtain ⟨i0,i1⟩:=zJ (a:=s) (b:=x.sn) (by omega);obtain ⟨d0,d0'⟩:=zK (a:=s) (b:=x.sn) (by omega);have hbs:=bel hb1 hbr;have hNs:=hN1.below hbr;have hxs:=hx.below hbs;obtain ⟨bP,sS,jA,hsS,tN,s0,s1,s2,s3,s4,s5⟩:=hxs.shifts.at_ hlt;have ku:=zC hsS;have DK:=zC (zD hsS);have sO:=zC jA;obtain ⟨BS,hBS⟩:=zB ws.heap.size;obtain ⟨w5,hw5⟩:=zB (((ws.alloc (.cells #[.int .i64 0,.slice none 0 0,.slice none 0 0,.int .i64 0] 80)).alloc (.cells #[.bool true] 4)).alloc (.cells #[.slice (some ⟨BS,0,none⟩) 1 1,.slice (some ⟨BS + 1,0,none⟩) 1 1] 111));have b5:af ws w5:=by rw [hw5];exact bel (bel (ai.alloc (zG _) _) (ai.alloc (zG _) _)) (ai.alloc (zG _) _)
  have z1:=aF ws (.cells #[.int .i64 0,.slice none 0 0,.slice none 0 0,.int .i64 0] 80);have z2:=aF (ws.alloc (.cells #[.int .i64 0,.slice none 0 0,.slice none 0 0,.int .i64 0] 80)) (.cells #[.bool true] 4);have hb0:w5.heap[BS]? = some (.cells #[.int .i64 0,.slice none 0 0,.slice none 0 0,.int .i64 0] 80 (0,0)):=by rw [hw5,hBS];exact aO (aO (aA ws _) _) _
  have hb1':w5.heap[BS + 1]? = some (.cells #[.bool true] 4 (0,0)):=by rw [hw5,hBS];exact aO (bU _ _ _ (by rw [z1])) _
  have hb2:w5.heap[BS + 1 + 1]? = some (.cells #[.slice (some ⟨BS,0,none⟩) 1 1,.slice (some ⟨BS + 1,0,none⟩) 1 1] 111 (0,0)):=by rw [hw5,hBS];exact bU _ _ _ (by rw [z2,z1])
  obtain ⟨gb,hgb⟩:=zB (BS + 1 + 1);have hSt:oJ w5 BS gb (.slice (some ⟨BS,0,none⟩) 1 1) (.slice (some ⟨BS + 1,0,none⟩) 1 1) [⟨0,none,0,0,none,0,0,K.Tr.zero⟩] [true]:=by
   refine ⟨by rw [hgb];exact hb2,by omega,⟨rfl,.inr ⟨BS,1,_,rfl,zG _,hb0,zG _,by simp [maxLen],rfl,rfl⟩⟩,⟨rfl,.inr ⟨BS + 1,1,_,rfl,by omega,hb1',zG _,by simp [maxLen],rfl,rfl⟩⟩,λg e e2=>?_,λe=>?_,λe=>?_,λy hy=>?_,λy hy g e=>?_⟩
   ·injection e with e;injection e2 with e2;dsimp only at e e2;omega
   ·injection e with e;dsimp only at e;omega
   ·injection e with e;dsimp only at e;omega
   ·rw [dB.1 hy];exact ⟨iQ _,iQ _⟩
   ·rw [dB.1 hy] at e;rcases e with ⟨h0,-⟩ | ⟨h0,-⟩ <;> exact absurd h0 (Nat.lt_irrefl 0)
  clear z1 z2 hb0 hb1' hb2 tN hsS jA;go_upto_region 6 with fail;rw [<-hBS,<-hgb,<-hw5];have nX:=zC hBS;clear hw5 hgb d0 d0' hBS;have hpw:IntKind.i64.wrap ((2:Int) ^ x.m)=(PW:Int):=by rw [sG (by omega),HPW.out];push_cast;rfl
  have anz:wrap64 ((2:Int) ^ x.m)=(PW:Int):=by rw [<-IntWalk.i64_left];exact hpw
  have MN:(x.m:Int) < 64:=by omega
  go_wp2_with fail;go_loopw [10] (λv10 wr=>∃ (n:Nat) (ts:List TV) (ok:List Bool) (vT vO:Value),v10=.int .i64 n/\1<=n/\n<=PW/\oJ wr BS gb vT vO ts ok/\Hid (qg x.nd x.l sS x.r s n ts ok)/\af ws wr) (λv10 _=>PW - (intOf v10).toNat)
  case atStart=>exact ⟨1,_,_,_,_,rfl,zG _,hp1,hSt,qg.one _ _ _ _ _,b5⟩
  case round =>
   clear hSt b5;obtain ⟨n,ts,ok,vT,vO,rfl,hn1,hnP,hSt,G_,hbn⟩:=hrel;obtain ⟨wn,hwn⟩:=zB wr;rw [<-hwn] at hSt hbn;rw [<-hwn];clear hwn;have sQ:=zC G_.out.len.1;have oL:=zC G_.out.len.2;have hmk:∀ w',af ws w'->(DU G0 x bP s sS) w':=λw' h=>by
    have mv:∀ {p:Addr} {v:Value},ws.cell? p=some v->w'.cell? p=some v:=λg=>(h.cell (cell_lt g)).trans g;exact ⟨mv hNs.c0,mv hNs.c1,mv s0,mv s1,mv s2,mv s3,mv s4,mv s5⟩
   have aC:=zC hmk;clear hmk;by_cases hnl:n < PW;rotate_left
   ·obtain ⟨hd,hd2⟩:=zL (a:=n) (b:=PW) (by omega);have aaw:n=PW:=by omega
    rw [aaw] at G_;obtain ⟨TA,tc,OA,oc,rfl,rfl,hH,hU⟩:=hSt.done;obtain ⟨w6,hw6⟩:=zB (wn.alloc (.cells #[.slice TA ts.length tc,.slice OA ok.length oc] 111));obtain ⟨g6,kK⟩:=zB wn.heap.size;have b6:=aH hw6;have hL6:w6.heap[g6]? = some (.cells #[.slice TA ts.length tc,.slice OA ok.length oc] 111 (0,0)):=by rw [hw6,kK];exact aA _ _
    have q0:=ah hSt.blk 0 _ rfl;have q1:=ah hSt.blk 1 _ rfl;have jK:=(hR.below hbn).below b6;have ahi:=bel hbn b6;have hb6:=bel hbr ahi;have Uw:B1<=w6.heap.size:=by rw [HB1.out];exact hb6.size
    have u_:=Zr.out;have am9:L.length<=1000000:=by omega
    have HLx:=zC u_;have hUo:∀ g,wQ ⟨TA,ts.length,tc,ts,OA,ok.length,oc,ok⟩ g->B1<=g/\u7.ownBlock ≠ some g:=λg e=>by
     have h1:=hU g e;have h2:=hbr.size;have h3:=nX.out;refine ⟨by rw [HB1.out];omega,λe2=>?_⟩;have:=(gz hR.row g e2).2;omega
    obtain ⟨Uy,hi0,hy0,hy1,hy2⟩:=info_parts Tryz.info111k;have hSM:=m_.out.snoc (y:=⟨TA,ts.length,tc,ts,OA,ok.length,oc,ok⟩) (by rw [u_];exact ku.out) (by rw [u_];exact G_.out);have JA:=zC hSM;clear aaw hSM u_;go_wp2_with (first
     | (at_builtin;rw [<-hw6,<-kK];refine nU rfl _ _ 103 rfl B1 111 Uy (.agg #[.slice none 0 0,.slice none 0 0]) 2 48 Tryz.underlying103k hi0 hy0 hy1 hy2 rfl (by decide) _ L.length (L.flatMap BB.cells) rfl jK.row (some ⟨g6,0,none⟩) 1 1 (BB.cells ⟨TA,ts.length,tc,ts,OA,ok.length,oc,ok⟩) rfl (Rd.of_block hL6 2 1 rfl) (afb _) (by simp only [maxLen];omega) (by omega) Uw ?_;intro v' w9 gU pY ha9)
     | fail)
    have G6:=jK.app (hH.below b6) hUo pY ha9 (by rw [List.flatMap_append,List.flatMap_singleton];exact gU);have ji:af w1 w9:=dY hb6 pY (λg e=>by rw [<-HB1.out];exact (gz jK.row g e).1);go_roundw
    case rel=>(go_light;exact ⟨s + 1,L ++ [(⟨TA,ts.length,tc,ts,OA,ok.length,oc,ok⟩:BB)],by go_num,hlt,G6,by show _=_;rw [cZ,HLx.out];rfl,JA.out,ji⟩)
    case measure=>(go_light;simp [intOf];omega)
   obtain ⟨hd,hd2⟩:=zK (a:=n) (b:=PW) (by omega);go_wp2_with fail;go_loopw [11,12] (λv11 v12 wr=>∃ k:Nat,v12=.int .i64 k/\k<=x.m/\wr.ownsRow wn.heap.size 3 1 v11 (K.part (K.iota k) n).length (intCells (K.part (K.iota k) n))/\af wn wr) (λ_ v12 _=>x.m - (intOf v12).toNat)
   case atStart=>exact ⟨0,rfl,aW _,kF _ _ _ _,ai⟩
   case round =>
    clear hd hd2;obtain ⟨k,rfl,hk,hown,hbk⟩:=hrel;have u_:=K.ajM k n;obtain ⟨v,hv⟩:=zB (K.part (K.iota k) n);rw [<-hv] at hown u_;have HV:=zC hv;clear hv;by_cases hkm:k < x.m
    ·have k0:(0:Int)<=(k:Int):=by omega
     have k2:k + 1<=x.m:=hkm;have k3:(k:Int) < 64:=by omega
     obtain ⟨kd,xM⟩:=zK (a:=k) (b:=x.m) (by omega);have hb:=oP (m:=n) (k:=k) (by omega) (by omega);have WT:=zC (K.ajL k n);cases hbit:n.testBit k
     ·rw [hbit,if_neg (by decide)] at hb;have HE:=zC (show K.part (K.iota (k + 1)) n=v by rw [WT.out,hbit,HV.out];simp);clear hbit;go_wp2_with fail;go_roundw
      case rel=>(go_light;exact ⟨k + 1,by go_num,k2,by rw [HE.out];exact hown,hbk⟩)
      case measure=>(go_light;simp [intOf];omega)
     ·rw [hbit,if_pos rfl] at hb;have HE:=zC (show K.part (K.iota (k + 1)) n=v ++ [(k:Int)] by rw [WT.out,hbit,HV.out];simp);obtain ⟨g9,pY⟩:=zB wr.heap.size;obtain ⟨w6,hw6⟩:=zB (wr.alloc (.cells #[.int .i64 k] 3));have b6:=aH hw6;have lU:w6.heap[g9]? = some (.cells #[.int .i64 k] 3 (0,0)):=by rw [hw6,pY];exact aA _ _
      have hown6:=own_below hown b6;have hb6:=bel hbk b6;have Tc:wn.heap.size<=w6.heap.size:=hb6.size;have hv6:v.length<=1000000:=by omega
      clear hbit;go_wp2_with (first
       | (at_builtin;rw [<-hw6,<-pY];refine wU rfl _ _ rfl wn.heap.size _ v.length v rfl hown6 g9 k rfl lU hv6 Tc ?_;intro v7 w7 jO xB _)
       | fail)
      have hb7:af wn w7:=dY hb6 xB (λg e=>(gz hown6 g e).1);go_roundw
      case rel=>(go_light;exact ⟨k + 1,by go_num,k2,by rw [HE.out,cZ];exact jO,hb7⟩)
      case measure=>(go_light;simp [intOf];omega)
    obtain ⟨kd,xM⟩:=zL (a:=k) (b:=x.m) (by omega);have zy:k=x.m:=by omega
    have HV2:=zC (show v=K.part (K.iota x.r.length) n by rw [HV.out,zy,aS.out]);obtain ⟨V,vc,rfl,ZM,hVn⟩:=fP hown;have LX:Ints wr V v.length v:=⟨rfl,ZM⟩;obtain ⟨vn,Uh⟩:=zB v.length;rw [<-Uh] at LX u_ ⊢;have iR:=zC Uh;clear zy Uh ZM hVn hown;obtain ⟨wd,hwd⟩:=zB wr;rw [<-hwd] at hbk LX;rw [<-hwd];clear hwd;have t_:=LX;have IC:vn<=1000000000:=by omega
    have hv4:K.bF (x.one sS).nd (x.one sS).l (x.one sS).s (x.one sS).r v=true->v.length<=4:=λ_=>by rw [<-iR.out];omega
    have MF:=bel hbn hbk;have GK:=((hxs.below MF).case DK.out);obtain ⟨p0,p1,s0,s1,s2,s3,s4,s5⟩:=aC.out _ MF;obtain ⟨Y,hY⟩:=zB (K.jF x.nd x.l sS x.r v);have HY:=zC hY;have JR:=zC (show Y=K.oO x.nd x.l sS x.r n by unfold K.oO;rw [if_neg (by omega),<-HV2.out];exact hY);rw [sO.out];clear hY LX;have hmk:∀ w',af wd w'->(DU G0 x bP s sS) w':=λw' h=>by
     have mv:∀ {p:Addr} {v:Value},wd.cell? p=some v->w'.cell? p=some v:=λg=>(h.cell (cell_lt g)).trans g;exact ⟨mv p0,mv p1,mv s0,mv s1,mv s2,mv s3,mv s4,mv s5⟩
    have hbd0:af wd wd:=ai;have S0:=hmk _ hbd0;have ba:af wd (wd.alloc (.cells #[.int .i64 0,.slice none 0 0,.slice none 0 0,.int .i64 0] 80)):=ai.alloc (zG _) _;have uP:=hmk _ ba;have aQ:=hmk _ hbd0.drew;have yJ:=hmk _ ba.drew;have hAt:=λw' (h:af wd w')=>GK.below h;go_upto_region 15 with fail;go_cut [13,14] from 48 to 57 (λvp ve wc=>∃ g A n c A' n' c',vp=.pointer (some ⟨g,0,none⟩)/\ve=.int .i64 Y.2/\jr wc g 0 (.slice A n c) (.slice A' n' c') Y.1.end_/\Ints wc A n Y.1.stops/\Ints wc A' n' Y.1.times/\af wd wc/\wd.heap.size<=g/\(∀ b,Ft A n b\/Ft A' n' b->b ≠ g/\wd.heap.size<=b))
    case first =>
     go_region_held3 (DU G0 x bP s sS)
      (with_reducible first | exact F_ | exact F8 | exact F7 | exact S1 | exact yJ | exact uP | exact aQ | exact S0 | fail)
      (first
       | (go_at_call 81;refine (XU (x.one sS) V vn vc v _ (hAt _ ?_) (t_.below ?_) IC hv4).mono ?_;(first | with_reducible exact hbd0 | with_reducible exact ba | with_reducible exact hbd0.drew | with_reducible exact ba.drew);(first | with_reducible exact hbd0 | with_reducible exact ba | with_reducible exact hbd0.drew | with_reducible exact ba.drew);rw [show K.jF (x.one sS).nd (x.one sS).l (x.one sS).s (x.one sS).r v=Y from HY.out.symm];rintro e w5 ⟨⟨A0,n0,c0,A1,n1,c1,rfl,hI0,hI1,hf0,hf1⟩,hbn⟩;(first | (have b5:=bel hbd0.drew hbn;have yP:=bel b5 (ai.alloc (zG _) (.cells #[.int .i64 0,.slice A0 n0 c0,.slice A1 n1 c1,.int .i64 Y.1.end_] 80));have F8:=hmk _ yP;have F7:=hmk _ (bel b5 (ai.alloc (zG _) (.cells #[.int .i64 0,.slice none 0 0,.slice none 0 0,.int .i64 0] 80)))) | (have b5:=bel ba.drew hbn;have fM:=au hbn (aA wd (.cells #[.int .i64 0,.slice none 0 0,.slice none 0 0,.int .i64 0] 80));have F_:=hmk _ (mX b5 (zG _) (.int .i64 0) (.slice A0 n0 c0) (.slice A1 n1 c1) (.int .i64 Y.1.end_));obtain ⟨t0,t1,t2,t3⟩:=jr.cells (h:=0) fM;have tf:=b_ fM));have S1:=hmk _ b5)
       | fail)
     ·have hdz:wd.drew.heap.size=wd.heap.size:=rfl;have hlo:∀ b,Ft A0 n0 b\/Ft A1 n1 b->b ≠ w5.heap.size/\wd.heap.size<=b:=λb e=>by
       rcases e with e | e
       ·have h8:=EM hI0 e;obtain ⟨-,ad,e1,e2⟩:=e;have h9:=hf0 ad e1;rw [e2,hdz] at h9;exact ⟨by omega,h9⟩
       ·have h8:=EM hI1 e;obtain ⟨-,ad,e1,e2⟩:=e;have h9:=hf1 ad e1;rw [e2,hdz] at h9;exact ⟨by omega,h9⟩
      go_wp2_with fail;go_meet
      case rel=>(go_light;exact ⟨w5.heap.size,A0,n0,c0,A1,n1,c1,rfl,rfl,aA _ _,hI0.below (ai.alloc (zG _) _),hI1.below (ai.alloc (zG _) _),yP,b5.size,hlo⟩)
     ·have lW:=aF wd (.cells #[.int .i64 0,.slice none 0 0,.slice none 0 0,.int .i64 0] 80);have hdz:(wd.alloc (.cells #[.int .i64 0,.slice none 0 0,.slice none 0 0,.int .i64 0] 80)).drew.heap.size=(wd.alloc (.cells #[.int .i64 0,.slice none 0 0,.slice none 0 0,.int .i64 0] 80)).heap.size:=rfl;have hlo:∀ b,Ft A0 n0 b\/Ft A1 n1 b->b ≠ wd.heap.size/\wd.heap.size<=b:=λb e=>by
       rcases e with e | e
       ·obtain ⟨-,ad,e1,e2⟩:=e;have h9:=hf0 ad e1;rw [e2,hdz,lW] at h9;exact ⟨by omega,by omega⟩
       ·obtain ⟨-,ad,e1,e2⟩:=e;have h9:=hf1 ad e1;rw [e2,hdz,lW] at h9;exact ⟨by omega,by omega⟩
      have hne0:∀ ad':Addr,A0=some ad'->ad'.block ≠ wd.heap.size:=λad' e h9=>by
       have h8:=hf0 ad' e;rw [h9,hdz,lW] at h8;omega
      have hne1:∀ ad':Addr,A1=some ad'->ad'.block ≠ wd.heap.size:=λad' e h9=>by
       have h8:=hf1 ad' e;rw [h9,hdz,lW] at h8;omega
      have vk:jr ((((w5.setCell ⟨wd.heap.size,0,none⟩ (.int .i64 0)).setCell ⟨wd.heap.size,1,none⟩ (.slice A0 n0 c0)).setCell ⟨wd.heap.size,2,none⟩ (.slice A1 n1 c1)).setCell ⟨wd.heap.size,3,none⟩ (.int .i64 Y.1.end_)) wd.heap.size 0 (.slice A0 n0 c0) (.slice A1 n1 c1) Y.1.end_:=di (di (di (di fM 0 _) 1 _) 2 _) 3 _;have b9:=mX b5 (zG _) (.int .i64 0) (.slice A0 n0 c0) (.slice A1 n1 c1) (.int .i64 Y.1.end_);clear lW hdz;go_wp2_with fail;go_meet
      case rel=>(go_light;exact ⟨wd.heap.size,A0,n0,c0,A1,n1,c1,rfl,rfl,vk,(((hI0.set _ hne0).set _ hne0).set _ hne0).set _ hne0,(((hI1.set _ hne1).set _ hne1).set _ hne1).set _ hne1,b9,zG _,hlo⟩)
    case rest =>
     obtain ⟨g,A0,n0,c0,A1,n1,c1,rfl,rfl,hT,hI0,hI1,hbc,hgw,hfr⟩:=hcut;rw [<-sO.out];have S_:=bel hbk hbc;have hgs:BS<=g:=by have:=MF.size;have:=nX.out;omega
     have ag7:=hSt.below S_;have anj:=lt_of_block hT;have MG:=hbk;clear S0 uP aQ yJ hmk hAt t_ ba hbd0 hbc p0 p1 s0 s1 s2 s3 s4 s5 GK hbk;obtain ⟨t0,t1,t2,t3⟩:=hT.cells;have tf:=b_ hT;obtain ⟨w6,hw6⟩:=zB (wc.setCell ⟨g,0,none⟩ (.int .i64 s));have ahw:wn.heap.size<=g:=by have:=MG.size;omega
     have Qw:af wn w6:=by rw [hw6];exact S_.setCell (p:=⟨g,0,none⟩) ahw _
     have jh:jr w6 g s (.slice A0 n0 c0) (.slice A1 n1 c1) Y.1.end_:=by rw [hw6];exact di hT 0 _
     have yY:Ints w6 A0 n0 Y.1.stops:=by rw [hw6];exact hI0.set0 _ λh0 ad e e2=>(hfr g (.inl ⟨h0,ad,e,e2⟩)).1 rfl
     have yZ:Ints w6 A1 n1 Y.1.times:=by rw [hw6];exact hI1.set0 _ λh0 ad e e2=>(hfr g (.inr ⟨h0,ad,e,e2⟩)).1 rfl
     have RY:=hSt.below Qw;go_upto_region 17 with fail;rw [<-hw6];clear hw6 t0 t1 t2 t3 tf hT hI0 hI1 ag7 S_;obtain ⟨t0,t1,t2,t3⟩:=jh.cells;obtain ⟨w7,hw7⟩:=zB (w6.alloc (.cells #[.int .i64 s,.slice A0 n0 c0,.slice A1 n1 c1,.int .i64 Y.1.end_] 80));obtain ⟨g7,oG⟩:=zB w6.heap.size;have b7:=aH hw7;have hL7:w7.heap[g7]? = some (.cells #[.int .i64 s,.slice A0 n0 c0,.slice A1 n1 c1,.int .i64 Y.1.end_] 80 (0,0)):=by rw [hw7,oG];exact aA _ _
     have Eh:=RY.below b7;have SY:=bel hbn (bel Qw b7);have rP:BS<=w7.heap.size:=by rw [nX.out];exact SY.size
     have q0:=ah RY.blk 0 _ rfl;have Uf:ts.length<=1000000:=by have:=sQ.out;omega
     have anv:ok.length<=1000000:=by have:=oL.out;omega
     have hyo:∀ b,Ft A0 n0 b\/Ft A1 n1 b->BS<=b/\vT.ownBlock ≠ some b/\vO.ownBlock ≠ some b/\b ≠ gb:=λb e=>by
      have h1:=(hfr b e).2;have h2:=MF.size;have h3:=nX.out;refine ⟨by omega,λe2=>?_,λe2=>?_,λe2=>?_⟩
      ·have:=(gz hSt.rowT b e2).2;have:=MG.size;omega
      ·have:=(gz hSt.Dp b e2).2;have:=MG.size;omega
      ·have:=lt_of_block hSt.blk;have:=MG.size;omega
     go_upto_region 18 with (first
      | (at_builtin;rw [<-hw7,<-oG];refine Qk rfl _ _ rfl BS _ ts.length ts rfl Eh.rowT g7 ⟨s,A0,n0,c0,A1,n1,c1,Y.1⟩ rfl hL7 Uf rP ?_;intro v8 w8 xH Cb Mc;have Bq:=iV Cb Eh.blk (λe=>Eh.nT e.symm);have z0:w8.cell? ⟨gb,0,none⟩=some vT:=ah Bq 0 _ rfl;have zf:=b_ Bq;obtain ⟨T8,c8,rfl,-,-⟩:=fP xH)
      | fail)
     obtain ⟨w9,o7⟩:=zB (w8.setCell ⟨gb,0,none⟩ (.slice T8 (ts.length + 1) c8));rw [<-o7];have RZ:oJ w9 BS gb (.slice T8 (ts.length + 1) c8) vO (ts ++ [⟨s,A0,n0,c0,A1,n1,c1,Y.1⟩]) ok:=by rw [o7];exact Eh.ae0 ⟨yY.below b7,yZ.below b7⟩ hyo Cb Mc xH
     have Z8:af ws w8:=dY SY Cb (λg e=>by rw [<-nX.out];exact (gz Eh.rowT g e).1);have vC:af ws w9:=by rw [o7];exact Z8.setCell (p:=⟨gb,0,none⟩) (by rw [<-nX.out];exact hSt.hB) _
     clear o7 Bq z0 zf xH Cb Mc hw7 oG hL7 Eh SY rP q0 RY t0 t1 t2 t3 yY yZ jh b7 Qw hyo Z8;obtain ⟨z,hz⟩:=zB ((Y.2 == 0));have d1:(Y.2 == 0)=z:=hz.symm;have d2:decide (Y.2=0)=z:=by rw [hz,Bool.eq_iff_iff];simp
     have HZ:=zC hz;clear hz;obtain ⟨w10,MW⟩:=zB (w9.alloc (.cells #[.bool z] 4));obtain ⟨g10,Tt⟩:=zB w9.heap.size;have b10:=aH MW;have Lm:w10.heap[g10]? = some (.cells #[.bool z] 4 (0,0)):=by rw [MW,Tt];exact aA _ _
     have Eg:=RZ.below b10;have SX:=bel vC b10;have aaY:BS<=w10.heap.size:=by rw [nX.out];exact SX.size
     have q1:=ah RZ.blk 1 _ rfl;obtain ⟨Uy,hi0,hy0,hy1,hy2⟩:=info_parts Tryz.info4k;go_upto_region 8 with (first
      | (at_builtin;rw [<-MW,<-Tt];refine nU rfl _ _ 109 rfl BS 4 Uy (.bool false) 1 1 Tryz.underlying109k hi0 hy0 hy1 hy2 rfl (by decide) _ ok.length (ok.flatMap Bi) rfl Eg.Dp (some ⟨g10,0,none⟩) 1 1 (Bi z) rfl (Rd.of_block Lm 1 1 rfl) (by intro u hu;rw [show u=.bool z from dB.1 hu];rfl) (by simp only [maxLen];omega) (by omega) aaY ?_;intro v11 vZ TY MK ZX;have QX:=iV MK Eg.blk (λe=>Eg.nO e.symm);have z0:vZ.cell? ⟨gb,1,none⟩=some vO:=ah QX 1 _ rfl;have zf:=b_ QX;obtain ⟨T11,c11,rfl,-,-⟩:=fP TY)
      | fail)
     obtain ⟨w12,EH⟩:=zB (vZ.setCell ⟨gb,1,none⟩ (.slice T11 (ok.length + 1) c11));rw [<-EH];have ag6:oJ w12 BS gb (.slice T8 (ts.length + 1) c8) (.slice T11 (ok.length + 1) c11) (ts ++ [⟨s,A0,n0,c0,A1,n1,c1,Y.1⟩]) (ok ++ [z]):=by rw [EH];exact Eg.aeZ MK ZX TY
     have ahg:af ws vZ:=dY SX MK (λg e=>by rw [<-nX.out];exact (gz Eg.Dp g e).1);have ahh:af ws w12:=by rw [EH];exact ahg.setCell (p:=⟨gb,1,none⟩) (by rw [<-nX.out];exact hSt.hB) _
     have HSY:=zC (G_.out.snoc (y:=⟨s,A0,n0,c0,A1,n1,c1,Y.1⟩) (b:=z) (by omega) (by rw [<-JR.out];rfl) (by rw [<-JR.out];exact HZ.out));clear EH QX z0 zf TY MK ZX MW Tt Lm Eg SX aaY q1 d1 d2 b10 RZ vC;go_wp2_with fail;go_roundw
     case rel=>(go_light;exact ⟨n + 1,_,_,_,_,by go_num,by omega,hnl,ag6,HSY.out,ahh⟩)
     case measure=>(go_light;simp [intOf];omega)
theorem ZV (A:aj) (n c:Nat) (l:ag) (x:Int) (w:World) (hl:Ints w A n l) (hn:n<=1000000000) :
  ay 55 #[.slice A n c,.int .i64 x] w (bg w (l.any (· == x))):=by
 go_enter Tryz.func55,Tryz.ntmps55;go_wp2_with fail;go_loopw [5] (λvi wr=>∃ k:Nat,vi=.int .i64 k/\k<=n/\Hid (l.any (· == x)=(l.drop k).any (· == x))/\af w wr) (λvi _=>n - (intOf vi).toNat)
 case atStart=>exact ⟨0,rfl,by omega,by show _=_;rw [List.drop_zero],ai⟩
 case round =>
  obtain ⟨k,rfl,hk,hr,hW⟩:=hrel;by_cases hlt:k < n
  ·obtain ⟨ad,y,rfl,hg,c0⟩:=(hl.below hW).at_ hlt;have HS:=zC (oU (p:=(· == x)) hg);obtain ⟨k0,k1⟩:=zJ (a:=k) (b:=n) (by omega);clear hg;by_cases hxy:y=x
   ·have hd1:decide (y=x)=true:=zH hxy;have hd2:(y == x)=true:=beq_iff_eq.2 hxy;have jo:=zC hd2;clear hxy;go_wp2_with fail;go_ret;exact ⟨by rw [hr.out,HS.out,jo.out];rfl,hW⟩
   ·have hd1:decide (y=x)=false:=zI hxy;have hd2:(y == x)=false:=beq_eq_false_iff_ne.2 hxy;have jo:=zC hd2;clear hxy;go_wp2_with fail;go_roundw
    case rel=>exact ⟨k + 1,by go_num,by omega,by show _=_;rw [hr.out,HS.out,jo.out];rfl,hW⟩
    case measure=>simp [intOf];omega
  ·have HD:=zC (show l.drop k=[] from dF (by rw [<-hl.1];omega));go_wp2_with fail;go_ret;exact ⟨by rw [hr.out,HD.out];rfl,hW⟩
theorem adm (PA:aj) (n c:Nat) (l:ag) (B:aj) (m d:Nat) (v:ag) (w:World) (hl:Ints w PA n l) (hn:n<=1000000000) (hv:Ints w B m v) (hm:m<=1000000000) :
  ay 80 #[.slice PA n c,.slice B m d] w (bg w (A.part l v)):=by
 obtain ⟨R,hR⟩:=zB (A.part l v);rw [<-hR];have HR:=zC (show R=l.all λx=>v.any (· == x) from hR);clear hR;go_enter Tryz.func80,Tryz.ntmps80;go_wp2_with fail;go_loopw [5] (λvi wr=>∃ k:Nat,vi=.int .i64 k/\k<=n/\Hid (R=(l.drop k).all λx=>v.any (· == x))/\af w wr) (λvi _=>n - (intOf vi).toNat)
 case atStart=>exact ⟨0,rfl,by omega,by show _=_;rw [List.drop_zero];exact HR.out,ai⟩
 case round =>
  obtain ⟨k,rfl,hk,hr,hW⟩:=hrel;by_cases hlt:k < n
  ·obtain ⟨ad,y,rfl,hg,c0⟩:=(hl.below hW).at_ hlt;have HS:=zC (D6 (p:=λx=>v.any (· == x)) hg);obtain ⟨k0,k1⟩:=zJ (a:=k) (b:=n) (by omega);obtain ⟨b,hb⟩:=zB (v.any (· == y));have HB:=zC hb;clear hg hb;go_wp2_with fail;refine (ZV B m d v y wr (hv.below hW) hm).mono ?_;rw [<-HB.out];rintro e w1 ⟨rfl,b1⟩;have hW1:=bel hW b1;cases b
   ·go_wp2_with fail;go_ret;exact ⟨by rw [hr.out,HS.out,<-HB.out];rfl,hW1⟩
   ·go_wp2_with fail;go_roundw
    case rel=>exact ⟨k + 1,by go_num,by omega,by show _=_;rw [hr.out,HS.out,<-HB.out];rfl,hW1⟩
    case measure=>simp [intOf];omega
  ·have HD:=zC (show l.drop k=[] from dF (by rw [<-hl.1];omega));go_wp2_with fail;go_ret;exact ⟨by rw [hr.out,HD.out];rfl,hW⟩
namespace K
def Je (nd:Int) (l:List Ro) (ss:List S) (r:List Q):Bool:=(aZ nd l == 0) && (decide (ss.length<=4) && (!ss.any (kG nd) && !r.any (jR nd)))
theorem ajV (nd:Int) (l:List Ro) (ss:List S) (r:List Q):bK nd l ss r=if Je nd l ss r=true then (if 6 < r.length then 6 else 0) else 1:=by
 unfold bK Je;by_cases h1:aZ nd l=0
 ·by_cases h2:ss.length<=4
  ·cases h3:ss.any (kG nd) <;> cases h4:r.any (jR nd) <;> simp [h1,h2]
  ·cases h3:ss.any (kG nd) <;> cases h4:r.any (jR nd) <;> simp [h1,h2]
 ·simp [h1]
end K
theorem ak2 (x:Cs) (w:World) (hx:eu w x) :
  ay 111 #[.agg #[.int .i64 x.nd,.slice x.A x.n x.c],.slice x.SA x.sn x.sc,.slice x.B x.m x.d] w (bg w (K.Je x.nd x.l x.ss x.r)):=by
 obtain ⟨R,hR⟩:=zB (K.Je x.nd x.l x.ss x.r);rw [<-hR];have HR:=zC (show R=((K.aZ x.nd x.l == 0) && (decide (x.ss.length<=4) && (!x.ss.any (K.kG x.nd) && !x.r.any (K.jR x.nd)))) from hR);clear hR;obtain ⟨w1,hw1⟩:=zB (w.alloc (.cells #[.int .i64 x.nd,.slice x.A x.n x.c] 24));have b0:=aH hw1;obtain ⟨G0,hG0⟩:=zB w.heap.size;have hN:Net w1 G0 x.nd x.A x.n x.c:=by rw [hw1,hG0];exact Net.new w x.nd x.A x.n x.c
 have ahY:=hx.b3;have hmb:=hx.b4;have eF:=zC hx.shifts.1.1;have aS:=zC hx.bf.1;have p0:=hN.c0;have p1:=hN.c1;obtain ⟨ne,hne⟩:=zB (K.aZ x.nd x.l);go_enter Tryz.func111,Tryz.ntmps111;go_wp2_with fail;rw [<-hw1,<-hG0];clear hw1 hG0;refine (Jf x.nd x.A x.n x.c x.l _ (aX.below hx.net b0) hx.b1).mono ?_;rw [<-hne];rintro e w2 ⟨rfl,b2⟩;have iq:=zC hne;have hN:=hN.below b2;have hb2:=bel b0 b2;clear p0 p1 b0 b2 hne;by_cases hz:ne=0;rotate_left
 ·have hd:(ne != 0)=true:=by simp [bne,hz]
  have HX:=zC (show R=false by rw [HR.out,<-iq.out];simp [hz]);have hd2:decide (ne=0)=false:=by simp [hz]
  clear hz;go_wp2_with fail;go_ret;exact ⟨by rw [HX.out];rfl,hb2⟩
 subst hz;by_cases h4:x.sn<=4;rotate_left
 ·have hd:decide ((4:Int) < (x.sn:Int))=true:=by simp;omega
  have hd2:decide (4 < x.sn)=true:=by simp;omega
  have HX:=zC (show R=false by rw [HR.out,<-eF.out];simp [h4]);clear h4;go_wp2_with fail;go_ret;exact ⟨by rw [HX.out];rfl,hb2⟩
 have hd:decide ((4:Int) < (x.sn:Int))=false:=by simp;omega
 have hd2:decide (4 < x.sn)=false:=by simp;omega
 have HR2:=zC (show R=(!x.ss.any (K.kG x.nd) && !x.r.any (K.jR x.nd)) by
  have h0:(K.aZ x.nd x.l == 0)=true:=by rw [<-iq.out];rfl
  have h9:decide (x.ss.length<=4)=true:=zH (by rw [<-eF.out];exact h4);rw [HR.out,h0,h9,Bool.true_and,Bool.true_and])
 clear HR iq;go_wp2_with fail;clear hd hd2;go_loopw [7] (λv wr=>∃ k:Nat,v=.int .i64 k/\k<=x.sn/\Hid (x.ss.any (K.kG x.nd)=(x.ss.drop k).any (K.kG x.nd))/\af w2 wr) (λv _=>x.sn - (intOf v).toNat)
 case atStart=>exact ⟨0,rfl,aW _,(by show _=_;rw [List.drop_zero]),ai⟩
 case round =>
  obtain ⟨k,rfl,hk,hr,hbr⟩:=hrel;have hbw:=bel hb2 hbr;by_cases hlt:k < x.sn
  ·obtain ⟨ad,s,hA,hs,hI,c0,c1,c2,c3,c4,c5⟩:=(hx.shifts.below hbw).at_ hlt;have HS:=zC (oU (p:=K.kG x.nd) hs);have hsn:=hx.b2 s (zD hs);obtain ⟨k0,k1⟩:=zJ (a:=k) (b:=x.sn) (by omega);obtain ⟨ce,hce⟩:=zB (T.check s);have CK:∀ i:ak wr,ay 154 #[fG s] i.val (og i.val ce):=λi=>by rw [hce];exact N7 s i.val (hI.below i.property) hsn
   have q0:=ak.cell (hN.below hbr).c0;have e0:=ak.cell c0;have e1:=ak.cell c1;have e2:=ak.cell c2;have e3:=ak.cell c3;have e4:=ak.cell c4;have e5:=ak.cell c5;have ww:=zC (show K.kG x.nd s=(!(ce == 0) || decide (x.nd<=s.ax)) by rw [hce];rfl);clear hs hI hce c0 c1 c2 c3 c4 c5;rw [hA];clear hA;go_upto_region 6 with fail;obtain ⟨z1,hz1⟩:=zB ((ce != 0));have HZ1:=zC (show (ce == 0)=!z1 by rw [hz1];simp [bne]);obtain ⟨z2,hz2⟩:=zB (decide (x.nd<=s.ax));have HZ2:=zC hz2.symm;have f1:=hz1.symm;have f2:=hz2.symm;clear hz1 hz2;have Fj:=zC (show K.kG x.nd s=(z1 || z2) by rw [ww.out,HZ1.out,HZ2.out,Bool.not_not]);have h5:z1=true\/(z1=false/\z2=true)\/(z1=false/\z2=false):=by cases z1 <;> cases z2 <;> simp
   rcases h5 with rfl | ⟨rfl,rfl⟩ | ⟨rfl,rfl⟩
   all_goals
    refine fV (by kernel_rfl) (by kernel_rfl) ?_;repeat (go_big_quiet_step ((go_at_call 154;exact ak.calls (CK _))))
    refine wpQuiet_nil ?_;rintro w4 ⟨⟨w4,b4⟩,rfl⟩;have hb4:=bel hbr b4;have SG:=bel hb2 hb4;clear CK q0 e0 e1 e2 e3 e4 e5 f1 f2;go_wp2_with fail;first
     | (go_ret
        exact ⟨by rw [HR2.out,hr.out,HS.out,Fj.out];simp,SG⟩)
     | (go_roundw
        case rel=>exact ⟨k + 1,by go_num,hlt,by show _=_;rw [hr.out,HS.out,Fj.out];rfl,hb4⟩
        case measure=>simp [intOf];omega)
  ·have HD:=zC (show x.ss.drop k=[] from dF (by rw [<-eF.out];omega));obtain ⟨hd,hd2⟩:=zL (a:=k) (b:=x.sn) (by omega);have HR3:=zC (show R=!x.r.any (K.jR x.nd) by rw [HR2.out,hr.out,HD.out];rfl);have hN3:=hN.below hbr;clear hr HD HR2 hlt hk;go_wp2_with fail;clear hd hd2;go_loopw [8] (λv wq=>∃ k:Nat,v=.int .i64 k/\k<=x.m/\Hid (x.r.any (K.jR x.nd)=(x.r.drop k).any (K.jR x.nd))/\af wr wq) (λv _=>x.m - (intOf v).toNat)
   case atStart=>exact ⟨0,rfl,aW _,(by show _=_;rw [List.drop_zero]),ai⟩
   case round =>
    obtain ⟨k,rfl,hk,hr,hbq⟩:=hrel;have hbw2:=bel hbw hbq;by_cases hlt:k < x.m
    ·obtain ⟨ad,q,hA,hq,hI,c0,c1,c2,c3,c4,c5,c6⟩:=(hx.bf.below hbw2).at_ hlt;have HS:=zC (oU (p:=K.jR x.nd) hq);have fU:=hx.b5 q (zD hq);obtain ⟨k0,k1⟩:=zJ (a:=k) (b:=x.m) (by omega);obtain ⟨ce,hce⟩:=zB (T.right q);have CK:∀ i:ak wr,ay 152 #[iL q] i.val (bg i.val ce):=λi=>by rw [hce];exact Vw q i.val (hI.below i.property) fU
     have q0:=ak.cell (hN3.below hbq).c0;have e0:=ak.cell c0;have e1:=ak.cell c1;have e2:=ak.cell c2;have e3:=ak.cell c3;have e4:=ak.cell c4;have e5:=ak.cell c5;have e6:=ak.cell c6;have ww:=zC (show K.jR x.nd q=(!ce || decide (x.nd<=q.node)) by rw [hce];rfl);clear hq hI hce c0 c1 c2 c3 c4 c5 c6;rw [hA];clear hA;go_upto_region 11 with fail;obtain ⟨z2,hz2⟩:=zB (decide (x.nd<=q.node));have HZ2:=zC hz2.symm;have f2:=hz2.symm;clear hz2;have Fj:=zC (show K.jR x.nd q=(!ce || z2) by rw [ww.out,HZ2.out]);have h5:ce=false\/(ce=true/\z2=true)\/(ce=true/\z2=false):=by cases ce <;> cases z2 <;> simp
     rcases h5 with rfl | ⟨rfl,rfl⟩ | ⟨rfl,rfl⟩
     all_goals
      refine fV (by kernel_rfl) (by kernel_rfl) ?_;repeat (go_big_quiet_step ((go_at_call 152;exact ak.calls (CK _))))
      refine wpQuiet_nil ?_;rintro w4 ⟨⟨w4,b4⟩,rfl⟩;have hb4:=bel hbq b4;have SG:=bel hbw hb4;clear CK q0 e0 e1 e2 e3 e4 e5 e6 f2;go_wp2_with fail;first
       | (go_ret
          exact ⟨by rw [HR3.out,hr.out,HS.out,Fj.out];rfl,SG⟩)
       | (go_roundw
          case rel=>exact ⟨k + 1,by go_num,hlt,by show _=_;rw [hr.out,HS.out,Fj.out];rfl,hb4⟩
          case measure=>simp [intOf];omega)
    ·have HD:=zC (show x.r.drop k=[] from dF (by rw [<-aS.out];omega));obtain ⟨hd,hd2⟩:=zL (a:=k) (b:=x.m) (by omega);go_wp2_with fail;go_ret;exact ⟨by rw [HR3.out,hr.out,HD.out];rfl,hbw2⟩
theorem Vx (x:Cs) (w:World) (hx:eu w x) :
  ay 69 #[.agg #[.int .i64 x.nd,.slice x.A x.n x.c],.slice x.SA x.sn x.sc,.slice x.B x.m x.d] w (og w (K.bK x.nd x.l x.ss x.r)):=by
 obtain ⟨P,hP⟩:=zB (K.bK x.nd x.l x.ss x.r);rw [<-hP];have HP:=zC (hP.trans (K.ajV _ _ _ _));clear hP;obtain ⟨w1,hw1⟩:=zB (w.alloc (.cells #[.int .i64 x.nd,.slice x.A x.n x.c] 24));have b0:=aH hw1;obtain ⟨G0,hG0⟩:=zB w.heap.size;have hN:Net w1 G0 x.nd x.A x.n x.c:=by rw [hw1,hG0];exact Net.new w x.nd x.A x.n x.c
 have p0:=hN.c0;have p1:=hN.c1;have hmb:=hx.b4;have aS:=zC hx.bf.1;go_enter Tryz.func69,Tryz.ntmps69;go_wp2_with fail;rw [<-hw1,<-hG0];clear hw1 hG0;refine (ak2 x _ (hx.below b0)).mono ?_;obtain ⟨z,hz⟩:=zB (K.Je x.nd x.l x.ss x.r);rw [<-hz];rw [<-hz] at HP;clear hz;rintro e w2 ⟨rfl,b2⟩;have hb2:=bel b0 b2;clear p0 p1;cases z
 ·have HX:=zC (show P=1 from HP.out);go_wp2_with fail;go_ret;exact ⟨by rw [HX.out];rfl,hb2⟩
 by_cases h6:6 < x.m
 ·have hd:decide ((6:Int) < (x.m:Int))=true:=by simp;omega
  have hd2:decide (6 < x.m)=true:=by simp;omega
  have HX:=zC (show P=6 by rw [HP.out,if_pos rfl,if_pos (by rw [<-aS.out];exact h6)]);clear h6;go_wp2_with fail;go_ret;exact ⟨by rw [HX.out];rfl,hb2⟩
 ·have hd:decide ((6:Int) < (x.m:Int))=false:=by simp;omega
  have hd2:decide (6 < x.m)=false:=by simp;omega
  have HX:=zC (show P=0 by rw [HP.out,if_pos rfl,if_neg (by rw [<-aS.out];exact h6)]);clear h6;go_wp2_with fail;go_ret;exact ⟨by rw [HX.out];rfl,hb2⟩
end Go.Proofs.YtippdjmpkafifaaGreat
