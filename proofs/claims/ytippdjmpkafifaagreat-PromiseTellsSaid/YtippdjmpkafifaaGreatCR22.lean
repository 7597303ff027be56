import Derived.Test.YtippdjmpkafifaaGreatCR19
import Derived.Test.YtippdjmpkafifaaGreatCR21
import Derived.Test.YtippdjmpkafifaaGreatCR15
import Derived.Test.YtippdjmpkafifaaGreatCR20
import Derived.Test.YtippdjmpkafifaaGreatCR7
import Derived.Test.YtippdjmpkafifaaGreatCR14
set_option maxRecDepth 100000
set_option maxHeartbeats 64000000
namespace Go.Proofs.YtippdjmpkafifaaGreat
open Go.RowKit
theorem akn (x:Cs) (TA:aj) (tn tc:Nat) (ts:List TV) (w:World) (hx:eu w x) (hT:ja w TA tn ts) (hF:Am tn ts) (rO:∀ y ∈ ts,y.n<=y.c) :
  ay 27 #[.agg #[.int .i64 x.nd,.slice x.A x.n x.c],.slice x.SA x.sn x.sc,.slice x.B x.m x.d,.slice TA tn tc] w (og w (K.checks x.nd x.l x.ss x.r (ts.map TV.pr))):=by
 obtain ⟨w0,hw0⟩:=zB (w.alloc (.cells #[.int .i64 x.nd,.slice x.A x.n x.c] 24));have b0:=aH hw0;obtain ⟨G0,hG0⟩:=zB w.heap.size;have hN:Net w0 G0 x.nd x.A x.n x.c:=by rw [hw0,hG0];exact Net.new w x.nd x.A x.n x.c
 have p0:=hN.c0;have p1:=hN.c1;go_enter Tryz.func27,Tryz.ntmps27;go_wp2_with fail;rw [<-hw0,<-hG0];clear hw0 hG0;refine (Vx x _ (hx.below b0)).mono ?_;obtain ⟨ce,hce⟩:=zB (K.bK x.nd x.l x.ss x.r);rw [<-hce];rintro e w1 ⟨rfl,b1⟩;have hN1:=hN.below b1;have hb1:=bel b0 b1;clear p0 p1 b0 b1 hN;by_cases hz:ce=0;rotate_left
 ·have HX:=zC (show K.checks x.nd x.l x.ss x.r (ts.map TV.pr)=ce by rw [hce] at hz ⊢;exact K.Yj hz);have hd:(ce != 0)=true:=by simp [bne,hz]
  clear hce;go_wp2_with fail;go_ret;exact ⟨by rw [HX.out];rfl,hb1⟩
 subst hz;have aY:=zC hce.symm;clear hce;have eF:=zC hx.shifts.1.1;have aS:=zC hx.bf.1;have AO:=zC hT.1.1;have o6:x.m<=6:=by rw [aS.out];exact (K.kT aY.out).2.2.2.2
 have uw:x.sn<=4:=by rw [eF.out];exact (K.kT aY.out).2.1
 have Fq:=zC (show K.checks x.nd x.l x.ss x.r (ts.map TV.pr)=_ from K.Yi aY.out);obtain ⟨L,hL⟩:=zB (ts.map TV.pr);rw [<-hL] at Fq;have HL:=zC hL;obtain ⟨ah4,hty⟩:=hF;have HYC:=zC rO;clear rO;clear hL;have hown0:w1.ownsRow w1.heap.size 3 1 (.slice none 0 0) ([]:ag).length (intCells []):=kF _ _ _ _;go_wp2_with fail;go_loopw [10,11] (λv10 v11 wr=>∃ (k:Nat) (last:Int) (served:ag),v11=.int .i64 k/\k<=tn/\wr.ownsRow w1.heap.size 3 1 v10 served.length (intCells served)/\af w1 wr/\Hid (served.Nodup/\(∀ z ∈ served,0<=z/\z < (x.m:Int)))/\served.length<=6/\Hid (K.checks x.nd x.l x.ss x.r L=K.jf x.nd x.l x.ss x.r last served (L.drop k))/\Hid ((k=0/\last=-1)\/∃ j y,k=j + 1/\ts[j]? = some y/\y.sh=last)) (λ_ v11 _=>tn - (intOf v11).toNat)
 case atStart=>exact ⟨0,-1,[],rfl,aW _,hown0,ai,⟨List.nodup_nil,λz hz=>(by cases hz)⟩,aW _,Fq.out,.inl ⟨rfl,rfl⟩⟩
 case round =>
  clear hown0;obtain ⟨k,last,served,rfl,hk,hown,hbr,hsv,dP,hck,hla⟩:=hrel;by_cases hlt:k < tn
  ·obtain ⟨ad,y,hTA,hy,⟨hI1,hI2⟩,c0,c1,c2,c3⟩:=(hT.below (bel hb1 hbr)).at_ hlt;have P8:=zC (zD hy);obtain ⟨hyn,Uu⟩:=hty y (zD hy);have hLk:L[k]? = some y.pr:=by rw [HL.out,dG,hy];rfl
   have HDR:=zC (show K.checks x.nd x.l x.ss x.r L=K.jf x.nd x.l x.ss x.r last served (y.pr :: L.drop (k + 1)) by rw [hck.out,D7 hLk]);have aex:=zC (show ts[k]? = some y from hy);obtain ⟨k0,k1⟩:=zJ (a:=k) (b:=tn) (by omega);obtain ⟨g,hg⟩:=zB wr.heap.size;obtain ⟨w3,hw3⟩:=zB (wr.alloc (.cells #[.int .i64 y.sh,.slice y.A y.n y.c,.slice y.A' y.n' y.c',.int .i64 y.t.end_] 80));have b3:=aH hw3;have hB3:jr w3 g y.sh (.slice y.A y.n y.c) (.slice y.A' y.n' y.c') y.t.end_:=by rw [hw3,hg];exact aA _ _
   have hown3:=own_below hown b3;have hb3:=bel hbr b3;have tJ:=hI1.below b3;have y7:=hI2.below b3;have hN3:=hN1.below hb3;have ZJ:=hT.below (bel hb1 hb3);clear hy hLk hck hown hI1 hI2 hbr;have qw:=zC tJ.1;obtain ⟨t0,t1,t2,t3⟩:=hB3.cells;rw [hTA];go_upto_region 9 with fail;rw [<-hw3,<-hg];clear hw3 hg c0 c1 c2 c3 b3;by_cases hneg:y.sh < 0
   ·have hd1:decide (y.sh < 0)=true:=zH hneg;have HX:=zC (show K.checks x.nd x.l x.ss x.r L=1 by rw [HDR.out];exact K.KL (.inl hneg));clear hneg;go_wp2_with fail;go_ret;exact ⟨by rw [<-HL.out,HX.out];rfl,bel hb1 hb3⟩
   have hd1:decide (y.sh < 0)=false:=zI hneg;by_cases hbig:(x.sn:Int)<=y.sh
   ·have hd2:decide ((x.sn:Int)<=y.sh)=true:=zH hbig;have HX:=zC (show K.checks x.nd x.l x.ss x.r L=1 by rw [HDR.out];exact K.KL (.inr (by rw [<-eF.out];exact hbig)));clear hneg hbig;go_wp2_with fail;go_ret;exact ⟨by rw [<-HL.out,HX.out];rfl,bel hb1 hb3⟩
   have hd2:decide ((x.sn:Int)<=y.sh)=false:=zI hbig;obtain ⟨s,hs⟩:∃ s:Nat,y.sh=(s:Int):=⟨y.sh.toNat,by omega⟩;have hsn:s < x.sn:=by omega
   obtain ⟨bP,sS,jA,hsS,tN,s0,s1,s2,s3,s4,s5⟩:=((hx.below hb1).below hb3).shifts.at_ hsn;have HST:Hid (K.checks x.nd x.l x.ss x.r L=if y.sh<=last then 5 else if y.t.stops.isEmpty || !(K.check x.nd x.l sS x.r y.t) then 24 else if y.t.stops.any (λk=>served.any (· == k)) then 5 else K.jf x.nd x.l x.ss x.r y.sh (served ++ y.t.stops) (L.drop (k + 1))) :=
    zC (HDR.out.trans (K.X_ (t:=y.pr) (by show 0<=y.sh;omega) (by show x.ss[y.sh.toNat]? = _;rw [hs];exact hsS)))
   have hsm:=zD hsS;have ku:=zC hs;have HSX:=zC hsS;clear hs HDR hsS hneg hbig jA;obtain ⟨zl,hzl⟩:=zB (decide (y.sh<=last));have wL:=zC hzl;clear hzl;go_upto_region 11 with fail;clear hd1 hd2;go_cut [54] from 41 to 54 (λv54 wc=>v54=.bool zl/\af w3 wc)
   case first =>
    have q0:=ak.cell t0;rcases hla.out with ⟨rfl,Ib⟩ | ⟨j,yj,rfl,hyj,Ib⟩
    ·have hz0:zl=false:=by rw [wL.out,Ib,ku.out];simp;omega
     subst hz0;have f1:decide ((0:Int) < ((0:Nat):Int))=false:=by decide
     clear s0 s1 s2 s3 s4 s5 t0 t1 t2 t3;refine fV (by kernel_rfl) (by kernel_rfl) ?_;repeat (go_big_quiet_step (fail))
     refine wpQuiet_nil ?_;rintro w4 ⟨⟨w4,b4⟩,rfl⟩;go_wp2_with fail;go_meet;exact ⟨rfl,b4⟩
    ·obtain ⟨adj,yj',LV,Na,-,cj0,-,-,-⟩:=ZJ.at_ (show j < tn by omega);rw [hTA] at LV;injection LV with LV;subst LV;rw [hyj] at Na;injection Na with Na;subst Na;have qj:=ak.cell cj0;have f1:decide ((0:Int) < ((j + 1:Nat):Int))=true:=by simp
     have f2:((j + 1:Nat):Int) - 1=(j:Int):=by omega
     have f3:IntKind.i64.wrap (((j + 1:Nat):Int) - 1)=(j:Int):=by rw [f2];exact dh _ (by omega)
     have f4:decide ((j:Int) < 0)=false:=by simp
     have f5:max (j:Int) 0=(j:Int):=by omega
     have f6:(j:Int) < (tn:Int):=by omega
     have f7:(0:Int)<=(j:Int):=by omega
     have f8:decide (y.sh<=yj.sh)=zl:=by rw [wL.out,Ib]
     clear s0 s1 s2 s3 s4 s5 t0 t1 t2 t3 hyj Ib;refine fV (by kernel_rfl) (by kernel_rfl) ?_;repeat (go_big_quiet_step (fail))
     refine wpQuiet_nil ?_;rintro w4 ⟨⟨w4,b4⟩,rfl⟩;go_wp2_with fail;go_meet;trace_state
     exact ⟨rfl,b4⟩
   case rest =>
    obtain ⟨rfl,b4⟩:=hcut;have hB4:=hB3.below b4;have hown4:=own_below hown3 b4;have hb4:=bel hb3 b4;have Bz:=tJ.below b4;have Zj:=y7.below b4;have Ry:=hN3.below b4;have hx4:=((hx.below hb1).below hb3).below b4;clear t0 t1 t2 t3 s0 s1 s2 s3 s4 s5 hB3 hown3 tJ y7 hN3 ZJ tN;cases zl;rotate_left
    ·have HX:=zC (show K.checks x.nd x.l x.ss x.r L=5 by rw [HST.out,if_pos (iH wL.out.symm)]);go_wp2_with fail;go_ret;exact ⟨by rw [<-HL.out,HX.out];rfl,bel hb1 hb4⟩
    have qp:=zC (HST.out.trans (if_neg (of_decide_eq_false wL.out.symm)));obtain ⟨t0,t1,t2,t3⟩:=hB4.cells;clear HST wL;go_wp2_with fail;by_cases hn0:y.n=0
    ·have hd4:((y.n:Int) == 0)=true:=by rw [hn0];rfl
     have hd5:decide ((y.n:Int)=0)=true:=by rw [hn0];rfl
     have HX:=zC (show K.checks x.nd x.l x.ss x.r L=24 by
      rw [qp.out,show y.t.stops=[] from List.length_eq_zero_iff.1 (by rw [<-qw.out];exact hn0)];rfl)
     clear hn0;go_quiet (fail);go_wp2_with fail;go_ret;exact ⟨by rw [<-HL.out,HX.out];rfl,bel hb1 (below_drewN hb4 _)⟩
    have hd4:((y.n:Int) == 0)=false:=by simp [hn0]
    have hd5:decide ((y.n:Int)=0)=false:=by simp [hn0]
    have hie:y.t.stops.isEmpty=false:=by
     cases he:y.t.stops with
     | nil=>have h9:=qw.out;rw [he] at h9;exact absurd h9 hn0
     | cons a b=>rfl
    rw [hie,Bool.false_or] at qp;obtain ⟨XB,Oq,RQ,aaN,ag1,s0,s1,s2,s3,s4,s5⟩:=hx4.shifts.at_ hsn;obtain rfl:Oq=sS:=by have:=HSX.out;rw [aaN] at this;injection this
    have p0:=ak.cell Ry.c0;have p1:=ak.cell Ry.c1;have q0:=ak.cell t0;have q1:=ak.cell t1;have q2:=ak.cell t2;have q3:=ak.cell t3;have r0:=ak.cell s0;have r1:=ak.cell s1;have r2:=ak.cell s2;have r3:=ak.cell s3;have r4:=ak.cell s4;have r5:=ak.cell s5;obtain ⟨cb,hcb⟩:=zB (K.check x.nd x.l Oq x.r y.t);have sJ:=zC hcb;rw [<-hcb] at qp;have Dv:∀ i:ak wc,ay 87 #[.agg #[.int .i64 x.nd,.slice x.A x.n x.c],fG Oq,.slice x.B x.m x.d,.agg #[.int .i64 s,.slice y.A y.n y.c,.slice y.A' y.n' y.c',.int .i64 y.t.end_]] i.val (bg i.val cb):=λi=>by
     rw [hcb];have h9:=ak3 (x.one Oq) y i.val ((hx4.below i.property).case hsm) ⟨Bz.below i.property,Zj.below i.property,by omega,Uu⟩ hyn (HYC.out y P8.out);rw [ku.out] at h9;exact h9
    obtain ⟨IK,IL⟩:=zJ (a:=s) (b:=x.sn) (by omega);clear hcb hie hn0 aaN ag1 s0 s1 s2 s3 s4 s5;rw [ku.out] at t0 q0;rw [RQ];have sO:=zC RQ;clear RQ;refine fV (by kernel_rfl) (by kernel_rfl) ?_;repeat (go_big_quiet_step ((go_at_call 87;exact ak.calls (Dv _))))
    refine wpQuiet_nil ?_;rintro w5 ⟨⟨w5,b5⟩,rfl⟩;rw [<-sO.out];have jH:=hB4.below b5;have hown5:=own_below hown4 b5;have hb5:=bel hb4 b5;have tK:=Bz.below b5;clear p0 p1 q0 q1 q2 q3 r0 r1 r2 r3 r4 r5 t0 t1 t2 t3 Dv hB4 hown4 Bz Zj Ry hx4 hd4 hd5 IK IL b5 b4;obtain ⟨t0,t1,t2,t3⟩:=jH.cells;cases cb
    ·have HX:=zC (show K.checks x.nd x.l x.ss x.r L=24 by rw [qp.out];rfl);clear t0 t1 t2 t3;go_wp2_with fail;go_ret;exact ⟨by rw [<-HL.out,HX.out];rfl,bel hb1 hb5⟩
    rw [show (!true)=false from rfl];obtain ⟨-,hst2,hst3⟩:=K.QC sJ.out.symm;have PV:=zC hst3;have HS2:=zC (show ∀ z ∈ y.t.stops,0<=z/\z < (x.m:Int) from λz hz=>by have:=hst2 z hz;have:=aS.out;omega);have yD:=zC (show K.checks x.nd x.l x.ss x.r L=if y.t.stops.any (λk=>served.any (· == k)) then 5 else K.jf x.nd x.l x.ss x.r y.sh (served ++ y.t.stops) (L.drop (k + 1)) by rw [qp.out];rfl);have aaE:=hown5;obtain ⟨A9,c9,rfl,RN,rD⟩:=fP aaE;clear aaE;have hIs:Ints w5 A9 served.length served:=⟨rfl,RN⟩;clear qp hst2 hst3 t0 t1 t2 t3;go_wp2_with fail;go_loopw [13] (λv13 wi=>∃ j:Nat,v13=.int .i64 j/\j<=y.n/\Hid (y.t.stops.any (λk=>served.any (· == k))=(y.t.stops.drop j).any (λk=>served.any (· == k)))/\af w5 wi) (λv13 _=>y.n - (intOf v13).toNat)
    case atStart=>exact ⟨0,rfl,aW _,(by show _=_;rw [List.drop_zero]),ai⟩
    case round =>
     obtain ⟨j,rfl,hj,hany,hbi⟩:=hrel;have rC:=jH.below hbi;obtain ⟨t0,t1,t2,t3⟩:=rC.cells;by_cases Ew:j < y.n
     ·obtain ⟨Ko,z,M_,hz,cz⟩:=(tK.below hbi).at_ Ew;have Jz:=zC (oU (p:=λk=>served.any (· == k)) hz);obtain ⟨Em,hhb⟩:=zB (served.any (· == z));have Wl:=zC hhb;have CH:=ZV A9 served.length c9 served z wr (hIs.below hbi) (by omega);rw [<-hhb] at CH;obtain ⟨kj0,kj1⟩:=zJ (a:=j) (b:=y.n) (by omega);clear hz hhb;rw [M_] at t1;clear M_;go_wp2_with fail;refine CH.mono ?_;rintro e w6 ⟨rfl,b6⟩;have hb6:=bel hbi b6;clear t0 t1 t2 t3 CH;cases Em
      ·go_wp2_with fail;go_roundw
       case rel=>(go_light;exact ⟨j + 1,by go_num,Ew,(by show _=_;rw [hany.out,Jz.out,<-Wl.out];rfl),hb6⟩)
       case measure=>(go_light;simp [intOf];omega)
      ·have HX:=zC (show K.checks x.nd x.l x.ss x.r L=5 by rw [yD.out,hany.out,Jz.out,<-Wl.out];rfl);go_wp2_with fail;go_ret;exact ⟨by rw [<-HL.out,HX.out];rfl,bel hb1 (bel hb5 hb6)⟩
     ·obtain ⟨hd,hd2⟩:=zL (a:=j) (b:=y.n) (by omega);have JC:=zC (show y.t.stops.any (λk=>served.any (· == k))=false by
       rw [hany.out,dF (by rw [<-qw.out];omega)];rfl)
      have PX:=zC (show K.checks x.nd x.l x.ss x.r L=K.jf x.nd x.l x.ss x.r y.sh (served ++ y.t.stops) (L.drop (k + 1)) by rw [yD.out,JC.out];rfl);have hnd:=K.abR hsv.out.1 PV.out JC.out;have hrg:∀ z ∈ served ++ y.t.stops,0<=z/\z < (x.m:Int):=λz hz=>(dX.1 hz).elim (hsv.out.2 z) (HS2.out z);have hlen:=K.ND hnd hrg;have Eu:(served ++ y.t.stops).length<=6:=by omega
      have Pz:=zC (And.intro hnd hrg);have aeD:=zC (show y.n=y.t.stops.length from qw.out);have hown6:=own_below hown5 hbi;have hIy:=tK.below hbi;obtain ⟨i0,hi,hz0,hz1,hz2⟩:=info_parts Tryz.info3;have Ib:served.length + y.n<=1000:=by rw [cZ] at Eu;have:=qw.out;omega
      have aaQ:w1.heap.size<=wr.heap.size:=aN hb5.size hbi.size;have hb6:=bel hb5 hbi;have HKT:=zC (show k + 1<=tn from hlt);clear hnd hrg hlen hlt yD hany Ew hj;go_wp2_with (first
       | (at_builtin;refine nU rfl _ _ 48 rfl w1.heap.size 3 i0 (.int .i64 0) 1 8 Tryz.underlying48 hi hz0 hz1 hz2 rfl (by decide) _ served.length (intCells served) rfl hown6 y.A y.n y.c (intCells y.t.stops) rfl hIy.2 (qI _) (by simp only [maxLen];omega) (by omega) aaQ ?_;intro v7 w7 jO iO _)
       | fail)
      have hb7:af w1 w7:=dY hb6 iO (λg e=>(hown6.lt g e).1);have Ik:w7.ownsRow w1.heap.size 3 1 v7 (served ++ y.t.stops).length (intCells (served ++ y.t.stops)):=by
       rw [cZ,<-aeD.out,EL];exact jO
      clear jO hown6 t0 t1 t2 t3;go_roundw
      case rel=>(go_light;exact ⟨k + 1,y.sh,served ++ y.t.stops,by go_num,HKT.out,Ik,hb7,Pz.out,Eu,PX.out,.inr ⟨k,y,rfl,aex.out,rfl⟩⟩)
      case measure=>(go_light;simp [intOf];omega)
  ·have HE:=zC (show K.checks x.nd x.l x.ss x.r L=if served.length < x.m then 4 else 0 by
    rw [hck.out,dF (by rw [HL.out,bu,<-AO.out];omega),aS.out];rfl)
   obtain ⟨hdk,ang⟩:=zL (a:=k) (b:=tn) (by omega);obtain ⟨A9,c9,rfl,-,-⟩:=fP hown;by_cases hlm:served.length < x.m
   ·obtain ⟨hd,hdn⟩:=zK (a:=served.length) (b:=x.m) (by omega);go_wp2_with fail;go_ret;exact ⟨by rw [<-HL.out,HE.out,if_pos hlm];rfl,bel hb1 hbr⟩
   ·obtain ⟨hd,hdn⟩:=zL (a:=served.length) (b:=x.m) (by omega);go_wp2_with fail;go_ret;exact ⟨by rw [<-HL.out,HE.out,if_neg hlm];rfl,bel hb1 hbr⟩
abbrev A_ (w:World) (x:Cs) (q:Q) (a:AV) (acc:Bool):World->Prop:=λw':World=>aJ w' w.heap.size 0 x.nd/\bT w' w.heap.size 1 x.A x.n x.c/\bT w' w.heap.size 2 x.SA x.sn x.sc/\bT w' w.heap.size 3 x.B x.m x.d/\aJ w' (w.heap.size + 1) 0 q.node/\aJ w' (w.heap.size + 1) 1 q.room/\aJ w' (w.heap.size + 1) 2 q.a_/\aJ w' (w.heap.size + 1) 3 q.service/\aJ w' (w.heap.size + 1) 4 q.aI/\aJ w' (w.heap.size + 1) 5 q.aP/\bT w' (w.heap.size + 1) 6 q.A q.n q.c/\Gm w' (w.heap.size + 1 + 1) 0 (.bool acc)/\bT w' (w.heap.size + 1 + 1) 1 a.PA a.pn a.pc/\bT w' (w.heap.size + 1 + 1) 2 a.VA a.vn a.vc/\bT w' (w.heap.size + 1 + 1) 3 a.RA a.rn a.rc
namespace K
theorem ae3 {n p:Int} {v:ag} {k:Nat} {i:Int} (h:v[k]? = some i):kP n p (v.drop k)=(!decide (i<=p) && (!decide (n<=i) && kP n i (v.drop (k + 1)))):=by
 obtain ⟨hk,e⟩:=zE.1 h;rw [jE hk,e,kP]
end K
theorem ack (x:Cs) (q:Q) (a:AV) (w:World) (hx:lI w x q) (ha:jZ w a) (hao:oI a) :
  ay 37 #[lm x,iL q,pM a a.acc] w (bg w (K.kQ x.nd x.l x.ss x.r q a.an)):=by
 obtain ⟨w0,hw0⟩:=zB (w.alloc (.cells #[.int .i64 x.nd,.slice x.A x.n x.c,.slice x.SA x.sn x.sc,.slice x.B x.m x.d] 44));have z0:w0.heap.size=w.heap.size + 1:=by rw [hw0];exact aF _ _
 have b0:=aH hw0;have hN0:iY w0 w.heap.size x:=by rw [hw0];exact iY.new _ _
 obtain ⟨w1,hw1⟩:=zB (w0.alloc (.cells #[.int .i64 q.node,.int .i64 q.room,.int .i64 q.a_,.int .i64 q.service,.int .i64 q.aI,.int .i64 q.aP,.slice q.A q.n q.c] 47));have z1:w1.heap.size=w.heap.size + 1 + 1:=by rw [hw1,aF,z0]
 have b1:=aH hw1;have hB1:dV w1 (w.heap.size + 1) q:=by rw [hw1,<-z0];exact dV.new _ _
 obtain ⟨w2,hw2⟩:=zB (w1.alloc (.cells #[.bool a.acc,.slice a.PA a.pn a.pc,.slice a.VA a.vn a.vc,.slice a.RA a.rn a.rc] 50));have b2:=aH hw2;have hA2:w2.heap[w.heap.size + 1 + 1]? = some (.cells #[.bool a.acc,.slice a.PA a.pn a.pc,.slice a.VA a.vn a.vc,.slice a.RA a.rn a.rc] 50 (0,0)):=by rw [hw2,<-z1];exact aA _ _
 have b12:=bel b1 b2;have hb2:=bel b0 b12;have aC:=zC (show ∀ w',af w2 w'->(A_ w x q a a.acc) w' from λw' h=>by
  obtain ⟨a0,a1,a2,a3,a4⟩:=BQ.mk' ((hN0.below b12).below h) ((hB1.below b2).below h);exact ⟨a0,a1,a2,a3,a4.1,a4.2.1,a4.2.2.1,a4.2.2.2.1,a4.2.2.2.2.1,a4.2.2.2.2.2.1,a4.2.2.2.2.2.2,ah (au h hA2) 0 _ rfl,ah (au h hA2) 1 _ rfl,ah (au h hA2) 2 _ rfl,ah (au h hA2) 3 _ rfl⟩)
 have hx2:=hx.below hb2;have ha2:=ha.below hb2;have aS:=zC hx.cs.bf.1;have iR:=zC ha.v.1;have qm:=zC ha.t.1.1;have jP:=zC ha.b.1.1;have Ig:=hx.m;have zQ:=hao.fv;have ji:=hao.fb.1;have CF:=YQ x.nd x.A x.n x.c q w2 hx2.req (by have:=hx.q;omega);obtain ⟨z,hz⟩:=zB (K.jw x.nd q);rw [<-hz] at CF;have HZ:=zC hz;obtain ⟨R,hR⟩:=zB (K.kQ x.nd x.l x.ss x.r q a.an);have HR:=zC hR;obtain ⟨p0,p1,p2,p3,c0,c1,c2,c3,c4,c5,c6,r0,r1,r2,r3⟩:=aC.out _ ai;rw [<-hR];clear hz hR;go_enter Tryz.func37,Tryz.ntmps37;rw [hw2,hw1,hw0] at p0 p1 p2 p3 c0 c1 c2 c3 c4 c5 c6;go_wp2_with fail;rw [<-hw0,<-hw1,<-hw2];clear hw0 hw1 hw2 z0 z1 b0 b1 b2 b12 hN0 hB1 hA2;clear p0 p1 p2 p3 c0 c1 c2 c3 c4 c5 c6 r0 r1 r2 r3;refine CF.mono ?_;rintro e w3 ⟨rfl,b3⟩;clear CF;have hb3:=bel hb2 b3;cases z
 ·have HX:=zC (show R=false by rw [HR.out];unfold K.kQ;rw [if_pos (.inl HZ.out.symm)]);go_wp2_with fail;go_ret;exact ⟨by rw [HX.out];rfl,hb3⟩
 by_cases h6:6<=x.m
 ·have HX:=zC (show R=false by rw [HR.out];unfold K.kQ;rw [if_pos (.inr (by rw [<-aS.out];exact h6))]);have d1:decide ((6:Int)<=(x.m:Int))=true:=by simp;omega
  have d2:decide (6<=x.m)=true:=by simp;omega
  obtain ⟨p0,p1,p2,p3,c0,c1,c2,c3,c4,c5,c6,r0,r1,r2,r3⟩:=aC.out _ b3;go_wp2_with fail;go_ret;exact ⟨by rw [HX.out];rfl,hb3⟩
 have d1:decide ((6:Int)<=(x.m:Int))=false:=by simp;omega
 have d2:decide (6<=x.m)=false:=by simp;omega
 have iq:=zC (show ¬ (K.jw x.nd q=false\/6<=x.r.length) from λh=>h.elim (λh=>by rw [<-HZ.out] at h;cases h) (λh=>h6 (by rw [aS.out];exact h)));have hx3:=hx2.below b3;cases hac:a.acc;rotate_left
 ·rw [hac] at aC;have j_:=zC (show R=((a.v.length + (a.bl.map BV.pr).length == 0) && (K.checks x.nd x.l x.ss (x.r ++ [q]) (a.ts.map TV.pr) == 0)) by
   rw [HR.out];unfold K.kQ AV.an;rw [if_neg iq.out,hac,if_pos rfl])
  clear hac;have hbd:af w3 w3.drew:=ai.drew;have pR:=bel b3 hbd;have S0:=aC.out _ b3;have aQ:=aC.out _ pR;have CJ:=hx2.below pR;have yB:=zC (show ∀ i ∈ K.iota x.m,0<=i/\i < (x.r.length:Int) from λi hi=>by have:=K.zY.1 hi;have:=aS.out;omega);obtain ⟨p0,p1,p2,p3,c0,c1,c2,c3,c4,c5,c6,r0,r1,r2,r3⟩:=aC.out _ b3;go_upto_region 4 with fail;clear d1 d2;clear p0 p1 p2 p3 c0 c1 c2 c3 c4 c5 c6 r0 r1 r2 r3
  go_region_held3 (A_ w x q a true)
   (with_reducible first | exact S2 | exact S1 | exact aQ | exact S0 | fail)
   (first
    | (go_at_call 96;refine (abT x.m _ (by omega)).mono ?_;rintro e w6 ⟨⟨V6,k6,rfl,dS⟩,b6⟩;have dR:=bel pR b6;have S1:=aC.out _ dR)
    | (go_at_call 95;refine (Jr x.B x.m x.d x.r V6 x.m k6 (K.iota x.m) q _ (CJ.below b6).cs.bf dS yB.out (CJ.below b6).req hx.qs hx.q (by omega)).mono ?_;rintro e w7 ⟨⟨A7,k7,L7,rfl,hL7,hLb,Es,-,-⟩,b7⟩;have fJ:=bel dR b7;have S2:=aC.out _ fJ)
    | fail)
  have oK:=zC (show L7.map Q.bare=(x.r ++ [q]).map Q.bare by rw [hLb,aS.out,K.Di]);have Hw:eu w7 (x.with_ A7 (x.m + 1) k7 L7):=CJ.case (bel b6 b7) hL7 hLb (by omega);have hb7:=bel hb2 fJ;have kW:IntKind.i64.wrap ((a.vn:Int) + (a.rn:Int))=((a.vn + a.rn:Nat):Int):=by rw [dh _ (by omega)];omega
  by_cases hz0:a.vn + a.rn=0;rotate_left
  ·have HX:=zC (show R=false by
    rw [j_.out,bu,<-iR.out,<-jP.out];rw [show (a.vn + a.rn == 0)=false by simp;omega];rfl)
   have e1:(((a.vn + a.rn:Nat):Int) == 0)=false:=by simp;omega
   have e2:decide (((a.vn + a.rn:Nat):Int)=0)=false:=by simp;omega
   have e3:decide (a.vn + a.rn=0)=false:=by simp;omega
   clear S0 aQ S1 S2;obtain ⟨p0,p1,p2,p3,c0,c1,c2,c3,c4,c5,c6,r0,r1,r2,r3⟩:=aC.out _ fJ;go_wp2_with fail;go_ret;exact ⟨by rw [HX.out];rfl,hb7⟩
  have e1:(((a.vn + a.rn:Nat):Int) == 0)=true:=by simp;omega
  have e2:decide (((a.vn + a.rn:Nat):Int)=0)=true:=by simp;omega
  have e3:decide (a.vn + a.rn=0)=true:=by simp;omega
  obtain ⟨c9,lV⟩:=zB (K.checks x.nd x.l x.ss (x.r ++ [q]) (a.ts.map TV.pr));have HX:=zC (show R=(c9 == 0) by
   rw [j_.out,bu,<-iR.out,<-jP.out,show (a.vn + a.rn == 0)=true by simp;omega,lV];rfl)
  have CC:=afQ (x.with_ A7 (x.m + 1) k7 L7) a.PA a.pn a.pc a.ts w7 Hw ((ha2.below fJ).t) hao.ft;rw [show K.checks (x.with_ A7 (x.m + 1) k7 L7).nd (x.with_ A7 (x.m + 1) k7 L7).l (x.with_ A7 (x.m + 1) k7 L7).ss (x.with_ A7 (x.m + 1) k7 L7).r (a.ts.map TV.pr)=c9 by rw [lV];exact K.Yk oK.out rfl _] at CC;clear S0 aQ S1 S2 lV;obtain ⟨p0,p1,p2,p3,c0,c1,c2,c3,c4,c5,c6,r0,r1,r2,r3⟩:=aC.out _ fJ;go_wp2_with fail;refine CC.mono ?_;rintro e w8 ⟨rfl,b8⟩;go_wp2_with fail;go_ret;exact ⟨by rw [HX.out];rfl,bel hb7 b8⟩
 ·rw [hac] at aC;have j_:=zC (show R=(K.kP x.r.length (-1) a.v && (((a.ts.map TV.pr).length == 0) && K.refutes x.nd x.l x.ss (K.dD x.r a.v q) (a.bl.map BV.pr))) by
   rw [HR.out];unfold K.kQ AV.an;rw [if_neg iq.out,hac,if_neg (by simp)])
  clear hac;obtain ⟨p0,p1,p2,p3,c0,c1,c2,c3,c4,c5,c6,r0,r1,r2,r3⟩:=aC.out _ b3;go_wp2_with fail;clear d1 d2;clear p0 p1 p2 p3 c0 c1 c2 c3 c4 c5 c6 r0 r1 r2 r3;go_loopw [8,54] (λv8 v54 wr=>∃ (k:Nat) (p:Int),v8=.int .i64 p/\v54=.int .i64 k/\k<=a.vn/\Hid (K.kP x.r.length (-1) a.v=K.kP x.r.length p (a.v.drop k))/\af w3 wr) (λ_ v54 _=>a.vn - (intOf v54).toNat)
  case atStart=>exact ⟨0,-1,rfl,rfl,aW _,rfl,ai⟩
  case round =>
   obtain ⟨k,p,rfl,rfl,hk,hsc,hbr⟩:=hrel;have sW:=bel b3 hbr;have hbw:=bel hb3 hbr;by_cases hlt:k < a.vn
   ·obtain ⟨ad,i,BR,hi,ci⟩:=(ha2.below sW).v.at_ hlt;have hst:=hsc.out.trans (K.ae3 hi);have HST:=zC hst;obtain ⟨k0,k1⟩:=zJ (a:=k) (b:=a.vn) (by omega);clear hst hsc hi;obtain ⟨p0,p1,p2,p3,c0,c1,c2,c3,c4,c5,c6,r0,r1,r2,r3⟩:=aC.out _ sW;by_cases hip:i<=p
    ·have e1:decide (i<=p)=true:=by simp [hip]
     have HX:=zC (show R=false by rw [j_.out,HST.out,e1];rfl);rw [BR];go_wp2_with fail;go_ret;exact ⟨by rw [HX.out];rfl,hbw⟩
    have e1:decide (i<=p)=false:=by simp;omega
    by_cases hin:(x.m:Int)<=i
    ·have e2:decide ((x.m:Int)<=i)=true:=by simp [hin]
     have HX:=zC (show R=false by rw [j_.out,HST.out,e1,<-aS.out,e2];rfl);rw [BR];go_wp2_with fail;go_ret;exact ⟨by rw [HX.out];rfl,hbw⟩
    have e2:decide ((x.m:Int)<=i)=false:=by simp;omega
    have HN:=zC (show K.kP x.r.length (-1) a.v=K.kP x.r.length i (a.v.drop (k + 1)) by rw [HST.out,e1,<-aS.out,e2];rfl);rw [BR];go_wp2_with fail;go_roundw
    case rel=>(go_light;exact ⟨k + 1,i,rfl,by go_num,hlt,HN.out,hbr⟩)
    case measure=>(go_light;simp [intOf];omega)
   ·have HAS:=zC (show K.kP x.r.length (-1) a.v=true by rw [hsc.out,List.drop_of_length_le (by have:=iR.out;omega)];rfl);have FX:=zC (show ∀ i ∈ a.v,0<=i/\i < (x.r.length:Int) from λi hi=>by have:=(K.Kr.1 HAS.out).2 i hi;omega);obtain ⟨hd1,hd2⟩:=zL (a:=k) (b:=a.vn) (by omega);clear hsc;by_cases hp0:a.pn=0;rotate_left
    ·have HX:=zC (show R=false by
      rw [j_.out,HAS.out,bu,<-qm.out,show (a.pn == 0)=false by simp;omega];rfl)
     have e1:((a.pn:Int) == 0)=false:=by simp;omega
     have e2:decide ((a.pn:Int)=0)=false:=by simp;omega
     have e3:decide (a.pn=0)=false:=by simp;omega
     obtain ⟨q0,q1,q2,q3,d0,d1,d2,d3,d4,d5,d6,s0,s1,s2,s3⟩:=aC.out _ sW;have F1:=ak.cell s1;go_upto_region 14 with fail;refine fV (by kernel_rfl) (by kernel_rfl) ?_;repeat (go_big_quiet_step (fail))
     refine wpQuiet_nil ?_;rintro w5 ⟨⟨_,bJ⟩,rfl⟩;go_wp2_with fail;go_ret;exact ⟨by rw [HX.out];rfl,bel hbw bJ⟩
    have e1:((a.pn:Int) == 0)=true:=by simp [hp0]
    have e2:decide ((a.pn:Int)=0)=true:=by simp [hp0]
    have e3:decide (a.pn=0)=true:=by simp [hp0]
    obtain ⟨rz,hrz⟩:=zB (K.refutes x.nd x.l x.ss (K.dD x.r a.v q) (a.bl.map BV.pr));have HX:=zC (show R=rz by
     rw [j_.out,HAS.out,bu,<-qm.out,show (a.pn == 0)=true by simp [hp0],hrz];rfl)
    have PT:=zC (show ∀ L:List Q,L.map Q.bare=(K.dD x.r a.v q).map Q.bare->K.refutes x.nd x.l x.ss L (a.bl.map BV.pr)=rz from λL e=>by rw [hrz];exact K.acP e rfl _);have hbd:af wr wr.drew:=ai.drew;have w_:=bel sW hbd;have S0:=aC.out _ sW;have aQ:=aC.out _ w_;have hxd:=hx2.below w_;have had:=ha2.below w_;clear hrz;go_upto_region 14 with fail
    go_region_held3 (A_ w x q a false)
     (with_reducible first | exact S2 | exact S1 | exact aQ | exact S0 | fail)
     (first
      | (go_at_call 95;refine (Jr x.B x.m x.d x.r a.VA a.vn a.vc a.v q _ hxd.cs.bf had.v FX.out hxd.req hx.qs hx.q zQ).mono ?_;rintro e w7 ⟨⟨A7,k7,L7,rfl,hL7,hLb,Es,-,-⟩,b7⟩;have fJ:=bel w_ b7;have S1:=aC.out _ fJ)
      | (go_at_call 28;refine (akt (x.with_ A7 (a.vn + 1) k7 L7) a.RA a.rn a.rc a.bl _ (hxd.case b7 hL7 hLb (by omega)) (ha2.below fJ).b hao.fb).mono ?_;rintro e w8 ⟨rfl,b8⟩;have je:=bel fJ b8;have S2:=aC.out _ je)
      | fail)
    have hz:K.refutes (x.with_ A7 (a.vn + 1) k7 L7).nd (x.with_ A7 (a.vn + 1) k7 L7).l (x.with_ A7 (a.vn + 1) k7 L7).ss (x.with_ A7 (a.vn + 1) k7 L7).r (a.bl.map BV.pr)=rz:=PT.out L7 hLb;rw [hz];clear S0 aQ S1 S2 hz;go_wp2_with fail;go_ret;exact ⟨by rw [HX.out];rfl,bel hb2 je⟩
theorem ako (x:Cs) (q:Q) (a:AV) (A7:aj) (k7:Nat) (w:World) (hcs:eu w (x.with_ A7 (x.m + 1) k7 (K.dD x.r (K.iota x.m) q))) (hm:x.m=x.r.length) (hT:ja w a.PA a.pn a.ts) (hF:Am a.pn a.ts) (rO:∀ y ∈ a.ts,y.n<=y.c) {c:Int} (hc:c=K.checks x.nd x.l x.ss (x.r ++ [q]) (a.ts.map TV.pr)) :
  ay 27 #[.agg #[.int .i64 x.nd,.slice x.A x.n x.c],.slice x.SA x.sn x.sc,.slice A7 (x.m + 1) k7,.slice a.PA a.pn a.pc] w (og w c):=by
 subst hc;have h:=akn (x.with_ A7 (x.m + 1) k7 (K.dD x.r (K.iota x.m) q)) a.PA a.pn a.pc a.ts w hcs hT hF rO;rw [show K.checks (x.with_ A7 (x.m + 1) k7 (K.dD x.r (K.iota x.m) q)).nd (x.with_ A7 (x.m + 1) k7 (K.dD x.r (K.iota x.m) q)).l (x.with_ A7 (x.m + 1) k7 (K.dD x.r (K.iota x.m) q)).ss (x.with_ A7 (x.m + 1) k7 (K.dD x.r (K.iota x.m) q)).r (a.ts.map TV.pr)=K.checks x.nd x.l x.ss (x.r ++ [q]) (a.ts.map TV.pr) by
  rw [<-K.Di (r:=x.r),<-hm];rfl] at h
 exact h
theorem ak1 (x:Cs) (q:Q) (a:AV) (A7:aj) (k7:Nat) (w:World) (hcs:eu w (x.with_ A7 (a.vn + 1) k7 (K.dD x.r a.v q))) (hB:iZ w a.RA a.rn a.bl) (hF:Ak a.rn a.bl) {z:Bool} (hz:z=K.refutes x.nd x.l x.ss (K.dD x.r a.v q) (a.bl.map BV.pr)) :
  ay 29 #[.agg #[.int .i64 x.nd,.slice x.A x.n x.c],.slice x.SA x.sn x.sc,.slice A7 (a.vn + 1) k7,.slice a.RA a.rn a.rc] w (bg w z):=by
 subst hz;exact ak0 (x.with_ A7 (a.vn + 1) k7 (K.dD x.r a.v q)) a.RA a.rn a.rc a.bl w hcs hB hF
theorem akl (x:Cs) (q:Q) (a:AV) (w:World) (hx:lI w x q) (ha:jZ w a) (hao:oI a) (rO:∀ y ∈ a.ts,y.n<=y.c) :
  ay 38 #[lm x,iL q,pM a a.acc] w (bg w (K.kQ x.nd x.l x.ss x.r q a.an)):=by
 obtain ⟨w0,hw0⟩:=zB (w.alloc (.cells #[.int .i64 x.nd,.slice x.A x.n x.c,.slice x.SA x.sn x.sc,.slice x.B x.m x.d] 44));have z0:w0.heap.size=w.heap.size + 1:=by rw [hw0];exact aF _ _
 have b0:=aH hw0;have hN0:iY w0 w.heap.size x:=by rw [hw0];exact iY.new _ _
 obtain ⟨w1,hw1⟩:=zB (w0.alloc (.cells #[.int .i64 q.node,.int .i64 q.room,.int .i64 q.a_,.int .i64 q.service,.int .i64 q.aI,.int .i64 q.aP,.slice q.A q.n q.c] 47));have z1:w1.heap.size=w.heap.size + 1 + 1:=by rw [hw1,aF,z0]
 have b1:=aH hw1;have hB1:dV w1 (w.heap.size + 1) q:=by rw [hw1,<-z0];exact dV.new _ _
 obtain ⟨w2,hw2⟩:=zB (w1.alloc (.cells #[.bool a.acc,.slice a.PA a.pn a.pc,.slice a.VA a.vn a.vc,.slice a.RA a.rn a.rc] 50));have b2:=aH hw2;have hA2:w2.heap[w.heap.size + 1 + 1]? = some (.cells #[.bool a.acc,.slice a.PA a.pn a.pc,.slice a.VA a.vn a.vc,.slice a.RA a.rn a.rc] 50 (0,0)):=by rw [hw2,<-z1];exact aA _ _
 have b12:=bel b1 b2;have hb2:=bel b0 b12;have aC:=zC (show ∀ w',af w2 w'->(A_ w x q a a.acc) w' from λw' h=>by
  obtain ⟨a0,a1,a2,a3,a4⟩:=BQ.mk' ((hN0.below b12).below h) ((hB1.below b2).below h);exact ⟨a0,a1,a2,a3,a4.1,a4.2.1,a4.2.2.1,a4.2.2.2.1,a4.2.2.2.2.1,a4.2.2.2.2.2.1,a4.2.2.2.2.2.2,ah (au h hA2) 0 _ rfl,ah (au h hA2) 1 _ rfl,ah (au h hA2) 2 _ rfl,ah (au h hA2) 3 _ rfl⟩)
 have hx2:=hx.below hb2;have ha2:=ha.below hb2;have aS:=zC hx.cs.bf.1;have iR:=zC ha.v.1;have qm:=zC ha.t.1.1;have jP:=zC ha.b.1.1;have Ig:=hx.m;have zQ:=hao.fv;have ji:=hao.fb.1;have CF:=ac5 x.nd x.A x.n x.c q w2 hx2.req (by have:=hx.q;omega);obtain ⟨z,hz⟩:=zB (K.jw x.nd q);rw [<-hz] at CF;have HZ:=zC hz;obtain ⟨R,hR⟩:=zB (K.kQ x.nd x.l x.ss x.r q a.an);have HR:=zC hR;obtain ⟨p0,p1,p2,p3,c0,c1,c2,c3,c4,c5,c6,r0,r1,r2,r3⟩:=aC.out _ ai;rw [<-hR];clear hz hR;go_enter Tryz.func38,Tryz.ntmps38;rw [hw2,hw1,hw0] at p0 p1 p2 p3 c0 c1 c2 c3 c4 c5 c6;go_wp2_with fail;rw [<-hw0,<-hw1,<-hw2];clear hw0 hw1 hw2 z0 z1 b0 b1 b2 b12 hN0 hB1 hA2;clear p0 p1 p2 p3 c0 c1 c2 c3 c4 c5 c6 r0 r1 r2 r3;refine CF.mono ?_;rintro e w3 ⟨rfl,b3⟩;clear CF;have hb3:=bel hb2 b3;cases z
 ·have HX:=zC (show R=false by rw [HR.out];unfold K.kQ;rw [if_pos (.inl HZ.out.symm)]);go_wp2_with fail;go_ret;exact ⟨by rw [HX.out];rfl,hb3⟩
 by_cases h6:6<=x.m
 ·have HX:=zC (show R=false by rw [HR.out];unfold K.kQ;rw [if_pos (.inr (by rw [<-aS.out];exact h6))]);have d1:decide ((6:Int)<=(x.m:Int))=true:=by simp;omega
  have d2:decide (6<=x.m)=true:=by simp;omega
  obtain ⟨p0,p1,p2,p3,c0,c1,c2,c3,c4,c5,c6,r0,r1,r2,r3⟩:=aC.out _ b3;go_wp2_with fail;go_ret;exact ⟨by rw [HX.out];rfl,hb3⟩
 have d1:decide ((6:Int)<=(x.m:Int))=false:=by simp;omega
 have d2:decide (6<=x.m)=false:=by simp;omega
 have iq:=zC (show ¬ (K.jw x.nd q=false\/6<=x.r.length) from λh=>h.elim (λh=>by rw [<-HZ.out] at h;cases h) (λh=>h6 (by rw [aS.out];exact h)));have hx3:=hx2.below b3;cases hac:a.acc;rotate_left
 ·rw [hac] at aC;have j_:=zC (show R=((a.v.length + (a.bl.map BV.pr).length == 0) && (K.checks x.nd x.l x.ss (x.r ++ [q]) (a.ts.map TV.pr) == 0)) by
   rw [HR.out];unfold K.kQ AV.an;rw [if_neg iq.out,hac,if_pos rfl])
  clear hac;obtain ⟨p0,p1,p2,p3,c0,c1,c2,c3,c4,c5,c6,r0,r1,r2,r3⟩:=aC.out _ b3;by_cases hvn:a.vn=0;rotate_left
  ·have HX:=zC (show R=false by
    rw [j_.out,bu,<-iR.out,<-jP.out];rw [show (a.vn + a.rn == 0)=false by simp;omega];rfl)
   have e1:((a.vn:Int) == 0)=false:=by simp;omega
   have e2:decide ((a.vn:Int)=0)=false:=by simp;omega
   have e3:decide (a.vn=0)=false:=by simp;omega
   have e4:((a.vn:Int) != 0)=true:=by simp;omega
   have F2:=ak.cell r2;go_upto_region 4 with fail;refine fV (by kernel_rfl) (by kernel_rfl) ?_;repeat (go_big_quiet_step (fail))
   refine wpQuiet_nil ?_;rintro w5 ⟨⟨_,bJ⟩,rfl⟩;go_wp2_with fail;go_ret;exact ⟨by rw [HX.out];rfl,bel hb3 bJ⟩
  have e1:((a.vn:Int) == 0)=true:=by simp [hvn]
  have e2:decide ((a.vn:Int)=0)=true:=by simp [hvn]
  have e3:decide (a.vn=0)=true:=by simp [hvn]
  have e4:((a.vn:Int) != 0)=false:=by simp [hvn]
  by_cases hrn:a.rn=0;rotate_left
  ·have HX:=zC (show R=false by
    rw [j_.out,bu,<-iR.out,<-jP.out];rw [show (a.vn + a.rn == 0)=false by simp;omega];rfl)
   have f1:((a.rn:Int) == 0)=false:=by simp;omega
   have f2:decide ((a.rn:Int)=0)=false:=by simp;omega
   have f3:decide (a.rn=0)=false:=by simp;omega
   have f4:((a.rn:Int) != 0)=true:=by simp;omega
   have F2:=ak.cell r2;have F3:=ak.cell r3;go_upto_region 4 with fail;refine fV (by kernel_rfl) (by kernel_rfl) ?_;repeat (go_big_quiet_step (fail))
   refine wpQuiet_nil ?_;rintro w5 ⟨⟨_,bJ⟩,rfl⟩;go_wp2_with fail;go_ret;exact ⟨by rw [HX.out];rfl,bel hb3 bJ⟩
  have f1:((a.rn:Int) == 0)=true:=by simp [hrn]
  have f2:decide ((a.rn:Int)=0)=true:=by simp [hrn]
  have f3:decide (a.rn=0)=true:=by simp [hrn]
  have f4:((a.rn:Int) != 0)=false:=by simp [hrn]
  obtain ⟨c9,lV⟩:=zB (K.checks x.nd x.l x.ss (x.r ++ [q]) (a.ts.map TV.pr));have HX:=zC (show R=(c9 == 0) by
   rw [j_.out,bu,<-iR.out,<-jP.out,show (a.vn + a.rn == 0)=true by simp;omega,lV];rfl)
  have HC9:=zC lV;clear lV;have hbd:af w3 w3.drew:=ai.drew;have pR:=bel b3 hbd;have S0:=aC.out _ b3;have aQ:=aC.out _ pR;have CJ:=hx2.below pR;have yB:=zC (show ∀ i ∈ K.iota x.m,0<=i/\i < (x.r.length:Int) from λi hi=>by have:=K.zY.1 hi;have:=aS.out;omega);have vK:x.m<=1000000:=by omega
  have hv7:x.m<=1000:=by omega
  have hv6:x.m + 1<=1000000:=by omega
  go_upto_region 4 with fail;clear d1 d2;clear p0 p1 p2 p3 c0 c1 c2 c3 c4 c5 c6 r0 r1 r2 r3
  go_region_held3 (A_ w x q a true)
   (with_reducible first | exact S3 | exact S2 | exact S1 | exact aQ | exact S0 | fail)
   (first
    | (go_at_call 100;refine (XC x.m vK _).mono ?_;rintro e w6 ⟨⟨V6,k6,rfl,dS,hk6,Bv⟩,b6⟩;have dR:=bel pR b6;have S1:=aC.out _ dR)
    | (go_at_call 101;refine (EX x.B x.m x.d x.r V6 x.m k6 (K.iota x.m) q _ (CJ.below b6).cs.bf dS yB.out (CJ.below b6).req hv7).mono ?_;rintro e w7 ⟨⟨A7,k7,rfl,hL7,Es,uY⟩,b7⟩;have fJ:=bel dR b7;have S2:=aC.out _ fJ)
    | (go_at_call 27;refine (ako x q a A7 k7 _ (CJ.case (bel b6 b7) hL7 rfl hv6) aS.out ((ha2.below fJ).t) hao.ft rO HC9.out).mono ?_;rintro e w8 ⟨rfl,b8⟩;have je:=bel fJ b8;have S3:=aC.out _ je)
    | fail)
  clear S0 aQ S1 S2 S3;go_wp2_with fail;go_ret;exact ⟨by rw [HX.out];rfl,bel hb2 je⟩
 ·rw [hac] at aC;have j_:=zC (show R=(K.kP x.r.length (-1) a.v && (((a.ts.map TV.pr).length == 0) && K.refutes x.nd x.l x.ss (K.dD x.r a.v q) (a.bl.map BV.pr))) by
   rw [HR.out];unfold K.kQ AV.an;rw [if_neg iq.out,hac,if_neg (by simp)])
  clear hac;obtain ⟨p0,p1,p2,p3,c0,c1,c2,c3,c4,c5,c6,r0,r1,r2,r3⟩:=aC.out _ b3;by_cases hpn:a.pn=0;rotate_left
  ·have HX:=zC (show R=false by
    rw [j_.out,bu,<-qm.out,show (a.pn == 0)=false by simp;omega];simp)
   have e1:((a.pn:Int) == 0)=false:=by simp;omega
   have e2:decide ((a.pn:Int)=0)=false:=by simp;omega
   have e3:decide (a.pn=0)=false:=by simp;omega
   have e4:((a.pn:Int) != 0)=true:=by simp;omega
   have F1:=ak.cell r1;go_wp2_with fail;go_ret;exact ⟨by rw [HX.out];rfl,hb3⟩
  have e1:((a.pn:Int) == 0)=true:=by simp [hpn]
  have e2:decide ((a.pn:Int)=0)=true:=by simp [hpn]
  have e3:decide (a.pn=0)=true:=by simp [hpn]
  have e4:((a.pn:Int) != 0)=false:=by simp [hpn]
  obtain ⟨z9,lW⟩:=zB (K.kP x.r.length (-1) a.v);have CI:=ail a.VA a.vn a.vc a.v x.m w3 ((ha2.below b3).v) (by omega) (by omega);rw [aS.out,<-lW,<-aS.out] at CI;have wK:=zC lW;clear lW;go_wp2_with fail;refine CI.mono ?_;rintro e w4 ⟨rfl,b4⟩;have mg:=bel b3 b4;have hb4:=bel hb2 mg;clear CI p0 p1 p2 p3 c0 c1 c2 c3 c4 c5 c6 r0 r1 r2 r3 d1 d2;cases z9
  ·have HX:=zC (show R=false by rw [j_.out,<-wK.out];rfl);go_wp2_with fail;go_ret;exact ⟨by rw [HX.out];rfl,hb4⟩
  have FX:=zC (show ∀ i ∈ a.v,0<=i/\i < (x.r.length:Int) from λi hi=>by have:=(K.Kr.1 wK.out.symm).2 i hi;omega);obtain ⟨rz,hrz⟩:=zB (K.refutes x.nd x.l x.ss (K.dD x.r a.v q) (a.bl.map BV.pr));have HX:=zC (show R=rz by
   rw [j_.out,<-wK.out,bu,<-qm.out,show (a.pn == 0)=true by simp [hpn],hrz];rfl)
  have PT:=zC hrz;clear hrz;have hbd:af w4 w4.drew:=ai.drew;have w_:=bel mg hbd;have S0:=aC.out _ mg;have aQ:=aC.out _ w_;have hxd:=hx2.below w_;have had:=ha2.below w_;have hv6:a.vn + 1<=1000000:=by omega
  go_upto_region 7 with fail
  go_region_held3 (A_ w x q a false)
   (with_reducible first | exact S2 | exact S1 | exact aQ | exact S0 | fail)
   (first
    | (go_at_call 101;refine (EX x.B x.m x.d x.r a.VA a.vn a.vc a.v q _ hxd.cs.bf had.v FX.out hxd.req zQ).mono ?_;rintro e w7 ⟨⟨A7,k7,rfl,hL7,Es,uY⟩,b7⟩;have fJ:=bel w_ b7;have S1:=aC.out _ fJ)
    | (go_at_call 29;refine (ak1 x q a A7 k7 _ (hxd.case b7 hL7 rfl hv6) (ha2.below fJ).b hao.fb PT.out).mono ?_;rintro e w8 ⟨rfl,b8⟩;have je:=bel fJ b8;have S2:=aC.out _ je)
    | fail)
  clear S0 aQ S1 S2;go_wp2_with fail;go_ret;exact ⟨by rw [HX.out];rfl,bel hb2 je⟩
theorem akz {w:World} {A:aj} {m:Nat} {r:List Q} {q:Q} (h:Rd w 7 A (m + 1) (r.flatMap Q.cells ++ q.cells)) (hm:m=r.length) (hr:∀ p ∈ r,dA w p.A p.n p.l) (hq:dA w q.A q.n q.l):dm w A (m + 1) (r ++ [q]) :=
 ⟨by rw [cZ,hm];rfl,by rw [Ac,List.flatMap_append,List.flatMap_singleton];exact h,λp hp=>(dX.1 hp).elim (hr p) (λhp=>by rw [dB.1 hp];exact hq)⟩
def OV (a:AV):Prop:=a.vn<=10/\(a.pn<=6/\∀ y ∈ a.ts,y.n<=10/\y.n'<=10)/\(a.rn<=202/\∀ y ∈ a.bl,y.vn<=6/\y.ln<=60)
theorem OV.ok {a:AV} (h:OV a) (hc:∀ y ∈ a.bl,y.vn<=y.vc):oI a :=
 ⟨⟨by have:=h.2.1.1;omega,λy hy=>by have:=h.2.1.2 y hy;omega⟩,by have:=h.1;omega,⟨by have:=h.2.2.1;omega,λy hy=>by have:=h.2.2.2 y hy;have:=hc y hy;omega⟩⟩
theorem agm (a:AV) (w:World) (ha:jZ w a) :
  ay 32 #[pM a a.acc] w λe w'=>(∃ z,e=.returned (.bool z)/\(z=true->OV a))/\af w w':=by
 obtain ⟨w0,hw0⟩:=zB (w.alloc (.cells #[.bool a.acc,.slice a.PA a.pn a.pc,.slice a.VA a.vn a.vc,.slice a.RA a.rn a.rc] 50));have b0:=aH hw0;have hB0:w0.heap[w.heap.size]? = some (.cells #[.bool a.acc,.slice a.PA a.pn a.pc,.slice a.VA a.vn a.vc,.slice a.RA a.rn a.rc] 50 (0,0)):=by rw [hw0];exact aA _ _
 have ha0:=ha.below b0;have c1:=ah hB0 1 _ rfl;have c2:=ah hB0 2 _ rfl;have c3:=ah hB0 3 _ rfl;have d1:w0.cell? ⟨w.heap.size,1,none⟩=some (.slice a.PA a.pn a.pc):=c1;have d2:w0.cell? ⟨w.heap.size,2,none⟩=some (.slice a.VA a.vn a.vc):=c2;go_enter Tryz.func32,Tryz.ntmps32;by_cases hv:a.vn<=10;rotate_left
 ·have e1:decide ((a.vn:Int)<=10)=false:=by simp;omega
  have e2:decide (a.vn<=10)=false:=by simp;omega
  rw [hw0] at d2;go_wp2_with fail;go_ret;exact ⟨⟨false,rfl,λh=>by cases h⟩,by rw [<-hw0];exact b0⟩
 have e1:decide ((a.vn:Int)<=10)=true:=by simp;omega
 have e2:decide (a.vn<=10)=true:=by simp;omega
 rw [hw0] at d1 d2;go_wp2_with fail;rw [<-hw0];clear hw0 d1 d2 c1 c2 c3 e1 e2;refine (agp a.PA a.pn a.pc a.ts _ ha0.t).mono ?_;rintro e w1 ⟨⟨z,rfl,hz⟩,b1⟩;have HZ:=zC hz;have hb1:=bel b0 b1;clear hz;cases z
 ·go_wp2_with fail;go_ret;exact ⟨⟨false,rfl,λh=>by cases h⟩,hb1⟩
 have hB1:=au b1 hB0;have d3:w1.cell? ⟨w.heap.size,3,none⟩=some (.slice a.RA a.rn a.rc):=ah hB1 3 _ rfl;go_wp2_with fail;refine (agn a.RA a.rn a.rc a.bl _ (ha0.below b1).b).mono ?_;rintro e w2 ⟨⟨z2,rfl,hz2⟩,b2⟩;have HZ2:=zC hz2;clear hz2;go_wp2_with fail;go_ret;exact ⟨⟨z2,rfl,λh=>⟨hv,HZ.out (by first | exact trivial | rfl),HZ2.out h⟩⟩,bel hb1 b2⟩
structure Dw (x:Cs) (q:Q):Prop where
 n:x.n<=40
 sn:x.sn<=6
 m:x.m<=7
 s:∀ s ∈ x.ss,s.n<=6
 r:∀ p ∈ x.r,p.n<=10
 q:q.n<=10
 s2:x.sn<=4->x.sn<=2
 m3:x.m<=6->x.m<=3
theorem Dw.ok {w:World} {x:Cs} {q:Q} (h:Dw x q) (hN:gq w x.A x.n x.l) (hS:Shifts w x.SA x.sn x.ss) (hQ:dm w x.B x.m x.r) (hX:dA w q.A q.n q.l):lI w x q :=
 ⟨⟨hN,hS,hQ,by have:=h.n;omega,λs hs=>by have:=h.s s hs;omega,by have:=h.sn;omega,by have:=h.m;omega,λp hp=>by have:=h.r p hp;omega⟩,hX,by have:=h.m;omega,λp hp=>by have:=h.r p hp;omega,by have:=h.q;omega⟩
theorem akB (x:Cs) (q:Q) (w:World) (hS:Shifts w x.SA x.sn x.ss) (hQ:dm w x.B x.m x.r) (hX:dA w q.A q.n q.l) (hmB:x.m * 72<=140737488351232) :
  ay 31 #[lm x,iL q] w λe w'=>(∃ z,e=.returned (.bool z)/\(z=true->Dw x q))/\af w w':=by
 obtain ⟨w1,hw1⟩:=zB (w.alloc (.cells #[.int .i64 x.nd,.slice x.A x.n x.c,.slice x.SA x.sn x.sc,.slice x.B x.m x.d] 44));have b1:=aH hw1;have z1:w1.heap.size=w.heap.size + 1:=by rw [hw1];exact aF _ _
 have hN1:iY w1 w.heap.size x:=by rw [hw1];exact iY.new _ _
 obtain ⟨W0,hw2⟩:=zB (w1.alloc (.cells #[.int .i64 q.node,.int .i64 q.room,.int .i64 q.a_,.int .i64 q.service,.int .i64 q.aI,.int .i64 q.aP,.slice q.A q.n q.c] 47));have b2:=aH hw2;have hB2:dV W0 (w.heap.size + 1) q:=by rw [hw2,<-z1];exact dV.new _ _
 have kJ:=hN1.below b2;have hb0:=bel b1 b2;have aC:=zC (show ∀ w',af W0 w'->(pK w x q) w' from λw' h=>BQ.mk' (kJ.below h) (hB2.below h));have ZC:=hQ.below hb0;have hX0:=hX.below hb0;have aS:=zC hQ.1;have hbr:af W0 W0:=ai;go_enter Tryz.func31,Tryz.ntmps31;go_upto_region 1 with fail;rw [<-hw1,<-hw2];clear hw1 hw2 z1 b1 b2 hN1 hB2 kJ;have Fd:af W0 W0.drew:=ai.drew;have Fz:af W0 (W0.alloc (.cells #[] 47)):=ai.alloc (zG _) _;have Fx:af W0 (W0.alloc (.cells #[.int .i64 q.node,.int .i64 q.room,.int .i64 q.a_,.int .i64 q.service,.int .i64 q.aI,.int .i64 q.aP,.slice q.A q.n q.c] 47)):=ai.alloc (zG _) _;have Fg:af W0 ((W0.alloc (.cells #[] 47)).alloc (.cells #[.int .i64 q.node,.int .i64 q.room,.int .i64 q.a_,.int .i64 q.service,.int .i64 q.aI,.int .i64 q.aP,.slice q.A q.n q.c] 47)):=bel Fz (ai.alloc (zG _) _);have Ff:af W0 ((W0.alloc (.cells #[.int .i64 q.node,.int .i64 q.room,.int .i64 q.a_,.int .i64 q.service,.int .i64 q.aI,.int .i64 q.aP,.slice q.A q.n q.c] 47)).alloc (.cells #[] 47)):=bel Fx (ai.alloc (zG _) _);have S0:=aC.out _ hbr;have aQ:=aC.out _ (bel hbr Fd);have AQ:=aC.out _ (bel hbr Fz);have Xq:=aC.out _ (bel hbr Fx);have Xv:=aC.out _ (bel hbr Fg);have Xt:=aC.out _ (bel hbr Ff);have F6:=aC.out _ (bel hbr Fz.drew);have Xr:=aC.out _ (bel hbr Fx.drew);have Xw:=aC.out _ (bel hbr Fg.drew);have Xu:=aC.out _ (bel hbr Ff.drew);have Oa:(W0.alloc (.cells #[] 47)).drew.ownsRow W0.heap.size 47 7 (.slice (some ⟨W0.heap.size,0,none⟩) 0 0) 0 []:=World.ownsRow_lit W0 #[] 0 (zG _) (by simp only [maxLen];omega) (by simp);have Ob:((W0.alloc (.cells #[] 47)).alloc (.cells #[.int .i64 q.node,.int .i64 q.room,.int .i64 q.a_,.int .i64 q.service,.int .i64 q.aI,.int .i64 q.aP,.slice q.A q.n q.c] 47)).drew.ownsRow W0.heap.size 47 7 (.slice (some ⟨W0.heap.size,0,none⟩) 0 0) 0 []:=(World.ownsRow_lit W0 #[] 0 (zG _) (by simp only [maxLen];omega) (by simp)).alloc (.cells #[.int .i64 q.node,.int .i64 q.room,.int .i64 q.a_,.int .i64 q.service,.int .i64 q.aI,.int .i64 q.aP,.slice q.A q.n q.c] 47);have Oc:((W0.alloc (.cells #[.int .i64 q.node,.int .i64 q.room,.int .i64 q.a_,.int .i64 q.service,.int .i64 q.aI,.int .i64 q.aP,.slice q.A q.n q.c] 47)).alloc (.cells #[] 47)).drew.ownsRow W0.heap.size 47 7 (.slice (some ⟨W0.heap.size + 1,0,none⟩) 0 0) 0 []:=by
  have h:=World.ownsRow_lit (base:=W0.heap.size) (e:=47) (size:=7) (W0.alloc (.cells #[.int .i64 q.node,.int .i64 q.room,.int .i64 q.a_,.int .i64 q.service,.int .i64 q.aI,.int .i64 q.aP,.slice q.A q.n q.c] 47)) #[] 0 Fx.size (by simp only [maxLen];omega) (by simp);rw [aF] at h;exact h
 have Xb:((W0.alloc (.cells #[] 47)).alloc (.cells #[.int .i64 q.node,.int .i64 q.room,.int .i64 q.a_,.int .i64 q.service,.int .i64 q.aI,.int .i64 q.aP,.slice q.A q.n q.c] 47)).drew.heap[W0.heap.size + 1]? = some (.cells #[.int .i64 q.node,.int .i64 q.room,.int .i64 q.a_,.int .i64 q.service,.int .i64 q.aI,.int .i64 q.aP,.slice q.A q.n q.c] 47 (0,0)):=by
  have h:=aA (W0.alloc (.cells #[] 47)) (.cells #[.int .i64 q.node,.int .i64 q.room,.int .i64 q.a_,.int .i64 q.service,.int .i64 q.aI,.int .i64 q.aP,.slice q.A q.n q.c] 47);rw [aF] at h;exact h
 have Xc:((W0.alloc (.cells #[.int .i64 q.node,.int .i64 q.room,.int .i64 q.a_,.int .i64 q.service,.int .i64 q.aI,.int .i64 q.aP,.slice q.A q.n q.c] 47)).alloc (.cells #[] 47)).drew.heap[W0.heap.size]? = some (.cells #[.int .i64 q.node,.int .i64 q.room,.int .i64 q.a_,.int .i64 q.service,.int .i64 q.aI,.int .i64 q.aP,.slice q.A q.n q.c] 47 (0,0)):=aO (aA W0 (.cells #[.int .i64 q.node,.int .i64 q.room,.int .i64 q.a_,.int .i64 q.service,.int .i64 q.aI,.int .i64 q.aP,.slice q.A q.n q.c] 47)) (.cells #[] 47);have Rq:Rd W0 7 x.B x.m (x.r.flatMap Q.cells):=by have h:=ZC.2.1;rw [Ac] at h;exact h
 have Ra:=Rq.below Fz.drew;have Rb:=Rq.below Fg.drew;have Rc:=Rq.below Ff.drew;have hone:=QL Q.cells acT x.r;obtain ⟨i0,hi,aaZ,aa0,aa1⟩:=info_parts afS;have hm63:0 + x.m<=maxLen:=by simp only [maxLen];omega
 have Cc:(0 + x.m) * 72<=140737488355328:=by omega
 have hn63:x.m + 1<=maxLen:=by simp only [maxLen];omega
 have hn47:(x.m + 1) * 72<=140737488355328:=by omega
 have ZF:∀ (W:World) (gg:Nat),W.heap[gg]? = some (.cells #[.int .i64 q.node,.int .i64 q.room,.int .i64 q.a_,.int .i64 q.service,.int .i64 q.aI,.int .i64 q.aP,.slice q.A q.n q.c] 47 (0,0))->Rd W 7 (some ⟨gg,0,none⟩) 1 q.cells:=λW gg h=>Rd.of_block h 7 1 rfl;have WS:=zC ZF;have Cz:∀ g,(Value.slice (some ⟨W0.heap.size,0,none⟩) 0 0).ownBlock=some g->W0.heap.size<=g:=λg e=>by injection e with e;rw [<-e];exact zG _
 have Cxz:∀ g,(Value.slice (some ⟨W0.heap.size + 1,0,none⟩) 0 0).ownBlock=some g->W0.heap.size<=g:=λg e=>by injection e with e;rw [<-e];exact Nat.le_succ _
 have Nb:some (W0.heap.size + 1) ≠ (Value.slice (some ⟨W0.heap.size,0,none⟩) 0 0).ownBlock:=λe=>by injection e with e;dsimp only at e;omega
 have Nc:some W0.heap.size ≠ (Value.slice (some ⟨W0.heap.size + 1,0,none⟩) 0 0).ownBlock:=λe=>by injection e with e;dsimp only at e;omega
 have Oz:True:=trivial;clear ZF
 go_region_held3 (pK w x q)
  (with_reducible first | exact S8 | exact S7 | exact AX | exact S6 | exact Xw | exact Xu | exact F6 | exact Xr | exact Xv | exact Xt | exact AQ | exact Xq | exact aQ | exact S0 | fail)
  (first
   | (have h0:=Oz;clear Oz;apply x_ (hgd:=rfl) (s:=.tmp 9) (x:=.tmp 11) (t:=26) (ho:=rfl) (base:=W0.heap.size) (e:=47) (i:=i0) (z:=(.agg #[.int .i64 0,.int .i64 0,.int .i64 0,.int .i64 0,.int .i64 0,.int .i64 0,.slice none 0 0])) (size:=7) (bytes:=72) (ht:=Tryz.underlying26) (hi:=hi) (hz:=aaZ) (hsize:=aa0) (hby:=aa1) (hzs:=rfl) (hsz:=by decide) (v:=.slice (some ⟨_,0,none⟩) 0 0) (n:=0) (xs:=[]) (hs:=rfl) (A:=x.B) (m:=x.m) (c:=x.d) (news:=x.r.flatMap Q.cells) (hx:=rfl) (h1:=hone) (h63:=hm63) (hbytes:=Cc);(with_reducible first | exact Oa | exact Ob | exact Oc | fail);(with_reducible first | exact Ra | exact Rb | exact Rc | fail);(with_reducible first | exact Fz.drew.size | exact Fg.drew.size | exact Ff.drew.size | fail);intro v6 w6 hown6 h_ gy;(first | (have dR:af W0 w6:=by with_reducible exact dY Fz.drew h_ Cz) | (have dR:af W0 w6:=by with_reducible exact dY Fg.drew h_ Cz) | (have dR:af W0 w6:=by with_reducible exact dY Ff.drew h_ Cxz) | fail);(first | (with_reducible (have hL:=iV h_ Xb Nb)) | (with_reducible (have hL:=iV h_ Xc Nc)) | skip);have S6:=aC.out _ (bel hbr dR);have qR:af w6 (w6.alloc (.cells #[.int .i64 q.node,.int .i64 q.room,.int .i64 q.a_,.int .i64 q.service,.int .i64 q.aI,.int .i64 q.aP,.slice q.A q.n q.c] 47)):=ai.alloc (zG _) _;have AX:=aC.out _ (bel hbr (bel dR qR));rw [Nat.zero_add,List.nil_append] at hown6)
   | (have h9:=hown6;clear hown6;apply x_ (hgd:=rfl) (s:=.tmp 12) (x:=.tmp 14) (t:=26) (ho:=rfl) (base:=W0.heap.size) (e:=47) (i:=i0) (z:=(.agg #[.int .i64 0,.int .i64 0,.int .i64 0,.int .i64 0,.int .i64 0,.int .i64 0,.slice none 0 0])) (size:=7) (bytes:=72) (ht:=Tryz.underlying26) (hi:=hi) (hz:=aaZ) (hsize:=aa0) (hby:=aa1) (hzs:=rfl) (hsz:=by decide) (v:=v6) (n:=x.m) (xs:=x.r.flatMap Q.cells) (hs:=rfl) (A:=some ⟨_,0,none⟩) (m:=1) (c:=1) (news:=q.cells) (hx:=rfl) (h1:=acT q) (h63:=hn63) (hbytes:=hn47);rotate_right 1;(with_reducible first | exact h9 | exact own_below h9 qR | fail);(with_reducible first | exact WS.out _ _ hL | exact WS.out _ _ (aA w6 _) | fail);(with_reducible first | exact dR.size | exact aN dR.size qR.size | fail);intro v7 w7 jO iO qC;obtain ⟨A7,k7,rfl,ag5,Q4⟩:=fP jO;(first | (have fJ:af W0 w7:=by with_reducible exact dY dR iO (λg e=>(h9.lt g e).1)) | (have fJ:af W0 w7:=by with_reducible exact dY (bel dR qR) iO (λg e=>(h9.lt g e).1)) | fail);have S7:=aC.out _ (bel hbr fJ))
   | (go_at_call 17;refine (agl (x.with_ A7 (x.m + 1) k7 (x.r ++ [q])) _ ((hS.below hb0).below fJ) (akz ag5 aS.out (λp hp=>(ZC.2.2 p hp).below fJ) (hX0.below fJ))).mono ?_;rintro e w8 ⟨rfl,b8⟩;have je:=bel fJ b8;have S8:=aC.out _ (bel hbr je))
   | fail)
 all_goals
  have hb8:=bel hb0 je;have hxm:(x.m + 1:Nat)=(x.r ++ [q]).length:=by rw [cZ,aS.out];rfl
  have HP:=zC (K.agk (x:=x.with_ A7 (x.m + 1) k7 (x.r ++ [q])));obtain ⟨z,hz⟩:=zB (K.gQ (x.with_ A7 (x.m + 1) k7 (x.r ++ [q])));rw [<-hz];have HZ:=zC hz;have HXM:=zC hxm;obtain ⟨p0,p1,p2,p3,-⟩:=S8;clear S0 aQ AQ Xq Xv Xt F6 Xr Xw Xu S6 AX S7 hz hxm;cases z
  ·go_wp2_with fail;go_ret;exact ⟨⟨false,rfl,λh=>by cases h⟩,hb8⟩
  obtain ⟨g1,g2,g3,g4,g5,g6,g7⟩:=HP.out HZ.out.symm HXM.out;have g2:x.sn<=6:=g2;have g3:x.m + 1<=8:=g3;have g6:x.sn<=4->x.sn<=2:=g6;have g7:x.m + 1<=6->x.m + 1<=4:=g7;have HG:=zC (show (x.m<=4\/6 < x.m)->Dw x q from λh=>⟨g1,g2,by omega,g4,λp hp=>g5 p (List.mem_append_left _ hp),g5 q (List.mem_append_right _ (List.mem_singleton_self q)),g6,λh2=>by omega⟩);have hs2:x.sn<=2\/4 < x.sn:=by omega
  clear g1 g2 g3 g4 g5 g6 g7;by_cases h1:x.sn<=2
  ·have d1:decide ((x.sn:Int)<=2)=true:=by simp;omega
   have d2:decide (x.sn<=2)=true:=by simp;omega
   by_cases h2:x.m<=4
   ·have d3:decide ((x.m:Int)<=4)=true:=by simp;omega
    have d4:decide (x.m<=4)=true:=by simp;omega
    go_wp2_with fail;go_ret;exact ⟨⟨true,rfl,λ_=>HG.out (.inl h2)⟩,hb8⟩
   have d3:decide ((x.m:Int)<=4)=false:=by simp;omega
   have d4:decide (x.m<=4)=false:=by simp;omega
   by_cases h3:6 < x.m
   ·have d5:decide ((6:Int) < (x.m:Int))=true:=by simp;omega
    have d6:decide (6 < x.m)=true:=by simp;omega
    go_wp2_with fail;go_ret;exact ⟨⟨true,rfl,λ_=>HG.out (.inr h3)⟩,hb8⟩
   have d5:decide ((6:Int) < (x.m:Int))=false:=by simp;omega
   have d6:decide (6 < x.m)=false:=by simp;omega
   go_wp2_with fail;go_ret;exact ⟨⟨false,rfl,λh=>by cases h⟩,hb8⟩
  ·have d1:decide ((x.sn:Int)<=2)=false:=by simp;omega
   have d2:decide (x.sn<=2)=false:=by simp;omega
   have d7:decide ((4:Int) < (x.sn:Int))=true:=by simp;omega
   have d8:decide (4 < x.sn)=true:=by simp;omega
   by_cases h2:x.m<=4
   ·have d3:decide ((x.m:Int)<=4)=true:=by simp;omega
    have d4:decide (x.m<=4)=true:=by simp;omega
    go_wp2_with fail;go_ret;exact ⟨⟨true,rfl,λ_=>HG.out (.inl h2)⟩,hb8⟩
   have d3:decide ((x.m:Int)<=4)=false:=by simp;omega
   have d4:decide (x.m<=4)=false:=by simp;omega
   by_cases h3:6 < x.m
   ·have d5:decide ((6:Int) < (x.m:Int))=true:=by simp;omega
    have d6:decide (6 < x.m)=true:=by simp;omega
    go_wp2_with fail;go_ret;exact ⟨⟨true,rfl,λ_=>HG.out (.inr h3)⟩,hb8⟩
   have d5:decide ((6:Int) < (x.m:Int))=false:=by simp;omega
   have d6:decide (6 < x.m)=false:=by simp;omega
   go_wp2_with fail;go_ret;exact ⟨⟨false,rfl,λh=>by cases h⟩,hb8⟩
theorem I9 (k:Int) (w:World):ay 92 #[.int .i64 k] w λe w'=>e=.returned (.agg #[.int .i64 1,.int .i64 0,.int .i64 k,.int .i64 5,.int .i64 1,.int .i64 1,.slice none 0 0])/\af w w':=by
 go_enter Tryz.func92,Tryz.ntmps92;go_wp2_with fail;obtain ⟨wz,hwz⟩:=zB (w.alloc (.cells #[.int .i64 1,.int .i64 0,.int .i64 k,.int .i64 5,.int .i64 1,.int .i64 1,.slice none 0 0] 47));have hZ:wz.heap[w.heap.size]? = some (.cells #[.int .i64 1,.int .i64 0,.int .i64 k,.int .i64 5,.int .i64 1,.int .i64 1,.slice none 0 0] 47 (0,0)):=by rw [hwz];exact aA _ _
 have hb:=aH hwz;rw [<-hwz];exact jc (v:=.agg #[.int .i64 1,.int .i64 0,.int .i64 k,.int .i64 5,.int .i64 1,.int .i64 1,.slice none 0 0]) (results_cell_row rfl _ wz w.heap.size 47 _ (0,0) _ rfl hZ Tryz.underlying47 rfl (by kernel_rfl)) rfl ⟨rfl,hb⟩
theorem age (w:World):ay 91 #[] w λe w'=>(∃ A c A2 c2 SA sc,e=.returned (.agg #[.int .i64 2,.slice A 2 c,.slice SA 1 sc,.slice none 0 0])/\gq w' A 2 K.mF/\Shifts w' SA 1 [K.mY A2 c2])/\af w w':=by
 go_enter Tryz.func91,Tryz.ntmps91;go_wp2_with fail;obtain ⟨l5,hl5⟩:∃ l5:List Obj,l5=[.cells #[.int .i64 2,.slice (some ⟨w.heap.size + 1,0,none⟩) 2 2,.slice (some ⟨w.heap.size + 1 + 1 + 1 + 1,0,none⟩) 1 1,.slice none 0 0] 44,.cells #[.int .i64 0,.int .i64 1,.int .i64 10,.int .i64 (-1),.int .i64 1,.int .i64 0,.int .i64 10,.int .i64 (-1)] 134,
  .cells #[.int .i64 2,.slice (some ⟨w.heap.size + 1,0,none⟩) 2 2] 24,.cells #[.int .i64 5] 3,.cells #[.int .i64 1,.int .i64 0,.int .i64 0,.int .i64 60,.int .i64 0,.slice (some ⟨w.heap.size + 1 + 1 + 1,0,none⟩) 1 1] 63]:=⟨_,rfl⟩
 obtain ⟨wz,hwz⟩:=zB (oH w l5);have hb:=oH.below l5 w;have g:=oH.get l5 w;rw [<-hwz] at hb g;have e0:=g 0 _ (by rw [hl5];rfl);have e1:=g 1 _ (by rw [hl5];rfl);have e3:=g 3 _ (by rw [hl5];rfl);have e4:=g 4 _ (by rw [hl5];rfl);rw [hl5] at hwz;simp only [oH] at hwz;rw [<-hwz];refine jc (v:=.agg #[.int .i64 2,.slice (some ⟨w.heap.size + 1,0,none⟩) 2 2,.slice (some ⟨w.heap.size + 1 + 1 + 1 + 1,0,none⟩) 1 1,.slice none 0 0]) (results_cell_row rfl _ wz w.heap.size 44 _ (0,0) _ rfl e0 Tryz.underlying44 rfl (by kernel_rfl)) rfl ?_;exact ⟨⟨some ⟨w.heap.size + 1,0,none⟩,2,some ⟨w.heap.size + 1 + 1 + 1,0,none⟩,1,some ⟨w.heap.size + 1 + 1 + 1 + 1,0,none⟩,1,rfl,⟨rfl,Rd.of_block (cs:=(K.mF.flatMap qN).toArray) e1 4 2 rfl⟩,⟨⟨rfl,Rd.of_block (cs:=([K.mY (some ⟨w.heap.size + 1 + 1 + 1,0,none⟩) 1].flatMap S.cells).toArray) e4 6 1 rfl⟩,λs hs=>by rw [dB.1 hs];exact ⟨rfl,Rd.of_block (cs:=(intCells [5]).toArray) e3 1 1 rfl⟩⟩⟩,hb⟩
namespace K
def UD:List Int:=[2,1,3,2,1]
def Ae:Nat->List Int
 | 0=>[]
 | 1=>[2]
 | 2=>[2,1]
 | 3=>[2,1]
 | _=>[2,1,2]
def v_:Nat->List Int
 | 2=>[0,1]
 | 4=>[0,1,2]
 | _=>[]
def uA (R:Option (List Q) × An × Int):Option (List Q) × Bool × List Int × Int:=(R.1,R.2.1.acc,R.2.1.blk,R.2.2)
section
variable (A : aj) (c : Nat)
theorem alr:uA (dL 2 mF [mY A c] [] (eX 6))=(some [],false,[],0):=by kernel_rfl
theorem alm:uA (dL 2 mF [mY A c] ([].map eX) (eX 2))=(some ([2].map eX),true,[],0):=by kernel_rfl
theorem aln:uA (dL 2 mF [mY A c] ([2].map eX) (eX 1))=(some ([2,1].map eX),true,[],0):=by kernel_rfl
theorem alo:uA (dL 2 mF [mY A c] ([2,1].map eX) (eX 3))=(some ([2,1].map eX),false,[0,1],0):=by kernel_rfl
theorem alp:uA (dL 2 mF [mY A c] ([2,1].map eX) (eX 2))=(some ([2,1,2].map eX),true,[],0):=by kernel_rfl
theorem alq:uA (dL 2 mF [mY A c] ([2,1,2].map eX) (eX 1))=(some ([2,1,2].map eX),false,[0,1,2],0):=by kernel_rfl
theorem als {i:Nat} (hi:i < 5):∃ k,UD[i]? = some k/\uA (dL 2 mF [mY A c] ((Ae i).map eX) (eX k))=(some ((Ae (i + 1)).map eX),(v_ i).isEmpty,v_ i,0):=by
 match i,hi with
 | 0,_=>exact ⟨2,rfl,alm A c⟩
 | 1,_=>exact ⟨1,rfl,aln A c⟩
 | 2,_=>exact ⟨3,rfl,alo A c⟩
 | 3,_=>exact ⟨2,rfl,alp A c⟩
 | 4,_=>exact ⟨1,rfl,alq A c⟩
end
end K
def kD (B:Nat) (w w':World):Prop:=∀ g o,B<=g->w.heap[g]? = some o->w'.heap[g]? = some o
theorem Rd.stays {w w':World} {size n B:Nat} {A:aj} {xs:List Value} (h:Rd w size A n xs) (hs:kD B w w') (hA:0 < n->∀ ad,A=some ad->B<=ad.block):Rd w' size A n xs :=
 ⟨h.1,λhn=>by
  obtain ⟨ad,e,hc⟩:=h.2 hn;refine ⟨ad,e,λj u hu=>?_⟩;have h1:=hc j u hu;have hlt:=cell_lt h1;obtain ⟨o,ho⟩:∃ o,w.heap[(ad.add j).block]? = some o:=⟨_,Array.getElem?_eq_getElem hlt⟩;refine (lg ?_).trans h1;rw [ho];exact hs _ _ (by rw [add_block];exact hA hn ad e) ho⟩
theorem aX.stays {α:Type} {f:α->List Value} {s n B:Nat} {w w':World} {A:aj} {l:List α} (h:aX f s w A n l) (hs:kD B w w') (hA:0 < n->∀ ad,A=some ad->B<=ad.block):aX f s w' A n l:=⟨h.1,Rd.stays h.2 hs hA⟩
theorem Ints.stays {w w':World} {n B:Nat} {A:aj} {l:ag} (h:Ints w A n l) (hs:kD B w w') (hA:0 < n->∀ ad,A=some ad->B<=ad.block):Ints w' A n l:=⟨h.1,Rd.stays h.2 hs hA⟩
theorem jZ.stays {w w':World} {a:AV} {B:Nat} (h:jZ w a) (hn:yl B a) (hs:kD B w w'):jZ w' a :=
 ⟨⟨aX.stays h.t.1 hs λ_=>hn.p,λy hy=>⟨Ints.stays (h.t.2 y hy).1 hs (hn.t y hy).1,Ints.stays (h.t.2 y hy).2 hs (hn.t y hy).2⟩⟩,Ints.stays h.v hs λ_=>hn.v,⟨aX.stays h.b.1 hs λ_=>hn.r,λy hy=>⟨Ints.stays (h.b.2 y hy).1 hs (hn.b y hy).1,aX.stays (h.b.2 y hy).2 hs (hn.b y hy).2⟩⟩⟩
theorem eu.stays {w w':World} {x:Cs} {B:Nat} (h:eu w x) (hn:pg B x) (hs:kD B w w'):eu w' x :=
 ⟨aX.stays h.net hs hn.n,⟨aX.stays h.shifts.1 hs λ_=>hn.s,λs hm=>Ints.stays (h.shifts.2 s hm) hs (hn.r s hm)⟩,⟨h.bf.1,Rd.stays h.bf.2.1 hs λ_=>hn.q,λq hq=>⟨(h.bf.2.2 q hq).1,Rd.stays (h.bf.2.2 q hq).2 hs (hn.w q hq)⟩⟩,h.b1,h.b2,h.b3,h.b4,h.b5⟩
theorem kD.below {w w':World} (B:Nat) (h:af w w'):kD B w w':=λ_ _ _ e=>au h e
theorem kD.trans {a b c:World} {B:Nat} (h:kD B a b) (h2:kD B b c):kD B a c:=λg o hg e=>h2 g o hg (h g o hg e)
theorem aV {w w':World} (h:af w w') (o:Obj):af w (w'.alloc o):=h.alloc h.size o
theorem mD {B b:Nat} {w w':World} (h:Below B w w') (hb:B<=b) (u0 u1 u2 u3:Value):Below B w ((((w'.setCell ⟨b,0,none⟩ u0).setCell ⟨b,1,none⟩ u1).setCell ⟨b,2,none⟩ u2).setCell ⟨b,3,none⟩ u3) :=
 (((h.setCell hb u0).setCell hb u1).setCell hb u2).setCell hb u3
theorem lQ {w:World} {gA gB:Nat} {csA csB:Array Value} (hA:w.heap[gA]? = some (.cells csA 44 (0,0))) (hB:w.heap[gB]? = some (.cells csB 50 (0,0))) (u0 u1 u2 u3:Value) :
  ((((w.setCell ⟨gA,0,none⟩ u0).setCell ⟨gA,1,none⟩ u1).setCell ⟨gA,2,none⟩ u2).setCell ⟨gA,3,none⟩ u3).heap[gB]? = some (.cells csB 50 (0,0)):=by
 have hne:gB ≠ gA:=λe=>by
  rw [e,hA] at hB;simp at hB
 have h:=Sets.other [(⟨gA,0,none⟩,u0),(⟨gA,1,none⟩,u1),(⟨gA,2,none⟩,u2),(⟨gA,3,none⟩,u3)] w gB (λp hp=>by rw [Dt hp];exact hne.symm);simp only [Sets] at h;rw [h];exact hB
structure nG (w:World) (L:ag) (x:Cs):Prop where
 nd:x.nd=2
 n:x.n=2
 sn:x.sn=1
 m:x.m=L.length
 l:x.l=K.mF
 at_:eu w x
 ss:x.ss.map S.bare=[K.mY none 0].map S.bare
 r:x.r.map Q.bare=(L.map K.eX).map Q.bare
 s9:∀ s ∈ x.ss,s.n<=1000000
theorem agd (L:ag):∀ q ∈ L.map K.eX,q.l.length<=1000000:=λq hq=>by
 obtain ⟨k,-,rfl⟩:=fE.1 hq;exact aW _
theorem nG.below {w w':World} {L:ag} {x:Cs} (h:nG w L x) (hb:af w w'):nG w' L x:=⟨h.nd,h.n,h.sn,h.m,h.l,h.at_.below hb,h.ss,h.r,h.s9⟩
theorem nG.stays {w w':World} {L:ag} {x:Cs} {B:Nat} (h:nG w L x) (hn:pg B x) (hs:kD B w w'):nG w' L x:=⟨h.nd,h.n,h.sn,h.m,h.l,h.at_.stays hn hs,h.ss,h.r,h.s9⟩
theorem nG.ok {w:World} {L:ag} {x:Cs} (h:nG w L x) (hL:L.length<=3) (k:Int):lI w x (K.eX k) :=
 ⟨h.at_,⟨rfl,rfl,λh0=>absurd h0 (Nat.lt_irrefl 0)⟩,by have:=h.m;omega,adF h.at_.bf h.r (agd L),aW _⟩
structure Told (w:World) (L L':ag) (k:Int) (acc:Bool) (blk:ag) (x':Cs) (a:AV):Prop where
 av:jZ w a
 ok:oI a
 acc:a.acc=acc
 v:a.v=blk
 vn:a.vn=blk.length
 an:a.an=(K.dL 2 K.mF [K.mY none 0] (L.map K.eX) (K.eX k)).2.1
 bk:nG w L' x'
theorem Told.stays {w w':World} {L L':ag} {k:Int} {acc:Bool} {blk:ag} {x:Cs} {a:AV} {B:Nat} (h:Told w L L' k acc blk x a) (hn:yl B a) (hb:pg B x) (hs:kD B w w'):Told w' L L' k acc blk x a:=⟨h.av.stays hn hs,h.ok,h.acc,h.v,h.vn,h.an,h.bk.stays hb hs⟩
theorem Told.below {w w':World} {L L':ag} {k:Int} {acc:Bool} {blk:ag} {x:Cs} {a:AV} (h:Told w L L' k acc blk x a) (hb:af w w'):Told w' L L' k acc blk x a:=⟨h.av.below hb,h.ok,h.acc,h.v,h.vn,h.an,h.bk.below hb⟩
theorem DV (w:World) (L L':ag) (k:Int) (acc:Bool) (blk:ag) (x:Cs) (hx:nG w L x) (hL:L.length<=3) {n n' bn:Nat} (hn:L.length=n) (hn':L'.length=n') (hbn:blk.length=bn)
  (hs:K.uA (K.dL 2 K.mF [K.mY none 0] (L.map K.eX) (K.eX k))=(some (L'.map K.eX),acc,blk,0)) :
  ay 33 #[.agg #[.int .i64 2,.slice x.A 2 x.c,.slice x.SA 1 x.sc,.slice x.B n x.d],.agg #[.int .i64 1,.int .i64 0,.int .i64 k,.int .i64 5,.int .i64 1,.int .i64 1,.slice none 0 0]] w λe w' =>
   (∃ x' a,e=.returned (.tuple #[.agg #[.int .i64 2,.slice x'.A 2 x'.c,.slice x'.SA 1 x'.sc,.slice x'.B n' x'.d],.agg #[.bool acc,.slice a.PA a.pn a.pc,.slice a.VA bn a.vc,.slice a.RA a.rn a.rc],.int .i64 0])/\Told w' L L' k acc blk x' a/\yl w.heap.size a/\pg w.heap.size x')/\af w w':=by
 subst hn hn' hbn;have hc:=XH x (K.eX k) w (hx.ok hL k) (by rw [hx.n];decide) (by rw [hx.sn];decide) hx.s9;obtain ⟨h1,h2⟩:=K.ae6 (nd:=2) (l:=K.mF) hx.r hx.ss (x:=K.eX k) rfl;unfold lm at hc;rw [hx.nd,hx.n,hx.sn,hx.m,hx.l] at hc;refine Calls.mono hc ?_;rintro e w' ⟨⟨x',a,rfl,hA,hO,hN,hB,lu,kR⟩,hb⟩;obtain ⟨R,hR⟩:=zB (K.dL 2 K.mF x.ss x.r (K.eX k));obtain ⟨R0,hR0⟩:=zB (K.dL 2 K.mF [K.mY none 0] (L.map K.eX) (K.eX k));have e0:R0.2.1=(K.dL 2 K.mF [K.mY none 0] (L.map K.eX) (K.eX k)).2.1:=by rw [hR0]
 rw [<-hR,<-hR0] at h1 h2;rw [<-hR] at hN hB;rw [<-hR0] at hs;rw [<-hR];clear hR hR0 hc;obtain ⟨r1,an,er⟩:=R;obtain ⟨r0,an0,er0⟩:=R0;simp only [Prod.mk.injEq] at h1;obtain ⟨rfl,rfl⟩:=h1;simp only [K.uA,Prod.mk.injEq] at hs;obtain ⟨rfl,s2,s3,rfl⟩:=hs;cases r1 with
 | none=>cases h2
 | some r =>
  simp only [Option.map_some,Option.some.injEq] at h2;obtain ⟨b1,b2,b3,b4,b5,b6,b7⟩:=hB;have hva:a.acc=acc:=s2.symm ▸ congrArg K.An.acc hN;have hvv:a.v=blk:=s3.symm ▸ congrArg K.An.blk hN;have hvn:a.vn=blk.length:=by rw [<-hvv,<-hA.v.1]
  have hm:x'.m=L'.length:=by
   have h6:=b5.bf.1;have h3:=congrArg List.length b7;have h4:=congrArg List.length h2;simp only [bu] at h3 h4;omega
  have aaW:x'.n=2:=b3.trans hx.n;have hs':x'.sn=1:=b4.trans hx.sn;have hd':x'.nd=2:=b1.trans hx.nd;refine ⟨⟨x',a,by rw [hd',aaW,hs',hm,hva,hvn],⟨hA,hO,hva,hvv,hvn,hN.trans e0,⟨hd',aaW,hs',hm,b2.trans hx.l,b5,b6.trans hx.ss,b7.trans h2,?_⟩⟩,lu,kR⟩,hb⟩;exact VE b5.shifts hx.at_.shifts b6 hx.s9
theorem QB (w:World) (L L':ag) (k:Int) (acc:Bool) (blk:ag) (x x':Cs) (a:AV) (hx:nG w L x) (hL:L.length<=3) (ht:Told w L L' k acc blk x' a) {n bn:Nat} (hn:L.length=n) (hbn:blk.length=bn)
  (hs:K.uA (K.dL 2 K.mF [K.mY none 0] (L.map K.eX) (K.eX k))=(some (L'.map K.eX),acc,blk,0)) :
  ay 37 #[.agg #[.int .i64 2,.slice x.A 2 x.c,.slice x.SA 1 x.sc,.slice x.B n x.d],.agg #[.int .i64 1,.int .i64 0,.int .i64 k,.int .i64 5,.int .i64 1,.int .i64 1,.slice none 0 0],.agg #[.bool acc,.slice a.PA a.pn a.pc,.slice a.VA bn a.vc,.slice a.RA a.rn a.rc]] w (bg w true):=by
 subst hn hbn;have hc:=ack x (K.eX k) a w (hx.ok hL k) ht.av ht.ok;have hk:K.kQ x.nd x.l x.ss x.r (K.eX k) a.an=true:=by
  rw [hx.nd,hx.l,K.afP hx.r hx.ss rfl,ht.an];exact (K.ae5 (ss:=[K.mY none 0]) (r:=L.map K.eX) (by decide) (by rw [bu];exact hL) (by
   have:=congrArg (λp=>p.2.2.2) hs;exact this)).1
 unfold lm pM at hc;rw [hk,hx.nd,hx.n,hx.sn,hx.m,ht.acc,ht.vn] at hc;exact hc
theorem pg.mono {B B':Nat} {x:Cs} (h:pg B x) (hb:B'<=B):pg B' x:=⟨λh0 ad e=>aN hb (h.n h0 ad e),λad e=>aN hb (h.s ad e),λs hs h0 ad e=>aN hb (h.r s hs h0 ad e),λad e=>aN hb (h.q ad e),h.w.mono hb⟩
theorem size_le {w w' W0:World} (_:af w w') (h:af W0 w):W0.heap.size<=w.heap.size:=h.size
theorem wY {w:World} {g:Nat} {o:Obj} (h:w.heap[g]? = some o):g < w.heap.size:=by
 rcases Nat.lt_or_ge g w.heap.size with h1 | h1
 ·exact h1
 ·rw [Array.getElem?_eq_none h1] at h;cases h
theorem iy {w w':World} {g:Nat} {o:Obj} (_:af w w') (h:w.heap[g]? = some o):g < w.heap.size:=wY h
abbrev dW (w:World) (b:Nat) (u0 u1 u2 u3:Value):World:=(((w.setCell ⟨b,0,none⟩ u0).setCell ⟨b,1,none⟩ u1).setCell ⟨b,2,none⟩ u2).setCell ⟨b,3,none⟩ u3
theorem dW.sets (w:World) (b:Nat) (u0 u1 u2 u3:Value):dW w b u0 u1 u2 u3=Sets w [(⟨b,0,none⟩,u0),(⟨b,1,none⟩,u1),(⟨b,2,none⟩,u2),(⟨b,3,none⟩,u3)]:=rfl
theorem dW.at_ {w:World} {b:Nat} {x0 x1 x2 x3:Value} {t:TypeId} (h:w.heap[b]? = some (.cells #[x0,x1,x2,x3] t (0,0))) (u0 u1 u2 u3:Value):(dW w b u0 u1 u2 u3).heap[b]? = some (.cells #[u0,u1,u2,u3] t (0,0)):=by
 rw [dW.sets];exact Ot h _ _ _ _
theorem dW.other {w:World} {b g:Nat} (h:g ≠ b) (u0 u1 u2 u3:Value):(dW w b u0 u1 u2 u3).heap[g]? = w.heap[g]?:=by
 rw [dW.sets];exact Sets.other _ w g (λp hp=>by rw [Dt hp];exact h.symm)
theorem dW.stays {w w':World} {B b:Nat} (h:kD B w w') (hb:b < B\/w.heap.size<=b) (u0 u1 u2 u3:Value):kD B w (dW w' b u0 u1 u2 u3):=λg o hg e=>by
 have:=wY e;rw [dW.other (by omega)];exact h g o hg e
theorem dW.below {B b:Nat} {w w':World} (h:Below B w w') (hb:B<=b) (u0 u1 u2 u3:Value):Below B w (dW w' b u0 u1 u2 u3):=mD h hb u0 u1 u2 u3
structure Done (W0:World) (L L':ag) (k:Int) (acc:Bool) (blk:ag) (n' bn:Nat) (gA gB:Nat) (x':Cs) (a:AV) (w:World):Prop where
 hA:w.heap[gA]? = some (.cells #[.int .i64 2,.slice x'.A 2 x'.c,.slice x'.SA 1 x'.sc,.slice x'.B n' x'.d] 44 (0,0))
 hB:w.heap[gB]? = some (.cells #[.bool acc,.slice a.PA a.pn a.pc,.slice a.VA bn a.vc,.slice a.RA a.rn a.rc] 50 (0,0))
 told:Told w L L' k acc blk x' a
 bel:af W0 w
 lA:W0.heap.size<=gA
 lB:W0.heap.size<=gB
 nx:pg W0.heap.size x'
section
variable {W0 w2 : World} {L L' : ag} {k : Int} {acc : Bool} {blk : ag} {n' bn : Nat} {x' : Cs} {a : AV} {B : Nat}
theorem Yt (b:af W0 w2) (hT:Told w2 L L' k acc blk x' a) (hN:pg B x') (hB:W0.heap.size<=B) :
  Done W0 L L' k acc blk n' bn w2.heap.size (w2.heap.size + 1) x' a ((w2.alloc (.cells #[.int .i64 2,.slice x'.A 2 x'.c,.slice x'.SA 1 x'.sc,.slice x'.B n' x'.d] 44)).alloc (.cells #[.bool acc,.slice a.PA a.pn a.pc,.slice a.VA bn a.vc,.slice a.RA a.rn a.rc] 50)) :=
 have h1:=aV (dK w2) (.cells #[.int .i64 2,.slice x'.A 2 x'.c,.slice x'.SA 1 x'.sc,.slice x'.B n' x'.d] 44)
 ⟨aO (aA _ _) _,bU _ _ _ (aF _ _).symm,hT.below (aV h1 _),aV (aV b _) _,b.size,Nat.le_succ_of_le b.size,hN.mono hB⟩
theorem done2 (b:af W0 w2) (hT:Told w2 L L' k acc blk x' a) (hN:pg B x') (hB:W0.heap.size<=B) :
  Done W0 L L' k acc blk n' bn (w2.heap.size + 1) w2.heap.size x' a ((w2.alloc (.cells #[.bool acc,.slice a.PA a.pn a.pc,.slice a.VA bn a.vc,.slice a.RA a.rn a.rc] 50)).alloc (.cells #[.int .i64 2,.slice x'.A 2 x'.c,.slice x'.SA 1 x'.sc,.slice x'.B n' x'.d] 44)) :=
 have h1:=aV (dK w2) (.cells #[.bool acc,.slice a.PA a.pn a.pc,.slice a.VA bn a.vc,.slice a.RA a.rn a.rc] 50)
 ⟨bU _ _ _ (aF _ _).symm,aO (aA _ _) _,hT.below (aV h1 _),aV (aV b _) _,Nat.le_succ_of_le b.size,b.size,hN.mono hB⟩
theorem Yu {x0 x1 x2 x3:Value} {gA:Nat} (b:af W0 w2) (hT:Told w2 L L' k acc blk x' a) (lu:yl B a) (hN:pg B x') (hB:W0.heap.size<=B) (hA:w2.heap[gA]? = some (.cells #[x0,x1,x2,x3] 44 (0,0))) (lA:gA < B) (Jt:W0.heap.size<=gA) (u0 u1 u2 u3:Value) :
  Done W0 L L' k acc blk n' bn gA w2.heap.size x' a (dW (dW (w2.alloc (.cells #[u0,u1,u2,u3] 50)) gA (.int .i64 2) (.slice x'.A 2 x'.c) (.slice x'.SA 1 x'.sc) (.slice x'.B n' x'.d)) w2.heap.size (.bool acc) (.slice a.PA a.pn a.pc) (.slice a.VA bn a.vc) (.slice a.RA a.rn a.rc)):=by
 have hs:=wY hA;have h1:=aV (dK w2) (.cells #[u0,u1,u2,u3] 50);have hst:=dW.stays (dW.stays (kD.below B h1) (.inl lA) (.int .i64 2) (.slice x'.A 2 x'.c) (.slice x'.SA 1 x'.sc) (.slice x'.B n' x'.d)) (.inr (zG _)) (.bool acc) (.slice a.PA a.pn a.pc) (.slice a.VA bn a.vc) (.slice a.RA a.rn a.rc);refine ⟨?_,?_,hT.stays lu hN hst,dW.below (dW.below (aV b _) Jt _ _ _ _) b.size _ _ _ _,Jt,b.size,hN.mono hB⟩
 ·rw [dW.other (by omega)];exact dW.at_ (aO hA _) _ _ _ _
 ·refine dW.at_ (x0:=u0) (x1:=u1) (x2:=u2) (x3:=u3) ?_ _ _ _ _;rw [dW.other (by omega)];exact aA _ _
theorem Yv {x0 x1 x2 x3 y0 y1 y2 y3:Value} {gA gB:Nat} (b:af W0 w2) (hT:Told w2 L L' k acc blk x' a) (lu:yl B a) (hN:pg B x') (hB:W0.heap.size<=B) (hA:w2.heap[gA]? = some (.cells #[x0,x1,x2,x3] 44 (0,0))) (lA:gA < B) (Jt:W0.heap.size<=gA) (yX:w2.heap[gB]? = some (.cells #[y0,y1,y2,y3] 50 (0,0))) (lB:gB < B) (Ju:W0.heap.size<=gB) :
  Done W0 L L' k acc blk n' bn gA gB x' a (dW (dW w2 gA (.int .i64 2) (.slice x'.A 2 x'.c) (.slice x'.SA 1 x'.sc) (.slice x'.B n' x'.d)) gB (.bool acc) (.slice a.PA a.pn a.pc) (.slice a.VA bn a.vc) (.slice a.RA a.rn a.rc)):=by
 have hne:gA ≠ gB:=λe=>by rw [e,yX] at hA;simp at hA
 have hst:=dW.stays (dW.stays (kD.below B (dK w2)) (.inl lA) (.int .i64 2) (.slice x'.A 2 x'.c) (.slice x'.SA 1 x'.sc) (.slice x'.B n' x'.d)) (.inl lB) (.bool acc) (.slice a.PA a.pn a.pc) (.slice a.VA bn a.vc) (.slice a.RA a.rn a.rc);refine ⟨?_,?_,hT.stays lu hN hst,dW.below (dW.below b Jt _ _ _ _) Ju _ _ _ _,Jt,Ju,hN.mono hB⟩
 ·rw [dW.other hne];exact dW.at_ hA _ _ _ _
 ·refine dW.at_ (x0:=y0) (x1:=y1) (x2:=y2) (x3:=y3) ?_ _ _ _ _;rw [dW.other hne.symm];exact yX
theorem Yw {y0 y1 y2 y3:Value} {gB:Nat} (b:af W0 w2) (hT:Told w2 L L' k acc blk x' a) (lu:yl B a) (hN:pg B x') (hB:W0.heap.size<=B) (yX:w2.heap[gB]? = some (.cells #[y0,y1,y2,y3] 50 (0,0))) (lB:gB < B) (Ju:W0.heap.size<=gB) :
  Done W0 L L' k acc blk n' bn w2.heap.size gB x' a (dW (w2.alloc (.cells #[.int .i64 2,.slice x'.A 2 x'.c,.slice x'.SA 1 x'.sc,.slice x'.B n' x'.d] 44)) gB (.bool acc) (.slice a.PA a.pn a.pc) (.slice a.VA bn a.vc) (.slice a.RA a.rn a.rc)):=by
 have hs:=wY yX;have h1:=aV (dK w2) (.cells #[.int .i64 2,.slice x'.A 2 x'.c,.slice x'.SA 1 x'.sc,.slice x'.B n' x'.d] 44);have hst:=dW.stays (kD.below B h1) (.inl lB) (.bool acc) (.slice a.PA a.pn a.pc) (.slice a.VA bn a.vc) (.slice a.RA a.rn a.rc);refine ⟨?_,dW.at_ (aO yX _) _ _ _ _,hT.stays lu hN hst,dW.below (aV b _) Ju _ _ _ _,b.size,Ju,hN.mono hB⟩;rw [dW.other (by omega)];exact aA _ _
end
end Go.Proofs.YtippdjmpkafifaaGreat
