import Derived.Test.YtippdjmpkafifaaGreatCR7
import Derived.Laws.ResultCell
set_option maxRecDepth 100000
set_option maxHeartbeats 64000000
namespace Go.Proofs.YtippdjmpkafifaaGreat
open Go.RowKit
abbrev yM (w:World) (b:Nat) (p:PS) (st:K.St) (SA:aj) (sn sc:Nat) (TA:aj) (tn tc:Nat) (ad:Addr) (j:Nat) (q:Q):World->Prop:=λ(w':World)=>aJ w' w.heap.size 0 (st.bits:Int)/\bT w' w.heap.size 3 SA sn sc/\bT w' w.heap.size 4 TA tn tc/\bT w' b 8 (some ad) p.x.m p.x.d/\aJ w' ((ad.add (j * 7)).block) ((ad.add (j * 7)).off + 3) q.service
theorem try_any (b mb gb gf:Nat) (p:PS) {X:Nat->Prop} (wp:World) (hpp:dZ wp b mb p X) (hgb:wp.heap.size<=gb) (hgf:wp.heap.size<=gf) (vz:X gb) (BX:X gf):∀ (f:Nat) (st:K.St) (best:Option K.Tr) (SA:aj) (sn sc:Nat) (TA:aj) (tn tc:Nat) (w:World),mW wp w mb gb gf p X best->(∀ g,X g->g < w.heap.size) ->
  wO w p gb gf st SA sn TA tn->2 ^ p.n<=st.bits + f ->
  ay 173 #[.pointer (some ⟨b,0,none⟩),.agg #[.int .i64 (st.bits:Int),.int .i64 st.a,.int .i64 st.t,.slice SA sn sc,.slice TA tn tc],.pointer (some ⟨gb,0,none⟩),.pointer (some ⟨gf,0,none⟩)] w
   λe w'=>Gj w w' mb gb gf p X (K.dU p.x.nd p.x.l p.x.s p.x.r p.l f st best) e:=by
 intro f;induction f with
 | zero=>intro st best SA sn sc TA tn tc w hW hX hS hf;exact absurd hS.bits (by omega)
 | succ f ih =>
  intro st best SA sn sc TA tn tc w hW hX hS hf;have IH:=zC ih;clear ih;have hp:=hW.pat hpp;have hHm:w.heap.size ≠ mb:=λe=>by have h1:=hpp.memo.lt;have h2:=hW.ext.size;omega
  have D_:w.heap.size ≠ gb:=λe=>by have:=hX gb vz;omega
  have Q8:w.heap.size ≠ gf:=λe=>by have:=hX gf BX;omega
  obtain ⟨w1,hw1⟩:=zB (w.alloc (.cells #[.int .i64 (st.bits:Int),.int .i64 st.a,.int .i64 st.t,.slice SA sn sc,.slice TA tn tc] 208));have b1:=aH hw1;have hG:oM w1 w.heap.size st SA sn sc TA tn tc:=by rw [hw1];exact aA _ _
  have hW1:=hW.below b1;obtain ⟨A0,n0,c0,A1,n1,c1,e0,hT,rF⟩:=hW1.best.blk;obtain ⟨g0,g1,g2,g3,g4⟩:=hG.cells;have f0:=ah hW1.best.found 0 (.bool best.isSome) rfl;have u3:=hT.cells.2.2.2;cases hl:K.late best st.t;rotate_left
  ·have HX:=zC (show K.dU p.x.nd p.x.l p.x.s p.x.r p.l (f + 1) st best=best by rw [K.dU,if_pos hl]);obtain ⟨bt,hbt,hle⟩:∃ bt,best=some bt/\bt.end_<=st.t:=by
    cases best with
    | none=>simp [K.late] at hl
    | some bt=>exact ⟨bt,rfl,by simpa [K.late] using hl⟩
   have he0:e0=bt.end_:=(rF bt hbt).2.2.1;have q1:decide (e0<=st.t)=true:=by simp;omega
   have q2:best.isSome=true:=by rw [hbt];rfl
   have hq:e0<=st.t:=by omega
   rw [q2] at f0;clear hl hbt rF he0;rw [hw1] at g0 g1 g2 g3 g4 f0 u3;go_enter Tryz.func173,Tryz.ntmps173;go_wp2_with fail;rw [<-hw1] at g0 g1 g2 g3 g4 f0 u3 ⊢;have F0:=ak.cell f0;have G2:=ak.cell g2;have U3:=ak.cell u3;refine fV (by kernel_rfl) (by kernel_rfl) ?_;repeat (go_big_quiet_step (fail))
   refine wpQuiet_nil ?_;rintro w5 ⟨⟨_,bJ⟩,rfl⟩;have b5:=bel b1 bJ;have hfin:Gj w w5 mb gb gf p X best (.returned (.tuple #[])):=⟨rfl,(ig.refl w _ _ _).below b5,hW.memo.below b5,hW.best.ext (Ext.below b5)⟩;go_wp2_with fail;first | refine bodyPost_ret (results_none rfl _ _ _) rfl ?_ | refine bodyPost_end (results_none rfl _ _ _) rfl ?_
   rw [HX.out];exact hfin
  ·rw [hw1] at g0 g1 g2 g3 g4 f0 u3;go_enter Tryz.func173,Tryz.ntmps173;go_wp2_with fail;rw [<-hw1] at g0 g1 g2 g3 g4 f0 u3 ⊢;go_cut [27] from 16 to 27 (λv27 wc=>v27=.bool false/\af w1 wc)
   case first =>
    have F0:=ak.cell f0;have G2:=ak.cell g2;have U3:=ak.cell u3;obtain ⟨z,hz⟩:=zB best.isSome;have Ux:z=true->decide (e0<=st.t)=false:=λh=>by
     cases best with
     | none=>rw [h] at hz;cases hz
     | some bt =>
      have h1:=(rF bt rfl).2.2.1;have h2:decide (bt.end_<=st.t)=false:=hl;rw [h1];exact h2
    rw [<-hz] at F0;clear hz f0 g2 u3 hl rF;cases z
    ·clear Ux;refine fV (by kernel_rfl) (by kernel_rfl) ?_;repeat (go_big_quiet_step (fail))
     refine wpQuiet_nil ?_;rintro w5 ⟨⟨_,bJ⟩,rfl⟩;go_wp2_with fail;go_meet
     case rel=>exact ⟨rfl,bJ⟩
    ·have hq:=Ux rfl;clear Ux;refine fV (by kernel_rfl) (by kernel_rfl) ?_;repeat (go_big_quiet_step (fail))
     refine wpQuiet_nil ?_;rintro w5 ⟨⟨_,bJ⟩,rfl⟩;go_wp2_with fail;go_meet
     case rel=>exact ⟨rfl,bJ⟩
   case rest =>
    obtain ⟨rfl,hbc⟩:=hcut;clear g0 g1 g2 g3 g4 f0 u3 hw1;have hb:=bel b1 hbc;have hG:=oM.cells (au hbc hG:oM wc w.heap.size st SA sn sc TA tn tc);have xk:oM wc w.heap.size st SA sn sc TA tn tc:=au hbc (by assumption);have hWc:=hW.below hb;have hpc:=hWc.pat hpp;have HL:=zC hl;have nP:p.n<=6:=by have:=(K.jl hp.ok).2.2.2.2.1;have:=hp.set.1;omega
    obtain ⟨N,hN⟩:∃ N,N=2 ^ p.n:=⟨_,rfl⟩;have hN1:1<=N:=by rw [hN];exact Nat.two_pow_pos _
    have GY:N<=64:=by rw [hN];exact Nat.pow_le_pow_right (by omega) nP
    have hw1:IntKind.i64.wrap ((2:Int) ^ p.n)=(N:Int):=by rw [sG (by omega),hN];simp
    have hw2:wrap64 ((2:Int) ^ p.n)=(N:Int):=by rw [<-IntWalk.i64_left];exact hw1
    have HN:=zC hN;have SV:st.bits < N:=by rw [hN];exact hS.bits
    have hf:N<=st.bits + (f + 1):=by rw [hN];exact hf
    have ahX:=hS.len;have hsl:sn<=64:=by rw [hS.stops.1];omega
    have htl:tn<=64:=by rw [hS.times.1,hS.Nq];omega
    clear ahX;obtain ⟨anD,hst1⟩:=hS.t0;clear hN hl rF hT hW1 hbc;obtain ⟨al,hal⟩:=zB (N - 1);have hw3:IntKind.i64.wrap ((N:Int) - 1)=(al:Int):=by rw [dh _ (by omega)];omega
    have hw4:wrap64 ((N:Int) - 1)=(al:Int):=by rw [<-IntWalk.i64_left];exact hw3
    have uI:=zC hal;clear hal;have G0:=ak.cell xk.cells.1;have G9:=ak.cell hpc.blk.cells.2.2.2.2.2.2.2.2.2.1;obtain ⟨z,hz⟩:∃ z:Bool,((st.bits:Int) == (al:Int))=z:=⟨_,rfl⟩;go_wp2_with fail;refine fV (by kernel_rfl) (by kernel_rfl) ?_;repeat (go_big_quiet_step (fail))
    refine wpQuiet_nil ?_;rintro w5 ⟨⟨_,bJ⟩,rfl⟩;have HZ:=zC hz;have hb:=bel hb bJ;have xk:oM w5 w.heap.size st SA sn sc TA tn tc:=au bJ xk;have hWc:=hWc.below bJ;have hpc:=hpc.below bJ;have xx:∀ g,X g->g < w5.heap.size:=λg hg=>dO (hX g hg) hb.size;have hwt:(Lit.int .i64 (T.weight p.x.s p.x.r (K.part p.l st.bits))).wf=true:=T.VW (by have:=K.qM p.l st.bits;have:=(K.jl hp.ok).2.2.2.2.1;omega);have jH:=(ig.refl w mb gb gf).below hb;have hS5:=hS.ext (Ext.below hb);clear hz G0 G9 bJ hG hb hp hW;cases z
    ·have HS:=zC (show K.dU p.x.nd p.x.l p.x.s p.x.r p.l (f + 1) st best=K.dU.go (K.dU p.x.nd p.x.l p.x.s p.x.r p.l f) p.x.nd p.x.l p.x.s p.x.r p.l st best 0 p.l by
      rw [K.dU,if_neg (by rw [HL.out];simp),if_neg (by have h1:¬ (st.bits:Int)=(al:Int):=(by simpa using HZ.out);rw [<-hpc.set.1,<-HN.out,<-uI.out];omega)])
     have c9:=hpc.blk.cells.2.2.2.2.2.2.2.2.2.1;clear HZ HL hw1 hw2 hw3 hw4;go_wp2_with fail
     go_loopw [102] (λVP wr=>∃ (k:Nat) (bk:Option K.Tr),VP=.int .i64 k/\k<=p.n/\mW wp wr mb gb gf p X bk/\ig w wr mb gb gf/\oM wr w.heap.size st SA sn sc TA tn tc/\wO wr p gb gf st SA sn TA tn /\
      Hid (K.dU p.x.nd p.x.l p.x.s p.x.r p.l (f + 1) st best=K.dU.go (K.dU p.x.nd p.x.l p.x.s p.x.r p.l f) p.x.nd p.x.l p.x.s p.x.r p.l st bk k (p.l.drop k))) (λVP _=>p.n - (intOf VP).toNat)
     case atStart=>exact ⟨0,best,rfl,by omega,hWc,jH,xk,hS5,HS⟩
     case round =>
      clear c9 HS hWc jH xk hS5 hpc xx;obtain ⟨k,bk,rfl,hk,zo,hBr,uZ,hSr,hgo⟩:=hrel;have Hg:∀ g,X g->g < wr.heap.size:=λg hg=>dO (hX g hg) hBr.size;have hpr:=zo.pat hpp;by_cases hlt:k < p.n
      ·obtain ⟨j,q,hel,hno,hse,-⟩:=hpr.elem hlt;obtain ⟨bP,ad,hA,hB,-,y0,e0,e1,e2,e3,-⟩:=hel.cells hpr;obtain ⟨k0,k1⟩:=zJ (a:=k) (b:=p.n) (by omega);have hpw:=Nat.two_pow_pos k;obtain ⟨l0,l1,l2,l3,l4⟩:=uZ.cells;have HA:=zC hA;have HB:=zC hB;rw [hA];clear hA hB e0 e1 e2 e3;cases hbit:st.bits.testBit k;rotate_left
       ·have hb1:bits BinOp.and IntKind.i64 ((st.bits:Int) / 2 ^ k) 1=1:=by rw [oP (by omega) (by omega),hbit];rfl
        have HG:=zC (hgo.out.trans (K.QO hel.set (by unfold K.jW;rw [if_pos hbit])));clear hbit;go_wp2_with fail;go_roundw
        case rel=>exact ⟨k + 1,bk,by go_num,by omega,zo,hBr,uZ,hSr,HG⟩
        case measure=>simp [intOf];omega
       ·have hb1:bits BinOp.and IntKind.i64 ((st.bits:Int) / 2 ^ k) 1=0:=by rw [oP (by omega) (by omega),hbit];rfl
        have yx:=zC hbit;clear hbit;obtain ⟨dn,hdn⟩:∃ dn:Nat,q.node=(dn:Int):=⟨q.node.toNat,by omega⟩;have Dx:=zC hdn;clear hdn;have hWd:=zo.below (w':=wr.drew) ai.drew;have nS:=hWd.pat hpp;have CN:=I8 b mb p k j q wr.drew nS hel;have hS3:∀ w',Ext wr w'->(w'.cell? ⟨w.heap.size,0,none⟩=some (.int .i64 (st.bits:Int))/\w'.cell? ⟨w.heap.size,1,none⟩=some (.int .i64 st.a)):=λw' h=>⟨h.cell uZ.cells.1,h.cell uZ.cells.2.1⟩;have S0:=hS3 wr (Ext.refl _);have aQ:=hS3 wr.drew (Ext.below (dK wr).drew);have ah_:=hwt;have ha0:=hS.a0;have hbd:af wr wr.drew:=ai.drew;clear l1 l2 l3 l4;go_wp2_with fail
        go_region_held3 (λw'=>(w'.cell? ⟨w.heap.size,0,none⟩=some (.int .i64 (st.bits:Int))/\w'.cell? ⟨w.heap.size,1,none⟩=some (.int .i64 st.a)))
         (first | assumption | exact S0 | exact aQ)
         (first
          | (go_at_call 142;refine CN.mono ?_;rintro e w6 ⟨rfl,b6⟩;have hb6:=bel hbd b6;have vw:=zo.below hb6;have S6:=hS3 w6 (Ext.below hb6))
          | (go_at_call 141;refine (VT b mb p st.a dn st.bits w6 (vw.pat hpp) (λg hg=>dO (Hg g hg) hb6.size) (by omega) ha0 Dx.out hno.2 hwt).mono ?_;rintro e w7 ⟨rfl,LY⟩;have hx7:=(Ext.below hb6).trans (LY.ext (vw.pat hpp));have S7:=hS3 w7 hx7)
          | fail)
        have qB:=vw.went hpp LY;have oq:=(hBr.below hb6).trans (ig.of LY.1);have xh:oM w7 w.heap.size st SA sn sc TA tn tc:=hx7.cells _ _ _ _ uZ;have hS7:=hSr.ext hx7;have LZ:∀ g,X g->g < w7.heap.size:=λg hg=>dO (hX g hg) oq.size;obtain ⟨hy0,hy1⟩:=K.jY p.x.nd p.x.l st.a (T.weight p.x.s p.x.r (K.part p.l st.bits)) q.node;obtain ⟨y,hy⟩:=zB (K.way p.x.nd p.x.l st.a (T.weight p.x.s p.x.r (K.part p.l st.bits)) q.node)
        have hon:K.jW p.x.nd p.x.l p.x.s p.x.r p.l st k (j:Int)=(if y=-1 then none else if (K.begins p.x.s p.x.r q (K.part p.l (st.bits + 2 ^ k)) (st.t + y)).2=false then none
          else some ⟨st.bits + 2 ^ k,q.node,(K.begins p.x.s p.x.r q (K.part p.l (st.bits + 2 ^ k)) (st.t + y)).1 + q.service,st.stops ++ [(j:Int)],st.times ++ [(K.begins p.x.s p.x.r q (K.part p.l (st.bits + 2 ^ k)) (st.t + y)).1]⟩):=by
         unfold K.jW;rw [K.lZ hel.req,if_neg (by rw [yx.out];simp),<-hy]
        rw [<-hy] at hy0 hy1 ⊢;have PE:=zC hon;clear hy hon CN S0 aQ S6 S7 hS3 vw hb6 b6 hx7 hWd nS hbd LY ah_ hb1 l0 zo hBr uZ hSr Hg hpr;cases q0:(y != -1)
        ·have HG:=zC (hgo.out.trans (K.QO hel.set (by rw [PE.out,if_pos (by simpa using q0)])));clear q0;go_wp2_with fail;go_roundw
         case rel=>exact ⟨k + 1,bk,by go_num,by omega,qB,oq,xh,hS7,HG⟩
         case measure=>simp [intOf];omega
        ·have hyn:¬ y=-1:=by simpa using q0
         have hwr:IntKind.i64.wrap (st.t + y)=st.t + y:=dh _ (by omega);have hlt2:st.bits + 2 ^ k < N:=by rw [HN.out];exact XZ nP (by rw [<-HN.out];exact SV) hlt yx.out
         obtain ⟨l0,l1,l2,l3,l4⟩:=xh.cells;have CB:=acj b mb p st.bits k j q (st.t + y) w7 (qB.pat hpp) hel (by omega) yx.out (by omega) hse;unfold Jw at CB;have hok:=K.wW (s:=p.x.s) (r:=p.x.r) (q:=q) (all:=K.part p.l (st.bits + 2 ^ k)) (arr:=st.t + y);obtain ⟨B,QY⟩:=zB (K.begins p.x.s p.x.r q (K.part p.l (st.bits + 2 ^ k)) (st.t + y));rw [<-QY] at CB hok;have PG:=zC (show K.jW p.x.nd p.x.l p.x.s p.x.r p.l st k (j:Int)=(if B.2=false then none else some ⟨st.bits + 2 ^ k,q.node,B.1 + q.service,st.stops ++ [(j:Int)],st.times ++ [B.1]⟩) by rw [PE.out,if_neg hyn,<-QY]);have aY:=zC hok;obtain ⟨t,ok⟩:=B;clear QY hok PE q0;simp only at CB;go_wp2_with fail;refine CB.mono ?_;rintro e w8 ⟨rfl,b8⟩;have BU:=qB.below b8;have Bq:=oq.below b8;have Lh:oM w8 w.heap.size st SA sn sc TA tn tc:=au b8 xh;have eP:=hS7.ext (Ext.below b8);have Sl:∀ g,X g->g < w8.heap.size:=λg hg=>dO (hX g hg) Bq.size;clear l0 l1 l2 l3 l4 CB qB oq xh hS7 LZ b8;cases ok
         ·have HG:=zC (hgo.out.trans (K.QO hel.set (by rw [PG.out];rfl)));go_wp2_with fail;go_roundw
          case rel=>exact ⟨k + 1,bk,by go_num,by omega,BU,Bq,Lh,eP,HG⟩
          case measure=>simp [intOf];omega
         ·obtain ⟨-,-,-,t0,t1,t2,t3⟩:=aY.out rfl;obtain ⟨mm,hmm⟩:=zB (st.bits + 2 ^ k);have hor:bits BinOp.or IntKind.i64 (st.bits:Int) (IntKind.i64.wrap (2 ^ k))=(mm:Int):=by rw [sG (by omega),KG (by omega) (by omega) yx.out,hmm]
          have aaD:bits BinOp.or IntKind.i64 (st.bits:Int) (wrap64 (2 ^ k))=(mm:Int):=by rw [<-IntWalk.i64_left];exact hor
          have hwr2:IntKind.i64.wrap (t + q.service)=t + q.service:=dh _ (by omega);obtain ⟨best',SQ⟩:=zB (K.dU p.x.nd p.x.l p.x.s p.x.r p.l f ⟨mm,q.node,t + q.service,st.stops ++ [(j:Int)],st.times ++ [t]⟩ bk);have HG:=zC (show K.dU p.x.nd p.x.l p.x.s p.x.r p.l (f + 1) st best=K.dU.go (K.dU p.x.nd p.x.l p.x.s p.x.r p.l f) p.x.nd p.x.l p.x.s p.x.r p.l st best' (k + 1) (p.l.drop (k + 1)) by
           rw [hgo.out,K.agS hel.set PG.out,SQ,hmm])
          have CT:∀ (A3:aj) (c3:Nat) (A5:aj) (c5:Nat) (w5:World),af w8 w5->Ints w5 A3 (sn + 1) (st.stops ++ [(j:Int)])->Ints w5 A5 (tn + 1) (st.times ++ [t])->(∀ ad,A3=some ad->w8.heap.size<=ad.block)->(∀ ad,A5=some ad->w8.heap.size<=ad.block) ->
            ay 173 #[.pointer (some ⟨b,0,none⟩),.agg #[.int .i64 (mm:Int),.int .i64 q.node,.int .i64 (t + q.service),.slice A3 (sn + 1) c3,.slice A5 (tn + 1) c5],.pointer (some ⟨gb,0,none⟩),.pointer (some ⟨gf,0,none⟩)] w5
             λe w'=>Gj w5 w' mb gb gf p X best' e:=λA3 c3 A5 c5 w5 h1 h2 h3 h4 h5=>by
           rw [SQ];have aht:=Sl gb vz;have ani:=Sl gf BX;refine IH.out ⟨mm,q.node,t + q.service,st.stops ++ [(j:Int)],st.times ++ [t]⟩ bk A3 (sn + 1) c3 A5 (tn + 1) c5 w5 (BU.below h1) (λg hg=>dO (Sl g hg) h1.size) ⟨h2,h3,λad e=>by have:=h4 ad e;omega,λad e=>by have:=h5 ad e;omega,by show mm < 2 ^ p.n;rw [<-HN.out];omega,?_,?_,hno,⟨by show 0<=t + q.service;omega,by show t + q.service<=1000000;omega⟩⟩ (by show 2 ^ p.n<=mm + f;rw [<-HN.out];omega)
           ·have:=hS.len;simp only [cZ,dQ,List.length_nil];omega
           ·have:=hS.Nq;simp only [cZ,dQ,List.length_nil];omega
          have hAl:∀ w' o',af w8 w'->af w8 (w'.alloc o'):=λw' o' h=>bel h (ai.alloc (zG _) _);have hbd:af w8 w8.drew:=ai.drew;have TJ:∀ (w':World) (bk':Option K.Tr),mW wp w' mb gb gf p X bk'->oM w' w.heap.size st SA sn sc TA tn tc->(yM w b p st SA sn sc TA tn tc ad j q) w':=λw' bk' h1 h2=>by
           obtain ⟨XB,ad',-,hB',-,-,-,-,-,e3,-⟩:=hel.cells (h1.pat hpp);rw [HB.out] at hB';injection hB' with hB';subst hB';have d8:=(h1.pat hpp).blk.cells.2.2.2.2.2.2.2.2.1;rw [HB.out] at d8;exact ⟨h2.cells.1,h2.cells.2.2.2.1,h2.cells.2.2.2.2,d8,e3⟩
          have hmk:∀ w',af w8 w'->(yM w b p st SA sn sc TA tn tc ad j q) w':=λw' h=>TJ w' bk (BU.below h) (au h Lh);have hSo:∀ w' w'',af w8 w'->ig w' w'' mb gb gf->fZ w'' mb p.x.nd p.x.l X->qQ w'' gb gf best'->mW wp w'' mb gb gf p X best'/\ig w w'' mb gb gf/\oM w'' w.heap.size st SA sn sc TA tn tc/\wO w'' p gb gf st SA sn TA tn:=λw' w'' h h1 h2 h3 =>
           ⟨(BU.below h).but hpp hgb hgf h1 h2 h3,(Bq.below h).trans h1,(h1.block _ (lt_of_block (au h Lh)) hHm D_ Q8).trans (au h Lh),(eP.ext (Ext.below h)).but (BU.below h).memo h1⟩
          have p_:∀ w' w'',af w8 w'->ig w' w'' mb gb gf->fZ w'' mb p.x.nd p.x.l X->qQ w'' gb gf best'->(yM w b p st SA sn sc TA tn tc ad j q) w'':=λw' w'' h h1 h2 h3=>TJ w'' best' (hSo w' w'' h h1 h2 h3).1 (hSo w' w'' h h1 h2 h3).2.2.1;have fK:∀ (w':World) (o':Obj),(yM w b p st SA sn sc TA tn tc ad j q) w'->(yM w b p st SA sn sc TA tn tc ad j q) (w'.alloc o'):=λw' o' h=>by
           have hx:Ext w' (w'.alloc o'):=Ext.below (ai.alloc (zG _) _);exact ⟨hx.cell h.1,hx.cell h.2.1,hx.cell h.2.2.1,hx.cell h.2.2.2.1,hx.cell h.2.2.2.2⟩
          have hSd:∀ (w':World),(yM w b p st SA sn sc TA tn tc ad j q) w'->(yM w b p st SA sn sc TA tn tc ad j q) w'.drew:=λw' h=>h;have hb0:af w8 w8:=ai;have hDr:∀ w',af w8 w'->af w8 w'.drew:=λw' h=>h.drew;have S0:=hmk _ ai;have aQ:=hmk _ hbd;have k2:(0:Int)<=(j:Int):=by omega
          have k3:(j:Int) < (p.x.m:Int):=by have:=(hel.lt (BU.pat hpp)).2;omega
          have Iz:sn<=1000000:=by omega
          have aaR:tn<=1000000:=by omega
          clear hmm SQ IH hgo PG aY HA hno hse hwt hwr;go_wp2_with fail
          go_region_held3 (yM w b p st SA sn sc TA tn tc ad j q)
           (with_reducible first | exact S6 | exact S5 | exact S4 | exact S3 | exact S2 | exact S1 | exact aQ | exact S0 | exact hSd _ (fK _ _ S0) | exact hSd _ (fK _ _ (fK _ _ S0)) | exact fK _ _ S1 | exact fK _ _ (fK _ _ S1) | exact fK _ _ S2 | exact fK _ _ (fK _ _ S2) | exact fK _ _ S3 | exact fK _ _ S4 | fail)
           (first
            | (go_at_call 142;refine (I8 b mb p k j q _ ((BU.below ?_).pat hpp) hel).mono ?_;(first | with_reducible exact hbd | with_reducible exact hDr _ (hAl _ _ hb0) | with_reducible exact hDr _ (hAl _ _ (hAl _ _ hb0)));rintro e w1 ⟨rfl,BZ⟩;have hb1:af w8 w1:=bel (by (first | with_reducible exact hbd | with_reducible exact hDr _ (hAl _ _ hb0) | with_reducible exact hDr _ (hAl _ _ (hAl _ _ hb0)))) BZ;have S1:=hmk _ hb1;(first | (with_reducible (have hL1:=au BZ (D5 (bU _ (.cells #[.int .i64 (j:Int)] 3) _ (aF _ _).symm)))) | (with_reducible (have hL1:=au BZ (D5 (aA _ (.cells #[.int .i64 (j:Int)] 3))))) | (with_reducible (have hL1:=au BZ (D5 (aO (aA _ (.cells #[.int .i64 (j:Int)] 3)) (.cells #[.int .i64 t] 3))))) | skip);(first | (with_reducible (have hL2:=au BZ (D5 (bU _ (.cells #[.int .i64 t] 3) _ (aF _ _).symm)))) | (with_reducible (have hL2:=au BZ (D5 (aA _ (.cells #[.int .i64 t] 3))))) | (with_reducible (have hL2:=au BZ (D5 (aO (aA _ (.cells #[.int .i64 t] 3)) (.cells #[.int .i64 (j:Int)] 3))))) | skip))
            | (go_at_call_of 109 SA;refine (yT SA sn sc st.stops _ (eP.stops.below ?_) Iz).mono ?_;(first | with_reducible exact hb1 | with_reducible exact hAl _ _ hb1 | with_reducible exact hAl _ _ (hAl _ _ hb1));rintro e w2 ⟨⟨v2,rfl,hown2⟩,jM⟩;have hb2:af w8 w2:=bel (by (first | with_reducible exact hb1 | with_reducible exact hAl _ _ hb1 | with_reducible exact hAl _ _ (hAl _ _ hb1))) jM;have hs2:=XT (w:=w8) (by (first | with_reducible exact hb1 | with_reducible exact hAl _ _ hb1 | with_reducible exact hAl _ _ (hAl _ _ hb1))) jM;have S2:=hmk _ hb2;have hC2:=hown2.lt;(first | (with_reducible (have tV:=IV jM hL2;have hL2:=au jM tV)) | (with_reducible (have tV:=IV jM (aO hL2 _);have hL2:=au jM tV)) | (with_reducible (have tV:=IV jM (bU _ (.cells #[.int .i64 t] 3) _ (aF _ _).symm);have hL2:=au jM tV)) | (with_reducible (have tV:=IV jM (aA _ (.cells #[.int .i64 t] 3));have hL2:=au jM tV)) | (with_reducible (have tV:=IV jM (aO (aA _ (.cells #[.int .i64 t] 3)) (.cells #[.int .i64 (j:Int)] 3));have hL2:=au jM tV)) | skip);(first | (with_reducible (have hL1:=au jM hL1)) | (with_reducible (have hL1:=au jM (aO hL1 _))) | (with_reducible (have hL1:=au jM (bU _ (.cells #[.int .i64 (j:Int)] 3) _ (aF _ _).symm))) | (with_reducible (have hL1:=au jM (aA _ (.cells #[.int .i64 (j:Int)] 3)))) | (with_reducible (have hL1:=au jM (aO (aA _ (.cells #[.int .i64 (j:Int)] 3)) (.cells #[.int .i64 t] 3)))) | skip))
            | (have EC:=hown2;clear hown2;refine Ov rfl (.tmp 161) (.tmp 163) rfl EC jM.size rfl _ (j:Int) rfl ?_ ?_ Iz ?_;(first | with_reducible exact ai | with_reducible exact (ai.alloc (zG _) _) | with_reducible exact bel (ai.alloc (zG _) _) (ai.alloc (zG _) _));(first | with_reducible exact hL1 | with_reducible exact (aO hL1 _) | with_reducible exact (bU _ (.cells #[.int .i64 (j:Int)] 3) _ (aF _ _).symm) | with_reducible exact (aA _ (.cells #[.int .i64 (j:Int)] 3)) | with_reducible exact (aO (aA _ (.cells #[.int .i64 (j:Int)] 3)) (.cells #[.int .i64 t] 3)));intro A3 c3 w3 BC hA3 TB SK;have hb3:af w8 w3:=Below.trans (by (first | with_reducible exact hb2 | with_reducible exact hAl _ _ hb2 | with_reducible exact hAl _ _ (hAl _ _ hb2))) (SK.mono hs2);have S3:=hmk _ hb3;(first | (with_reducible (have hL2:=(SK.block _ (lt_of_block tV)).trans hL2)) | (with_reducible (have hL2:=(SK.block _ (lt_of_block tV)).trans (aO hL2 _))) | (have hL2:=iV TB (bU _ (.cells #[.int .i64 t] 3) _ (aF _ _).symm) (λe=>by have h9:=(hC2 _ e.symm).2;first | omega | (simp only [aF] at h9;omega))) | (have hL2:=iV TB (aA _ (.cells #[.int .i64 t] 3)) (λe=>by have h9:=(hC2 _ e.symm).2;first | omega | (simp only [aF] at h9;omega))) | (have hL2:=iV TB (aO (aA _ (.cells #[.int .i64 t] 3)) (.cells #[.int .i64 (j:Int)] 3)) (λe=>by have h9:=(hC2 _ e.symm).2;first | omega | (simp only [aF] at h9;omega))) | skip))
            | (go_at_call_of 109 TA;refine (yT TA tn tc st.times _ (eP.times.below ?_) aaR).mono ?_;(first | with_reducible exact hb3 | with_reducible exact hAl _ _ hb3 | with_reducible exact hAl _ _ (hAl _ _ hb3));rintro e w4 ⟨⟨v4,rfl,hown4⟩,um⟩;have hb4:af w8 w4:=bel (by (first | with_reducible exact hb3 | with_reducible exact hAl _ _ hb3 | with_reducible exact hAl _ _ (hAl _ _ hb3))) um;have hs4:=XT (w:=w8) (by (first | with_reducible exact hb3 | with_reducible exact hAl _ _ hb3 | with_reducible exact hAl _ _ (hAl _ _ hb3))) um;have S4:=hmk _ hb4;have qA:=ints_at um (by (first | with_reducible exact BC | with_reducible exact BC.below (ai.alloc (zG _) _)));(first | (with_reducible (have hL2:=au um hL2)) | (with_reducible (have hL2:=au um (aO hL2 _))) | (with_reducible (have hL2:=au um (bU _ (.cells #[.int .i64 t] 3) _ (aF _ _).symm))) | (with_reducible (have hL2:=au um (aA _ (.cells #[.int .i64 t] 3)))) | (with_reducible (have hL2:=au um (aO (aA _ (.cells #[.int .i64 t] 3)) (.cells #[.int .i64 (j:Int)] 3)))) | skip))
            | (have EC:=hown4;clear hown4;refine Ov rfl (.tmp 167) (.tmp 169) rfl EC um.size rfl _ t rfl ?_ ?_ aaR ?_;(first | with_reducible exact ai | with_reducible exact (ai.alloc (zG _) _) | with_reducible exact bel (ai.alloc (zG _) _) (ai.alloc (zG _) _));(first | with_reducible exact hL2 | with_reducible exact (aO hL2 _) | with_reducible exact (bU _ (.cells #[.int .i64 t] 3) _ (aF _ _).symm) | with_reducible exact (aA _ (.cells #[.int .i64 t] 3)) | with_reducible exact (aO (aA _ (.cells #[.int .i64 t] 3)) (.cells #[.int .i64 (j:Int)] 3)));intro A5 c5 w5 g_ ry hgr5 Z4;have hb5:af w8 w5:=Below.trans (by (first | with_reducible exact hb4 | with_reducible exact hAl _ _ hb4 | with_reducible exact hAl _ _ (hAl _ _ hb4))) (Z4.mono hs4);have S5:=hmk _ hb5;have dS:=qA _ (Below.trans (by (first | with_reducible exact um | with_reducible exact bel um (ai.alloc (zG _) _))) Z4))
            | (go_at_call 173;refine (CT A3 c3 A5 c5 w5 hb5 dS g_ (λad e=>aN hs2 (hA3 ad e)) (λad e=>aN hs4 (ry ad e))).mono ?_;rintro e w6 ⟨rfl,lU,xu,jh⟩;have anf:=hb5;have S6:=p_ _ _ hb5 lU xu jh)
            | fail)
          all_goals (
           obtain ⟨Ei,nK,hG9,Ee⟩:=hSo _ _ hb5 lU xu jh;clear S0 aQ fK hSd hDr hb0 hmk TJ p_ hSo hAl CT;go_wp2_with fail;go_roundw
           case rel=>exact ⟨k + 1,best',by go_num,by omega,Ei,nK,hG9,Ee,HG⟩
           case measure=>simp [intOf];omega)
      ·have HF:=zC (show K.dU p.x.nd p.x.l p.x.s p.x.r p.l (f + 1) st best=bk by
        rw [hgo.out,List.drop_of_length_le (by rw [<-hpr.set.1];omega)];rfl)
       go_wp2_with fail;first | refine bodyPost_ret (results_none rfl _ _ _) rfl ?_ | refine bodyPost_end (results_none rfl _ _ _) rfl ?_
       rw [HF.out];exact ⟨rfl,hBr,zo.memo,zo.best⟩
    ·obtain ⟨dn,hdn⟩:∃ dn:Nat,p.x.s.ax=(dn:Int):=⟨p.x.s.ax.toNat,by have:=(K.tu (K.jl hpc.ok).2.1).2.1;omega⟩;have Dx:=zC hdn;clear hdn;have hdp:=(K.jl hpc.ok).2.2.1;have hS3:∀ w',Ext w5 w'->(w'.cell? ⟨w.heap.size,0,none⟩=some (.int .i64 (st.bits:Int))/\w'.cell? ⟨w.heap.size,1,none⟩=some (.int .i64 st.a)/\w'.cell? ⟨b,3,none⟩=some (.int .i64 p.x.s.ax)):=λw' h=>⟨h.cell xk.cells.1,h.cell xk.cells.2.1,h.cell hpc.blk.cells.2.2.2.1⟩;have S0:=hS3 w5 (Ext.refl _);have aQ:=hS3 w5.drew (Ext.below (dK w5).drew);have hWd:=hWc.below (w':=w5.drew) ai.drew;have nS:=hWd.pat hpp;have CW:=VT b mb p st.a dn st.bits w5.drew nS xx (by omega) hS.a0 Dx.out hdp hwt;go_wp2_with fail
     go_region_held3 (λw'=>(w'.cell? ⟨w.heap.size,0,none⟩=some (.int .i64 (st.bits:Int))/\w'.cell? ⟨w.heap.size,1,none⟩=some (.int .i64 st.a)/\w'.cell? ⟨b,3,none⟩=some (.int .i64 p.x.s.ax)))
      (first | assumption | exact S0 | exact aQ)
      (first
       | (go_at_call 141;refine CW.mono ?_;rintro e w6 ⟨rfl,hW⟩;have hx6:=(Ext.below (w':=w5.drew) (dK w5).drew).trans (hW.ext nS);have S6:=hS3 _ hx6)
       | fail)
     obtain ⟨hy0,hy1⟩:=K.jY p.x.nd p.x.l st.a (T.weight p.x.s p.x.r (K.part p.l st.bits)) p.x.s.ax;have HS:=zC (show K.dU p.x.nd p.x.l p.x.s p.x.r p.l (f + 1) st best=K.home p.x.nd p.x.l p.x.s p.x.r p.l st best by
      rw [K.dU,if_neg (by rw [HL.out];simp),if_pos (by have h1:(st.bits:Int)=(al:Int):=(by simpa using HZ.out);rw [<-hpc.set.1,<-HN.out,<-uI.out];omega)])
     obtain ⟨y,hy⟩:=zB (K.way p.x.nd p.x.l st.a (T.weight p.x.s p.x.r (K.part p.l st.bits)) p.x.s.ax);have HH:=zC (show K.home p.x.nd p.x.l p.x.s p.x.r p.l st best=if y ≠ -1/\st.t + y<=p.x.s.end_/\K.better best (st.t + y)=true then some ⟨st.stops,st.times,st.t + y⟩ else best by unfold K.home;rw [<-hy]);rw [<-hy] at hy0 hy1 ⊢;have vw:=hWd.went hpp hW;have lU:ig w w6 mb gb gf:=(jH.below ai.drew).trans (ig.of hW.1);have lq:oM w6 w.heap.size st SA sn sc TA tn tc:=hx6.cells _ _ _ _ xk;have hS6:=hS5.ext hx6;have hX6:∀ g,X g->g < w6.heap.size:=λg hg=>dO (hX g hg) lU.size;clear hy CW S0 aQ S6 hS3 hx6 hW hWd nS xk hWc hpc xx jH hS5 Dx hdp hwt HZ HL hw1 hw2 hw3 hw4;have Ci:=vw.pat hpp;obtain ⟨A0,n0,c0,A1,n1,c1,e0,hT,rF⟩:=vw.best.blk;obtain ⟨hm,hhm⟩:=zB (decide (y ≠ -1/\st.t + y<=p.x.s.end_/\K.better best (st.t + y)=true));have hwr:IntKind.i64.wrap (st.t + y)=st.t + y:=dh _ (by omega);obtain ⟨z8,EK⟩:∃ z8,(y != -1)=z8:=⟨_,rfl⟩;rw [EK];go_wp2_with fail;go_cut [81] from 52 to 81 (λv81 wc=>v81=.bool hm/\af w6 wc)
     case first =>
      have F0:=ak.cell (ah vw.best.found 0 (.bool best.isSome) rfl);have G2:=ak.cell lq.cells.2.2.1;have U3:=ak.cell hT.cells.2.2.2;have P5:=ak.cell Ci.blk.cells.2.2.2.2.2.1;cases z8
      ·have hy:y=-1:=by simpa using EK
       clear hy0 hy1 EK;refine fV (by kernel_rfl) (by kernel_rfl) ?_;repeat (go_big_quiet_step (fail))
       refine wpQuiet_nil ?_;rintro w5 ⟨⟨_,bJ⟩,rfl⟩;go_wp2_with fail;go_meet
       case rel=>exact ⟨by rw [hhm];simp [hy],bJ⟩
      cases q1:decide (st.t + y<=p.x.s.end_)
      ·have hq1:¬ st.t + y<=p.x.s.end_:=of_decide_eq_false q1;refine fV (by kernel_rfl) (by kernel_rfl) ?_;repeat (go_big_quiet_step (fail))
       refine wpQuiet_nil ?_;rintro w5 ⟨⟨_,bJ⟩,rfl⟩;go_wp2_with fail;go_meet
       case rel=>exact ⟨by rw [hhm];simp;omega,bJ⟩
      have hq0:y ≠ -1:=by simpa using EK
      clear EK;have hq1:st.t + y<=p.x.s.end_:=iH q1;obtain ⟨z,hz⟩:=zB best.isSome;rw [<-hz] at F0;cases z
      ·have hbn:K.better best (st.t + y)=true:=by
        cases best with
        | none=>rfl
        | some bt=>cases hz
       clear hz;refine fV (by kernel_rfl) (by kernel_rfl) ?_;repeat (go_big_quiet_step (fail))
       refine wpQuiet_nil ?_;rintro w5 ⟨⟨_,bJ⟩,rfl⟩;go_wp2_with fail;go_meet
       case rel=>exact ⟨by rw [hhm];simp [hq0,hq1,hbn],bJ⟩
      ·have hbn:K.better best (st.t + y)=decide (st.t + y < e0):=by
        cases best with
        | none=>cases hz
        | some bt=>rw [(rF bt rfl).2.2.1];rfl
       obtain ⟨q3,hq3⟩:=zB (decide (st.t + y < e0));rw [<-hq3] at hbn;clear hz;have anA:=hq3.symm;clear hq3;refine fV (by kernel_rfl) (by kernel_rfl) ?_;repeat (go_big_quiet_step (fail))
       refine wpQuiet_nil ?_;rintro w5 ⟨⟨_,bJ⟩,rfl⟩;go_wp2_with fail;go_meet
       case rel=>exact ⟨by rw [hhm];simp [hq0,hq1,hbn],bJ⟩
     case rest =>
      obtain ⟨rfl,hbc⟩:=hcut;have qB:=vw.below hbc;have oq:=lU.below hbc;have xh:oM wc w.heap.size st SA sn sc TA tn tc:=au hbc lq;have hS7:=hS6.ext (Ext.below hbc);have LZ:∀ g,X g->g < wc.heap.size:=λg hg=>dO (hX g hg) oq.size;have Wn:=zC hhm;clear hT rF hhm Ci hX6 hS6 lq lU vw hbc EK;cases hm
      ·have HF:=zC (show K.dU p.x.nd p.x.l p.x.s p.x.r p.l (f + 1) st best=best by rw [HS.out,HH.out,if_neg (of_decide_eq_false Wn.out.symm)]);go_wp2_with fail;first | refine bodyPost_ret (results_none rfl _ _ _) rfl ?_ | refine bodyPost_end (results_none rfl _ _ _) rfl ?_
       rw [HF.out];exact ⟨rfl,oq,qB.memo,qB.best⟩
      ·have HF:=zC (show K.dU p.x.nd p.x.l p.x.s p.x.r p.l (f + 1) st best=some ⟨st.stops,st.times,st.t + y⟩ by rw [HS.out,HH.out,if_pos (iH Wn.out.symm)]);have D_:gb ≠ w.heap.size:=λe=>by have:=hX gb vz;omega
       have Q8:gf ≠ w.heap.size:=λe=>by have:=hX gf BX;omega
       have hne:=qB.best.ne;have hne1:(gb=gf)=False:=eq_false hne;have hne2:(gf=gb)=False:=eq_false (Ne.symm hne);have hmk:∀ w',oM w' w.heap.size st SA sn sc TA tn tc->(λw'=>w'.cell? ⟨w.heap.size,2,none⟩=some (.int .i64 st.t)/\w'.cell? ⟨w.heap.size,3,none⟩=some (.slice SA sn sc)/\w'.cell? ⟨w.heap.size,4,none⟩=some (.slice TA tn tc)) w':=λw' h=>⟨h.cells.2.2.1,h.cells.2.2.2.1,h.cells.2.2.2.2⟩;have hbd:af wc wc.drew:=ai.drew;have S0:=hmk _ xh;have aQ:=hmk _ (au hbd xh);have hId:=hS7.stops.below hbd;have hJd:=hS7.times.below hbd;have rE:∀ (w':World) (g i:Nat) (v:Value),g ≠ w.heap.size->(λw'=>w'.cell? ⟨w.heap.size,2,none⟩=some (.int .i64 st.t)/\w'.cell? ⟨w.heap.size,3,none⟩=some (.slice SA sn sc)/\w'.cell? ⟨w.heap.size,4,none⟩=some (.slice TA tn tc)) w'->(λw'=>w'.cell? ⟨w.heap.size,2,none⟩=some (.int .i64 st.t)/\w'.cell? ⟨w.heap.size,3,none⟩=some (.slice SA sn sc)/\w'.cell? ⟨w.heap.size,4,none⟩=some (.slice TA tn tc)) (w'.setCell ⟨g,i,none⟩ v):=λw' g i v hg h=>by
        refine ⟨?_,?_,?_⟩
        ·exact (lg (iG w' _ v _ (Ne.symm hg))).trans h.1
        ·exact (lg (iG w' _ v _ (Ne.symm hg))).trans h.2.1
        ·exact (lg (iG w' _ v _ (Ne.symm hg))).trans h.2.2
       go_wp2_with fail
       go_region_held3 (λw'=>w'.cell? ⟨w.heap.size,2,none⟩=some (.int .i64 st.t)/\w'.cell? ⟨w.heap.size,3,none⟩=some (.slice SA sn sc)/\w'.cell? ⟨w.heap.size,4,none⟩=some (.slice TA tn tc))
        (with_reducible first | exact Xy | exact Qd | exact S9 | exact S8 | exact aQ | exact S0 | fail)
        (first
         | (go_at_call_of 109 SA;refine (yT SA sn sc st.stops _ hId (by omega)).mono ?_;rintro e w8 ⟨⟨v8,rfl,xH⟩,hb8⟩;have SH:=bel hbd hb8;have S8:=hmk _ (au SH xh);have hJ8:=hJd.below hb8;obtain ⟨A8,c8,rfl,hR8,TI⟩:=fP xH)
         | (go_at_call_of 109 TA;refine (yT TA tn tc st.times _ hJ8 (by omega)).mono ?_;rintro e w9 ⟨⟨v9,rfl,EC⟩,ji⟩;have SI:=bel SH ji;have S9:=hmk _ (au SI xh);obtain ⟨A9,c9,rfl,G6,ahD⟩:=fP EC;have Qd:=rE _ gb 3 (.int .i64 (st.t + y)) D_ (rE _ gb 2 (.slice A9 tn c9) D_ (rE _ gb 1 (.slice A8 sn c8) D_ (rE _ gb 0 (.int .i64 0) D_ S9)));have Xy:=rE _ gf 0 (.bool true) Q8 Qd;have Ei:=qB.below SI;obtain ⟨B0,m0,d0,B1,m1,d1,e1,vk,-⟩:=Ei.best.blk;obtain ⟨u0,u1,u2,u3⟩:=vk.cells;have uf:=b_ vk;have f0:=ah Ei.best.found 0 (.bool best.isSome) rfl;have ff:=b_ Ei.best.found)
         | fail)
       have anb:=LZ gb vz;have anc:=LZ gf BX;have hs8:∀ ad,A8=some ad->gb < ad.block/\gf < ad.block:=λad e=>by
        have h1:=TI ad.block (by rw [e];rfl);have h4:=hbd.size;omega
       have hs9:∀ ad,A9=some ad->gb < ad.block/\gf < ad.block:=λad e=>by
        have h1:=ahD ad.block (by rw [e];rfl);have h4:=SH.size;omega
       obtain ⟨nK,hM9,vk⟩:=Ei.stored hpp hgb hgf vz BX st.stops st.times (st.t + y) (c:=c8) (c':=c9) ⟨hS7.stops.1,hR8.below ji⟩ ⟨hS7.times.1,G6⟩ hs8 hs9 (ab6 xH) (ab6 EC);have hfin:Gj w _ mb gb gf p X (some ⟨st.stops,st.times,st.t + y⟩) (.returned (.tuple #[])):=⟨rfl,(oq.below SI).trans nK,hM9,vk⟩;clear rE S0 aQ S8 S9 Xy Qd u0 u1 u2 u3 f0;go_wp2_with fail;first | refine bodyPost_ret (results_none rfl _ _ _) rfl ?_ | refine bodyPost_end (results_none rfl _ _ _) rfl ?_
       rw [HF.out];exact hfin
namespace K
def jF (nd:Int) (l:List Ro) (s:S) (r:List Q) (v:ag):Tr × Int :=
 if bF nd l s r v=true then (match best nd l s r v with | some t=>(t,0) | none=>(Tr.zero,4)) else (Tr.zero,1)
theorem XV {nd:Int} {l:List Ro} {s:S} {r:List Q} {v:ag} (h:bF nd l s r v=false):jF nd l s r v=(Tr.zero,1):=by unfold jF;rw [h];rfl
theorem Qv {nd:Int} {l:List Ro} {s:S} {r:List Q} {v:ag} (h:bF nd l s r v=true) (h2:best nd l s r v=none):jF nd l s r v=(Tr.zero,4):=by unfold jF;rw [if_pos h,h2]
theorem KD {nd:Int} {l:List Ro} {s:S} {r:List Q} {v:ag} {t:Tr} (h:bF nd l s r v=true) (h2:best nd l s r v=some t):jF nd l s r v=(t,0):=by unfold jF;rw [if_pos h,h2]
end K
def W_ (w w':World) (y:K.Tr × Int) (e:Ending):Prop :=
 (∃ A n c A' n' c',e=.returned (.tuple #[.agg #[.int .i64 0,.slice A n c,.slice A' n' c',.int .i64 y.1.end_],.int .i64 y.2])/\Ints w' A n y.1.stops/\Ints w' A' n' y.1.times/\(∀ ad,A=some ad->w.heap.size<=ad.block)/\(∀ ad,A'=some ad->w.heap.size<=ad.block)/\n<=c/\n'<=c')/\af w w'
theorem acW {w w':World} {er:Int} {y:K.Tr × Int} (h:y=(K.Tr.zero,er)) (hb:af w w'):W_ w w' y (.returned (.tuple #[.agg #[.int .i64 0,.slice none 0 0,.slice none 0 0,.int .i64 0],.int .i64 er])):=by
 subst h;exact ⟨⟨none,0,0,none,0,0,rfl,iQ _,iQ _,λad e=>(nomatch e),λad e=>(nomatch e),zG _,zG _⟩,hb⟩
theorem ig.afd {w w1 w2:World} {mb gb gf:Nat} (h:af w w1) (h2:ig w1 w2 mb gb gf) (h3:w.heap.size<=mb) (h4:w.heap.size<=gb) (h5:w.heap.size<=gf):af w w2 :=
 ⟨h2.os.trans h.os,h2.tape.trans h.tape,h2.output.trans h.output,aN h.size h2.size,λk hk=>(h2.block k (dO hk h.size) (by omega) (by omega) (by omega)).trans (h.block k hk)⟩
theorem afg (x:C) (V:aj) (vn vc:Nat) (v:ag) (w:World) (hx:At w x) (hV:Ints w V vn v) (jV:vn<=vc) (hvn:vn<=1000000000) :
  ay 125 #[.agg #[.int .i64 x.nd,.slice x.A x.n x.c],fG x.s,.slice x.B x.m x.d,.slice V vn vc] w λe w'=>W_ w w' (K.jF x.nd x.l x.s x.r v) e:=by
 obtain ⟨w0,hw0⟩:=zB (((w.alloc (.cells #[.int .i64 x.nd,.slice x.A x.n x.c] 24)).alloc (.cells #[.int .i64 x.s.day,.int .i64 x.s.ax,.int .i64 x.s.start,.int .i64 x.s.end_,.int .i64 x.s.aU,.slice x.s.A x.s.n x.s.c] 63)).alloc (.cells #[.int .i64 0,.slice none 0 0,.slice none 0 0,.int .i64 0] 80));have b0:af w w0:=by rw [hw0];exact bel (bel (ai.alloc (zG _) _) (ai.alloc (zG _) _)) (ai.alloc (zG _) _)
 have z1:=aF w (.cells #[.int .i64 x.nd,.slice x.A x.n x.c] 24);have z2:=aF (w.alloc (.cells #[.int .i64 x.nd,.slice x.A x.n x.c] 24)) (.cells #[.int .i64 x.s.day,.int .i64 x.s.ax,.int .i64 x.s.start,.int .i64 x.s.end_,.int .i64 x.s.aU,.slice x.s.A x.s.n x.s.c] 63);have hR:kZ w0 (w.heap.size + 1 + 1) (.slice none 0 0) (.slice none 0 0) 0:=by rw [hw0];exact bU _ _ _ (by rw [z2,z1])
 have hS:bI w0 (w.heap.size + 1) x.s:=by
  have h:=(bI.new (w.alloc (.cells #[.int .i64 x.nd,.slice x.A x.n x.c] 24)) x.s).below (ai.alloc (zG _) (.cells #[.int .i64 0,.slice none 0 0,.slice none 0 0,.int .i64 0] 80));rw [z1] at h;rw [hw0];exact h
 have hN:Net w0 w.heap.size x.nd x.A x.n x.c:=by
  rw [hw0];exact (Net.new w x.nd x.A x.n x.c).below (bel (ai.alloc (zG _) _) (ai.alloc (zG _) _))
 have p0:=hN.c0;have p1:=hN.c1;obtain ⟨s0,s1,s2,s3,s4,s5⟩:=hS.cells;rw [hw0] at p0 p1 s0 s1 s2 s3 s4 s5;go_enter Tryz.func125,Tryz.ntmps125;go_wp2_with fail;rw [<-hw0];refine (Vl x V vn vc v _ (hx.below b0) (hV.below b0) jV hvn).mono ?_;rintro e w1 ⟨hret,b1⟩;have hb:=bel b0 b1;have hsz:=b0.size;have hR0:=lt_of_block hR;have hR1:=hR.below b1 hR0;have hS1:=hS.below b1;clear p0 p1 s0 s1 s2 s3 s4 s5 hw0 z1 z2 hR hS hN;rcases hret with ⟨hok,rfl⟩ | ⟨b,mb,rfl,hbb,hbm,hP⟩
 ·have HX:=zC (K.XV hok);clear hok;obtain ⟨r0,r1,r2,r3⟩:=hR1.cells;have f0:=hR1.free 0;have f1:=hR1.free 1;have f2:=hR1.free 2;have f3:=hR1.free 3;go_wp2_with fail;refine jc (v:=.tuple #[.agg #[.int .i64 0,.slice none 0 0,.slice none 0 0,.int .i64 0],.int .i64 1]) ?_ rfl ?_
  ·obtain ⟨z0,z1,z2,z3⟩:=(hR1.set (.slice none 0 0) (.slice none 0 0) 0).cells;rw [results_cell_tmp rfl];simp [go_sem,z0,z1,z2,z3]
  ·exact acW HX.out (mX hb (by omega) _ _ _ _)
 ·obtain ⟨gb,hgb⟩:=zB w1.heap.size;obtain ⟨gf,hgf⟩:=zB (w1.heap.size + 1);have hpp:=hP (λg=>g=gb\/g=gf);clear hP;have hok:K.bF x.nd x.l x.s x.r v=true:=hpp.ok;obtain ⟨hne,hck,hdp,hrq,dP,hgo⟩:=K.jl hok;obtain ⟨-,⟨d0,d1⟩,st0,st1,tC⟩:=K.tu hck;obtain ⟨w2,hw2⟩:=zB ((w1.alloc (.cells #[.int .i64 0,.slice none 0 0,.slice none 0 0,.int .i64 0] 80)).alloc (.cells #[.bool false] 4));have hza:=aF w1 (.cells #[.int .i64 0,.slice none 0 0,.slice none 0 0,.int .i64 0] 80);have b12:af w1 w2:=by rw [hw2];exact bel (ai.alloc (zG _) _) (ai.alloc (zG _) _)
  have hB2:qQ w2 gb gf none:=⟨by rw [hw2,hgf];exact bU _ _ _ hza.symm,none,0,0,none,0,0,0,by rw [hw2,hgb];exact aO (aA _ _) _,λb e=>(nomatch e)⟩;have hz2:w2.heap.size=w1.heap.size + 1 + 1:=by rw [hw2,aF,hza]
  have jA:mW w1 w2 mb gb gf ⟨x,V,vn,vc,v⟩ (λg=>g=gb\/g=gf) none:=⟨Ext.below b12,hpp.memo.below b12,hB2⟩
  have CT:ay 173 #[.pointer (some ⟨b,0,none⟩),.agg #[.int .i64 0,.int .i64 x.s.ax,.int .i64 x.s.start,.slice none 0 0,.slice none 0 0],.pointer (some ⟨gb,0,none⟩),.pointer (some ⟨gf,0,none⟩)] w2
    λe w'=>Gj w2 w' mb gb gf ⟨x,V,vn,vc,v⟩ (λg=>g=gb\/g=gf) (K.best x.nd x.l x.s x.r v) e :=
   try_any b mb gb gf ⟨x,V,vn,vc,v⟩ w1 hpp (by omega) (by omega) (.inl rfl) (.inr rfl) (2 ^ v.length) ⟨0,x.s.ax,x.s.start,[],[]⟩ none none 0 0 none 0 0 w2 jA (λg hg=>by omega)
    ⟨iQ _,iQ _,λad e=>(nomatch e),λad e=>(nomatch e),Nat.two_pow_pos _,zG _,rfl,⟨d0,hdp⟩,⟨st0,by show x.s.start<=1000000;omega⟩⟩ (by
     have h9:(⟨x,V,vn,vc,v⟩:PS).n=v.length:=hV.1;rw [h9];exact Nat.le_add_left _ _)
  have hR2:=hR1.below b12 (lt_of_block hR1);have hS2:=hS1.below b12;obtain ⟨s0,s1,s2,s3,s4,s5⟩:=hS2.cells;have aY:=zC hok;have hRl:=lt_of_block hR1;have aht:w.heap.size + 1 + 1 < gb:=by omega
  clear hok hne hck hdp hrq dP hgo d0 d1 st0 st1 tC hB2 hza hR1 hS1;rw [hw2,hgb,hgf] at CT;rw [hw2] at s0 s1 s2 s3 s4 s5;go_wp2_with fail;refine CT.mono ?_;rw [<-hw2,<-hgf,<-hgb];rintro e w3 ⟨rfl,hB3,mG,ng⟩;have oD:kZ w3 (w.heap.size + 1 + 1) (.slice none 0 0) (.slice none 0 0) 0:=(hB3.block _ (by omega) (by omega) (by omega) (by omega)).trans hR2;have hb3:af w w3:=ig.afd (bel hb b12) hB3 (by omega) (by omega) (by omega);clear CT s0 s1 s2 s3 s4 s5 hS2 hR2 hw2 hgb hgf jA hpp;obtain ⟨A0,n0,c0,A1,n1,c1,e0,hT,rF⟩:=ng.blk;have ff:=ah ng.found 0 _ rfl;obtain ⟨r0,r1,r2,r3⟩:=oD.cells;have f0:=oD.free 0;have f1:=oD.free 1;have f2:=oD.free 2;have f3:=oD.free 3;cases B_:K.best x.nd x.l x.s x.r v with
  | none =>
   have HX:=zC (K.Qv aY.out B_);rw [B_] at ff;clear rF B_;go_wp2_with fail;refine jc (v:=.tuple #[.agg #[.int .i64 0,.slice none 0 0,.slice none 0 0,.int .i64 0],.int .i64 4]) ?_ rfl ?_
   ·obtain ⟨z0,z1,z2,z3⟩:=(oD.set (.slice none 0 0) (.slice none 0 0) 0).cells;rw [results_cell_tmp rfl];simp [go_sem,z0,z1,z2,z3]
   ·exact acW HX.out (mX hb3 (by omega) _ _ _ _)
  | some bt =>
   have HX:=zC (K.KD aY.out B_);obtain ⟨hI,hJ,he,hA,hA',hk0,hk1⟩:=rF bt B_;subst he;rw [B_] at ff;clear rF B_;obtain ⟨t0,t1,t2,t3⟩:=hT.cells;go_wp2_with fail;refine jc (v:=.tuple #[.agg #[.int .i64 0,.slice A0 n0 c0,.slice A1 n1 c1,.int .i64 bt.end_],.int .i64 0]) ?_ rfl ?_
   ·obtain ⟨z0,z1,z2,z3⟩:=(oD.set (.slice A0 n0 c0) (.slice A1 n1 c1) bt.end_).cells;rw [results_cell_tmp rfl];simp [go_sem,z0,z1,z2,z3]
   ·rw [HX.out];have hne1:∀ ad,A0=some ad->ad.block ≠ w.heap.size + 1 + 1:=λad e=>by have:=hA ad e;omega
    have hne2:∀ ad,A1=some ad->ad.block ≠ w.heap.size + 1 + 1:=λad e=>by have:=hA' ad e;omega
    exact ⟨⟨A0,n0,c0,A1,n1,c1,rfl,(((hI.set _ hne1).set _ hne1).set _ hne1).set _ hne1,(((hJ.set _ hne2).set _ hne2).set _ hne2).set _ hne2,λad e=>(by have:=hA ad e;omega),λad e=>(by have:=hA' ad e;omega),hk0,hk1⟩,mX hb3 (by omega) _ _ _ _⟩
end Go.Proofs.YtippdjmpkafifaaGreat
