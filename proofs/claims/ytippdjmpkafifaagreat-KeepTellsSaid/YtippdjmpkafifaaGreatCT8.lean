import Derived.Test.YtippdjmpkafifaaGreatCT7
import Derived.Laws.ResultCell
set_option maxRecDepth 100000
set_option maxHeartbeats 64000000
namespace Go.Proofs.YtippdjmpkafifaaGreat
open Go.RowKit
theorem try_any (b mb gb gf:Nat) (p:PS) {X:Nat->Prop} (wp:World) (hpp:bP wp b mb p X) (hgb:wp.heap.size<=gb) (hgf:wp.heap.size<=gf) (rU:X gb) (yR:X gf):∀ (f:Nat) (st:K.St) (best:Option K.Tr) (SA:Option Addr) (sn sc:Nat) (TA:Option Addr) (tn tc:Nat) (w:World),jY wp w mb gb gf p X best->(∀ g,X g->g < w.heap.size) ->
  tK w p gb gf st SA sn TA tn->2 ^ p.n<=st.bits + f ->
  Calls Tryz.prog 173 #[.pointer (some ⟨b,0,none⟩),.agg #[.int .i64 (st.bits:Int),.int .i64 st.a,.int .i64 st.t,.slice SA sn sc,.slice TA tn tc],.pointer (some ⟨gb,0,none⟩),.pointer (some ⟨gf,0,none⟩)] w
   λe w'=>Dv w w' mb gb gf p X (K.bK p.x.nd p.x.l p.x.s p.x.r p.l f st best) e:=by
 intro f;induction f with
 | zero=>intro st best SA sn sc TA tn tc w hW hX hS hf;exact absurd hS.bits (by omega)
 | succ f ih =>
  intro st best SA sn sc TA tn tc w hW hX hS hf;have IH:=zC ih;clear ih;have hp:=hW.pat hpp;have hHm:w.heap.size ≠ mb:=λe=>by have h1:=hpp.memo.lt;have h2:=hW.ext.size;omega
  have AL:w.heap.size ≠ gb:=λe=>by have:=hX gb rU;omega
  have Og:w.heap.size ≠ gf:=λe=>by have:=hX gf yR;omega
  obtain ⟨w1,hw1⟩:=zB (w.alloc (.cells #[.int .i64 (st.bits:Int),.int .i64 st.a,.int .i64 st.t,.slice SA sn sc,.slice TA tn tc] 208));have b1:=zA hw1;have hG:lF w1 w.heap.size st SA sn sc TA tn tc:=by rw [hw1];exact heap_alloc_new _ _
  have hW1:=hW.below b1;obtain ⟨A0,n0,c0,A1,n1,c1,e0,hT,oK⟩:=hW1.best.blk;obtain ⟨g0,g1,g2,g3,g4⟩:=hG.cells;have f0:=af hW1.best.found 0 (.bool best.isSome) rfl;have u3:=hT.cells.2.2.2;cases hl:K.late best st.t;rotate_left
  ·have HX:=zC (show K.bK p.x.nd p.x.l p.x.s p.x.r p.l (f + 1) st best=best by rw [K.bK,if_pos hl]);obtain ⟨bt,hbt,hle⟩:∃ bt,best=some bt/\bt.end_<=st.t:=by
    cases best with
    | none=>simp [K.late] at hl
    | some bt=>exact ⟨bt,rfl,by simpa [K.late] using hl⟩
   have he0:e0=bt.end_:=(oK bt hbt).2.2.1;have q1:decide (e0<=st.t)=true:=by simp;omega
   have q2:best.isSome=true:=by rw [hbt];rfl
   have hq:e0<=st.t:=by omega
   rw [q2] at f0;clear hl hbt oK he0;rw [hw1] at g0 g1 g2 g3 g4 f0 u3;go_enter Tryz.func173,Tryz.ntmps173;go_wp2_with fail;rw [<-hw1] at g0 g1 g2 g3 g4 f0 u3 ⊢;have F0:=ah.cell f0;have G2:=ah.cell g2;have U3:=ah.cell u3;refine dU (by kernel_rfl) (by kernel_rfl) ?_;repeat (go_big_quiet_step (fail))
   refine wpQuiet_nil ?_;rintro w5 ⟨⟨_,aU⟩,rfl⟩;have b5:=bel b1 aU;have hfin:Dv w w5 mb gb gf p X best (.returned (.tuple #[])):=⟨rfl,(eu.refl w _ _ _).below b5,hW.memo.below b5,hW.best.ext (Ext.below b5)⟩;go_wp2_with fail;first | refine bodyPost_ret (results_none rfl _ _ _) rfl ?_ | refine bodyPost_end (results_none rfl _ _ _) rfl ?_
   rw [HX.out];exact hfin
  ·rw [hw1] at g0 g1 g2 g3 g4 f0 u3;go_enter Tryz.func173,Tryz.ntmps173;go_wp2_with fail;rw [<-hw1] at g0 g1 g2 g3 g4 f0 u3 ⊢;go_cut [27] from 16 to 27 (λv27 wc=>v27=.bool false/\Below w1.heap.size w1 wc)
   case first =>
    have F0:=ah.cell f0;have G2:=ah.cell g2;have U3:=ah.cell u3;obtain ⟨z,hz⟩:=zB best.isSome;have Qo:z=true->decide (e0<=st.t)=false:=λh=>by
     cases best with
     | none=>rw [h] at hz;cases hz
     | some bt =>
      have h1:=(oK bt rfl).2.2.1;have h2:decide (bt.end_<=st.t)=false:=hl;rw [h1];exact h2
    rw [<-hz] at F0;clear hz f0 g2 u3 hl oK;cases z
    ·clear Qo;refine dU (by kernel_rfl) (by kernel_rfl) ?_;repeat (go_big_quiet_step (fail))
     refine wpQuiet_nil ?_;rintro w5 ⟨⟨_,aU⟩,rfl⟩;go_wp2_with fail;go_meet
     case rel=>exact ⟨rfl,aU⟩
    ·have hq:=Qo rfl;clear Qo;refine dU (by kernel_rfl) (by kernel_rfl) ?_;repeat (go_big_quiet_step (fail))
     refine wpQuiet_nil ?_;rintro w5 ⟨⟨_,aU⟩,rfl⟩;go_wp2_with fail;go_meet
     case rel=>exact ⟨rfl,aU⟩
   case rest =>
    obtain ⟨rfl,hbc⟩:=hcut;clear g0 g1 g2 g3 g4 f0 u3 hw1;have hb:=bel b1 hbc;have hG:=lF.cells (az hbc hG:lF wc w.heap.size st SA sn sc TA tn tc);have um:lF wc w.heap.size st SA sn sc TA tn tc:=az hbc (by assumption);have hWc:=hW.below hb;have hpc:=hWc.pat hpp;have HL:=zC hl;have kH:p.n<=6:=by have:=(K.fU hp.ok).2.2.2.2.1;have:=hp.set.1;omega
    obtain ⟨N,hN⟩:∃ N,N=2 ^ p.n:=⟨_,rfl⟩;have hN1:1<=N:=by rw [hN];exact Nat.two_pow_pos _
    have DT:N<=64:=by rw [hN];exact Nat.pow_le_pow_right (by omega) kH
    have hw1:IntKind.i64.wrap ((2:Int) ^ p.n)=(N:Int):=by rw [pz (by omega),hN];simp
    have hw2:wrap64 ((2:Int) ^ p.n)=(N:Int):=by rw [<-IntWalk.i64_left];exact hw1
    have HN:=zC hN;have Pg:st.bits < N:=by rw [hN];exact hS.bits
    have hf:N<=st.bits + (f + 1):=by rw [hN];exact hf
    have afD:=hS.len;have hsl:sn<=64:=by rw [hS.stops.1];omega
    have htl:tn<=64:=by rw [hS.times.1,hS.JD];omega
    clear afD;obtain ⟨akP,hst1⟩:=hS.t0;clear hN hl oK hT hW1 hbc;obtain ⟨al,hal⟩:=zB (N - 1);have hw3:IntKind.i64.wrap ((N:Int) - 1)=(al:Int):=by rw [IntWalk.i64_in _ (by omega)];omega
    have hw4:wrap64 ((N:Int) - 1)=(al:Int):=by rw [<-IntWalk.i64_left];exact hw3
    have qN:=zC hal;clear hal;have G0:=ah.cell um.cells.1;have G9:=ah.cell hpc.blk.cells.2.2.2.2.2.2.2.2.2.1;obtain ⟨z,hz⟩:∃ z:Bool,((st.bits:Int) == (al:Int))=z:=⟨_,rfl⟩;go_wp2_with fail;refine dU (by kernel_rfl) (by kernel_rfl) ?_;repeat (go_big_quiet_step (fail))
    refine wpQuiet_nil ?_;rintro w5 ⟨⟨_,aU⟩,rfl⟩;have HZ:=zC hz;have hb:=bel hb aU;have um:lF w5 w.heap.size st SA sn sc TA tn tc:=az aU um;have hWc:=hWc.below aU;have hpc:=hpc.below aU;have A_:∀ g,X g->g < w5.heap.size:=λg hg=>Nat.lt_of_lt_of_le (hX g hg) hb.size;have hwt:(Lit.int .i64 (T.weight p.x.s p.x.r (K.part p.l st.bits))).wf=true:=T.Su (by have:=K.nN p.l st.bits;have:=(K.fU hp.ok).2.2.2.2.1;omega);have dF:=(eu.refl w mb gb gf).below hb;have hS5:=hS.ext (Ext.below hb);clear hz G0 G9 aU hG hb hp hW;cases z
    ·have HS:=zC (show K.bK p.x.nd p.x.l p.x.s p.x.r p.l (f + 1) st best=K.bK.go (K.bK p.x.nd p.x.l p.x.s p.x.r p.l f) p.x.nd p.x.l p.x.s p.x.r p.l st best 0 p.l by
      rw [K.bK,if_neg (by rw [HL.out];simp),if_neg (by have h1:¬ (st.bits:Int)=(al:Int):=(by simpa using HZ.out);rw [<-hpc.set.1,<-HN.out,<-qN.out];omega)])
     have c9:=hpc.blk.cells.2.2.2.2.2.2.2.2.2.1;clear HZ HL hw1 hw2 hw3 hw4;go_wp2_with fail
     go_loopw [102] (λRY wr=>∃ (k:Nat) (bk:Option K.Tr),RY=.int .i64 k/\k<=p.n/\jY wp wr mb gb gf p X bk/\eu w wr mb gb gf/\lF wr w.heap.size st SA sn sc TA tn tc/\tK wr p gb gf st SA sn TA tn /\
      Hid (K.bK p.x.nd p.x.l p.x.s p.x.r p.l (f + 1) st best=K.bK.go (K.bK p.x.nd p.x.l p.x.s p.x.r p.l f) p.x.nd p.x.l p.x.s p.x.r p.l st bk k (p.l.drop k))) (λRY _=>p.n - (intOf RY).toNat)
     case atStart=>exact ⟨0,best,rfl,by omega,hWc,dF,um,hS5,HS⟩
     case round =>
      clear c9 HS hWc dF um hS5 hpc A_;obtain ⟨k,bk,rfl,hk,yQ,hBr,rG,hSr,hgo⟩:=hrel;have D9:∀ g,X g->g < wr.heap.size:=λg hg=>Nat.lt_of_lt_of_le (hX g hg) hBr.size;have hpr:=yQ.pat hpp;by_cases hlt:k < p.n
      ·obtain ⟨j,q,hel,hno,hse,-⟩:=hpr.elem hlt;obtain ⟨au,ad,hA,hB,-,y0,e0,e1,e2,e3,-⟩:=hel.cells hpr;have k0:(0:Int)<=(k:Int):=by omega
       have k1:(k:Int) < (p.n:Int):=by omega
       have hpw:=Nat.two_pow_pos k;obtain ⟨l0,l1,l2,l3,l4⟩:=rG.cells;have HA:=zC hA;have HB:=zC hB;rw [hA];clear hA hB e0 e1 e2 e3;cases hbit:st.bits.testBit k;rotate_left
       ·have hb1:bits BinOp.and IntKind.i64 ((st.bits:Int) / 2 ^ k) 1=1:=by rw [lI (by omega) (by omega),hbit];rfl
        have HG:=zC (hgo.out.trans (K.NS hel.set (by unfold K.iG;rw [if_pos hbit])));clear hbit;go_wp2_with fail;go_roundw
        case rel=>exact ⟨k + 1,bk,by go_num,by omega,yQ,hBr,rG,hSr,HG⟩
        case measure=>simp [intOf];omega
       ·have hb1:bits BinOp.and IntKind.i64 ((st.bits:Int) / 2 ^ k) 1=0:=by rw [lI (by omega) (by omega),hbit];rfl
        have vH:=zC hbit;clear hbit;obtain ⟨dn,hdn⟩:∃ dn:Nat,q.node=(dn:Int):=⟨q.node.toNat,by omega⟩;have zW:=zC hdn;clear hdn;have hWd:=yQ.below (w':=wr.drew) (Below.refl _ _).drew;have kJ:=hWd.pat hpp;have CN:=Fg b mb p k j q wr.drew kJ hel;have hS3:∀ w',Ext wr w'->(w'.cell? ⟨w.heap.size,0,none⟩=some (.int .i64 (st.bits:Int))/\w'.cell? ⟨w.heap.size,1,none⟩=some (.int .i64 st.a)):=λw' h=>⟨h.cell rG.cells.1,h.cell rG.cells.2.1⟩;have S0:=hS3 wr (Ext.refl _);have aW:=hS3 wr.drew (Ext.below (Below.refl wr.heap.size wr).drew);have afT:=hwt;have ha0:=hS.a0;have hbd:Below wr.heap.size wr wr.drew:=(Below.refl _ _).drew;clear l1 l2 l3 l4;go_wp2_with fail
        go_region_held3 (λw'=>(w'.cell? ⟨w.heap.size,0,none⟩=some (.int .i64 (st.bits:Int))/\w'.cell? ⟨w.heap.size,1,none⟩=some (.int .i64 st.a)))
         (first | assumption | exact S0 | exact aW)
         (first
          | (go_at_call 142;refine CN.mono ?_;rintro e w6 ⟨rfl,b6⟩;have hb6:=bel hbd b6;have rP:=yQ.below hb6;have S6:=hS3 w6 (Ext.below hb6))
          | (go_at_call 141;refine (Sj b mb p st.a dn st.bits w6 (rP.pat hpp) (λg hg=>Nat.lt_of_lt_of_le (D9 g hg) hb6.size) (by omega) ha0 zW.out hno.2 hwt).mono ?_;rintro e w7 ⟨rfl,IY⟩;have hx7:=(Ext.below hb6).trans (IY.ext (rP.pat hpp));have S7:=hS3 w7 hx7)
          | fail)
        have qm:=rP.went hpp IY;have jD:=(hBr.below hb6).trans (eu.of IY.1);have nC:lF w7 w.heap.size st SA sn sc TA tn tc:=hx7.cells _ _ _ _ rG;have hS7:=hSr.ext hx7;have IZ:∀ g,X g->g < w7.heap.size:=λg hg=>Nat.lt_of_lt_of_le (hX g hg) jD.size;obtain ⟨hy0,hy1⟩:=K.iJ p.x.nd p.x.l st.a (T.weight p.x.s p.x.r (K.part p.l st.bits)) q.node;obtain ⟨y,hy⟩:=zB (K.way p.x.nd p.x.l st.a (T.weight p.x.s p.x.r (K.part p.l st.bits)) q.node)
        have hon:K.iG p.x.nd p.x.l p.x.s p.x.r p.l st k (j:Int)=(if y=-1 then none else if (K.begins p.x.s p.x.r q (K.part p.l (st.bits + 2 ^ k)) (st.t + y)).2=false then none
          else some ⟨st.bits + 2 ^ k,q.node,(K.begins p.x.s p.x.r q (K.part p.l (st.bits + 2 ^ k)) (st.t + y)).1 + q.service,st.stops ++ [(j:Int)],st.times ++ [(K.begins p.x.s p.x.r q (K.part p.l (st.bits + 2 ^ k)) (st.t + y)).1]⟩):=by
         unfold K.iG;rw [K.jH hel.req,if_neg (by rw [vH.out];simp),<-hy]
        rw [<-hy] at hy0 hy1 ⊢;have LU:=zC hon;clear hy hon CN S0 aW S6 S7 hS3 rP hb6 b6 hx7 hWd kJ hbd IY afT hb1 l0 yQ hBr rG hSr D9 hpr;cases q0:(y != -1)
        ·have HG:=zC (hgo.out.trans (K.NS hel.set (by rw [LU.out,if_pos (by simpa using q0)])));clear q0;go_wp2_with fail;go_roundw
         case rel=>exact ⟨k + 1,bk,by go_num,by omega,qm,jD,nC,hS7,HG⟩
         case measure=>simp [intOf];omega
        ·have hyn:¬ y=-1:=by simpa using q0
         have hwr:IntKind.i64.wrap (st.t + y)=st.t + y:=IntWalk.i64_in _ (by omega);have hlt2:st.bits + 2 ^ k < N:=by rw [HN.out];exact U4 kH (by rw [<-HN.out];exact Pg) hlt vH.out
         obtain ⟨l0,l1,l2,l3,l4⟩:=nC.cells;have CB:=aal b mb p st.bits k j q (st.t + y) w7 (qm.pat hpp) hel (by omega) vH.out (by omega) hse;unfold Gf at CB;have hok:=K.tZ (s:=p.x.s) (r:=p.x.r) (q:=q) (all:=K.part p.l (st.bits + 2 ^ k)) (arr:=st.t + y);obtain ⟨B,N8⟩:=zB (K.begins p.x.s p.x.r q (K.part p.l (st.bits + 2 ^ k)) (st.t + y));rw [<-N8] at CB hok;have LV:=zC (show K.iG p.x.nd p.x.l p.x.s p.x.r p.l st k (j:Int)=(if B.2=false then none else some ⟨st.bits + 2 ^ k,q.node,B.1 + q.service,st.stops ++ [(j:Int)],st.times ++ [B.1]⟩) by rw [LU.out,if_neg hyn,<-N8]);have aJ:=zC hok;obtain ⟨t,ok⟩:=B;clear N8 hok LU q0;simp only at CB;go_wp2_with fail;refine CB.mono ?_;rintro e w8 ⟨rfl,b8⟩;have yP:=qm.below b8;have yz:=jD.below b8;have Iz:lF w8 w.heap.size st SA sn sc TA tn tc:=az b8 nC;have IL:=hS7.ext (Ext.below b8);have OU:∀ g,X g->g < w8.heap.size:=λg hg=>Nat.lt_of_lt_of_le (hX g hg) yz.size;clear l0 l1 l2 l3 l4 CB qm jD nC hS7 IZ b8;cases ok
         ·have HG:=zC (hgo.out.trans (K.NS hel.set (by rw [LV.out];rfl)));go_wp2_with fail;go_roundw
          case rel=>exact ⟨k + 1,bk,by go_num,by omega,yP,yz,Iz,IL,HG⟩
          case measure=>simp [intOf];omega
         ·obtain ⟨-,-,-,t0,t1,t2,t3⟩:=aJ.out rfl;obtain ⟨mm,hmm⟩:=zB (st.bits + 2 ^ k);have hor:bits BinOp.or IntKind.i64 (st.bits:Int) (IntKind.i64.wrap (2 ^ k))=(mm:Int):=by rw [pz (by omega),Hy (by omega) (by omega) vH.out,hmm]
          have Yk:bits BinOp.or IntKind.i64 (st.bits:Int) (wrap64 (2 ^ k))=(mm:Int):=by rw [<-IntWalk.i64_left];exact hor
          have hwr2:IntKind.i64.wrap (t + q.service)=t + q.service:=IntWalk.i64_in _ (by omega);obtain ⟨best',O_⟩:=zB (K.bK p.x.nd p.x.l p.x.s p.x.r p.l f ⟨mm,q.node,t + q.service,st.stops ++ [(j:Int)],st.times ++ [t]⟩ bk);have HG:=zC (show K.bK p.x.nd p.x.l p.x.s p.x.r p.l (f + 1) st best=K.bK.go (K.bK p.x.nd p.x.l p.x.s p.x.r p.l f) p.x.nd p.x.l p.x.s p.x.r p.l st best' (k + 1) (p.l.drop (k + 1)) by
           rw [hgo.out,K.aeF hel.set LV.out,O_,hmm])
          have CT:∀ (A3:Option Addr) (c3:Nat) (A5:Option Addr) (c5:Nat) (w5:World),Below w8.heap.size w8 w5->Ints w5 A3 (sn + 1) (st.stops ++ [(j:Int)])->Ints w5 A5 (tn + 1) (st.times ++ [t])->(∀ ad,A3=some ad->w8.heap.size<=ad.block)->(∀ ad,A5=some ad->w8.heap.size<=ad.block) ->
            Calls Tryz.prog 173 #[.pointer (some ⟨b,0,none⟩),.agg #[.int .i64 (mm:Int),.int .i64 q.node,.int .i64 (t + q.service),.slice A3 (sn + 1) c3,.slice A5 (tn + 1) c5],.pointer (some ⟨gb,0,none⟩),.pointer (some ⟨gf,0,none⟩)] w5
             λe w'=>Dv w5 w' mb gb gf p X best' e:=λA3 c3 A5 c5 w5 h1 h2 h3 h4 h5=>by
           rw [O_];have ae8:=OU gb rU;have aku:=OU gf yR;refine IH.out ⟨mm,q.node,t + q.service,st.stops ++ [(j:Int)],st.times ++ [t]⟩ bk A3 (sn + 1) c3 A5 (tn + 1) c5 w5 (yP.below h1) (λg hg=>Nat.lt_of_lt_of_le (OU g hg) h1.size) ⟨h2,h3,λad e=>by have:=h4 ad e;omega,λad e=>by have:=h5 ad e;omega,by show mm < 2 ^ p.n;rw [<-HN.out];omega,?_,?_,hno,⟨by show 0<=t + q.service;omega,by show t + q.service<=1000000;omega⟩⟩ (by show 2 ^ p.n<=mm + f;rw [<-HN.out];omega)
           ·have:=hS.len;simp only [List.length_append,List.length_cons,List.length_nil];omega
           ·have:=hS.JD;simp only [List.length_append,List.length_cons,List.length_nil];omega
          have hAl:∀ w' o',Below w8.heap.size w8 w'->Below w8.heap.size w8 (w'.alloc o'):=λw' o' h=>bel h ((Below.refl _ _).alloc (zG _) _);have hbd:Below w8.heap.size w8 w8.drew:=(Below.refl _ _).drew;have PO:∀ (w':World) (bk':Option K.Tr),jY wp w' mb gb gf p X bk'->lF w' w.heap.size st SA sn sc TA tn tc->(λ(w':World)=>w'.cell? ⟨w.heap.size,0,none⟩=some (.int .i64 (st.bits:Int))/\w'.cell? ⟨w.heap.size,3,none⟩=some (.slice SA sn sc)/\w'.cell? ⟨w.heap.size,4,none⟩=some (.slice TA tn tc)/\w'.cell? ⟨b,8,none⟩=some (.slice (some ad) p.x.m p.x.d)/\w'.cell? ⟨(ad.add (j * 7)).block,(ad.add (j * 7)).off + 3,none⟩=some (.int .i64 q.service)) w':=λw' bk' h1 h2=>by
           obtain ⟨Ux,ad',-,hB',-,-,-,-,-,e3,-⟩:=hel.cells (h1.pat hpp);rw [HB.out] at hB';injection hB' with hB';subst hB';have d8:=(h1.pat hpp).blk.cells.2.2.2.2.2.2.2.2.1;rw [HB.out] at d8;exact ⟨h2.cells.1,h2.cells.2.2.2.1,h2.cells.2.2.2.2,d8,e3⟩
          have hmk:∀ w',Below w8.heap.size w8 w'->(λ(w':World)=>w'.cell? ⟨w.heap.size,0,none⟩=some (.int .i64 (st.bits:Int))/\w'.cell? ⟨w.heap.size,3,none⟩=some (.slice SA sn sc)/\w'.cell? ⟨w.heap.size,4,none⟩=some (.slice TA tn tc)/\w'.cell? ⟨b,8,none⟩=some (.slice (some ad) p.x.m p.x.d)/\w'.cell? ⟨(ad.add (j * 7)).block,(ad.add (j * 7)).off + 3,none⟩=some (.int .i64 q.service)) w':=λw' h=>PO w' bk (yP.below h) (az h Iz);have hSo:∀ w' w'',Below w8.heap.size w8 w'->eu w' w'' mb gb gf->dH w'' mb p.x.nd p.x.l X->nS w'' gb gf best'->jY wp w'' mb gb gf p X best'/\eu w w'' mb gb gf/\lF w'' w.heap.size st SA sn sc TA tn tc/\tK w'' p gb gf st SA sn TA tn:=λw' w'' h h1 h2 h3 =>
           ⟨(yP.below h).but hpp hgb hgf h1 h2 h3,(yz.below h).trans h1,(h1.block _ (lt_of_block (az h Iz)) hHm AL Og).trans (az h Iz),(IL.ext (Ext.below h)).but (yP.below h).memo h1⟩
          have mD:∀ w' w'',Below w8.heap.size w8 w'->eu w' w'' mb gb gf->dH w'' mb p.x.nd p.x.l X->nS w'' gb gf best'->(λ(w':World)=>w'.cell? ⟨w.heap.size,0,none⟩=some (.int .i64 (st.bits:Int))/\w'.cell? ⟨w.heap.size,3,none⟩=some (.slice SA sn sc)/\w'.cell? ⟨w.heap.size,4,none⟩=some (.slice TA tn tc)/\w'.cell? ⟨b,8,none⟩=some (.slice (some ad) p.x.m p.x.d)/\w'.cell? ⟨(ad.add (j * 7)).block,(ad.add (j * 7)).off + 3,none⟩=some (.int .i64 q.service)) w'':=λw' w'' h h1 h2 h3=>PO w'' best' (hSo w' w'' h h1 h2 h3).1 (hSo w' w'' h h1 h2 h3).2.2.1;have dw:∀ (w':World) (o':Obj),(λ(w':World)=>w'.cell? ⟨w.heap.size,0,none⟩=some (.int .i64 (st.bits:Int))/\w'.cell? ⟨w.heap.size,3,none⟩=some (.slice SA sn sc)/\w'.cell? ⟨w.heap.size,4,none⟩=some (.slice TA tn tc)/\w'.cell? ⟨b,8,none⟩=some (.slice (some ad) p.x.m p.x.d)/\w'.cell? ⟨(ad.add (j * 7)).block,(ad.add (j * 7)).off + 3,none⟩=some (.int .i64 q.service)) w'->(λ(w':World)=>w'.cell? ⟨w.heap.size,0,none⟩=some (.int .i64 (st.bits:Int))/\w'.cell? ⟨w.heap.size,3,none⟩=some (.slice SA sn sc)/\w'.cell? ⟨w.heap.size,4,none⟩=some (.slice TA tn tc)/\w'.cell? ⟨b,8,none⟩=some (.slice (some ad) p.x.m p.x.d)/\w'.cell? ⟨(ad.add (j * 7)).block,(ad.add (j * 7)).off + 3,none⟩=some (.int .i64 q.service)) (w'.alloc o'):=λw' o' h=>by
           have hx:Ext w' (w'.alloc o'):=Ext.below ((Below.refl _ _).alloc (zG _) _);exact ⟨hx.cell h.1,hx.cell h.2.1,hx.cell h.2.2.1,hx.cell h.2.2.2.1,hx.cell h.2.2.2.2⟩
          have hSd:∀ (w':World),(λ(w':World)=>w'.cell? ⟨w.heap.size,0,none⟩=some (.int .i64 (st.bits:Int))/\w'.cell? ⟨w.heap.size,3,none⟩=some (.slice SA sn sc)/\w'.cell? ⟨w.heap.size,4,none⟩=some (.slice TA tn tc)/\w'.cell? ⟨b,8,none⟩=some (.slice (some ad) p.x.m p.x.d)/\w'.cell? ⟨(ad.add (j * 7)).block,(ad.add (j * 7)).off + 3,none⟩=some (.int .i64 q.service)) w'->(λ(w':World)=>w'.cell? ⟨w.heap.size,0,none⟩=some (.int .i64 (st.bits:Int))/\w'.cell? ⟨w.heap.size,3,none⟩=some (.slice SA sn sc)/\w'.cell? ⟨w.heap.size,4,none⟩=some (.slice TA tn tc)/\w'.cell? ⟨b,8,none⟩=some (.slice (some ad) p.x.m p.x.d)/\w'.cell? ⟨(ad.add (j * 7)).block,(ad.add (j * 7)).off + 3,none⟩=some (.int .i64 q.service)) w'.drew:=λw' h=>h;have hb0:Below w8.heap.size w8 w8:=Below.refl _ _;have hDr:∀ w',Below w8.heap.size w8 w'->Below w8.heap.size w8 w'.drew:=λw' h=>h.drew;have S0:=hmk _ (Below.refl _ _);have aW:=hmk _ hbd;have k2:(0:Int)<=(j:Int):=by omega
          have k3:(j:Int) < (p.x.m:Int):=by have:=(hel.lt (yP.pat hpp)).2;omega
          have Yz:sn<=1000000:=by omega
          have YD:tn<=1000000:=by omega
          clear hmm O_ IH hgo LV aJ HA hno hse hwt hwr;go_wp2_with fail
          go_region_held3 (λ(w':World)=>w'.cell? ⟨w.heap.size,0,none⟩=some (.int .i64 (st.bits:Int))/\w'.cell? ⟨w.heap.size,3,none⟩=some (.slice SA sn sc)/\w'.cell? ⟨w.heap.size,4,none⟩=some (.slice TA tn tc)/\w'.cell? ⟨b,8,none⟩=some (.slice (some ad) p.x.m p.x.d)/\w'.cell? ⟨(ad.add (j * 7)).block,(ad.add (j * 7)).off + 3,none⟩=some (.int .i64 q.service))
           (first | with_reducible exact S6 | with_reducible exact S5 | with_reducible exact S4 | with_reducible exact S3 | with_reducible exact S2 | with_reducible exact S1 | with_reducible exact aW | with_reducible exact S0 | with_reducible exact hSd _ (dw _ _ S0) | with_reducible exact hSd _ (dw _ _ (dw _ _ S0)) | with_reducible exact dw _ _ S1 | with_reducible exact dw _ _ (dw _ _ S1) | with_reducible exact dw _ _ S2 | with_reducible exact dw _ _ (dw _ _ S2) | with_reducible exact dw _ _ S3 | with_reducible exact dw _ _ S4 | fail)
           (first
            | (go_at_call 142;refine (Fg b mb p k j q _ ((yP.below ?_).pat hpp) hel).mono ?_;(first | with_reducible exact hbd | with_reducible exact hDr _ (hAl _ _ hb0) | with_reducible exact hDr _ (hAl _ _ (hAl _ _ hb0)));rintro e w1 ⟨rfl,yT⟩;have hb1:Below w8.heap.size w8 w1:=bel (by (first | with_reducible exact hbd | with_reducible exact hDr _ (hAl _ _ hb0) | with_reducible exact hDr _ (hAl _ _ (hAl _ _ hb0)))) yT;have S1:=hmk _ hb1;(first | (with_reducible (have hL1:=az yT (Ap (bI _ (.cells #[.int .i64 (j:Int)] 3) _ (World.size_alloc _ _).symm)))) | (with_reducible (have hL1:=az yT (Ap (heap_alloc_new _ (.cells #[.int .i64 (j:Int)] 3))))) | (with_reducible (have hL1:=az yT (Ap (bu (heap_alloc_new _ (.cells #[.int .i64 (j:Int)] 3)) (.cells #[.int .i64 t] 3))))) | skip);(first | (with_reducible (have hL2:=az yT (Ap (bI _ (.cells #[.int .i64 t] 3) _ (World.size_alloc _ _).symm)))) | (with_reducible (have hL2:=az yT (Ap (heap_alloc_new _ (.cells #[.int .i64 t] 3))))) | (with_reducible (have hL2:=az yT (Ap (bu (heap_alloc_new _ (.cells #[.int .i64 t] 3)) (.cells #[.int .i64 (j:Int)] 3))))) | skip))
            | (go_at_call_of 109 SA;refine (yw SA sn sc st.stops _ (IL.stops.below ?_) Yz).mono ?_;(first | with_reducible exact hb1 | with_reducible exact hAl _ _ hb1 | with_reducible exact hAl _ _ (hAl _ _ hb1));rintro e w2 ⟨⟨v2,rfl,hown2⟩,gX⟩;have hb2:Below w8.heap.size w8 w2:=bel (by (first | with_reducible exact hb1 | with_reducible exact hAl _ _ hb1 | with_reducible exact hAl _ _ (hAl _ _ hb1))) gX;have hs2:=UX (w:=w8) (by (first | with_reducible exact hb1 | with_reducible exact hAl _ _ hb1 | with_reducible exact hAl _ _ (hAl _ _ hb1))) gX;have S2:=hmk _ hb2;have hC2:=hown2.lt;(first | (with_reducible (have qg:=EZ gX hL2;have hL2:=az gX qg)) | (with_reducible (have qg:=EZ gX (bu hL2 _);have hL2:=az gX qg)) | (with_reducible (have qg:=EZ gX (bI _ (.cells #[.int .i64 t] 3) _ (World.size_alloc _ _).symm);have hL2:=az gX qg)) | (with_reducible (have qg:=EZ gX (heap_alloc_new _ (.cells #[.int .i64 t] 3));have hL2:=az gX qg)) | (with_reducible (have qg:=EZ gX (bu (heap_alloc_new _ (.cells #[.int .i64 t] 3)) (.cells #[.int .i64 (j:Int)] 3));have hL2:=az gX qg)) | skip);(first | (with_reducible (have hL1:=az gX hL1)) | (with_reducible (have hL1:=az gX (bu hL1 _))) | (with_reducible (have hL1:=az gX (bI _ (.cells #[.int .i64 (j:Int)] 3) _ (World.size_alloc _ _).symm))) | (with_reducible (have hL1:=az gX (heap_alloc_new _ (.cells #[.int .i64 (j:Int)] 3)))) | (with_reducible (have hL1:=az gX (bu (heap_alloc_new _ (.cells #[.int .i64 (j:Int)] 3)) (.cells #[.int .i64 t] 3)))) | skip))
            | (have ku:=hown2;clear hown2;refine abP rfl (.tmp 161) (.tmp 163) rfl ku gX.size rfl _ (j:Int) rfl ?_ ?_ Yz ?_;(first | with_reducible exact Below.refl _ _ | with_reducible exact ((Below.refl _ _).alloc (zG _) _) | with_reducible exact bel ((Below.refl _ _).alloc (zG _) _) ((Below.refl _ _).alloc (zG _) _));(first | with_reducible exact hL1 | with_reducible exact (bu hL1 _) | with_reducible exact (bI _ (.cells #[.int .i64 (j:Int)] 3) _ (World.size_alloc _ _).symm) | with_reducible exact (heap_alloc_new _ (.cells #[.int .i64 (j:Int)] 3)) | with_reducible exact (bu (heap_alloc_new _ (.cells #[.int .i64 (j:Int)] 3)) (.cells #[.int .i64 t] 3)));intro A3 c3 w3 yB hA3 PE O9;have hb3:Below w8.heap.size w8 w3:=Below.trans (by (first | with_reducible exact hb2 | with_reducible exact hAl _ _ hb2 | with_reducible exact hAl _ _ (hAl _ _ hb2))) (O9.mono hs2);have S3:=hmk _ hb3;(first | (with_reducible (have hL2:=(O9.block _ (lt_of_block qg)).trans hL2)) | (with_reducible (have hL2:=(O9.block _ (lt_of_block qg)).trans (bu hL2 _))) | (have hL2:=eX PE (bI _ (.cells #[.int .i64 t] 3) _ (World.size_alloc _ _).symm) (λe=>by have h9:=(hC2 _ e.symm).2;first | omega | (simp only [World.size_alloc] at h9;omega))) | (have hL2:=eX PE (heap_alloc_new _ (.cells #[.int .i64 t] 3)) (λe=>by have h9:=(hC2 _ e.symm).2;first | omega | (simp only [World.size_alloc] at h9;omega))) | (have hL2:=eX PE (bu (heap_alloc_new _ (.cells #[.int .i64 t] 3)) (.cells #[.int .i64 (j:Int)] 3)) (λe=>by have h9:=(hC2 _ e.symm).2;first | omega | (simp only [World.size_alloc] at h9;omega))) | skip))
            | (go_at_call_of 109 TA;refine (yw TA tn tc st.times _ (IL.times.below ?_) YD).mono ?_;(first | with_reducible exact hb3 | with_reducible exact hAl _ _ hb3 | with_reducible exact hAl _ _ (hAl _ _ hb3));rintro e w4 ⟨⟨v4,rfl,hown4⟩,qw⟩;have hb4:Below w8.heap.size w8 w4:=bel (by (first | with_reducible exact hb3 | with_reducible exact hAl _ _ hb3 | with_reducible exact hAl _ _ (hAl _ _ hb3))) qw;have hs4:=UX (w:=w8) (by (first | with_reducible exact hb3 | with_reducible exact hAl _ _ hb3 | with_reducible exact hAl _ _ (hAl _ _ hb3))) qw;have S4:=hmk _ hb4;have kX:=ints_at qw (by (first | with_reducible exact yB | with_reducible exact yB.below ((Below.refl _ _).alloc (zG _) _)));(first | (with_reducible (have hL2:=az qw hL2)) | (with_reducible (have hL2:=az qw (bu hL2 _))) | (with_reducible (have hL2:=az qw (bI _ (.cells #[.int .i64 t] 3) _ (World.size_alloc _ _).symm))) | (with_reducible (have hL2:=az qw (heap_alloc_new _ (.cells #[.int .i64 t] 3)))) | (with_reducible (have hL2:=az qw (bu (heap_alloc_new _ (.cells #[.int .i64 t] 3)) (.cells #[.int .i64 (j:Int)] 3)))) | skip))
            | (have ku:=hown4;clear hown4;refine abP rfl (.tmp 167) (.tmp 169) rfl ku qw.size rfl _ t rfl ?_ ?_ YD ?_;(first | with_reducible exact Below.refl _ _ | with_reducible exact ((Below.refl _ _).alloc (zG _) _) | with_reducible exact bel ((Below.refl _ _).alloc (zG _) _) ((Below.refl _ _).alloc (zG _) _));(first | with_reducible exact hL2 | with_reducible exact (bu hL2 _) | with_reducible exact (bI _ (.cells #[.int .i64 t] 3) _ (World.size_alloc _ _).symm) | with_reducible exact (heap_alloc_new _ (.cells #[.int .i64 t] 3)) | with_reducible exact (bu (heap_alloc_new _ (.cells #[.int .i64 t] 3)) (.cells #[.int .i64 (j:Int)] 3)));intro A5 c5 w5 fQ Iu hgr5 XB;have hb5:Below w8.heap.size w8 w5:=Below.trans (by (first | with_reducible exact hb4 | with_reducible exact hAl _ _ hb4 | with_reducible exact hAl _ _ (hAl _ _ hb4))) (XB.mono hs4);have S5:=hmk _ hb5;have gV:=kX _ (Below.trans (by (first | with_reducible exact qw | with_reducible exact bel qw ((Below.refl _ _).alloc (zG _) _))) XB))
            | (go_at_call 173;refine (CT A3 c3 A5 c5 w5 hb5 gV fQ (λad e=>Nat.le_trans hs2 (hA3 ad e)) (λad e=>Nat.le_trans hs4 (Iu ad e))).mono ?_;rintro e w6 ⟨rfl,fP,uq,dR⟩;have akr:=hb5;have S6:=mD _ _ hb5 fP uq dR)
            | fail)
          all_goals (
           obtain ⟨AZ,kF,hG9,OJ⟩:=hSo _ _ hb5 fP uq dR;clear S0 aW dw hSd hDr hb0 hmk PO mD hSo hAl CT;go_wp2_with fail;go_roundw
           case rel=>exact ⟨k + 1,best',by go_num,by omega,AZ,kF,hG9,OJ,HG⟩
           case measure=>simp [intOf];omega)
      ·have HF:=zC (show K.bK p.x.nd p.x.l p.x.s p.x.r p.l (f + 1) st best=bk by
        rw [hgo.out,List.drop_of_length_le (by rw [<-hpr.set.1];omega)];rfl)
       go_wp2_with fail;first | refine bodyPost_ret (results_none rfl _ _ _) rfl ?_ | refine bodyPost_end (results_none rfl _ _ _) rfl ?_
       rw [HF.out];exact ⟨rfl,hBr,yQ.memo,yQ.best⟩
    ·obtain ⟨dn,hdn⟩:∃ dn:Nat,p.x.s.ag=(dn:Int):=⟨p.x.s.ag.toNat,by have:=(K.pW (K.fU hpc.ok).2.1).2.1;omega⟩;have zW:=zC hdn;clear hdn;have hdp:=(K.fU hpc.ok).2.2.1;have hS3:∀ w',Ext w5 w'->(w'.cell? ⟨w.heap.size,0,none⟩=some (.int .i64 (st.bits:Int))/\w'.cell? ⟨w.heap.size,1,none⟩=some (.int .i64 st.a)/\w'.cell? ⟨b,3,none⟩=some (.int .i64 p.x.s.ag)):=λw' h=>⟨h.cell um.cells.1,h.cell um.cells.2.1,h.cell hpc.blk.cells.2.2.2.1⟩;have S0:=hS3 w5 (Ext.refl _);have aW:=hS3 w5.drew (Ext.below (Below.refl w5.heap.size w5).drew);have hWd:=hWc.below (w':=w5.drew) (Below.refl _ _).drew;have kJ:=hWd.pat hpp;have CW:=Sj b mb p st.a dn st.bits w5.drew kJ A_ (by omega) hS.a0 zW.out hdp hwt;go_wp2_with fail
     go_region_held3 (λw'=>(w'.cell? ⟨w.heap.size,0,none⟩=some (.int .i64 (st.bits:Int))/\w'.cell? ⟨w.heap.size,1,none⟩=some (.int .i64 st.a)/\w'.cell? ⟨b,3,none⟩=some (.int .i64 p.x.s.ag)))
      (first | assumption | exact S0 | exact aW)
      (first
       | (go_at_call 141;refine CW.mono ?_;rintro e w6 ⟨rfl,hW⟩;have hx6:=(Ext.below (w':=w5.drew) (Below.refl w5.heap.size w5).drew).trans (hW.ext kJ);have S6:=hS3 _ hx6)
       | fail)
     obtain ⟨hy0,hy1⟩:=K.iJ p.x.nd p.x.l st.a (T.weight p.x.s p.x.r (K.part p.l st.bits)) p.x.s.ag;have HS:=zC (show K.bK p.x.nd p.x.l p.x.s p.x.r p.l (f + 1) st best=K.home p.x.nd p.x.l p.x.s p.x.r p.l st best by
      rw [K.bK,if_neg (by rw [HL.out];simp),if_pos (by have h1:(st.bits:Int)=(al:Int):=(by simpa using HZ.out);rw [<-hpc.set.1,<-HN.out,<-qN.out];omega)])
     obtain ⟨y,hy⟩:=zB (K.way p.x.nd p.x.l st.a (T.weight p.x.s p.x.r (K.part p.l st.bits)) p.x.s.ag);have HH:=zC (show K.home p.x.nd p.x.l p.x.s p.x.r p.l st best=if y ≠ -1/\st.t + y<=p.x.s.end_/\K.better best (st.t + y)=true then some ⟨st.stops,st.times,st.t + y⟩ else best by unfold K.home;rw [<-hy]);rw [<-hy] at hy0 hy1 ⊢;have rP:=hWd.went hpp hW;have fP:eu w w6 mb gb gf:=(dF.below (Below.refl _ _).drew).trans (eu.of hW.1);have jl:lF w6 w.heap.size st SA sn sc TA tn tc:=hx6.cells _ _ _ _ um;have hS6:=hS5.ext hx6;have hX6:∀ g,X g->g < w6.heap.size:=λg hg=>Nat.lt_of_lt_of_le (hX g hg) fP.size;clear hy CW S0 aW S6 hS3 hx6 hW hWd kJ um hWc hpc A_ dF hS5 zW hdp hwt HZ HL hw1 hw2 hw3 hw4;have y8:=rP.pat hpp;obtain ⟨A0,n0,c0,A1,n1,c1,e0,hT,oK⟩:=rP.best.blk;obtain ⟨hm,hhm⟩:=zB (decide (y ≠ -1/\st.t + y<=p.x.s.end_/\K.better best (st.t + y)=true));have hwr:IntKind.i64.wrap (st.t + y)=st.t + y:=IntWalk.i64_in _ (by omega);obtain ⟨z8,iY⟩:∃ z8,(y != -1)=z8:=⟨_,rfl⟩;rw [iY];go_wp2_with fail;go_cut [81] from 52 to 81 (λv81 wc=>v81=.bool hm/\Below w6.heap.size w6 wc)
     case first =>
      have F0:=ah.cell (af rP.best.found 0 (.bool best.isSome) rfl);have G2:=ah.cell jl.cells.2.2.1;have U3:=ah.cell hT.cells.2.2.2;have P5:=ah.cell y8.blk.cells.2.2.2.2.2.1;cases z8
      ·have hy:y=-1:=by simpa using iY
       clear hy0 hy1 iY;refine dU (by kernel_rfl) (by kernel_rfl) ?_;repeat (go_big_quiet_step (fail))
       refine wpQuiet_nil ?_;rintro w5 ⟨⟨_,aU⟩,rfl⟩;go_wp2_with fail;go_meet
       case rel=>exact ⟨by rw [hhm];simp [hy],aU⟩
      cases q1:decide (st.t + y<=p.x.s.end_)
      ·have hq1:¬ st.t + y<=p.x.s.end_:=of_decide_eq_false q1;refine dU (by kernel_rfl) (by kernel_rfl) ?_;repeat (go_big_quiet_step (fail))
       refine wpQuiet_nil ?_;rintro w5 ⟨⟨_,aU⟩,rfl⟩;go_wp2_with fail;go_meet
       case rel=>exact ⟨by rw [hhm];simp;omega,aU⟩
      have hq0:y ≠ -1:=by simpa using iY
      clear iY;have hq1:st.t + y<=p.x.s.end_:=of_decide_eq_true q1;obtain ⟨z,hz⟩:=zB best.isSome;rw [<-hz] at F0;cases z
      ·have hbn:K.better best (st.t + y)=true:=by
        cases best with
        | none=>rfl
        | some bt=>cases hz
       clear hz;refine dU (by kernel_rfl) (by kernel_rfl) ?_;repeat (go_big_quiet_step (fail))
       refine wpQuiet_nil ?_;rintro w5 ⟨⟨_,aU⟩,rfl⟩;go_wp2_with fail;go_meet
       case rel=>exact ⟨by rw [hhm];simp [hq0,hq1,hbn],aU⟩
      ·have hbn:K.better best (st.t + y)=decide (st.t + y < e0):=by
        cases best with
        | none=>cases hz
        | some bt=>rw [(oK bt rfl).2.2.1];rfl
       obtain ⟨q3,hq3⟩:=zB (decide (st.t + y < e0));rw [<-hq3] at hbn;clear hz;have akM:=hq3.symm;clear hq3;refine dU (by kernel_rfl) (by kernel_rfl) ?_;repeat (go_big_quiet_step (fail))
       refine wpQuiet_nil ?_;rintro w5 ⟨⟨_,aU⟩,rfl⟩;go_wp2_with fail;go_meet
       case rel=>exact ⟨by rw [hhm];simp [hq0,hq1,hbn],aU⟩
     case rest =>
      obtain ⟨rfl,hbc⟩:=hcut;have qm:=rP.below hbc;have jD:=fP.below hbc;have nC:lF wc w.heap.size st SA sn sc TA tn tc:=az hbc jl;have hS7:=hS6.ext (Ext.below hbc);have IZ:∀ g,X g->g < wc.heap.size:=λg hg=>Nat.lt_of_lt_of_le (hX g hg) jD.size;have Ti:=zC hhm;clear hT oK hhm y8 hX6 hS6 jl fP rP hbc iY;cases hm
      ·have HF:=zC (show K.bK p.x.nd p.x.l p.x.s p.x.r p.l (f + 1) st best=best by rw [HS.out,HH.out,if_neg (of_decide_eq_false Ti.out.symm)]);go_wp2_with fail;first | refine bodyPost_ret (results_none rfl _ _ _) rfl ?_ | refine bodyPost_end (results_none rfl _ _ _) rfl ?_
       rw [HF.out];exact ⟨rfl,jD,qm.memo,qm.best⟩
      ·have HF:=zC (show K.bK p.x.nd p.x.l p.x.s p.x.r p.l (f + 1) st best=some ⟨st.stops,st.times,st.t + y⟩ by rw [HS.out,HH.out,if_pos (of_decide_eq_true Ti.out.symm)]);have AL:gb ≠ w.heap.size:=λe=>by have:=hX gb rU;omega
       have Og:gf ≠ w.heap.size:=λe=>by have:=hX gf yR;omega
       have hne:=qm.best.ne;have hne1:(gb=gf)=False:=eq_false hne;have hne2:(gf=gb)=False:=eq_false (Ne.symm hne);have hmk:∀ w',lF w' w.heap.size st SA sn sc TA tn tc->(λw'=>w'.cell? ⟨w.heap.size,2,none⟩=some (.int .i64 st.t)/\w'.cell? ⟨w.heap.size,3,none⟩=some (.slice SA sn sc)/\w'.cell? ⟨w.heap.size,4,none⟩=some (.slice TA tn tc)) w':=λw' h=>⟨h.cells.2.2.1,h.cells.2.2.2.1,h.cells.2.2.2.2⟩;have hbd:Below wc.heap.size wc wc.drew:=(Below.refl _ _).drew;have S0:=hmk _ nC;have aW:=hmk _ (az hbd nC);have hId:=hS7.stops.below hbd;have hJd:=hS7.times.below hbd;have oJ:∀ (w':World) (g i:Nat) (v:Value),g ≠ w.heap.size->(λw'=>w'.cell? ⟨w.heap.size,2,none⟩=some (.int .i64 st.t)/\w'.cell? ⟨w.heap.size,3,none⟩=some (.slice SA sn sc)/\w'.cell? ⟨w.heap.size,4,none⟩=some (.slice TA tn tc)) w'->(λw'=>w'.cell? ⟨w.heap.size,2,none⟩=some (.int .i64 st.t)/\w'.cell? ⟨w.heap.size,3,none⟩=some (.slice SA sn sc)/\w'.cell? ⟨w.heap.size,4,none⟩=some (.slice TA tn tc)) (w'.setCell ⟨g,i,none⟩ v):=λw' g i v hg h=>by
        refine ⟨?_,?_,?_⟩
        ·exact (World.cell?_of_block (Below.heap_setCell w' _ v _ (Ne.symm hg))).trans h.1
        ·exact (World.cell?_of_block (Below.heap_setCell w' _ v _ (Ne.symm hg))).trans h.2.1
        ·exact (World.cell?_of_block (Below.heap_setCell w' _ v _ (Ne.symm hg))).trans h.2.2
       go_wp2_with fail
       go_region_held3 (λw'=>w'.cell? ⟨w.heap.size,2,none⟩=some (.int .i64 st.t)/\w'.cell? ⟨w.heap.size,3,none⟩=some (.slice SA sn sc)/\w'.cell? ⟨w.heap.size,4,none⟩=some (.slice TA tn tc))
        (first | with_reducible exact Us | with_reducible exact MS | with_reducible exact S9 | with_reducible exact S8 | with_reducible exact aW | with_reducible exact S0 | fail)
        (first
         | (go_at_call_of 109 SA;refine (yw SA sn sc st.stops _ hId (by omega)).mono ?_;rintro e w8 ⟨⟨v8,rfl,gu⟩,hb8⟩;have O7:=bel hbd hb8;have S8:=hmk _ (az O7 nC);have hJ8:=hJd.below hb8;obtain ⟨A8,c8,rfl,IJ,PN⟩:=dh gu)
         | (go_at_call_of 109 TA;refine (yw TA tn tc st.times _ hJ8 (by omega)).mono ?_;rintro e w9 ⟨⟨v9,rfl,ku⟩,bU⟩;have O8:=bel O7 bU;have S9:=hmk _ (az O8 nC);obtain ⟨A9,c9,rfl,yL,afh⟩:=dh ku;have MS:=oJ _ gb 3 (.int .i64 (st.t + y)) AL (oJ _ gb 2 (.slice A9 tn c9) AL (oJ _ gb 1 (.slice A8 sn c8) AL (oJ _ gb 0 (.int .i64 0) AL S9)));have Us:=oJ _ gf 0 (.bool true) Og MS;have AZ:=qm.below O8;obtain ⟨B0,m0,d0,B1,m1,d1,e1,rO,-⟩:=AZ.best.blk;obtain ⟨u0,u1,u2,u3⟩:=rO.cells;have uf:=gI rO;have f0:=af AZ.best.found 0 (.bool best.isSome) rfl;have ff:=gI AZ.best.found)
         | fail)
       have ako:=IZ gb rU;have akp:=IZ gf yR;have hs8:∀ ad,A8=some ad->gb < ad.block/\gf < ad.block:=λad e=>by
        have h1:=PN ad.block (by rw [e];rfl);have h4:=hbd.size;omega
       have hs9:∀ ad,A9=some ad->gb < ad.block/\gf < ad.block:=λad e=>by
        have h1:=afh ad.block (by rw [e];rfl);have h4:=O7.size;omega
       obtain ⟨kF,hM9,rO⟩:=AZ.stored hpp hgb hgf rU yR st.stops st.times (st.t + y) (c:=c8) (c':=c9) ⟨hS7.stops.1,IJ.below bU⟩ ⟨hS7.times.1,yL⟩ hs8 hs9 (aab gu) (aab ku);have hfin:Dv w _ mb gb gf p X (some ⟨st.stops,st.times,st.t + y⟩) (.returned (.tuple #[])):=⟨rfl,(jD.below O8).trans kF,hM9,rO⟩;clear oJ S0 aW S8 S9 Us MS u0 u1 u2 u3 f0;go_wp2_with fail;first | refine bodyPost_ret (results_none rfl _ _ _) rfl ?_ | refine bodyPost_end (results_none rfl _ _ _) rfl ?_
       rw [HF.out];exact hfin
namespace K
def gG (nd:Int) (l:List Ro) (s:S) (r:List Q) (v:List Int):Tr × Int :=
 if aP nd l s r v=true then (match best nd l s r v with | some t=>(t,0) | none=>(Tr.zero,4)) else (Tr.zero,1)
theorem UZ {nd:Int} {l:List Ro} {s:S} {r:List Q} {v:List Int} (h:aP nd l s r v=false):gG nd l s r v=(Tr.zero,1):=by unfold gG;rw [h];rfl
theorem Ns {nd:Int} {l:List Ro} {s:S} {r:List Q} {v:List Int} (h:aP nd l s r v=true) (h2:best nd l s r v=none):gG nd l s r v=(Tr.zero,4):=by unfold gG;rw [if_pos h,h2]
theorem Ht {nd:Int} {l:List Ro} {s:S} {r:List Q} {v:List Int} {t:Tr} (h:aP nd l s r v=true) (h2:best nd l s r v=some t):gG nd l s r v=(t,0):=by unfold gG;rw [if_pos h,h2]
end K
def Ua (w w':World) (y:K.Tr × Int) (e:Ending):Prop :=
 (∃ A n c A' n' c',e=.returned (.tuple #[.agg #[.int .i64 0,.slice A n c,.slice A' n' c',.int .i64 y.1.end_],.int .i64 y.2])/\Ints w' A n y.1.stops/\Ints w' A' n' y.1.times/\(∀ ad,A=some ad->w.heap.size<=ad.block)/\(∀ ad,A'=some ad->w.heap.size<=ad.block)/\n<=c/\n'<=c')/\Below w.heap.size w w'
theorem aaZ {w w':World} {er:Int} {y:K.Tr × Int} (h:y=(K.Tr.zero,er)) (hb:Below w.heap.size w w'):Ua w w' y (.returned (.tuple #[.agg #[.int .i64 0,.slice none 0 0,.slice none 0 0,.int .i64 0],.int .i64 er])):=by
 subst h;exact ⟨⟨none,0,0,none,0,0,rfl,gK _,gK _,λad e=>(nomatch e),λad e=>(nomatch e),zG _,zG _⟩,hb⟩
theorem eu.acY {w w1 w2:World} {mb gb gf:Nat} (h:Below w.heap.size w w1) (h2:eu w1 w2 mb gb gf) (h3:w.heap.size<=mb) (h4:w.heap.size<=gb) (h5:w.heap.size<=gf):Below w.heap.size w w2 :=
 ⟨h2.os.trans h.os,h2.tape.trans h.tape,h2.output.trans h.output,Nat.le_trans h.size h2.size,λk hk=>(h2.block k (Nat.lt_of_lt_of_le hk h.size) (by omega) (by omega) (by omega)).trans (h.block k hk)⟩
theorem ac1 (x:C) (V:Option Addr) (vn vc:Nat) (v:List Int) (w:World) (hx:At w x) (hV:Ints w V vn v) (lg:vn<=vc) (hvn:vn<=1000000000) :
  Calls Tryz.prog 125 #[.agg #[.int .i64 x.nd,.slice x.A x.n x.c],.agg #[.int .i64 x.s.day,.int .i64 x.s.ag,.int .i64 x.s.start,.int .i64 x.s.end_,.int .i64 x.s.aj,.slice x.s.A x.s.n x.s.c],.slice x.B x.m x.d,.slice V vn vc] w λe w'=>Ua w w' (K.gG x.nd x.l x.s x.r v) e:=by
 obtain ⟨w0,hw0⟩:=zB (((w.alloc (.cells #[.int .i64 x.nd,.slice x.A x.n x.c] 24)).alloc (.cells #[.int .i64 x.s.day,.int .i64 x.s.ag,.int .i64 x.s.start,.int .i64 x.s.end_,.int .i64 x.s.aj,.slice x.s.A x.s.n x.s.c] 63)).alloc (.cells #[.int .i64 0,.slice none 0 0,.slice none 0 0,.int .i64 0] 80));have b0:Below w.heap.size w w0:=by rw [hw0];exact bel (bel ((Below.refl _ _).alloc (zG _) _) ((Below.refl _ _).alloc (zG _) _)) ((Below.refl _ _).alloc (zG _) _)
 have z1:=World.size_alloc w (.cells #[.int .i64 x.nd,.slice x.A x.n x.c] 24);have z2:=World.size_alloc (w.alloc (.cells #[.int .i64 x.nd,.slice x.A x.n x.c] 24)) (.cells #[.int .i64 x.s.day,.int .i64 x.s.ag,.int .i64 x.s.start,.int .i64 x.s.end_,.int .i64 x.s.aj,.slice x.s.A x.s.n x.s.c] 63);have hR:jg w0 (w.heap.size + 1 + 1) (.slice none 0 0) (.slice none 0 0) 0:=by rw [hw0];exact bI _ _ _ (by rw [z2,z1])
 have hS:aT w0 (w.heap.size + 1) x.s:=by
  have h:=(aT.new (w.alloc (.cells #[.int .i64 x.nd,.slice x.A x.n x.c] 24)) x.s).below ((Below.refl _ _).alloc (zG _) (.cells #[.int .i64 0,.slice none 0 0,.slice none 0 0,.int .i64 0] 80));rw [z1] at h;rw [hw0];exact h
 have hN:Net w0 w.heap.size x.nd x.A x.n x.c:=by
  rw [hw0];exact (Net.new w x.nd x.A x.n x.c).below (bel ((Below.refl _ _).alloc (zG _) _) ((Below.refl _ _).alloc (zG _) _))
 have p0:=hN.c0;have p1:=hN.c1;obtain ⟨s0,s1,s2,s3,s4,s5⟩:=hS.cells;rw [hw0] at p0 p1 s0 s1 s2 s3 s4 s5;go_enter Tryz.func125,Tryz.ntmps125;go_wp2_with fail;rw [<-hw0];refine (Q_ x V vn vc v _ (hx.below b0) (hV.below b0) lg hvn).mono ?_;rintro e w1 ⟨hret,b1⟩;have hb:=bel b0 b1;have hsz:=b0.size;have hR0:=lt_of_block hR;have hR1:=hR.below b1 hR0;have hS1:=hS.below b1;clear p0 p1 s0 s1 s2 s3 s4 s5 hw0 z1 z2 hR hS hN;rcases hret with ⟨hok,rfl⟩ | ⟨b,mb,rfl,hbb,hbm,hP⟩
 ·have HX:=zC (K.UZ hok);clear hok;obtain ⟨r0,r1,r2,r3⟩:=hR1.cells;have f0:=hR1.free 0;have f1:=hR1.free 1;have f2:=hR1.free 2;have f3:=hR1.free 3;go_wp2_with fail;refine bodyPost_ret_by (v:=.tuple #[.agg #[.int .i64 0,.slice none 0 0,.slice none 0 0,.int .i64 0],.int .i64 1]) ?_ rfl ?_
  ·obtain ⟨z0,z1,z2,z3⟩:=(hR1.set (.slice none 0 0) (.slice none 0 0) 0).cells;rw [results_cell_tmp rfl];simp [go_sem,z0,z1,z2,z3]
  ·exact aaZ HX.out (jM hb (by omega) _ _ _ _)
 ·obtain ⟨gb,hgb⟩:=zB w1.heap.size;obtain ⟨gf,hgf⟩:=zB (w1.heap.size + 1);have hpp:=hP (λg=>g=gb\/g=gf);clear hP;have hok:K.aP x.nd x.l x.s x.r v=true:=hpp.ok;obtain ⟨hne,hck,hdp,hrq,bJ,hgo⟩:=K.fU hok;obtain ⟨-,⟨d0,d1⟩,st0,st1,pX⟩:=K.pW hck;obtain ⟨w2,hw2⟩:=zB ((w1.alloc (.cells #[.int .i64 0,.slice none 0 0,.slice none 0 0,.int .i64 0] 80)).alloc (.cells #[.bool false] 4));have hza:=World.size_alloc w1 (.cells #[.int .i64 0,.slice none 0 0,.slice none 0 0,.int .i64 0] 80);have b12:Below w1.heap.size w1 w2:=by rw [hw2];exact bel ((Below.refl _ _).alloc (zG _) _) ((Below.refl _ _).alloc (zG _) _)
  have hB2:nS w2 gb gf none:=⟨by rw [hw2,hgf];exact bI _ _ _ hza.symm,none,0,0,none,0,0,0,by rw [hw2,hgb];exact bu (heap_alloc_new _ _) _,λb e=>(nomatch e)⟩;have hz2:w2.heap.size=w1.heap.size + 1 + 1:=by rw [hw2,World.size_alloc,hza]
  have gq:jY w1 w2 mb gb gf ⟨x,V,vn,vc,v⟩ (λg=>g=gb\/g=gf) none:=⟨Ext.below b12,hpp.memo.below b12,hB2⟩
  have CT:Calls Tryz.prog 173 #[.pointer (some ⟨b,0,none⟩),.agg #[.int .i64 0,.int .i64 x.s.ag,.int .i64 x.s.start,.slice none 0 0,.slice none 0 0],.pointer (some ⟨gb,0,none⟩),.pointer (some ⟨gf,0,none⟩)] w2
    λe w'=>Dv w2 w' mb gb gf ⟨x,V,vn,vc,v⟩ (λg=>g=gb\/g=gf) (K.best x.nd x.l x.s x.r v) e :=
   try_any b mb gb gf ⟨x,V,vn,vc,v⟩ w1 hpp (by omega) (by omega) (.inl rfl) (.inr rfl) (2 ^ v.length) ⟨0,x.s.ag,x.s.start,[],[]⟩ none none 0 0 none 0 0 w2 gq (λg hg=>by omega)
    ⟨gK _,gK _,λad e=>(nomatch e),λad e=>(nomatch e),Nat.two_pow_pos _,zG _,rfl,⟨d0,hdp⟩,⟨st0,by show x.s.start<=1000000;omega⟩⟩ (by
     have h9:(⟨x,V,vn,vc,v⟩:PS).n=v.length:=hV.1;rw [h9];exact Nat.le_add_left _ _)
  have hR2:=hR1.below b12 (lt_of_block hR1);have hS2:=hS1.below b12;obtain ⟨s0,s1,s2,s3,s4,s5⟩:=hS2.cells;have aJ:=zC hok;have hRl:=lt_of_block hR1;have ae8:w.heap.size + 1 + 1 < gb:=by omega
  clear hok hne hck hdp hrq bJ hgo d0 d1 st0 st1 pX hB2 hza hR1 hS1;rw [hw2,hgb,hgf] at CT;rw [hw2] at s0 s1 s2 s3 s4 s5;go_wp2_with fail;refine CT.mono ?_;rw [<-hw2,<-hgf,<-hgb];rintro e w3 ⟨rfl,hB3,hM3,iV⟩;have nD:jg w3 (w.heap.size + 1 + 1) (.slice none 0 0) (.slice none 0 0) 0:=(hB3.block _ (by omega) (by omega) (by omega) (by omega)).trans hR2;have hb3:Below w.heap.size w w3:=eu.acY (bel hb b12) hB3 (by omega) (by omega) (by omega);clear CT s0 s1 s2 s3 s4 s5 hS2 hR2 hw2 hgb hgf gq hpp;obtain ⟨A0,n0,c0,A1,n1,c1,e0,hT,oK⟩:=iV.blk;have ff:=af iV.found 0 _ rfl;obtain ⟨r0,r1,r2,r3⟩:=nD.cells;have f0:=nD.free 0;have f1:=nD.free 1;have f2:=nD.free 2;have f3:=nD.free 3;cases yU:K.best x.nd x.l x.s x.r v with
  | none =>
   have HX:=zC (K.Ns aJ.out yU);rw [yU] at ff;clear oK yU;go_wp2_with fail;refine bodyPost_ret_by (v:=.tuple #[.agg #[.int .i64 0,.slice none 0 0,.slice none 0 0,.int .i64 0],.int .i64 4]) ?_ rfl ?_
   ·obtain ⟨z0,z1,z2,z3⟩:=(nD.set (.slice none 0 0) (.slice none 0 0) 0).cells;rw [results_cell_tmp rfl];simp [go_sem,z0,z1,z2,z3]
   ·exact aaZ HX.out (jM hb3 (by omega) _ _ _ _)
  | some bt =>
   have HX:=zC (K.Ht aJ.out yU);obtain ⟨hI,hJ,he,hA,hA',hk0,hk1⟩:=oK bt yU;subst he;rw [yU] at ff;clear oK yU;obtain ⟨t0,t1,t2,t3⟩:=hT.cells;go_wp2_with fail;refine bodyPost_ret_by (v:=.tuple #[.agg #[.int .i64 0,.slice A0 n0 c0,.slice A1 n1 c1,.int .i64 bt.end_],.int .i64 0]) ?_ rfl ?_
   ·obtain ⟨z0,z1,z2,z3⟩:=(nD.set (.slice A0 n0 c0) (.slice A1 n1 c1) bt.end_).cells;rw [results_cell_tmp rfl];simp [go_sem,z0,z1,z2,z3]
   ·rw [HX.out];have hne1:∀ ad,A0=some ad->ad.block ≠ w.heap.size + 1 + 1:=λad e=>by have:=hA ad e;omega
    have hne2:∀ ad,A1=some ad->ad.block ≠ w.heap.size + 1 + 1:=λad e=>by have:=hA' ad e;omega
    exact ⟨⟨A0,n0,c0,A1,n1,c1,rfl,(((hI.set _ hne1).set _ hne1).set _ hne1).set _ hne1,(((hJ.set _ hne2).set _ hne2).set _ hne2).set _ hne2,λad e=>(by have:=hA ad e;omega),λad e=>(by have:=hA' ad e;omega),hk0,hk1⟩,jM hb3 (by omega) _ _ _ _⟩
end Go.Proofs.YtippdjmpkafifaaGreat
