import Derived.Test.YtippdjmpkafifaaGreatCW15
import Derived.Test.YtippdjmpkafifaaGreatCW12
import Derived.Test.YtippdjmpkafifaaGreatCW13
namespace Go.Proofs.YtippdjmpkafifaaGreat
open Go.RowKit
theorem Rsn.at_ {w:World} {A:Option Addr} {n k:Nat} {l:List RV} (h:Rsn w A n l) (hk:k < n):∃ ad y,A=some ad∧l[k]? = some y∧Blks w y.A y.n y.bl∧w.cell? (ad.add k)=some (.slice y.A y.n y.c):=by
 obtain ⟨ad,y,hA,hl,hc⟩:=Lst.get (f:=RV.cells) (s:=1) (fun _=>rfl) h.1 hk
 refine ⟨ad,y,hA,hl,h.2 y (List.mem_of_getElem? hl),?_⟩
 have:=hc 0 _ (by omega) rfl
 rwa [Nat.mul_one,Nat.add_zero] at this
theorem any_contains {l:List Int} {x:Int}:l.any (· == x)=l.contains x:=by
 induction l with
 | nil=>rfl
 | cons a l ih =>
  rw [List.any_cons,List.contains_cons,ih]
  congr 1
  exact Bool.beq_comm ..
set_option maxRecDepth 100000 in
set_option maxHeartbeats 16000000 in
theorem check52_any (x:Cs) (LA:Option Addr) (ln lc:Nat) (lost:List Int) (KA:Option Addr) (kn kc:Nat) (kept:List Int) (TA:Option Addr) (tn tc:Nat) (ts:List TV) (RA:Option Addr) (rn rc:Nat) (rl:List RV) (w:World) (hx:CsAt w x) (hL:Ints w LA ln lost) (hK:Ints w KA kn kept) (hT:Tours w TA tn ts) (hR:Rsn w RA rn rl)
  (hln:ln≤1000000000) (hkn:kn≤1000000000) (hFT:FewT tn ts) (hFR:FewR rn rl) (hsn:x.sn≤1000000) (hsr:∀ s ∈ x.ss,s.n≤1000000) :
  Calls Tryz.prog 52 #[.agg #[.int .i64 x.nd,.slice x.A x.n x.c,.slice x.SA x.sn x.sc,.slice x.B x.m x.d],.slice LA ln lc,.slice KA kn kc,.slice TA tn tc,.slice RA rn rc] w fun e w'=>e=.returned (.bool (K.kcheck x.nd x.l x.ss x.r lost kept (ts.map TV.pr) (rl.map RV.pr)))∧Below w.heap.size w w':=by
 obtain ⟨w1,hw1⟩:∃ w1:World,w1=w.alloc (.cells #[.int .i64 x.nd,.slice x.A x.n x.c,.slice x.SA x.sn x.sc,.slice x.B x.m x.d] 44):=⟨_,rfl⟩
 obtain ⟨g,hg⟩:∃ g,g=w.heap.size:=⟨_,rfl⟩
 have b1:Below w.heap.size w w1:=by rw [hw1];exact (Below.refl _ _).alloc (Nat.le_refl _) _
 have hN1:BkBlk w1 g x:=by rw [hw1,hg];exact BkBlk.new _ _
 have p0:=blk_cell hN1 0 _ rfl
 have p1:=blk_cell hN1 1 _ rfl
 have p2:=blk_cell hN1 2 _ rfl
 have p3:=blk_cell hN1 3 _ rfl
 have CR:=rest45_any x LA ln lc lost w1 (hx.below b1) (hL.below b1) hln hsn hsr
 obtain ⟨Z,hZ⟩:∃ Z,Z=K.kcheck x.nd x.l x.ss x.r lost kept (ts.map TV.pr) (rl.map RV.pr):=⟨_,rfl⟩
 rw [←hZ]
 have HZ:=Lib.hid hZ
 clear hZ
 have HRN:=Lib.hid hx.reqs.1
 have HKN:=Lib.hid hK.1
 have HLN:=Lib.hid (show (rl.map RV.pr).length=rn by rw [List.length_map,hR.1.1])
 have hb4:=hx.b4
 have hfr:=hFR.1
 go_enter Tryz.func52,Tryz.ntmps52
 go_upto_region 1 with fail
 rw [←hw1,←hg]
 clear hw1 hg
 go_wp2_with fail
 refine CR.mono ?_
 obtain ⟨er,her⟩:∃ er,er=K.restE x.nd x.l x.ss x.r lost:=⟨_,rfl⟩
 rw [←her]
 have HER:=Lib.hid her
 clear her
 rintro e w2 ⟨⟨RA2,rn2,rc2,RL,rfl,hRS,hRB⟩,b2⟩
 have hN2:=hN1.below b2
 have hb2:=bel b1 b2
 clear CR p0 p1 p2 p3 b1 b2 hN1
 have p0:=blk_cell hN2 0 _ rfl
 have p1:=blk_cell hN2 1 _ rfl
 have p2:=blk_cell hN2 2 _ rfl
 have p3:=blk_cell hN2 3 _ rfl
 by_cases hz:er=0
 rotate_left
 ·have HX:=Lib.hid (show Z=false by rw [HZ.out];exact K.keep_wrong (by rw [←HER.out];exact hz) _ _ _)
  have hd:(er != 0)=true:=by simp [bne,hz]
  go_wp2_with fail
  go_ret
  exact ⟨by rw [HX.out];rfl,hb2⟩
 subst hz
 have hE0:K.restE x.nd x.l x.ss x.r lost=0:=HER.out.symm
 have HP:=Lib.hid (K.restE_0 hE0).2
 have hm6:x.m≤6:=by rw [hx.reqs.1];exact (K.pcheck_ok HP.out).2.2.2.2
 obtain ⟨R,hRe⟩:∃ R,R=K.rest34 x.nd x.l x.ss x.r lost:=⟨_,rfl⟩
 rw [←hRe] at hRB
 have HR:=Lib.hid (show R=K.restGo lost 0 x.ss by rw [hRe];unfold K.rest34;rw [if_pos hE0])
 obtain ⟨hrn,hrs⟩:=rest_small hx hsn hsr (by rw [hRe];exact rest34_sub) hRS hRB
 have HZ2:=Lib.hid (show Z=(K.asc33 x.r.length (-1) kept && ((kept.length + (rl.map RV.pr).length == x.r.length) && K.kcheckGo x.nd x.l R kept (ts.map TV.pr) 0 x.r [] (rl.map RV.pr))) by
  rw [HZ.out,HR.out];unfold K.kcheck;rw [hE0];rfl)
 have HRB:=Lib.hid hRB
 clear HZ HER hE0 hRe hRB
 have CA:=rising107_any KA kn kc kept x.m w2 (hK.below hb2) hkn (by omega)
 obtain ⟨z,hz⟩:∃ z,z=K.asc33 x.m (-1) kept:=⟨_,rfl⟩
 rw [←hz] at CA
 have HA:=Lib.hid (show z=K.asc33 x.r.length (-1) kept by rw [hz,HRN.out])
 clear hz
 obtain ⟨sm,hsm⟩:∃ sm,sm=kn + rn:=⟨_,rfl⟩
 have hwr:IntKind.i64.wrap ((kn:Int) + (rn:Int))=(sm:Int):=by rw [IntWalk.i64_in _ (by omega)];omega
 have HSS:=Lib.hid hsm
 clear hsm
 cases z
 ·have HX:=Lib.hid (show Z=false by rw [HZ2.out,←HA.out,Bool.false_and])
  go_wp2_with fail
  refine CA.mono ?_
  rintro e w3 ⟨rfl,b3⟩
  go_wp2_with fail
  go_ret
  exact ⟨by rw [HX.out];rfl,bel hb2 b3⟩
 go_wp2_with fail
 refine CA.mono ?_
 rintro e w3 ⟨rfl,b3⟩
 have hb3:=bel hb2 b3
 have hN3:=hN2.below b3
 have hRS3:=hRS.below b3
 clear CA p0 p1 p2 p3 hN2 hb2 b3 hRS
 have p0:=blk_cell hN3 0 _ rfl
 have p1:=blk_cell hN3 1 _ rfl
 have p2:=blk_cell hN3 2 _ rfl
 have p3:=blk_cell hN3 3 _ rfl
 by_cases hs:sm=x.m
 rotate_left
 ·have HX:=Lib.hid (show Z=false by rw [HZ2.out,←HA.out,Bool.true_and,HLN.out,←HKN.out,←HRN.out,←HSS.out,beq_eq_false_iff_ne.2 hs,Bool.false_and])
  have hd:((sm:Int) != (x.m:Int))=true:=by simp [bne];omega
  go_wp2_with fail
  go_ret
  exact ⟨by rw [HX.out];rfl,hb3⟩
 rw [hs] at hwr
 have HSM:=Lib.hid (show kept.length + (rl.map RV.pr).length=x.r.length by rw [HLN.out,←HKN.out,←HRN.out,←HSS.out];exact hs)
 have HZ3:=Lib.hid (show Z=K.kcheckGo x.nd x.l R kept (ts.map TV.pr) 0 x.r [] (rl.map RV.pr) by rw [HZ2.out,←HA.out,Bool.true_and,HSM.out,beq_self_eq_true,Bool.true_and])
 clear HZ2 hs HSS
 obtain ⟨B,hB⟩:∃ B,B=w3.heap.size:=⟨_,rfl⟩
 have hx3:=hx.below hb3
 have hK3:=hK.below hb3
 have hR3:=hR.below hb3
 have hT3:=hT.below hb3
 go_wp2_with fail
 clear p0 p1 p2 p3 hwr
 go_loopw [13,46] (fun v13 v46 wr=>∃ (i:Nat) (sv:List Q),v46=.int .i64 i∧i≤x.m∧wr.ownsRow B 47 7 v13 sv.length (sv.flatMap Q.cells)∧CSays x.nd x.l R x.r kept (ts.map TV.pr) (rl.map RV.pr) Z i sv∧Below w3.heap.size w3 wr) (fun _ v46 _=>x.m - (intOf v46).toNat)
 case atStart=>exact ⟨0,[],rfl,Nat.zero_le _,World.ownsRow_nil _ _ _ _,by rw [HZ3.out];exact CSays.zero HA.out.symm,Below.refl _ _⟩
 case round =>
  obtain ⟨i,sv,rfl,hi,hown,hS,hbr⟩:=hrel
  have hxr:=hx3.below hbr
  have hNr:=hN3.below hbr
  have hsl:=hS.le
  by_cases hlt:i < x.m
  ·obtain ⟨ad,q,hA,hq,hW,c0,c1,c2,c3,c4,c5,c6⟩:=hxr.reqs.at_ hlt
   have HQ:=Lib.hid hq
   have k0:(0:Int)≤(i:Int):=by omega
   have k1:(i:Int) < (x.m:Int):=by omega
   obtain ⟨gs,hgs⟩:∃ gs,gs=wr.heap.size:=⟨_,rfl⟩
   obtain ⟨w4,hw4⟩:∃ w4:World,w4=wr.alloc (.cells #[.int .i64 q.node,.int .i64 q.room,.int .i64 q.kilos,.int .i64 q.service,.int .i64 q.frm,.int .i64 q.by_,.slice q.A q.n q.c] 47):=⟨_,rfl⟩
   have b4:Below wr.heap.size wr w4:=by rw [hw4];exact (Below.refl _ _).alloc (Nat.le_refl _) _
   have hB4:QBlk w4 gs q:=by rw [hw4,hgs];exact QBlk.new _ _
   have CK:=contains64_any KA kn kc kept i w4 (hK3.below (bel hbr b4)) hkn
   obtain ⟨z,hz⟩:∃ z,z=kept.contains (i:Int):=⟨_,rfl⟩
   rw [any_contains,←hz] at CK
   have HC:=Lib.hid hz
   have hin:∀ p ∈ sv ++ [q],p ∈ x.r:=fun p hp=>by
    rcases List.mem_append.1 hp with hp | hp
    ·exact hS.inr p hp
    ·rw [List.mem_singleton.1 hp];exact List.mem_of_getElem? HQ.out
   rw [hA]
   have HAd:=Lib.hid hA
   clear hA hq hz
   go_upto_region 8 with fail
   rw [←hw4,←hgs]
   clear hw4 hgs c0 c1 c2 c3 c4 c5 c6
   go_wp2_with fail
   refine CK.mono ?_
   rintro e w5 ⟨rfl,b5⟩
   have b45:=bel b4 b5
   have hB5:=hB4.below b5
   have hown5:=own_below hown b45
   have hx5:=hxr.below b45
   have hN5:=hNr.below b45
   have hb5:=bel hbr b45
   clear CK hB4 b4 b5
   obtain ⟨s0,s1,s2,s3,s4,s5,s6⟩:=hB5.cells
   cases z
   rotate_left
   ·have HSY:=Lib.hid (hS.yes HA.out.symm HQ.out HC.out.symm)
    obtain ⟨w8,hw8⟩:∃ w8:World,w8=w5.alloc (.cells #[.int .i64 q.node,.int .i64 q.room,.int .i64 q.kilos,.int .i64 q.service,.int .i64 q.frm,.int .i64 q.by_,.slice q.A q.n q.c] 47):=⟨_,rfl⟩
    obtain ⟨g8,hg8⟩:∃ g,g=w5.heap.size:=⟨_,rfl⟩
    have b8:Below w5.heap.size w5 w8:=by rw [hw8];exact (Below.refl _ _).alloc (Nat.le_refl _) _
    have hL8:w8.heap[g8]? = some (.cells #[.int .i64 q.node,.int .i64 q.room,.int .i64 q.kilos,.int .i64 q.service,.int .i64 q.frm,.int .i64 q.by_,.slice q.A q.n q.c] 47 (0,0)):=by rw [hw8,hg8];exact heap_alloc_new _ _
    have hown8:=own_below hown5 b8
    have hb8:=bel hb5 b8
    have hz8:B≤w8.heap.size:=by rw [hB];exact hb8.size
    obtain ⟨i0,hi0,hy0,hy1,hy2⟩:=info_parts clone120_info
    go_wp2_with (first
     | (at_builtin;rw [←hw8,←hg8];refine wp_append_rd rfl _ _ 26 rfl B 47 i0 (.agg #[.int .i64 0,.int .i64 0,.int .i64 0,.int .i64 0,.int .i64 0,.int .i64 0,.slice none 0 0]) 7 72 Tryz.underlying26 hi0 hy0 hy1 hy2 rfl (by decide) _ sv.length (sv.flatMap Q.cells) rfl hown8 (some ⟨g8,0,none⟩) 1 1 (Q.cells q) rfl (Rd.of_block hL8 7 1 rfl) (req_one q) (by simp only [maxLen];omega) (by omega) hz8 ?_;intro v9 w9 hown9 hgr9 ha9)
     | fail)
    have hb9:Below w3.heap.size w3 w9:=below_own2 hb8 hgr9 (fun g e=>by rw [←hB];exact (own_in hown8 g e).1)
    have hown9':w9.ownsRow B 47 7 v9 (sv ++ [q]).length ((sv ++ [q]).flatMap Q.cells):=by
     rw [List.length_append,List.flatMap_append,List.flatMap_singleton]
     exact hown9
    clear s0 s1 s2 s3 s4 s5 s6 hown8 hown9 hgr9 ha9
    go_roundw
    case rel=>(go_light;exact ⟨i + 1,sv ++ [q],by go_num,hlt,hown9',HSY.out,hb9⟩)
    case measure=>(go_light;simp [intOf];omega)
   ·obtain ⟨bb,hbb,hno,hyes⟩:=hS.no HA.out.symm HSM.out HQ.out HC.out.symm
    obtain ⟨j,hj⟩:∃ j,j=i - sv.length:=⟨_,rfl⟩
    rw [←hj] at hbb
    have hjn:j < rn:=by
     have:=(List.getElem?_eq_some_iff.1 hbb).1
     have:=HLN.out
     omega
    have hR5:=hR3.below hb5
    obtain ⟨adR,y,hRA,hy,hyB,cy⟩:=hR5.at_ hjn
    have HY:=Lib.hid (show y.bl.map BV.pr=bb by
     rw [List.getElem?_map,hy] at hbb
     injection hbb)
    have hFB:=(hFR.2 y (List.mem_of_getElem? hy)).1
    have HNO:=Lib.hid hno
    have HYES:=Lib.hid hyes
    have hsub:IntKind.i64.wrap ((i:Int) - (sv.length:Int))=((j:Nat):Int):=by rw [IntWalk.i64_in _ (by omega)];omega
    have j0:(0:Int)≤(j:Int):=by omega
    have j1:(j:Int) < (rn:Int):=by omega
    obtain ⟨SV,svc,rfl,hRv,-⟩:=own_form hown5
    have q0:=blk_cell hN5 0 _ rfl
    have q1:=blk_cell hN5 1 _ rfl
    have hbd:Below w5.heap.size w5 w5.drew:=(Below.refl _ _).drew
    have hmk:∀ w',Below w5.heap.size w5 w'→(fun w':World=>w'.cell? ⟨g,0,none⟩=some (.int .i64 x.nd)∧w'.cell? ⟨g,1,none⟩=some (.slice x.A x.n x.c)∧w'.cell? (adR.add j)=some (.slice y.A y.n y.c)∧w'.cell? ⟨gs,0,none⟩=some (.int .i64 q.node)∧w'.cell? ⟨gs,1,none⟩=some (.int .i64 q.room)∧w'.cell? ⟨gs,2,none⟩=some (.int .i64 q.kilos)∧w'.cell? ⟨gs,3,none⟩=some (.int .i64 q.service)∧w'.cell? ⟨gs,4,none⟩=some (.int .i64 q.frm)∧w'.cell? ⟨gs,5,none⟩=some (.int .i64 q.by_)∧w'.cell? ⟨gs,6,none⟩=some (.slice q.A q.n q.c)) w':=fun w' h =>
     ⟨(h.cell (cell_lt q0)).trans q0,(h.cell (cell_lt q1)).trans q1,(h.cell (cell_lt cy)).trans cy,(h.cell (cell_lt s0)).trans s0,(h.cell (cell_lt s1)).trans s1,(h.cell (cell_lt s2)).trans s2,(h.cell (cell_lt s3)).trans s3,(h.cell (cell_lt s4)).trans s4,(h.cell (cell_lt s5)).trans s5,(h.cell (cell_lt s6)).trans s6⟩
    have S0:=hmk _ (Below.refl _ _)
    have S0d:=hmk _ hbd
    have CW:=with112_any SV sv.length svc sv q w5.drew (hRv.below hbd) (by omega)
    have hxd:=hx5.below hbd
    have hRSd:=(hRS3.below hb5).below hbd
    have hyBd:=hyB.below hbd
    have hlen:sv.length + 1=(sv ++ [q]).length:=by rw [List.length_append];rfl
    have hl1:sv.length + 1≤1000000:=by omega
    have CW:Calls Tryz.prog 112 #[.slice SV sv.length svc,.agg #[.int .i64 q.node,.int .i64 q.room,.int .i64 q.kilos,.int .i64 q.service,.int .i64 q.frm,.int .i64 q.by_,.slice q.A q.n q.c]] w5.drew fun e w'=>(∃ SB cB,e=.returned (.slice SB (sv.length + 1) cB)∧CsAt w' ⟨x.nd,x.A,x.n,x.c,x.l,RA2,rn2,rc2,RL,SB,sv.length + 1,cB,sv ++ [q]⟩)∧Below w5.drew.heap.size w5.drew w':=by
     refine CW.mono ?_
     rintro e w6 ⟨⟨v6,rfl,hv6⟩,b6⟩
     obtain ⟨SB,cB,rfl,hCs⟩:=cs_snoc (rc:=rc2) (hxd.below b6) (hRSd.below b6) hrn hrs hlen hv6 hin hl1
     exact ⟨⟨SB,cB,rfl,hCs⟩,b6⟩
    clear hj hlen hl1 hRSd hxd
    rw [hRA]
    have HRA:=Lib.hid hRA
    clear hRA s0 s1 s2 s3 s4 s5 s6 q0 q1 cy hbb hno hyes hy
    go_wp2_with fail
    go_region_held3 (fun w':World=>w'.cell? ⟨g,0,none⟩=some (.int .i64 x.nd)∧w'.cell? ⟨g,1,none⟩=some (.slice x.A x.n x.c)∧w'.cell? (adR.add j)=some (.slice y.A y.n y.c)∧w'.cell? ⟨gs,0,none⟩=some (.int .i64 q.node)∧w'.cell? ⟨gs,1,none⟩=some (.int .i64 q.room)∧w'.cell? ⟨gs,2,none⟩=some (.int .i64 q.kilos)∧w'.cell? ⟨gs,3,none⟩=some (.int .i64 q.service)∧w'.cell? ⟨gs,4,none⟩=some (.int .i64 q.frm)∧w'.cell? ⟨gs,5,none⟩=some (.int .i64 q.by_)∧w'.cell? ⟨gs,6,none⟩=some (.slice q.A q.n q.c))
     (first | with_reducible exact S7 | with_reducible exact S6 | with_reducible exact S0d | with_reducible exact S0 | fail)
     (first
      | (go_at_call 112;refine CW.mono ?_;rintro e w6 ⟨⟨SB,cB,rfl,hCs⟩,b6⟩;have S6:=hmk _ (bel hbd b6))
      | (go_at_call 28;refine (refutes32_any ⟨x.nd,x.A,x.n,x.c,x.l,RA2,rn2,rc2,RL,SB,sv.length + 1,cB,sv ++ [q]⟩ y.A y.n y.c y.bl _ hCs (hyBd.below b6) hFB).mono ?_;rintro e w7 ⟨rfl,b7⟩;have S7:=hmk _ (bel (bel hbd b6) b7))
      | fail)
    rw [show K.refutes (Cs.nd ⟨x.nd,x.A,x.n,x.c,x.l,RA2,rn2,rc2,RL,SB,sv.length + 1,cB,sv ++ [q]⟩) (Cs.l ⟨x.nd,x.A,x.n,x.c,x.l,RA2,rn2,rc2,RL,SB,sv.length + 1,cB,sv ++ [q]⟩) (Cs.ss ⟨x.nd,x.A,x.n,x.c,x.l,RA2,rn2,rc2,RL,SB,sv.length + 1,cB,sv ++ [q]⟩) (Cs.r ⟨x.nd,x.A,x.n,x.c,x.l,RA2,rn2,rc2,RL,SB,sv.length + 1,cB,sv ++ [q]⟩) (y.bl.map BV.pr)=K.refutes x.nd x.l R (sv ++ [q]) bb by rw [HY.out];exact K.refutes_same rfl HRB.out _]
    obtain ⟨z,hz⟩:∃ z,z=K.refutes x.nd x.l R (sv ++ [q]) bb:=⟨_,rfl⟩
    rw [←hz]
    have HRZ:=Lib.hid hz
    have hb7:=bel hb5 (bel (bel hbd b6) b7)
    have hown7:=own_below hown (bel (bel (bel b45 hbd) b6) b7)
    clear hz hmk
    cases z
    ·have HX:=Lib.hid (HNO.out HRZ.out.symm)
     go_wp2_with fail
     go_ret
     exact ⟨by rw [HX.out];rfl,bel hb3 hb7⟩
    ·have HSY:=Lib.hid (HYES.out HRZ.out.symm)
     go_wp2_with fail
     rw [←HRA.out]
     go_roundw
     case rel=>(go_light;exact ⟨i + 1,sv,by go_num,hlt,hown7,HSY.out,hb7⟩)
     case measure=>(go_light;simp [intOf];omega)
  ·have hd:decide ((i:Int) < (x.m:Int))=false:=by simp;omega
   have hd2:decide (i < x.m)=false:=by simp;omega
   have HI:Hid (i=x.r.length):=Lib.hid (by rw [←HRN.out];omega)
   obtain ⟨SB,cB,rfl,hCs⟩:=cs_snoc (rc:=rc2) hxr (hRS3.below hbr) hrn hrs rfl hown hS.inr (by omega)
   have CC:=checks32_any ⟨x.nd,x.A,x.n,x.c,x.l,RA2,rn2,rc2,RL,SB,sv.length,cB,sv⟩ TA tn tc ts wr hCs (hT3.below hbr) hFT
   rw [show K.checks (Cs.nd ⟨x.nd,x.A,x.n,x.c,x.l,RA2,rn2,rc2,RL,SB,sv.length,cB,sv⟩) (Cs.l ⟨x.nd,x.A,x.n,x.c,x.l,RA2,rn2,rc2,RL,SB,sv.length,cB,sv⟩) (Cs.ss ⟨x.nd,x.A,x.n,x.c,x.l,RA2,rn2,rc2,RL,SB,sv.length,cB,sv⟩) (Cs.r ⟨x.nd,x.A,x.n,x.c,x.l,RA2,rn2,rc2,RL,SB,sv.length,cB,sv⟩) (ts.map TV.pr)=K.checks x.nd x.l R sv (ts.map TV.pr) from K.checks_same rfl HRB.out _] at CC
   obtain ⟨ce,hce⟩:∃ ce,ce=K.checks x.nd x.l R sv (ts.map TV.pr):=⟨_,rfl⟩
   rw [←hce] at CC
   have HV:=Lib.hid (show Z=(ce == 0) by
    rw [hS.val,HI.out,List.drop_length,hce]
    rfl)
   have p0:=blk_cell hNr 0 _ rfl
   have p1:=blk_cell hNr 1 _ rfl
   clear hce
   go_wp2_with fail
   refine CC.mono ?_
   rintro e w9 ⟨rfl,b9⟩
   go_wp2_with fail
   go_ret
   exact ⟨by rw [HV.out];rfl,bel hb3 (bel hbr b9)⟩
set_option maxHeartbeats 4000000 in
theorem has55_any (A:Option Addr) (n c:Nat) (l:List Int) (x:Int) (w:World) (hl:Ints w A n l) (hn:n≤1000000000) :
  Calls Tryz.prog 55 #[.slice A n c,.int .i64 x] w fun e w'=>e=.returned (.bool (l.any (· == x)))∧Below w.heap.size w w':=by
 go_enter Tryz.func55,Tryz.ntmps55
 go_wp2_with fail
 go_loopw [5] (fun vi wr=>∃ k:Nat,vi=.int .i64 k∧k≤n∧Hid (l.any (· == x)=(l.drop k).any (· == x))∧Below w.heap.size w wr) (fun vi _=>n - (intOf vi).toNat)
 case atStart=>exact ⟨0,rfl,by omega,by show _=_;rw [List.drop_zero],Below.refl _ _⟩
 case round =>
  obtain ⟨k,rfl,hk,hr,hW⟩:=hrel
  by_cases hlt:k < n
  ·obtain ⟨ad,y,rfl,hg,c0⟩:=(hl.below hW).at_ hlt
   have HS:=Lib.hid (drop_any (p:=(· == x)) hg)
   have k0:(0:Int)≤(k:Int):=by omega
   have k1:(k:Int) < (n:Int):=by omega
   clear hg
   by_cases hxy:y=x
   ·have hd1:decide (y=x)=true:=decide_eq_true hxy
    have hd2:(y == x)=true:=beq_iff_eq.2 hxy
    have HR9:=Lib.hid hd2
    clear hxy
    go_wp2_with fail
    go_ret
    exact ⟨by rw [hr.out,HS.out,HR9.out];rfl,hW⟩
   ·have hd1:decide (y=x)=false:=decide_eq_false hxy
    have hd2:(y == x)=false:=beq_eq_false_iff_ne.2 hxy
    have HR9:=Lib.hid hd2
    clear hxy
    go_wp2_with fail
    go_roundw
    case rel=>exact ⟨k + 1,by go_num,by omega,by show _=_;rw [hr.out,HS.out,HR9.out];rfl,hW⟩
    case measure=>simp [intOf];omega
  ·have HD:=Lib.hid (show l.drop k=[] from List.drop_eq_nil_of_le (by rw [←hl.1];omega))
   go_wp2_with fail
   go_ret
   exact ⟨by rw [hr.out,HD.out];rfl,hW⟩
namespace K
def topS (A:Option Addr) (c:Nat):S:=⟨5,0,0,60,8000,A,1,c,[1000]⟩
def topQ:Q:=⟨1,0,600,5,0,9,none,0,0,[]⟩
def badTS (nd:Int) (r:List Q) (most:Nat) (s:S):Bool:=!T.few s r most || (!(T.check s == 0) || decide (nd≤s.depot))
def badTQ (nd:Int) (q:Q):Bool:=decide (6 < q.n) || (!T.right q || decide (nd≤q.node))
def topFew (nd:Int) (n:Nat) (l:List Ro) (ss:List S) (r:List Q) (most:Nat):Bool:=few27 nd n && (decide (ss.length≤2) && (decide (r.length≤most) && ((netErr nd l == 0) && (!ss.any (badTS nd r most) && !r.any (badTQ nd)))))
end K
structure TopFew (x:Cs) (most:Nat):Prop where
 few:K.few27 x.nd x.n=true
 sn:x.ss.length≤2
 m:x.r.length≤most
 net:K.netErr x.nd x.l=0
 s:∀ s ∈ x.ss,T.few s x.r most=true∧T.check s=0∧s.depot < x.nd
 r:∀ q ∈ x.r,q.n≤6∧T.right q=true∧q.node < x.nd
theorem topFew_iff {x:Cs} {most:Nat} (h:K.topFew x.nd x.n x.l x.ss x.r most=true):TopFew x most:=by
 simp only [K.topFew,Bool.and_eq_true,decide_eq_true_eq,beq_iff_eq,Bool.not_eq_true',List.any_eq_false] at h
 obtain ⟨h1,h2,h3,h4,h5,h6⟩:=h
 refine ⟨h1,h2,h3,h4,fun s hs=>?_,fun q hq=>?_⟩
 ·have:=h5 s hs
  simp only [K.badTS,Bool.or_eq_true,Bool.not_eq_true',beq_eq_false_iff_ne,decide_eq_true_eq,not_or] at this
  refine ⟨by simpa using this.1,by simpa using this.2.1,by have:=this.2.2;omega⟩
 ·have:=h6 q hq
  simp only [K.badTQ,Bool.or_eq_true,Bool.not_eq_true',decide_eq_true_eq,not_or] at this
  refine ⟨by have:=this.1;omega,by simpa using this.2.1,by have:=this.2.2;omega⟩
set_option maxRecDepth 100000 in
set_option maxHeartbeats 16000000 in
theorem wholeFew_any (x:Cs) (most:Nat) (hmo:most≤1000) (w:World) (hR:Roads w x.A x.n x.l) (hSS:Shifts w x.SA x.sn x.ss) (hQ:Reqs w x.B x.m x.r) :
  Calls Tryz.prog 57 #[.agg #[.int .i64 x.nd,.slice x.A x.n x.c],.slice x.SA x.sn x.sc,.slice x.B x.m x.d,.int .i64 (most:Int)] w fun e w'=>e=.returned (.bool (K.topFew x.nd x.n x.l x.ss x.r most))∧Below w.heap.size w w':=by
 obtain ⟨R,hRR⟩:∃ R,R=K.topFew x.nd x.n x.l x.ss x.r most:=⟨_,rfl⟩
 rw [←hRR]
 have HR:=Lib.hid (show R=(K.few27 x.nd x.n && (decide (x.ss.length≤2) && (decide (x.r.length≤most) && ((K.netErr x.nd x.l == 0) && (!x.ss.any (K.badTS x.nd x.r most) && !x.r.any (K.badTQ x.nd)))))) from hRR)
 clear hRR
 obtain ⟨w1,hw1⟩:∃ w1:World,w1=w.alloc (.cells #[.int .i64 x.nd,.slice x.A x.n x.c] 24):=⟨_,rfl⟩
 have b0:Below w.heap.size w w1:=by rw [hw1];exact (Below.refl _ _).alloc (Nat.le_refl _) _
 obtain ⟨G0,hG0⟩:∃ G0,G0=w.heap.size:=⟨_,rfl⟩
 have hN:Net w1 G0 x.nd x.A x.n x.c:=by rw [hw1,hG0];exact Net.new w x.nd x.A x.n x.c
 have HSN:=Lib.hid hSS.1.1
 have HRN:=Lib.hid hQ.1
 have p0:=hN.c0
 have p1:=hN.c1
 obtain ⟨zf,hzf⟩:∃ z,z=K.few27 x.nd x.n:=⟨_,rfl⟩
 go_enter Tryz.func57,Tryz.ntmps57
 go_wp2_with fail
 rw [←hw1,←hG0]
 clear hw1 hG0
 refine (rfew27_any x.nd x.A x.n x.c _).mono ?_
 rw [←hzf]
 rintro e w2 ⟨rfl,b2⟩
 have HZF:=Lib.hid hzf
 have hN:=hN.below b2
 have hb2:=bel b0 b2
 clear p0 p1 b0 b2 hzf
 cases zf
 ·have HX:=Lib.hid (show R=false by rw [HR.out,←HZF.out];rfl)
  go_wp2_with fail
  go_ret
  exact ⟨by rw [HX.out];rfl,hb2⟩
 by_cases h4:x.sn≤2
 rotate_left
 ·have hd:decide ((2:Int) < (x.sn:Int))=true:=by simp;omega
  have hd2:decide (2 < x.sn)=true:=by simp;omega
  have HX:=Lib.hid (show R=false by rw [HR.out,←HSN.out,show decide (x.sn≤2)=false from decide_eq_false h4];simp)
  clear h4
  go_wp2_with fail
  go_ret
  exact ⟨by rw [HX.out];rfl,hb2⟩
 have hd:decide ((2:Int) < (x.sn:Int))=false:=by simp;omega
 have hd2:decide (2 < x.sn)=false:=by simp;omega
 by_cases h5:x.m≤most
 rotate_left
 ·have hf:decide ((most:Int) < (x.m:Int))=true:=by simp;omega
  have hf2:decide (most < x.m)=true:=by simp;omega
  have HX:=Lib.hid (show R=false by rw [HR.out,←HRN.out,show decide (x.m≤most)=false from decide_eq_false h5];simp)
  clear h5
  go_wp2_with fail
  go_ret
  exact ⟨by rw [HX.out];rfl,hb2⟩
 have hf:decide ((most:Int) < (x.m:Int))=false:=by simp;omega
 have hf2:decide (most < x.m)=false:=by simp;omega
 have hn40:x.n≤1000000000:=by
  have h9:=HZF.out
  simp only [K.few27] at h9
  simp at h9
  omega
 obtain ⟨ne,hne⟩:∃ ne,ne=K.netErr x.nd x.l:=⟨_,rfl⟩
 have p0:=hN.c0
 have p1:=hN.c1
 go_wp2_with fail
 refine (rnetcheck_any x.nd x.A x.n x.c x.l _ (Lst.below hR hb2) hn40).mono ?_
 rw [←hne]
 rintro e w3 ⟨rfl,b3⟩
 have HNE:=Lib.hid hne
 have hN:=hN.below b3
 have hb3:=bel hb2 b3
 clear p0 p1 hne
 by_cases hz:ne=0
 rotate_left
 ·have hg:(ne != 0)=true:=by simp [bne,hz]
  have HX:=Lib.hid (show R=false by rw [HR.out,←HNE.out,show (ne == 0)=false by simp [hz]];simp)
  have hg2:decide (ne=0)=false:=by simp [hz]
  clear hz
  go_wp2_with fail
  go_ret
  exact ⟨by rw [HX.out];rfl,hb3⟩
 subst hz
 have HR2:=Lib.hid (show R=(!x.ss.any (K.badTS x.nd x.r most) && !x.r.any (K.badTQ x.nd)) by
  have h0:(K.netErr x.nd x.l == 0)=true:=by rw [←HNE.out];rfl
  have h9:decide (x.ss.length≤2)=true:=decide_eq_true (by rw [←HSN.out];exact h4)
  have h8:decide (x.r.length≤most)=true:=decide_eq_true (by rw [←HRN.out];exact h5)
  rw [HR.out,←HZF.out,h0,h9,h8,Bool.true_and,Bool.true_and,Bool.true_and,Bool.true_and])
 clear HR HNE
 go_wp2_with fail
 clear hd hd2 hf hf2
 go_loopw [9] (fun v wr=>∃ k:Nat,v=.int .i64 (k:Int)∧k≤x.sn∧Hid (x.ss.any (K.badTS x.nd x.r most)=(x.ss.drop k).any (K.badTS x.nd x.r most))∧Below w3.heap.size w3 wr) (fun v _=>x.sn - (intOf v).toNat)
 case atStart=>exact ⟨0,rfl,Nat.zero_le _,(by show _=_;rw [List.drop_zero]),Below.refl _ _⟩
 case round =>
  obtain ⟨k,rfl,hk,hr,hbr⟩:=hrel
  have hbw:=bel hb3 hbr
  by_cases hlt:k < x.sn
  ·obtain ⟨ad,s,hA,hs,hI,c0,c1,c2,c3,c4,c5⟩:=(hSS.below hbw).at_ hlt
   have HS:=Lib.hid (drop_any (p:=K.badTS x.nd x.r most) hs)
   have k0:(0:Int)≤(k:Int):=by omega
   have k1:(k:Int) < (x.sn:Int):=by omega
   have kd:decide ((k:Int) < (x.sn:Int))=true:=decide_eq_true k1
   have kd2:decide (k < x.sn)=true:=decide_eq_true hlt
   obtain ⟨zt,hzt⟩:∃ zt,zt=T.few s x.r most:=⟨_,rfl⟩
   obtain ⟨ce,hce⟩:∃ ce,ce=T.check s:=⟨_,rfl⟩
   have hQr:=hQ.below hbw
   have CF:∀ i:Beh wr,Calls Tryz.prog 64 #[.agg #[.int .i64 s.day,.int .i64 s.depot,.int .i64 s.start,.int .i64 s.end_,.int .i64 s.tare,.slice s.A s.n s.c],.slice x.B x.m x.d,.int .i64 (most:Int)] i.val fun e w'=>e=.returned (.bool zt)∧Below i.val.heap.size i.val w':=fun i=>by rw [hzt];exact few_any s x.B x.m x.d x.r most i.val (hQr.below i.property) hmo
   have HBD:=Lib.hid (show K.badTS x.nd x.r most s=(!zt || (!(ce == 0) || decide (x.nd≤s.depot))) by rw [hce,hzt];rfl)
   have q0:=Beh.cell (hN.below hbr).c0
   have e0:=Beh.cell c0
   have e1:=Beh.cell c1
   have e2:=Beh.cell c2
   have e3:=Beh.cell c3
   have e4:=Beh.cell c4
   have e5:=Beh.cell c5
   have HZT:=Lib.hid hzt
   have HCE:=Lib.hid hce
   have HI:=Lib.hid hI
   clear hs hI hce hzt c0 c1 c2 c3 c4 c5
   rw [hA]
   clear hA
   obtain ⟨z1,hz1⟩:∃ z,z=(ce != 0):=⟨_,rfl⟩
   have HZ1:=Lib.hid (show (ce == 0)=!z1 by rw [hz1];simp [bne])
   obtain ⟨z2,hz2⟩:∃ z,z=decide (x.nd≤s.depot):=⟨_,rfl⟩
   have HZ2:=Lib.hid hz2.symm
   have f1:=hz1.symm
   have f2:=hz2.symm
   clear hz1 hz2
   have HBB:=Lib.hid (show K.badTS x.nd x.r most s=(!zt || (z1 || z2)) by rw [HBD.out,HZ1.out,HZ2.out,Bool.not_not])
   cases zt
   ·go_upto_region 6 with fail
    refine reg_beh (by kernel_rfl) (by kernel_rfl) ?_
    repeat (go_big_quiet_step ((go_at_call 64;exact Beh.calls (CF _))))
    refine wpQuiet_nil ?_
    rintro w4 ⟨⟨w4,b4⟩,rfl⟩
    have hb42:=bel hb3 (bel hbr b4)
    clear CF q0 e0 e1 e2 e3 e4 e5 f1 f2
    go_wp2_with fail
    go_ret
    exact ⟨by rw [HR2.out,hr.out,HS.out,HBB.out];simp,hb42⟩
   have hsn:s.n≤1000000000:=by
    have h9:=HZT.out
    simp only [T.few] at h9
    have h8:decide (s.n≤6)=true:=by
     cases h7:decide (s.n≤6)
     ·rw [h7] at h9;simp at h9
     ·rfl
    have:=of_decide_eq_true h8
    omega
   have CK:∀ i:Beh wr,Calls Tryz.prog 118 #[.agg #[.int .i64 s.day,.int .i64 s.depot,.int .i64 s.start,.int .i64 s.end_,.int .i64 s.tare,.slice s.A s.n s.c]] i.val fun e w'=>e=.returned (.int .i64 ce)∧Below i.val.heap.size i.val w':=fun i=>by rw [HCE.out];exact check_any s i.val (HI.out.below i.property) hsn
   go_upto_region 6 with fail
   have h5:z1=true∨(z1=false∧z2=true)∨(z1=false∧z2=false):=by cases z1 <;> cases z2 <;> simp
   rcases h5 with rfl | ⟨rfl,rfl⟩ | ⟨rfl,rfl⟩
   all_goals
    refine reg_beh (by kernel_rfl) (by kernel_rfl) ?_
    repeat (go_big_quiet_step ((first | (go_at_call 64;exact Beh.calls (CF _)) | (go_at_call 118;exact Beh.calls (CK _)) | fail)))
    refine wpQuiet_nil ?_
    rintro w4 ⟨⟨w4,b4⟩,rfl⟩
    have hb4:=bel hbr b4
    have hb42:=bel hb3 hb4
    clear CF CK q0 e0 e1 e2 e3 e4 e5 f1 f2
    go_wp2_with fail
    first
     | (go_ret
        exact ⟨by rw [HR2.out,hr.out,HS.out,HBB.out];simp,hb42⟩)
     | (go_roundw
        case rel=>exact ⟨k + 1,by go_num,hlt,by show _=_;rw [hr.out,HS.out,HBB.out];rfl,hb4⟩
        case measure=>simp [intOf];omega)
  ·have HD:=Lib.hid (show x.ss.drop k=[] from List.drop_eq_nil_of_le (by rw [←HSN.out];omega))
   have hd:decide ((k:Int) < (x.sn:Int))=false:=by simp;omega
   have hd2:decide (k < x.sn)=false:=by simp;omega
   have HR3:=Lib.hid (show R=!x.r.any (K.badTQ x.nd) by rw [HR2.out,hr.out,HD.out];rfl)
   have hN3:=hN.below hbr
   clear hr HD HR2 hlt hk
   go_wp2_with fail
   clear hd hd2
   go_loopw [10] (fun v wq=>∃ k:Nat,v=.int .i64 (k:Int)∧k≤x.m∧Hid (x.r.any (K.badTQ x.nd)=(x.r.drop k).any (K.badTQ x.nd))∧Below wr.heap.size wr wq) (fun v _=>x.m - (intOf v).toNat)
   case atStart=>exact ⟨0,rfl,Nat.zero_le _,(by show _=_;rw [List.drop_zero]),Below.refl _ _⟩
   case round =>
    obtain ⟨k,rfl,hk,hr,hbq⟩:=hrel
    have hbw2:=bel hbw hbq
    by_cases hlt:k < x.m
    ·obtain ⟨ad,q,hA,hq,hI,c0,c1,c2,c3,c4,c5,c6⟩:=(hQ.below hbw2).at_ hlt
     have HS:=Lib.hid (drop_any (p:=K.badTQ x.nd) hq)
     have k0:(0:Int)≤(k:Int):=by omega
     have k1:(k:Int) < (x.m:Int):=by omega
     have kd:decide ((k:Int) < (x.m:Int))=true:=decide_eq_true k1
     have kd2:decide (k < x.m)=true:=decide_eq_true hlt
     obtain ⟨ce,hce⟩:∃ ce,ce=T.right q:=⟨_,rfl⟩
     have HBD:=Lib.hid (show K.badTQ x.nd q=(decide (6 < q.n) || (!ce || decide (x.nd≤q.node))) by rw [hce];rfl)
     have q0:=Beh.cell (hN3.below hbq).c0
     have e0:=Beh.cell c0
     have e1:=Beh.cell c1
     have e2:=Beh.cell c2
     have e3:=Beh.cell c3
     have e4:=Beh.cell c4
     have e5:=Beh.cell c5
     have e6:=Beh.cell c6
     have HCE:=Lib.hid hce
     have HI:=Lib.hid hI
     clear hq hI hce c0 c1 c2 c3 c4 c5 c6
     rw [hA]
     clear hA
     by_cases hq6:q.n≤6
     rotate_left
     ·have g1:decide ((6:Int) < (q.n:Int))=true:=by simp;omega
      have g2:decide (6 < q.n)=true:=by simp;omega
      have HBB:=Lib.hid (show K.badTQ x.nd q=true by rw [HBD.out,g2];rfl)
      go_upto_region 11 with fail
      refine reg_beh (by kernel_rfl) (by kernel_rfl) ?_
      repeat (go_big_quiet_step (fail))
      refine wpQuiet_nil ?_
      rintro w4 ⟨⟨w4,b4⟩,rfl⟩
      have hb42:=bel hbw (bel hbq b4)
      clear q0 e0 e1 e2 e3 e4 e5 e6 g1 g2
      go_wp2_with fail
      go_ret
      exact ⟨by rw [HR3.out,hr.out,HS.out,HBB.out];rfl,hb42⟩
     have g1:decide ((6:Int) < (q.n:Int))=false:=by simp;omega
     have g2:decide (6 < q.n)=false:=by simp;omega
     have CK:∀ i:Beh wr,Calls Tryz.prog 119 #[.agg #[.int .i64 q.node,.int .i64 q.room,.int .i64 q.kilos,.int .i64 q.service,.int .i64 q.frm,.int .i64 q.by_,.slice q.A q.n q.c]] i.val fun e w'=>e=.returned (.bool ce)∧Below i.val.heap.size i.val w':=fun i=>by rw [HCE.out];exact tright_any q i.val (HI.out.below i.property) (by omega)
     obtain ⟨z2,hz2⟩:∃ z,z=decide (x.nd≤q.node):=⟨_,rfl⟩
     have HZ2:=Lib.hid hz2.symm
     have f2:=hz2.symm
     clear hz2
     have HBB:=Lib.hid (show K.badTQ x.nd q=(!ce || z2) by rw [HBD.out,g2,HZ2.out];rfl)
     go_upto_region 11 with fail
     have h5:ce=false∨(ce=true∧z2=true)∨(ce=true∧z2=false):=by cases ce <;> cases z2 <;> simp
     rcases h5 with rfl | ⟨rfl,rfl⟩ | ⟨rfl,rfl⟩
     all_goals
      refine reg_beh (by kernel_rfl) (by kernel_rfl) ?_
      repeat (go_big_quiet_step ((go_at_call 119;exact Beh.calls (CK _))))
      refine wpQuiet_nil ?_
      rintro w4 ⟨⟨w4,b4⟩,rfl⟩
      have hb4:=bel hbq b4
      have hb42:=bel hbw hb4
      clear CK q0 e0 e1 e2 e3 e4 e5 e6 f2
      go_wp2_with fail
      first
       | (go_ret
          exact ⟨by rw [HR3.out,hr.out,HS.out,HBB.out];rfl,hb42⟩)
       | (go_roundw
          case rel=>exact ⟨k + 1,by go_num,hlt,by show _=_;rw [hr.out,HS.out,HBB.out];rfl,hb4⟩
          case measure=>simp [intOf];omega)
    ·have HD:=Lib.hid (show x.r.drop k=[] from List.drop_eq_nil_of_le (by rw [←HRN.out];omega))
     have hd:decide ((k:Int) < (x.m:Int))=false:=by simp;omega
     have hd2:decide (k < x.m)=false:=by simp;omega
     go_wp2_with fail
     go_ret
     exact ⟨by rw [HR3.out,hr.out,HD.out];rfl,hbw2⟩
set_option maxRecDepth 100000 in
set_option maxHeartbeats 4000000 in
theorem net113_any (w:World):Calls Tryz.prog 113 #[] w fun e w'=>(∃ A c A2 c2 SA sc,e=.returned (.tuple #[.agg #[.int .i64 2,.slice A 2 c],.slice SA 1 sc])∧Roads w' A 2 K.exL32∧Shifts w' SA 1 [K.topS A2 c2])∧Below w.heap.size w w':=by
 go_enter Tryz.func113,Tryz.ntmps113
 go_wp2_with fail
 obtain ⟨l5,hl5⟩:∃ l5:List Obj,l5=[.cells #[.int .i64 2,.slice (some ⟨w.heap.size + 1,0,none⟩) 2 2] 24,.cells #[.int .i64 0,.int .i64 1,.int .i64 10,.int .i64 (-1),.int .i64 1,.int .i64 0,.int .i64 10,.int .i64 (-1)] 134,
  .cells #[.int .i64 2,.slice (some ⟨w.heap.size + 1,0,none⟩) 2 2] 24,.cells #[.int .i64 1000] 3,.cells #[.int .i64 5,.int .i64 0,.int .i64 0,.int .i64 60,.int .i64 8000,.slice (some ⟨w.heap.size + 1 + 1 + 1,0,none⟩) 1 1] 63]:=⟨_,rfl⟩
 obtain ⟨wz,hwz⟩:∃ wz:World,wz=Als w l5:=⟨_,rfl⟩
 have hb:=Als.below l5 w
 have g:=Als.get l5 w
 rw [←hwz] at hb g
 have e0:=g 0 _ (by rw [hl5];rfl)
 have e1:=g 1 _ (by rw [hl5];rfl)
 have e3:=g 3 _ (by rw [hl5];rfl)
 have e4:=g 4 _ (by rw [hl5];rfl)
 rw [hl5] at hwz
 simp only [Als] at hwz
 rw [←hwz]
 have c0:wz.cell? ⟨w.heap.size,0,none⟩=some (.int .i64 2):=blk_cell e0 0 _ rfl
 have c1:wz.cell? ⟨w.heap.size,1,none⟩=some (.slice (some ⟨w.heap.size + 1,0,none⟩) 2 2):=blk_cell e0 1 _ rfl
 refine bodyPost_ret_by (v:=.tuple #[.agg #[.int .i64 2,.slice (some ⟨w.heap.size + 1,0,none⟩) 2 2],.slice (some ⟨w.heap.size + 1 + 1 + 1 + 1,0,none⟩) 1 1]) (by rw [results_cell_tmp rfl];simp [go_sem,c0,c1]) rfl ?_
 exact ⟨⟨some ⟨w.heap.size + 1,0,none⟩,2,some ⟨w.heap.size + 1 + 1 + 1,0,none⟩,1,some ⟨w.heap.size + 1 + 1 + 1 + 1,0,none⟩,1,rfl,⟨rfl,Rd.of_block (cs:=(K.exL32.flatMap roadCells).toArray) e1 4 2 rfl⟩,⟨⟨rfl,Rd.of_block (cs:=([K.topS (some ⟨w.heap.size + 1 + 1 + 1,0,none⟩) 1].flatMap S.cells).toArray) e4 6 1 rfl⟩,fun s hs=>by rw [List.mem_singleton.1 hs];exact ⟨rfl,Rd.of_block (cs:=(intCells [1000]).toArray) e3 1 1 rfl⟩⟩⟩,hb⟩
end Go.Proofs.YtippdjmpkafifaaGreat
