import Derived.Test.YtippdjmpkafifaaGreatCK15
import Derived.Test.YtippdjmpkafifaaGreatCK12
import Derived.Test.YtippdjmpkafifaaGreatCK14
import Derived.Test.YtippdjmpkafifaaGreatCK7
namespace Go.Proofs.YtippdjmpkafifaaGreat
open Go.RowKit
theorem len_split (p:Int→Bool):∀ v:List Int,v.length=(v.filter p).length + (v.filter fun j=>!p j).length
 | []=>rfl
 | a :: v=>by
  have ih:=len_split p v
  cases h:p a
  ·rw [List.filter_cons_of_neg (by simp [h]),List.filter_cons_of_pos (by simp [h]),List.length_cons,List.length_cons];omega
  ·rw [List.filter_cons_of_pos h,List.filter_cons_of_neg (by simp [h]),List.length_cons,List.length_cons];omega
theorem asc_len:∀ (v:List Int) (a b:Int),v.Pairwise (· < ·)→(∀ j ∈ v,a≤j∧j < b)→a≤b→(v.length:Int)≤b - a
 | [],a,b,_,_,h=>by show ((0:Nat):Int)≤b - a;omega
 | j :: v,a,b,h,hj,_=>by
  obtain ⟨h1,h2⟩:=List.pairwise_cons.1 h
  have h3:=hj j List.mem_cons_self
  have ih:=asc_len v (j + 1) b h2 (fun k hk=>⟨by have:=h1 k hk;omega,(hj k (List.mem_cons_of_mem _ hk)).2⟩) (by omega)
  rw [List.length_cons]
  omega
structure CSays (nd:Int) (l:List Ro) (R:List S) (r:List Q) (kept:List Int) (tours:List (Int × K.Tr)) (reasons:List (List (Int × List Int × List Lb))) (Z:Bool) (i:Nat) (sv:List Q):Prop where
 val:Z=K.kcheckGo nd l R kept tours i (r.drop i) sv (reasons.drop (i - sv.length))
 len:sv.length=(kept.filter fun j=>decide (j < (i:Int))).length
 le:sv.length≤i
 inr:∀ q ∈ sv,q ∈ r
section
variable {nd : Int} {l : List Ro} {R : List S} {r : List Q} {kept : List Int} {tours : List (Int × K.Tr)} {reasons : List (List (Int × List Int × List Lb))} {Z : Bool} {i : Nat} {sv : List Q} {q : Q}
theorem CSays.zero (h:K.asc33 r.length (-1) kept=true):CSays nd l R r kept tours reasons (K.kcheckGo nd l R kept tours 0 r [] reasons) 0 []:=by
 refine ⟨rfl,?_,Nat.le_refl _,fun q h=>(by cases h)⟩
 rw [K.filter_none fun j hj=>by have:=((K.asc33_iff.1 h).2 j hj).1;omega]
 rfl
theorem CSays.yes (h:CSays nd l R r kept tours reasons Z i sv) (ha:K.asc33 r.length (-1) kept=true) (hq:r[i]? = some q) (hc:kept.contains (i:Int)=true):CSays nd l R r kept tours reasons Z (i + 1) (sv ++ [q]):=by
 obtain ⟨hi,e⟩:=List.getElem?_eq_some_iff.1 hq
 have hf:=K.filter_succ (i:=(i:Int)) (K.asc33_iff.1 ha).1
 rw [if_pos hc] at hf
 refine ⟨?_,?_,?_,fun p hp=>?_⟩
 ·have hv:=h.val
  rw [List.drop_eq_getElem_cons hi,e,K.kcheckGo,if_pos hc] at hv
  rw [hv,List.length_append,List.length_singleton,Nat.add_sub_add_right]
 ·rw [List.length_append,h.len,Int.natCast_add,Int.natCast_one,hf,List.length_append]
  rfl
 ·have:=h.le
  rw [List.length_append,List.length_singleton]
  omega
 ·rcases List.mem_append.1 hp with hp | hp
  ·exact h.inr p hp
  ·rw [List.mem_singleton.1 hp];exact List.mem_of_getElem? hq
theorem CSays.no (h:CSays nd l R r kept tours reasons Z i sv) (ha:K.asc33 r.length (-1) kept=true) (hn:kept.length + reasons.length=r.length) (hq:r[i]? = some q) (hc:kept.contains (i:Int)=false) :
  ∃ b,reasons[i - sv.length]? = some b∧(K.refutes nd l R (sv ++ [q]) b=false→Z=false)∧(K.refutes nd l R (sv ++ [q]) b=true→CSays nd l R r kept tours reasons Z (i + 1) sv):=by
 obtain ⟨hi,e⟩:=List.getElem?_eq_some_iff.1 hq
 obtain ⟨a1,a2⟩:=K.asc33_iff.1 ha
 have hf:=K.filter_succ (i:=(i:Int)) a1
 rw [if_neg (by rw [hc];simp)] at hf
 have hle:=h.le
 have hlt:i - sv.length < reasons.length:=by
  have h1:=len_split (fun j=>decide (j < (i:Int))) kept
  have h2:=h.len
  have h3:=asc_len (kept.filter fun j=>!decide (j < (i:Int))) ((i:Int) + 1) (r.length:Int) (a1.sublist List.filter_sublist) (fun j hj=>by
   obtain ⟨g1,g2⟩:=List.mem_filter.1 hj
   have g3:=(a2 j g1).2
   have g4:j ≠ (i:Int):=fun e=>by rw [e] at g1;rw [List.contains_iff_mem.2 g1] at hc;cases hc
   simp at g2
   omega) (by omega)
  omega
 have hg:reasons[i - sv.length]? = some (reasons[i - sv.length]'hlt):=List.getElem?_eq_getElem hlt
 have hv:=h.val
 rw [List.drop_eq_getElem_cons hi,e,K.kcheckGo,if_neg (by rw [hc];simp),List.drop_eq_getElem_cons hlt] at hv
 change Z=(K.refutes nd l R (sv ++ [q]) (reasons[i - sv.length]'hlt) && K.kcheckGo nd l R kept tours (i + 1) (r.drop (i + 1)) sv (reasons.drop (i - sv.length + 1))) at hv
 refine ⟨_,hg,fun hr=>?_,fun hr=>⟨?_,?_,by omega,h.inr⟩⟩
 ·rw [hv,hr,Bool.false_and]
 ·rw [hr,Bool.true_and] at hv
  rw [hv,show i + 1 - sv.length=i - sv.length + 1 by omega]
 ·rw [h.len,Int.natCast_add,Int.natCast_one,hf]
end
theorem cs_snoc {w:World} {x:Cs} (hx:CsAt w x) {RA:Option Addr} {rn rc:Nat} {RL:List S} (hRS:Shifts w RA rn RL) (hrn:rn≤1000000) (hrs:∀ s ∈ RL,s.n≤1000000) {sv:List Q} {B:Nat} {v:Value} {n:Nat} (hn:n=sv.length)
  (hv:w.ownsRow B 47 7 v n (sv.flatMap Q.cells)) (hin:∀ p ∈ sv,p ∈ x.r) (hl:n≤1000000):∃ SB cB,v=.slice SB n cB∧CsAt w ⟨x.nd,x.A,x.n,x.c,x.l,RA,rn,rc,RL,SB,n,cB,sv⟩:=by
 obtain ⟨SB,cB,rfl,hRv,-⟩:=own_form hv
 exact ⟨SB,cB,rfl,hx.net,hRS,⟨hn,by rw [reqCells_flat];exact hRv,fun p hp=>hx.reqs.2.2 p (hin p hp)⟩,hx.b1,fun s hs=>by have:=hrs s hs;omega,by show rn≤_;omega,by show n≤_;omega,fun p hp=>hx.b5 p (hin p hp)⟩
theorem Rsn.at_ {w:World} {A:Option Addr} {n k:Nat} {l:List RV} (h:Rsn w A n l) (hk:k < n):∃ ad y,A=some ad∧l[k]? = some y∧Blks w y.A y.n y.bl∧w.cell? (ad.add k)=some (.slice y.A y.n y.c):=by
 obtain ⟨ad,y,hA,hl,hc⟩:=Lst.get (f:=RV.cells) (s:=1) (fun _=>rfl) h.1 hk
 refine ⟨ad,y,hA,hl,h.2 y (List.mem_of_getElem? hl),?_⟩
 have:=hc 0 _ (by omega) rfl
 rwa [Nat.mul_one,Nat.add_zero] at this
theorem any_contains {l:List Int} {x:Int}:l.any (· == x)=l.contains x:=by
 induction l with
 | nil=>rfl
 | cons a l ih =>
  rw [List.any_cons,List.contains_cons,ih]
  congr 1
  exact Bool.beq_comm ..
set_option maxRecDepth 100000 in
set_option maxHeartbeats 16000000 in
theorem check52_any (x:Cs) (LA:Option Addr) (ln lc:Nat) (lost:List Int) (KA:Option Addr) (kn kc:Nat) (kept:List Int) (TA:Option Addr) (tn tc:Nat) (ts:List TV) (RA:Option Addr) (rn rc:Nat) (rl:List RV) (w:World) (hx:CsAt w x) (hL:Ints w LA ln lost) (hK:Ints w KA kn kept) (hT:Tours w TA tn ts) (hR:Rsn w RA rn rl)
  (hln:ln≤1000000000) (hkn:kn≤1000000000) (hFT:FewT tn ts) (hFR:FewR rn rl) (hsn:x.sn≤1000000) (hsr:∀ s ∈ x.ss,s.n≤1000000) :
  Calls Tryz.prog 52 #[.agg #[.int .i64 x.nd,.slice x.A x.n x.c,.slice x.SA x.sn x.sc,.slice x.B x.m x.d],.slice LA ln lc,.slice KA kn kc,.slice TA tn tc,.slice RA rn rc] w fun e w'=>e=.returned (.bool (K.kcheck x.nd x.l x.ss x.r lost kept (ts.map TV.pr) (rl.map RV.pr)))∧Below w.heap.size w w':=by
 obtain ⟨w1,hw1⟩:∃ w1:World,w1=w.alloc (.cells #[.int .i64 x.nd,.slice x.A x.n x.c,.slice x.SA x.sn x.sc,.slice x.B x.m x.d] 44):=⟨_,rfl⟩
 obtain ⟨g,hg⟩:∃ g,g=w.heap.size:=⟨_,rfl⟩
 have b1:Below w.heap.size w w1:=by rw [hw1];exact (Below.refl _ _).alloc (Nat.le_refl _) _
 have hN1:BkBlk w1 g x:=by rw [hw1,hg];exact BkBlk.new _ _
 have p0:=blk_cell hN1 0 _ rfl
 have p1:=blk_cell hN1 1 _ rfl
 have p2:=blk_cell hN1 2 _ rfl
 have p3:=blk_cell hN1 3 _ rfl
 have CR:=rest45_any x LA ln lc lost w1 (hx.below b1) (hL.below b1) hln hsn hsr
 obtain ⟨Z,hZ⟩:∃ Z,Z=K.kcheck x.nd x.l x.ss x.r lost kept (ts.map TV.pr) (rl.map RV.pr):=⟨_,rfl⟩
 rw [←hZ]
 have HZ:=Lib.hid hZ
 clear hZ
 have HRN:=Lib.hid hx.reqs.1
 have HKN:=Lib.hid hK.1
 have HLN:=Lib.hid (show (rl.map RV.pr).length=rn by rw [List.length_map,hR.1.1])
 have hb4:=hx.b4
 have hfr:=hFR.1
 go_enter Tryz.func52,Tryz.ntmps52
 go_upto_region 1 with fail
 rw [←hw1,←hg]
 clear hw1 hg
 go_wp2_with fail
 refine CR.mono ?_
 obtain ⟨er,her⟩:∃ er,er=K.restE x.nd x.l x.ss x.r lost:=⟨_,rfl⟩
 rw [←her]
 have HER:=Lib.hid her
 clear her
 rintro e w2 ⟨⟨RA2,rn2,rc2,RL,rfl,hRS,hRB⟩,b2⟩
 have hN2:=hN1.below b2
 have hb2:=bel b1 b2
 clear CR p0 p1 p2 p3 b1 b2 hN1
 have p0:=blk_cell hN2 0 _ rfl
 have p1:=blk_cell hN2 1 _ rfl
 have p2:=blk_cell hN2 2 _ rfl
 have p3:=blk_cell hN2 3 _ rfl
 by_cases hz:er=0
 rotate_left
 ·have HX:=Lib.hid (show Z=false by rw [HZ.out];exact K.keep_wrong (by rw [←HER.out];exact hz) _ _ _)
  have hd:(er != 0)=true:=by simp [bne,hz]
  go_wp2_with fail
  go_ret
  exact ⟨by rw [HX.out];rfl,hb2⟩
 subst hz
 have hE0:K.restE x.nd x.l x.ss x.r lost=0:=HER.out.symm
 have HP:=Lib.hid (K.restE_0 hE0).2
 have hm6:x.m≤6:=by rw [hx.reqs.1];exact (K.pcheck_ok HP.out).2.2.2.2
 obtain ⟨R,hRe⟩:∃ R,R=K.rest34 x.nd x.l x.ss x.r lost:=⟨_,rfl⟩
 rw [←hRe] at hRB
 have HR:=Lib.hid (show R=K.restGo lost 0 x.ss by rw [hRe];unfold K.rest34;rw [if_pos hE0])
 obtain ⟨hrn,hrs⟩:=rest_small hx hsn hsr (by rw [hRe];exact rest34_sub) hRS hRB
 have HZ2:=Lib.hid (show Z=(K.asc33 x.r.length (-1) kept && ((kept.length + (rl.map RV.pr).length == x.r.length) && K.kcheckGo x.nd x.l R kept (ts.map TV.pr) 0 x.r [] (rl.map RV.pr))) by
  rw [HZ.out,HR.out];unfold K.kcheck;rw [hE0];rfl)
 have HRB:=Lib.hid hRB
 clear HZ HER hE0 hRe hRB
 have CA:=rising107_any KA kn kc kept x.m w2 (hK.below hb2) hkn (by omega)
 obtain ⟨z,hz⟩:∃ z,z=K.asc33 x.m (-1) kept:=⟨_,rfl⟩
 rw [←hz] at CA
 have HA:=Lib.hid (show z=K.asc33 x.r.length (-1) kept by rw [hz,HRN.out])
 clear hz
 obtain ⟨sm,hsm⟩:∃ sm,sm=kn + rn:=⟨_,rfl⟩
 have hwr:IntKind.i64.wrap ((kn:Int) + (rn:Int))=(sm:Int):=by rw [IntWalk.i64_in _ (by omega)];omega
 have HSS:=Lib.hid hsm
 clear hsm
 cases z
 ·have HX:=Lib.hid (show Z=false by rw [HZ2.out,←HA.out,Bool.false_and])
  go_wp2_with fail
  refine CA.mono ?_
  rintro e w3 ⟨rfl,b3⟩
  go_wp2_with fail
  go_ret
  exact ⟨by rw [HX.out];rfl,bel hb2 b3⟩
 go_wp2_with fail
 refine CA.mono ?_
 rintro e w3 ⟨rfl,b3⟩
 have hb3:=bel hb2 b3
 have hN3:=hN2.below b3
 have hRS3:=hRS.below b3
 clear CA p0 p1 p2 p3 hN2 hb2 b3 hRS
 have p0:=blk_cell hN3 0 _ rfl
 have p1:=blk_cell hN3 1 _ rfl
 have p2:=blk_cell hN3 2 _ rfl
 have p3:=blk_cell hN3 3 _ rfl
 by_cases hs:sm=x.m
 rotate_left
 ·have HX:=Lib.hid (show Z=false by rw [HZ2.out,←HA.out,Bool.true_and,HLN.out,←HKN.out,←HRN.out,←HSS.out,beq_eq_false_iff_ne.2 hs,Bool.false_and])
  have hd:((sm:Int) != (x.m:Int))=true:=by simp [bne];omega
  go_wp2_with fail
  go_ret
  exact ⟨by rw [HX.out];rfl,hb3⟩
 rw [hs] at hwr
 have HSM:=Lib.hid (show kept.length + (rl.map RV.pr).length=x.r.length by rw [HLN.out,←HKN.out,←HRN.out,←HSS.out];exact hs)
 have HZ3:=Lib.hid (show Z=K.kcheckGo x.nd x.l R kept (ts.map TV.pr) 0 x.r [] (rl.map RV.pr) by rw [HZ2.out,←HA.out,Bool.true_and,HSM.out,beq_self_eq_true,Bool.true_and])
 clear HZ2 hs HSS
 obtain ⟨B,hB⟩:∃ B,B=w3.heap.size:=⟨_,rfl⟩
 have hx3:=hx.below hb3
 have hK3:=hK.below hb3
 have hR3:=hR.below hb3
 have hT3:=hT.below hb3
 go_wp2_with fail
 clear p0 p1 p2 p3 hwr
 go_loopw [13,46] (fun v13 v46 wr=>∃ (i:Nat) (sv:List Q),v46=.int .i64 i∧i≤x.m∧wr.ownsRow B 47 7 v13 sv.length (sv.flatMap Q.cells)∧CSays x.nd x.l R x.r kept (ts.map TV.pr) (rl.map RV.pr) Z i sv∧Below w3.heap.size w3 wr) (fun _ v46 _=>x.m - (intOf v46).toNat)
 case atStart=>exact ⟨0,[],rfl,Nat.zero_le _,World.ownsRow_nil _ _ _ _,by rw [HZ3.out];exact CSays.zero HA.out.symm,Below.refl _ _⟩
 case round =>
  obtain ⟨i,sv,rfl,hi,hown,hS,hbr⟩:=hrel
  have hxr:=hx3.below hbr
  have hNr:=hN3.below hbr
  have hsl:=hS.le
  by_cases hlt:i < x.m
  ·obtain ⟨ad,q,hA,hq,hW,c0,c1,c2,c3,c4,c5,c6⟩:=hxr.reqs.at_ hlt
   have HQ:=Lib.hid hq
   have k0:(0:Int)≤(i:Int):=by omega
   have k1:(i:Int) < (x.m:Int):=by omega
   obtain ⟨gs,hgs⟩:∃ gs,gs=wr.heap.size:=⟨_,rfl⟩
   obtain ⟨w4,hw4⟩:∃ w4:World,w4=wr.alloc (.cells #[.int .i64 q.node,.int .i64 q.room,.int .i64 q.kilos,.int .i64 q.service,.int .i64 q.frm,.int .i64 q.by_,.slice q.A q.n q.c] 47):=⟨_,rfl⟩
   have b4:Below wr.heap.size wr w4:=by rw [hw4];exact (Below.refl _ _).alloc (Nat.le_refl _) _
   have hB4:QBlk w4 gs q:=by rw [hw4,hgs];exact QBlk.new _ _
   have CK:=contains64_any KA kn kc kept i w4 (hK3.below (bel hbr b4)) hkn
   obtain ⟨z,hz⟩:∃ z,z=kept.contains (i:Int):=⟨_,rfl⟩
   rw [any_contains,←hz] at CK
   have HC:=Lib.hid hz
   have hin:∀ p ∈ sv ++ [q],p ∈ x.r:=fun p hp=>by
    rcases List.mem_append.1 hp with hp | hp
    ·exact hS.inr p hp
    ·rw [List.mem_singleton.1 hp];exact List.mem_of_getElem? HQ.out
   rw [hA]
   have HAd:=Lib.hid hA
   clear hA hq hz
   go_upto_region 8 with fail
   rw [←hw4,←hgs]
   clear hw4 hgs c0 c1 c2 c3 c4 c5 c6
   go_wp2_with fail
   refine CK.mono ?_
   rintro e w5 ⟨rfl,b5⟩
   have b45:=bel b4 b5
   have hB5:=hB4.below b5
   have hown5:=own_below hown b45
   have hx5:=hxr.below b45
   have hN5:=hNr.below b45
   have hb5:=bel hbr b45
   clear CK hB4 b4 b5
   obtain ⟨s0,s1,s2,s3,s4,s5,s6⟩:=hB5.cells
   cases z
   rotate_left
   ·have HSY:=Lib.hid (hS.yes HA.out.symm HQ.out HC.out.symm)
    obtain ⟨w8,hw8⟩:∃ w8:World,w8=w5.alloc (.cells #[.int .i64 q.node,.int .i64 q.room,.int .i64 q.kilos,.int .i64 q.service,.int .i64 q.frm,.int .i64 q.by_,.slice q.A q.n q.c] 47):=⟨_,rfl⟩
    obtain ⟨g8,hg8⟩:∃ g,g=w5.heap.size:=⟨_,rfl⟩
    have b8:Below w5.heap.size w5 w8:=by rw [hw8];exact (Below.refl _ _).alloc (Nat.le_refl _) _
    have hL8:w8.heap[g8]? = some (.cells #[.int .i64 q.node,.int .i64 q.room,.int .i64 q.kilos,.int .i64 q.service,.int .i64 q.frm,.int .i64 q.by_,.slice q.A q.n q.c] 47 (0,0)):=by rw [hw8,hg8];exact heap_alloc_new _ _
    have hown8:=own_below hown5 b8
    have hb8:=bel hb5 b8
    have hz8:B≤w8.heap.size:=by rw [hB];exact hb8.size
    obtain ⟨i0,hi0,hy0,hy1,hy2⟩:=info_parts clone120_info
    go_wp2_with (first
     | (at_builtin;rw [←hw8,←hg8];refine wp_append_rd rfl _ _ 26 rfl B 47 i0 (.agg #[.int .i64 0,.int .i64 0,.int .i64 0,.int .i64 0,.int .i64 0,.int .i64 0,.slice none 0 0]) 7 72 Tryz.underlying26 hi0 hy0 hy1 hy2 rfl (by decide) _ sv.length (sv.flatMap Q.cells) rfl hown8 (some ⟨g8,0,none⟩) 1 1 (Q.cells q) rfl (Rd.of_block hL8 7 1 rfl) (req_one q) (by simp only [maxLen];omega) (by omega) hz8 ?_;intro v9 w9 hown9 hgr9 ha9)
     | fail)
    have hb9:Below w3.heap.size w3 w9:=below_own2 hb8 hgr9 (fun g e=>by rw [←hB];exact (own_in hown8 g e).1)
    have hown9':w9.ownsRow B 47 7 v9 (sv ++ [q]).length ((sv ++ [q]).flatMap Q.cells):=by
     rw [List.length_append,List.flatMap_append,List.flatMap_singleton]
     exact hown9
    clear s0 s1 s2 s3 s4 s5 s6 hown8 hown9 hgr9 ha9
    go_roundw
    case rel=>(go_light;exact ⟨i + 1,sv ++ [q],by go_num,hlt,hown9',HSY.out,hb9⟩)
    case measure=>(go_light;simp [intOf];omega)
   ·obtain ⟨bb,hbb,hno,hyes⟩:=hS.no HA.out.symm HSM.out HQ.out HC.out.symm
    obtain ⟨j,hj⟩:∃ j,j=i - sv.length:=⟨_,rfl⟩
    rw [←hj] at hbb
    have hjn:j < rn:=by
     have:=(List.getElem?_eq_some_iff.1 hbb).1
     have:=HLN.out
     omega
    have hR5:=hR3.below hb5
    obtain ⟨adR,y,hRA,hy,hyB,cy⟩:=hR5.at_ hjn
    have HY:=Lib.hid (show y.bl.map BV.pr=bb by
     rw [List.getElem?_map,hy] at hbb
     injection hbb)
    have hFB:=(hFR.2 y (List.mem_of_getElem? hy)).1
    have HNO:=Lib.hid hno
    have HYES:=Lib.hid hyes
    have hsub:IntKind.i64.wrap ((i:Int) - (sv.length:Int))=((j:Nat):Int):=by rw [IntWalk.i64_in _ (by omega)];omega
    have j0:(0:Int)≤(j:Int):=by omega
    have j1:(j:Int) < (rn:Int):=by omega
    obtain ⟨SV,svc,rfl,hRv,-⟩:=own_form hown5
    have q0:=blk_cell hN5 0 _ rfl
    have q1:=blk_cell hN5 1 _ rfl
    have hbd:Below w5.heap.size w5 w5.drew:=(Below.refl _ _).drew
    have hmk:∀ w',Below w5.heap.size w5 w'→(fun w':World=>w'.cell? ⟨g,0,none⟩=some (.int .i64 x.nd)∧w'.cell? ⟨g,1,none⟩=some (.slice x.A x.n x.c)∧w'.cell? (adR.add j)=some (.slice y.A y.n y.c)∧w'.cell? ⟨gs,0,none⟩=some (.int .i64 q.node)∧w'.cell? ⟨gs,1,none⟩=some (.int .i64 q.room)∧w'.cell? ⟨gs,2,none⟩=some (.int .i64 q.kilos)∧w'.cell? ⟨gs,3,none⟩=some (.int .i64 q.service)∧w'.cell? ⟨gs,4,none⟩=some (.int .i64 q.frm)∧w'.cell? ⟨gs,5,none⟩=some (.int .i64 q.by_)∧w'.cell? ⟨gs,6,none⟩=some (.slice q.A q.n q.c)) w':=fun w' h =>
     ⟨(h.cell (cell_lt q0)).trans q0,(h.cell (cell_lt q1)).trans q1,(h.cell (cell_lt cy)).trans cy,(h.cell (cell_lt s0)).trans s0,(h.cell (cell_lt s1)).trans s1,(h.cell (cell_lt s2)).trans s2,(h.cell (cell_lt s3)).trans s3,(h.cell (cell_lt s4)).trans s4,(h.cell (cell_lt s5)).trans s5,(h.cell (cell_lt s6)).trans s6⟩
    have S0:=hmk _ (Below.refl _ _)
    have S0d:=hmk _ hbd
    have CW:=with112_any SV sv.length svc sv q w5.drew (hRv.below hbd) (by omega)
    have hxd:=hx5.below hbd
    have hRSd:=(hRS3.below hb5).below hbd
    have hyBd:=hyB.below hbd
    have hlen:sv.length + 1=(sv ++ [q]).length:=by rw [List.length_append];rfl
    have hl1:sv.length + 1≤1000000:=by omega
    have CW:Calls Tryz.prog 112 #[.slice SV sv.length svc,.agg #[.int .i64 q.node,.int .i64 q.room,.int .i64 q.kilos,.int .i64 q.service,.int .i64 q.frm,.int .i64 q.by_,.slice q.A q.n q.c]] w5.drew fun e w'=>(∃ SB cB,e=.returned (.slice SB (sv.length + 1) cB)∧CsAt w' ⟨x.nd,x.A,x.n,x.c,x.l,RA2,rn2,rc2,RL,SB,sv.length + 1,cB,sv ++ [q]⟩)∧Below w5.drew.heap.size w5.drew w':=by
     refine CW.mono ?_
     rintro e w6 ⟨⟨v6,rfl,hv6⟩,b6⟩
     obtain ⟨SB,cB,rfl,hCs⟩:=cs_snoc (rc:=rc2) (hxd.below b6) (hRSd.below b6) hrn hrs hlen hv6 hin hl1
     exact ⟨⟨SB,cB,rfl,hCs⟩,b6⟩
    clear hj hlen hl1 hRSd hxd
    rw [hRA]
    have HRA:=Lib.hid hRA
    clear hRA s0 s1 s2 s3 s4 s5 s6 q0 q1 cy hbb hno hyes hy
    go_wp2_with fail
    go_region_held3 (fun w':World=>w'.cell? ⟨g,0,none⟩=some (.int .i64 x.nd)∧w'.cell? ⟨g,1,none⟩=some (.slice x.A x.n x.c)∧w'.cell? (adR.add j)=some (.slice y.A y.n y.c)∧w'.cell? ⟨gs,0,none⟩=some (.int .i64 q.node)∧w'.cell? ⟨gs,1,none⟩=some (.int .i64 q.room)∧w'.cell? ⟨gs,2,none⟩=some (.int .i64 q.kilos)∧w'.cell? ⟨gs,3,none⟩=some (.int .i64 q.service)∧w'.cell? ⟨gs,4,none⟩=some (.int .i64 q.frm)∧w'.cell? ⟨gs,5,none⟩=some (.int .i64 q.by_)∧w'.cell? ⟨gs,6,none⟩=some (.slice q.A q.n q.c))
     (first | with_reducible exact S7 | with_reducible exact S6 | with_reducible exact S0d | with_reducible exact S0 | fail)
     (first
      | (go_at_call 112;refine CW.mono ?_;rintro e w6 ⟨⟨SB,cB,rfl,hCs⟩,b6⟩;have S6:=hmk _ (bel hbd b6))
      | (go_at_call 28;refine (refutes32_any ⟨x.nd,x.A,x.n,x.c,x.l,RA2,rn2,rc2,RL,SB,sv.length + 1,cB,sv ++ [q]⟩ y.A y.n y.c y.bl _ hCs (hyBd.below b6) hFB).mono ?_;rintro e w7 ⟨rfl,b7⟩;have S7:=hmk _ (bel (bel hbd b6) b7))
      | fail)
    rw [show K.refutes (Cs.nd ⟨x.nd,x.A,x.n,x.c,x.l,RA2,rn2,rc2,RL,SB,sv.length + 1,cB,sv ++ [q]⟩) (Cs.l ⟨x.nd,x.A,x.n,x.c,x.l,RA2,rn2,rc2,RL,SB,sv.length + 1,cB,sv ++ [q]⟩) (Cs.ss ⟨x.nd,x.A,x.n,x.c,x.l,RA2,rn2,rc2,RL,SB,sv.length + 1,cB,sv ++ [q]⟩) (Cs.r ⟨x.nd,x.A,x.n,x.c,x.l,RA2,rn2,rc2,RL,SB,sv.length + 1,cB,sv ++ [q]⟩) (y.bl.map BV.pr)=K.refutes x.nd x.l R (sv ++ [q]) bb by rw [HY.out];exact K.refutes_same rfl HRB.out _]
    obtain ⟨z,hz⟩:∃ z,z=K.refutes x.nd x.l R (sv ++ [q]) bb:=⟨_,rfl⟩
    rw [←hz]
    have HRZ:=Lib.hid hz
    have hb7:=bel hb5 (bel (bel hbd b6) b7)
    have hown7:=own_below hown (bel (bel (bel b45 hbd) b6) b7)
    clear hz hmk
    cases z
    ·have HX:=Lib.hid (HNO.out HRZ.out.symm)
     go_wp2_with fail
     go_ret
     exact ⟨by rw [HX.out];rfl,bel hb3 hb7⟩
    ·have HSY:=Lib.hid (HYES.out HRZ.out.symm)
     go_wp2_with fail
     rw [←HRA.out]
     go_roundw
     case rel=>(go_light;exact ⟨i + 1,sv,by go_num,hlt,hown7,HSY.out,hb7⟩)
     case measure=>(go_light;simp [intOf];omega)
  ·have hd:decide ((i:Int) < (x.m:Int))=false:=by simp;omega
   have hd2:decide (i < x.m)=false:=by simp;omega
   have HI:Hid (i=x.r.length):=Lib.hid (by rw [←HRN.out];omega)
   obtain ⟨SB,cB,rfl,hCs⟩:=cs_snoc (rc:=rc2) hxr (hRS3.below hbr) hrn hrs rfl hown hS.inr (by omega)
   have CC:=checks32_any ⟨x.nd,x.A,x.n,x.c,x.l,RA2,rn2,rc2,RL,SB,sv.length,cB,sv⟩ TA tn tc ts wr hCs (hT3.below hbr) hFT
   rw [show K.checks (Cs.nd ⟨x.nd,x.A,x.n,x.c,x.l,RA2,rn2,rc2,RL,SB,sv.length,cB,sv⟩) (Cs.l ⟨x.nd,x.A,x.n,x.c,x.l,RA2,rn2,rc2,RL,SB,sv.length,cB,sv⟩) (Cs.ss ⟨x.nd,x.A,x.n,x.c,x.l,RA2,rn2,rc2,RL,SB,sv.length,cB,sv⟩) (Cs.r ⟨x.nd,x.A,x.n,x.c,x.l,RA2,rn2,rc2,RL,SB,sv.length,cB,sv⟩) (ts.map TV.pr)=K.checks x.nd x.l R sv (ts.map TV.pr) from K.checks_same rfl HRB.out _] at CC
   obtain ⟨ce,hce⟩:∃ ce,ce=K.checks x.nd x.l R sv (ts.map TV.pr):=⟨_,rfl⟩
   rw [←hce] at CC
   have HV:=Lib.hid (show Z=(ce == 0) by
    rw [hS.val,HI.out,List.drop_length,hce]
    rfl)
   have p0:=blk_cell hNr 0 _ rfl
   have p1:=blk_cell hNr 1 _ rfl
   clear hce
   go_wp2_with fail
   refine CC.mono ?_
   rintro e w9 ⟨rfl,b9⟩
   go_wp2_with fail
   go_ret
   exact ⟨by rw [HV.out];rfl,bel hb3 (bel hbr b9)⟩
set_option maxHeartbeats 4000000 in
theorem has55_any (A:Option Addr) (n c:Nat) (l:List Int) (x:Int) (w:World) (hl:Ints w A n l) (hn:n≤1000000000) :
  Calls Tryz.prog 55 #[.slice A n c,.int .i64 x] w fun e w'=>e=.returned (.bool (l.any (· == x)))∧Below w.heap.size w w':=by
 go_enter Tryz.func55,Tryz.ntmps55
 go_wp2_with fail
 go_loopw [5] (fun vi wr=>∃ k:Nat,vi=.int .i64 k∧k≤n∧Hid (l.any (· == x)=(l.drop k).any (· == x))∧Below w.heap.size w wr) (fun vi _=>n - (intOf vi).toNat)
 case atStart=>exact ⟨0,rfl,by omega,by show _=_;rw [List.drop_zero],Below.refl _ _⟩
 case round =>
  obtain ⟨k,rfl,hk,hr,hW⟩:=hrel
  by_cases hlt:k < n
  ·obtain ⟨ad,y,rfl,hg,c0⟩:=(hl.below hW).at_ hlt
   have HS:=Lib.hid (drop_any (p:=(· == x)) hg)
   have k0:(0:Int)≤(k:Int):=by omega
   have k1:(k:Int) < (n:Int):=by omega
   clear hg
   by_cases hxy:y=x
   ·have hd1:decide (y=x)=true:=decide_eq_true hxy
    have hd2:(y == x)=true:=beq_iff_eq.2 hxy
    have HR9:=Lib.hid hd2
    clear hxy
    go_wp2_with fail
    go_ret
    exact ⟨by rw [hr.out,HS.out,HR9.out];rfl,hW⟩
   ·have hd1:decide (y=x)=false:=decide_eq_false hxy
    have hd2:(y == x)=false:=beq_eq_false_iff_ne.2 hxy
    have HR9:=Lib.hid hd2
    clear hxy
    go_wp2_with fail
    go_roundw
    case rel=>exact ⟨k + 1,by go_num,by omega,by show _=_;rw [hr.out,HS.out,HR9.out];rfl,hW⟩
    case measure=>simp [intOf];omega
  ·have HD:=Lib.hid (show l.drop k=[] from List.drop_eq_nil_of_le (by rw [←hl.1];omega))
   go_wp2_with fail
   go_ret
   exact ⟨by rw [hr.out,HD.out];rfl,hW⟩
set_option maxHeartbeats 4000000 in
theorem rpart80_any (PA:Option Addr) (n c:Nat) (l:List Int) (B:Option Addr) (m d:Nat) (v:List Int) (w:World) (hl:Ints w PA n l) (hn:n≤1000000000) (hv:Ints w B m v) (hm:m≤1000000000) :
  Calls Tryz.prog 80 #[.slice PA n c,.slice B m d] w fun e w'=>e=.returned (.bool (A.part l v))∧Below w.heap.size w w':=by
 obtain ⟨R,hR⟩:∃ R,R=A.part l v:=⟨_,rfl⟩
 rw [←hR]
 have HR:=Lib.hid (show R=l.all fun x=>v.any (· == x) from hR)
 clear hR
 go_enter Tryz.func80,Tryz.ntmps80
 go_wp2_with fail
 go_loopw [5] (fun vi wr=>∃ k:Nat,vi=.int .i64 k∧k≤n∧Hid (R=(l.drop k).all fun x=>v.any (· == x))∧Below w.heap.size w wr) (fun vi _=>n - (intOf vi).toNat)
 case atStart=>exact ⟨0,rfl,by omega,by show _=_;rw [List.drop_zero];exact HR.out,Below.refl _ _⟩
 case round =>
  obtain ⟨k,rfl,hk,hr,hW⟩:=hrel
  by_cases hlt:k < n
  ·obtain ⟨ad,y,rfl,hg,c0⟩:=(hl.below hW).at_ hlt
   have HS:=Lib.hid (drop_all (p:=fun x=>v.any (· == x)) hg)
   have k0:(0:Int)≤(k:Int):=by omega
   have k1:(k:Int) < (n:Int):=by omega
   obtain ⟨b,hb⟩:∃ b,b=v.any (· == y):=⟨_,rfl⟩
   have HB:=Lib.hid hb
   clear hg hb
   go_wp2_with fail
   refine (has55_any B m d v y wr (hv.below hW) hm).mono ?_
   rw [←HB.out]
   rintro e w1 ⟨rfl,b1⟩
   have hW1:=bel hW b1
   cases b
   ·go_wp2_with fail
    go_ret
    exact ⟨by rw [hr.out,HS.out,←HB.out];rfl,hW1⟩
   ·go_wp2_with fail
    go_roundw
    case rel=>exact ⟨k + 1,by go_num,by omega,by show _=_;rw [hr.out,HS.out,←HB.out];rfl,hW1⟩
    case measure=>simp [intOf];omega
  ·have HD:=Lib.hid (show l.drop k=[] from List.drop_eq_nil_of_le (by rw [←hl.1];omega))
   go_wp2_with fail
   go_ret
   exact ⟨by rw [hr.out,HD.out];rfl,hW⟩
namespace K
def right32 (nd:Int) (l:List Ro) (ss:List S) (r:List Q):Bool:=(netErr nd l == 0) && (decide (ss.length≤4) && (!ss.any (badS nd) && !r.any (badQ nd)))
theorem pcheck_right (nd:Int) (l:List Ro) (ss:List S) (r:List Q):pcheck nd l ss r=if right32 nd l ss r=true then (if 6 < r.length then 6 else 0) else 1:=by
 unfold pcheck right32
 by_cases h1:netErr nd l=0
 ·by_cases h2:ss.length≤4
  ·cases h3:ss.any (badS nd) <;> cases h4:r.any (badQ nd) <;> simp [h1,h2]
  ·cases h3:ss.any (badS nd) <;> cases h4:r.any (badQ nd) <;> simp [h1,h2]
 ·simp [h1]
end K
set_option maxRecDepth 100000 in
set_option maxHeartbeats 16000000 in
theorem rright111_any (x:Cs) (w:World) (hx:CsAt w x) :
  Calls Tryz.prog 111 #[.agg #[.int .i64 x.nd,.slice x.A x.n x.c],.slice x.SA x.sn x.sc,.slice x.B x.m x.d] w fun e w'=>e=.returned (.bool (K.right32 x.nd x.l x.ss x.r))∧Below w.heap.size w w':=by
 obtain ⟨R,hR⟩:∃ R,R=K.right32 x.nd x.l x.ss x.r:=⟨_,rfl⟩
 rw [←hR]
 have HR:=Lib.hid (show R=((K.netErr x.nd x.l == 0) && (decide (x.ss.length≤4) && (!x.ss.any (K.badS x.nd) && !x.r.any (K.badQ x.nd)))) from hR)
 clear hR
 obtain ⟨w1,hw1⟩:∃ w1:World,w1=w.alloc (.cells #[.int .i64 x.nd,.slice x.A x.n x.c] 24):=⟨_,rfl⟩
 have b0:Below w.heap.size w w1:=by rw [hw1];exact (Below.refl _ _).alloc (Nat.le_refl _) _
 obtain ⟨G0,hG0⟩:∃ G0,G0=w.heap.size:=⟨_,rfl⟩
 have hN:Net w1 G0 x.nd x.A x.n x.c:=by rw [hw1,hG0];exact Net.new w x.nd x.A x.n x.c
 have hsnb:=hx.b3
 have hmb:=hx.b4
 have HSN:=Lib.hid hx.shifts.1.1
 have HRN:=Lib.hid hx.reqs.1
 have p0:=hN.c0
 have p1:=hN.c1
 obtain ⟨ne,hne⟩:∃ ne,ne=K.netErr x.nd x.l:=⟨_,rfl⟩
 go_enter Tryz.func111,Tryz.ntmps111
 go_wp2_with fail
 rw [←hw1,←hG0]
 clear hw1 hG0
 refine (rnetcheck_any x.nd x.A x.n x.c x.l _ (Lst.below hx.net b0) hx.b1).mono ?_
 rw [←hne]
 rintro e w2 ⟨rfl,b2⟩
 have HNE:=Lib.hid hne
 have hN:=hN.below b2
 have hb2:=bel b0 b2
 clear p0 p1 b0 b2 hne
 by_cases hz:ne=0
 rotate_left
 ·have hd:(ne != 0)=true:=by simp [bne,hz]
  have HX:=Lib.hid (show R=false by rw [HR.out,←HNE.out];simp [hz])
  have hd2:decide (ne=0)=false:=by simp [hz]
  clear hz
  go_wp2_with fail
  go_ret
  exact ⟨by rw [HX.out];rfl,hb2⟩
 subst hz
 by_cases h4:x.sn≤4
 rotate_left
 ·have hd:decide ((4:Int) < (x.sn:Int))=true:=by simp;omega
  have hd2:decide (4 < x.sn)=true:=by simp;omega
  have HX:=Lib.hid (show R=false by rw [HR.out,←HSN.out];simp [h4])
  clear h4
  go_wp2_with fail
  go_ret
  exact ⟨by rw [HX.out];rfl,hb2⟩
 have hd:decide ((4:Int) < (x.sn:Int))=false:=by simp;omega
 have hd2:decide (4 < x.sn)=false:=by simp;omega
 have HR2:=Lib.hid (show R=(!x.ss.any (K.badS x.nd) && !x.r.any (K.badQ x.nd)) by
  have h0:(K.netErr x.nd x.l == 0)=true:=by rw [←HNE.out];rfl
  have h9:decide (x.ss.length≤4)=true:=decide_eq_true (by rw [←HSN.out];exact h4)
  rw [HR.out,h0,h9,Bool.true_and,Bool.true_and])
 clear HR HNE
 go_wp2_with fail
 clear hd hd2
 go_loopw [7] (fun v wr=>∃ k:Nat,v=.int .i64 k∧k≤x.sn∧Hid (x.ss.any (K.badS x.nd)=(x.ss.drop k).any (K.badS x.nd))∧Below w2.heap.size w2 wr) (fun v _=>x.sn - (intOf v).toNat)
 case atStart=>exact ⟨0,rfl,Nat.zero_le _,(by show _=_;rw [List.drop_zero]),Below.refl _ _⟩
 case round =>
  obtain ⟨k,rfl,hk,hr,hbr⟩:=hrel
  have hbw:=bel hb2 hbr
  by_cases hlt:k < x.sn
  ·obtain ⟨ad,s,hA,hs,hI,c0,c1,c2,c3,c4,c5⟩:=(hx.shifts.below hbw).at_ hlt
   have HS:=Lib.hid (drop_any (p:=K.badS x.nd) hs)
   have hsn:=hx.b2 s (List.mem_of_getElem? hs)
   have k0:(0:Int)≤(k:Int):=by omega
   have k1:(k:Int) < (x.sn:Int):=by omega
   obtain ⟨ce,hce⟩:∃ ce,ce=T.check s:=⟨_,rfl⟩
   have CK:∀ i:Beh wr,Calls Tryz.prog 154 #[.agg #[.int .i64 s.day,.int .i64 s.depot,.int .i64 s.start,.int .i64 s.end_,.int .i64 s.tare,.slice s.A s.n s.c]] i.val fun e w'=>e=.returned (.int .i64 ce)∧Below i.val.heap.size i.val w':=fun i=>by rw [hce];exact rcheck_any s i.val (hI.below i.property) hsn
   have q0:=Beh.cell (hN.below hbr).c0
   have e0:=Beh.cell c0
   have e1:=Beh.cell c1
   have e2:=Beh.cell c2
   have e3:=Beh.cell c3
   have e4:=Beh.cell c4
   have e5:=Beh.cell c5
   have HBD:=Lib.hid (show K.badS x.nd s=(!(ce == 0) || decide (x.nd≤s.depot)) by rw [hce];rfl)
   clear hs hI hce c0 c1 c2 c3 c4 c5
   rw [hA]
   clear hA
   go_upto_region 6 with fail
   obtain ⟨z1,hz1⟩:∃ z,z=(ce != 0):=⟨_,rfl⟩
   have HZ1:=Lib.hid (show (ce == 0)=!z1 by rw [hz1];simp [bne])
   obtain ⟨z2,hz2⟩:∃ z,z=decide (x.nd≤s.depot):=⟨_,rfl⟩
   have HZ2:=Lib.hid hz2.symm
   have f1:=hz1.symm
   have f2:=hz2.symm
   clear hz1 hz2
   have HBB:=Lib.hid (show K.badS x.nd s=(z1 || z2) by rw [HBD.out,HZ1.out,HZ2.out,Bool.not_not])
   have h5:z1=true∨(z1=false∧z2=true)∨(z1=false∧z2=false):=by cases z1 <;> cases z2 <;> simp
   rcases h5 with rfl | ⟨rfl,rfl⟩ | ⟨rfl,rfl⟩
   all_goals
    refine reg_beh (by kernel_rfl) (by kernel_rfl) ?_
    repeat (go_big_quiet_step ((go_at_call 154;exact Beh.calls (CK _))))
    refine wpQuiet_nil ?_
    rintro w4 ⟨⟨w4,b4⟩,rfl⟩
    have hb4:=bel hbr b4
    have hb42:=bel hb2 hb4
    clear CK q0 e0 e1 e2 e3 e4 e5 f1 f2
    go_wp2_with fail
    first
     | (go_ret
        exact ⟨by rw [HR2.out,hr.out,HS.out,HBB.out];simp,hb42⟩)
     | (go_roundw
        case rel=>exact ⟨k + 1,by go_num,hlt,by show _=_;rw [hr.out,HS.out,HBB.out];rfl,hb4⟩
        case measure=>simp [intOf];omega)
  ·have HD:=Lib.hid (show x.ss.drop k=[] from List.drop_eq_nil_of_le (by rw [←HSN.out];omega))
   have hd:decide ((k:Int) < (x.sn:Int))=false:=by simp;omega
   have hd2:decide (k < x.sn)=false:=by simp;omega
   have HR3:=Lib.hid (show R=!x.r.any (K.badQ x.nd) by rw [HR2.out,hr.out,HD.out];rfl)
   have hN3:=hN.below hbr
   clear hr HD HR2 hlt hk
   go_wp2_with fail
   clear hd hd2
   go_loopw [8] (fun v wq=>∃ k:Nat,v=.int .i64 k∧k≤x.m∧Hid (x.r.any (K.badQ x.nd)=(x.r.drop k).any (K.badQ x.nd))∧Below wr.heap.size wr wq) (fun v _=>x.m - (intOf v).toNat)
   case atStart=>exact ⟨0,rfl,Nat.zero_le _,(by show _=_;rw [List.drop_zero]),Below.refl _ _⟩
   case round =>
    obtain ⟨k,rfl,hk,hr,hbq⟩:=hrel
    have hbw2:=bel hbw hbq
    by_cases hlt:k < x.m
    ·obtain ⟨ad,q,hA,hq,hI,c0,c1,c2,c3,c4,c5,c6⟩:=(hx.reqs.below hbw2).at_ hlt
     have HS:=Lib.hid (drop_any (p:=K.badQ x.nd) hq)
     have hqn:=hx.b5 q (List.mem_of_getElem? hq)
     have k0:(0:Int)≤(k:Int):=by omega
     have k1:(k:Int) < (x.m:Int):=by omega
     obtain ⟨ce,hce⟩:∃ ce,ce=T.right q:=⟨_,rfl⟩
     have CK:∀ i:Beh wr,Calls Tryz.prog 152 #[.agg #[.int .i64 q.node,.int .i64 q.room,.int .i64 q.kilos,.int .i64 q.service,.int .i64 q.frm,.int .i64 q.by_,.slice q.A q.n q.c]] i.val fun e w'=>e=.returned (.bool ce)∧Below i.val.heap.size i.val w':=fun i=>by rw [hce];exact rright29_any q i.val (hI.below i.property) hqn
     have q0:=Beh.cell (hN3.below hbq).c0
     have e0:=Beh.cell c0
     have e1:=Beh.cell c1
     have e2:=Beh.cell c2
     have e3:=Beh.cell c3
     have e4:=Beh.cell c4
     have e5:=Beh.cell c5
     have e6:=Beh.cell c6
     have HBD:=Lib.hid (show K.badQ x.nd q=(!ce || decide (x.nd≤q.node)) by rw [hce];rfl)
     clear hq hI hce c0 c1 c2 c3 c4 c5 c6
     rw [hA]
     clear hA
     go_upto_region 11 with fail
     obtain ⟨z2,hz2⟩:∃ z,z=decide (x.nd≤q.node):=⟨_,rfl⟩
     have HZ2:=Lib.hid hz2.symm
     have f2:=hz2.symm
     clear hz2
     have HBB:=Lib.hid (show K.badQ x.nd q=(!ce || z2) by rw [HBD.out,HZ2.out])
     have h5:ce=false∨(ce=true∧z2=true)∨(ce=true∧z2=false):=by cases ce <;> cases z2 <;> simp
     rcases h5 with rfl | ⟨rfl,rfl⟩ | ⟨rfl,rfl⟩
     all_goals
      refine reg_beh (by kernel_rfl) (by kernel_rfl) ?_
      repeat (go_big_quiet_step ((go_at_call 152;exact Beh.calls (CK _))))
      refine wpQuiet_nil ?_
      rintro w4 ⟨⟨w4,b4⟩,rfl⟩
      have hb4:=bel hbq b4
      have hb42:=bel hbw hb4
      clear CK q0 e0 e1 e2 e3 e4 e5 e6 f2
      go_wp2_with fail
      first
       | (go_ret
          exact ⟨by rw [HR3.out,hr.out,HS.out,HBB.out];rfl,hb42⟩)
       | (go_roundw
          case rel=>exact ⟨k + 1,by go_num,hlt,by show _=_;rw [hr.out,HS.out,HBB.out];rfl,hb4⟩
          case measure=>simp [intOf];omega)
    ·have HD:=Lib.hid (show x.r.drop k=[] from List.drop_eq_nil_of_le (by rw [←HRN.out];omega))
     have hd:decide ((k:Int) < (x.m:Int))=false:=by simp;omega
     have hd2:decide (k < x.m)=false:=by simp;omega
     go_wp2_with fail
     go_ret
     exact ⟨by rw [HR3.out,hr.out,HD.out];rfl,hbw2⟩
set_option maxRecDepth 100000 in
set_option maxHeartbeats 4000000 in
theorem rstart69_any (x:Cs) (w:World) (hx:CsAt w x) :
  Calls Tryz.prog 69 #[.agg #[.int .i64 x.nd,.slice x.A x.n x.c],.slice x.SA x.sn x.sc,.slice x.B x.m x.d] w fun e w'=>e=.returned (.int .i64 (K.pcheck x.nd x.l x.ss x.r))∧Below w.heap.size w w':=by
 obtain ⟨P,hP⟩:∃ P,P=K.pcheck x.nd x.l x.ss x.r:=⟨_,rfl⟩
 rw [←hP]
 have HP:=Lib.hid (hP.trans (K.pcheck_right _ _ _ _))
 clear hP
 obtain ⟨w1,hw1⟩:∃ w1:World,w1=w.alloc (.cells #[.int .i64 x.nd,.slice x.A x.n x.c] 24):=⟨_,rfl⟩
 have b0:Below w.heap.size w w1:=by rw [hw1];exact (Below.refl _ _).alloc (Nat.le_refl _) _
 obtain ⟨G0,hG0⟩:∃ G0,G0=w.heap.size:=⟨_,rfl⟩
 have hN:Net w1 G0 x.nd x.A x.n x.c:=by rw [hw1,hG0];exact Net.new w x.nd x.A x.n x.c
 have p0:=hN.c0
 have p1:=hN.c1
 have hmb:=hx.b4
 have HRN:=Lib.hid hx.reqs.1
 go_enter Tryz.func69,Tryz.ntmps69
 go_wp2_with fail
 rw [←hw1,←hG0]
 clear hw1 hG0
 refine (rright111_any x _ (hx.below b0)).mono ?_
 obtain ⟨z,hz⟩:∃ z,z=K.right32 x.nd x.l x.ss x.r:=⟨_,rfl⟩
 rw [←hz]
 rw [←hz] at HP
 clear hz
 rintro e w2 ⟨rfl,b2⟩
 have hb2:=bel b0 b2
 clear p0 p1
 cases z
 ·have HX:=Lib.hid (show P=1 from HP.out)
  go_wp2_with fail
  go_ret
  exact ⟨by rw [HX.out];rfl,hb2⟩
 by_cases h6:6 < x.m
 ·have hd:decide ((6:Int) < (x.m:Int))=true:=by simp;omega
  have hd2:decide (6 < x.m)=true:=by simp;omega
  have HX:=Lib.hid (show P=6 by rw [HP.out,if_pos rfl,if_pos (by rw [←HRN.out];exact h6)])
  clear h6
  go_wp2_with fail
  go_ret
  exact ⟨by rw [HX.out];rfl,hb2⟩
 ·have hd:decide ((6:Int) < (x.m:Int))=false:=by simp;omega
  have hd2:decide (6 < x.m)=false:=by simp;omega
  have HX:=Lib.hid (show P=0 by rw [HP.out,if_pos rfl,if_neg (by rw [←HRN.out];exact h6)])
  clear h6
  go_wp2_with fail
  go_ret
  exact ⟨by rw [HX.out];rfl,hb2⟩
set_option maxRecDepth 100000 in
set_option maxHeartbeats 16000000 in
theorem rrest46_any (x:Cs) (LA:Option Addr) (ln lc:Nat) (lost:List Int) (w:World) (hx:CsAt w x) (hL:Ints w LA ln lost) (hln:ln≤1000000000) (hsn:x.sn≤1000000) :
  Calls Tryz.prog 46 #[.agg #[.int .i64 x.nd,.slice x.A x.n x.c,.slice x.SA x.sn x.sc,.slice x.B x.m x.d],.slice LA ln lc] w fun e w'=>RetRest w w' (K.rest34 x.nd x.l x.ss x.r lost) (K.restE x.nd x.l x.ss x.r lost) e:=by
 obtain ⟨w1,hw1⟩:∃ w1:World,w1=w.alloc (.cells #[.int .i64 x.nd,.slice x.A x.n x.c,.slice x.SA x.sn x.sc,.slice x.B x.m x.d] 44):=⟨_,rfl⟩
 obtain ⟨g,hg⟩:∃ g,g=w.heap.size:=⟨_,rfl⟩
 have b1:Below w.heap.size w w1:=by rw [hw1];exact (Below.refl _ _).alloc (Nat.le_refl _) _
 have hN1:BkBlk w1 g x:=by rw [hw1,hg];exact BkBlk.new _ _
 have p2:=blk_cell hN1 2 _ rfl
 have HSN:=Lib.hid hx.shifts.1.1
 have HRN:=Lib.hid hx.reqs.1
 obtain ⟨ER,hER⟩:∃ ER,ER=K.restE x.nd x.l x.ss x.r lost:=⟨_,rfl⟩
 obtain ⟨RR,hRR⟩:∃ RR,RR=K.rest34 x.nd x.l x.ss x.r lost:=⟨_,rfl⟩
 rw [←hER,←hRR]
 have HER:=Lib.hid (show ER=if K.asc33 x.sn (-1) lost=true then (if K.right32 x.nd x.l x.ss x.r=true then (if 6 < x.m then 6 else 0) else 1) else 1 by
  rw [hER,HSN.out,HRN.out,←K.pcheck_right];rfl)
 have HRR:=Lib.hid (show RR=if ER=0 then K.restGo lost 0 x.ss else [] by rw [hRR,hER];rfl)
 have hmb:=hx.b4
 clear hER hRR
 go_enter Tryz.func46,Tryz.ntmps46
 go_upto_region 1 with fail
 rw [←hw1,←hg]
 clear hw1 hg
 have CR:=rlist110_any LA ln lc lost x.sn w1 (hL.below b1) hln (by omega)
 obtain ⟨z,hz⟩:∃ z,z=K.asc33 x.sn (-1) lost:=⟨_,rfl⟩
 rw [←hz] at CR HER
 clear hz
 go_wp2_with fail
 refine CR.mono ?_
 rintro e w2 ⟨rfl,b2⟩
 have hN2:=hN1.below b2
 have hb2:=bel b1 b2
 clear CR p2 b1 b2 hN1
 cases z
 ·have HX:=Lib.hid (show ER=1 from HER.out)
  have HY:=Lib.hid (show RR=[] by rw [HRR.out,HX.out];rfl)
  go_wp2_with fail
  go_ret2
  rw [HX.out,HY.out]
  exact retRest_nil hb2
 have p0:=blk_cell hN2 0 _ rfl
 have p1:=blk_cell hN2 1 _ rfl
 have p2:=blk_cell hN2 2 _ rfl
 have p3:=blk_cell hN2 3 _ rfl
 have CC:=rright111_any x w2 (hx.below hb2)
 obtain ⟨z,hz⟩:∃ z,z=K.right32 x.nd x.l x.ss x.r:=⟨_,rfl⟩
 rw [←hz] at CC HER
 clear hz
 go_wp2_with fail
 refine CC.mono ?_
 rintro e w3 ⟨rfl,b3⟩
 have hN3:=hN2.below b3
 have hb3:=bel hb2 b3
 clear CC p0 p1 p2 p3 hN2 hb2 b3
 cases z
 ·have HX:=Lib.hid (show ER=1 from HER.out)
  have HY:=Lib.hid (show RR=[] by rw [HRR.out,HX.out];rfl)
  go_wp2_with fail
  go_ret2
  rw [HX.out,HY.out]
  exact retRest_nil hb3
 have p3:=blk_cell hN3 3 _ rfl
 by_cases h6:6 < x.m
 ·have d1:decide ((6:Int) < (x.m:Int))=true:=by simp;omega
  have d2:decide (6 < x.m)=true:=by simp;omega
  have HX:=Lib.hid (show ER=6 by have h9:=HER.out;simpa [h6] using h9)
  have HY:=Lib.hid (show RR=[] by rw [HRR.out,HX.out];rfl)
  clear h6
  go_wp2_with fail
  go_ret2
  rw [HX.out,HY.out]
  exact retRest_nil hb3
 have d1:decide ((6:Int) < (x.m:Int))=false:=by simp;omega
 have d2:decide (6 < x.m)=false:=by simp;omega
 have HX:=Lib.hid (show ER=0 by have h9:=HER.out;simpa [h6] using h9)
 have HY:=Lib.hid (show RR=K.restGo lost 0 x.ss by rw [HRR.out,if_pos HX.out])
 clear h6
 go_wp2_with fail
 clear d1 d2 p3
 go_loopw [6,7] (fun v6 v7 wr=>∃ (k:Nat) (L:List S),v7=.int .i64 k∧k≤x.sn∧wr.ownsRow w3.heap.size 63 6 v6 L.length (L.flatMap S.cells)∧L.length≤k∧Hid (L=K.restGo lost 0 (x.ss.take k))∧Below w3.heap.size w3 wr) (fun _ v7 _=>x.sn - (intOf v7).toNat)
 case atStart=>exact ⟨0,[],rfl,Nat.zero_le _,World.ownsRow_nil _ _ _ _,Nat.zero_le _,rfl,Below.refl _ _⟩
 case round =>
  obtain ⟨k,L,rfl,hk,hown,hlk,hbare,hbr⟩:=hrel
  have hbw:=bel hb3 hbr
  have hNr:=hN3.below hbr
  have p2:=blk_cell hNr 2 _ rfl
  by_cases hlt:k < x.sn
  ·obtain ⟨ad,s,hA,hs,hI,c0,c1,c2,c3,c4,c5⟩:=(hx.shifts.below hbw).at_ hlt
   have HTK:=Lib.hid (K.restGo_take (lost:=lost) hs)
   have HSS:=Lib.hid (show ∀ s',x.ss[k]? = some s'→s'=s from fun s' h=>by rw [hs] at h;injection h with h;exact h.symm)
   have k0:(0:Int)≤(k:Int):=by omega
   have k1:(k:Int) < (x.sn:Int):=by omega
   have hkt:k + 1≤x.sn:=hlt
   have CK:=has55_any LA ln lc lost k wr (hL.below hbw) hln
   obtain ⟨z,hz⟩:∃ z,z=lost.any (· == (k:Int)):=⟨_,rfl⟩
   rw [←hz] at CK HTK
   have HA:=Lib.hid hA
   clear hz hs hI c0 c1 c2 c3 c4 c5 hA
   go_wp2_with fail
   refine CK.mono ?_
   rintro e w5 ⟨rfl,b5⟩
   have hb5:=bel hbr b5
   have hown5:=own_below hown b5
   cases z
   rotate_left
   ·have HB:=Lib.hid (show L=K.restGo lost 0 (x.ss.take (k + 1)) by rw [HTK.out,if_pos rfl,List.append_nil];exact hbare.out)
    clear CK hown p2
    go_wp2_with fail
    go_roundw
    case rel=>(go_light;exact ⟨k + 1,L,by go_num,hkt,hown5,by omega,HB.out,hb5⟩)
    case measure=>(go_light;simp [intOf];omega)
   ·obtain ⟨ad',s',hA',hs',hI',c0,c1,c2,c3,c4,c5⟩:=(hx.shifts.below (bel hb3 hb5)).at_ hlt
    have p2:=blk_cell (hNr.below b5) 2 _ rfl
    obtain ⟨w8,hw8⟩:∃ w8:World,w8=w5.alloc (.cells #[.int .i64 s'.day,.int .i64 s'.depot,.int .i64 s'.start,.int .i64 s'.end_,.int .i64 s'.tare,.slice s'.A s'.n s'.c] 63):=⟨_,rfl⟩
    obtain ⟨g8,hg8⟩:∃ g,g=w5.heap.size:=⟨_,rfl⟩
    have b8:Below w5.heap.size w5 w8:=by rw [hw8];exact (Below.refl _ _).alloc (Nat.le_refl _) _
    have hL8:w8.heap[g8]? = some (.cells #[.int .i64 s'.day,.int .i64 s'.depot,.int .i64 s'.start,.int .i64 s'.end_,.int .i64 s'.tare,.slice s'.A s'.n s'.c] 63 (0,0)):=by rw [hw8,hg8];exact heap_alloc_new _ _
    have hown8:=own_below hown5 b8
    obtain ⟨i0,hi,hz0,hz1,hz2⟩:=info_parts clone150_info
    have hz8:w3.heap.size≤w8.heap.size:=Nat.le_trans hb5.size b8.size
    have hb8:=bel hb5 b8
    have hss:s'=s:=HSS.out s' hs'
    have HB:=Lib.hid (show L ++ [s'] = K.restGo lost 0 (x.ss.take (k + 1)) by rw [HTK.out,if_neg (by decide),hbare.out,hss])
    rw [hA'] at p2
    clear hs' hI' hown CK hown5 hA' hss
    go_wp2_with (first
     | (at_builtin;rw [←hw8,←hg8];refine wp_append_rd rfl _ _ 25 rfl w3.heap.size 63 i0 (.agg #[.int .i64 0,.int .i64 0,.int .i64 0,.int .i64 0,.int .i64 0,.slice none 0 0]) 6 64 Tryz.underlying25 hi hz0 hz1 hz2 rfl (by decide) _ L.length (L.flatMap S.cells) rfl hown8 (some ⟨g8,0,none⟩) 1 1 s'.cells rfl (Rd.of_block hL8 6 1 rfl) (shift_one _) (by simp only [maxLen];omega) (by omega) hz8 ?_;intro v9 w9 hown9 hgr9 _)
     | fail)
    have hb9:Below w3.heap.size w3 w9:=below_own2 hb8 hgr9 (fun g e=>(hown8.lt g e).1)
    have hown9':w9.ownsRow w3.heap.size 63 6 v9 (L ++ [s']).length ((L ++ [s']).flatMap S.cells):=by
     rw [List.length_append,List.flatMap_append,List.flatMap_singleton]
     exact hown9
    have HLN:=Lib.hid (show (L ++ [s']).length≤k + 1 by rw [List.length_append,List.length_singleton];omega)
    clear hown9 hgr9 hown8 hw8 hg8 c0 c1 c2 c3 c4 c5
    go_roundw
    case rel=>(go_light;exact ⟨k + 1,_,by go_num,hkt,hown9',HLN.out,HB.out,hb9⟩)
    case measure=>(go_light;simp [intOf];omega)
  ·have hd:decide ((k:Int) < (x.sn:Int))=false:=by simp;omega
   have hd2:decide (k < x.sn)=false:=by simp;omega
   have HB:=Lib.hid (show L=RR by rw [HY.out,hbare.out,List.take_of_length_le (by rw [←HSN.out];omega)])
   have hsub:∀ s ∈ L,s ∈ x.ss:=fun s hs=>(K.restGo_sub x.ss 0).subset (by rw [←HY.out,←HB.out];exact hs)
   obtain ⟨A9,c9,rfl,hR9,-⟩:=own_form hown
   go_wp2_with fail
   go_ret2
   rw [HX.out]
   exact ⟨⟨A9,L.length,c9,L,rfl,⟨⟨rfl,hR9⟩,fun s hs=>(hx.shifts.2 s (hsub s hs)).below hbw⟩,by rw [HB.out]⟩,hbw⟩
theorem lit_rd {w:World} {g:Nat} {i:Int} (h:w.heap[g]? = some (.cells #[.int .i64 i] 3 (0,0))):Rd w 1 (some ⟨g,0,none⟩) 1 [.int .i64 i] :=
 ⟨rfl,fun _=>⟨_,rfl,fun j u hu=>by
  cases j with
  | zero =>
   have hu:some (Value.int .i64 i)=some u:=hu
   injection hu with hu
   subst hu
   exact blk_cell h 0 _ rfl
  | succ j=>simp at hu⟩⟩
def Leg (x:C) (v:List Int) (i a t:Int) (w w':World) (e:Ending):Prop:=e=.returned (.tuple #[.int .i64 (K.leg x.nd x.l x.s x.r v i a t).1,.int .i64 (K.leg x.nd x.l x.s x.r v i a t).2])∧Below w.heap.size w w'
theorem leg_mk' {x:C} {v:List Int} {i a t b er:Int} {w w':World} (h:K.leg x.nd x.l x.s x.r v i a t=(b,er)) (hb:Below w.heap.size w w'):Leg x v i a t w w' (.returned (.tuple #[.int .i64 b,.int .i64 er])):=⟨by rw [h],hb⟩
set_option maxRecDepth 100000 in
set_option maxHeartbeats 16000000 in
theorem leg_any (x:C) (V:Option Addr) (vn vc:Nat) (v:List Int) (i:Nat) (q:Q) (a t:Int) (w:World) (hx:At w x) (hV:Ints w V vn v) (hvn:vn≤100000) (hne:K.netErr x.nd x.l=0) (ha:0≤a∧a < x.nd) (hq:x.r[i]? = some q) (hno:0≤q.node∧q.node < x.nd) (ht:0≤t∧t≤1000000)
  (hse:0≤q.service∧q.service≤1000000) :
  Calls Tryz.prog 180 #[.agg #[.int .i64 x.nd,.slice x.A x.n x.c],.agg #[.int .i64 x.s.day,.int .i64 x.s.depot,.int .i64 x.s.start,.int .i64 x.s.end_,.int .i64 x.s.tare,.slice x.s.A x.s.n x.s.c],.slice x.B x.m x.d,.slice V vn vc,.int .i64 i,.int .i64 a,.int .i64 t] w fun e w'=>Leg x v i a t w w' e:=by
 have him:i < x.m:=by rw [hx.reqs.1];exact (List.getElem?_eq_some_iff.1 hq).1
 obtain ⟨w1,hw1⟩:∃ w1:World,w1=w.alloc (.cells #[.int .i64 x.nd,.slice x.A x.n x.c] 24):=⟨_,rfl⟩
 obtain ⟨w2,hw2⟩:∃ w2:World,w2=w1.alloc (.cells #[.int .i64 x.s.day,.int .i64 x.s.depot,.int .i64 x.s.start,.int .i64 x.s.end_,.int .i64 x.s.tare,.slice x.s.A x.s.n x.s.c] 63):=⟨_,rfl⟩
 obtain ⟨w3,hw3⟩:∃ w3:World,w3=w2.alloc (.cells #[.int .i64 q.node,.int .i64 q.room,.int .i64 q.kilos,.int .i64 q.service,.int .i64 q.frm,.int .i64 q.by_,.slice q.A q.n q.c] 47):=⟨_,rfl⟩
 have z1:w1.heap.size=w.heap.size + 1:=by rw [hw1];exact World.size_alloc _ _
 have z2:w2.heap.size=w.heap.size + 1 + 1:=by rw [hw2,World.size_alloc,z1]
 have b01:Below w.heap.size w w1:=by rw [hw1];exact (Below.refl _ _).alloc (Nat.le_refl _) _
 have b12:Below w1.heap.size w1 w2:=by rw [hw2];exact (Below.refl _ _).alloc (Nat.le_refl _) _
 have b23:Below w2.heap.size w2 w3:=by rw [hw3];exact (Below.refl _ _).alloc (Nat.le_refl _) _
 have hP:Net w3 w.heap.size x.nd x.A x.n x.c:=by
  have h1:Net w1 w.heap.size x.nd x.A x.n x.c:=by rw [hw1];exact Net.new _ _ _ _ _
  exact (h1.below b12).below b23
 have hS:Shf w3 (w.heap.size + 1) x.s:=by
  have h1:Shf w2 (w.heap.size + 1) x.s:=by rw [←z1,hw2];exact Shf.new _ _
  exact h1.below b23
 have hQ:QBlk w3 (w.heap.size + 1 + 1) q:=by rw [←z2,hw3];exact QBlk.new w2 q
 have hb:=bel (bel b01 b12) b23
 obtain ⟨ad,q',hB,hgq,hwq,e0,e1,e2,e3,e4,e5,e6⟩:=(hx.reqs.below (bel b01 b12)).at_ him
 rw [hq] at hgq
 injection hgq with hgq
 subst hgq
 have HRQ:=Lib.hid (K.req_get hq)
 have hqn:=hx.b4 q (List.mem_of_getElem? hq)
 have i0:(0:Int)≤(i:Int):=by omega
 have i1:(i:Int) < (x.m:Int):=by omega
 have HB:=Lib.hid hB
 clear hq
 rw [hw2,hw1] at e0 e1 e2 e3 e4 e5 e6
 rw [hB]
 cases d1:decide (x.s.day < q.frm)
 rotate_left
 ·have HX:=Lib.hid (show K.leg x.nd x.l x.s x.r v i a t=(0,17) by unfold K.leg;rw [HRQ.out,if_pos (.inl (by simpa using d1))])
  clear hB
  go_enter Tryz.func180,Tryz.ntmps180
  go_wp2_with fail
  go_ret2
  rw [←hw1,←hw2,←hw3]
  exact leg_mk' HX.out hb
 cases d2:decide (q.by_ < x.s.day)
 rotate_left
 ·have HX:=Lib.hid (show K.leg x.nd x.l x.s x.r v i a t=(0,17) by unfold K.leg;rw [HRQ.out,if_pos (.inr (by simpa using d2))])
  clear hB
  go_enter Tryz.func180,Tryz.ntmps180
  go_wp2_with fail
  go_ret2
  rw [←hw1,←hw2,←hw3]
  exact leg_mk' HX.out hb
 have HD:=Lib.hid (show ¬ (x.s.day < (K.req x.r i).frm∨(K.req x.r i).by_ < x.s.day) by rw [HRQ.out];simp at d1 d2;omega)
 clear hB
 go_enter Tryz.func180,Tryz.ntmps180
 go_wp2_with fail
 rw [←hw1,←hw2,←hw3]
 clear e0 e1 e2 e3 e4 e5 e6 i0 i1 z1 z2 b01 b12 hw1 hw2 hw3
 have S0:=LAt.mk' hP hS (Below.refl w3.heap.size w3)
 have hAx:∀ w',LAt w3 w.heap.size x w'→At w' x:=fun w' h=>hx.below (bel hb h.1)
 have hVx:∀ w',LAt w3 w.heap.size x w'→Ints w' V vn v:=fun w' h=>hV.below (bel hb h.1)
 have hSn:∀ w' w'',LAt w3 w.heap.size x w'→Below w'.heap.size w' w''→LAt w3 w.heap.size x w'':=fun w' w'' h hb'=>LAt.mk' hP hS (bel h.1 hb')
 have hSd:∀ w',LAt w3 w.heap.size x w'→LAt w3 w.heap.size x w'.drew:=fun w' h=>LAt.mk' hP hS h.1.drew
 have hSa:∀ w' o',LAt w3 w.heap.size x w'→LAt w3 w.heap.size x (w'.alloc o'):=fun w' o' h=>LAt.mk' hP hS (bel h.1 ((Below.refl _ _).alloc (Nat.le_refl _) _))
 have hSg:∀ (w' w'':World) (v:Value),LAt w3 w.heap.size x w'→w'.grownBy w'' v.ownBlock→(∀ g,v.ownBlock=some g→w3.heap.size≤g)→LAt w3 w.heap.size x w'':=fun w' w'' v h hg hv=>LAt.mk' hP hS (h.1.grown hg (Nat.le_trans h.1.size (Nat.le_refl _)) hv)
 obtain ⟨i0,hi,hz0,hz1,hz2⟩:=info_parts Tryz.info3
 have HVL:=Lib.hid hV.1
 clear d1 d2
 obtain ⟨c2,c3,c4⟩:x.s.n≤1000000000∧x.m≤1000000000∧∀ q ∈ x.r,q.n≤1000000000:=⟨hx.b2,hx.b3,hx.b4⟩
 rw [←HB.out]
 go_cut [45] from 36 to 45 (fun v45 wc=>v45=.bool (!(T.fits x.s x.r (v ++ [(i:Int)])))∧Below w3.heap.size w3 wc)
 case first =>
  go_region_held3 (fun w'=>Below w3.heap.size w3 w'∧w'.cell? ⟨w.heap.size,0,none⟩=some (.int .i64 x.nd)∧w'.cell? ⟨w.heap.size,1,none⟩=some (.slice x.A x.n x.c)∧w'.cell? ⟨w.heap.size + 1,0,none⟩=some (.int .i64 x.s.day)∧w'.cell? ⟨w.heap.size + 1,1,none⟩=some (.int .i64 x.s.depot)∧w'.cell? ⟨w.heap.size + 1,2,none⟩=some (.int .i64 x.s.start) ∧
  w'.cell? ⟨w.heap.size + 1,3,none⟩=some (.int .i64 x.s.end_)∧w'.cell? ⟨w.heap.size + 1,4,none⟩=some (.int .i64 x.s.tare)∧w'.cell? ⟨w.heap.size + 1,5,none⟩=some (.slice x.s.A x.s.n x.s.c))
   (first | assumption | exact S0 | exact hSd _ (by assumption) | exact hSa _ _ (by assumption) | exact hSa _ _ (hSd _ S0))
   (first
    | (go_at_call 182;refine (rfits29_any x.s x.B x.m x.d x.r _ _ _ (v ++ [(i:Int)]) _ (hAx _ ?_).rooms c2 (hAx _ ?_).reqs c3 c4 hJ (by omega)).mono ?_;assumption;assumption;rintro e w9 ⟨rfl,hbn⟩;have hS9:=hSn _ _ (by assumption) hbn)
    | ((refine step_append_rd rfl (.tmp 38) (.tmp 39) 48 rfl w3.heap.size 3 i0 (.int .i64 0) 1 8 Tryz.underlying48 hi hz0 hz1 hz2 rfl (by decide) (.slice (some ⟨w3.heap.size,0,none⟩) 0 0) 0 [] rfl ?_ V vn vc (intCells v) rfl ?_ (intCells_one _) (by simp only [maxLen];omega) (by omega) ?_ ?_;(first | exact own_lit (heap_alloc_new w3 (.cells #[] 3)) (Nat.le_refl _) | exact own_lit (blk_alloc (heap_alloc_new w3 (.cells #[] 3)) _) (Nat.le_refl _));(refine (hVx _ (show LAt w3 w.heap.size x _ from ?_)).2;assumption);(refine (And.left (b:=_) (show LAt w3 w.heap.size x _ from ?_)).size;assumption));intro v1 w4 hown1 hgrow1 hat1;have hS1:=hSg _ _ _ (by assumption) hgrow1 (lit_block (by omega));rw [Nat.zero_add,List.nil_append] at hown1;
        (first | (have hT1:=grow_blk hgrow1 (g:=w3.heap.size + 1) (o:=(.cells #[.int .i64 (i:Int)] 3)) (heap_alloc_at (w3.alloc (.cells #[] 3)) (.cells #[.int .i64 (i:Int)] 3) (w3.heap.size + 1) (World.size_alloc _ _).symm) (lit_ne (by omega))) | skip))
    | ((refine step_append_rd rfl (.tmp 38) (.tmp 39) 48 rfl w3.heap.size 3 i0 (.int .i64 0) 1 8 Tryz.underlying48 hi hz0 hz1 hz2 rfl (by decide) (.slice (some ⟨w3.heap.size + 1,0,none⟩) 0 0) 0 [] rfl ?_ V vn vc (intCells v) rfl ?_ (intCells_one _) (by simp only [maxLen];omega) (by omega) ?_ ?_;(exact own_lit (heap_alloc_at (w3.alloc (.cells #[.int .i64 (i:Int)] 3)) (.cells #[] 3) _ (World.size_alloc _ _).symm) (by omega));(refine (hVx _ (show LAt w3 w.heap.size x _ from ?_)).2;assumption);(refine (And.left (b:=_) (show LAt w3 w.heap.size x _ from ?_)).size;assumption));intro v1 w4 hown1 hgrow1 hat1;have hS1:=hSg _ _ _ (by assumption) hgrow1 (lit_block (by omega));rw [Nat.zero_add,List.nil_append] at hown1;
        (first | (have hT1:=grow_blk hgrow1 (g:=w3.heap.size) (o:=(.cells #[.int .i64 (i:Int)] 3)) (blk_alloc (heap_alloc_new w3 (.cells #[.int .i64 (i:Int)] 3)) (.cells #[] 3)) (lit_ne (by omega))) | skip))
    | (refine step_append_rd rfl (.tmp 40) (.tmp 42) 48 rfl w3.heap.size 3 i0 (.int .i64 0) 1 8 Tryz.underlying48 hi hz0 hz1 hz2 rfl (by decide) v1 vn (intCells v) rfl ?_ _ 1 1 [.int .i64 (i:Int)] rfl ?_ (intCells_one [(i:Int)]) (by simp only [maxLen];omega) (by omega) ?_ ?_;(first | exact hown1 | exact World.ownsRow.alloc hown1 _);(first | exact lit_rd hT1 | exact lit_rd (heap_alloc_new _ (.cells #[.int .i64 (i:Int)] 3)));(refine (And.left (b:=_) (show LAt w3 w.heap.size x _ from ?_)).size;assumption);intro v2 w5 hown2 hgrow2 hat2;have hS2:=hSg _ _ _ (by assumption) hgrow2 (fun g e=>(hown1.lt g e).1);
        obtain ⟨A9,c9,rfl,hRd9,-⟩:=own_form hown2;have hJ:Ints _ A9 (vn + 1) (v ++ [(i:Int)]):=⟨by rw [List.length_append,←HVL.out];rfl,by rw [intCells_app];exact hRd9⟩))
  all_goals go_wp2_with fail
  all_goals go_meet
  all_goals exact ⟨rfl,hS9.1⟩
 case rest =>
  obtain ⟨rfl,hbc⟩:=hcut
  have hb:=bel hb hbc
  have hP:=hP.below hbc
  have hS:=hS.below hbc
  have hQ:=hQ.below hbc
  have hwq:=hwq.below (bel b23 hbc)
  clear S0 hAx hVx hSn hSd hSa hSg hi hz0 hz1 hz2 hbc b23
  cases hf:T.fits x.s x.r (v ++ [(i:Int)])
  ·have HX:=Lib.hid (show K.leg x.nd x.l x.s x.r v i a t=(0,20) by unfold K.leg;rw [if_neg HD.out,if_pos hf])
   clear hf
   go_wp2_with fail
   go_ret2
   exact leg_mk' HX.out hb
  have HF:=Lib.hid (show ¬ (T.fits x.s x.r (v ++ [(i:Int)])=false) by rw [hf];simp)
  clear hf
  obtain ⟨qn,hqn0⟩:∃ qn:Nat,q.node=(qn:Int):=⟨q.node.toNat,by omega⟩
  obtain ⟨s0,s1,s2,s3,s4,s5⟩:=hS.cells
  obtain ⟨q0,q1,q2,q3,q4,q5,q6⟩:=hQ.cells
  rw [hqn0] at q0
  have g0:=Beh.cell hP.c0
  have g1:=Beh.cell hP.c1
  have f0:=Beh.cell s0
  have f1:=Beh.cell s1
  have f2:=Beh.cell s2
  have f3:=Beh.cell s3
  have f4:=Beh.cell s4
  have f5:=Beh.cell s5
  have k0:=Beh.cell q0
  have hA4:=hx.below hb
  have hV4:=hV.below hb
  obtain ⟨wt,hwt⟩:∃ wt,wt=T.weight x.s x.r v:=⟨_,rfl⟩
  obtain ⟨y,hy⟩:∃ y,y=K.way x.nd x.l a wt qn:=⟨_,rfl⟩
  have CW:=fun j:Beh wc=>rweight_any x.s x.B x.m x.d x.r V vn vc v j.val ((hA4.below j.property).rooms) c2 ((hA4.below j.property).reqs) c3 c4 (hV4.below j.property) (by omega)
  have CY:=fun j:Beh wc=>rway_any x.nd x.A x.n x.c x.l a qn wt j.val ((hA4.below j.property).net) hx.b1 hne ha (by omega)
  simp only [←hwt] at CW
  simp only [←hy] at CY
  have hyb:=K.way_bd x.nd x.l a wt q.node
  rw [hqn0,←hy] at hyb
  obtain ⟨hy0,hy1⟩:=hyb
  have HY:=Lib.hid (show K.way x.nd x.l a (T.weight x.s x.r v) (K.req x.r i).node=y by rw [HRQ.out,hqn0,←hwt,hy])
  have HQN:=Lib.hid hqn0
  clear hy hwt hqn0 q0 q1 q2 q3 q4 q5 q6 s0 s1 s2 s3 s4 s5
  go_wp2_with fail
  refine reg_beh (by kernel_rfl) (by kernel_rfl) ?_
  repeat (go_big_quiet_step ((first | (go_at_call 146;exact Beh.calls (CW _)) | (go_at_call 181;exact Beh.calls (CY _)))))
  refine wpQuiet_nil ?_
  rintro w5 ⟨⟨_,b45⟩,rfl⟩
  have hb:=bel hb b45
  have hS:=hS.below b45
  have hQ:=hQ.below b45
  have hwq:=hwq.below b45
  clear b45 CW CY g0 g1 f0 f1 f2 f3 f4 f5 k0 hA4 hV4 hP
  obtain ⟨s0,s1,s2,s3,s4,s5⟩:=hS.cells
  obtain ⟨q0,q1,q2,q3,q4,q5,q6⟩:=hQ.cells
  cases h1:decide (y < 0)
  rotate_left
  ·have HX:=Lib.hid (show K.leg x.nd x.l x.s x.r v i a t=(0,4) by
    have hr:K.reach x.nd x.l x.s x.r v a t (K.req x.r i).node=(0,4):=by unfold K.reach;rw [HY.out,if_pos (by have h1:=of_decide_eq_true h1;omega)]
    unfold K.leg;rw [if_neg HD.out,if_neg HF.out,hr,if_pos (by decide)])
   go_wp2_with fail
   go_ret2
   exact leg_mk' HX.out hb
  have hyp:¬ y < 0:=of_decide_eq_false h1
  have hwrap:IntKind.i64.wrap (t + y)=t + y:=IntWalk.i64_in _ (by omega)
  cases h2:decide (x.s.end_ < t + y)
  rotate_left
  ·have HX:=Lib.hid (show K.leg x.nd x.l x.s x.r v i a t=(0,18) by
    have hr:K.reach x.nd x.l x.s x.r v a t (K.req x.r i).node=(0,18):=by unfold K.reach;rw [HY.out,if_neg (by omega),if_pos (of_decide_eq_true h2)]
    unfold K.leg;rw [if_neg HD.out,if_neg HF.out,hr,if_pos (by decide)])
   go_wp2_with fail
   go_ret2
   exact leg_mk' HX.out hb
  have h2':¬ x.s.end_ < t + y:=of_decide_eq_false h2
  have HR:=Lib.hid (show K.reach x.nd x.l x.s x.r v a t (K.req x.r i).node=(t + y,0) by unfold K.reach;rw [HY.out,if_neg (by omega),if_neg h2'])
  have hy2:0≤y:=by omega
  clear hyp h2'
  go_wp2_with fail
  refine (rfit_any q.A q.n q.c q.l (t + y) q.service _ hwq hqn).mono ?_
  rintro e w7 ⟨rfl,b67⟩
  have hb:=bel hb b67
  have hS:=hS.below b67
  have hQ:=hQ.below b67
  clear q0 q1 q2 q3 q4 q5 q6 s0 s1 s2 s3 s4 s5 h1 h2
  have HFO:=Lib.hid (fun h=>H.fit_ok (l:=q.l) (t:=t + y) (s:=q.service) h)
  obtain ⟨fb,hfb⟩:∃ fb,fb=(H.fit q.l (t + y) q.service).1:=⟨_,rfl⟩
  obtain ⟨ok,hok⟩:∃ ok,ok=(H.fit q.l (t + y) q.service).2:=⟨_,rfl⟩
  rw [←hfb,←hok]
  have HFB:=Lib.hid hfb
  have HOK:=Lib.hid hok
  clear hfb hok
  cases hko:ok
  ·have HX:=Lib.hid (show K.leg x.nd x.l x.s x.r v i a t=(0,19) by unfold K.leg;rw [if_neg HD.out,if_neg HF.out,HR.out,if_neg (by simp),HRQ.out,if_pos (by rw [←HOK.out];exact hko)])
   clear hko
   go_wp2_with fail
   go_ret2
   exact leg_mk' HX.out hb
  have HK1:=Lib.hid (show ¬ ((H.fit q.l (t + y) q.service).2=false) by rw [←HOK.out,hko];simp)
  obtain ⟨-,-,-,hf1,hf2⟩:=HFO.out (by rw [←HOK.out];exact hko)
  rw [←HFB.out] at hf1 hf2
  subst hko
  have hf0:0≤fb:=by omega
  clear HFO
  obtain ⟨q0,q1,q2,q3,q4,q5,q6⟩:=hQ.cells
  obtain ⟨s0,s1,s2,s3,s4,s5⟩:=hS.cells
  have hwrap:IntKind.i64.wrap (fb + q.service)=fb + q.service:=IntWalk.i64_in _ (by omega)
  cases h3:decide (x.s.end_ < fb + q.service)
  rotate_left
  ·have HX:=Lib.hid (show K.leg x.nd x.l x.s x.r v i a t=(0,18) by unfold K.leg;rw [if_neg HD.out,if_neg HF.out,HR.out,if_neg (by simp),HRQ.out,if_neg HK1.out,if_pos (by rw [←HFB.out];exact of_decide_eq_true h3)])
   go_wp2_with fail
   go_ret2
   exact leg_mk' HX.out hb
  have HX:=Lib.hid (show K.leg x.nd x.l x.s x.r v i a t=(fb,0) by unfold K.leg;rw [if_neg HD.out,if_neg HF.out,HR.out,if_neg (by simp),HRQ.out,if_neg HK1.out,if_neg (by rw [←HFB.out];exact of_decide_eq_false h3),←HFB.out])
  go_wp2_with fail
  go_ret2
  exact leg_mk' HX.out hb
end Go.Proofs.YtippdjmpkafifaaGreat
