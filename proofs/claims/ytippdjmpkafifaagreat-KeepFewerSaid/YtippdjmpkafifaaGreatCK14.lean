import Derived.Test.YtippdjmpkafifaaGreatCK13
import Derived.Test.YtippdjmpkafifaaGreatCK5
import Derived.Lib.LazyBuf
import Derived.Test.YtippdjmpkafifaaGreatCK7
import Derived.Deep.RegionHeld3
import Derived.Deep.RegionWith
namespace Go.Proofs.YtippdjmpkafifaaGreat
open Go.RowKit
namespace K
def restGo (lost:List Int):Nat→List S→List S
 | _,[]=>[]
 | i,s :: ss=>if lost.contains (i:Int)=true then restGo lost (i + 1) ss else s :: restGo lost (i + 1) ss
def restE (nd:Int) (l:List Ro) (ss:List S) (r:List Q) (lost:List Int):Int:=if asc33 ss.length (-1) lost=true then pcheck nd l ss r else 1
structure Kp where
 kept:List Int
 served:List Q
 tours:List (Int × Tr)
 reasons:List (List (Int × List Int × List Lb))
def Kp.zero:Kp:=⟨[],[],[],[]⟩
def keepYes (nd:Int) (l:List Ro) (rest:List S) (k:Kp) (x:Q):Bool:=(plan nd l rest (k.served ++ [x])).2 == 0
def keepStep (nd:Int) (l:List Ro) (rest:List S) (i:Nat) (x:Q) (k:Kp):Kp :=
 if keepYes nd l rest k x=true then ⟨k.kept ++ [(i:Int)],k.served ++ [x],(plan nd l rest (k.served ++ [x])).1.map fun t=>((t.1:Int),t.2),k.reasons⟩
 else ⟨k.kept,k.served,k.tours,k.reasons ++ [(refute nd l rest (k.served ++ [x])).1.map fun b=>((b.1:Int),b.2)]⟩
def keepGo (nd:Int) (l:List Ro) (rest:List S):Nat→List Q→Kp→Kp
 | _,[],k=>k
 | i,x :: r,k=>keepGo nd l rest (i + 1) r (keepStep nd l rest i x k)
def keep34 (nd:Int) (l:List Ro) (ss:List S) (r:List Q) (lost:List Int):Kp × Int :=
 if restE nd l ss r lost=0 then (keepGo nd l (restGo lost 0 ss) 0 r Kp.zero,0) else (Kp.zero,restE nd l ss r lost)
def kcheckGo (nd:Int) (l:List Ro) (rest:List S) (kept:List Int) (tours:List (Int × Tr)):Nat→List Q→List Q→List (List (Int × List Int × List Lb))→Bool
 | _,[],sv,_=>checks nd l rest sv tours == 0
 | i,x :: r,sv,rs=>if kept.contains (i:Int)=true then kcheckGo nd l rest kept tours (i + 1) r (sv ++ [x]) rs
  else (rs.head?.any fun b=>refutes nd l rest (sv ++ [x]) b) && kcheckGo nd l rest kept tours (i + 1) r sv rs.tail
def kcheck (nd:Int) (l:List Ro) (ss:List S) (r:List Q) (lost kept:List Int) (tours:List (Int × Tr)) (reasons:List (List (Int × List Int × List Lb))):Bool :=
 (restE nd l ss r lost == 0) && (asc33 r.length (-1) kept && ((kept.length + reasons.length == r.length) && kcheckGo nd l (restGo lost 0 ss) kept tours 0 r [] reasons))
section
variable {nd : Int} {l : List Ro} {ss rest : List S} {r : List Q} {lost kept : List Int}
theorem restGo_sub:∀ (ss:List S) (i:Nat),(restGo lost i ss).Sublist ss
 | [],_=>List.Sublist.refl _
 | s :: ss,i=>by
  rw [restGo]
  split
  ·exact (restGo_sub ss (i + 1)).cons _
  ·exact (restGo_sub ss (i + 1)).cons_cons _
theorem restE_0 (h:restE nd l ss r lost=0):asc33 ss.length (-1) lost=true∧pcheck nd l ss r=0:=by
 unfold restE at h
 split at h
 ·exact ⟨‹_›,h⟩
 ·cases h
theorem pcheck_less {ss':List S} {r':List Q} (h:pcheck nd l ss r=0) (hs:ss'.Sublist ss) (hr:r'.Sublist r):pcheck nd l ss' r'=0:=by
 obtain ⟨h1,h2,h3,h4,h5⟩:=pcheck_ok h
 exact pcheck_of h1 (Nat.le_trans hs.length_le h2) (fun s g=>h3 s (hs.subset g)) (fun q g=>h4 q (hr.subset g)) (Nat.le_trans hr.length_le h5)
structure KpOk (nd:Int) (l:List Ro) (rest:List S) (r0:List Q) (i:Nat) (k:Kp):Prop where
 served:k.served=k.kept.map (req r0)
 asc:k.kept.Pairwise (· < ·)
 lt:∀ j ∈ k.kept,0≤j∧j < (i:Int)
 len:k.kept.length + k.reasons.length=i
 tours:checks nd l rest k.served k.tours=0
theorem keepStep_ok {r0:List Q} {i:Nat} {x:Q} {k:Kp} (hx:r0[i]? = some x) (h:KpOk nd l rest r0 i k):KpOk nd l rest r0 (i + 1) (keepStep nd l rest i x k):=by
 unfold keepStep
 split
 ·rename_i hy
  unfold keepYes at hy
  refine ⟨?_,?_,?_,?_,plan_checks (beq_iff_eq.1 hy)⟩
  ·show k.served ++ [x] = (k.kept ++ [(i:Int)]).map (req r0)
   rw [List.map_append,h.served,List.map_singleton,req_at hx]
  ·show (k.kept ++ [(i:Int)]).Pairwise (· < ·)
   exact List.pairwise_append.2 ⟨h.asc,List.pairwise_singleton _ _,fun a ha b hb=>by rw [List.mem_singleton.1 hb];exact (h.lt a ha).2⟩
  ·intro j hj
   rcases List.mem_append.1 hj with hj | hj
   ·have:=h.lt j hj;omega
   ·rw [List.mem_singleton.1 hj];omega
  ·show (k.kept ++ [(i:Int)]).length + k.reasons.length=i + 1
   have:=h.len
   rw [List.length_append,List.length_singleton]
   omega
 ·refine ⟨h.served,h.asc,fun j hj=>by have:=h.lt j hj;omega,?_,h.tours⟩
  show k.kept.length + (k.reasons ++ [_]).length=i + 1
  have:=h.len
  rw [List.length_append,List.length_singleton]
  omega
theorem kpZero_ok (h:pcheck nd l rest [] = 0) (r0:List Q):KpOk nd l rest r0 0 Kp.zero:=by
 refine ⟨rfl,List.Pairwise.nil,fun j hj=>(by cases hj),rfl,?_⟩
 show checks nd l rest [] [] = 0
 unfold checks
 rw [if_pos h]
 rfl
def kpAt (nd:Int) (l:List Ro) (rest:List S) (r:List Q) (i:Nat):Kp:=keepGo nd l rest 0 (r.take i) Kp.zero
theorem keepGo_app:∀ (a b:List Q) (i:Nat) (k:Kp),keepGo nd l rest i (a ++ b) k=keepGo nd l rest (i + a.length) b (keepGo nd l rest i a k)
 | [],b,i,k=>rfl
 | x :: a,b,i,k=>by
  rw [List.cons_append,keepGo,keepGo,keepGo_app a b,List.length_cons]
  congr 1
  omega
theorem kpAt_succ {i:Nat} {x:Q} (hx:r[i]? = some x):kpAt nd l rest r (i + 1)=keepStep nd l rest i x (kpAt nd l rest r i):=by
 have hlt:i < r.length:=(List.getElem?_eq_some_iff.1 hx).1
 unfold kpAt
 rw [List.take_add_one,hx,keepGo_app,List.length_take,Nat.min_eq_left (Nat.le_of_lt hlt),Nat.zero_add]
 rfl
theorem kpAt_len:kpAt nd l rest r r.length=keepGo nd l rest 0 r Kp.zero:=by unfold kpAt;rw [List.take_length]
theorem kpAt_split {i:Nat} (hi:i≤r.length):keepGo nd l rest 0 r Kp.zero=keepGo nd l rest i (r.drop i) (kpAt nd l rest r i):=by
 unfold kpAt
 conv=>lhs;rw [←List.take_append_drop i r]
 rw [keepGo_app,List.length_take,Nat.min_eq_left hi,Nat.zero_add]
theorem kpAt_ok (h:pcheck nd l rest [] = 0) {i:Nat} (hi:i≤r.length):KpOk nd l rest r i (kpAt nd l rest r i):=by
 induction i with
 | zero=>exact kpZero_ok h r
 | succ i ih =>
  have hx:r[i]? = some r[i]:=List.getElem?_eq_getElem hi
  rw [kpAt_succ hx]
  exact keepStep_ok hx (ih (by omega))
theorem keepGo_ext:∀ (r:List Q) (i:Nat) (k:Kp),∃ K' R',(keepGo nd l rest i r k).kept=k.kept ++ K'∧(∀ j ∈ K',(i:Int)≤j)∧(keepGo nd l rest i r k).reasons=k.reasons ++ R'
 | [],i,k=>⟨[],[],by rw [List.append_nil];rfl,fun j hj=>(by cases hj),by rw [List.append_nil];rfl⟩
 | x :: r,i,k=>by
  obtain ⟨K',R',h1,h2,h3⟩:=keepGo_ext r (i + 1) (keepStep nd l rest i x k)
  rw [keepGo,h1,h3]
  unfold keepStep
  split
  ·exact ⟨(i:Int) :: K',R',by simp,fun j hj=>by
    rcases List.mem_cons.1 hj with rfl | hj
    ·exact Int.le_refl _
    ·have:=h2 j hj;omega,rfl⟩
  ·exact ⟨K',((refute nd l rest (k.served ++ [x])).1.map fun b=>((b.1:Int),b.2)) :: R',rfl,fun j hj=>by have:=h2 j hj;omega,by rw [List.append_assoc];rfl⟩
theorem kept_at (hp:pcheck nd l rest [] = 0) {i:Nat} {x:Q} (hx:r[i]? = some x) :
  ((keepGo nd l rest 0 r Kp.zero).kept.contains (i:Int)=keepYes nd l rest (kpAt nd l rest r i) x) ∧
  (keepYes nd l rest (kpAt nd l rest r i) x=false→(keepGo nd l rest 0 r Kp.zero).reasons[(kpAt nd l rest r i).reasons.length]? = some ((refute nd l rest ((kpAt nd l rest r i).served ++ [x])).1.map fun b=>((b.1:Int),b.2))):=by
 have hlt:i < r.length:=(List.getElem?_eq_some_iff.1 hx).1
 have hk:=kpAt_ok (nd:=nd) (l:=l) (rest:=rest) (r:=r) hp (Nat.le_of_lt hlt)
 obtain ⟨K',R',h1,h2,h3⟩:=keepGo_ext (nd:=nd) (l:=l) (rest:=rest) (r.drop (i + 1)) (i + 1) (kpAt nd l rest r (i + 1))
 rw [kpAt_split (nd:=nd) (l:=l) (rest:=rest) (i:=i + 1) hlt,h1,h3,kpAt_succ hx]
 have hn:((kpAt nd l rest r i).kept).contains (i:Int)=false:=by
  rw [Bool.eq_false_iff]
  intro h
  have:=hk.lt _ (List.contains_iff_mem.1 h)
  omega
 have hn':K'.contains (i:Int)=false:=by
  rw [Bool.eq_false_iff]
  intro h
  have:=h2 _ (List.contains_iff_mem.1 h)
  omega
 unfold keepStep
 cases hy:keepYes nd l rest (kpAt nd l rest r i) x
 ·rw [if_neg (by simp)]
  refine ⟨?_,fun _=>?_⟩
  ·show ((kpAt nd l rest r i).kept ++ K').contains (i:Int)=false
   rw [Bool.eq_false_iff]
   intro h
   rcases List.mem_append.1 (List.contains_iff_mem.1 h) with h | h
   ·rw [List.contains_iff_mem.2 h] at hn;cases hn
   ·rw [List.contains_iff_mem.2 h] at hn';cases hn'
  ·show ((kpAt nd l rest r i).reasons ++ [_] ++ R')[(kpAt nd l rest r i).reasons.length]? = _
   rw [List.append_assoc,List.getElem?_append_right (Nat.le_refl _),Nat.sub_self]
   rfl
 ·rw [if_pos rfl]
  refine ⟨?_,fun h=>by cases h⟩
  exact List.contains_iff_mem.2 (List.mem_append_left _ (List.mem_append_right _ (List.mem_singleton_self _)))
theorem served_sub (hp:pcheck nd l rest [] = 0) {i:Nat} {x:Q} (hx:r[i]? = some x):((kpAt nd l rest r i).served ++ [x]).Sublist r:=by
 have hlt:i < r.length:=(List.getElem?_eq_some_iff.1 hx).1
 have hk:=kpAt_ok (nd:=nd) (l:=l) (rest:=rest) (r:=r) hp (Nat.le_of_lt hlt)
 rw [hk.served,show [x] = [(i:Int)].map (req r) by rw [List.map_singleton,req_at hx],←List.map_append]
 refine pick_sub ?_ fun j hj=>?_
 ·exact List.pairwise_append.2 ⟨hk.asc,List.pairwise_singleton _ _,fun a ha b hb=>by rw [List.mem_singleton.1 hb];exact (hk.lt a ha).2⟩
 ·rcases List.mem_append.1 hj with hj | hj
  ·have:=hk.lt j hj;omega
  ·rw [List.mem_singleton.1 hj];omega
theorem not_kept (hp:pcheck nd l rest r=0) (hs:rest.length≤4) (hr:r.length≤4) {i:Nat} {x:Q} (hx:r[i]? = some x) (hy:keepYes nd l rest (kpAt nd l rest r i) x=false) :
  (plan nd l rest ((kpAt nd l rest r i).served ++ [x])).2=4∧refutes nd l rest ((kpAt nd l rest r i).served ++ [x]) ((refute nd l rest ((kpAt nd l rest r i).served ++ [x])).1.map fun b=>((b.1:Int),b.2))=true:=by
 have hsub:=served_sub (pcheck_sub hp (List.nil_sublist r)) hx
 have h4:(plan nd l rest ((kpAt nd l rest r i).served ++ [x])).2=4:=by
  rcases plan_42 (pcheck_sub hp hsub) with h | h
  ·unfold keepYes at hy
   rw [h] at hy
   cases hy
  ·exact h
 exact ⟨h4,(refute_refutes hs (Nat.le_trans hsub.length_le hr) h4).2⟩
theorem kcheckGo_keep (hp:pcheck nd l rest r=0) (hs:rest.length≤4) (hr:r.length≤4):∀ (n i:Nat),i + n=r.length →
  kcheckGo nd l rest (keepGo nd l rest 0 r Kp.zero).kept (keepGo nd l rest 0 r Kp.zero).tours i (r.drop i) (kpAt nd l rest r i).served ((keepGo nd l rest 0 r Kp.zero).reasons.drop (kpAt nd l rest r i).reasons.length)=true
 | 0,i,h=>by
  obtain rfl:i=r.length:=by omega
  rw [List.drop_length,kpAt_len]
  have:=(kpAt_ok (nd:=nd) (l:=l) (rest:=rest) (r:=r) (pcheck_sub hp (List.nil_sublist r)) (Nat.le_refl _)).tours
  rw [kpAt_len] at this
  show (checks nd l rest _ _ == 0)=true
  rw [this]
  rfl
 | n + 1,i,h=>by
  have hlt:i < r.length:=by omega
  have hx:r[i]? = some r[i]:=List.getElem?_eq_getElem hlt
  have ih:=kcheckGo_keep hp hs hr n (i + 1) (by omega)
  obtain ⟨g1,g2⟩:=kept_at (nd:=nd) (l:=l) (rest:=rest) (r:=r) (pcheck_sub hp (List.nil_sublist r)) hx
  rw [List.drop_eq_getElem_cons hlt,kcheckGo,g1]
  rw [kpAt_succ hx] at ih
  unfold keepStep at ih
  cases hy:keepYes nd l rest (kpAt nd l rest r i) r[i]
  ·rw [hy,if_neg (by simp)] at ih
   rw [if_neg (by simp)]
   have hg:=g2 hy
   obtain ⟨hgl,hge⟩:=List.getElem?_eq_some_iff.1 hg
   rw [List.drop_eq_getElem_cons hgl,hge]
   show ((refutes nd l rest ((kpAt nd l rest r i).served ++ [r[i]]) _) && _)=true
   rw [(not_kept hp hs hr hx hy).2,Bool.true_and]
   simpa using ih
  ·rw [hy,if_pos rfl] at ih
   rw [if_pos rfl]
   exact ih
theorem keep_check (hs:ss.length≤4) (hr:r.length≤4) (h:restE nd l ss r lost=0):kcheck nd l ss r lost (keep34 nd l ss r lost).1.kept (keep34 nd l ss r lost).1.tours (keep34 nd l ss r lost).1.reasons=true:=by
 obtain ⟨h1,h2⟩:=restE_0 h
 have hp:=pcheck_less h2 (restGo_sub (lost:=lost) ss 0) (List.Sublist.refl r)
 have hk:=kpAt_ok (nd:=nd) (l:=l) (rest:=restGo lost 0 ss) (r:=r) (pcheck_sub hp (List.nil_sublist r)) (Nat.le_refl _)
 rw [kpAt_len] at hk
 unfold kcheck keep34
 rw [if_pos h,h]
 simp only [Bool.and_eq_true]
 refine ⟨rfl,asc33_iff.2 ⟨hk.asc,fun j hj=>by have:=hk.lt j hj;omega⟩,?_,?_⟩
 ·rw [beq_iff_eq];exact hk.len
 ·have:=kcheckGo_keep hp (Nat.le_trans (restGo_sub (lost:=lost) ss 0).length_le hs) hr r.length 0 (by omega)
  exact this
theorem keep_wrong (h:restE nd l ss r lost ≠ 0) (kept:List Int) (tours:List (Int × Tr)) (reasons:List (List (Int × List Int × List Lb))):kcheck nd l ss r lost kept tours reasons=false:=by
 unfold kcheck
 have:(restE nd l ss r lost == 0)=false:=by simpa using h
 rw [this,Bool.false_and]
theorem kcheckGo_plan {tours:List (Int × Tr)}:∀ (r:List Q) (i:Nat) (sv:List Q) (rs:List (List (Int × List Int × List Lb))),kcheckGo nd l rest kept tours i r sv rs=true→(plan nd l rest sv).2=0
 | [],i,sv,rs,h=>checks_plan (beq_iff_eq.1 h)
 | x :: r,i,sv,rs,h=>by
  rw [kcheckGo] at h
  split at h
  ·exact plan_part (kcheckGo_plan r _ _ _ h) (List.sublist_append_left sv [x])
  ·rw [Bool.and_eq_true] at h
   exact kcheckGo_plan r _ _ _ h.2
theorem filter_none {v:List Int} {i:Int} (h:∀ j ∈ v,i≤j):v.filter (fun j=>decide (j < i))=[]:=by
 rw [List.filter_eq_nil_iff]
 intro j hj
 have:=h j hj
 simp
 omega
theorem filter_succ {i:Int}:∀ {v:List Int},v.Pairwise (· < ·)→v.filter (fun j=>decide (j < i + 1))=if v.contains i=true then v.filter (fun j=>decide (j < i)) ++ [i] else v.filter (fun j=>decide (j < i))
 | [],_=>rfl
 | a :: v,h=>by
  obtain ⟨h1,h2⟩:=List.pairwise_cons.1 h
  have ih:=filter_succ (i:=i) h2
  by_cases e:a < i
  ·have e1:a < i + 1:=by omega
   have e2:(a :: v).contains i=v.contains i:=by
    rw [List.contains_cons]
    have:(i == a)=false:=by simp;omega
    rw [this,Bool.false_or]
   rw [List.filter_cons_of_pos (by simpa using e1),ih,e2,List.filter_cons_of_pos (by simpa using e)]
   split <;> rfl
  ·have hall:∀ j ∈ v,i + 1≤j:=fun j hj=>by have:=h1 j hj;omega
   by_cases e3:a=i
   ·subst e3
    rw [List.filter_cons_of_pos (by simp;omega),filter_none hall,if_pos (by simp),List.filter_cons_of_neg (by simp),filter_none (fun j hj=>by have:=hall j hj;omega)]
    rfl
   ·have hc:¬ (a :: v).contains i=true:=fun h9=>by
     rcases List.mem_cons.1 (List.contains_iff_mem.1 h9) with h9 | h9
     ·exact e3 h9.symm
     ·have:=hall i h9;omega
    rw [if_neg hc,List.filter_cons_of_neg (by simp;omega),List.filter_cons_of_neg (by simp;omega),filter_none hall,filter_none (fun j hj=>by have:=hall j hj;omega)]
theorem kcheckGo_kept {tours:List (Int × Tr)} (hasc:kept.Pairwise (· < ·)) (hlt:∀ j ∈ kept,j < (r.length:Int)):∀ (n i:Nat) (rs:List (List (Int × List Int × List Lb))) (k:Kp),i + n=r.length→k.kept=kept.filter (fun j=>decide (j < (i:Int))) →
  kcheckGo nd l rest kept tours i (r.drop i) k.served rs=true→(keepGo nd l rest i (r.drop i) k).kept=kept
 | 0,i,rs,k,h,hk,_=>by
  obtain rfl:i=r.length:=by omega
  rw [List.drop_length]
  show k.kept=kept
  rw [hk]
  exact List.filter_eq_self.2 fun j hj=>by simpa using hlt j hj
 | n + 1,i,rs,k,h,hk,hc=>by
  have hi:i < r.length:=by omega
  have hf:=filter_succ (i:=(i:Int)) hasc
  rw [List.drop_eq_getElem_cons hi,kcheckGo] at hc
  rw [List.drop_eq_getElem_cons hi,keepGo]
  by_cases hm:kept.contains (i:Int)=true
  ·rw [if_pos hm] at hc hf
   have hy:keepYes nd l rest k r[i] = true:=by
    unfold keepYes
    rw [beq_iff_eq]
    exact kcheckGo_plan _ _ _ _ hc
   unfold keepStep
   rw [if_pos hy]
   exact kcheckGo_kept hasc hlt n (i + 1) rs _ (by omega) (by rw [hk,←hf];rfl) hc
  ·rw [if_neg hm] at hc hf
   rw [Bool.and_eq_true] at hc
   have hy:keepYes nd l rest k r[i] = false:=by
    unfold keepYes
    cases hrs:rs.head? with
    | none=>rw [hrs] at hc;cases hc.1
    | some b =>
     have h1:=hc.1
     rw [hrs] at h1
     rw [refutes_plan h1]
     rfl
   unfold keepStep
   rw [hy,if_neg (by simp)]
   exact kcheckGo_kept hasc hlt n (i + 1) _ _ (by omega) (by rw [←hk] at hf;exact hf.symm) hc.2
theorem check_keep {tours:List (Int × Tr)} {reasons:List (List (Int × List Int × List Lb))} (h:kcheck nd l ss r lost kept tours reasons=true):(keep34 nd l ss r lost).2=0∧(keep34 nd l ss r lost).1.kept=kept:=by
 unfold kcheck at h
 simp only [Bool.and_eq_true] at h
 obtain ⟨h1,h2,-,h4⟩:=h
 obtain ⟨a1,a2⟩:=asc33_iff.1 h2
 unfold keep34
 rw [if_pos (beq_iff_eq.1 h1)]
 refine ⟨rfl,?_⟩
 exact kcheckGo_kept a1 (fun j hj=>(a2 j hj).2) r.length 0 reasons Kp.zero (by omega) (by rw [filter_none fun j hj=>by have:=a2 j hj;omega];rfl) h4
theorem keep_first {n:Nat} (hn:n≤r.length) (h:(keep34 nd l ss r lost).2=0):(keep34 nd l ss (r.take n) lost).2=0∧(∀ i:Nat,i < n→(keep34 nd l ss r lost).1.kept.contains (i:Int)=(keep34 nd l ss (r.take n) lost).1.kept.contains (i:Int))∧(keep34 nd l ss (r.take n) lost).1.kept.length≤n:=by
 have h0:restE nd l ss r lost=0:=by
  unfold keep34 at h
  split at h
  ·assumption
  ·exact h
 obtain ⟨h1,h2⟩:=restE_0 h0
 have h3:restE nd l ss (r.take n) lost=0:=by unfold restE;rw [if_pos h1];exact pcheck_sub h2 (List.take_sublist n r)
 have hp:=pcheck_less h2 (restGo_sub (lost:=lost) ss 0) (List.nil_sublist r)
 unfold keep34
 rw [if_pos h0,if_pos h3]
 refine ⟨rfl,fun i hi=>?_,?_⟩
 ·have hx:r[i]? = some r[i]:=List.getElem?_eq_getElem (by omega)
  have hx':(r.take n)[i]? = some r[i]:=by rw [List.getElem?_take_of_lt hi];exact hx
  rw [(kept_at hp hx).1,(kept_at hp hx').1]
  unfold kpAt
  rw [List.take_take,Nat.min_eq_left (Nat.le_of_lt hi)]
 ·have hk:=kpAt_ok (nd:=nd) (l:=l) (rest:=restGo lost 0 ss) (r:=r.take n) hp (Nat.le_refl _)
  rw [kpAt_len] at hk
  have:=hk.len
  rw [List.length_take,Nat.min_eq_left hn] at this
  dsimp only
  omega
end
theorem emb_gen {α:Type} {r' r:List α} (h:r'.Sublist r):∃ φ:Nat→Nat,(∀ i,i < r'.length→r[φ i]? = r'[i]?)∧∀ i j,i < j→j < r'.length→φ i < φ j:=by
 induction h with
 | slnil=>exact ⟨id,fun i hi=>absurd hi (by simp),fun i j _ hj=>absurd hj (by simp)⟩
 | cons a _ ih =>
  obtain ⟨φ,h1,h2⟩:=ih
  exact ⟨fun i=>φ i + 1,fun i hi=>by rw [List.getElem?_cons_succ];exact h1 i hi,fun i j hij hj=>by show φ i + 1 < φ j + 1;have:=h2 i j hij hj;omega⟩
 | cons_cons a _ ih =>
  obtain ⟨φ,h1,h2⟩:=ih
  refine ⟨fun i=>match i with | 0=>0 | i + 1=>φ i + 1,fun i hi=>?_,fun i j hij hj=>?_⟩
  ·cases i with
   | zero=>rfl
   | succ i =>
    rw [List.length_cons] at hi
    show (a :: _)[φ i + 1]? = _
    rw [List.getElem?_cons_succ,List.getElem?_cons_succ]
    exact h1 i (by omega)
  ·rw [List.length_cons] at hj
   cases j with
   | zero=>omega
   | succ j =>
    cases i with
    | zero=>exact Nat.succ_pos _
    | succ i =>
     have:=h2 i j (by omega) (by omega)
     show φ i + 1 < φ j + 1
     omega
section
variable {nd : Int} {l : List Ro} {ss rest : List S} {r : List Q} {lost kept : List Int}
theorem plan_shifts {ss':List S} (h:(plan nd l ss r).2=0) (hs:ss.Sublist ss') (hp:pcheck nd l ss' r=0):(plan nd l ss' r).2=0:=by
 obtain ⟨h1,d,h3,-⟩:=plan_0 h
 obtain ⟨-,hd2,-⟩:=first_some h3
 obtain ⟨θ,t1,t2⟩:=emb_gen hs
 refine plan_embed (θ:=θ) h1 hp (emb_id r) h3 (fun i hi=>t1 i (hd2 i hi)) (fun i hi j hj e=>?_)
 rcases Nat.lt_trichotomy i j with g | g | g
 ·have:=t2 i j g (hd2 j hj);omega
 ·exact g
 ·have:=t2 j i g (hd2 i hi);omega
theorem restGo_mono {lost':List Int} (h:∀ j ∈ lost',j ∈ lost):∀ (ss:List S) (i:Nat),(restGo lost i ss).Sublist (restGo lost' i ss)
 | [],_=>List.Sublist.refl _
 | s :: ss,i=>by
  rw [restGo,restGo]
  by_cases h1:lost'.contains (i:Int)=true
  ·rw [if_pos h1,if_pos (List.contains_iff_mem.2 (h _ (List.contains_iff_mem.1 h1)))]
   exact restGo_mono h ss (i + 1)
  ·rw [if_neg h1]
   split
   ·exact (restGo_mono h ss (i + 1)).cons _
   ·exact (restGo_mono h ss (i + 1)).cons_cons _
def cnt34 (lost:List Int):Nat→Nat→Nat
 | _,0=>0
 | i,s + 1=>(if lost.contains (i:Int)=true then 0 else 1) + cnt34 lost (i + 1) s
theorem restGo_at:∀ (ss:List S) (i s:Nat),lost.contains ((i + s:Nat):Int)=false→(restGo lost i ss)[cnt34 lost i s]? = ss[s]?
 | [],_,_,_=>by rw [restGo,List.getElem?_nil,List.getElem?_nil]
 | a :: ss,i,0,h=>by
  rw [restGo,if_neg (by rw [Nat.add_zero] at h;rw [h];simp)]
  rfl
 | a :: ss,i,s + 1,h=>by
  have ih:=restGo_at ss (i + 1) s (by rw [show i + 1 + s=i + (s + 1) by omega];exact h)
  rw [restGo,cnt34,List.getElem?_cons_succ]
  split
  ·rw [Nat.zero_add];exact ih
  ·rw [show 1 + cnt34 lost (i + 1) s=cnt34 lost (i + 1) s + 1 from Nat.add_comm _ _,List.getElem?_cons_succ];exact ih
theorem cnt34_lt:∀ (t i s:Nat),s < t→lost.contains ((i + s:Nat):Int)=false→cnt34 lost i s < cnt34 lost i t
 | 0,_,_,h,_=>by omega
 | t + 1,i,0,_,h=>by
  rw [cnt34,cnt34,if_neg (by rw [Nat.add_zero] at h;rw [h];simp)]
  omega
 | t + 1,i,s + 1,h,g=>by
  have:=cnt34_lt t (i + 1) s (by omega) (by rw [show i + 1 + s=i + (s + 1) by omega];exact g)
  rw [cnt34,cnt34]
  omega
theorem spared (h:(plan nd l ss r).2=0) (hl:∀ t ∈ (plan nd l ss r).1,lost.contains (t.1:Int)=false):(plan nd l (restGo lost 0 ss) r).2=0:=by
 obtain ⟨h1,d,h3,h4⟩:=plan_0 h
 obtain ⟨hd1,hd2,hd3⟩:=first_some h3
 have hnot:∀ s ∈ d,lost.contains ((0 + s:Nat):Int)=false:=fun s hs=>by
  rw [Nat.zero_add]
  have hlt:=hd2 s hs
  have hne:A.share d s 0 ≠ []:=fun e=>A.share_nil.1 e hs
  rcases hd3 s hlt with e | e
  ·exact absurd e hne
  obtain ⟨sv,t,g1,g2⟩:=(feas_iff h1 (A.share_sorted d s 0) (fun x hx=>by have:=A.share_mem hx;omega)).1 e
  refine hl (s,t) ?_
  rw [h4]
  unfold toursOf
  refine List.mem_filterMap.2 ⟨s,List.mem_range.2 hlt,?_⟩
  rw [if_neg (by simpa using hne),g1]
  dsimp only
  rw [g2]
  rfl
 refine plan_embed (θ:=cnt34 lost 0) h1 (pcheck_less h1 (restGo_sub ss 0) (List.Sublist.refl r)) (emb_id r) h3 (fun s hs=>restGo_at ss 0 s (hnot s hs)) (fun s hs t ht e=>?_)
 rcases Nat.lt_trichotomy s t with g | g | g
 ·have:=cnt34_lt (lost:=lost) t 0 s g (hnot s hs);omega
 ·exact g
 ·have:=cnt34_lt (lost:=lost) s 0 t g (hnot t ht);omega
theorem kept_all (hp:(plan nd l rest r).2=0):∀ (n i:Nat) (k:Kp),i + n=r.length→k.served=r.take i→(keepGo nd l rest i (r.drop i) k).kept.length=k.kept.length + n
 | 0,i,k,h,_=>by
  obtain rfl:i=r.length:=by omega
  rw [List.drop_length]
  rfl
 | n + 1,i,k,h,hk=>by
  have hi:i < r.length:=by omega
  have e:r.take i ++ [r[i]] = r.take (i + 1):=by rw [List.take_add_one,List.getElem?_eq_getElem hi];rfl
  rw [List.drop_eq_getElem_cons hi,keepGo]
  have hy:keepYes nd l rest k r[i] = true:=by
   unfold keepYes
   rw [beq_iff_eq,hk,e]
   exact plan_part hp (List.take_sublist _ r)
  unfold keepStep
  rw [if_pos hy]
  rw [kept_all hp n (i + 1) _ (by omega) (by show k.served ++ [r[i]] = _;rw [hk,e])]
  show (k.kept ++ [_]).length + n=_
  rw [List.length_append,List.length_singleton]
  omega
theorem keep_spared (h0:restE nd l ss r lost=0) (h:(plan nd l ss r).2=0) (hl:∀ t ∈ (plan nd l ss r).1,lost.contains (t.1:Int)=false):(keep34 nd l ss r lost).1.kept.length=r.length:=by
 have:=kept_all (spared h hl) r.length 0 Kp.zero (by omega) rfl
 unfold keep34
 rw [if_pos h0]
 rw [List.drop_zero] at this
 rw [this]
 show 0 + r.length=_
 omega
theorem keep_fewer {lost':List Int} (h0:restE nd l ss r lost=0) (hsub:∀ j ∈ lost',j ∈ lost) (ha:asc33 ss.length (-1) lost'=true) :
  (keep34 nd l ss r lost').2=0∧∀ i:Nat,i < r.length→(∀ j:Nat,j < i→(keep34 nd l ss r lost).1.kept.contains (j:Int)=(keep34 nd l ss r lost').1.kept.contains (j:Int)) →
   (keep34 nd l ss r lost).1.kept.contains (i:Int)=true→(keep34 nd l ss r lost').1.kept.contains (i:Int)=true:=by
 obtain ⟨h1,h2⟩:=restE_0 h0
 have h3:restE nd l ss r lost'=0:=by unfold restE;rw [if_pos ha];exact h2
 have hp:=pcheck_less h2 (restGo_sub (lost:=lost) ss 0) (List.nil_sublist r)
 have hp':=pcheck_less h2 (restGo_sub (lost:=lost') ss 0) (List.nil_sublist r)
 unfold keep34
 rw [if_pos h0,if_pos h3]
 refine ⟨rfl,fun i hi hj hc=>?_⟩
 dsimp only at hj hc ⊢
 have hx:r[i]? = some r[i]:=List.getElem?_eq_getElem hi
 have hsame:∀ n,n≤i→(kpAt nd l (restGo lost 0 ss) r n).served=(kpAt nd l (restGo lost' 0 ss) r n).served:=by
  intro n
  induction n with
  | zero=>exact fun _=>rfl
  | succ n ih =>
   intro hn
   have ih:=ih (by omega)
   have hxn:r[n]? = some r[n]:=List.getElem?_eq_getElem (by omega)
   have h9:=hj n (by omega)
   rw [(kept_at hp hxn).1,(kept_at hp' hxn).1] at h9
   rw [kpAt_succ hxn,kpAt_succ hxn]
   unfold keepStep
   rw [h9]
   split
   ·show _ ++ _=_ ++ _
    rw [ih]
   ·exact ih
 rw [(kept_at hp hx).1] at hc
 rw [(kept_at hp' hx).1]
 unfold keepYes at hc ⊢
 rw [beq_iff_eq] at hc ⊢
 rw [←hsame i (Nat.le_refl _)]
 exact plan_shifts hc (restGo_mono hsub ss 0) (pcheck_less h2 (restGo_sub ss 0) (served_sub hp hx))
end
end K
theorem flat_one {α:Type} (f:α→List Value) (h:∀ x,∀ u ∈ f x,u.oneCell'=true) (l:List α):∀ u ∈ l.flatMap f,u.oneCell'=true:=fun u hu=>by
 obtain ⟨x,-,h2⟩:=List.mem_flatMap.1 hu
 exact h x u h2
theorem req_one (x:Q):∀ u ∈ Q.cells x,u.oneCell'=true:=by
 intro u hu
 simp only [Q.cells,List.mem_cons,List.not_mem_nil,or_false] at hu
 rcases hu with rfl | rfl | rfl | rfl | rfl | rfl | rfl <;> rfl
theorem clone150_info:(Tryz.prog.info? 63).map (fun i=>(i.zero,i.size,i.bytes))=some (some (.agg #[.int .i64 0,.int .i64 0,.int .i64 0,.int .i64 0,.int .i64 0,.slice none 0 0]),6,64):=by kernel_rfl
theorem eql26 (a:Option Addr) (l c:Nat) (w:World):(binOp .eql 26 (.slice a l c) (.slice none 0 0)).run Tryz.prog w=.ok (.bool a.isNone) w:=Go.run_eql_slice_nil w 26 47 a l c Tryz.underlying26
theorem clone120_info:(Tryz.prog.info? 47).map (fun i=>(i.zero,i.size,i.bytes))=some (some (.agg #[.int .i64 0,.int .i64 0,.int .i64 0,.int .i64 0,.int .i64 0,.int .i64 0,.slice none 0 0]),7,72):=by kernel_rfl
set_option maxHeartbeats 2000000 in
theorem clone120 (A:Option Addr) (n c:Nat) (xs:List Value) (w:World) (hl:Rd w 7 A n xs) (h1:∀ u ∈ xs,u.oneCell'=true) (hn:n≤1000000) :
  Calls Tryz.prog 120 #[.slice A n c] w fun e w'=>(∃ v,e=.returned v∧w'.ownsRow w.heap.size 47 7 v n xs)∧Below w.heap.size w w':=by
 obtain ⟨i0,hi,hz0,hz1,hz2⟩:=info_parts clone120_info
 have heq:=eql26
 cases A with
 | none =>
  go_enter Tryz.func120,Tryz.ntmps120
  go_wp2_with fail
  go_ret
  have h0:n=0:=by
   cases n with
   | zero=>rfl
   | succ n=>obtain ⟨ad,e,_⟩:=hl.2 (by omega);cases e
  subst h0
  have hl0:xs=[]:=List.length_eq_zero_iff.1 (by have:=hl.1;omega)
  subst hl0
  exact ⟨⟨_,rfl,World.ownsRow_nil _ _ _ _⟩,Below.refl _ _⟩
 | some ad =>
  have hlit:(w.alloc (.cells #[] 47)).ownsRow w.heap.size 47 7 (.slice (some ⟨w.heap.size,0,none⟩) 0 0) 0 []:=World.ownsRow_lit w #[] 0 (Nat.le_refl _) (by simp only [maxLen];omega) (by simp)
  have hb0:=(Below.refl w.heap.size w).alloc (Nat.le_refl _) (.cells #[] 47)
  go_enter Tryz.func120,Tryz.ntmps120
  go_wp2_with (at_builtin;refine wp_append_rd rfl (.tmp 5) (.tmp 6) 26 rfl w.heap.size 47 i0 (.agg #[.int .i64 0,.int .i64 0,.int .i64 0,.int .i64 0,.int .i64 0,.int .i64 0,.slice none 0 0]) 7 72 Tryz.underlying26 hi hz0 hz1 hz2 rfl (by decide) _ 0 _ rfl hlit (some ad) n c xs rfl (hl.below hb0) h1 (by simp only [maxLen];omega) (by omega) (by first | (simp;done) | (simp;omega)) ?_;intro v' w4 hown4 hgrow4 hat4)
  rw [Nat.zero_add] at hown4
  have hb4:Below w.heap.size w w4:=below_own hb0 (Nat.le_refl _) hgrow4 (fun g h=>(hlit.lt g h).1)
  clear hgrow4 hat4
  go_wp2_with fail
  go_ret
  exact ⟨⟨_,rfl,hown4⟩,hb4⟩
set_option maxRecDepth 100000 in
set_option maxHeartbeats 8000000 in
theorem rising107_any (A:Option Addr) (n c:Nat) (l:List Int) (m:Nat) (w:World) (hl:Ints w A n l) (hn:n≤1000000000) (hm:m≤1000000000) :
  Calls Tryz.prog 107 #[.slice A n c,.int .i64 m] w fun e w'=>e=.returned (.bool (K.asc33 m (-1) l))∧Below w.heap.size w w':=by
 obtain ⟨R,hR⟩:∃ R,R=K.asc33 m (-1) l:=⟨_,rfl⟩
 rw [←hR]
 have HR:=Lib.hid hR
 clear hR
 go_enter Tryz.func107,Tryz.ntmps107
 go_wp2_with fail
 go_loopw [9] (fun v wr=>∃ (k:Nat) (p:Int),v=.int .i64 k∧k≤n∧Hid (R=K.asc33 m p (l.drop k))∧Hid ((k=0∧p=-1)∨∃ j,k=j + 1∧l[j]? = some p∧0≤p)∧Below w.heap.size w wr) (fun v _=>n - (intOf v).toNat)
 case atStart=>exact ⟨0,-1,rfl,Nat.zero_le _,(by show _=_;rw [List.drop_zero];exact HR.out),.inl ⟨rfl,rfl⟩,Below.refl _ _⟩
 case round =>
  obtain ⟨k,p,rfl,hk,hr,hp,hb⟩:=hrel
  by_cases hlt:k < n
  ·obtain ⟨ad,y,hA,hg,c0⟩:=(hl.below hb).at_ hlt
   have HS:=Lib.hid (show R=(!decide (y≤p) && (!decide ((m:Int)≤y) && K.asc33 m y (l.drop (k + 1)))) by rw [hr.out,drop_of_some hg,K.asc33])
   have HG:=Lib.hid hg
   have k0:(0:Int)≤(k:Int):=by omega
   have k1:(k:Int) < (n:Int):=by omega
   by_cases h1:y < 0
   ·have HX:=Lib.hid (show R=false by
     have:decide (y≤p)=true:=by
      rcases hp.out with ⟨-,e⟩ | ⟨j,-,-,e⟩ <;> simp <;> omega
     rw [HS.out,this];rfl)
    have d1:decide (y < 0)=true:=by simp;omega
    clear hg h1
    rw [hA]
    clear hA
    go_wp2_with fail
    go_ret
    exact ⟨by rw [HX.out];rfl,hb⟩
   have d1:decide (y < 0)=false:=by simp;omega
   by_cases h2:(m:Int)≤y
   ·have HX:=Lib.hid (show R=false by rw [HS.out,decide_eq_true h2];simp)
    have d2:decide ((m:Int)≤y)=true:=decide_eq_true h2
    clear hg h1 h2
    rw [hA]
    clear hA
    go_wp2_with fail
    go_ret
    exact ⟨by rw [HX.out];rfl,hb⟩
   have d2:decide ((m:Int)≤y)=false:=decide_eq_false h2
   have h10:0≤y:=by omega
   have HNX:=Lib.hid (show (k + 1=0∧y=-1)∨∃ j,k + 1=j + 1∧l[j]? = some y∧0≤y from .inr ⟨k,rfl,hg,h10⟩)
   rcases hp.out with ⟨h0,hp1⟩ | ⟨j,hkj,hj,hp0⟩
   ·have d3:decide ((0:Int) < (k:Int))=false:=by simp;omega
    have d3':decide (0 < k)=false:=by simp;omega
    have HX:=Lib.hid (show R=K.asc33 m y (l.drop (k + 1)) by rw [HS.out,d2,show decide (y≤p)=false by simp;omega];simp)
    clear hg h1 h2 h10 HS h0 hp1
    rw [hA]
    clear hA
    go_wp2_with fail
    go_roundw
    case rel=>exact ⟨k + 1,y,by go_num,by omega,HX.out,HNX.out,hb⟩
    case measure=>simp [intOf];omega
   ·obtain ⟨ad2,p2,hA2,hj2,c2⟩:=(hl.below hb).at_ (show j < n by omega)
    rw [hA] at hA2
    injection hA2 with hA2
    subst hA2
    obtain rfl:p2=p:=by rw [hj] at hj2;injection hj2 with h9;exact h9.symm
    have d3:decide ((0:Int) < (k:Int))=true:=by simp;omega
    have d3':decide (0 < k)=true:=by simp;omega
    have f2:(k:Int) - 1=(j:Int):=by omega
    have f3:IntKind.i64.wrap ((k:Int) - 1)=(j:Int):=by rw [f2];exact IntWalk.i64_in _ (by omega)
    have f4:decide ((j:Int) < 0)=false:=by simp
    have f5:max (j:Int) 0=(j:Int):=by omega
    have f6:(j:Int) < (n:Int):=by omega
    have f7:(0:Int)≤(j:Int):=by omega
    by_cases h3:y≤p2
    ·have HX:=Lib.hid (show R=false by rw [HS.out,decide_eq_true h3];rfl)
     have d4:decide (y≤p2)=true:=decide_eq_true h3
     clear hg h1 h2 h3 h10 HS hj hj2 hkj
     rw [hA]
     clear hA
     go_wp2_with fail
     go_ret
     exact ⟨by rw [HX.out];rfl,hb⟩
    ·have HX:=Lib.hid (show R=K.asc33 m y (l.drop (k + 1)) by rw [HS.out,d2,decide_eq_false h3];simp)
     have d4:decide (y≤p2)=false:=decide_eq_false h3
     clear hg h1 h2 h3 h10 HS hj hj2 hkj
     rw [hA]
     clear hA
     go_wp2_with fail
     go_roundw
     case rel=>exact ⟨k + 1,y,by go_num,by omega,HX.out,HNX.out,hb⟩
     case measure=>simp [intOf];omega
  ·have HX:=Lib.hid (show R=true by rw [hr.out,List.drop_eq_nil_of_le (by rw [←hl.1];omega)];rfl)
   have hd:decide ((k:Int) < (n:Int))=false:=by simp;omega
   have hd2:decide (k < n)=false:=by simp;omega
   go_wp2_with fail
   go_ret
   exact ⟨by rw [HX.out];rfl,hb⟩
theorem own_base {w:World} {base base':Nat} {e:TypeId} {size n:Nat} {v:Value} {xs:List Value} (h:w.ownsRow base' e size v n xs) (hb:base≤base'):w.ownsRow base e size v n xs:=by
 obtain ⟨hl,h1 | ⟨g,cap,cur,e1,e2,e3⟩⟩:=h
 ·exact ⟨hl,.inl h1⟩
 ·exact ⟨hl,.inr ⟨g,cap,cur,e1,Nat.le_trans hb e2,e3⟩⟩
theorem rd_lit {w:World} {g:Nat} {q:Q} (h:w.heap[g]? = some (.cells #[.int .i64 q.node,.int .i64 q.room,.int .i64 q.kilos,.int .i64 q.service,.int .i64 q.frm,.int .i64 q.by_,.slice q.A q.n q.c] 47 (0,0))):Rd w 7 (some ⟨g,0,none⟩) 1 q.cells:=Rd.of_block h 7 1 rfl
set_option maxRecDepth 100000 in
set_option maxHeartbeats 8000000 in
theorem with112_any (A:Option Addr) (n c:Nat) (r:List Q) (q:Q) (w:World) (hl:Rd w 7 A n (r.flatMap Q.cells)) (hn:n≤100000) :
  Calls Tryz.prog 112 #[.slice A n c,.agg #[.int .i64 q.node,.int .i64 q.room,.int .i64 q.kilos,.int .i64 q.service,.int .i64 q.frm,.int .i64 q.by_,.slice q.A q.n q.c]] w fun e w'=>(∃ v,e=.returned v∧w'.ownsRow w.heap.size 47 7 v (n + 1) ((r ++ [q]).flatMap Q.cells))∧Below w.heap.size w w':=by
 obtain ⟨w1,hw1⟩:∃ w1:World,w1=w.alloc (.cells #[.int .i64 q.node,.int .i64 q.room,.int .i64 q.kilos,.int .i64 q.service,.int .i64 q.frm,.int .i64 q.by_,.slice q.A q.n q.c] 47):=⟨_,rfl⟩
 have b1:Below w.heap.size w w1:=by rw [hw1];exact (Below.refl _ _).alloc (Nat.le_refl _) _
 obtain ⟨g,hg⟩:∃ g,g=w.heap.size:=⟨_,rfl⟩
 have hB1:QBlk w1 g q:=by rw [hw1,hg];exact QBlk.new _ _
 have HMK:=Lib.hid (show ∀ w',Below w1.heap.size w1 w'→(fun w':World=>w'.cell? ⟨g,0,none⟩=some (.int .i64 q.node)∧w'.cell? ⟨g,1,none⟩=some (.int .i64 q.room)∧w'.cell? ⟨g,2,none⟩=some (.int .i64 q.kilos)∧w'.cell? ⟨g,3,none⟩=some (.int .i64 q.service)∧w'.cell? ⟨g,4,none⟩=some (.int .i64 q.frm)∧w'.cell? ⟨g,5,none⟩=some (.int .i64 q.by_)∧w'.cell? ⟨g,6,none⟩=some (.slice q.A q.n q.c)) w' from fun w' h=>(hB1.below h).cells)
 obtain ⟨i0,hi,hz0,hz1,hz2⟩:=info_parts clone120_info
 have hone:=flat_one Q.cells req_one r
 have hR0:Below w1.heap.size w1 w1:=Below.refl _ _
 have hR0d:Below w1.heap.size w1 w1.drew:=hR0.drew
 have hRa:Below w1.heap.size w1 (w1.alloc (.cells #[.int .i64 q.node,.int .i64 q.room,.int .i64 q.kilos,.int .i64 q.service,.int .i64 q.frm,.int .i64 q.by_,.slice q.A q.n q.c] 47)):=(Below.refl _ _).alloc (Nat.le_refl _) _
 have hRad:Below w1.heap.size w1 (w1.alloc (.cells #[.int .i64 q.node,.int .i64 q.room,.int .i64 q.kilos,.int .i64 q.service,.int .i64 q.frm,.int .i64 q.by_,.slice q.A q.n q.c] 47)).drew:=hRa.drew
 have S0:=HMK.out _ hR0
 have S0d:=HMK.out _ hR0d
 have S0a:=HMK.out _ hRa
 have S0ad:=HMK.out _ hRad
 have hLa:(w1.alloc (.cells #[.int .i64 q.node,.int .i64 q.room,.int .i64 q.kilos,.int .i64 q.service,.int .i64 q.frm,.int .i64 q.by_,.slice q.A q.n q.c] 47)).drew.heap[w1.heap.size]? = some (.cells #[.int .i64 q.node,.int .i64 q.room,.int .i64 q.kilos,.int .i64 q.service,.int .i64 q.frm,.int .i64 q.by_,.slice q.A q.n q.c] 47 (0,0)):=heap_alloc_new w1 _
 have h63:n + 1≤maxLen:=by simp only [maxLen];omega
 have h47:(n + 1) * 72≤140737488355328:=by omega
 have HG:=Lib.hid hg
 go_enter Tryz.func112,Tryz.ntmps112
 go_upto_region 1 with fail
 rw [←hw1,←hg]
 clear hw1 hg
 have hl1:=hl.below b1
 go_region_held3 (fun w':World=>w'.cell? ⟨g,0,none⟩=some (.int .i64 q.node)∧w'.cell? ⟨g,1,none⟩=some (.int .i64 q.room)∧w'.cell? ⟨g,2,none⟩=some (.int .i64 q.kilos)∧w'.cell? ⟨g,3,none⟩=some (.int .i64 q.service)∧w'.cell? ⟨g,4,none⟩=some (.int .i64 q.frm)∧w'.cell? ⟨g,5,none⟩=some (.int .i64 q.by_)∧w'.cell? ⟨g,6,none⟩=some (.slice q.A q.n q.c))
  (first | with_reducible exact S2 | with_reducible exact S1a | with_reducible exact S1 | with_reducible exact S0ad | with_reducible exact S0a | with_reducible exact S0d | with_reducible exact S0 | fail)
  (first
   | (go_at_call 120;(first
     | (with_reducible (refine (clone120 A n c _ _ (hl1.below hR0d) hone (by omega)).mono ?_;rintro e wc ⟨⟨v,rfl,hv⟩,bc⟩;have b2:=bel hR0d bc;have b2d:=hR0d.size))
     | (with_reducible (refine (clone120 A n c _ _ (hl1.below hRad) hone (by omega)).mono ?_;rintro e wc ⟨⟨v,rfl,hv⟩,bc⟩;have b2:=bel hRad bc;have b2d:=hRad.size;have hL:=blk_below bc hLa))
     | fail);have S1:=HMK.out _ b2;have S1a:=HMK.out _ (bel b2 ((Below.refl _ _).alloc (Nat.le_refl _) (.cells #[.int .i64 q.node,.int .i64 q.room,.int .i64 q.kilos,.int .i64 q.service,.int .i64 q.frm,.int .i64 q.by_,.slice q.A q.n q.c] 47)));have bca:Below wc.heap.size wc (wc.alloc (.cells #[.int .i64 q.node,.int .i64 q.room,.int .i64 q.kilos,.int .i64 q.service,.int .i64 q.frm,.int .i64 q.by_,.slice q.A q.n q.c] 47)):=(Below.refl _ _).alloc (Nat.le_refl _) _)
   | (have h9:=hv;clear hv;apply step_append_rd (hgd:=rfl) (s:=.tmp 6) (x:=.tmp 8) (t:=26) (ho:=rfl) (base:=w1.heap.size) (e:=47) (i:=i0) (z:=(.agg #[.int .i64 0,.int .i64 0,.int .i64 0,.int .i64 0,.int .i64 0,.int .i64 0,.slice none 0 0])) (size:=7) (bytes:=72) (ht:=Tryz.underlying26) (hi:=hi) (hz:=hz0) (hsize:=hz1) (hby:=hz2) (hzs:=rfl) (hsz:=by decide) (v:=v) (n:=n) (xs:=r.flatMap Q.cells) (hs:=rfl) (A:=some ⟨_,0,none⟩) (m:=1) (c:=1) (news:=q.cells) (hx:=rfl) (h1:=req_one q) (h63:=h63) (hbytes:=h47);rotate_right 1;(first | with_reducible exact own_base h9 b2d | with_reducible exact own_base (own_below h9 bca) b2d | fail);(first | with_reducible exact rd_lit hL | with_reducible exact rd_lit (heap_alloc_new wc _) | fail);(first | with_reducible exact b2.size | with_reducible exact (bel b2 bca).size | fail);intro v7 w7 hown7 hgr7 _;(first | (have b7:Below w1.heap.size w1 w7:=by with_reducible exact below_own2 b2 hgr7 (fun g e=>Nat.le_trans b2d ((own_in h9 g e).1))) | (have b7:Below w1.heap.size w1 w7:=by with_reducible exact below_own2 (bel b2 bca) hgr7 (fun g e=>Nat.le_trans b2d ((own_in h9 g e).1))) | fail);have S2:=HMK.out _ b7)
   | fail)
 all_goals go_wp2_with fail
 all_goals go_ret
 all_goals exact ⟨⟨_,rfl,by rw [List.flatMap_append,List.flatMap_singleton];exact own_base hown7 b1.size⟩,bel b1 b7⟩
set_option maxRecDepth 100000 in
set_option maxHeartbeats 8000000 in
theorem rlist110_any (A:Option Addr) (n c:Nat) (l:List Int) (m:Nat) (w:World) (hl:Ints w A n l) (hn:n≤1000000000) (hm:m≤1000000000) :
  Calls Tryz.prog 110 #[.slice A n c,.int .i64 m] w fun e w'=>e=.returned (.bool (K.asc33 m (-1) l))∧Below w.heap.size w w':=by
 obtain ⟨R,hR⟩:∃ R,R=K.asc33 m (-1) l:=⟨_,rfl⟩
 rw [←hR]
 have HR:=Lib.hid hR
 clear hR
 go_enter Tryz.func110,Tryz.ntmps110
 go_wp2_with fail
 go_loopw [5] (fun v wr=>∃ (k:Nat) (p:Int),v=.int .i64 k∧k≤n∧Hid (R=K.asc33 m p (l.drop k))∧Hid ((k=0∧p=-1)∨∃ j,k=j + 1∧l[j]? = some p∧0≤p)∧Below w.heap.size w wr) (fun v _=>n - (intOf v).toNat)
 case atStart=>exact ⟨0,-1,rfl,Nat.zero_le _,(by show _=_;rw [List.drop_zero];exact HR.out),.inl ⟨rfl,rfl⟩,Below.refl _ _⟩
 case round =>
  obtain ⟨k,p,rfl,hk,hr,hp,hb⟩:=hrel
  by_cases hlt:k < n
  ·obtain ⟨ad,y,hA,hg,c0⟩:=(hl.below hb).at_ hlt
   have HS:=Lib.hid (show R=(!decide (y≤p) && (!decide ((m:Int)≤y) && K.asc33 m y (l.drop (k + 1)))) by rw [hr.out,drop_of_some hg,K.asc33])
   have HG:=Lib.hid hg
   have k0:(0:Int)≤(k:Int):=by omega
   have k1:(k:Int) < (n:Int):=by omega
   by_cases h1:y < 0
   ·have HX:=Lib.hid (show R=false by
     have:decide (y≤p)=true:=by
      rcases hp.out with ⟨-,e⟩ | ⟨j,-,-,e⟩ <;> simp <;> omega
     rw [HS.out,this];rfl)
    have d1:decide (y < 0)=true:=by simp;omega
    clear hg h1
    rw [hA]
    clear hA
    go_wp2_with fail
    go_quiet (fail)
    go_wp2_with fail
    go_ret
    exact ⟨by rw [HX.out];rfl,below_drewN hb _⟩
   have d1:decide (y < 0)=false:=by simp;omega
   by_cases h2:(m:Int)≤y
   ·have HX:=Lib.hid (show R=false by rw [HS.out,decide_eq_true h2];simp)
    have d2:decide ((m:Int)≤y)=true:=decide_eq_true h2
    clear hg h1 h2
    rw [hA]
    clear hA
    go_wp2_with fail
    go_quiet (fail)
    go_wp2_with fail
    go_ret
    exact ⟨by rw [HX.out];rfl,below_drewN hb _⟩
   have d2:decide ((m:Int)≤y)=false:=decide_eq_false h2
   have h10:0≤y:=by omega
   have HNX:=Lib.hid (show (k + 1=0∧y=-1)∨∃ j,k + 1=j + 1∧l[j]? = some y∧0≤y from .inr ⟨k,rfl,hg,h10⟩)
   rcases hp.out with ⟨h0,hp1⟩ | ⟨j,hkj,hj,hp0⟩
   ·have d3:decide ((0:Int) < (k:Int))=false:=by simp;omega
    have d3':decide (0 < k)=false:=by simp;omega
    have HX:=Lib.hid (show R=K.asc33 m y (l.drop (k + 1)) by rw [HS.out,d2,show decide (y≤p)=false by simp;omega];simp)
    clear hg h1 h2 h10 HS h0 hp1
    rw [hA]
    clear hA
    go_wp2_with fail
    go_quiet (fail)
    go_wp2_with fail
    go_roundw
    case rel=>exact ⟨k + 1,y,by go_num,by omega,HX.out,HNX.out,below_drewN hb _⟩
    case measure=>simp [intOf];omega
   ·obtain ⟨ad2,p2,hA2,hj2,c2⟩:=(hl.below hb).at_ (show j < n by omega)
    rw [hA] at hA2
    injection hA2 with hA2
    subst hA2
    obtain rfl:p2=p:=by rw [hj] at hj2;injection hj2 with h9;exact h9.symm
    have d3:decide ((0:Int) < (k:Int))=true:=by simp;omega
    have d3':decide (0 < k)=true:=by simp;omega
    have f2:(k:Int) - 1=(j:Int):=by omega
    have f3:IntKind.i64.wrap ((k:Int) - 1)=(j:Int):=by rw [f2];exact IntWalk.i64_in _ (by omega)
    have f4:decide ((j:Int) < 0)=false:=by simp
    have f5:max (j:Int) 0=(j:Int):=by omega
    have f6:(j:Int) < (n:Int):=by omega
    have f7:(0:Int)≤(j:Int):=by omega
    by_cases h3:y≤p2
    ·have HX:=Lib.hid (show R=false by rw [HS.out,decide_eq_true h3];rfl)
     have d4:decide (y≤p2)=true:=decide_eq_true h3
     clear hg h1 h2 h3 h10 HS hj hj2 hkj
     rw [hA]
     clear hA
     go_wp2_with fail
     go_quiet (fail)
     go_wp2_with fail
     go_ret
     exact ⟨by rw [HX.out];rfl,below_drewN hb _⟩
    ·have HX:=Lib.hid (show R=K.asc33 m y (l.drop (k + 1)) by rw [HS.out,d2,decide_eq_false h3];simp)
     have d4:decide (y≤p2)=false:=decide_eq_false h3
     clear hg h1 h2 h3 h10 HS hj hj2 hkj
     rw [hA]
     clear hA
     go_wp2_with fail
     go_quiet (fail)
     go_wp2_with fail
     go_roundw
     case rel=>exact ⟨k + 1,y,by go_num,by omega,HX.out,HNX.out,below_drewN hb _⟩
     case measure=>simp [intOf];omega
  ·have HX:=Lib.hid (show R=true by rw [hr.out,List.drop_eq_nil_of_le (by rw [←hl.1];omega)];rfl)
   have hd:decide ((k:Int) < (n:Int))=false:=by simp;omega
   have hd2:decide (k < n)=false:=by simp;omega
   go_wp2_with fail
   go_ret
   exact ⟨by rw [HX.out];rfl,hb⟩
namespace K
theorem restGo_app {lost:List Int}:∀ (a b:List S) (i:Nat),restGo lost i (a ++ b)=restGo lost i a ++ restGo lost (i + a.length) b
 | [],b,i=>rfl
 | s :: a,b,i=>by
  rw [List.cons_append,restGo,restGo,restGo_app a b,List.length_cons,show i + 1 + a.length=i + (a.length + 1) by omega]
  split <;> rfl
theorem restGo_take {lost:List Int} {ss:List S} {k:Nat} {s:S} (h:ss[k]? = some s):restGo lost 0 (ss.take (k + 1))=restGo lost 0 (ss.take k) ++ if lost.any (· == (k:Int))=true then [] else [s]:=by
 have hk:=(List.getElem?_eq_some_iff.1 h).1
 rw [take_snoc h,restGo_app,List.length_take,Nat.min_eq_left (Nat.le_of_lt hk),Nat.zero_add]
 congr 1
 have e:lost.contains (k:Int)=lost.any (· == (k:Int)):=by
  rw [Bool.eq_iff_iff,List.contains_iff_mem,List.any_eq_true]
  exact ⟨fun h=>⟨_,h,by simp⟩,fun ⟨y,h1,h2⟩=>by rw [←beq_iff_eq.1 h2];exact h1⟩
 show (if lost.contains (k:Int)=true then [] else [s])=_
 rw [e]
end K
def BkBlk (w:World) (g:Nat) (x:Cs):Prop:=w.heap[g]? = some (.cells #[.int .i64 x.nd,.slice x.A x.n x.c,.slice x.SA x.sn x.sc,.slice x.B x.m x.d] 44 (0,0))
theorem BkBlk.below {w w':World} {g:Nat} {x:Cs} (h:BkBlk w g x) (hb:Below w.heap.size w w'):BkBlk w' g x:=blk_below hb h
theorem BkBlk.new (w:World) (x:Cs):BkBlk (w.alloc (.cells #[.int .i64 x.nd,.slice x.A x.n x.c,.slice x.SA x.sn x.sc,.slice x.B x.m x.d] 44)) w.heap.size x:=heap_alloc_new w _
theorem shift_one (x:S):∀ u ∈ S.cells x,u.oneCell'=true:=by
 intro u hu
 simp only [S.cells,List.mem_cons,List.not_mem_nil,or_false] at hu
 rcases hu with rfl | rfl | rfl | rfl | rfl | rfl <;> rfl
def S.rooms (s:S) (A:Option Addr) (c:Nat):S:=⟨s.day,s.depot,s.start,s.end_,s.tare,A,s.n,c,s.l⟩
def ShOk (w:World) (v:Value) (L:List S):Prop:=∀ s ∈ L,Ints w s.A s.n s.l∧(0 < s.n→∀ ad,s.A=some ad→v.ownBlock ≠ some ad.block)
theorem ShOk.below {w w':World} {v:Value} {L:List S} (h:ShOk w v L) (hb:Below w.heap.size w w'):ShOk w' v L:=fun s hs=>⟨(h s hs).1.below hb,(h s hs).2⟩
theorem ShOk.grow {w w':World} {v v':Value} {L:List S} (h:ShOk w v L) (hg:w.grownBy w' v.ownBlock) (ha:v'.ownBlock=v.ownBlock∨v'.ownBlock=some w.heap.size):ShOk w' v' L:=fun s hs=>by
 obtain ⟨h1,h3⟩:=h s hs
 refine ⟨h1.grow hg fun h0 ad e e2=>h3 h0 ad e e2.symm,fun h0 ad e e2=>?_⟩
 rcases ha with e3 | e3
 ·rw [e3] at e2;exact h3 h0 ad e e2
 ·rw [e3] at e2
  injection e2 with e2
  have:=h1.lt_of h0 e
  omega
theorem ShOk.snoc {w:World} {v:Value} {L:List S} (h:ShOk w v L) {y:S} (h1:Ints w y.A y.n y.l) (h2:0 < y.n→∀ ad,y.A=some ad→v.ownBlock ≠ some ad.block):ShOk w v (L ++ [y]):=fun s hs=>by
 rcases List.mem_append.1 hs with hs | hs
 ·exact h s hs
 ·rw [List.mem_singleton] at hs
  rw [hs]
  exact ⟨h1,h2⟩
def RetRest (w w':World) (R:List S) (er:Int) (e:Ending):Prop :=
 (∃ A n c L,e=.returned (.tuple #[.slice A n c,.int .i64 er])∧Shifts w' A n L∧L.map S.bare=R.map S.bare)∧Below w.heap.size w w'
theorem retRest_nil {w w':World} {er:Int} (hb:Below w.heap.size w w'):RetRest w w' [] er (.returned (.tuple #[.slice none 0 0,.int .i64 er])) :=
 ⟨⟨none,0,0,[],rfl,⟨⟨rfl,rfl,fun h=>absurd h (by decide)⟩,fun s h=>(by cases h)⟩,rfl⟩,hb⟩
theorem K.checks_nil {nd:Int} {l:List Ro} {ss:List S} {r:List Q}:K.checks nd l ss r [] = if K.pcheck nd l ss r=0 then (if 0 < r.length then 4 else 0) else K.pcheck nd l ss r:=rfl
def K.rest34 (nd:Int) (l:List Ro) (ss:List S) (r:List Q) (lost:List Int):List S:=if K.restE nd l ss r lost=0 then K.restGo lost 0 ss else []
set_option maxRecDepth 100000 in
set_option maxHeartbeats 16000000 in
theorem rest45_any (x:Cs) (LA:Option Addr) (ln lc:Nat) (lost:List Int) (w:World) (hx:CsAt w x) (hL:Ints w LA ln lost) (hln:ln≤1000000000) (hsn:x.sn≤1000000) (hsr:∀ s ∈ x.ss,s.n≤1000000) :
  Calls Tryz.prog 45 #[.agg #[.int .i64 x.nd,.slice x.A x.n x.c,.slice x.SA x.sn x.sc,.slice x.B x.m x.d],.slice LA ln lc] w fun e w'=>RetRest w w' (K.rest34 x.nd x.l x.ss x.r lost) (K.restE x.nd x.l x.ss x.r lost) e:=by
 obtain ⟨w1,hw1⟩:∃ w1:World,w1=w.alloc (.cells #[.int .i64 x.nd,.slice x.A x.n x.c,.slice x.SA x.sn x.sc,.slice x.B x.m x.d] 44):=⟨_,rfl⟩
 obtain ⟨g,hg⟩:∃ g,g=w.heap.size:=⟨_,rfl⟩
 have b1:Below w.heap.size w w1:=by rw [hw1];exact (Below.refl _ _).alloc (Nat.le_refl _) _
 have hN1:BkBlk w1 g x:=by rw [hw1,hg];exact BkBlk.new _ _
 have p2:=blk_cell hN1 2 _ rfl
 have HSN:=Lib.hid hx.shifts.1.1
 have HRN:=Lib.hid hx.reqs.1
 have HSR:=Lib.hid hsr
 clear hsr
 obtain ⟨ER,hER⟩:∃ ER,ER=K.restE x.nd x.l x.ss x.r lost:=⟨_,rfl⟩
 obtain ⟨RR,hRR⟩:∃ RR,RR=K.rest34 x.nd x.l x.ss x.r lost:=⟨_,rfl⟩
 rw [←hER,←hRR]
 have HER:=Lib.hid (show ER=if K.asc33 x.sn (-1) lost=true then K.pcheck x.nd x.l x.ss x.r else 1 by rw [hER,HSN.out];rfl)
 have HRR:=Lib.hid (show RR=if ER=0 then K.restGo lost 0 x.ss else [] by rw [hRR,hER];rfl)
 clear hER hRR
 go_enter Tryz.func45,Tryz.ntmps45
 go_upto_region 1 with fail
 rw [←hw1,←hg]
 clear hw1 hg
 have CR:=rising107_any LA ln lc lost x.sn w1 (hL.below b1) hln (by omega)
 obtain ⟨z,hz⟩:∃ z,z=K.asc33 x.sn (-1) lost:=⟨_,rfl⟩
 rw [←hz] at CR HER
 clear hz
 go_wp2_with fail
 refine CR.mono ?_
 rintro e w2 ⟨rfl,b2⟩
 have hN2:=hN1.below b2
 have hb2:=bel b1 b2
 clear CR p2 b1 b2 hN1
 cases z
 ·have HX:=Lib.hid (show ER=1 from HER.out)
  have HY:=Lib.hid (show RR=[] by rw [HRR.out,HX.out];rfl)
  go_wp2_with fail
  go_ret2
  rw [HX.out,HY.out]
  exact retRest_nil hb2
 have HE2:=Lib.hid (show ER=K.pcheck x.nd x.l x.ss x.r from HER.out)
 have p0:=blk_cell hN2 0 _ rfl
 have p1:=blk_cell hN2 1 _ rfl
 have p2:=blk_cell hN2 2 _ rfl
 have p3:=blk_cell hN2 3 _ rfl
 have CC:=checks32_any x none 0 0 [] w2 (hx.below hb2) ⟨⟨rfl,rfl,fun h=>absurd h (by decide)⟩,fun y h=>(by cases h)⟩ ⟨by decide,fun y h=>(by cases h)⟩
 rw [List.map_nil,K.checks_nil,←HE2.out,←HRN.out] at CC
 clear HER
 go_wp2_with fail
 refine CC.mono ?_
 obtain ⟨ce,hce⟩:∃ ce,ce=(if ER=0 then (if 0 < x.m then 4 else 0) else ER):=⟨_,rfl⟩
 rw [←hce]
 rintro e w3 ⟨rfl,b3⟩
 have HCE:=Lib.hid hce
 have hN3:=hN2.below b3
 have hb3:=bel hb2 b3
 clear CC hce p0 p1 p2 p3 hN2 hb2 b3
 by_cases hE:ER=0
 rotate_left
 ·have HY:=Lib.hid (show RR=[] by rw [HRR.out,if_neg hE])
  have hcE:ce=ER:=by rw [HCE.out,if_neg hE]
  subst hcE
  rcases K.pcheck_cases (nd:=x.nd) (l:=x.l) (ss:=x.ss) (r:=x.r) with e | e | e
  ·exact absurd (HE2.out.trans e) hE
  ·have h1:=HE2.out.trans e
   subst h1
   clear hE e
   go_wp2_with fail
   go_ret2
   rw [HY.out]
   exact retRest_nil hb3
  ·have h1:=HE2.out.trans e
   subst h1
   clear hE e
   go_wp2_with fail
   go_ret2
   rw [HY.out]
   exact retRest_nil hb3
 have HY:=Lib.hid (show RR=K.restGo lost 0 x.ss by rw [HRR.out,if_pos hE])
 subst hE
 have d1:(ce == 1)=false:=by rw [HCE.out,if_pos rfl];split <;> rfl
 have d2:(ce == 6)=false:=by rw [HCE.out,if_pos rfl];split <;> rfl
 have d3:decide (ce=1)=false:=by rw [HCE.out,if_pos rfl];split <;> rfl
 have d4:decide (ce=6)=false:=by rw [HCE.out,if_pos rfl];split <;> rfl
 have p2:=blk_cell hN3 2 _ rfl
 clear HE2
 go_wp2_with fail
 clear d1 d2 d3 d4 p2
 go_loopw [7,33] (fun v7 v33 wr=>∃ (k:Nat) (L:List S),v33=.int .i64 k∧k≤x.sn∧wr.ownsRow w3.heap.size 63 6 v7 L.length (L.flatMap S.cells)∧ShOk wr v7 L∧L.length≤k∧Hid (L.map S.bare=(K.restGo lost 0 (x.ss.take k)).map S.bare)∧Below w3.heap.size w3 wr) (fun _ v33 _=>x.sn - (intOf v33).toNat)
 case atStart=>exact ⟨0,[],rfl,Nat.zero_le _,World.ownsRow_nil _ _ _ _,fun s h=>(by cases h),Nat.zero_le _,rfl,Below.refl _ _⟩
 case round =>
  obtain ⟨k,L,rfl,hk,hown,hok,hlk,hbare,hbr⟩:=hrel
  have hbw:=bel hb3 hbr
  by_cases hlt:k < x.sn
  ·obtain ⟨ad,s,hA,hs,hI,c0,c1,c2,c3,c4,c5⟩:=(hx.shifts.below hbw).at_ hlt
   have HTK:=Lib.hid (K.restGo_take (lost:=lost) hs)
   have HSM:=Lib.hid (List.mem_of_getElem? hs)
   have k0:(0:Int)≤(k:Int):=by omega
   have k1:(k:Int) < (x.sn:Int):=by omega
   have hkt:k + 1≤x.sn:=hlt
   obtain ⟨gs,hgs⟩:∃ gs,gs=wr.heap.size:=⟨_,rfl⟩
   obtain ⟨w4,hw4⟩:∃ w4:World,w4=wr.alloc (.cells #[.int .i64 s.day,.int .i64 s.depot,.int .i64 s.start,.int .i64 s.end_,.int .i64 s.tare,.slice s.A s.n s.c] 63):=⟨_,rfl⟩
   have b4:Below wr.heap.size wr w4:=by rw [hw4];exact (Below.refl _ _).alloc (Nat.le_refl _) _
   have hB4:Shf w4 gs s:=by rw [hw4,hgs];exact heap_alloc_new _ _
   have CK:=contains64_any LA ln lc lost k w4 ((hL.below hbw).below b4) hln
   obtain ⟨z,hz⟩:∃ z,z=lost.any (· == (k:Int)):=⟨_,rfl⟩
   rw [←hz] at CK HTK
   have hI4:=hI.below b4
   have hgs1:wr.heap.size≤gs:=by rw [hgs];exact Nat.le_refl _
   clear hz hs hI
   rw [hA]
   have HA:=Lib.hid hA
   clear hA
   go_upto_region 10 with fail
   rw [←hw4,←hgs]
   clear hw4 hgs c0 c1 c2 c3 c4 c5
   go_wp2_with fail
   refine CK.mono ?_
   rintro e w5 ⟨rfl,b5⟩
   have b45:=bel b4 b5
   cases z
   rotate_left
   ·have HB:=Lib.hid (show L.map S.bare=(K.restGo lost 0 (x.ss.take (k + 1))).map S.bare by rw [HTK.out,if_pos rfl,List.append_nil];exact hbare.out)
    have hown5:=own_below hown b45
    have hok5:=hok.below b45
    have hb5:=bel hbr b45
    clear CK hown hok
    go_wp2_with fail
    go_roundw
    case rel=>(go_light;exact ⟨k + 1,L,by go_num,hkt,hown5,hok5,by omega,HB.out,hb5⟩)
    case measure=>(go_light;simp [intOf];omega)
   ·have hB5:Shf w5 gs s:=hB4.below b5
    have hB5':=hB5
    have hIL:=Lib.hid hI4.1
    obtain ⟨s0,s1,s2,s3,s4,s5⟩:=hB5.cells
    have sf:=blk_free hB5
    have CL:=clone_own s.A s.n s.c s.l w5 (hI4.below b5) (by have:=HSR.out s HSM.out;omega)
    clear CK
    go_wp2_with fail
    refine CL.mono ?_
    rintro e w6 ⟨⟨v,rfl,hv⟩,b6⟩
    obtain ⟨A6,c6,rfl,hR6,hF6⟩:=own_form hv
    have hB6:=hB5.below b6
    have b46:=bel b45 b6
    have b56:=b5.size
    clear s0 s1 s2 s3 s4 s5 sf hB4 hB5 CL
    obtain ⟨s0,s1,s2,s3,s4,s5⟩:=hB6.cells
    have sf:=blk_free hB6
    obtain ⟨w7,hw7⟩:∃ w7:World,w7=w6.setCell ⟨gs,5,none⟩ (.slice A6 s.n c6):=⟨_,rfl⟩
    have b7:Below wr.heap.size wr w7:=by rw [hw7];exact b46.setCell (p:=⟨gs,5,none⟩) hgs1 _
    have hB7:Shf w7 gs ⟨s.day,s.depot,s.start,s.end_,s.tare,A6,s.n,c6,s.l⟩:=by rw [hw7];exact blk_set hB6 5 _
    have hgs5:gs < w5.heap.size:=lt_of_block hB5'
    have hI7:Ints w7 A6 s.n s.l:=by
     rw [hw7]
     exact (show Ints w6 A6 s.n s.l from ⟨hIL.out,hR6⟩).set _ (fun ad e=>by have:=(hF6 ad.block (by rw [e];rfl)).1;omega)
    have hof7:0 < s.n→∀ ad,A6=some ad→u7.ownBlock ≠ some ad.block:=fun _ ad e e2=>by
     have h1:=(hF6 ad.block (by rw [e];rfl)).1
     have h2:=(own_in hown _ e2).2
     have:=b45.size
     omega
    have hown7:=own_below hown b7
    have hok7:=hok.below b7
    obtain ⟨q0,q1,q2,q3,q4,q5⟩:=hB7.cells
    obtain ⟨w8,hw8⟩:∃ w8:World,w8=w7.alloc (.cells #[.int .i64 s.day,.int .i64 s.depot,.int .i64 s.start,.int .i64 s.end_,.int .i64 s.tare,.slice A6 s.n c6] 63):=⟨_,rfl⟩
    obtain ⟨g8,hg8⟩:∃ g,g=w7.heap.size:=⟨_,rfl⟩
    have b8:Below w7.heap.size w7 w8:=by rw [hw8];exact (Below.refl _ _).alloc (Nat.le_refl _) _
    have hL8:w8.heap[g8]? = some (.cells #[.int .i64 s.day,.int .i64 s.depot,.int .i64 s.start,.int .i64 s.end_,.int .i64 s.tare,.slice A6 s.n c6] 63 (0,0)):=by rw [hw8,hg8];exact heap_alloc_new _ _
    have hown8:=own_below hown7 b8
    have hok8:=(hok7.snoc (y:=⟨s.day,s.depot,s.start,s.end_,s.tare,A6,s.n,c6,s.l⟩) hI7 hof7).below b8
    obtain ⟨i0,hi,hz0,hz1,hz2⟩:=info_parts clone150_info
    have hz8:w3.heap.size≤w8.heap.size:=Nat.le_trans hbr.size (Nat.le_trans b7.size b8.size)
    have hb8:=bel hbr (bel b7 b8)
    have HB:=Lib.hid (show (L ++ [(⟨s.day,s.depot,s.start,s.end_,s.tare,A6,s.n,c6,s.l⟩:S)]).map S.bare=(K.restGo lost 0 (x.ss.take (k + 1))).map S.bare by rw [HTK.out,if_neg (by decide),List.map_append,List.map_append,hbare.out];rfl)
    clear hv hR6 hF6 hI7 hof7 hok7 hown7 hown hok hgs5 hB5'
    go_upto_region 12 with fail
    rw [←hw7]
    clear hw7 s0 s1 s2 s3 s4 s5 sf hB6
    go_wp2_with (first
     | (at_builtin;rw [←hw8,←hg8];refine wp_append_rd rfl _ _ 25 rfl w3.heap.size 63 i0 (.agg #[.int .i64 0,.int .i64 0,.int .i64 0,.int .i64 0,.int .i64 0,.slice none 0 0]) 6 64 Tryz.underlying25 hi hz0 hz1 hz2 rfl (by decide) _ L.length (L.flatMap S.cells) rfl hown8 (some ⟨g8,0,none⟩) 1 1 (S.cells ⟨s.day,s.depot,s.start,s.end_,s.tare,A6,s.n,c6,s.l⟩) rfl (Rd.of_block hL8 6 1 rfl) (shift_one _) (by simp only [maxLen];omega) (by omega) hz8 ?_;intro v9 w9 hown9 hgr9 ha9)
     | fail)
    have hb9:Below w3.heap.size w3 w9:=below_own2 hb8 hgr9 (fun g e=>(hown8.lt g e).1)
    have hok9:=hok8.grow hgr9 ha9
    have hown9':w9.ownsRow w3.heap.size 63 6 v9 (L ++ [(⟨s.day,s.depot,s.start,s.end_,s.tare,A6,s.n,c6,s.l⟩:S)]).length ((L ++ [(⟨s.day,s.depot,s.start,s.end_,s.tare,A6,s.n,c6,s.l⟩:S)]).flatMap S.cells):=by
     rw [List.length_append,List.flatMap_append,List.flatMap_singleton]
     exact hown9
    have hlen:(L ++ [(⟨s.day,s.depot,s.start,s.end_,s.tare,A6,s.n,c6,s.l⟩:S)]).length≤k + 1:=by rw [List.length_append,List.length_singleton];omega
    have HLN:=Lib.hid hlen
    clear hown9 hgr9 ha9 hok8 hown8 hlen hw8 hg8 q0 q1 q2 q3 q4 q5
    go_roundw
    case rel=>(go_light;exact ⟨k + 1,_,by go_num,hkt,hown9',hok9,HLN.out,HB.out,hb9⟩)
    case measure=>(go_light;simp [intOf];omega)
  ·have hd:decide ((k:Int) < (x.sn:Int))=false:=by simp;omega
   have hd2:decide (k < x.sn)=false:=by simp;omega
   have HB:=Lib.hid (show L.map S.bare=RR.map S.bare by rw [HY.out,hbare.out,List.take_of_length_le (by rw [←HSN.out];omega)])
   obtain ⟨A9,c9,rfl,hR9,-⟩:=own_form hown
   go_wp2_with fail
   go_ret2
   exact ⟨⟨A9,L.length,c9,L,rfl,⟨⟨rfl,hR9⟩,fun s hs=>(hok s hs).1⟩,HB.out⟩,hbw⟩
end Go.Proofs.YtippdjmpkafifaaGreat
