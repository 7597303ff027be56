import Derived.Test.YtippdjmpkafifaaGreatCF13
import Derived.Test.YtippdjmpkafifaaGreatCF5
import Derived.Lib.LazyBuf
import Derived.Test.YtippdjmpkafifaaGreatCF7
import Derived.Deep.RegionHeld3
import Derived.Deep.RegionWith
import Derived.Test.YtippdjmpkafifaaGreatCF11
namespace Go.Proofs.YtippdjmpkafifaaGreat
open Go.RowKit
namespace K
def restGo (lost:List Int):Nat→List S→List S
 | _,[]=>[]
 | i,s :: ss=>if lost.contains (i:Int)=true then restGo lost (i + 1) ss else s :: restGo lost (i + 1) ss
def restE (nd:Int) (l:List Ro) (ss:List S) (r:List Q) (lost:List Int):Int:=if asc33 ss.length (-1) lost=true then pcheck nd l ss r else 1
structure Kp where
 kept:List Int
 served:List Q
 tours:List (Int × Tr)
 reasons:List (List (Int × List Int × List Lb))
def Kp.zero:Kp:=⟨[],[],[],[]⟩
def keepYes (nd:Int) (l:List Ro) (rest:List S) (k:Kp) (x:Q):Bool:=(plan nd l rest (k.served ++ [x])).2 == 0
def keepStep (nd:Int) (l:List Ro) (rest:List S) (i:Nat) (x:Q) (k:Kp):Kp :=
 if keepYes nd l rest k x=true then ⟨k.kept ++ [(i:Int)],k.served ++ [x],(plan nd l rest (k.served ++ [x])).1.map fun t=>((t.1:Int),t.2),k.reasons⟩
 else ⟨k.kept,k.served,k.tours,k.reasons ++ [(refute nd l rest (k.served ++ [x])).1.map fun b=>((b.1:Int),b.2)]⟩
def keepGo (nd:Int) (l:List Ro) (rest:List S):Nat→List Q→Kp→Kp
 | _,[],k=>k
 | i,x :: r,k=>keepGo nd l rest (i + 1) r (keepStep nd l rest i x k)
def keep34 (nd:Int) (l:List Ro) (ss:List S) (r:List Q) (lost:List Int):Kp × Int :=
 if restE nd l ss r lost=0 then (keepGo nd l (restGo lost 0 ss) 0 r Kp.zero,0) else (Kp.zero,restE nd l ss r lost)
def kcheckGo (nd:Int) (l:List Ro) (rest:List S) (kept:List Int) (tours:List (Int × Tr)):Nat→List Q→List Q→List (List (Int × List Int × List Lb))→Bool
 | _,[],sv,_=>checks nd l rest sv tours == 0
 | i,x :: r,sv,rs=>if kept.contains (i:Int)=true then kcheckGo nd l rest kept tours (i + 1) r (sv ++ [x]) rs
  else (rs.head?.any fun b=>refutes nd l rest (sv ++ [x]) b) && kcheckGo nd l rest kept tours (i + 1) r sv rs.tail
def kcheck (nd:Int) (l:List Ro) (ss:List S) (r:List Q) (lost kept:List Int) (tours:List (Int × Tr)) (reasons:List (List (Int × List Int × List Lb))):Bool :=
 (restE nd l ss r lost == 0) && (asc33 r.length (-1) kept && ((kept.length + reasons.length == r.length) && kcheckGo nd l (restGo lost 0 ss) kept tours 0 r [] reasons))
section
variable {nd : Int} {l : List Ro} {ss rest : List S} {r : List Q} {lost kept : List Int}
theorem restGo_sub:∀ (ss:List S) (i:Nat),(restGo lost i ss).Sublist ss
 | [],_=>List.Sublist.refl _
 | s :: ss,i=>by
  rw [restGo]
  split
  ·exact (restGo_sub ss (i + 1)).cons _
  ·exact (restGo_sub ss (i + 1)).cons_cons _
theorem restE_0 (h:restE nd l ss r lost=0):asc33 ss.length (-1) lost=true∧pcheck nd l ss r=0:=by
 unfold restE at h
 split at h
 ·exact ⟨‹_›,h⟩
 ·cases h
theorem pcheck_less {ss':List S} {r':List Q} (h:pcheck nd l ss r=0) (hs:ss'.Sublist ss) (hr:r'.Sublist r):pcheck nd l ss' r'=0:=by
 obtain ⟨h1,h2,h3,h4,h5⟩:=pcheck_ok h
 exact pcheck_of h1 (Nat.le_trans hs.length_le h2) (fun s g=>h3 s (hs.subset g)) (fun q g=>h4 q (hr.subset g)) (Nat.le_trans hr.length_le h5)
structure KpOk (nd:Int) (l:List Ro) (rest:List S) (r0:List Q) (i:Nat) (k:Kp):Prop where
 served:k.served=k.kept.map (req r0)
 asc:k.kept.Pairwise (· < ·)
 lt:∀ j ∈ k.kept,0≤j∧j < (i:Int)
 len:k.kept.length + k.reasons.length=i
 tours:checks nd l rest k.served k.tours=0
theorem keepStep_ok {r0:List Q} {i:Nat} {x:Q} {k:Kp} (hx:r0[i]? = some x) (h:KpOk nd l rest r0 i k):KpOk nd l rest r0 (i + 1) (keepStep nd l rest i x k):=by
 unfold keepStep
 split
 ·rename_i hy
  unfold keepYes at hy
  refine ⟨?_,?_,?_,?_,plan_checks (beq_iff_eq.1 hy)⟩
  ·show k.served ++ [x] = (k.kept ++ [(i:Int)]).map (req r0)
   rw [List.map_append,h.served,List.map_singleton,req_at hx]
  ·show (k.kept ++ [(i:Int)]).Pairwise (· < ·)
   exact List.pairwise_append.2 ⟨h.asc,List.pairwise_singleton _ _,fun a ha b hb=>by rw [List.mem_singleton.1 hb];exact (h.lt a ha).2⟩
  ·intro j hj
   rcases List.mem_append.1 hj with hj | hj
   ·have:=h.lt j hj;omega
   ·rw [List.mem_singleton.1 hj];omega
  ·show (k.kept ++ [(i:Int)]).length + k.reasons.length=i + 1
   have:=h.len
   rw [List.length_append,List.length_singleton]
   omega
 ·refine ⟨h.served,h.asc,fun j hj=>by have:=h.lt j hj;omega,?_,h.tours⟩
  show k.kept.length + (k.reasons ++ [_]).length=i + 1
  have:=h.len
  rw [List.length_append,List.length_singleton]
  omega
theorem kpZero_ok (h:pcheck nd l rest [] = 0) (r0:List Q):KpOk nd l rest r0 0 Kp.zero:=by
 refine ⟨rfl,List.Pairwise.nil,fun j hj=>(by cases hj),rfl,?_⟩
 show checks nd l rest [] [] = 0
 unfold checks
 rw [if_pos h]
 rfl
def kpAt (nd:Int) (l:List Ro) (rest:List S) (r:List Q) (i:Nat):Kp:=keepGo nd l rest 0 (r.take i) Kp.zero
theorem keepGo_app:∀ (a b:List Q) (i:Nat) (k:Kp),keepGo nd l rest i (a ++ b) k=keepGo nd l rest (i + a.length) b (keepGo nd l rest i a k)
 | [],b,i,k=>rfl
 | x :: a,b,i,k=>by
  rw [List.cons_append,keepGo,keepGo,keepGo_app a b,List.length_cons]
  congr 1
  omega
theorem kpAt_succ {i:Nat} {x:Q} (hx:r[i]? = some x):kpAt nd l rest r (i + 1)=keepStep nd l rest i x (kpAt nd l rest r i):=by
 have hlt:i < r.length:=(List.getElem?_eq_some_iff.1 hx).1
 unfold kpAt
 rw [List.take_add_one,hx,keepGo_app,List.length_take,Nat.min_eq_left (Nat.le_of_lt hlt),Nat.zero_add]
 rfl
theorem kpAt_len:kpAt nd l rest r r.length=keepGo nd l rest 0 r Kp.zero:=by unfold kpAt;rw [List.take_length]
theorem kpAt_split {i:Nat} (hi:i≤r.length):keepGo nd l rest 0 r Kp.zero=keepGo nd l rest i (r.drop i) (kpAt nd l rest r i):=by
 unfold kpAt
 conv=>lhs;rw [←List.take_append_drop i r]
 rw [keepGo_app,List.length_take,Nat.min_eq_left hi,Nat.zero_add]
theorem kpAt_ok (h:pcheck nd l rest [] = 0) {i:Nat} (hi:i≤r.length):KpOk nd l rest r i (kpAt nd l rest r i):=by
 induction i with
 | zero=>exact kpZero_ok h r
 | succ i ih =>
  have hx:r[i]? = some r[i]:=List.getElem?_eq_getElem hi
  rw [kpAt_succ hx]
  exact keepStep_ok hx (ih (by omega))
theorem keepGo_ext:∀ (r:List Q) (i:Nat) (k:Kp),∃ K' R',(keepGo nd l rest i r k).kept=k.kept ++ K'∧(∀ j ∈ K',(i:Int)≤j)∧(keepGo nd l rest i r k).reasons=k.reasons ++ R'
 | [],i,k=>⟨[],[],by rw [List.append_nil];rfl,fun j hj=>(by cases hj),by rw [List.append_nil];rfl⟩
 | x :: r,i,k=>by
  obtain ⟨K',R',h1,h2,h3⟩:=keepGo_ext r (i + 1) (keepStep nd l rest i x k)
  rw [keepGo,h1,h3]
  unfold keepStep
  split
  ·exact ⟨(i:Int) :: K',R',by simp,fun j hj=>by
    rcases List.mem_cons.1 hj with rfl | hj
    ·exact Int.le_refl _
    ·have:=h2 j hj;omega,rfl⟩
  ·exact ⟨K',((refute nd l rest (k.served ++ [x])).1.map fun b=>((b.1:Int),b.2)) :: R',rfl,fun j hj=>by have:=h2 j hj;omega,by rw [List.append_assoc];rfl⟩
theorem kept_at (hp:pcheck nd l rest [] = 0) {i:Nat} {x:Q} (hx:r[i]? = some x) :
  ((keepGo nd l rest 0 r Kp.zero).kept.contains (i:Int)=keepYes nd l rest (kpAt nd l rest r i) x) ∧
  (keepYes nd l rest (kpAt nd l rest r i) x=false→(keepGo nd l rest 0 r Kp.zero).reasons[(kpAt nd l rest r i).reasons.length]? = some ((refute nd l rest ((kpAt nd l rest r i).served ++ [x])).1.map fun b=>((b.1:Int),b.2))):=by
 have hlt:i < r.length:=(List.getElem?_eq_some_iff.1 hx).1
 have hk:=kpAt_ok (nd:=nd) (l:=l) (rest:=rest) (r:=r) hp (Nat.le_of_lt hlt)
 obtain ⟨K',R',h1,h2,h3⟩:=keepGo_ext (nd:=nd) (l:=l) (rest:=rest) (r.drop (i + 1)) (i + 1) (kpAt nd l rest r (i + 1))
 rw [kpAt_split (nd:=nd) (l:=l) (rest:=rest) (i:=i + 1) hlt,h1,h3,kpAt_succ hx]
 have hn:((kpAt nd l rest r i).kept).contains (i:Int)=false:=by
  rw [Bool.eq_false_iff]
  intro h
  have:=hk.lt _ (List.contains_iff_mem.1 h)
  omega
 have hn':K'.contains (i:Int)=false:=by
  rw [Bool.eq_false_iff]
  intro h
  have:=h2 _ (List.contains_iff_mem.1 h)
  omega
 unfold keepStep
 cases hy:keepYes nd l rest (kpAt nd l rest r i) x
 ·rw [if_neg (by simp)]
  refine ⟨?_,fun _=>?_⟩
  ·show ((kpAt nd l rest r i).kept ++ K').contains (i:Int)=false
   rw [Bool.eq_false_iff]
   intro h
   rcases List.mem_append.1 (List.contains_iff_mem.1 h) with h | h
   ·rw [List.contains_iff_mem.2 h] at hn;cases hn
   ·rw [List.contains_iff_mem.2 h] at hn';cases hn'
  ·show ((kpAt nd l rest r i).reasons ++ [_] ++ R')[(kpAt nd l rest r i).reasons.length]? = _
   rw [List.append_assoc,List.getElem?_append_right (Nat.le_refl _),Nat.sub_self]
   rfl
 ·rw [if_pos rfl]
  refine ⟨?_,fun h=>by cases h⟩
  exact List.contains_iff_mem.2 (List.mem_append_left _ (List.mem_append_right _ (List.mem_singleton_self _)))
theorem served_sub (hp:pcheck nd l rest [] = 0) {i:Nat} {x:Q} (hx:r[i]? = some x):((kpAt nd l rest r i).served ++ [x]).Sublist r:=by
 have hlt:i < r.length:=(List.getElem?_eq_some_iff.1 hx).1
 have hk:=kpAt_ok (nd:=nd) (l:=l) (rest:=rest) (r:=r) hp (Nat.le_of_lt hlt)
 rw [hk.served,show [x] = [(i:Int)].map (req r) by rw [List.map_singleton,req_at hx],←List.map_append]
 refine pick_sub ?_ fun j hj=>?_
 ·exact List.pairwise_append.2 ⟨hk.asc,List.pairwise_singleton _ _,fun a ha b hb=>by rw [List.mem_singleton.1 hb];exact (hk.lt a ha).2⟩
 ·rcases List.mem_append.1 hj with hj | hj
  ·have:=hk.lt j hj;omega
  ·rw [List.mem_singleton.1 hj];omega
theorem not_kept (hp:pcheck nd l rest r=0) (hs:rest.length≤4) (hr:r.length≤4) {i:Nat} {x:Q} (hx:r[i]? = some x) (hy:keepYes nd l rest (kpAt nd l rest r i) x=false) :
  (plan nd l rest ((kpAt nd l rest r i).served ++ [x])).2=4∧refutes nd l rest ((kpAt nd l rest r i).served ++ [x]) ((refute nd l rest ((kpAt nd l rest r i).served ++ [x])).1.map fun b=>((b.1:Int),b.2))=true:=by
 have hsub:=served_sub (pcheck_sub hp (List.nil_sublist r)) hx
 have h4:(plan nd l rest ((kpAt nd l rest r i).served ++ [x])).2=4:=by
  rcases plan_42 (pcheck_sub hp hsub) with h | h
  ·unfold keepYes at hy
   rw [h] at hy
   cases hy
  ·exact h
 exact ⟨h4,(refute_refutes hs (Nat.le_trans hsub.length_le hr) h4).2⟩
theorem kcheckGo_keep (hp:pcheck nd l rest r=0) (hs:rest.length≤4) (hr:r.length≤4):∀ (n i:Nat),i + n=r.length →
  kcheckGo nd l rest (keepGo nd l rest 0 r Kp.zero).kept (keepGo nd l rest 0 r Kp.zero).tours i (r.drop i) (kpAt nd l rest r i).served ((keepGo nd l rest 0 r Kp.zero).reasons.drop (kpAt nd l rest r i).reasons.length)=true
 | 0,i,h=>by
  obtain rfl:i=r.length:=by omega
  rw [List.drop_length,kpAt_len]
  have:=(kpAt_ok (nd:=nd) (l:=l) (rest:=rest) (r:=r) (pcheck_sub hp (List.nil_sublist r)) (Nat.le_refl _)).tours
  rw [kpAt_len] at this
  show (checks nd l rest _ _ == 0)=true
  rw [this]
  rfl
 | n + 1,i,h=>by
  have hlt:i < r.length:=by omega
  have hx:r[i]? = some r[i]:=List.getElem?_eq_getElem hlt
  have ih:=kcheckGo_keep hp hs hr n (i + 1) (by omega)
  obtain ⟨g1,g2⟩:=kept_at (nd:=nd) (l:=l) (rest:=rest) (r:=r) (pcheck_sub hp (List.nil_sublist r)) hx
  rw [List.drop_eq_getElem_cons hlt,kcheckGo,g1]
  rw [kpAt_succ hx] at ih
  unfold keepStep at ih
  cases hy:keepYes nd l rest (kpAt nd l rest r i) r[i]
  ·rw [hy,if_neg (by simp)] at ih
   rw [if_neg (by simp)]
   have hg:=g2 hy
   obtain ⟨hgl,hge⟩:=List.getElem?_eq_some_iff.1 hg
   rw [List.drop_eq_getElem_cons hgl,hge]
   show ((refutes nd l rest ((kpAt nd l rest r i).served ++ [r[i]]) _) && _)=true
   rw [(not_kept hp hs hr hx hy).2,Bool.true_and]
   simpa using ih
  ·rw [hy,if_pos rfl] at ih
   rw [if_pos rfl]
   exact ih
theorem keep_check (hs:ss.length≤4) (hr:r.length≤4) (h:restE nd l ss r lost=0):kcheck nd l ss r lost (keep34 nd l ss r lost).1.kept (keep34 nd l ss r lost).1.tours (keep34 nd l ss r lost).1.reasons=true:=by
 obtain ⟨h1,h2⟩:=restE_0 h
 have hp:=pcheck_less h2 (restGo_sub (lost:=lost) ss 0) (List.Sublist.refl r)
 have hk:=kpAt_ok (nd:=nd) (l:=l) (rest:=restGo lost 0 ss) (r:=r) (pcheck_sub hp (List.nil_sublist r)) (Nat.le_refl _)
 rw [kpAt_len] at hk
 unfold kcheck keep34
 rw [if_pos h,h]
 simp only [Bool.and_eq_true]
 refine ⟨rfl,asc33_iff.2 ⟨hk.asc,fun j hj=>by have:=hk.lt j hj;omega⟩,?_,?_⟩
 ·rw [beq_iff_eq];exact hk.len
 ·have:=kcheckGo_keep hp (Nat.le_trans (restGo_sub (lost:=lost) ss 0).length_le hs) hr r.length 0 (by omega)
  exact this
theorem keep_wrong (h:restE nd l ss r lost ≠ 0) (kept:List Int) (tours:List (Int × Tr)) (reasons:List (List (Int × List Int × List Lb))):kcheck nd l ss r lost kept tours reasons=false:=by
 unfold kcheck
 have:(restE nd l ss r lost == 0)=false:=by simpa using h
 rw [this,Bool.false_and]
theorem filter_none {v:List Int} {i:Int} (h:∀ j ∈ v,i≤j):v.filter (fun j=>decide (j < i))=[]:=by
 rw [List.filter_eq_nil_iff]
 intro j hj
 have:=h j hj
 simp
 omega
theorem filter_succ {i:Int}:∀ {v:List Int},v.Pairwise (· < ·)→v.filter (fun j=>decide (j < i + 1))=if v.contains i=true then v.filter (fun j=>decide (j < i)) ++ [i] else v.filter (fun j=>decide (j < i))
 | [],_=>rfl
 | a :: v,h=>by
  obtain ⟨h1,h2⟩:=List.pairwise_cons.1 h
  have ih:=filter_succ (i:=i) h2
  by_cases e:a < i
  ·have e1:a < i + 1:=by omega
   have e2:(a :: v).contains i=v.contains i:=by
    rw [List.contains_cons]
    have:(i == a)=false:=by simp;omega
    rw [this,Bool.false_or]
   rw [List.filter_cons_of_pos (by simpa using e1),ih,e2,List.filter_cons_of_pos (by simpa using e)]
   split <;> rfl
  ·have hall:∀ j ∈ v,i + 1≤j:=fun j hj=>by have:=h1 j hj;omega
   by_cases e3:a=i
   ·subst e3
    rw [List.filter_cons_of_pos (by simp;omega),filter_none hall,if_pos (by simp),List.filter_cons_of_neg (by simp),filter_none (fun j hj=>by have:=hall j hj;omega)]
    rfl
   ·have hc:¬ (a :: v).contains i=true:=fun h9=>by
     rcases List.mem_cons.1 (List.contains_iff_mem.1 h9) with h9 | h9
     ·exact e3 h9.symm
     ·have:=hall i h9;omega
    rw [if_neg hc,List.filter_cons_of_neg (by simp;omega),List.filter_cons_of_neg (by simp;omega),filter_none hall,filter_none (fun j hj=>by have:=hall j hj;omega)]
end
end K
theorem flat_one {α:Type} (f:α→List Value) (h:∀ x,∀ u ∈ f x,u.oneCell'=true) (l:List α):∀ u ∈ l.flatMap f,u.oneCell'=true:=fun u hu=>by
 obtain ⟨x,-,h2⟩:=List.mem_flatMap.1 hu
 exact h x u h2
theorem req_one (x:Q):∀ u ∈ Q.cells x,u.oneCell'=true:=by
 intro u hu
 simp only [Q.cells,List.mem_cons,List.not_mem_nil,or_false] at hu
 rcases hu with rfl | rfl | rfl | rfl | rfl | rfl | rfl <;> rfl
theorem clone150_info:(Tryz.prog.info? 63).map (fun i=>(i.zero,i.size,i.bytes))=some (some (.agg #[.int .i64 0,.int .i64 0,.int .i64 0,.int .i64 0,.int .i64 0,.slice none 0 0]),6,64):=by kernel_rfl
theorem eql26 (a:Option Addr) (l c:Nat) (w:World):(binOp .eql 26 (.slice a l c) (.slice none 0 0)).run Tryz.prog w=.ok (.bool a.isNone) w:=Go.run_eql_slice_nil w 26 47 a l c Tryz.underlying26
theorem clone120_info:(Tryz.prog.info? 47).map (fun i=>(i.zero,i.size,i.bytes))=some (some (.agg #[.int .i64 0,.int .i64 0,.int .i64 0,.int .i64 0,.int .i64 0,.int .i64 0,.slice none 0 0]),7,72):=by kernel_rfl
set_option maxHeartbeats 2000000 in
theorem clone120 (A:Option Addr) (n c:Nat) (xs:List Value) (w:World) (hl:Rd w 7 A n xs) (h1:∀ u ∈ xs,u.oneCell'=true) (hn:n≤1000000) :
  Calls Tryz.prog 120 #[.slice A n c] w fun e w'=>(∃ v,e=.returned v∧w'.ownsRow w.heap.size 47 7 v n xs)∧Below w.heap.size w w':=by
 obtain ⟨i0,hi,hz0,hz1,hz2⟩:=info_parts clone120_info
 have heq:=eql26
 cases A with
 | none =>
  go_enter Tryz.func120,Tryz.ntmps120
  go_wp2_with fail
  go_ret
  have h0:n=0:=by
   cases n with
   | zero=>rfl
   | succ n=>obtain ⟨ad,e,_⟩:=hl.2 (by omega);cases e
  subst h0
  have hl0:xs=[]:=List.length_eq_zero_iff.1 (by have:=hl.1;omega)
  subst hl0
  exact ⟨⟨_,rfl,World.ownsRow_nil _ _ _ _⟩,Below.refl _ _⟩
 | some ad =>
  have hlit:(w.alloc (.cells #[] 47)).ownsRow w.heap.size 47 7 (.slice (some ⟨w.heap.size,0,none⟩) 0 0) 0 []:=World.ownsRow_lit w #[] 0 (Nat.le_refl _) (by simp only [maxLen];omega) (by simp)
  have hb0:=(Below.refl w.heap.size w).alloc (Nat.le_refl _) (.cells #[] 47)
  go_enter Tryz.func120,Tryz.ntmps120
  go_wp2_with (at_builtin;refine wp_append_rd rfl (.tmp 5) (.tmp 6) 26 rfl w.heap.size 47 i0 (.agg #[.int .i64 0,.int .i64 0,.int .i64 0,.int .i64 0,.int .i64 0,.int .i64 0,.slice none 0 0]) 7 72 Tryz.underlying26 hi hz0 hz1 hz2 rfl (by decide) _ 0 _ rfl hlit (some ad) n c xs rfl (hl.below hb0) h1 (by simp only [maxLen];omega) (by omega) (by first | (simp;done) | (simp;omega)) ?_;intro v' w4 hown4 hgrow4 hat4)
  rw [Nat.zero_add] at hown4
  have hb4:Below w.heap.size w w4:=below_own hb0 (Nat.le_refl _) hgrow4 (fun g h=>(hlit.lt g h).1)
  clear hgrow4 hat4
  go_wp2_with fail
  go_ret
  exact ⟨⟨_,rfl,hown4⟩,hb4⟩
set_option maxRecDepth 100000 in
set_option maxHeartbeats 8000000 in
theorem rising107_any (A:Option Addr) (n c:Nat) (l:List Int) (m:Nat) (w:World) (hl:Ints w A n l) (hn:n≤1000000000) (hm:m≤1000000000) :
  Calls Tryz.prog 107 #[.slice A n c,.int .i64 m] w fun e w'=>e=.returned (.bool (K.asc33 m (-1) l))∧Below w.heap.size w w':=by
 obtain ⟨R,hR⟩:∃ R,R=K.asc33 m (-1) l:=⟨_,rfl⟩
 rw [←hR]
 have HR:=Lib.hid hR
 clear hR
 go_enter Tryz.func107,Tryz.ntmps107
 go_wp2_with fail
 go_loopw [9] (fun v wr=>∃ (k:Nat) (p:Int),v=.int .i64 k∧k≤n∧Hid (R=K.asc33 m p (l.drop k))∧Hid ((k=0∧p=-1)∨∃ j,k=j + 1∧l[j]? = some p∧0≤p)∧Below w.heap.size w wr) (fun v _=>n - (intOf v).toNat)
 case atStart=>exact ⟨0,-1,rfl,Nat.zero_le _,(by show _=_;rw [List.drop_zero];exact HR.out),.inl ⟨rfl,rfl⟩,Below.refl _ _⟩
 case round =>
  obtain ⟨k,p,rfl,hk,hr,hp,hb⟩:=hrel
  by_cases hlt:k < n
  ·obtain ⟨ad,y,hA,hg,c0⟩:=(hl.below hb).at_ hlt
   have HS:=Lib.hid (show R=(!decide (y≤p) && (!decide ((m:Int)≤y) && K.asc33 m y (l.drop (k + 1)))) by rw [hr.out,drop_of_some hg,K.asc33])
   have HG:=Lib.hid hg
   have k0:(0:Int)≤(k:Int):=by omega
   have k1:(k:Int) < (n:Int):=by omega
   by_cases h1:y < 0
   ·have HX:=Lib.hid (show R=false by
     have:decide (y≤p)=true:=by
      rcases hp.out with ⟨-,e⟩ | ⟨j,-,-,e⟩ <;> simp <;> omega
     rw [HS.out,this];rfl)
    have d1:decide (y < 0)=true:=by simp;omega
    clear hg h1
    rw [hA]
    clear hA
    go_wp2_with fail
    go_ret
    exact ⟨by rw [HX.out];rfl,hb⟩
   have d1:decide (y < 0)=false:=by simp;omega
   by_cases h2:(m:Int)≤y
   ·have HX:=Lib.hid (show R=false by rw [HS.out,decide_eq_true h2];simp)
    have d2:decide ((m:Int)≤y)=true:=decide_eq_true h2
    clear hg h1 h2
    rw [hA]
    clear hA
    go_wp2_with fail
    go_ret
    exact ⟨by rw [HX.out];rfl,hb⟩
   have d2:decide ((m:Int)≤y)=false:=decide_eq_false h2
   have h10:0≤y:=by omega
   have HNX:=Lib.hid (show (k + 1=0∧y=-1)∨∃ j,k + 1=j + 1∧l[j]? = some y∧0≤y from .inr ⟨k,rfl,hg,h10⟩)
   rcases hp.out with ⟨h0,hp1⟩ | ⟨j,hkj,hj,hp0⟩
   ·have d3:decide ((0:Int) < (k:Int))=false:=by simp;omega
    have d3':decide (0 < k)=false:=by simp;omega
    have HX:=Lib.hid (show R=K.asc33 m y (l.drop (k + 1)) by rw [HS.out,d2,show decide (y≤p)=false by simp;omega];simp)
    clear hg h1 h2 h10 HS h0 hp1
    rw [hA]
    clear hA
    go_wp2_with fail
    go_roundw
    case rel=>exact ⟨k + 1,y,by go_num,by omega,HX.out,HNX.out,hb⟩
    case measure=>simp [intOf];omega
   ·obtain ⟨ad2,p2,hA2,hj2,c2⟩:=(hl.below hb).at_ (show j < n by omega)
    rw [hA] at hA2
    injection hA2 with hA2
    subst hA2
    obtain rfl:p2=p:=by rw [hj] at hj2;injection hj2 with h9;exact h9.symm
    have d3:decide ((0:Int) < (k:Int))=true:=by simp;omega
    have d3':decide (0 < k)=true:=by simp;omega
    have f2:(k:Int) - 1=(j:Int):=by omega
    have f3:IntKind.i64.wrap ((k:Int) - 1)=(j:Int):=by rw [f2];exact IntWalk.i64_in _ (by omega)
    have f4:decide ((j:Int) < 0)=false:=by simp
    have f5:max (j:Int) 0=(j:Int):=by omega
    have f6:(j:Int) < (n:Int):=by omega
    have f7:(0:Int)≤(j:Int):=by omega
    by_cases h3:y≤p2
    ·have HX:=Lib.hid (show R=false by rw [HS.out,decide_eq_true h3];rfl)
     have d4:decide (y≤p2)=true:=decide_eq_true h3
     clear hg h1 h2 h3 h10 HS hj hj2 hkj
     rw [hA]
     clear hA
     go_wp2_with fail
     go_ret
     exact ⟨by rw [HX.out];rfl,hb⟩
    ·have HX:=Lib.hid (show R=K.asc33 m y (l.drop (k + 1)) by rw [HS.out,d2,decide_eq_false h3];simp)
     have d4:decide (y≤p2)=false:=decide_eq_false h3
     clear hg h1 h2 h3 h10 HS hj hj2 hkj
     rw [hA]
     clear hA
     go_wp2_with fail
     go_roundw
     case rel=>exact ⟨k + 1,y,by go_num,by omega,HX.out,HNX.out,hb⟩
     case measure=>simp [intOf];omega
  ·have HX:=Lib.hid (show R=true by rw [hr.out,List.drop_eq_nil_of_le (by rw [←hl.1];omega)];rfl)
   have hd:decide ((k:Int) < (n:Int))=false:=by simp;omega
   have hd2:decide (k < n)=false:=by simp;omega
   go_wp2_with fail
   go_ret
   exact ⟨by rw [HX.out];rfl,hb⟩
theorem own_base {w:World} {base base':Nat} {e:TypeId} {size n:Nat} {v:Value} {xs:List Value} (h:w.ownsRow base' e size v n xs) (hb:base≤base'):w.ownsRow base e size v n xs:=by
 obtain ⟨hl,h1 | ⟨g,cap,cur,e1,e2,e3⟩⟩:=h
 ·exact ⟨hl,.inl h1⟩
 ·exact ⟨hl,.inr ⟨g,cap,cur,e1,Nat.le_trans hb e2,e3⟩⟩
theorem rd_lit {w:World} {g:Nat} {q:Q} (h:w.heap[g]? = some (.cells #[.int .i64 q.node,.int .i64 q.room,.int .i64 q.kilos,.int .i64 q.service,.int .i64 q.frm,.int .i64 q.by_,.slice q.A q.n q.c] 47 (0,0))):Rd w 7 (some ⟨g,0,none⟩) 1 q.cells:=Rd.of_block h 7 1 rfl
set_option maxRecDepth 100000 in
set_option maxHeartbeats 8000000 in
theorem with112_any (A:Option Addr) (n c:Nat) (r:List Q) (q:Q) (w:World) (hl:Rd w 7 A n (r.flatMap Q.cells)) (hn:n≤100000) :
  Calls Tryz.prog 112 #[.slice A n c,.agg #[.int .i64 q.node,.int .i64 q.room,.int .i64 q.kilos,.int .i64 q.service,.int .i64 q.frm,.int .i64 q.by_,.slice q.A q.n q.c]] w fun e w'=>(∃ v,e=.returned v∧w'.ownsRow w.heap.size 47 7 v (n + 1) ((r ++ [q]).flatMap Q.cells))∧Below w.heap.size w w':=by
 obtain ⟨w1,hw1⟩:∃ w1:World,w1=w.alloc (.cells #[.int .i64 q.node,.int .i64 q.room,.int .i64 q.kilos,.int .i64 q.service,.int .i64 q.frm,.int .i64 q.by_,.slice q.A q.n q.c] 47):=⟨_,rfl⟩
 have b1:Below w.heap.size w w1:=by rw [hw1];exact (Below.refl _ _).alloc (Nat.le_refl _) _
 obtain ⟨g,hg⟩:∃ g,g=w.heap.size:=⟨_,rfl⟩
 have hB1:QBlk w1 g q:=by rw [hw1,hg];exact QBlk.new _ _
 have HMK:=Lib.hid (show ∀ w',Below w1.heap.size w1 w'→(fun w':World=>w'.cell? ⟨g,0,none⟩=some (.int .i64 q.node)∧w'.cell? ⟨g,1,none⟩=some (.int .i64 q.room)∧w'.cell? ⟨g,2,none⟩=some (.int .i64 q.kilos)∧w'.cell? ⟨g,3,none⟩=some (.int .i64 q.service)∧w'.cell? ⟨g,4,none⟩=some (.int .i64 q.frm)∧w'.cell? ⟨g,5,none⟩=some (.int .i64 q.by_)∧w'.cell? ⟨g,6,none⟩=some (.slice q.A q.n q.c)) w' from fun w' h=>(hB1.below h).cells)
 obtain ⟨i0,hi,hz0,hz1,hz2⟩:=info_parts clone120_info
 have hone:=flat_one Q.cells req_one r
 have hR0:Below w1.heap.size w1 w1:=Below.refl _ _
 have hR0d:Below w1.heap.size w1 w1.drew:=hR0.drew
 have hRa:Below w1.heap.size w1 (w1.alloc (.cells #[.int .i64 q.node,.int .i64 q.room,.int .i64 q.kilos,.int .i64 q.service,.int .i64 q.frm,.int .i64 q.by_,.slice q.A q.n q.c] 47)):=(Below.refl _ _).alloc (Nat.le_refl _) _
 have hRad:Below w1.heap.size w1 (w1.alloc (.cells #[.int .i64 q.node,.int .i64 q.room,.int .i64 q.kilos,.int .i64 q.service,.int .i64 q.frm,.int .i64 q.by_,.slice q.A q.n q.c] 47)).drew:=hRa.drew
 have S0:=HMK.out _ hR0
 have S0d:=HMK.out _ hR0d
 have S0a:=HMK.out _ hRa
 have S0ad:=HMK.out _ hRad
 have hLa:(w1.alloc (.cells #[.int .i64 q.node,.int .i64 q.room,.int .i64 q.kilos,.int .i64 q.service,.int .i64 q.frm,.int .i64 q.by_,.slice q.A q.n q.c] 47)).drew.heap[w1.heap.size]? = some (.cells #[.int .i64 q.node,.int .i64 q.room,.int .i64 q.kilos,.int .i64 q.service,.int .i64 q.frm,.int .i64 q.by_,.slice q.A q.n q.c] 47 (0,0)):=heap_alloc_new w1 _
 have h63:n + 1≤maxLen:=by simp only [maxLen];omega
 have h47:(n + 1) * 72≤140737488355328:=by omega
 have HG:=Lib.hid hg
 go_enter Tryz.func112,Tryz.ntmps112
 go_upto_region 1 with fail
 rw [←hw1,←hg]
 clear hw1 hg
 have hl1:=hl.below b1
 go_region_held3 (fun w':World=>w'.cell? ⟨g,0,none⟩=some (.int .i64 q.node)∧w'.cell? ⟨g,1,none⟩=some (.int .i64 q.room)∧w'.cell? ⟨g,2,none⟩=some (.int .i64 q.kilos)∧w'.cell? ⟨g,3,none⟩=some (.int .i64 q.service)∧w'.cell? ⟨g,4,none⟩=some (.int .i64 q.frm)∧w'.cell? ⟨g,5,none⟩=some (.int .i64 q.by_)∧w'.cell? ⟨g,6,none⟩=some (.slice q.A q.n q.c))
  (first | with_reducible exact S2 | with_reducible exact S1a | with_reducible exact S1 | with_reducible exact S0ad | with_reducible exact S0a | with_reducible exact S0d | with_reducible exact S0 | fail)
  (first
   | (go_at_call 120;(first
     | (with_reducible (refine (clone120 A n c _ _ (hl1.below hR0d) hone (by omega)).mono ?_;rintro e wc ⟨⟨v,rfl,hv⟩,bc⟩;have b2:=bel hR0d bc;have b2d:=hR0d.size))
     | (with_reducible (refine (clone120 A n c _ _ (hl1.below hRad) hone (by omega)).mono ?_;rintro e wc ⟨⟨v,rfl,hv⟩,bc⟩;have b2:=bel hRad bc;have b2d:=hRad.size;have hL:=blk_below bc hLa))
     | fail);have S1:=HMK.out _ b2;have S1a:=HMK.out _ (bel b2 ((Below.refl _ _).alloc (Nat.le_refl _) (.cells #[.int .i64 q.node,.int .i64 q.room,.int .i64 q.kilos,.int .i64 q.service,.int .i64 q.frm,.int .i64 q.by_,.slice q.A q.n q.c] 47)));have bca:Below wc.heap.size wc (wc.alloc (.cells #[.int .i64 q.node,.int .i64 q.room,.int .i64 q.kilos,.int .i64 q.service,.int .i64 q.frm,.int .i64 q.by_,.slice q.A q.n q.c] 47)):=(Below.refl _ _).alloc (Nat.le_refl _) _)
   | (have h9:=hv;clear hv;apply step_append_rd (hgd:=rfl) (s:=.tmp 6) (x:=.tmp 8) (t:=26) (ho:=rfl) (base:=w1.heap.size) (e:=47) (i:=i0) (z:=(.agg #[.int .i64 0,.int .i64 0,.int .i64 0,.int .i64 0,.int .i64 0,.int .i64 0,.slice none 0 0])) (size:=7) (bytes:=72) (ht:=Tryz.underlying26) (hi:=hi) (hz:=hz0) (hsize:=hz1) (hby:=hz2) (hzs:=rfl) (hsz:=by decide) (v:=v) (n:=n) (xs:=r.flatMap Q.cells) (hs:=rfl) (A:=some ⟨_,0,none⟩) (m:=1) (c:=1) (news:=q.cells) (hx:=rfl) (h1:=req_one q) (h63:=h63) (hbytes:=h47);rotate_right 1;(first | with_reducible exact own_base h9 b2d | with_reducible exact own_base (own_below h9 bca) b2d | fail);(first | with_reducible exact rd_lit hL | with_reducible exact rd_lit (heap_alloc_new wc _) | fail);(first | with_reducible exact b2.size | with_reducible exact (bel b2 bca).size | fail);intro v7 w7 hown7 hgr7 _;(first | (have b7:Below w1.heap.size w1 w7:=by with_reducible exact below_own2 b2 hgr7 (fun g e=>Nat.le_trans b2d ((own_in h9 g e).1))) | (have b7:Below w1.heap.size w1 w7:=by with_reducible exact below_own2 (bel b2 bca) hgr7 (fun g e=>Nat.le_trans b2d ((own_in h9 g e).1))) | fail);have S2:=HMK.out _ b7)
   | fail)
 all_goals go_wp2_with fail
 all_goals go_ret
 all_goals exact ⟨⟨_,rfl,by rw [List.flatMap_append,List.flatMap_singleton];exact own_base hown7 b1.size⟩,bel b1 b7⟩
set_option maxRecDepth 100000 in
set_option maxHeartbeats 8000000 in
theorem rlist110_any (A:Option Addr) (n c:Nat) (l:List Int) (m:Nat) (w:World) (hl:Ints w A n l) (hn:n≤1000000000) (hm:m≤1000000000) :
  Calls Tryz.prog 110 #[.slice A n c,.int .i64 m] w fun e w'=>e=.returned (.bool (K.asc33 m (-1) l))∧Below w.heap.size w w':=by
 obtain ⟨R,hR⟩:∃ R,R=K.asc33 m (-1) l:=⟨_,rfl⟩
 rw [←hR]
 have HR:=Lib.hid hR
 clear hR
 go_enter Tryz.func110,Tryz.ntmps110
 go_wp2_with fail
 go_loopw [5] (fun v wr=>∃ (k:Nat) (p:Int),v=.int .i64 k∧k≤n∧Hid (R=K.asc33 m p (l.drop k))∧Hid ((k=0∧p=-1)∨∃ j,k=j + 1∧l[j]? = some p∧0≤p)∧Below w.heap.size w wr) (fun v _=>n - (intOf v).toNat)
 case atStart=>exact ⟨0,-1,rfl,Nat.zero_le _,(by show _=_;rw [List.drop_zero];exact HR.out),.inl ⟨rfl,rfl⟩,Below.refl _ _⟩
 case round =>
  obtain ⟨k,p,rfl,hk,hr,hp,hb⟩:=hrel
  by_cases hlt:k < n
  ·obtain ⟨ad,y,hA,hg,c0⟩:=(hl.below hb).at_ hlt
   have HS:=Lib.hid (show R=(!decide (y≤p) && (!decide ((m:Int)≤y) && K.asc33 m y (l.drop (k + 1)))) by rw [hr.out,drop_of_some hg,K.asc33])
   have HG:=Lib.hid hg
   have k0:(0:Int)≤(k:Int):=by omega
   have k1:(k:Int) < (n:Int):=by omega
   by_cases h1:y < 0
   ·have HX:=Lib.hid (show R=false by
     have:decide (y≤p)=true:=by
      rcases hp.out with ⟨-,e⟩ | ⟨j,-,-,e⟩ <;> simp <;> omega
     rw [HS.out,this];rfl)
    have d1:decide (y < 0)=true:=by simp;omega
    clear hg h1
    rw [hA]
    clear hA
    go_wp2_with fail
    go_quiet (fail)
    go_wp2_with fail
    go_ret
    exact ⟨by rw [HX.out];rfl,below_drewN hb _⟩
   have d1:decide (y < 0)=false:=by simp;omega
   by_cases h2:(m:Int)≤y
   ·have HX:=Lib.hid (show R=false by rw [HS.out,decide_eq_true h2];simp)
    have d2:decide ((m:Int)≤y)=true:=decide_eq_true h2
    clear hg h1 h2
    rw [hA]
    clear hA
    go_wp2_with fail
    go_quiet (fail)
    go_wp2_with fail
    go_ret
    exact ⟨by rw [HX.out];rfl,below_drewN hb _⟩
   have d2:decide ((m:Int)≤y)=false:=decide_eq_false h2
   have h10:0≤y:=by omega
   have HNX:=Lib.hid (show (k + 1=0∧y=-1)∨∃ j,k + 1=j + 1∧l[j]? = some y∧0≤y from .inr ⟨k,rfl,hg,h10⟩)
   rcases hp.out with ⟨h0,hp1⟩ | ⟨j,hkj,hj,hp0⟩
   ·have d3:decide ((0:Int) < (k:Int))=false:=by simp;omega
    have d3':decide (0 < k)=false:=by simp;omega
    have HX:=Lib.hid (show R=K.asc33 m y (l.drop (k + 1)) by rw [HS.out,d2,show decide (y≤p)=false by simp;omega];simp)
    clear hg h1 h2 h10 HS h0 hp1
    rw [hA]
    clear hA
    go_wp2_with fail
    go_quiet (fail)
    go_wp2_with fail
    go_roundw
    case rel=>exact ⟨k + 1,y,by go_num,by omega,HX.out,HNX.out,below_drewN hb _⟩
    case measure=>simp [intOf];omega
   ·obtain ⟨ad2,p2,hA2,hj2,c2⟩:=(hl.below hb).at_ (show j < n by omega)
    rw [hA] at hA2
    injection hA2 with hA2
    subst hA2
    obtain rfl:p2=p:=by rw [hj] at hj2;injection hj2 with h9;exact h9.symm
    have d3:decide ((0:Int) < (k:Int))=true:=by simp;omega
    have d3':decide (0 < k)=true:=by simp;omega
    have f2:(k:Int) - 1=(j:Int):=by omega
    have f3:IntKind.i64.wrap ((k:Int) - 1)=(j:Int):=by rw [f2];exact IntWalk.i64_in _ (by omega)
    have f4:decide ((j:Int) < 0)=false:=by simp
    have f5:max (j:Int) 0=(j:Int):=by omega
    have f6:(j:Int) < (n:Int):=by omega
    have f7:(0:Int)≤(j:Int):=by omega
    by_cases h3:y≤p2
    ·have HX:=Lib.hid (show R=false by rw [HS.out,decide_eq_true h3];rfl)
     have d4:decide (y≤p2)=true:=decide_eq_true h3
     clear hg h1 h2 h3 h10 HS hj hj2 hkj
     rw [hA]
     clear hA
     go_wp2_with fail
     go_quiet (fail)
     go_wp2_with fail
     go_ret
     exact ⟨by rw [HX.out];rfl,below_drewN hb _⟩
    ·have HX:=Lib.hid (show R=K.asc33 m y (l.drop (k + 1)) by rw [HS.out,d2,decide_eq_false h3];simp)
     have d4:decide (y≤p2)=false:=decide_eq_false h3
     clear hg h1 h2 h3 h10 HS hj hj2 hkj
     rw [hA]
     clear hA
     go_wp2_with fail
     go_quiet (fail)
     go_wp2_with fail
     go_roundw
     case rel=>exact ⟨k + 1,y,by go_num,by omega,HX.out,HNX.out,below_drewN hb _⟩
     case measure=>simp [intOf];omega
  ·have HX:=Lib.hid (show R=true by rw [hr.out,List.drop_eq_nil_of_le (by rw [←hl.1];omega)];rfl)
   have hd:decide ((k:Int) < (n:Int))=false:=by simp;omega
   have hd2:decide (k < n)=false:=by simp;omega
   go_wp2_with fail
   go_ret
   exact ⟨by rw [HX.out];rfl,hb⟩
namespace K
theorem restGo_app {lost:List Int}:∀ (a b:List S) (i:Nat),restGo lost i (a ++ b)=restGo lost i a ++ restGo lost (i + a.length) b
 | [],b,i=>rfl
 | s :: a,b,i=>by
  rw [List.cons_append,restGo,restGo,restGo_app a b,List.length_cons,show i + 1 + a.length=i + (a.length + 1) by omega]
  split <;> rfl
theorem restGo_take {lost:List Int} {ss:List S} {k:Nat} {s:S} (h:ss[k]? = some s):restGo lost 0 (ss.take (k + 1))=restGo lost 0 (ss.take k) ++ if lost.any (· == (k:Int))=true then [] else [s]:=by
 have hk:=(List.getElem?_eq_some_iff.1 h).1
 rw [take_snoc h,restGo_app,List.length_take,Nat.min_eq_left (Nat.le_of_lt hk),Nat.zero_add]
 congr 1
 have e:lost.contains (k:Int)=lost.any (· == (k:Int)):=by
  rw [Bool.eq_iff_iff,List.contains_iff_mem,List.any_eq_true]
  exact ⟨fun h=>⟨_,h,by simp⟩,fun ⟨y,h1,h2⟩=>by rw [←beq_iff_eq.1 h2];exact h1⟩
 show (if lost.contains (k:Int)=true then [] else [s])=_
 rw [e]
end K
def BkBlk (w:World) (g:Nat) (x:Cs):Prop:=w.heap[g]? = some (.cells #[.int .i64 x.nd,.slice x.A x.n x.c,.slice x.SA x.sn x.sc,.slice x.B x.m x.d] 44 (0,0))
theorem BkBlk.below {w w':World} {g:Nat} {x:Cs} (h:BkBlk w g x) (hb:Below w.heap.size w w'):BkBlk w' g x:=blk_below hb h
theorem BkBlk.new (w:World) (x:Cs):BkBlk (w.alloc (.cells #[.int .i64 x.nd,.slice x.A x.n x.c,.slice x.SA x.sn x.sc,.slice x.B x.m x.d] 44)) w.heap.size x:=heap_alloc_new w _
theorem shift_one (x:S):∀ u ∈ S.cells x,u.oneCell'=true:=by
 intro u hu
 simp only [S.cells,List.mem_cons,List.not_mem_nil,or_false] at hu
 rcases hu with rfl | rfl | rfl | rfl | rfl | rfl <;> rfl
def S.rooms (s:S) (A:Option Addr) (c:Nat):S:=⟨s.day,s.depot,s.start,s.end_,s.tare,A,s.n,c,s.l⟩
def ShOk (w:World) (v:Value) (L:List S):Prop:=∀ s ∈ L,Ints w s.A s.n s.l∧(0 < s.n→∀ ad,s.A=some ad→v.ownBlock ≠ some ad.block)
theorem ShOk.below {w w':World} {v:Value} {L:List S} (h:ShOk w v L) (hb:Below w.heap.size w w'):ShOk w' v L:=fun s hs=>⟨(h s hs).1.below hb,(h s hs).2⟩
theorem ShOk.grow {w w':World} {v v':Value} {L:List S} (h:ShOk w v L) (hg:w.grownBy w' v.ownBlock) (ha:v'.ownBlock=v.ownBlock∨v'.ownBlock=some w.heap.size):ShOk w' v' L:=fun s hs=>by
 obtain ⟨h1,h3⟩:=h s hs
 refine ⟨h1.grow hg fun h0 ad e e2=>h3 h0 ad e e2.symm,fun h0 ad e e2=>?_⟩
 rcases ha with e3 | e3
 ·rw [e3] at e2;exact h3 h0 ad e e2
 ·rw [e3] at e2
  injection e2 with e2
  have:=h1.lt_of h0 e
  omega
theorem ShOk.snoc {w:World} {v:Value} {L:List S} (h:ShOk w v L) {y:S} (h1:Ints w y.A y.n y.l) (h2:0 < y.n→∀ ad,y.A=some ad→v.ownBlock ≠ some ad.block):ShOk w v (L ++ [y]):=fun s hs=>by
 rcases List.mem_append.1 hs with hs | hs
 ·exact h s hs
 ·rw [List.mem_singleton] at hs
  rw [hs]
  exact ⟨h1,h2⟩
def RetRest (w w':World) (R:List S) (er:Int) (e:Ending):Prop :=
 (∃ A n c L,e=.returned (.tuple #[.slice A n c,.int .i64 er])∧Shifts w' A n L∧L.map S.bare=R.map S.bare)∧Below w.heap.size w w'
theorem retRest_nil {w w':World} {er:Int} (hb:Below w.heap.size w w'):RetRest w w' [] er (.returned (.tuple #[.slice none 0 0,.int .i64 er])) :=
 ⟨⟨none,0,0,[],rfl,⟨⟨rfl,rfl,fun h=>absurd h (by decide)⟩,fun s h=>(by cases h)⟩,rfl⟩,hb⟩
theorem K.checks_nil {nd:Int} {l:List Ro} {ss:List S} {r:List Q}:K.checks nd l ss r [] = if K.pcheck nd l ss r=0 then (if 0 < r.length then 4 else 0) else K.pcheck nd l ss r:=rfl
def K.rest34 (nd:Int) (l:List Ro) (ss:List S) (r:List Q) (lost:List Int):List S:=if K.restE nd l ss r lost=0 then K.restGo lost 0 ss else []
set_option maxRecDepth 100000 in
set_option maxHeartbeats 16000000 in
theorem rest45_any (x:Cs) (LA:Option Addr) (ln lc:Nat) (lost:List Int) (w:World) (hx:CsAt w x) (hL:Ints w LA ln lost) (hln:ln≤1000000000) (hsn:x.sn≤1000000) (hsr:∀ s ∈ x.ss,s.n≤1000000) :
  Calls Tryz.prog 45 #[.agg #[.int .i64 x.nd,.slice x.A x.n x.c,.slice x.SA x.sn x.sc,.slice x.B x.m x.d],.slice LA ln lc] w fun e w'=>RetRest w w' (K.rest34 x.nd x.l x.ss x.r lost) (K.restE x.nd x.l x.ss x.r lost) e:=by
 obtain ⟨w1,hw1⟩:∃ w1:World,w1=w.alloc (.cells #[.int .i64 x.nd,.slice x.A x.n x.c,.slice x.SA x.sn x.sc,.slice x.B x.m x.d] 44):=⟨_,rfl⟩
 obtain ⟨g,hg⟩:∃ g,g=w.heap.size:=⟨_,rfl⟩
 have b1:Below w.heap.size w w1:=by rw [hw1];exact (Below.refl _ _).alloc (Nat.le_refl _) _
 have hN1:BkBlk w1 g x:=by rw [hw1,hg];exact BkBlk.new _ _
 have p2:=blk_cell hN1 2 _ rfl
 have HSN:=Lib.hid hx.shifts.1.1
 have HRN:=Lib.hid hx.reqs.1
 have HSR:=Lib.hid hsr
 clear hsr
 obtain ⟨ER,hER⟩:∃ ER,ER=K.restE x.nd x.l x.ss x.r lost:=⟨_,rfl⟩
 obtain ⟨RR,hRR⟩:∃ RR,RR=K.rest34 x.nd x.l x.ss x.r lost:=⟨_,rfl⟩
 rw [←hER,←hRR]
 have HER:=Lib.hid (show ER=if K.asc33 x.sn (-1) lost=true then K.pcheck x.nd x.l x.ss x.r else 1 by rw [hER,HSN.out];rfl)
 have HRR:=Lib.hid (show RR=if ER=0 then K.restGo lost 0 x.ss else [] by rw [hRR,hER];rfl)
 clear hER hRR
 go_enter Tryz.func45,Tryz.ntmps45
 go_upto_region 1 with fail
 rw [←hw1,←hg]
 clear hw1 hg
 have CR:=rising107_any LA ln lc lost x.sn w1 (hL.below b1) hln (by omega)
 obtain ⟨z,hz⟩:∃ z,z=K.asc33 x.sn (-1) lost:=⟨_,rfl⟩
 rw [←hz] at CR HER
 clear hz
 go_wp2_with fail
 refine CR.mono ?_
 rintro e w2 ⟨rfl,b2⟩
 have hN2:=hN1.below b2
 have hb2:=bel b1 b2
 clear CR p2 b1 b2 hN1
 cases z
 ·have HX:=Lib.hid (show ER=1 from HER.out)
  have HY:=Lib.hid (show RR=[] by rw [HRR.out,HX.out];rfl)
  go_wp2_with fail
  go_ret2
  rw [HX.out,HY.out]
  exact retRest_nil hb2
 have HE2:=Lib.hid (show ER=K.pcheck x.nd x.l x.ss x.r from HER.out)
 have p0:=blk_cell hN2 0 _ rfl
 have p1:=blk_cell hN2 1 _ rfl
 have p2:=blk_cell hN2 2 _ rfl
 have p3:=blk_cell hN2 3 _ rfl
 have CC:=checks32_any x none 0 0 [] w2 (hx.below hb2) ⟨⟨rfl,rfl,fun h=>absurd h (by decide)⟩,fun y h=>(by cases h)⟩ ⟨by decide,fun y h=>(by cases h)⟩
 rw [List.map_nil,K.checks_nil,←HE2.out,←HRN.out] at CC
 clear HER
 go_wp2_with fail
 refine CC.mono ?_
 obtain ⟨ce,hce⟩:∃ ce,ce=(if ER=0 then (if 0 < x.m then 4 else 0) else ER):=⟨_,rfl⟩
 rw [←hce]
 rintro e w3 ⟨rfl,b3⟩
 have HCE:=Lib.hid hce
 have hN3:=hN2.below b3
 have hb3:=bel hb2 b3
 clear CC hce p0 p1 p2 p3 hN2 hb2 b3
 by_cases hE:ER=0
 rotate_left
 ·have HY:=Lib.hid (show RR=[] by rw [HRR.out,if_neg hE])
  have hcE:ce=ER:=by rw [HCE.out,if_neg hE]
  subst hcE
  rcases K.pcheck_cases (nd:=x.nd) (l:=x.l) (ss:=x.ss) (r:=x.r) with e | e | e
  ·exact absurd (HE2.out.trans e) hE
  ·have h1:=HE2.out.trans e
   subst h1
   clear hE e
   go_wp2_with fail
   go_ret2
   rw [HY.out]
   exact retRest_nil hb3
  ·have h1:=HE2.out.trans e
   subst h1
   clear hE e
   go_wp2_with fail
   go_ret2
   rw [HY.out]
   exact retRest_nil hb3
 have HY:=Lib.hid (show RR=K.restGo lost 0 x.ss by rw [HRR.out,if_pos hE])
 subst hE
 have d1:(ce == 1)=false:=by rw [HCE.out,if_pos rfl];split <;> rfl
 have d2:(ce == 6)=false:=by rw [HCE.out,if_pos rfl];split <;> rfl
 have d3:decide (ce=1)=false:=by rw [HCE.out,if_pos rfl];split <;> rfl
 have d4:decide (ce=6)=false:=by rw [HCE.out,if_pos rfl];split <;> rfl
 have p2:=blk_cell hN3 2 _ rfl
 clear HE2
 go_wp2_with fail
 clear d1 d2 d3 d4 p2
 go_loopw [7,33] (fun v7 v33 wr=>∃ (k:Nat) (L:List S),v33=.int .i64 k∧k≤x.sn∧wr.ownsRow w3.heap.size 63 6 v7 L.length (L.flatMap S.cells)∧ShOk wr v7 L∧L.length≤k∧Hid (L.map S.bare=(K.restGo lost 0 (x.ss.take k)).map S.bare)∧Below w3.heap.size w3 wr) (fun _ v33 _=>x.sn - (intOf v33).toNat)
 case atStart=>exact ⟨0,[],rfl,Nat.zero_le _,World.ownsRow_nil _ _ _ _,fun s h=>(by cases h),Nat.zero_le _,rfl,Below.refl _ _⟩
 case round =>
  obtain ⟨k,L,rfl,hk,hown,hok,hlk,hbare,hbr⟩:=hrel
  have hbw:=bel hb3 hbr
  by_cases hlt:k < x.sn
  ·obtain ⟨ad,s,hA,hs,hI,c0,c1,c2,c3,c4,c5⟩:=(hx.shifts.below hbw).at_ hlt
   have HTK:=Lib.hid (K.restGo_take (lost:=lost) hs)
   have HSM:=Lib.hid (List.mem_of_getElem? hs)
   have k0:(0:Int)≤(k:Int):=by omega
   have k1:(k:Int) < (x.sn:Int):=by omega
   have hkt:k + 1≤x.sn:=hlt
   obtain ⟨gs,hgs⟩:∃ gs,gs=wr.heap.size:=⟨_,rfl⟩
   obtain ⟨w4,hw4⟩:∃ w4:World,w4=wr.alloc (.cells #[.int .i64 s.day,.int .i64 s.depot,.int .i64 s.start,.int .i64 s.end_,.int .i64 s.tare,.slice s.A s.n s.c] 63):=⟨_,rfl⟩
   have b4:Below wr.heap.size wr w4:=by rw [hw4];exact (Below.refl _ _).alloc (Nat.le_refl _) _
   have hB4:Shf w4 gs s:=by rw [hw4,hgs];exact heap_alloc_new _ _
   have CK:=contains64_any LA ln lc lost k w4 ((hL.below hbw).below b4) hln
   obtain ⟨z,hz⟩:∃ z,z=lost.any (· == (k:Int)):=⟨_,rfl⟩
   rw [←hz] at CK HTK
   have hI4:=hI.below b4
   have hgs1:wr.heap.size≤gs:=by rw [hgs];exact Nat.le_refl _
   clear hz hs hI
   rw [hA]
   have HA:=Lib.hid hA
   clear hA
   go_upto_region 10 with fail
   rw [←hw4,←hgs]
   clear hw4 hgs c0 c1 c2 c3 c4 c5
   go_wp2_with fail
   refine CK.mono ?_
   rintro e w5 ⟨rfl,b5⟩
   have b45:=bel b4 b5
   cases z
   rotate_left
   ·have HB:=Lib.hid (show L.map S.bare=(K.restGo lost 0 (x.ss.take (k + 1))).map S.bare by rw [HTK.out,if_pos rfl,List.append_nil];exact hbare.out)
    have hown5:=own_below hown b45
    have hok5:=hok.below b45
    have hb5:=bel hbr b45
    clear CK hown hok
    go_wp2_with fail
    go_roundw
    case rel=>(go_light;exact ⟨k + 1,L,by go_num,hkt,hown5,hok5,by omega,HB.out,hb5⟩)
    case measure=>(go_light;simp [intOf];omega)
   ·have hB5:Shf w5 gs s:=hB4.below b5
    have hB5':=hB5
    have hIL:=Lib.hid hI4.1
    obtain ⟨s0,s1,s2,s3,s4,s5⟩:=hB5.cells
    have sf:=blk_free hB5
    have CL:=clone_own s.A s.n s.c s.l w5 (hI4.below b5) (by have:=HSR.out s HSM.out;omega)
    clear CK
    go_wp2_with fail
    refine CL.mono ?_
    rintro e w6 ⟨⟨v,rfl,hv⟩,b6⟩
    obtain ⟨A6,c6,rfl,hR6,hF6⟩:=own_form hv
    have hB6:=hB5.below b6
    have b46:=bel b45 b6
    have b56:=b5.size
    clear s0 s1 s2 s3 s4 s5 sf hB4 hB5 CL
    obtain ⟨s0,s1,s2,s3,s4,s5⟩:=hB6.cells
    have sf:=blk_free hB6
    obtain ⟨w7,hw7⟩:∃ w7:World,w7=w6.setCell ⟨gs,5,none⟩ (.slice A6 s.n c6):=⟨_,rfl⟩
    have b7:Below wr.heap.size wr w7:=by rw [hw7];exact b46.setCell (p:=⟨gs,5,none⟩) hgs1 _
    have hB7:Shf w7 gs ⟨s.day,s.depot,s.start,s.end_,s.tare,A6,s.n,c6,s.l⟩:=by rw [hw7];exact blk_set hB6 5 _
    have hgs5:gs < w5.heap.size:=lt_of_block hB5'
    have hI7:Ints w7 A6 s.n s.l:=by
     rw [hw7]
     exact (show Ints w6 A6 s.n s.l from ⟨hIL.out,hR6⟩).set _ (fun ad e=>by have:=(hF6 ad.block (by rw [e];rfl)).1;omega)
    have hof7:0 < s.n→∀ ad,A6=some ad→u7.ownBlock ≠ some ad.block:=fun _ ad e e2=>by
     have h1:=(hF6 ad.block (by rw [e];rfl)).1
     have h2:=(own_in hown _ e2).2
     have:=b45.size
     omega
    have hown7:=own_below hown b7
    have hok7:=hok.below b7
    obtain ⟨q0,q1,q2,q3,q4,q5⟩:=hB7.cells
    obtain ⟨w8,hw8⟩:∃ w8:World,w8=w7.alloc (.cells #[.int .i64 s.day,.int .i64 s.depot,.int .i64 s.start,.int .i64 s.end_,.int .i64 s.tare,.slice A6 s.n c6] 63):=⟨_,rfl⟩
    obtain ⟨g8,hg8⟩:∃ g,g=w7.heap.size:=⟨_,rfl⟩
    have b8:Below w7.heap.size w7 w8:=by rw [hw8];exact (Below.refl _ _).alloc (Nat.le_refl _) _
    have hL8:w8.heap[g8]? = some (.cells #[.int .i64 s.day,.int .i64 s.depot,.int .i64 s.start,.int .i64 s.end_,.int .i64 s.tare,.slice A6 s.n c6] 63 (0,0)):=by rw [hw8,hg8];exact heap_alloc_new _ _
    have hown8:=own_below hown7 b8
    have hok8:=(hok7.snoc (y:=⟨s.day,s.depot,s.start,s.end_,s.tare,A6,s.n,c6,s.l⟩) hI7 hof7).below b8
    obtain ⟨i0,hi,hz0,hz1,hz2⟩:=info_parts clone150_info
    have hz8:w3.heap.size≤w8.heap.size:=Nat.le_trans hbr.size (Nat.le_trans b7.size b8.size)
    have hb8:=bel hbr (bel b7 b8)
    have HB:=Lib.hid (show (L ++ [(⟨s.day,s.depot,s.start,s.end_,s.tare,A6,s.n,c6,s.l⟩:S)]).map S.bare=(K.restGo lost 0 (x.ss.take (k + 1))).map S.bare by rw [HTK.out,if_neg (by decide),List.map_append,List.map_append,hbare.out];rfl)
    clear hv hR6 hF6 hI7 hof7 hok7 hown7 hown hok hgs5 hB5'
    go_upto_region 12 with fail
    rw [←hw7]
    clear hw7 s0 s1 s2 s3 s4 s5 sf hB6
    go_wp2_with (first
     | (at_builtin;rw [←hw8,←hg8];refine wp_append_rd rfl _ _ 25 rfl w3.heap.size 63 i0 (.agg #[.int .i64 0,.int .i64 0,.int .i64 0,.int .i64 0,.int .i64 0,.slice none 0 0]) 6 64 Tryz.underlying25 hi hz0 hz1 hz2 rfl (by decide) _ L.length (L.flatMap S.cells) rfl hown8 (some ⟨g8,0,none⟩) 1 1 (S.cells ⟨s.day,s.depot,s.start,s.end_,s.tare,A6,s.n,c6,s.l⟩) rfl (Rd.of_block hL8 6 1 rfl) (shift_one _) (by simp only [maxLen];omega) (by omega) hz8 ?_;intro v9 w9 hown9 hgr9 ha9)
     | fail)
    have hb9:Below w3.heap.size w3 w9:=below_own2 hb8 hgr9 (fun g e=>(hown8.lt g e).1)
    have hok9:=hok8.grow hgr9 ha9
    have hown9':w9.ownsRow w3.heap.size 63 6 v9 (L ++ [(⟨s.day,s.depot,s.start,s.end_,s.tare,A6,s.n,c6,s.l⟩:S)]).length ((L ++ [(⟨s.day,s.depot,s.start,s.end_,s.tare,A6,s.n,c6,s.l⟩:S)]).flatMap S.cells):=by
     rw [List.length_append,List.flatMap_append,List.flatMap_singleton]
     exact hown9
    have hlen:(L ++ [(⟨s.day,s.depot,s.start,s.end_,s.tare,A6,s.n,c6,s.l⟩:S)]).length≤k + 1:=by rw [List.length_append,List.length_singleton];omega
    have HLN:=Lib.hid hlen
    clear hown9 hgr9 ha9 hok8 hown8 hlen hw8 hg8 q0 q1 q2 q3 q4 q5
    go_roundw
    case rel=>(go_light;exact ⟨k + 1,_,by go_num,hkt,hown9',hok9,HLN.out,HB.out,hb9⟩)
    case measure=>(go_light;simp [intOf];omega)
  ·have hd:decide ((k:Int) < (x.sn:Int))=false:=by simp;omega
   have hd2:decide (k < x.sn)=false:=by simp;omega
   have HB:=Lib.hid (show L.map S.bare=RR.map S.bare by rw [HY.out,hbare.out,List.take_of_length_le (by rw [←HSN.out];omega)])
   obtain ⟨A9,c9,rfl,hR9,-⟩:=own_form hown
   go_wp2_with fail
   go_ret2
   exact ⟨⟨A9,L.length,c9,L,rfl,⟨⟨rfl,hR9⟩,fun s hs=>(hok s hs).1⟩,HB.out⟩,hbw⟩
def NB (w:World) (bl:List BV):Prop:=∀ y ∈ bl,(0 < y.vn→∀ ad,y.V=some ad→w.heap.size≤ad.block)∧(0 < y.ln→∀ ad,y.LA=some ad→w.heap.size≤ad.block)
theorem NB.snoc {w:World} {bl:List BV} (h:NB w bl) {y:BV} (h1:0 < y.vn→∀ ad,y.V=some ad→w.heap.size≤ad.block) (h2:0 < y.ln→∀ ad,y.LA=some ad→w.heap.size≤ad.block):NB w (bl ++ [y]):=fun z hz=>by
 rcases List.mem_append.1 hz with hz | hz
 ·exact h z hz
 ·rw [List.mem_singleton.1 hz];exact ⟨h1,h2⟩
def RetRefuteX (w w':World) (p:List (Int × List Int × List Lb)) (er:Int) (e:Ending):Prop :=
 (∃ A n c bl,e=.returned (.tuple #[.slice A n c,.int .i64 er])∧Blks w' A n bl∧n≤c∧FewB n bl∧bl.map BV.pr=p∧(∀ ad,A=some ad→w.heap.size≤ad.block)∧NB w bl)∧Below w.heap.size w w'
theorem retRefuteX_nil {w w':World} {er:Int} (hb:Below w.heap.size w w'):RetRefuteX w w' [] er (.returned (.tuple #[.slice none 0 0,.int .i64 er])) :=
 ⟨⟨none,0,0,[],rfl,⟨⟨rfl,rfl,fun h=>absurd h (by omega)⟩,fun y h=>by cases h⟩,Nat.le_refl _,⟨by omega,fun y h=>by cases h⟩,rfl,(fun ad e=>(by cases e)),(fun y h=>(by cases h))⟩,hb⟩
set_option maxRecDepth 100000 in
set_option maxHeartbeats 16000000 in
theorem refute32X (x:Cs) (w:World) (hx:CsAt w x) :
  Calls Tryz.prog 22 #[.agg #[.int .i64 x.nd,.slice x.A x.n x.c],.slice x.SA x.sn x.sc,.slice x.B x.m x.d] w fun e w'=>RetRefuteX w w' ((K.refute x.nd x.l x.ss x.r).1.map fun b=>((b.1:Int),b.2)) (K.refute x.nd x.l x.ss x.r).2 e:=by
 have hN:=Net.new w x.nd x.A x.n x.c
 have p0:=hN.c0
 have p1:=hN.c1
 have b0:Below w.heap.size w (w.alloc (.cells #[.int .i64 x.nd,.slice x.A x.n x.c] 24)):=(Below.refl _ _).alloc (Nat.le_refl _) _
 have CP:=plan32_any x _ (hx.below b0)
 go_enter Tryz.func22,Tryz.ntmps22
 go_wp2_with fail
 refine CP.mono ?_
 obtain ⟨ce,hce⟩:∃ ce,ce=(K.plan x.nd x.l x.ss x.r).2:=⟨_,rfl⟩
 rintro e w1 ⟨⟨PA,pn,pc,pl,rfl,-,-,-⟩,b1⟩
 rw [←hce]
 have hN1:=hN.below b1
 have hb1:=bel b0 b1
 clear p0 p1 b0 b1 hN CP
 by_cases hz:ce=0
 ·have HX:=Lib.hid (show K.refute x.nd x.l x.ss x.r=([],7) from K.refute_zero (by rw [←hce];exact hz))
  have hd:(ce == 0)=true:=by simp [hz]
  have hd2:decide (ce=0)=true:=by simp [hz]
  clear hce hz
  go_wp2_with fail
  go_ret2
  rw [HX.out]
  exact retRefuteX_nil hb1
 by_cases hz4:ce=4
 rotate_left
 ·have HX:=Lib.hid (show K.refute x.nd x.l x.ss x.r=([],ce) by rw [hce] at hz hz4 ⊢;exact K.refute_other hz hz4)
  have hd:(ce == 0)=false:=by simp [hz]
  have hd2:(ce == 4)=false:=by simp [hz4]
  clear hce hz hz4
  go_wp2_with fail
  go_ret2
  rw [HX.out]
  exact retRefuteX_nil hb1
 subst hz4
 have HR:=Lib.hid (K.refute_four hce.symm)
 have HOK:=Lib.hid (K.plan_four hce.symm)
 clear hce hz
 have p0:=hN1.c0
 have p1:=hN1.c1
 go_wp2_with fail
 refine (start32_any x _ (hx.below hb1) HOK.out).mono ?_
 rintro e w2 ⟨b,mb,gb,rfl,hp2⟩
 have hm6:x.m≤6:=by rw [hx.reqs.1];exact (K.pcheck_ok HOK.out).2.2.2.2
 have hsn4:x.sn≤4:=by rw [hx.shifts.1.1];exact (K.pcheck_ok HOK.out).2.1
 have HSN:=Lib.hid hx.shifts.1.1
 have HRN:=Lib.hid hx.reqs.1
 obtain ⟨shs,hshs⟩:∃ shs,shs=List.replicate x.sn (⟨none,0,0,[]⟩:Sh):=⟨_,rfl⟩
 rw [←hshs] at hp2
 obtain ⟨G0,hG0⟩:∃ G0,G0=w.heap.size:=⟨_,rfl⟩
 rw [←hG0] at hN1
 rw [←hG0]
 obtain ⟨B1,hB1⟩:∃ B1,B1=w2.heap.size:=⟨_,rfl⟩
 have hWB:=Lib.hid (show w.heap.size≤B1 by rw [hB1];exact Nat.le_trans hb1.size hp2.bw.size)
 clear p0 p1 hshs hG0
 go_wp2_with fail
 go_loopw [11,38] (fun v11 v38 wr=>∃ (s:Nat) (bl:List BV),v38=.int .i64 s∧s≤x.sn∧wr.ownsRow B1 90 3 v11 bl.length (bl.flatMap BV.cells)∧BlOk wr v11 bl∧NB w bl∧PlAt w1 wr b mb gb x (fun g=>v11.ownBlock=some g) shs∧B1≤wr.heap.size∧bl.length≤1000 * s∧Hid (bl.map BV.pr=K.blksUpto x.nd x.l x.ss x.r s)) (fun _ v38 _=>x.sn - (intOf v38).toNat)
 case atStart=>exact ⟨0,[],rfl,Nat.zero_le _,World.ownsRow_nil _ _ _ _,fun y hy=>(by cases hy),fun y hy=>(by cases hy),hp2.turn (fun g h=>(by cases h)),by rw [hB1];exact Nat.le_refl _,Nat.zero_le _,rfl⟩
 case round =>
  clear hp2 hB1
  obtain ⟨s,bl,rfl,hs,hown,hbo,hnb,hp,hBr,hbl,hcl⟩:=hrel
  by_cases hlt:s < x.sn
  ·obtain ⟨sS,hsS⟩:∃ sS,x.ss[s]? = some sS:=⟨_,List.getElem?_eq_getElem (by rw [←HSN.out];exact hlt)⟩
   have j0:decide ((s:Int) < (x.sn:Int))=true:=by simp;omega
   have HSS:=Lib.hid hsS
   clear hsS
   obtain ⟨ws,hws⟩:∃ ws,ws=wr:=⟨_,rfl⟩
   rw [←hws] at hown hbo hp hBr
   rw [←hws]
   clear hws
   obtain ⟨BS,hBS⟩:∃ BS,BS=ws.heap.size:=⟨_,rfl⟩
   obtain ⟨FE,hFE⟩:∃ FE,FE=K.feas x.nd x.l x.ss x.r s:=⟨_,rfl⟩
   have HFE:=Lib.hid hFE
   clear hFE
   go_wp2_with fail
   go_loopw [13,43] (fun v13 v43 wi=>∃ (k:Nat) (own:List Sh),v43=.int .i64 k∧k≤x.m∧wi.ownsRow BS 48 1 v13 own.length (own.map Sh.val)∧RowOk wi v13 own∧NewL BS own∧(∀ y ∈ own,y.n≤6)∧PlAt w1 wi b mb gb x (fun g=>u11.ownBlock=some g∨v13.ownBlock=some g) shs∧ws.grownBy wi (some mb)∧own.length≤64 * k∧Hid (own.map Sh.l=A.ownGo FE [] (A.upto x.m k))) (fun _ v43 _=>x.m - (intOf v43).toNat)
   case atStart=>exact ⟨0,[],rfl,Nat.zero_le _,World.ownsRow_nil _ _ _ _,fun y hy=>(by cases hy),fun y hy=>(by cases hy),fun y hy=>(by cases hy),hp.turn (fun g h=>h.elim .inl fun e=>(by cases e)),⟨rfl,rfl,rfl,Nat.le_refl _,fun _ _ _=>rfl⟩,Nat.zero_le _,rfl⟩
   case round =>
    obtain ⟨k,own,rfl,hk,hownO,hroO,hnwO,h6O,hpO,hgO,hlO,hcO⟩:=hrel
    obtain ⟨wk,hwk⟩:∃ wk,wk=wr:=⟨_,rfl⟩
    rw [←hwk] at hownO hroO hpO hgO
    rw [←hwk]
    clear hwk
    by_cases hkm:k < x.m
    ·have k0:decide ((k:Int) < (x.m:Int))=true:=by simp;omega
     obtain ⟨kk,hkk⟩:∃ kk,kk=k + 1:=⟨_,rfl⟩
     have ks:IntKind.i64.wrap ((k:Int) + 1)=(kk:Int):=by rw [IntWalk.i64_in _ (by omega)];omega
     have CS:=sets35_any x.m hm6 kk 0 wk (by omega) (by omega)
     rw [show ((0:Nat):Int)=0 from rfl] at CS
     have HKK:=Lib.hid hkk
     have hDl:(A.combos x.m kk 0).length≤64:=A.combos_few hm6 (by omega) (by omega)
     obtain ⟨D,hD⟩:∃ D,D=A.combos x.m kk 0:=⟨_,rfl⟩
     rw [←hD] at CS hDl
     have HD:=Lib.hid hD
     clear hkk hD
     go_wp2_with fail
     refine CS.mono ?_
     rintro e wl ⟨⟨E,m,c,l,rfl,hSl,hmc,hlD,hEn,hln⟩,bl2⟩
     have hml:m≤64:=by rw [hSl.1.1,←List.length_map (f:=Sh.l),hlD];exact hDl
     have hl6:∀ t ∈ l,t.n≤6∧t.l.Pairwise (· < ·)∧∀ i ∈ t.l,0≤i∧i < (x.m:Int):=fun t ht=>by
      have h9:t.l ∈ A.combos x.m kk 0:=by rw [←HD.out,←hlD];exact List.mem_map_of_mem ht
      obtain ⟨h1,h2,h3⟩:=A.mem_combos.1 h9
      have h4:=(hSl.2 t ht).1.1
      have:=HKK.out
      exact ⟨by omega,h2,fun i hi=>by have:=h3 i hi;omega⟩
     have hoffE:OffRow E m u13:=fun _ ad e e2=>by
      have h1:=(own_in hownO _ e2).2
      have h2:=hEn ad e
      omega
     have hroE:RowOk wl u13 l:=fun t ht=>⟨hSl.2 t ht,fun h0 ad e e2=>by
      have h1:=(own_in hownO _ e2).2
      have h2:=hln t ht h0 ad e
      omega⟩
     have hownL:=own_below hownO bl2
     have hroL:=hroO.below bl2
     have hpL:=hpO.below bl2
     have hgL:ws.grownBy wl (some mb):=hgO.andThen (row':=none) ⟨bl2.os,bl2.tape,bl2.output,bl2.size,fun q hq _=>bl2.block q hq⟩ (fun _ e=>by cases e)
     have hnE:NewL BS l:=hln.mono (by rw [hBS];exact hgO.size)
     clear CS hownO hroO hpO hgO hEn hln bl2
     go_wp2_with fail
     go_loopw [13,52] (fun v13 v52 wj=>∃ (j:Nat) (own':List Sh),v52=.int .i64 j∧j≤m∧Mid w1 ws wj b mb gb x shs u11 v13 BS own' E m l∧NewL BS own'∧(∀ y ∈ own',y.n≤6)∧own'.length≤own.length + j∧Hid (own'.map Sh.l=A.ownGo FE [] (A.upto x.m k ++ (l.take j).map Sh.l))) (fun _ v52 _=>m - (intOf v52).toNat)
     case atStart=>exact ⟨0,own,rfl,Nat.zero_le _,⟨hownL,hroL,hpL,hgL,hSl,hoffE,hroE⟩,hnwO,h6O,Nat.le_refl _,by show _=_;rw [List.take_zero,List.map_nil,List.append_nil];exact hcO.out⟩
     case round =>
      clear hownL hroL hnwO h6O hpL hgL hoffE hroE hSl
      obtain ⟨j,own',rfl,hj,M,hnwI,h6I,hlI,hcI⟩:=hrel
      by_cases hjm:j < m
      ·obtain ⟨E2,c2,rfl,hS2,hc2,-⟩:=own_shs M.row rfl M.ok
       obtain ⟨ad,t,rfl,hg,⟨hI,hsc,hs0⟩,hc⟩:=M.sh.at_ hjm
       obtain ⟨wj,hwj⟩:∃ wj,wj=wr:=⟨_,rfl⟩
       rw [←hwj] at M hS2 hI hc
       rw [←hwj]
       clear hwj
       have j0:decide ((j:Int) < (m:Int))=true:=by simp;omega
       have js:IntKind.i64.wrap ((j:Int) + 1)=((j + 1:Nat):Int):=by rw [IntWalk.i64_in _ (by omega)];omega
       have htm:=List.mem_of_getElem? hg
       obtain ⟨h6,hso,hbd⟩:=hl6 t htm
       have hbd':∀ i ∈ t.l,0≤i∧i < (x.r.length:Int):=fun i hi=>by have:=hbd i hi;have:=HRN.out;omega
       have bA:Below wj.heap.size wj (wj.alloc (.cells #[.slice t.A t.n t.c] 48)):=(Below.refl _ _).alloc (Nat.le_refl _) _
       have hG:=heap_alloc_new wj (.cells #[.slice t.A t.n t.c] 48)
       have CC:=contains36_any wj.heap.size E2 own'.length c2 own' t.A t.n t.c t.l (wj.alloc (.cells #[.slice t.A t.n t.c] 48)) (hS2.below bA) (by omega) hG (fun y hy=>by have:=h6I y hy;omega) (hI.below bA) (by omega)
       have HTM:=Lib.hid htm
       have HSB:=Lib.hid (And.intro hso hbd')
       have HG:=Lib.hid hg
       have HLI:=Lib.hid hlI
       have htk:(l.take (j + 1)).map Sh.l=(l.take j).map Sh.l ++ [t.l]:=by rw [List.take_add_one,hg,List.map_append];rfl
       have HTK:=Lib.hid htk
       have hxsz:∀ g,(u11.ownBlock=some g∨(Value.slice E2 own'.length c2).ownBlock=some g)→g < wj.heap.size:=fun g e=>e.elim (fun e=>by have h1:=(own_in hown g e).2;have h2:=M.gr.size;omega) (fun e=>(own_in M.row g e).2)
       have HXS:=Lib.hid hxsz
       clear hg hlI htm hso hbd hbd' htk hxsz
       go_wp2_with fail
       refine CC.mono ?_
       rintro e wc ⟨rfl,bc⟩
       have M1:=(M.below bA).below bc
       have hG1:=blk_below bc hG
       have hI1:=(hI.below bA).below bc
       have bAC:=bel bA bc
       have cG:=blk_cell hG1 0 _ rfl
       clear CC M hG hI bA bc hS2 hc
       obtain ⟨z,hz⟩:∃ z,z=(own'.map Sh.l).any fun u=>A.part u t.l:=⟨_,rfl⟩
       rw [←hz]
       have HZ:=Lib.hid hz
       clear hz
       cases z with
       | true =>
        have HN:=Lib.hid (A.ownGo_no (ok:=FE) (own:=[]) (L:=A.upto x.m k ++ (l.take j).map Sh.l) (v:=t.l) (.inl (by rw [←hcI.out];exact HZ.out.symm)))
        go_wp2_with fail
        go_roundw
        case rel=>exact ⟨j + 1,own',by go_num,by omega,M1,hnwI,h6I,by have:=HLI.out;omega,by show _=_;rw [HTK.out,←List.append_assoc,HN.out];exact hcI.out⟩
        case measure=>simp [intOf];omega
       | false =>
        have CB:=best32_any w1 b mb gb x shs s sS t.A t.n t.c t.l wc M1.pl (fun g e=>Nat.lt_of_lt_of_le (HXS.out g e) bAC.size) HSS.out hI1 hsc HSB.out.1 HSB.out.2
        have hfe:FE t.l=(K.best x.nd x.l sS x.r t.l).isSome:=by
         rw [HFE.out,Bool.eq_iff_iff,K.feas_iff M1.pl.ok HSB.out.1 HSB.out.2,Option.isSome_iff_exists]
         exact ⟨fun ⟨s2,t2,e1,e2⟩=>by rw [HSS.out] at e1;injection e1 with e1;subst e1;exact ⟨t2,e2⟩,fun ⟨t2,e2⟩=>⟨sS,t2,HSS.out,e2⟩⟩
        obtain ⟨T,hT⟩:∃ T,T=K.best x.nd x.l sS x.r t.l:=⟨_,rfl⟩
        rw [←hT] at CB hfe
        have HFT:=Lib.hid hfe
        clear hT hfe
        go_wp2_with fail
        refine CB.mono ?_
        rintro e wb ⟨⟨u',rfl,hTA⟩,hgb,hpb⟩
        have hGb:=(M1.pl.memo.ext hgb).cells _ _ _ _ hG1
        have M2:=M1.best hgb hpb
        have cGb:=blk_cell hGb 0 _ rfl
        clear CB hgb hpb M1 hG1 hI1 cG bAC
        cases T with
        | some bt =>
         obtain ⟨g,A8,n8,c8,A7,n7,c7,rfl,-⟩:=hTA
         have HN:=Lib.hid (A.ownGo_no (ok:=FE) (own:=[]) (L:=A.upto x.m k ++ (l.take j).map Sh.l) (v:=t.l) (.inr HFT.out))
         go_wp2_with fail
         go_roundw
         case rel=>exact ⟨j + 1,own',by go_num,by omega,M2,hnwI,h6I,by have:=HLI.out;omega,by show _=_;rw [HTK.out,←List.append_assoc,HN.out];exact hcI.out⟩
         case measure=>simp [intOf];omega
        | none =>
         obtain rfl:u'=.pointer none:=hTA
         have HN:=Lib.hid (A.ownGo_yes (ok:=FE) (own:=[]) (L:=A.upto x.m k ++ (l.take j).map Sh.l) (v:=t.l) (by rw [←hcI.out];exact HZ.out.symm) HFT.out)
         have hbs:BS≤wb.heap.size:=by have h2:=M2.gr.size;omega
         have bD:Below wb.heap.size wb (wb.alloc (.cells #[.slice t.A t.n t.c] 48)):=(Below.refl _ _).alloc (Nat.le_refl _) _
         have M3:=M2.below bD
         have hbs2:=Nat.le_trans hbs bD.size
         have hln:own'.length≤1000000:=by have:=HLI.out;omega
         clear M2 hGb
         go_wp2_with (at_builtin;refine app_shs rfl (.tmp 67) (.tmp 69) rfl BS (.slice E2 own'.length c2) own'.length own' rfl M3.row wb.heap.size t rfl (heap_alloc_new wb _) hln hbs2 ?_;intro v' w6 hown6 hgrow6 hat6)
         have M4:=M3.app HTM.out hgrow6 hat6 hown6 hBS
         clear M3 hown6 hgrow6 hat6 bD cGb
         go_roundw
         case rel=>exact ⟨j + 1,own' ++ [t],by go_num,by omega,M4,hnwI.snoc (hnE t HTM.out),fun y hy=>(List.mem_append.1 hy).elim (h6I y) (fun hy=>by rw [List.mem_singleton] at hy;rw [hy];exact h6),by rw [List.length_append];have:=HLI.out;simp;omega,by show _=_;rw [HTK.out,←List.append_assoc,HN.out,List.map_append,hcI.out];rfl⟩
         case measure=>simp [intOf];omega
      ·have j0:decide ((j:Int) < (m:Int))=false:=by simp;omega
       have hjm2:l.take j=l:=List.take_of_length_le (by have:=M.sh.1.1;omega)
       have HE:=Lib.hid (show own'.map Sh.l=A.ownGo FE [] (A.upto x.m kk) by rw [hcI.out,hjm2,hlD,HD.out,HKK.out,A.upto_succ])
       have HLI:=Lib.hid hlI
       clear hjm2 hlI
       go_wp2_with fail
       go_roundw
       case rel=>exact ⟨kk,own',rfl,by rw [HKK.out];omega,M.row,M.ok,hnwI,h6I,M.pl,M.gr,by have:=HLI.out;have:=HKK.out;omega,HE.out⟩
       case measure=>simp [intOf];have:=HKK.out;omega
    ·have k0:decide ((k:Int) < (x.m:Int))=false:=by simp;omega
     have hkm2:k=x.m:=by omega
     have HOWN:=Lib.hid (show own.map Sh.l=A.own FE x.m by rw [hcO.out,hkm2];rfl)
     obtain ⟨E,c,rfl,hSE,hnc,hEn⟩:=own_shs hownO rfl hroO
     clear hkm2
     have F0:Fin4 w1 wk b mb gb x shs u11 B1 bl E own.length own:=⟨hown.kept hgO (.inr fun e=>(hp.away mb e).2.2.1 rfl),hbo.ext (hp.memo.ext hgO),hpO.turn (fun g h=>.inl (.inl h)),hSE,fun h0 ad e e2=>(by have h1:=(own_in hown _ e2).2;have h2:=hEn ad e;omega),fun t ht=>⟨(hroO t ht).1,fun h0 ad e e2=>(by have h1:=(own_in hown _ e2).2;have h2:=hnwO t ht h0 ad e;omega)⟩⟩
     have hB1k:B1≤wk.heap.size:=by have:=hgO.size;omega
     have hol:own.length≤384:=by omega
     have HNW:=Lib.hid (show NewL w.heap.size own from hnwO.mono (by rw [hBS];exact Nat.le_trans hWB.out hBr))
     clear hown hbo hp hownO hroO hpO hgO hSE hEn hnwO hcO hBr
     go_wp2_with fail
     clear k0
     go_loopw [11,75] (fun v11 v75 wf=>∃ (j:Nat) (bl':List BV),v75=.int .i64 j∧j≤own.length∧Fin4 w1 wf b mb gb x shs v11 B1 bl' E own.length own∧NB w bl'∧B1≤wf.heap.size∧bl'.length=bl.length + j∧Hid (bl'.map BV.pr=bl.map BV.pr ++ (own.take j).map fun t=>((s:Int),t.l,K.labs x.nd x.l sS x.r t.l))) (fun _ v75 _=>own.length - (intOf v75).toNat)
     case atStart=>exact ⟨0,bl,rfl,Nat.zero_le _,F0,hnb,hB1k,rfl,by show _=_;rw [List.take_zero,List.map_nil,List.append_nil]⟩
     case round =>
      clear F0 hB1k
      obtain ⟨j,bl',rfl,hj,F,hnf,hBf,hlb,hcb⟩:=hrel
      obtain ⟨wf,hwf⟩:∃ wf,wf=wr:=⟨_,rfl⟩
      rw [←hwf] at F hBf
      rw [←hwf]
      clear hwf
      by_cases hjn:j < own.length
      ·obtain ⟨adE,t,rfl,hg,⟨hI,hsc,hs0⟩,hc⟩:=F.sh.at_ hjn
       obtain ⟨ads,s2,hSA,hs2,-,s0,s1,s2',s3,s4,s5⟩:=F.pl.case.shifts.at_ hlt
       rw [HSS.out] at hs2
       injection hs2 with hs2
       subst hs2
       rw [hSA]
       have hAt:At wf (x.one sS):=F.pl.one (List.mem_of_getElem? HSS.out)
       have SP:∀ w8:World,Below w1.heap.size w1 w8→(fun w':World=>w'.cell? ⟨G0,0,none⟩=some (.int .i64 x.nd)∧w'.cell? ⟨G0,1,none⟩=some (.slice x.A x.n x.c)∧w'.cell? (ads.add (s * 6))=some (.int .i64 sS.day)∧w'.cell? ⟨(ads.add (s * 6)).block,(ads.add (s * 6)).off + 1,none⟩=some (.int .i64 sS.depot)∧w'.cell? ⟨(ads.add (s * 6)).block,(ads.add (s * 6)).off + 2,none⟩=some (.int .i64 sS.start)∧w'.cell? ⟨(ads.add (s * 6)).block,(ads.add (s * 6)).off + 3,none⟩=some (.int .i64 sS.end_)∧w'.cell? ⟨(ads.add (s * 6)).block,(ads.add (s * 6)).off + 4,none⟩=some (.int .i64 sS.tare)∧w'.cell? ⟨(ads.add (s * 6)).block,(ads.add (s * 6)).off + 5,none⟩=some (.slice sS.A sS.n sS.c)) w8:=fun w8 hb=>⟨(hN1.below hb).c0,(hN1.below hb).c1,(hb.cell (cell_lt s0)).trans s0,(hb.cell (cell_lt s1)).trans s1,(hb.cell (cell_lt s2')).trans s2',(hb.cell (cell_lt s3)).trans s3,(hb.cell (cell_lt s4)).trans s4,(hb.cell (cell_lt s5)).trans s5⟩
       have S0:=SP wf F.pl.bw
       have S0d:=SP wf.drew (bel F.pl.bw (Below.refl _ _).drew)
       have hbdr:Below wf.heap.size wf wf.drew:=(Below.refl _ _).drew
       have j0:decide ((j:Int) < (own.length:Int))=true:=by simp;omega
       have js:IntKind.i64.wrap ((j:Int) + 1)=((j + 1:Nat):Int):=by rw [IntWalk.i64_in _ (by omega)];omega
       have htm:=List.mem_of_getElem? hg
       have h6:=h6O t htm
       have htk:(own.take (j + 1)).map (fun t=>((s:Int),t.l,K.labs x.nd x.l sS x.r t.l))=(own.take j).map (fun t=>((s:Int),t.l,K.labs x.nd x.l sS x.r t.l)) ++ [((s:Int),t.l,K.labs x.nd x.l sS x.r t.l)]:=by rw [List.take_add_one,hg,List.map_append];rfl
       have HTK:=Lib.hid htk
       have HLB:=Lib.hid hlb
       have HSA:=Lib.hid hSA
       have hofft:OffRow t.A t.n u11:=fun h0 ad e=>(F.lk t htm).2 h0 ad e
       clear hg htk hlb hSA s0 s1 s2' s3 s4 s5
       go_upto_region 26 with fail
       have k0:(0:Int)≤(s:Int):=by omega
       have k1:(s:Int) < (x.sn:Int):=by omega
       have h69:t.n≤1000000000:=by omega
       have hvl:t.l.length≤6:=by rw [←hI.1];exact h6
       have hln:bl'.length≤1000000:=by have:=HLB.out;omega
       go_region_held3 (fun w':World=>w'.cell? ⟨G0,0,none⟩=some (.int .i64 x.nd)∧w'.cell? ⟨G0,1,none⟩=some (.slice x.A x.n x.c)∧w'.cell? (ads.add (s * 6))=some (.int .i64 sS.day)∧w'.cell? ⟨(ads.add (s * 6)).block,(ads.add (s * 6)).off + 1,none⟩=some (.int .i64 sS.depot)∧w'.cell? ⟨(ads.add (s * 6)).block,(ads.add (s * 6)).off + 2,none⟩=some (.int .i64 sS.start)∧w'.cell? ⟨(ads.add (s * 6)).block,(ads.add (s * 6)).off + 3,none⟩=some (.int .i64 sS.end_)∧w'.cell? ⟨(ads.add (s * 6)).block,(ads.add (s * 6)).off + 4,none⟩=some (.int .i64 sS.tare)∧w'.cell? ⟨(ads.add (s * 6)).block,(ads.add (s * 6)).off + 5,none⟩=some (.slice sS.A sS.n sS.c))
        (first | with_reducible exact S10 | with_reducible exact S9a | with_reducible exact S9 | with_reducible exact S0d | with_reducible exact S0 | fail)
        (first
         | (go_at_call 78;refine (labels39_new (x.one sS) t.A t.n t.c t.l _ (hAt.below hbdr) (hI.below hbdr) hsc h69).mono ?_;rintro e w9 ⟨⟨LA,ln,lc,rfl,hL9,hLn9⟩,b9⟩;have F9:=F.below (bel hbdr b9);have hB9:B1≤w9.heap.size:=Nat.le_trans hBf (bel hbdr b9).size;have a9:Below w9.heap.size w9 (w9.alloc (.cells #[.int .i64 (s:Int),.slice t.A t.n t.c,.slice LA ln lc] 90)):=(Below.refl _ _).alloc (Nat.le_refl _) _;have S9:=SP w9 F9.pl.bw;have S9a:=SP _ (F9.below a9).pl.bw;have hoL:OffRow LA ln u11:=fun h0 ad e e2=>(by have h1:=(own_in F.row _ e2).2;have h2:=hLn9 ad e;have h3:=hbdr.size;omega);have hll:ln≤384:=(by have h1:=hL9.1;have h2:(K.labs x.nd x.l sS x.r t.l).length≤384:=K.labs_len6 hvl;have h3:ln=(K.labs x.nd x.l sS x.r t.l).length:=h1;omega))
         | (refine step_app_blk rfl (.tmp 79) (.tmp 91) rfl F9.row hB9 rfl w9.heap.size ⟨s,t.A,t.n,t.c,t.l,LA,ln,lc,K.labs x.nd x.l sS x.r t.l⟩ rfl a9 (heap_alloc_new w9 _) hln ?_;intro v' w10 hown10 hgrow10 hat10;have F10:=(F9.below a9).app ⟨⟨(hI.below (bel hbdr b9)).below a9,Lst.below hL9 a9⟩,hofft,hoL,hsc,h6,hll⟩ hgrow10 hat10 hown10;have S10:=SP w10 F10.pl.bw)
         | fail)
       have hB10:B1≤w10.heap.size:=by have h1:=hgrow10.size;have h2:=a9.size;omega
       have hnf2:NB w (bl' ++ [(⟨s,t.A,t.n,t.c,t.l,LA,ln,lc,K.labs x.nd x.l sS x.r t.l⟩:BV)]):=hnf.snoc (fun h0 ad e=>HNW.out t htm h0 ad e) (fun _ ad e=>by have h1:=hLn9 ad e;have h2:=F.pl.bw.size;have h3:=hb1.size;have h4:=hbdr.size;omega)
       clear F F9 S0 S0d S9 S9a S10 SP hL9 hLn9 a9 b9 hown10 hgrow10 hat10 hbdr hAt hc hI
       go_wp2_with fail
       go_roundw
       case rel=>exact ⟨j + 1,bl' ++ [⟨s,t.A,t.n,t.c,t.l,LA,ln,lc,K.labs x.nd x.l sS x.r t.l⟩],by go_num,by omega,F10,hnf2,hB10,by rw [List.length_append,HLB.out];simp;omega,by show _=_;rw [HTK.out,←List.append_assoc,←hcb.out,List.map_append];rfl⟩
       case measure=>simp [intOf];omega
      ·have j0:decide ((j:Int) < (own.length:Int))=false:=by simp;omega
       have ks:IntKind.i64.wrap ((s:Int) + 1)=((s + 1:Nat):Int):=by rw [IntWalk.i64_in _ (by omega)];omega
       have hjn2:own.take j=own:=List.take_of_length_le (by omega)
       have HNX:=Lib.hid (show bl'.map BV.pr=K.blksUpto x.nd x.l x.ss x.r (s + 1) by
        rw [K.blksUpto_succ,←hcl.out,hcb.out,hjn2,←HRN.out,←HFE.out,←HOWN.out,List.map_map]
        congr 1
        refine List.map_congr_left fun t _=>?_
        show _=((s:Int),t.l,_)
        rw [HSS.out])
       have HLB:=Lib.hid hlb
       clear hjn2 hlb
       go_wp2_with fail
       go_roundw
       case rel=>exact ⟨s + 1,bl',by go_num,hlt,F.row,F.ok,hnf,F.pl,hBf,by have:=HLB.out;omega,HNX.out⟩
       case measure=>simp [intOf];omega
  ·have hse:s=x.ss.length:=by have:=HSN.out;omega
   have j0:decide ((s:Int) < (x.sn:Int))=false:=by simp;omega
   obtain ⟨A9,c9,rfl,hRd,hF9⟩:=own_form hown
   have hnc9:bl.length≤c9:=by
    obtain ⟨-,⟨e,e0⟩ | ⟨g',cap,cur,e,-,-,h9,-⟩⟩:=hown
    ·rw [e0];exact Nat.zero_le _
    ·injection e with e1 e2 e3;rw [e3];exact h9
   have HB:=Lib.hid (show bl.map BV.pr=(K.refute x.nd x.l x.ss x.r).1.map fun b=>((b.1:Int),b.2) by rw [HR.out,K.blksUpto_all,←hse];exact hcl.out)
   have HX:=Lib.hid (show (K.refute x.nd x.l x.ss x.r).2=0 by rw [HR.out])
   have hbn:bl.length≤1000000000:=by omega
   clear hse hown
   go_wp2_with fail
   go_ret2
   rw [HX.out]
   exact ⟨⟨A9,bl.length,c9,bl,rfl,⟨⟨rfl,hRd⟩,fun y hy=>(hbo y hy).1⟩,hnc9,⟨hbn,fun y hy=>by obtain ⟨-,-,-,h1,h2,h3⟩:=hbo y hy;exact ⟨h1,by omega,by omega⟩⟩,HB.out,fun ad e=>Nat.le_trans hWB.out (hF9 _ (by rw [e];rfl)).1,hnb⟩,bel hb1 hp.bw⟩
theorem refute32_any (x:Cs) (w:World) (hx:CsAt w x) :
  Calls Tryz.prog 22 #[.agg #[.int .i64 x.nd,.slice x.A x.n x.c],.slice x.SA x.sn x.sc,.slice x.B x.m x.d] w fun e w'=>RetRefute w w' ((K.refute x.nd x.l x.ss x.r).1.map fun b=>((b.1:Int),b.2)) (K.refute x.nd x.l x.ss x.r).2 e :=
 (refute32X x w hx).mono fun _ _ ⟨⟨A,n,c,bl,h1,h2,h3,h4,h5,_,_⟩,hb⟩=>⟨⟨A,n,c,bl,h1,h2,h3,h4,h5⟩,hb⟩
end Go.Proofs.YtippdjmpkafifaaGreat
