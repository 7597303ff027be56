/-
The map of Loads: the numbers that were seen.
-/
import Derived.Test.YtdbllcphopecjaaT12
import Derived.Maps.OwnSet
namespace Go
open Go.Maps (Keyed)
theorem plainElem_bool_inv {H : Type} {P : Program} {e : TypeId} (he : P.underlying e = some .bool) {v : Value} {z : DataW H × List MemPlace} (h : plainElem P e v = some z) : ∃ x, v = .bool x ∧ z = (.lit (.bool x), []) := by
  unfold plainElem at h
  rw [he] at h
  cases v <;> simp at h
  subst h
  exact ⟨_, rfl, rfl⟩

/-- 'm[k]' (without 'ok') at elements that are yes or no. -/
theorem wpList_lookup_own_bool {H : Type} {P : Program} (w : World) {ops : Array Oper} {rest : List Oper} {o : Oper} {a : Act} {Q : Exit → Act → World → Prop}
    (hg : o.guard = none) (m x : Operand) (t : TypeId) (hop : o.op = Op.lookup t m x false)
    (k e : TypeId) (K : Keyed P k) (ht : P.underlying t = some (.map k e)) (he : P.underlying e = some .bool) (hz : (zeroValue e).run P w = .ok (.bool false) w) (b n : Nat) (D : DataW H)
    (hm : a.eval m = .map (some b)) (hown : w.ownsMap P k (plainElem P e) b n D) (key : Value) (kl : Lit) (hx : a.eval x = key) (hkey : keyOf P k key = some kl)
    (hK : ∀ c : Bool, D.atKey kl (.lit (.bool false)) = .lit (.bool c) → wpList P ops Q rest (a.put o.dst (.bool c)) w) :
    wpList P ops Q (o :: rest) a w := by
  refine wpList_plain hg fun K' hK' => ?_
  obtain ⟨v, ps, hrun, hv⟩ := hown.lookup K ht hz (plainElem_bool he false) hkey
  obtain ⟨c, rfl, hc⟩ := plainElem_bool_inv he hv
  simp only [Prod.mk.injEq] at hc
  unfold Oper.wp
  simp [execOp, hop, hm, hx, hrun, Result.andThen]
  exact hK' _ _ (hK c hc.1)

/-- .. as an equation. -/
theorem World.ownsMap.lookup_bool {H : Type} {P : Program} {w : World} {k t e : TypeId} {b n : Nat} {D : DataW H} (h : w.ownsMap P k (plainElem P e) b n D) (K : Keyed P k) (ht : P.underlying t = some (.map k e)) (he : P.underlying e = some .bool) (hz : (zeroValue e).run P w = .ok (.bool false) w)
    {key : Value} {kl : Lit} (hkey : keyOf P k key = some kl) : ∃ c, (Instr.lookup t (.map (some b)) key false).run P w = .ok (.bool c) w ∧ D.atKey kl (.lit (.bool false)) = .lit (.bool c) := by
  obtain ⟨v, ps, hrun, hv⟩ := h.lookup K ht hz (plainElem_bool he false) hkey
  obtain ⟨c, rfl, hc⟩ := plainElem_bool_inv he hv
  simp only [Prod.mk.injEq] at hc
  exact ⟨c, hrun, hc.1⟩
end Go
namespace Go.Proofs.Ytdbllcphopecjaa
open Go.RowKit Go.Maps

/-- The map that holds 'true' at the numbers of a list. -/
def seen (l : List Int) : DataW Unit := setOf (.lit (.bool true)) (l.map (Lit.int .i64))

theorem seen_nil : seen [] = .map [] := rfl
theorem seen_snoc (l : List Int) (x : Int) : seen (l ++ [x]) = (seen l).put (.int .i64 x) (.lit (.bool true)) := by
  unfold seen; rw [List.map_append, List.map_singleton, setOf_snoc]

theorem atKey_fold (x : Int) : ∀ (l : List Int) (m : DataW Unit), IsMap m → ((l.map (Lit.int .i64)).foldl (fun m x => m.put x (.lit (.bool true))) m).atKey (.int .i64 x) (.lit (.bool false)) = if l.any (· == x) then .lit (.bool true) else m.atKey (.int .i64 x) (.lit (.bool false)) := by
  intro l
  induction l with
  | nil => intro m _; rfl
  | cons y l ih =>
    intro m hm
    rw [List.map_cons, List.foldl_cons, ih _ (hm.put _ _), List.any_cons]
    by_cases hy : y = x
    · subst hy
      rw [atKey_put_same hm (by trivial)]
      simp
    · rw [atKey_put_other (by intro e; injection e with _ e; exact hy e.symm), show (y == x) = false by simpa using hy, Bool.false_or]

theorem seen_at (l : List Int) (x : Int) : (seen l).atKey (.int .i64 x) (.lit (.bool false)) = .lit (.bool (l.any (· == x))) := by
  unfold seen setOf
  rw [atKey_fold x l _ isMap_empty]
  cases l.any (· == x) <;> rfl

theorem law3 : Keyed Try.prog 3 := int_keyed Try.underlying3
theorem zero4 (w : World) : (zeroValue 4).run Try.prog w = .ok (.bool false) w := by kernel_rfl

/-- The block b is a map that says of each number whether it is on the list. -/
def Seen (w : World) (b n : Nat) (l : List Int) : Prop := w.ownsMap Try.prog 3 (plainElem Try.prog 4) b n (seen l)

theorem Seen.look {w : World} {b n : Nat} {l : List Int} (h : Seen w b n l) (x : Int) (hx : (Lit.int .i64 x).wf = true) : (Instr.lookup 58 (.map (some b)) (.int .i64 x) false).run Try.prog w = .ok (.bool (l.any (· == x))) w := by
  obtain ⟨c, hr, hat⟩ := World.ownsMap.lookup_bool (t := 58) h law3 Try.underlying58 Try.underlying4 (zero4 w) (keyOf_int_mk Try.underlying3 hx)
  rw [seen_at] at hat
  injection hat with hat; injection hat with hat; rw [hr, hat]
theorem Seen.below {w w' : World} {b n : Nat} {l : List Int} (h : Seen w b n l) (hb : Below w.heap.size w w') : Seen w' b n l := h.kept (row := none) ⟨hb.os, hb.tape, hb.output, hb.size, fun i hi _ => hb.block i hi⟩ (by simp)
theorem Seen.set {w : World} {b n : Nat} {l : List Int} (h : Seen w b n l) {a : Addr} (ha : b ≠ a.block) (u : Value) : Seen (w.setCell a u) b n l := h.setCell ha u
end Go.Proofs.Ytdbllcphopecjaa
