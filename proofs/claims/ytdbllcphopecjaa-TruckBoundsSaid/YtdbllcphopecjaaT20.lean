/-
An append of one number to a list of one's own; the walk of turned.
-/
import Derived.Test.YtdbllcphopecjaaT19
namespace Go.Proofs.Ytdbllcphopecjaa
open Go.RowKit Go.Maps

theorem intCells_app (l m : List Int) : intCells (l ++ m) = intCells l ++ intCells m := by simp [intCells]

theorem app_int {ops : Array Oper} {rest : List Oper} {o : Oper} {a : Act} {Q : Exit → Act → World → Prop} {w : World} (hgd : o.guard = none) (s x : Operand)
    (ho : o.op = .call { callee := .builtin .append, args := #[s, x], argTypes := #[22, 22] })
    (base : Nat) (v : Value) (n : Nat) (l : List Int) (hs : a.eval s = v) (hown : w.ownsRow base 3 1 v n (intCells l)) (g : Nat) (p : Int) (hx : a.eval x = .slice (some ⟨g, 0, none⟩) 1 1)
    (hg : w.heap[g]? = some (.cells #[.int .i64 p] 3 (0, 0))) (hn : n ≤ 1000000) (hbase : base ≤ w.heap.size)
    (h : ∀ v' w', w'.ownsRow base 3 1 v' (n + 1) (intCells (l ++ [p])) → w.grownBy w' v.ownBlock → (v'.ownBlock = v.ownBlock ∨ v'.ownBlock = some w.heap.size) → wpList Try.prog ops Q rest (a.put o.dst v') w') :
    wpList Try.prog ops Q (o :: rest) a w := by
  obtain ⟨i0, hi, hz0, hz1, hz2⟩ := info_parts Try.info3
  refine wpList_append_own_at w hgd s x 22 ho base 3 i0 (.int .i64 0) 1 8 Try.underlying22 hi hz0 hz1 hz2 rfl (by decide) v n (intCells l) hs hown ⟨g, 0, none⟩ 1 1 [.int .i64 p] hx rfl ?_ ?_ ?_ ?_ hbase ?_
  · intro j u hu
    rw [add_zero_block]
    exact blk_cell hg j u (by simpa using hu)
  · intro u hu
    simp at hu
    subst hu; rfl
  · simp only [maxLen]; omega
  · omega
  · intro v' w' h2 h3 _ h5
    exact h v' w' (by rw [intCells_app]; exact h2) h3 h5

set_option maxHeartbeats 4000000 in
theorem turned_any (A : Option Addr) (n c : Nat) (l : List Int) (w : World) (hl : Ints w A n l) (hn : n ≤ 1000) :
    Calls Try.prog 26 #[.slice A n c] w fun e w' => (∃ A' c', e = .returned (.slice A' n c') ∧ Ints w' A' n l.reverse) ∧ Below w.heap.size w w' := by
  go_enter Try.func26, Try.ntmps26
  go_wp2_with fail
  go_loopw [3, 4] (fun v vi wr => ∃ k : Nat, vi = .int .i64 ((n : Int) - 1 - k) ∧ k ≤ n ∧ wr.ownsRow w.heap.size 3 1 v k (intCells (l.reverse.take k)) ∧ Below w.heap.size w wr) (fun _ vi _ => (intOf vi + 1).toNat)
  case atStart => exact ⟨0, by simp, by omega, World.ownsRow_nil _ _ _ _, Below.refl _ _⟩
  case round =>
    obtain ⟨k, rfl, hk, hown, hb⟩ := hrel
    by_cases hlt : k < n
    · obtain ⟨ad, x, rfl, hx, c0⟩ := (hl.below hb).at_ (show n - 1 - k < n by omega)
      have HR := Lib.hid (show l.reverse.take (k + 1) = l.reverse.take k ++ [x] by
        have hlen := hl.1
        rw [List.take_add_one, List.getElem?_reverse (by omega), show l.length - 1 - k = n - 1 - k by omega, hx]; rfl)
      have hi : (n : Int) - 1 - k = ((n - 1 - k : Nat) : Int) := by omega
      rw [hi]
      generalize hj : n - 1 - k = j at *
      clear hx
      go_wp2_with (at_builtin; refine app_int rfl (.tmp 12) (.tmp 17) rfl w.heap.size _ _ _ rfl (hown.alloc _) wr.heap.size x rfl (heap_alloc_at _ _ _ rfl) (by omega) (by have := hb.size; simp; omega) ?_; intro v' w4 hown4 hgrow4 hat4)
      have hb4 : Below w.heap.size w w4 := hb.trans (below_own ((Below.refl _ _).alloc hb.size _) hb.size hgrow4 (fun g h => (hown.lt g h).1))
      clear hgrow4 hat4
      go_roundw
      case rel => exact ⟨k + 1, by congr 1; omega, by omega, by rw [HR.out]; exact hown4, hb4⟩
      case measure => simp [intOf]
    · have hk' : n = k := by omega
      subst hk'
      rw [List.take_of_length_le (by rw [List.length_reverse, ← hl.1]; omega)] at hown
      have hi : (n : Int) - 1 - n = -1 := by omega
      rw [hi]
      obtain ⟨A', c', rfl, hI⟩ := own_ints hown (by rw [List.length_reverse, ← hl.1])
      go_wp2_with fail
      go_ret
      exact ⟨⟨_, _, rfl, hI⟩, hb⟩
end Go.Proofs.Ytdbllcphopecjaa
