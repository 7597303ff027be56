/-
The walk of part.
-/
import Derived.Test.YtdbllcphopecjaaT20
namespace Go.Proofs.Ytdbllcphopecjaa
open Go.RowKit Go.Maps
namespace T
def bit (b : Int) (k : Nat) : Bool := Go.bits BinOp.and IntKind.i64 (b / 2 ^ min k 64) 1 == 1
def partFrom (b : Int) (ch : Bool) : Nat → List Int → List Int
  | _, [] => []
  | i, x :: l => if bit b i = ch then x :: partFrom b ch (i + 1) l else partFrom b ch (i + 1) l
end T

theorem T.part_snoc (b : Int) (ch : Bool) (x : Int) : ∀ (a : List Int) (i : Nat), T.partFrom b ch i (a ++ [x]) = T.partFrom b ch i a ++ (if T.bit b (i + a.length) = ch then [x] else []) := by
  intro a
  induction a with
  | nil => intro i; simp [T.partFrom]
  | cons y a ih =>
    intro i
    simp only [List.cons_append, T.partFrom, ih, List.length_cons]
    rw [show i + 1 + a.length = i + (a.length + 1) by omega]
    split <;> simp

theorem T.part_next {b : Int} {ch : Bool} {l : List Int} {k : Nat} {x : Int} (h : l[k]? = some x) : T.partFrom b ch 0 (l.take (k + 1)) = T.partFrom b ch 0 (l.take k) ++ (if T.bit b k = ch then [x] else []) := by
  obtain ⟨hk, e⟩ := List.getElem?_eq_some_iff.1 h
  rw [List.take_succ_eq_append_getElem hk, e, T.part_snoc, List.length_take, Nat.min_eq_left (by omega), Nat.zero_add]

theorem T.part_len (b : Int) (ch : Bool) : ∀ (l : List Int) (i : Nat), (T.partFrom b ch i l).length ≤ l.length := by
  intro l
  induction l with
  | nil => intro i; simp [T.partFrom]
  | cons x l ih =>
    intro i
    have := ih (i + 1)
    simp only [T.partFrom]
    split <;> simp <;> omega

set_option maxHeartbeats 4000000 in
theorem part_any (A : Option Addr) (n c : Nat) (l : List Int) (bits : Int) (chosen : Bool) (w : World) (hl : Ints w A n l) (hn : n ≤ 1000) (_ : 0 ≤ bits) (_ : bits ≤ 65535) :
    Calls Try.prog 25 #[.slice A n c, .int .i64 bits, .bool chosen] w fun e w' => (∃ A' n' c', e = .returned (.slice A' n' c') ∧ Ints w' A' n' (T.partFrom bits chosen 0 l)) ∧ Below w.heap.size w w' := by
  go_enter Try.func25, Try.ntmps25
  go_wp2_with fail
  go_loopw [7, 8] (fun v vi wr => ∃ k n' : Nat, vi = .int .i64 k ∧ k ≤ n ∧ n' = (T.partFrom bits chosen 0 (l.take k)).length ∧ wr.ownsRow w.heap.size 3 1 v n' (intCells (T.partFrom bits chosen 0 (l.take k))) ∧ Below w.heap.size w wr) (fun _ vi _ => n - (intOf vi).toNat)
  case atStart => exact ⟨0, 0, rfl, by omega, rfl, World.ownsRow_nil _ _ _ _, Below.refl _ _⟩
  case round =>
    obtain ⟨k, n', rfl, hk, hn', hown, hb⟩ := hrel
    by_cases hlt : k < n
    · obtain ⟨ad, x, rfl, hx, c0⟩ := (hl.below hb).at_ hlt
      have HR := Lib.hid (T.part_next (b := bits) (ch := chosen) hx)
      have hle : n' ≤ k := by
        have h1 := T.part_len bits chosen (l.take k) 0
        rw [List.length_take] at h1
        omega
      clear hx
      cases hbit : T.bit bits k <;> cases chosen
      all_goals
        have HB := Lib.hid hbit
        have hbt : (Go.bits BinOp.and IntKind.i64 (bits / 2 ^ min k 64) 1 == 1) = _ := hbit
        clear hbit
      · have HX := Lib.hid (show T.partFrom bits false 0 (l.take (k + 1)) = T.partFrom bits false 0 (l.take k) ++ [x] by rw [HR.out, HB.out]; rfl)
        go_wp2_with (at_builtin; refine app_int rfl (.tmp 22) (.tmp 27) rfl w.heap.size _ _ _ rfl (hown.alloc _) wr.heap.size x rfl (heap_alloc_at _ _ _ rfl) (by omega) (by have := hb.size; simp; omega) ?_; intro v' w4 hown4 hgrow4 hat4)
        have hb4 : Below w.heap.size w w4 := hb.trans (below_own ((Below.refl _ _).alloc hb.size _) hb.size hgrow4 (fun g h => (hown.lt g h).1))
        clear hgrow4 hat4
        go_roundw
        case rel => exact ⟨k + 1, n' + 1, by go_num, by omega, by rw [HX.out, List.length_append, ← hn']; rfl, by rw [HX.out]; exact hown4, hb4⟩
        case measure => simp [intOf]; omega
      · have HX := Lib.hid (show T.partFrom bits true 0 (l.take (k + 1)) = T.partFrom bits true 0 (l.take k) by rw [HR.out, HB.out]; simp)
        go_wp2_with fail
        go_roundw
        case rel => exact ⟨k + 1, n', by go_num, by omega, by rw [HX.out]; exact hn', by rw [HX.out]; exact hown, hb⟩
        case measure => simp [intOf]; omega
      · have HX := Lib.hid (show T.partFrom bits false 0 (l.take (k + 1)) = T.partFrom bits false 0 (l.take k) by rw [HR.out, HB.out]; simp)
        go_wp2_with fail
        go_roundw
        case rel => exact ⟨k + 1, n', by go_num, by omega, by rw [HX.out]; exact hn', by rw [HX.out]; exact hown, hb⟩
        case measure => simp [intOf]; omega
      · have HX := Lib.hid (show T.partFrom bits true 0 (l.take (k + 1)) = T.partFrom bits true 0 (l.take k) ++ [x] by rw [HR.out, HB.out]; rfl)
        go_wp2_with (at_builtin; refine app_int rfl (.tmp 22) (.tmp 27) rfl w.heap.size _ _ _ rfl (hown.alloc _) wr.heap.size x rfl (heap_alloc_at _ _ _ rfl) (by omega) (by have := hb.size; simp; omega) ?_; intro v' w4 hown4 hgrow4 hat4)
        have hb4 : Below w.heap.size w w4 := hb.trans (below_own ((Below.refl _ _).alloc hb.size _) hb.size hgrow4 (fun g h => (hown.lt g h).1))
        clear hgrow4 hat4
        go_roundw
        case rel => exact ⟨k + 1, n' + 1, by go_num, by omega, by rw [HX.out, List.length_append, ← hn']; rfl, by rw [HX.out]; exact hown4, hb4⟩
        case measure => simp [intOf]; omega
    · rw [List.take_of_length_le (by rw [← hl.1]; omega)] at hown hn'
      obtain ⟨A', c', rfl, hI⟩ := own_ints hown hn'
      go_wp2_with fail
      go_ret
      exact ⟨⟨_, _, _, rfl, hI⟩, hb⟩
end Go.Proofs.Ytdbllcphopecjaa
