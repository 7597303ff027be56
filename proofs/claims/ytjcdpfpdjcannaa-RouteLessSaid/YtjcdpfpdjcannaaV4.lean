/-
Routes: a part of a set, with its capacity.
-/
import Derived.Test.YtjcdpfpdjcannaaPH
namespace Go.Proofs.Ytjcdpfpdjcannaa
open Go.RowKit

def RetIntsC (w w' : World) (l : List Int) (e : Ending) : Prop := (∃ A n c, e = .returned (.slice A n c) ∧ Ints w' A n l ∧ n ≤ c) ∧ Below w.heap.size w w'
theorem own_cap {w : World} {base : Nat} {e : TypeId} {size n m : Nat} {A : Option Addr} {c : Nat} {xs : List Value} (h : w.ownsRow base e size (.slice A n c) m xs) : m ≤ c := by
  obtain ⟨-, ⟨h1, h2⟩ | ⟨g, cap, cur, h1, -, -, h2, -⟩⟩ := h
  · omega
  · injection h1 with _ _ h1
    omega

set_option maxRecDepth 100000 in
set_option maxHeartbeats 8000000 in
theorem part31c_any (A : Option Addr) (n c : Nat) (l : List Int) (m : Nat) (w : World) (hl : Ints w A n l) (hn : n ≤ 8) (hm : m < 256) :
    Calls Try.prog 35 #[.slice A n c, .int .i64 m] w fun e w' => RetIntsC w w' (K.part l m) e := by
  have HLN := Lib.hid hl.1
  go_enter Try.func35, Try.ntmps35
  go_wp2_with fail
  go_loopw [5, 6] (fun v5 v6 wr => ∃ (k : Nat), v6 = .int .i64 k ∧ k ≤ n ∧ wr.ownsRow w.heap.size 3 1 v5 (K.part (l.take k) m).length (intCells (K.part (l.take k) m)) ∧ Below w.heap.size w wr) (fun _ v6 _ => n - (intOf v6).toNat)
  case atStart => exact ⟨0, rfl, by omega, World.ownsRow_nil _ _ _ _, Below.refl _ _⟩
  case round =>
    obtain ⟨k, rfl, hk, hown, hbr⟩ := hrel
    by_cases hlt : k < n
    · obtain ⟨adv, i, rfl, hi, ci⟩ := (hl.below hbr).at_ hlt
      have k0 : (0 : Int) ≤ (k : Int) := by omega
      have k1 : (k : Int) < (n : Int) := by omega
      have HT := Lib.hid (take_snoc hi)
      have HTL := Lib.hid (show (l.take k).length = k by rw [List.length_take, ← HLN.out]; omega)
      have hpl : (K.part (l.take k) m).length ≤ 8 := by have := K.part_len (l.take k) m; rw [HTL.out] at this; omega
      clear hi
      cases hbit : m.testBit k
      · have hb1 : bits BinOp.and IntKind.i64 ((m : Int) / 2 ^ k) 1 = 0 := by rw [bit_at hm (by omega), hbit]; rfl
        have HN := Lib.hid (show K.part (l.take (k + 1)) m = K.part (l.take k) m by rw [HT.out, K.part_snoc, HTL.out, hbit]; simp)
        clear hbit
        go_wp2_with fail
        go_roundw
        case rel => exact ⟨k + 1, by go_num, by omega, by rw [HN.out]; exact hown, hbr⟩
        case measure => simp [intOf]; omega
      · have hb1 : bits BinOp.and IntKind.i64 ((m : Int) / 2 ^ k) 1 = 1 := by rw [bit_at hm (by omega), hbit]; rfl
        have HN := Lib.hid (show K.part (l.take (k + 1)) m = K.part (l.take k) m ++ [i] by rw [HT.out, K.part_snoc, HTL.out, hbit]; simp)
        have ha : Below wr.heap.size wr (wr.alloc (.cells #[.int .i64 i] 3)) := (Below.refl _ _).alloc (Nat.le_refl _) _
        have hown2 := own_below hown ha
        have hs2 : w.heap.size ≤ (wr.alloc (.cells #[.int .i64 i] 3)).heap.size := Nat.le_trans hbr.size ha.size
        clear hbit
        go_wp2_with (at_builtin; refine app_int rfl (.tmp 18) (.tmp 23) rfl w.heap.size u5 (K.part (l.take k) m).length (K.part (l.take k) m) rfl hown2 wr.heap.size i rfl (heap_alloc_at _ _ _ rfl) (by omega) hs2 ?_; intro tv' w6 hown6 hgrow6 hat6)
        have b6 := below_own2 (bel hbr ha) hgrow6 (fun g e => (hown.lt g e).1)
        have HS := Lib.hid (show (K.part (l.take k) m).length + 1 = (K.part (l.take (k + 1)) m).length by rw [HN.out, List.length_append]; rfl)
        rw [← HN.out, HS.out] at hown6
        clear hgrow6 hat6 hown2 hown
        go_roundw
        case rel => exact ⟨k + 1, by go_num, by omega, hown6, b6⟩
        case measure => simp [intOf]; omega
    · have HN := Lib.hid (show l.take k = l by exact List.take_of_length_le (by rw [← HLN.out]; omega))
      rw [HN.out] at hown
      obtain ⟨A9, c9, rfl, hRd, -⟩ := own_form hown
      have hI : Ints wr A9 (K.part l m).length (K.part l m) := ⟨rfl, hRd⟩
      have hcap := own_cap hown
      go_wp2_with fail
      go_ret
      exact ⟨⟨_, _, _, rfl, hI, hcap⟩, hbr⟩
end Go.Proofs.Ytjcdpfpdjcannaa
