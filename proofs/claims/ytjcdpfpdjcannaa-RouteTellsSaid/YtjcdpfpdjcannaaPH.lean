/-
Routes: parts and labels by their numbers, as the statements read them.
-/
import Derived.Test.YtjcdpfpdjcannaaPG
namespace Go.Proofs.Ytjcdpfpdjcannaa
open Go.RowKit

set_option maxRecDepth 100000 in
set_option maxHeartbeats 8000000 in
theorem part31_any (A : Option Addr) (n c : Nat) (l : List Int) (m : Nat) (w : World) (hl : Ints w A n l) (hn : n ≤ 8) (hm : m < 256) :
    Calls Try.prog 35 #[.slice A n c, .int .i64 m] w fun e w' => RetInts w w' (K.part l m) e := by
  have HLN := Lib.hid hl.1
  go_enter Try.func35, Try.ntmps35
  go_wp2_with fail
  go_loopw [5, 6] (fun v5 v6 wr => ∃ (k : Nat), v6 = .int .i64 k ∧ k ≤ n ∧ wr.ownsRow w.heap.size 3 1 v5 (K.part (l.take k) m).length (intCells (K.part (l.take k) m)) ∧ Below w.heap.size w wr) (fun _ v6 _ => n - (intOf v6).toNat)
  case atStart => exact ⟨0, rfl, by omega, World.ownsRow_nil _ _ _ _, Below.refl _ _⟩
  case round =>
    obtain ⟨k, rfl, hk, hown, hbr⟩ := hrel
    by_cases hlt : k < n
    · obtain ⟨adv, i, rfl, hi, ci⟩ := (hl.below hbr).at_ hlt
      have k0 : (0 : Int) ≤ (k : Int) := by omega
      have k1 : (k : Int) < (n : Int) := by omega
      have HT := Lib.hid (take_snoc hi)
      have HTL := Lib.hid (show (l.take k).length = k by rw [List.length_take, ← HLN.out]; omega)
      have hpl : (K.part (l.take k) m).length ≤ 8 := by have := K.part_len (l.take k) m; rw [HTL.out] at this; omega
      clear hi
      cases hbit : m.testBit k
      · have hb1 : bits BinOp.and IntKind.i64 ((m : Int) / 2 ^ k) 1 = 0 := by rw [bit_at hm (by omega), hbit]; rfl
        have HN := Lib.hid (show K.part (l.take (k + 1)) m = K.part (l.take k) m by rw [HT.out, K.part_snoc, HTL.out, hbit]; simp)
        clear hbit
        go_wp2_with fail
        go_roundw
        case rel => exact ⟨k + 1, by go_num, by omega, by rw [HN.out]; exact hown, hbr⟩
        case measure => simp [intOf]; omega
      · have hb1 : bits BinOp.and IntKind.i64 ((m : Int) / 2 ^ k) 1 = 1 := by rw [bit_at hm (by omega), hbit]; rfl
        have HN := Lib.hid (show K.part (l.take (k + 1)) m = K.part (l.take k) m ++ [i] by rw [HT.out, K.part_snoc, HTL.out, hbit]; simp)
        have ha : Below wr.heap.size wr (wr.alloc (.cells #[.int .i64 i] 3)) := (Below.refl _ _).alloc (Nat.le_refl _) _
        have hown2 := own_below hown ha
        have hs2 : w.heap.size ≤ (wr.alloc (.cells #[.int .i64 i] 3)).heap.size := Nat.le_trans hbr.size ha.size
        clear hbit
        go_wp2_with (at_builtin; refine app_int rfl (.tmp 18) (.tmp 23) rfl w.heap.size u5 (K.part (l.take k) m).length (K.part (l.take k) m) rfl hown2 wr.heap.size i rfl (heap_alloc_at _ _ _ rfl) (by omega) hs2 ?_; intro tv' w6 hown6 hgrow6 hat6)
        have b6 := below_own2 (bel hbr ha) hgrow6 (fun g e => (hown.lt g e).1)
        have HS := Lib.hid (show (K.part (l.take k) m).length + 1 = (K.part (l.take (k + 1)) m).length by rw [HN.out, List.length_append]; rfl)
        rw [← HN.out, HS.out] at hown6
        clear hgrow6 hat6 hown2 hown
        go_roundw
        case rel => exact ⟨k + 1, by go_num, by omega, hown6, b6⟩
        case measure => simp [intOf]; omega
    · have HN := Lib.hid (show l.take k = l by exact List.take_of_length_le (by rw [← HLN.out]; omega))
      rw [HN.out] at hown
      obtain ⟨A9, c9, rfl, hI⟩ := own_ints hown rfl
      go_wp2_with fail
      go_ret
      exact ⟨⟨_, _, _, rfl, hI⟩, hbr⟩

namespace K
/-- The minute of the label with these numbers, or -1. -/
def atLab (bits last : Int) : List Lb → Int
  | [] => -1
  | x :: l => if x.set = bits ∧ x.last = last then x.time else atLab bits last l
theorem atLab_drop {bits last : Int} {l : List Lb} {k : Nat} {x : Lb} (h : l[k]? = some x) : atLab bits last (l.drop k) = if x.set = bits ∧ x.last = last then x.time else atLab bits last (l.drop (k + 1)) := by
  obtain ⟨hk, e⟩ := List.getElem?_eq_some_iff.1 h
  rw [List.drop_eq_getElem_cons hk, e]
  rfl
end K

set_option maxHeartbeats 4000000 in
theorem at31_any (A : Option Addr) (n c : Nat) (l : List Lb) (bits last : Int) (w : World) (hl : Labs w A n l) (hn : n ≤ 1000000000) :
    Calls Try.prog 36 #[.slice A n c, .int .i64 bits, .int .i64 last] w fun e w' => e = .returned (.int .i64 (K.atLab bits last l)) ∧ Below w.heap.size w w' := by
  go_enter Try.func36, Try.ntmps36
  go_wp2_with fail
  go_loopw [7] (fun vi wr => ∃ k : Nat, vi = .int .i64 k ∧ k ≤ n ∧ Hid (K.atLab bits last l = K.atLab bits last (l.drop k)) ∧ Below w.heap.size w wr) (fun vi _ => n - (intOf vi).toNat)
  case atStart => exact ⟨0, rfl, by omega, by show _ = _; rw [List.drop_zero], Below.refl _ _⟩
  case round =>
    obtain ⟨k, rfl, hk, hr, hb⟩ := hrel
    by_cases hlt : k < n
    · obtain ⟨ad, x, rfl, hg, c0, c1, c2⟩ := Labs.at_ (Lst.below hl hb) hlt
      have HS := Lib.hid (hr.out.trans (K.atLab_drop (bits := bits) (last := last) hg))
      have k0 : (0 : Int) ≤ (k : Int) := by omega
      have k1 : (k : Int) < (n : Int) := by omega
      clear hg hr
      cases e1 : (x.set == bits)
      · have HX := Lib.hid (show K.atLab bits last l = K.atLab bits last (l.drop (k + 1)) by rw [HS.out, if_neg (fun h => by rw [h.1] at e1; simp at e1)])
        go_wp2_with fail
        go_roundw
        case rel => exact ⟨k + 1, by go_num, by omega, HX.out, hb⟩
        case measure => simp [intOf]; omega
      cases e2 : (x.last == last)
      · have HX := Lib.hid (show K.atLab bits last l = K.atLab bits last (l.drop (k + 1)) by rw [HS.out, if_neg (fun h => by rw [h.2] at e2; simp at e2)])
        go_wp2_with fail
        go_roundw
        case rel => exact ⟨k + 1, by go_num, by omega, HX.out, hb⟩
        case measure => simp [intOf]; omega
      have HX := Lib.hid (show K.atLab bits last l = x.time by rw [HS.out, if_pos ⟨by simpa using e1, by simpa using e2⟩])
      go_wp2_with fail
      go_ret
      exact ⟨by rw [HX.out]; rfl, hb⟩
    · have HX := Lib.hid (show K.atLab bits last l = -1 by rw [hr.out, List.drop_eq_nil_of_le (by rw [← hl.1]; omega)]; rfl)
      go_wp2_with fail
      go_ret
      exact ⟨by rw [HX.out]; rfl, hb⟩
end Go.Proofs.Ytjcdpfpdjcannaa
