/-
Routes: parts of a set, and the contract of planner.part.
-/
import Derived.Test.YtippdjmpkafifaaP2
namespace Go.Proofs.Ytippdjmpkafifaa
open Go.RowKit

namespace K
/-- A part of a set. -/
def part : List Int → Nat → List Int
  | [], _ => []
  | i :: r, m => if m.testBit 0 = true then i :: part r (m / 2) else part r (m / 2)
theorem part_snoc (i : Int) : ∀ (l : List Int) (m : Nat), part (l ++ [i]) m = part l m ++ if m.testBit l.length = true then [i] else []
  | [], m => by simp [part]
  | j :: r, m => by
    have ih := part_snoc i r (m / 2)
    have hb : m.testBit (r.length + 1) = (m / 2).testBit r.length := Nat.testBit_succ _ _
    simp only [List.cons_append, part, List.length_cons, ih, hb]
    split <;> simp
theorem part_len : ∀ (l : List Int) (m : Nat), (part l m).length ≤ l.length
  | [], _ => Nat.le_refl _
  | j :: r, m => by
    have ih := part_len r (m / 2)
    simp only [part, List.length_cons]
    split <;> simp <;> omega
theorem part_sub : ∀ (l : List Int) (m : Nat), (part l m).Sublist l
  | [], _ => List.Sublist.refl _
  | j :: r, m => by
    have ih := part_sub r (m / 2)
    simp only [part]
    split
    · exact ih.cons_cons _
    · exact ih.cons _
end K

theorem bit_at_all : ∀ m : Fin 256, ∀ k : Fin 8, bits .and .i64 ((m.val : Int) / 2 ^ k.val) 1 = if m.val.testBit k.val = true then 1 else 0 := by decide +kernel
theorem bit_not_all : ∀ m : Fin 64, ∀ k : Fin 6, m.val.testBit k.val = true → bits .andNot .i64 (m.val : Int) (2 ^ k.val) = ((m.val - 2 ^ k.val : Nat) : Int) := by decide +kernel
theorem bit_or_all : ∀ m : Fin 64, ∀ k : Fin 6, m.val.testBit k.val = false → bits .or .i64 (m.val : Int) (2 ^ k.val) = ((m.val + 2 ^ k.val : Nat) : Int) := by decide +kernel
theorem bit_at {m k : Nat} (hm : m < 256) (hk : k < 8) : bits .and .i64 ((m : Int) / 2 ^ k) 1 = if m.testBit k = true then 1 else 0 := bit_at_all ⟨m, hm⟩ ⟨k, hk⟩
theorem bit_not {m k : Nat} (hm : m < 64) (hk : k < 6) (h : m.testBit k = true) : bits .andNot .i64 (m : Int) (2 ^ k) = ((m - 2 ^ k : Nat) : Int) := bit_not_all ⟨m, hm⟩ ⟨k, hk⟩ h
theorem bit_or {m k : Nat} (hm : m < 64) (hk : k < 6) (h : m.testBit k = false) : bits .or .i64 (m : Int) (2 ^ k) = ((m + 2 ^ k : Nat) : Int) := bit_or_all ⟨m, hm⟩ ⟨k, hk⟩ h

set_option maxRecDepth 100000 in
set_option maxHeartbeats 8000000 in
theorem part_any (b mb : Nat) (p : PS) (m : Nat) (w : World) {X : Nat → Prop} (hp : PAt w b mb p X) (hm : m < 256) :
    Calls Try.prog 106 #[.pointer (some ⟨b, 0, none⟩), .int .i64 m] w fun e w' => RetInts w w' (K.part p.l m) e := by
  obtain ⟨c0, c1, c2, c3, c4, c5, c6, c7, c8, c9, c10⟩ := hp.blk.cells
  obtain ⟨hne, hck, hdp, hrq, hl6, hgo⟩ := K.ok31_parts hp.ok
  have hset := hp.set
  have HLN := Lib.hid hset.1
  have hn6 : p.n ≤ 6 := by rw [hset.1]; exact hl6
  clear hne hck hdp hrq hl6 hgo
  go_enter Try.func106, Try.ntmps106
  go_wp2_with fail
  go_loopw [5, 13] (fun v5 v13 wr => ∃ (k : Nat), v13 = .int .i64 k ∧ k ≤ p.n ∧ wr.ownsRow w.heap.size 3 1 v5 (K.part (p.l.take k) m).length (intCells (K.part (p.l.take k) m)) ∧ Below w.heap.size w wr) (fun _ v13 _ => p.n - (intOf v13).toNat)
  case atStart => exact ⟨0, rfl, by omega, World.ownsRow_nil _ _ _ _, Below.refl _ _⟩
  case round =>
    clear c0 c1 c2 c3 c4 c5 c6 c7 c8 c9 c10
    obtain ⟨k, rfl, hk, hown, hbr⟩ := hrel
    by_cases hlt : k < p.n
    · obtain ⟨adv, i, hA, hi, ci⟩ := (hset.below hbr).at_ hlt
      have k0 : (0 : Int) ≤ (k : Int) := by omega
      have k1 : (k : Int) < (p.n : Int) := by omega
      have HT := Lib.hid (take_snoc hi)
      have HTL := Lib.hid (show (p.l.take k).length = k by rw [List.length_take, ← HLN.out]; omega)
      have hpl : (K.part (p.l.take k) m).length ≤ 6 := by have := K.part_len (p.l.take k) m; rw [HTL.out] at this; omega
      clear hi
      cases hbit : m.testBit k
      · have hb1 : bits BinOp.and IntKind.i64 ((m : Int) / 2 ^ k) 1 = 0 := by rw [bit_at hm (by omega), hbit]; rfl
        have HN := Lib.hid (show K.part (p.l.take (k + 1)) m = K.part (p.l.take k) m by rw [HT.out, K.part_snoc, HTL.out, hbit]; simp)
        clear hbit
        rw [hA]
        go_wp2_with fail
        go_roundw
        case rel => exact ⟨k + 1, by go_num, by omega, by rw [HN.out]; exact hown, hbr⟩
        case measure => simp [intOf]; omega
      · have hb1 : bits BinOp.and IntKind.i64 ((m : Int) / 2 ^ k) 1 = 1 := by rw [bit_at hm (by omega), hbit]; rfl
        have HN := Lib.hid (show K.part (p.l.take (k + 1)) m = K.part (p.l.take k) m ++ [i] by rw [HT.out, K.part_snoc, HTL.out, hbit]; simp)
        have ha : Below wr.heap.size wr (wr.alloc (.cells #[.int .i64 i] 3)) := (Below.refl _ _).alloc (Nat.le_refl _) _
        have hown2 := own_below hown ha
        have hs2 : w.heap.size ≤ (wr.alloc (.cells #[.int .i64 i] 3)).heap.size := Nat.le_trans hbr.size ha.size
        clear hbit
        rw [hA]
        go_wp2_with (at_builtin; refine app_int rfl (.tmp 23) (.tmp 25) rfl w.heap.size u5 (K.part (p.l.take k) m).length (K.part (p.l.take k) m) rfl hown2 wr.heap.size i rfl (heap_alloc_at _ _ _ rfl) (by omega) hs2 ?_; intro tv' w6 hown6 hgrow6 hat6)
        have b6 := below_own2 (bel hbr ha) hgrow6 (fun g e => (hown.lt g e).1)
        have HS := Lib.hid (show (K.part (p.l.take k) m).length + 1 = (K.part (p.l.take (k + 1)) m).length by rw [HN.out, List.length_append]; rfl)
        rw [← HN.out, HS.out] at hown6
        clear hgrow6 hat6 hown2 hown
        go_roundw
        case rel => exact ⟨k + 1, by go_num, by omega, hown6, b6⟩
        case measure => simp [intOf]; omega
    · have HN := Lib.hid (show p.l.take k = p.l by exact List.take_of_length_le (by rw [← HLN.out]; omega))
      rw [HN.out] at hown
      obtain ⟨A9, c9, rfl, hI⟩ := own_ints hown rfl
      go_wp2_with fail
      go_ret
      exact ⟨⟨_, _, _, rfl, hI⟩, hbr⟩
end Go.Proofs.Ytippdjmpkafifaa
