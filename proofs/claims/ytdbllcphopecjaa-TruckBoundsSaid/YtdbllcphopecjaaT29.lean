/-
Plain laws of a truck with more room.
-/
import Derived.Test.YtdbllcphopecjaaT27
namespace Go.Proofs.Ytdbllcphopecjaa
open Go.RowKit

def T.more (x : Int) : Int := min 1000000 (x + 1)
def T.wide (s : S) (A : Option Addr) (n c : Nat) : S := { s with A := A, n := n, c := c, l := s.l.map T.more }
def T.great (s : S) (A : Option Addr) (n c : Nat) : S := { s with A := A, n := n, c := c, l := [1000000, 1000000, 1000000] }

theorem T.check_with {s : S} (h : T.check s = 0) (A : Option Addr) (n c : Nat) (l : List Int) (hl : l.length ≤ 3) (hx : ∀ x ∈ l, 0 ≤ x ∧ x ≤ 1000000) : T.check { s with A := A, n := n, c := c, l := l } = 0 := by
  have ht := (T.check_rooms h).2.1
  unfold T.check at h ⊢
  split at h
  · simp at h
  split at h
  · simp at h
  rename_i h1 h2
  have h3 : T.heavy (s.tare :: l) = false := by
    unfold T.heavy
    rw [List.any_eq_false]
    intro y hy
    rcases List.mem_cons.1 hy with rfl | hy
    · simp [T.btw, ht]
    · have := hx y hy
      simp [T.btw, this]
  rw [if_neg (by simpa using h1), if_neg (by simpa [T.dated] using h2), if_neg (by simp only; omega)]
  simp only [h3]
  rfl

theorem T.check_wide {s : S} (h : T.check s = 0) (A : Option Addr) (n c : Nat) : T.check (T.wide s A n c) = 0 := by
  obtain ⟨h1, _, h3⟩ := T.check_rooms h
  refine T.check_with h A n c _ (by simpa using h1) ?_
  intro x hx
  obtain ⟨y, hy, rfl⟩ := List.mem_map.1 hx
  have := h3 y hy
  unfold T.more
  omega

theorem T.check_great {s : S} (h : T.check s = 0) (A : Option Addr) (n c : Nat) : T.check (T.great s A n c) = 0 := by
  refine T.check_with h A n c _ (by simp) ?_
  intro x hx
  simp at hx
  omega

theorem T.load_with {s t : S} {r : List Q} {l : List Int} (h : T.load s r l = true) (ht : T.check t = 0) : T.load t r l = true := by
  obtain ⟨_, h2, h3⟩ := T.load_parts h
  exact T.load_mk ht h2 h3

theorem T.fits_wide {s : S} {r : List Q} {l : List Int} (h : T.fits s r l = true) (A : Option Addr) (n c : Nat) : T.fits (T.wide s A n c) r l = true := by
  obtain ⟨h0, h1, h2, h3⟩ := T.fits_iff.1 h
  obtain ⟨hc, _, hr⟩ := T.load_parts h0
  have key : ∀ j : Nat, (s.l[j]?).getD 0 ≤ ((s.l.map T.more)[j]?).getD 0 := by
    intro j
    rw [List.getElem?_map]
    cases hy : s.l[j]? with
    | none => simp
    | some y =>
      have := (T.check_rooms hc).2.2 y (List.mem_of_getElem? hy)
      simp only [Option.map_some, Option.getD_some, T.more]
      omega
  have k0 := key 0
  have k1 := key 1
  have k2 := key 2
  exact T.fits_iff.2 ⟨T.load_with h0 (T.check_wide hc A n c), Int.le_trans h1 k0, Int.le_trans h2 k1, Int.le_trans h3 k2⟩

theorem T.fits_great {s : S} {r : List Q} {l : List Int} (h : T.fits s r l = true) (A : Option Addr) (n c : Nat) : T.fits (T.great s A n c) r l = true := by
  obtain ⟨h0, h1, h2, h3⟩ := T.fits_iff.1 h
  obtain ⟨hc, _, hr⟩ := T.load_parts h0
  have key : ∀ j : Nat, (s.l[j]?).getD 0 ≤ 1000000 := by
    intro j
    cases hy : s.l[j]? with
    | none => simp
    | some y => exact ((T.check_rooms hc).2.2 y (List.mem_of_getElem? hy)).2
  exact T.fits_iff.2 ⟨T.load_with h0 (T.check_great hc A n c), Int.le_trans h1 (key 0), Int.le_trans h2 (key 1), Int.le_trans h3 (key 2)⟩

theorem T.weight_wide {s : S} {r : List Q} {l : List Int} (h : T.load s r l = true) (A : Option Addr) (n c : Nat) : T.weight (T.wide s A n c) r l = T.weight s r l := by
  obtain ⟨hc, _, _⟩ := T.load_parts h
  rw [T.weight_eq h, T.weight_eq (T.load_with h (T.check_wide hc A n c))]
  rfl

theorem T.weight_most {s : S} {r : List Q} {l : List Int} (h : T.fits s r l = true) : T.weight s r l ≤ s.tare + T.sum s.l := by
  obtain ⟨h0, h1, h2, h3⟩ := T.fits_iff.1 h
  obtain ⟨hc, _, _⟩ := T.load_parts h0
  obtain ⟨hl, _, hx⟩ := T.check_rooms hc
  rw [T.weight_eq h0]
  generalize s.l = L at *
  rcases L with _ | ⟨x, _ | ⟨y, _ | ⟨z, _ | ⟨u, L⟩⟩⟩⟩ <;> simp [T.sum] at * <;> omega

theorem T.fits_room {s : S} {r : List Q} {l : List Int} (h : T.fits s r l = true) {i : Int} (hi : i ∈ l) {q : Q} (hq : r[i.toNat]? = some q) : q.room < s.l.length := by
  obtain ⟨h0, h1, h2, h3⟩ := T.fits_iff.1 h
  obtain ⟨hc, _, hr⟩ := T.load_parts h0
  obtain ⟨hroom, hk, _⟩ := T.right_room (hr q (List.mem_of_getElem? hq))
  have key : ∀ j : Int, q.room = j → 1 ≤ T.room r j l := by
    intro j hj
    obtain ⟨a, b, rfl⟩ := List.append_of_mem hi
    rw [T.room_app, T.room, T.kilo_self hq, if_pos hj]
    have e1 := (T.room_bound hr j a).1
    have e2 := (T.room_bound hr j b).1
    omega
  rcases hroom with e | e | e
  · have := key 0 e
    rw [e]
    by_cases hlen : 0 < s.l.length
    · exact_mod_cast hlen
    · rw [List.getElem?_eq_none (by omega)] at h1; simp at h1; omega
  · have := key 1 e
    rw [e]
    by_cases hlen : 1 < s.l.length
    · exact_mod_cast hlen
    · rw [List.getElem?_eq_none (by omega)] at h2; simp at h2; omega
  · have := key 2 e
    rw [e]
    by_cases hlen : 2 < s.l.length
    · exact_mod_cast hlen
    · rw [List.getElem?_eq_none (by omega)] at h3; simp at h3; omega
end Go.Proofs.Ytdbllcphopecjaa
