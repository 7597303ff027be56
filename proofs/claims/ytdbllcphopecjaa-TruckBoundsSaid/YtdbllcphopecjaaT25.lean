/-
Plain laws of loads: sets, parts, orders.
-/
import Derived.Test.YtdbllcphopecjaaT21
namespace Go.Proofs.Ytdbllcphopecjaa
open Go.RowKit

theorem T.isSetFrom_iff {n : Int} : ∀ (l b : List Int), T.isSetFrom n b l = true ↔ (∀ x ∈ l, 0 ≤ x ∧ x < n) ∧ l.Nodup ∧ ∀ x ∈ l, x ∉ b := by
  intro l
  induction l with
  | nil => intro b; simp [T.isSetFrom]
  | cons y l ih =>
    intro b
    simp only [T.isSetFrom, Bool.and_eq_true, decide_eq_true_eq, Bool.not_eq_true', List.any_eq_false, beq_iff_eq, ih, List.mem_cons, List.nodup_cons, List.mem_append, forall_eq_or_imp]
    constructor
    · rintro ⟨h1, h2, h3, h4, h5, h6⟩
      refine ⟨⟨⟨h1, h2⟩, h4⟩, ⟨fun hy => h6 y hy (Or.inr (Or.inl rfl)), h5⟩, fun hb => h3 y hb rfl, fun x hx hb => h6 x hx (Or.inl hb)⟩
    · rintro ⟨⟨⟨h1, h2⟩, h4⟩, ⟨h7, h5⟩, h3, h6⟩
      refine ⟨h1, h2, fun x hx e => h3 (e ▸ hx), h4, h5, fun x hx hb => ?_⟩
      rcases hb with hb | hb | hb
      · exact h6 x hx hb
      · subst hb; exact h7 hx
      · simp at hb

theorem T.isSet_iff {n : Int} {l : List Int} : T.isSet n l = true ↔ (∀ x ∈ l, 0 ≤ x ∧ x < n) ∧ l.Nodup := by
  unfold T.isSet
  rw [T.isSetFrom_iff]
  simp

theorem T.load_iff {s : S} {r : List Q} {l : List Int} : T.load s r l = true ↔ T.check s = 0 ∧ ((∀ x ∈ l, 0 ≤ x ∧ x < (r.length : Int)) ∧ l.Nodup) ∧ T.allRight r := by
  constructor
  · intro h
    obtain ⟨h1, h2, h3⟩ := T.load_parts h
    exact ⟨h1, T.isSet_iff.1 h2, h3⟩
  · rintro ⟨h1, h2, h3⟩
    exact T.load_mk h1 (T.isSet_iff.2 h2) h3

theorem T.load_rev (s : S) (r : List Q) (l : List Int) : T.load s r l.reverse = T.load s r l := by
  rw [Bool.eq_iff_iff, T.load_iff, T.load_iff]
  have e : l.reverse.Nodup ↔ l.Nodup := (List.reverse_perm l).nodup_iff
  simp [e]

theorem T.room_rev (r : List Q) (j : Int) (l : List Int) : T.room r j l.reverse = T.room r j l := by
  induction l with
  | nil => rfl
  | cons x l ih => rw [List.reverse_cons, T.room_app, ih]; simp [T.room]; omega

theorem T.fits_rev (s : S) (r : List Q) (l : List Int) : T.fits s r l.reverse = T.fits s r l := by simp [T.fits, T.loads, T.load_rev, T.room_rev]
theorem T.weight_rev (s : S) (r : List Q) (l : List Int) : T.weight s r l.reverse = T.weight s r l := by simp [T.weight, T.loads, T.load_rev, T.room_rev]

theorem T.part_sub (b : Int) (ch : Bool) : ∀ (l : List Int) (i : Nat), (T.partFrom b ch i l).Sublist l := by
  intro l
  induction l with
  | nil => intro i; exact List.Sublist.refl _
  | cons x l ih =>
    intro i
    simp only [T.partFrom]
    split
    · exact (ih (i + 1)).cons_cons x
    · exact (ih (i + 1)).cons x

theorem T.load_sub {s : S} {r : List Q} {l m : List Int} (h : T.load s r l = true) (hs : m.Sublist l) : T.load s r m = true := by
  obtain ⟨h1, ⟨h2, h3⟩, h4⟩ := T.load_iff.1 h
  exact T.load_iff.2 ⟨h1, ⟨fun x hx => h2 x (hs.subset hx), h3.sublist hs⟩, h4⟩

theorem T.room_part (r : List Q) (j b : Int) : ∀ (l : List Int) (i : Nat), T.room r j (T.partFrom b true i l) + T.room r j (T.partFrom b false i l) = T.room r j l := by
  intro l
  induction l with
  | nil => intro i; simp [T.partFrom, T.room]
  | cons x l ih =>
    intro i
    have := ih (i + 1)
    simp only [T.partFrom]
    cases T.bit b i <;> simp [T.room] <;> omega

theorem T.room_sub {r : List Q} (h : T.allRight r) (j : Int) {l m : List Int} (hs : m.Sublist l) : T.room r j m ≤ T.room r j l := by
  induction hs with
  | slnil => exact Int.le_refl _
  | cons x _ ih => have := (T.kilo_bound h j x).1; simp only [T.room]; omega
  | cons_cons x _ ih => simp only [T.room]; omega

theorem T.fits_iff {s : S} {r : List Q} {l : List Int} : T.fits s r l = true ↔ T.load s r l = true ∧ T.room r 0 l ≤ (s.l[0]?).getD 0 ∧ T.room r 1 l ≤ (s.l[1]?).getD 0 ∧ T.room r 2 l ≤ (s.l[2]?).getD 0 := by
  simp [T.fits, T.loads, T.fitFrom]

theorem T.fits_sub {s : S} {r : List Q} {l m : List Int} (h : T.fits s r l = true) (hs : m.Sublist l) : T.fits s r m = true := by
  obtain ⟨h0, h1, h2, h3⟩ := T.fits_iff.1 h
  obtain ⟨_, _, hr⟩ := T.load_parts h0
  have k := fun j => T.room_sub hr j hs
  have k0 := k 0
  have k1 := k 1
  have k2 := k 2
  exact T.fits_iff.2 ⟨T.load_sub h0 hs, by omega, by omega, by omega⟩

theorem T.weight_eq {s : S} {r : List Q} {l : List Int} (h : T.load s r l = true) : T.weight s r l = s.tare + T.room r 0 l + T.room r 1 l + T.room r 2 l := by
  simp [T.weight, h, T.loads, T.sum]; omega

theorem T.weight_sub {s : S} {r : List Q} {l m : List Int} (h : T.load s r l = true) (hs : m.Sublist l) : T.weight s r m ≤ T.weight s r l := by
  obtain ⟨_, _, hr⟩ := T.load_parts h
  have k := fun j => T.room_sub hr j hs
  have k0 := k 0
  have k1 := k 1
  have k2 := k 2
  rw [T.weight_eq h, T.weight_eq (T.load_sub h hs)]
  omega

theorem T.room_ge {s : S} (h : T.check s = 0) (i : Nat) : 0 ≤ (s.l[i]?).getD 0 := by
  cases hy : s.l[i]? with
  | none => simp
  | some y => exact ((T.check_rooms h).2.2 y (List.mem_of_getElem? hy)).1

theorem T.fits_nil {s : S} {r : List Q} {l : List Int} (h : T.load s r l = true) : T.fits s r [] = true :=
  T.fits_iff.2 ⟨T.load_sub h (List.nil_sublist _), T.room_ge (T.load_parts h).1 0, T.room_ge (T.load_parts h).1 1, T.room_ge (T.load_parts h).1 2⟩
end Go.Proofs.Ytdbllcphopecjaa
