/-
Plain laws of loads: what is cut in two adds up; a request alone.
-/
import Derived.Test.YtdbllcphopecjaaT25
namespace Go.Proofs.Ytdbllcphopecjaa
open Go.RowKit

theorem T.loads_get {r : List Q} {l : List Int} {k : Nat} {x : Int} (h : (T.loads r l)[k]? = some x) : x = T.room r k l := by
  unfold T.loads at h
  rcases k with _ | _ | _ | k <;> simp at h <;> exact h.symm

theorem T.weight_part {s : S} {r : List Q} {l : List Int} (h : T.load s r l = true) (b : Int) : T.weight s r (T.partFrom b true 0 l) + T.weight s r (T.partFrom b false 0 l) = T.weight s r l + s.tare := by
  rw [T.weight_eq h, T.weight_eq (T.load_sub h (T.part_sub b true l 0)), T.weight_eq (T.load_sub h (T.part_sub b false l 0))]
  have k := fun j => T.room_part r j b l 0
  have k0 := k 0
  have k1 := k 1
  have k2 := k 2
  omega

theorem T.weight_bound {s : S} {r : List Q} {l : List Int} (h : T.load s r l = true) (hl : l.length ≤ 1000) : 0 ≤ T.weight s r l ∧ T.weight s r l ≤ 4000000000 := by
  obtain ⟨hc, _, hr⟩ := T.load_parts h
  have ht := (T.check_rooms hc).2.1
  have k := fun j => T.room_bound hr j l
  have k0 := k 0
  have k1 := k 1
  have k2 := k 2
  rw [T.weight_eq h]
  omega

theorem T.room_one (r : List Q) (j x : Int) : T.room r j [x] = T.kilo r j x := by simp [T.room]

theorem T.load_one {s : S} {r : List Q} {l : List Int} {x : Int} (h : T.load s r l = true) (hx : x ∈ l) : T.load s r [x] = true := by
  obtain ⟨h1, ⟨h2, _⟩, h4⟩ := T.load_iff.1 h
  exact T.load_iff.2 ⟨h1, ⟨fun y hy => by simp at hy; subst hy; exact h2 _ hx, by simp⟩, h4⟩

theorem T.load_index {s : S} {r : List Q} {l : List Int} {x : Int} (h : T.load s r l = true) (hx : x ∈ l) : 0 ≤ x ∧ x < (r.length : Int) := (T.load_iff.1 h).2.1.1 x hx
end Go.Proofs.Ytdbllcphopecjaa
