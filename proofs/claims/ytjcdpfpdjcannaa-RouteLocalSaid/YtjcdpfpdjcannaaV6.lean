/-
Plain laws: loads and weights do not hang on the order of the requests.
-/
import Derived.Test.YtjcdpfpdjcannaaV5
namespace Go.Proofs.Ytjcdpfpdjcannaa
open Go.RowKit

theorem T.room_perm {r : List Q} {j : Int} {a b : List Int} (h : a.Perm b) : T.room r j a = T.room r j b := by
  induction h with
  | nil => rfl
  | cons x _ ih => simp [T.room, ih]
  | swap x y l => simp [T.room]; omega
  | trans _ _ ih1 ih2 => exact ih1.trans ih2
theorem T.load_perm {s : S} {r : List Q} {a b : List Int} (h : a.Perm b) : T.load s r a = T.load s r b := by
  have h1 : T.isSet (r.length : Int) a = T.isSet (r.length : Int) b := by
    rw [Bool.eq_iff_iff, T.isSet_iff, T.isSet_iff]
    exact ⟨fun ⟨g1, g2⟩ => ⟨fun x hx => g1 x (h.mem_iff.2 hx), h.nodup_iff.1 g2⟩, fun ⟨g1, g2⟩ => ⟨fun x hx => g1 x (h.mem_iff.1 hx), h.nodup_iff.2 g2⟩⟩
  unfold T.load
  rw [h1]
theorem T.loads_perm {r : List Q} {a b : List Int} (h : a.Perm b) : T.loads r a = T.loads r b := by
  unfold T.loads
  rw [T.room_perm h, T.room_perm h, T.room_perm h]
theorem T.weight_perm {s : S} {r : List Q} {a b : List Int} (h : a.Perm b) : T.weight s r a = T.weight s r b := by
  unfold T.weight
  rw [T.load_perm h, T.loads_perm h]
theorem T.fits_perm {s : S} {r : List Q} {a b : List Int} (h : a.Perm b) : T.fits s r a = T.fits s r b := by
  unfold T.fits
  rw [T.load_perm h, T.loads_perm h]

namespace K
/-- One more element of a part. -/
theorem part_add : ∀ (v : List Int) (m i : Nat) (k : Int), v[i]? = some k → m.testBit i = false → (part v (m + 2 ^ i)).Perm (part v m ++ [k])
  | [], _, _, _, h, _ => by simp at h
  | x :: r, m, 0, k, h, hb => by
    simp at h
    subst h
    rw [Nat.testBit_zero] at hb
    have h0 : m % 2 = 0 := by simpa using hb
    have h1 : (m + 2 ^ 0).testBit 0 = true := by rw [Nat.testBit_zero]; simp; omega
    have h2 : m.testBit 0 = false := by rw [Nat.testBit_zero]; exact hb
    have h3 : (m + 2 ^ 0) / 2 = m / 2 := by simp; omega
    simp only [part, h1, h2, h3, if_true, Bool.false_eq_true, if_false]
    exact (List.perm_append_singleton x _).symm
  | x :: r, m, i + 1, k, h, hb => by
    have hk : r[i]? = some k := by simpa using h
    have hb2 : (m / 2).testBit i = false := by rw [← Nat.testBit_succ]; exact hb
    have hp := part_add r (m / 2) i k hk hb2
    have hpw : 2 ^ (i + 1) = 2 * 2 ^ i := by rw [Nat.pow_succ]; omega
    have h1 : (m + 2 ^ (i + 1)).testBit 0 = m.testBit 0 := by rw [Nat.testBit_zero, Nat.testBit_zero, hpw]; simp
    have h3 : (m + 2 ^ (i + 1)) / 2 = m / 2 + 2 ^ i := by rw [hpw]; omega
    simp only [part, h1, h3]
    split
    · exact hp.cons x
    · exact hp

section
variable {nd : Int} {l : List Ro} {s : S} {r : List Q} {v : List Int}
/-- The stops of a state that can be reached are those of its part. -/
theorem hits_stops {o : Option Nat} {c : St} (h : Hits nd l s r v o c) : c.stops.Perm (part v c.bits) := by
  induction h with
  | first =>
    have h0 : ∀ v : List Int, part v 0 = [] := fun v => by
      induction v with
      | nil => rfl
      | cons x r ih => simp [part, ih]
    show ([] : List Int).Perm (part v 0)
    rw [h0]
  | step h hk ho ih =>
    obtain ⟨h1, -, -, e⟩ := onward_some ho
    rw [e]
    exact (ih.append_right _).trans (part_add _ _ _ _ hk h1).symm
end
end K
end Go.Proofs.Ytjcdpfpdjcannaa
