/-
Plain: the number of an assignment, and how much is left of them.
-/
import Derived.Test.YtippdjmpkafifaaX9
namespace Go.Proofs.Ytippdjmpkafifaa
open Go.RowKit
namespace A
/-- The number of an assignment. -/
def val (m : Nat) : List Nat → Nat
  | [] => 0
  | x :: d => x * m ^ d.length + val m d
theorem val_zero (m : Nat) : ∀ n, val m (List.replicate n 0) = 0
  | 0 => rfl
  | n + 1 => by rw [List.replicate_succ, val, val_zero m n, Nat.zero_mul]
theorem val_lt {m : Nat} : ∀ {d : List Nat}, (∀ s ∈ d, s < m) → val m d < m ^ d.length
  | [], _ => by simp [val]
  | x :: d, h => by
    have h1 := h x (List.mem_cons_self ..)
    have h2 := val_lt fun s hs => h s (List.mem_cons_of_mem _ hs)
    rw [val, List.length_cons, Nat.pow_succ]
    have h3 : (x + 1) * m ^ d.length ≤ m * m ^ d.length := Nat.mul_le_mul_right _ h1
    rw [Nat.succ_mul] at h3
    rw [Nat.mul_comm (m ^ d.length) m]
    omega
theorem val_next {m : Nat} : ∀ {d : List Nat}, (∀ s ∈ d, s < m) → (∀ d', next m d = some d' → val m d' = val m d + 1 ∧ d'.length = d.length ∧ ∀ s ∈ d', s < m) ∧ (next m d = none → val m d + 1 = m ^ d.length)
  | [], _ => ⟨fun d' h => (by cases h), fun _ => by simp [val]⟩
  | x :: d, h => by
    have h1 := h x (List.mem_cons_self ..)
    have hd : ∀ s ∈ d, s < m := fun s hs => h s (List.mem_cons_of_mem _ hs)
    obtain ⟨i1, i2⟩ := val_next hd
    cases hn : next m d with
    | some d1 =>
      obtain ⟨g1, g2, g3⟩ := i1 d1 hn
      refine ⟨fun d' h' => ?_, fun h' => ?_⟩
      · rw [next, hn] at h'
        injection h' with h'
        subst h'
        refine ⟨by rw [val, val, g1, g2]; omega, by rw [List.length_cons, List.length_cons, g2], fun s hs => ?_⟩
        rcases List.mem_cons.1 hs with rfl | hs
        · exact h1
        · exact g3 s hs
      · rw [next, hn] at h'
        cases h'
    | none =>
      have i3 := i2 hn
      by_cases hx : x + 1 < m
      · refine ⟨fun d' h' => ?_, fun h' => ?_⟩
        · rw [next, hn] at h'
          dsimp only at h'
          rw [if_pos hx] at h'
          injection h' with h'
          subst h'
          refine ⟨by rw [val, val, val_zero, List.length_replicate, Nat.succ_mul]; omega, by simp, fun s hs => ?_⟩
          rcases List.mem_cons.1 hs with rfl | hs
          · exact hx
          · have := List.eq_of_mem_replicate hs
            omega
        · rw [next, hn] at h'
          dsimp only at h'
          rw [if_pos hx] at h'
          cases h'
      · refine ⟨fun d' h' => ?_, fun _ => ?_⟩
        · rw [next, hn] at h'
          dsimp only at h'
          rw [if_neg hx] at h'
          cases h'
        · have e : m = x + 1 := by omega
          rw [val, List.length_cons, Nat.pow_succ, Nat.mul_comm (m ^ d.length) m]
          have h3 : m * m ^ d.length = x * m ^ d.length + m ^ d.length := by
            conv => lhs; rw [show m * m ^ d.length = (x + 1) * m ^ d.length by rw [← e]]
            rw [Nat.succ_mul]
          omega
/-- The first assignment, and what it means that none of the first j is possible. -/
theorem exts_zero {m : Nat} (hm : 0 < m) (k : Nat) : (exts m k)[0]? = some (List.replicate k 0) := by
  rw [← exts_head hm k, List.head?_eq_getElem?]
theorem first_at {B : Nat → List Int → Bool} {m n j : Nat} {d : List Nat} (hj : (exts m n)[j]? = some d) (hb : ∀ e ∈ (exts m n).take j, possible B m e = false) (hd : possible B m d = true) : first B m n = some d := by
  obtain ⟨hl, e⟩ := List.getElem?_eq_some_iff.1 hj
  unfold first
  have h1 : exts m n = (exts m n).take j ++ d :: (exts m n).drop (j + 1) := by rw [← e, ← List.drop_eq_getElem_cons hl, List.take_append_drop]
  rw [h1, List.find?_append, List.find?_eq_none.2 (fun x hx => by rw [hb x hx]; simp), Option.none_or, List.find?_cons_of_pos hd]
theorem first_none {B : Nat → List Int → Bool} {m n : Nat} (hb : ∀ e ∈ exts m n, possible B m e = false) : first B m n = none := by
  unfold first
  exact List.find?_eq_none.2 fun x hx => by rw [hb x hx]; simp
theorem not_first {B : Nat → List Int → Bool} {m n j : Nat} {d : List Nat} (hj : (exts m n)[j]? = some d) (hb : ∀ e ∈ (exts m n).take j, possible B m e = false) (hd : possible B m d = false) : ∀ e ∈ (exts m n).take (j + 1), possible B m e = false := fun e he => by
  obtain ⟨hl, e1⟩ := List.getElem?_eq_some_iff.1 hj
  rw [List.take_succ_eq_append_getElem hl, e1] at he
  rcases List.mem_append.1 he with he | he
  · exact hb e he
  · rw [List.mem_singleton.1 he]; exact hd
end A
end Go.Proofs.Ytippdjmpkafifaa
