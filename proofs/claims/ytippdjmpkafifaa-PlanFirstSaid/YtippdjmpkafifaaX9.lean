/-
Plain: assignments one after the other, in lexicographic order.
-/
import Derived.Test.YtippdjmpkafifaaBX
namespace Go.Proofs.Ytippdjmpkafifaa
open Go.RowKit
namespace A
theorem share_app (s : Nat) : ∀ (d e : List Nat) (i : Int), share (d ++ e) s i = share d s i ++ share e s (i + d.length)
  | [], e, i => by simp [share]
  | x :: d, e, i => by
    rw [List.cons_append, share, share, share_app s d e (i + 1), List.length_cons]
    have h : i + 1 + (d.length : Int) = i + ((d.length + 1 : Nat) : Int) := by omega
    rw [h]
    split <;> rfl
/-- The next assignment, if there is one. -/
def next (m : Nat) : List Nat → Option (List Nat)
  | [] => none
  | x :: d => match next m d with
    | some d' => some (x :: d')
    | none => if x + 1 < m then some ((x + 1) :: List.replicate d.length 0) else none
/-- Each element of a list is followed by the next one, the last one by z. -/
def Chain (m : Nat) (L : List (List Nat)) (z : Option (List Nat)) : Prop := ∀ pre x post, L = pre ++ x :: post → next m x = (post.head?).or z
theorem chain_nil (m : Nat) (z : Option (List Nat)) : Chain m [] z := fun pre x post h => by simp at h
theorem chain_app {m : Nat} : ∀ {L1 L2 : List (List Nat)} {z : Option (List Nat)}, Chain m L1 ((L2.head?).or z) → Chain m L2 z → Chain m (L1 ++ L2) z := by
  intro L1 L2 z h1 h2 pre x post h
  rcases List.append_eq_append_iff.1 h with ⟨a, e1, e2⟩ | ⟨a, e1, e2⟩
  · -- pre = L1 ++ a, L2 = a ++ x :: post
    exact h2 a x post e2
  · -- L1 = pre ++ a, x :: post = a ++ L2
    cases a with
    | nil =>
      rw [List.nil_append] at e2
      exact h2 [] x post e2.symm
    | cons b a =>
      rw [List.cons_append] at e2
      injection e2 with e3 e4
      subst e3
      have := h1 pre x a e1
      rw [this, e4]
      cases a with
      | nil => rfl
      | cons c a => rfl
theorem exts_head {m : Nat} (hm : 0 < m) : ∀ k, (exts m k).head? = some (List.replicate k 0)
  | 0 => rfl
  | k + 1 => by
    obtain ⟨m', rfl⟩ : ∃ m', m = m' + 1 := ⟨m - 1, by omega⟩
    rw [exts, List.range_succ_eq_map, List.flatMap_cons, List.head?_append, List.head?_map, exts_head hm k]
    rfl
theorem chain_exts {m : Nat} (hm : 0 < m) : ∀ k, Chain m (exts m k) none
  | 0 => fun pre x post h => by
    cases pre with
    | nil =>
      rw [exts, List.nil_append] at h
      injection h with h1 h2
      subst h1 h2
      rfl
    | cons b pre =>
      rw [exts, List.cons_append] at h
      injection h with h1 h2
      exact absurd h2 (by simp)
  | k + 1 => by
    have ih := chain_exts hm k
    have hb : ∀ s, Chain m ((exts m k).map (s :: ·)) (if s + 1 < m then some ((s + 1) :: List.replicate k 0) else none) := fun s pre x post h => by
      obtain ⟨L1, L2, e0, e1, e2⟩ := List.map_eq_append_iff.1 h
      cases L2 with
      | nil => cases e2
      | cons y L2 =>
        rw [List.map_cons] at e2
        injection e2 with e3 e4
        subst e3 e4
        have hy := ih L1 y L2 e0
        have hyl : y.length = k := (mem_exts.1 (show y ∈ exts m k by rw [e0]; simp)).1
        rw [next, hy, hyl]
        cases L2 with
        | nil => rfl
        | cons c L2 => rfl
    have hr : ∀ n s, s + n = m → Chain m ((List.range' s n).flatMap fun s => (exts m k).map (s :: ·)) none := by
      intro n
      induction n with
      | zero => intro s _; exact chain_nil m none
      | succ n ihn =>
        intro s hs
        rw [List.range'_succ, List.flatMap_cons]
        refine chain_app ?_ (ihn (s + 1) (by omega))
        have h1 := hb s
        have h2 : (if s + 1 < m then some ((s + 1) :: List.replicate k 0) else none) = (((List.range' (s + 1) n).flatMap fun s => (exts m k).map (s :: ·)).head?).or none := by
          cases n with
          | zero => rw [if_neg (by omega)]; rfl
          | succ n =>
            rw [if_pos (by omega), List.range'_succ, List.flatMap_cons, List.head?_append, List.head?_map, exts_head hm k]
            rfl
        rw [← h2]
        exact h1
    have := hr m 0 (by omega)
    rw [exts, List.range_eq_range']
    exact this
/-- The assignments are gone through with 'next'. -/
theorem next_exts {m k j : Nat} (hm : 0 < m) {d : List Nat} (h : (exts m k)[j]? = some d) : next m d = (exts m k)[j + 1]? := by
  obtain ⟨hj, e⟩ := List.getElem?_eq_some_iff.1 h
  have := chain_exts hm k ((exts m k).take j) d ((exts m k).drop (j + 1)) (by rw [← e, ← List.drop_eq_getElem_cons hj, List.take_append_drop])
  rw [this, List.head?_drop]
  cases (exts m k)[j + 1]? <;> rfl
/-- What the loop over the digits does: none behind i can be raised. -/
theorem next_at {m : Nat} : ∀ (d : List Nat) (i : Nat), next m (d.drop (i + 1)) = none → ∀ x, d[i]? = some x → next m (d.drop i) = if x + 1 < m then some ((x + 1) :: List.replicate (d.length - (i + 1)) 0) else none := by
  intro d i h x hx
  obtain ⟨hi, e⟩ := List.getElem?_eq_some_iff.1 hx
  rw [List.drop_eq_getElem_cons hi, e, next, h, List.length_drop]
theorem next_pre {m : Nat} : ∀ (pre d d' : List Nat), next m d = some d' → next m (pre ++ d) = some (pre ++ d')
  | [], d, d', h => h
  | x :: pre, d, d', h => by rw [List.cons_append, next, next_pre pre d d' h]; rfl
end A
end Go.Proofs.Ytippdjmpkafifaa
