/-
Plain: what can be planned in part, and with a further shift.
-/
import Derived.Test.YtippdjmpkafifaaBX
namespace Go.Proofs.Ytippdjmpkafifaa
open Go.RowKit
namespace K
theorem emb_sub {r' r : List Q} (h : r'.Sublist r) : ∃ φ, Emb r' r φ := by
  induction h with
  | slnil => exact ⟨id, fun i hi => absurd hi (by simp), fun i j _ hj => absurd hj (by simp)⟩
  | cons a _ ih =>
    obtain ⟨φ, h1, h2⟩ := ih
    exact ⟨fun i => φ i + 1, fun i hi => by rw [List.getElem?_cons_succ]; exact h1 i hi, fun i j hij hj => by have := h2 i j hij hj; omega⟩
  | cons_cons a _ ih =>
    obtain ⟨φ, h1, h2⟩ := ih
    refine ⟨fun i => match i with | 0 => 0 | i + 1 => φ i + 1, fun i hi => ?_, fun i j hij hj => ?_⟩
    · cases i with
      | zero => rfl
      | succ i =>
        rw [List.length_cons] at hi
        show (a :: _)[φ i + 1]? = _
        rw [List.getElem?_cons_succ, List.getElem?_cons_succ]
        exact h1 i (by omega)
    · rw [List.length_cons] at hj
      cases j with
      | zero => omega
      | succ j =>
        cases i with
        | zero => exact Nat.succ_pos _
        | succ i =>
          have := h2 i j (by omega) (by omega)
          show φ i + 1 < φ j + 1
          omega
theorem emb_id (r : List Q) : Emb r r id := ⟨fun _ _ => rfl, fun _ _ h _ => h⟩
section
variable {nd : Int} {l : List Ro} {ss ss' : List S} {r r' : List Q}
theorem pcheck_of (h1 : netErr nd l = 0) (h2 : ss.length ≤ 4) (h3 : ∀ s ∈ ss, T.check s = 0 ∧ s.depot < nd) (h4 : ∀ q ∈ r, T.right q = true ∧ q.node < nd) (h5 : r.length ≤ 6) : pcheck nd l ss r = 0 := by
  have a1 : ss.any (badS nd) = false := by
    rw [List.any_eq_false]
    intro s hs
    obtain ⟨b1, b2⟩ := h3 s hs
    simp [badS, b1]
    omega
  have a2 : r.any (badQ nd) = false := by
    rw [List.any_eq_false]
    intro q hq
    obtain ⟨b1, b2⟩ := h4 q hq
    simp [badQ, b1]
    omega
  unfold pcheck
  rw [h1, decide_eq_true h2, a1, a2, if_pos (by decide), if_neg (by omega)]
theorem pcheck_sub (h : pcheck nd l ss r = 0) (hs : r'.Sublist r) : pcheck nd l ss r' = 0 := by
  obtain ⟨h1, h2, h3, h4, h5⟩ := pcheck_ok h
  exact pcheck_of h1 h2 h3 (fun q hq => h4 q (hs.subset hq)) (Nat.le_trans hs.length_le h5)
theorem pcheck_mem (h : ∀ s, s ∈ ss' ↔ s ∈ ss) (hl : ss'.length = ss.length) : pcheck nd l ss' r = pcheck nd l ss r := by
  have e : ss'.any (badS nd) = ss.any (badS nd) := by
    rw [Bool.eq_iff_iff, List.any_eq_true, List.any_eq_true]
    exact ⟨fun ⟨s, h1, h2⟩ => ⟨s, (h s).1 h1, h2⟩, fun ⟨s, h1, h2⟩ => ⟨s, (h s).2 h1, h2⟩⟩
  unfold pcheck
  rw [e, hl]
/-- What can be planned can be planned in part. -/
theorem plan_part (h : (plan nd l ss r).2 = 0) (hs : r'.Sublist r) : (plan nd l ss r').2 = 0 := by
  obtain ⟨h1, d, h2, -⟩ := plan_0 h
  obtain ⟨φ, hE⟩ := emb_sub hs
  exact plan_embed (θ := id) h1 (pcheck_sub h1 hs) hE h2 (fun _ _ => rfl) (fun _ _ _ _ e => e)
theorem plan_42 (h : pcheck nd l ss r = 0) : (plan nd l ss r).2 = 0 ∨ (plan nd l ss r).2 = 4 := by
  rcases plan_cases h with ⟨g, -⟩ | ⟨d, -, g⟩
  · rw [g]; exact .inr rfl
  · rw [g]; exact .inl rfl
/-- What is refuted in part is refuted. -/
theorem parts_law (hr : r.length ≤ 4) (hs : r'.Sublist r) : ((plan nd l ss r).2 = 0 → (plan nd l ss r').2 = 0) ∧ ((plan nd l ss r').2 = 4 → (plan nd l ss r).2 = 4 ∨ (plan nd l ss r).2 = 1) := by
  refine ⟨fun h => plan_part h hs, fun h => ?_⟩
  by_cases h1 : pcheck nd l ss r = 0
  · rcases plan_42 h1 with h2 | h2
    · have := plan_part h2 hs
      omega
    · exact .inl h2
  · refine .inr ?_
    rw [plan_err h1]
    rcases pcheck_cases (nd := nd) (l := l) (ss := ss) (r := r) with e | e | e
    · exact absurd e h1
    · exact e
    · unfold pcheck at e
      split at e
      · split at e
        · omega
        · cases e
      · cases e
theorem more_mem (s : S) (ss : List S) : ∀ x, x ∈ ss ++ [s] ↔ x ∈ s :: ss := fun x => by
  rw [List.mem_append, List.mem_singleton, List.mem_cons]
  exact Or.comm
theorem more_len (s : S) (ss : List S) : (ss ++ [s]).length = (s :: ss).length := by rw [List.length_append]; rfl
/-- A further shift, ahead of the others or behind them. -/
theorem more_law (s : S) (hl : ss.length ≤ 2) (hc : T.check s = 0) (hd : s.depot < nd) : (plan nd l (s :: ss) r).2 = (plan nd l (ss ++ [s]) r).2 ∧ ((plan nd l ss r).2 = 0 → (plan nd l (s :: ss) r).2 = 0) := by
  have he := pcheck_mem (nd := nd) (l := l) (r := r) (more_mem s ss) (more_len s ss)
  have hfront : ∀ i, i < ss.length → (s :: ss)[i + 1]? = (ss ++ [s])[i]? := fun i hi => by
    rw [List.getElem?_cons_succ, List.getElem?_append_left hi]
  have hlast : (ss ++ [s])[ss.length]? = some s := by rw [List.getElem?_append_right (Nat.le_refl _), Nat.sub_self]; rfl
  refine ⟨?_, fun h => ?_⟩
  · by_cases h1 : pcheck nd l (s :: ss) r = 0
    · have h2 : pcheck nd l (ss ++ [s]) r = 0 := by rw [he]; exact h1
      have a : (plan nd l (s :: ss) r).2 = 0 → (plan nd l (ss ++ [s]) r).2 = 0 := fun h => by
        obtain ⟨-, d, h3, -⟩ := plan_0 h
        obtain ⟨-, hd2, -⟩ := first_some h3
        refine plan_embed (θ := fun i => if i = 0 then ss.length else i - 1) h1 h2 (emb_id r) h3 (fun i hi => ?_) (fun i hi j hj e => ?_)
        · have hb := hd2 i hi
          rw [List.length_cons] at hb
          by_cases e : i = 0
          · rw [if_pos e, e, hlast]; rfl
          · rw [if_neg e, ← hfront (i - 1) (by omega), show i - 1 + 1 = i by omega]
        · have hb := hd2 i hi
          have hb2 := hd2 j hj
          rw [List.length_cons] at hb hb2
          by_cases e1 : i = 0 <;> by_cases e2 : j = 0 <;> simp only [e1, e2, if_true, if_false] at e <;> omega
      have b : (plan nd l (ss ++ [s]) r).2 = 0 → (plan nd l (s :: ss) r).2 = 0 := fun h => by
        obtain ⟨-, d, h3, -⟩ := plan_0 h
        obtain ⟨-, hd2, -⟩ := first_some h3
        refine plan_embed (θ := fun i => if i = ss.length then 0 else i + 1) h2 h1 (emb_id r) h3 (fun i hi => ?_) (fun i hi j hj e => ?_)
        · have hb := hd2 i hi
          rw [more_len, List.length_cons] at hb
          by_cases e : i = ss.length
          · rw [if_pos e, e, hlast]; rfl
          · rw [if_neg e, ← hfront i (by omega)]
        · have hb := hd2 i hi
          have hb2 := hd2 j hj
          rw [more_len, List.length_cons] at hb hb2
          by_cases e1 : i = ss.length <;> by_cases e2 : j = ss.length <;> simp only [e1, e2, if_true, if_false] at e <;> omega
      rcases plan_42 h1 with g1 | g1 <;> rcases plan_42 h2 with g2 | g2
      · omega
      · have := a g1; omega
      · have := b g2; omega
      · omega
    · rw [plan_err h1, plan_err (by rw [he]; exact h1), he]
  · obtain ⟨h1, d, h3, -⟩ := plan_0 h
    obtain ⟨g1, g2, g3, g4, g5⟩ := pcheck_ok h1
    have h2 : pcheck nd l (s :: ss) r = 0 := pcheck_of g1 (by rw [List.length_cons]; omega) (fun x hx => by
      rcases List.mem_cons.1 hx with rfl | hx
      · exact ⟨hc, hd⟩
      · exact g3 x hx) g4 g5
    exact plan_embed (θ := fun i => i + 1) h1 h2 (emb_id r) h3 (fun i _ => List.getElem?_cons_succ) (fun i _ j _ e => by omega)
end
end K
end Go.Proofs.Ytippdjmpkafifaa
