/-
What opens the arguments of the laws: lists of shifts, tours, blocks.
-/
import Derived.Test.YtippdjmpkafifaaVP
import Derived.Test.YtippdjmpkafifaaYB
namespace Go.Proofs.Ytippdjmpkafifaa
open Go.ChangeShapes Go.WideShapes Go.Deep Go.RowKit
theorem flat_cell {α : Type} (f : α → List Value) (s : Nat) (hs : ∀ x, (f x).length = s) (h0 : 0 < s) {w : World} {ad : Addr} {l : List α} (h : ∀ (i : Nat) (q : α), l[i]? = some q → ∀ (j : Nat) (u : Value), (f q)[j]? = some u → w.cell? (ad.add (i * s + j)) = some u) :
    ∀ j u, (l.flatMap f)[j]? = some u → w.cell? (ad.add j) = some u := by
  intro j u hu
  have hj : j < (l.flatMap f).length := (List.getElem?_eq_some_iff.1 hu).1
  rw [flat_len f s hs] at hj
  have hd : j / s < l.length := Nat.div_lt_of_lt_mul (by rw [Nat.mul_comm]; exact hj)
  have hp : l[j / s]? = some (l[j / s]'hd) := List.getElem?_eq_getElem hd
  have hm : j % s < s := Nat.mod_lt _ h0
  have hjj : j = j / s * s + j % s := by rw [Nat.mul_comm]; exact (Nat.div_add_mod j s).symm
  have g := flat_get f s hs l _ _ hp (j % s) hm
  rw [← hjj, hu] at g
  have := h _ _ hp (j % s) u g.symm
  rwa [← hjj] at this
section
variable {H : Type} {enc : TypeId × Value → H} {W : World} {base b0 : Nat} {spare : Nat → Bool} {held : Bool} {r : Reach}
set_option maxRecDepth 100000 in
theorem shifts_of_trod {fuel : Nat} {v : Value} {x : DataW H × List MemPlace} (hf : DataW.trod enc Try.prog W b0 spare held fuel 25 [v] = some x) : ∃ A n c l, v = .slice A n c ∧ Shifts W A n l ∧ n ≤ c := by
  rcases open_slice_fields Try.underlying25 Try.underlying43 (by kernel_rfl) (by kernel_rfl) hf with ⟨hcs, _⟩ | ⟨a, len, cap, m, D, Pl, hcs, _, hlc, _, hm, _, hcell⟩
  · simp at hcs
    subst hcs
    exact ⟨none, 0, 0, [], rfl, ⟨⟨rfl, rfl, fun h0 => absurd h0 (by omega)⟩, fun q hq => by cases hq⟩, Nat.le_refl _⟩
  · simp at hcs
    subst hcs
    have hlm : len ≤ m := by rw [hm]; split <;> omega
    have key : ∀ i, i < len → ∃ q : S, (Ints W q.A q.n q.l) ∧ ∀ j u, (S.cells q)[j]? = some u → W.cell? (a.add (i * 6 + j)) = some u := by
      intro i hi
      obtain ⟨ys, n, _, _, _, hfld⟩ := hcell i (by omega)
      obtain ⟨v0, y0, d0, _, t0⟩ := hfld 0 _ rfl
      obtain ⟨v1, y1, d1, _, t1⟩ := hfld 1 _ rfl
      obtain ⟨v2, y2, d2, _, t2⟩ := hfld 2 _ rfl
      obtain ⟨v3, y3, d3, _, t3⟩ := hfld 3 _ rfl
      obtain ⟨v4, y4, d4, _, t4⟩ := hfld 4 _ rfl
      obtain ⟨v5, y5, d5, _, t5⟩ := hfld 5 _ rfl
      obtain ⟨n0, e0, _⟩ := DataW.trod_int Try.underlying3 t0
      obtain ⟨n1, e1, _⟩ := DataW.trod_int Try.underlying3 t1
      obtain ⟨n2, e2, _⟩ := DataW.trod_int Try.underlying3 t2
      obtain ⟨n3, e3, _⟩ := DataW.trod_int Try.underlying3 t3
      obtain ⟨n4, e4, _⟩ := DataW.trod_int Try.underlying3 t4
      obtain ⟨A5, m5, c5, l5, rfl, hI5, hc5⟩ := cints_of_trod t5
      simp at e0 e1 e2 e3 e4
      subst e0 e1 e2 e3 e4
      refine ⟨⟨n0, n1, n2, n3, n4, A5, m5, c5, l5⟩, hI5, ?_⟩
      intro j u hu
      rcases j with _ | _ | _ | _ | _ | _ | j <;> simp [S.cells] at hu <;> subst hu <;> assumption
    obtain ⟨l, hl, hq⟩ := list_of key
    have hall : ∀ q ∈ l, Ints W q.A q.n q.l := fun q hq' => by
      obtain ⟨i, hi⟩ := List.mem_iff_getElem?.1 hq'
      exact (hq i q hi).1
    exact ⟨_, _, _, l, rfl, ⟨⟨hl.symm, by rw [flat_len S.cells 6 (fun _ => rfl), hl], fun _ => ⟨a, rfl, flat_cell S.cells 6 (fun _ => rfl) (by omega) fun i q hi => (hq i q hi).2⟩⟩, hall⟩, hlc⟩

set_option maxRecDepth 100000 in
theorem open_shifts {v : Value} {d : DataW H} {ps : List MemPlace} (hval : Value.okWide Try.prog W r base 25 v) (h : DataW.Trod enc Try.prog W b0 spare held 25 v d ps) : ∃ A n c l, v = .slice A n c ∧ Shifts W A n l ∧ n ≤ c := by
  obtain ⟨a0, len, cap, rfl⟩ := okWide_slice Try.underlying25 hval
  obtain ⟨fuel, hf⟩ := h
  exact shifts_of_trod hf
set_option maxRecDepth 100000 in
theorem tours_of_trod {fuel : Nat} {v : Value} {x : DataW H × List MemPlace} (hf : DataW.trod enc Try.prog W b0 spare held fuel 27 [v] = some x) : ∃ A n c l, v = .slice A n c ∧ Tours W A n l ∧ n ≤ c ∧ ∀ q ∈ l, q.n ≤ q.c ∧ q.n' ≤ q.c' := by
  rcases open_slice_fields Try.underlying27 Try.underlying51 (by kernel_rfl) (by kernel_rfl) hf with ⟨hcs, _⟩ | ⟨a, len, cap, m, D, Pl, hcs, _, hlc, _, hm, _, hcell⟩
  · simp at hcs
    subst hcs
    exact ⟨none, 0, 0, [], rfl, ⟨⟨rfl, rfl, fun h0 => absurd h0 (by omega)⟩, fun q hq => by cases hq⟩, Nat.le_refl _, fun q hq => by cases hq⟩
  · simp at hcs
    subst hcs
    have hlm : len ≤ m := by rw [hm]; split <;> omega
    have key : ∀ i, i < len → ∃ q : TV, ((Ints W q.A q.n q.t.stops ∧ Ints W q.A' q.n' q.t.times) ∧ q.n ≤ q.c ∧ q.n' ≤ q.c') ∧ ∀ j u, (TV.cells q)[j]? = some u → W.cell? (a.add (i * 4 + j)) = some u := by
      intro i hi
      obtain ⟨ys, n, _, _, _, hfld⟩ := hcell i (by omega)
      obtain ⟨v0, y0, d0, _, t0⟩ := hfld 0 _ rfl
      obtain ⟨v1, y1, d1, _, t1⟩ := hfld 1 _ rfl
      obtain ⟨v2, y2, d2, _, t2⟩ := hfld 2 _ rfl
      obtain ⟨v3, y3, d3, _, t3⟩ := hfld 3 _ rfl
      obtain ⟨n0, e0, _⟩ := DataW.trod_int Try.underlying3 t0
      obtain ⟨A1, m1, c1, l1, rfl, hI1, hc1⟩ := cints_of_trod t1
      obtain ⟨A2, m2, c2, l2, rfl, hI2, hc2⟩ := cints_of_trod t2
      obtain ⟨n3, e3, _⟩ := DataW.trod_int Try.underlying3 t3
      simp at e0 e3
      subst e0 e3
      refine ⟨⟨n0, A1, m1, c1, A2, m2, c2, ⟨l1, l2, n3⟩⟩, ⟨⟨hI1, hI2⟩, hc1, hc2⟩, ?_⟩
      intro j u hu
      rcases j with _ | _ | _ | _ | j <;> simp [TV.cells] at hu <;> subst hu <;> assumption
    obtain ⟨l, hl, hq⟩ := list_of key
    have hall : ∀ q ∈ l, (Ints W q.A q.n q.t.stops ∧ Ints W q.A' q.n' q.t.times) ∧ q.n ≤ q.c ∧ q.n' ≤ q.c' := fun q hq' => by
      obtain ⟨i, hi⟩ := List.mem_iff_getElem?.1 hq'
      exact (hq i q hi).1
    exact ⟨_, _, _, l, rfl, ⟨⟨hl.symm, by rw [flat_len TV.cells 4 (fun _ => rfl), hl], fun _ => ⟨a, rfl, flat_cell TV.cells 4 (fun _ => rfl) (by omega) fun i q hi => (hq i q hi).2⟩⟩, fun q h => (hall q h).1⟩, hlc, fun q h => (hall q h).2⟩

set_option maxRecDepth 100000 in
theorem open_tours {v : Value} {d : DataW H} {ps : List MemPlace} (hval : Value.okWide Try.prog W r base 27 v) (h : DataW.Trod enc Try.prog W b0 spare held 27 v d ps) : ∃ A n c l, v = .slice A n c ∧ Tours W A n l ∧ n ≤ c ∧ ∀ q ∈ l, q.n ≤ q.c ∧ q.n' ≤ q.c' := by
  obtain ⟨a0, len, cap, rfl⟩ := okWide_slice Try.underlying27 hval
  obtain ⟨fuel, hf⟩ := h
  exact tours_of_trod hf
set_option maxRecDepth 100000 in
theorem blks_of_trod {fuel : Nat} {v : Value} {x : DataW H × List MemPlace} (hf : DataW.trod enc Try.prog W b0 spare held fuel 28 [v] = some x) : ∃ A n c l, v = .slice A n c ∧ Blks W A n l ∧ n ≤ c ∧ ∀ q ∈ l, q.vn ≤ q.vc := by
  rcases open_slice_fields Try.underlying28 Try.underlying72 (by kernel_rfl) (by kernel_rfl) hf with ⟨hcs, _⟩ | ⟨a, len, cap, m, D, Pl, hcs, _, hlc, _, hm, _, hcell⟩
  · simp at hcs
    subst hcs
    exact ⟨none, 0, 0, [], rfl, ⟨⟨rfl, rfl, fun h0 => absurd h0 (by omega)⟩, fun q hq => by cases hq⟩, Nat.le_refl _, fun q hq => by cases hq⟩
  · simp at hcs
    subst hcs
    have hlm : len ≤ m := by rw [hm]; split <;> omega
    have key : ∀ i, i < len → ∃ q : BV, ((Ints W q.V q.vn q.v ∧ Labs W q.LA q.ln q.lb) ∧ q.vn ≤ q.vc) ∧ ∀ j u, (BV.cells q)[j]? = some u → W.cell? (a.add (i * 3 + j)) = some u := by
      intro i hi
      obtain ⟨ys, n, _, _, _, hfld⟩ := hcell i (by omega)
      obtain ⟨v0, y0, d0, _, t0⟩ := hfld 0 _ rfl
      obtain ⟨v1, y1, d1, _, t1⟩ := hfld 1 _ rfl
      obtain ⟨v2, y2, d2, _, t2⟩ := hfld 2 _ rfl
      obtain ⟨n0, e0, _⟩ := DataW.trod_int Try.underlying3 t0
      obtain ⟨A1, m1, c1, l1, rfl, hI1, hc1⟩ := cints_of_trod t1
      obtain ⟨A2, m2, c2, l2, rfl, hI2⟩ := labs_of_trod t2
      simp at e0
      subst e0
      refine ⟨⟨n0, A1, m1, c1, l1, A2, m2, c2, l2⟩, ⟨⟨hI1, hI2⟩, hc1⟩, ?_⟩
      intro j u hu
      rcases j with _ | _ | _ | j <;> simp [BV.cells] at hu <;> subst hu <;> assumption
    obtain ⟨l, hl, hq⟩ := list_of key
    have hall : ∀ q ∈ l, (Ints W q.V q.vn q.v ∧ Labs W q.LA q.ln q.lb) ∧ q.vn ≤ q.vc := fun q hq' => by
      obtain ⟨i, hi⟩ := List.mem_iff_getElem?.1 hq'
      exact (hq i q hi).1
    exact ⟨_, _, _, l, rfl, ⟨⟨hl.symm, by rw [flat_len BV.cells 3 (fun _ => rfl), hl], fun _ => ⟨a, rfl, flat_cell BV.cells 3 (fun _ => rfl) (by omega) fun i q hi => (hq i q hi).2⟩⟩, fun q h => (hall q h).1⟩, hlc, fun q h => (hall q h).2⟩

set_option maxRecDepth 100000 in
theorem open_blks {v : Value} {d : DataW H} {ps : List MemPlace} (hval : Value.okWide Try.prog W r base 28 v) (h : DataW.Trod enc Try.prog W b0 spare held 28 v d ps) : ∃ A n c l, v = .slice A n c ∧ Blks W A n l ∧ n ≤ c ∧ ∀ q ∈ l, q.vn ≤ q.vc := by
  obtain ⟨a0, len, cap, rfl⟩ := okWide_slice Try.underlying28 hval
  obtain ⟨fuel, hf⟩ := h
  exact blks_of_trod hf
end
end Go.Proofs.Ytippdjmpkafifaa
