/-
What opens the arguments of the laws: lists of labels, blocks.
-/
import Derived.Test.YtippdjmpkafifaaBO
import Derived.Test.YtippdjmpkafifaaPC
namespace Go.Proofs.Ytippdjmpkafifaa
open Go.ChangeShapes Go.WideShapes Go.Deep Go.RowKit
section
variable {H : Type} {enc : TypeId × Value → H} {W : World} {base b0 : Nat} {spare : Nat → Bool} {held : Bool} {r : Reach}



theorem labs_cell {W : World} {ad : Addr} {l : List Lb} (h : ∀ (i : Nat) (q : Lb), l[i]? = some q → ∀ (j : Nat) (u : Value), (labCells q)[j]? = some u → W.cell? (ad.add (i * 3 + j)) = some u) :
    ∀ j u, (l.flatMap labCells)[j]? = some u → W.cell? (ad.add j) = some u := by
  intro j u hu
  have hj : j < (l.flatMap labCells).length := (List.getElem?_eq_some_iff.1 hu).1
  rw [flat_len labCells 3 (fun _ => rfl)] at hj
  have hp : l[j / 3]? = some (l[j / 3]'(by omega)) := List.getElem?_eq_getElem (by omega)
  have hjj : j = j / 3 * 3 + j % 3 := by omega
  have g := flat_get labCells 3 (fun _ => rfl) l _ _ hp (j % 3) (by omega)
  rw [← hjj, hu] at g
  have := h _ _ hp (j % 3) u g.symm
  rwa [← hjj] at this

set_option maxRecDepth 100000 in
theorem labs_of_trod {fuel : Nat} {v : Value} {x : DataW H × List MemPlace} (hf : DataW.trod enc Try.prog W b0 spare held fuel 70 [v] = some x) : ∃ A n c l, v = .slice A n c ∧ Labs W A n l := by
  rcases open_slice_fields Try.underlying70 Try.underlying137 (by kernel_rfl) (by kernel_rfl) hf with ⟨hcs, _⟩ | ⟨a, len, cap, m, D, Pl, hcs, _, hlc, _, hm, _, hcell⟩
  · simp at hcs
    subst hcs
    exact ⟨none, 0, 0, [], rfl, rfl, rfl, fun h0 => absurd h0 (by omega)⟩
  · simp at hcs
    subst hcs
    have hlm : len ≤ m := by rw [hm]; split <;> omega
    have key : ∀ i, i < len → ∃ q : Lb, ∀ j u, (labCells q)[j]? = some u → W.cell? (a.add (i * 3 + j)) = some u := by
      intro i hi
      obtain ⟨ys, n, _, _, _, hfld⟩ := hcell i (by omega)
      obtain ⟨v0, y0, c0, _, t0⟩ := hfld 0 _ rfl
      obtain ⟨v1, y1, c1, _, t1⟩ := hfld 1 _ rfl
      obtain ⟨v2, y2, c2, _, t2⟩ := hfld 2 _ rfl
      obtain ⟨n0, e0, _⟩ := DataW.trod_int Try.underlying3 t0
      obtain ⟨n1, e1, _⟩ := DataW.trod_int Try.underlying3 t1
      obtain ⟨n2, e2, _⟩ := DataW.trod_int Try.underlying3 t2
      simp at e0 e1 e2
      subst e0 e1 e2
      refine ⟨⟨n0, n1, n2⟩, ?_⟩
      intro j u hu
      rcases j with _ | _ | _ | j <;> simp [labCells] at hu <;> subst hu <;> assumption
    obtain ⟨l, hl, hq⟩ := list_of key
    exact ⟨_, _, _, l, rfl, hl.symm, by rw [flat_len labCells 3 (fun _ => rfl), hl], fun _ => ⟨a, rfl, labs_cell fun i q hi => hq i q hi⟩⟩

set_option maxRecDepth 100000 in
theorem open_labs {v : Value} {d : DataW H} {ps : List MemPlace} (hval : Value.okWide Try.prog W r base 70 v) (h : DataW.Trod enc Try.prog W b0 spare held 70 v d ps) : ∃ A n c l, v = .slice A n c ∧ Labs W A n l := by
  obtain ⟨a0, len, cap, rfl⟩ := okWide_slice Try.underlying70 hval
  obtain ⟨fuel, hf⟩ := h
  exact labs_of_trod hf
end
end Go.Proofs.Ytippdjmpkafifaa
