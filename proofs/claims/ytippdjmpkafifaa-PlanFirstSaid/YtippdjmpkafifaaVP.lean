/-
What opens the arguments of the laws: a block.
-/
import Derived.Test.YtippdjmpkafifaaVO
namespace Go.Proofs.Ytippdjmpkafifaa
open Go.ChangeShapes Go.WideShapes Go.Deep Go.RowKit
section
variable {H : Type} {enc : TypeId × Value → H} {W : World} {base b0 : Nat} {spare : Nat → Bool} {held : Bool} {r : Reach}
set_option maxRecDepth 100000 in
theorem open_block {v : Value} {d : DataW H} {ps : List MemPlace} (hval : Value.okWide Try.prog W r base 72 v) (h : DataW.Trod enc Try.prog W b0 spare held 72 v d ps) :
    ∃ sh U un uc u LA ln lc lb, v = .agg #[.int .i64 sh, .slice U un uc, .slice LA ln lc] ∧ Ints W U un u ∧ un ≤ uc ∧ Labs W LA ln lb := by
  obtain ⟨cs, rfl, hsz⟩ := okWide_struct Try.underlying72 hval
  obtain ⟨fuel, hf⟩ := h
  obtain ⟨ys, n', _, _, hlen, hyl, hfl⟩ := DataW.trod_struct Try.underlying72 hf
  rw [show Try.prog.cellsOf 72 = 3 by kernel_rfl] at hsz
  obtain ⟨v0, v1, v2, rfl⟩ : ∃ v0 v1 v2, cs = #[v0, v1, v2] := by
    obtain ⟨l⟩ := cs
    rcases l with _ | ⟨v0, _ | ⟨v1, _ | ⟨v2, _ | ⟨v3, l⟩⟩⟩⟩ <;> simp at hsz
    exact ⟨_, _, _, rfl⟩
  have C3 : Try.prog.cellsOf 3 = 1 := by kernel_rfl
  have C25 : Try.prog.cellsOf 41 = 1 := by kernel_rfl
  have C49 : Try.prog.cellsOf 70 = 1 := by kernel_rfl
  have get : ∀ i, i < ys.length → ∃ y, ys[i]? = some y := fun i hi => ⟨_, List.getElem?_eq_getElem hi⟩
  have h4 : ys.length = 3 := hyl
  have t0 := hfl 0 _ rfl
  have t1 := hfl 1 _ rfl
  have t2 := hfl 2 _ rfl
  obtain ⟨y0, g0⟩ := get 0 (by omega)
  obtain ⟨y1, g1⟩ := get 1 (by omega)
  obtain ⟨y2, g2⟩ := get 2 (by omega)
  rw [g0] at t0
  rw [g1] at t1
  rw [g2] at t2
  simp [C3, C25, C49, Value.cells] at t0 t1 t2
  obtain ⟨n0, e0, _⟩ := DataW.trod_int Try.underlying3 t0
  obtain ⟨A, n, c, l, e1, hI, hc⟩ := cints_of_trod t1
  obtain ⟨A2, n2, c2, l2, e2, hI2⟩ := labs_of_trod t2
  simp at e0 e1 e2
  subst e0 e1 e2
  exact ⟨n0, A, n, c, l, A2, n2, c2, l2, rfl, hI, hc, hI2⟩
end
end Go.Proofs.Ytippdjmpkafifaa
