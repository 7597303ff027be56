/-
The arguments of the laws of Truck, opened to cells: numbers, requests, a shift.
-/
import Derived.Test.YtdbllcphopecjaaOpen
import Derived.Test.YtdbllcphopecjaaMem3
namespace Go.Proofs.Ytdbllcphopecjaa
open Go.ChangeShapes Go.WideShapes Go.Deep Go.RowKit
section
variable {H : Type} {enc : TypeId × Value → H} {W : World} {base b0 : Nat} {spare : Nat → Bool} {held : Bool} {r : Reach}

theorem wins_of_trod {fuel : Nat} {v : Value} {x : DataW H × List MemPlace} (hf : DataW.trod enc Try.prog W b0 spare held fuel 29 [v] = some x) : ∃ A n c l, v = .slice A n c ∧ Wins W A n l := by
  rcases open_slice_fields Try.underlying29 Try.underlying56 (by kernel_rfl) (by kernel_rfl) hf with ⟨hcs, _⟩ | ⟨a, len, cap, m, D, Pl, hcs, _, hlc, _, hm, _, hcell⟩
  · simp at hcs
    subst hcs
    exact ⟨none, 0, 0, [], rfl, rfl, rfl, fun h0 => absurd h0 (by omega)⟩
  · simp at hcs
    subst hcs
    have hlm : len ≤ m := by rw [hm]; split <;> omega
    have key : ∀ i, i < len → ∃ p : Int × Int, W.cell? (a.add (i * 2)) = some (.int .i64 p.1) ∧ W.cell? (a.add (i * 2 + 1)) = some (.int .i64 p.2) := by
      intro i hi
      obtain ⟨ys, n, _, _, _, hfld⟩ := hcell i (by omega)
      obtain ⟨v0, y0, c0, _, t0⟩ := hfld 0 _ rfl
      obtain ⟨v1, y1, c1, _, t1⟩ := hfld 1 _ rfl
      obtain ⟨n0, e0, _⟩ := DataW.trod_int Try.underlying3 t0
      obtain ⟨n1, e1, _⟩ := DataW.trod_int Try.underlying3 t1
      simp at e0 e1
      subst e0 e1
      exact ⟨(n0, n1), c0, c1⟩
    obtain ⟨l, hl, hq⟩ := list_of key
    exact ⟨_, _, _, l, rfl, hl.symm, by rw [winCells_len, hl], fun _ => ⟨a, rfl, winCells_cell hq⟩⟩

theorem ints_of_trod {fuel : Nat} {v : Value} {x : DataW H × List MemPlace} (hf : DataW.trod enc Try.prog W b0 spare held fuel 22 [v] = some x) : ∃ A n c l, v = .slice A n c ∧ Ints W A n l := by
  rcases open_slice Try.underlying22 hf with ⟨hcs, _⟩ | ⟨a, len, cap, m, n, D, Pl, hcs, _, hlc, _, hm, _, hcell⟩
  · simp at hcs
    subst hcs
    exact ⟨none, 0, 0, [], rfl, rfl, rfl, fun h0 => absurd h0 (by omega)⟩
  · simp at hcs
    subst hcs
    have hC : Try.prog.cellsOf 3 = 1 := by kernel_rfl
    have hlm : len ≤ m := by rw [hm]; split <;> omega
    have key : ∀ i, i < len → ∃ p : Int, W.cell? (a.add i) = some (.int .i64 p) := by
      intro i hi
      obtain ⟨cs', hc, ht'⟩ := hcell i (by omega)
      rw [hC, Nat.mul_one] at hc
      obtain ⟨_, _, hat⟩ := World.cells?_some hc
      obtain ⟨n0, e0, _⟩ := DataW.trod_int Try.underlying3 ht'
      subst e0
      have h0 := hat 0 (by omega)
      rw [Go.Deep.add_add, Nat.add_zero] at h0
      exact ⟨n0, h0⟩
    obtain ⟨l, hl, hq⟩ := list_of key
    refine ⟨_, _, _, l, rfl, hl.symm, by simp [intCells, hl], fun _ => ⟨a, rfl, ?_⟩⟩
    intro j u hu
    rw [intCells, List.getElem?_map] at hu
    obtain ⟨y, hy, rfl⟩ := Option.map_eq_some_iff.1 hu
    exact hq j y hy

theorem reqCells_cell {w : World} {ad : Addr} {l : List Q} (h : ∀ i q, l[i]? = some q → ∀ j u, q.cells[j]? = some u → w.cell? (ad.add (i * 7 + j)) = some u) :
    ∀ j u, (reqCells l)[j]? = some u → w.cell? (ad.add j) = some u := by
  intro j u hu
  have hj : j < (reqCells l).length := (List.getElem?_eq_some_iff.1 hu).1
  rw [reqCells_len] at hj
  have hp : l[j / 7]? = some (l[j / 7]'(by omega)) := List.getElem?_eq_getElem (by omega)
  have hjj : j = j / 7 * 7 + j % 7 := by omega
  have g := reqCells_get l _ _ hp (j % 7) (by omega)
  rw [← hjj, hu] at g
  have := h _ _ hp (j % 7) u g.symm
  rwa [← hjj] at this

theorem reqs_of_trod {fuel : Nat} {v : Value} {x : DataW H × List MemPlace} (hf : DataW.trod enc Try.prog W b0 spare held fuel 25 [v] = some x) : ∃ A n c l, v = .slice A n c ∧ Reqs W A n l := by
  rcases open_slice_fields Try.underlying25 Try.underlying31 (by kernel_rfl) (by kernel_rfl) hf with ⟨hcs, _⟩ | ⟨a, len, cap, m, D, Pl, hcs, _, hlc, _, hm, _, hcell⟩
  · simp at hcs
    subst hcs
    exact ⟨none, 0, 0, [], rfl, rfl, ⟨rfl, fun h0 => absurd h0 (by omega)⟩, fun q hq => by simp at hq⟩
  · simp at hcs
    subst hcs
    have hlm : len ≤ m := by rw [hm]; split <;> omega
    have key : ∀ i, i < len → ∃ q : Q, Wins W q.A q.n q.l ∧ ∀ j u, q.cells[j]? = some u → W.cell? (a.add (i * 7 + j)) = some u := by
      intro i hi
      obtain ⟨ys, n, _, _, _, hfld⟩ := hcell i (by omega)
      obtain ⟨v0, y0, c0, _, t0⟩ := hfld 0 _ rfl
      obtain ⟨v1, y1, c1, _, t1⟩ := hfld 1 _ rfl
      obtain ⟨v2, y2, c2, _, t2⟩ := hfld 2 _ rfl
      obtain ⟨v3, y3, c3, _, t3⟩ := hfld 3 _ rfl
      obtain ⟨v4, y4, c4, _, t4⟩ := hfld 4 _ rfl
      obtain ⟨v5, y5, c5, _, t5⟩ := hfld 5 _ rfl
      obtain ⟨v6, y6, c6, _, t6⟩ := hfld 6 _ rfl
      obtain ⟨n0, e0, _⟩ := DataW.trod_int Try.underlying3 t0
      obtain ⟨n1, e1, _⟩ := DataW.trod_int Try.underlying3 t1
      obtain ⟨n2, e2, _⟩ := DataW.trod_int Try.underlying3 t2
      obtain ⟨n3, e3, _⟩ := DataW.trod_int Try.underlying3 t3
      obtain ⟨n4, e4, _⟩ := DataW.trod_int Try.underlying3 t4
      obtain ⟨n5, e5, _⟩ := DataW.trod_int Try.underlying3 t5
      obtain ⟨A, nn, cc, l, rfl, hw⟩ := wins_of_trod t6
      simp at e0 e1 e2 e3 e4 e5
      subst e0 e1 e2 e3 e4 e5
      refine ⟨⟨n0, n1, n2, n3, n4, n5, A, nn, cc, l⟩, hw, ?_⟩
      intro j u hu
      rcases j with _ | _ | _ | _ | _ | _ | _ | j <;> simp [Q.cells] at hu <;> subst hu <;> assumption
    obtain ⟨l, hl, hq⟩ := list_of key
    refine ⟨_, _, _, l, rfl, hl.symm, ⟨by rw [reqCells_len, hl], fun _ => ⟨a, rfl, reqCells_cell fun i q hi => (hq i q hi).2⟩⟩, ?_⟩
    intro q hq'
    obtain ⟨i, hi⟩ := List.mem_iff_getElem?.1 hq'
    exact (hq i q hi).1

theorem open_ints {v : Value} {d : DataW H} {ps : List MemPlace} (hval : Value.okWide Try.prog W r base 22 v) (h : DataW.Trod enc Try.prog W b0 spare held 22 v d ps) : ∃ A n c l, v = .slice A n c ∧ Ints W A n l := by
  obtain ⟨a0, len, cap, rfl⟩ := okWide_slice Try.underlying22 hval
  obtain ⟨fuel, hf⟩ := h
  exact ints_of_trod hf

theorem open_reqs {v : Value} {d : DataW H} {ps : List MemPlace} (hval : Value.okWide Try.prog W r base 25 v) (h : DataW.Trod enc Try.prog W b0 spare held 25 v d ps) : ∃ A n c l, v = .slice A n c ∧ Reqs W A n l := by
  obtain ⟨a0, len, cap, rfl⟩ := okWide_slice Try.underlying25 hval
  obtain ⟨fuel, hf⟩ := h
  exact reqs_of_trod hf

theorem open_shift {v : Value} {d : DataW H} {ps : List MemPlace} (hval : Value.okWide Try.prog W r base 24 v) (h : DataW.Trod enc Try.prog W b0 spare held 24 v d ps) : ∃ s : S, v = .agg #[.int .i64 s.day, .int .i64 s.depot, .int .i64 s.start, .int .i64 s.end_, .int .i64 s.tare, .slice s.A s.n s.c] ∧ Ints W s.A s.n s.l := by
  obtain ⟨cs, rfl, hsz⟩ := okWide_struct Try.underlying24 hval
  obtain ⟨fuel, hf⟩ := h
  obtain ⟨ys, n', _, _, hlen, hyl, hfl⟩ := DataW.trod_struct Try.underlying24 hf
  rw [show Try.prog.cellsOf 24 = 6 by kernel_rfl] at hsz
  obtain ⟨v0, v1, v2, v3, v4, v5, rfl⟩ : ∃ v0 v1 v2 v3 v4 v5, cs = #[v0, v1, v2, v3, v4, v5] := by
    obtain ⟨l⟩ := cs
    rcases l with _ | ⟨v0, _ | ⟨v1, _ | ⟨v2, _ | ⟨v3, _ | ⟨v4, _ | ⟨v5, _ | ⟨v6, l⟩⟩⟩⟩⟩⟩⟩ <;> simp at hsz
    exact ⟨_, _, _, _, _, _, rfl⟩
  have C3 : Try.prog.cellsOf 3 = 1 := by kernel_rfl
  have C22 : Try.prog.cellsOf 22 = 1 := by kernel_rfl
  have get : ∀ i, i < ys.length → ∃ y, ys[i]? = some y := fun i hi => ⟨_, List.getElem?_eq_getElem hi⟩
  have h6 : ys.length = 6 := hyl
  have t0 := hfl 0 _ rfl
  have t1 := hfl 1 _ rfl
  have t2 := hfl 2 _ rfl
  have t3 := hfl 3 _ rfl
  have t4 := hfl 4 _ rfl
  have t5 := hfl 5 _ rfl
  obtain ⟨y0, g0⟩ := get 0 (by omega)
  obtain ⟨y1, g1⟩ := get 1 (by omega)
  obtain ⟨y2, g2⟩ := get 2 (by omega)
  obtain ⟨y3, g3⟩ := get 3 (by omega)
  obtain ⟨y4, g4⟩ := get 4 (by omega)
  obtain ⟨y5, g5⟩ := get 5 (by omega)
  rw [g0] at t0
  rw [g1] at t1
  rw [g2] at t2
  rw [g3] at t3
  rw [g4] at t4
  rw [g5] at t5
  simp [C3, C22, Value.cells] at t0 t1 t2 t3 t4 t5
  obtain ⟨n0, e0, _⟩ := DataW.trod_int Try.underlying3 t0
  obtain ⟨n1, e1, _⟩ := DataW.trod_int Try.underlying3 t1
  obtain ⟨n2, e2, _⟩ := DataW.trod_int Try.underlying3 t2
  obtain ⟨n3, e3, _⟩ := DataW.trod_int Try.underlying3 t3
  obtain ⟨n4, e4, _⟩ := DataW.trod_int Try.underlying3 t4
  obtain ⟨A, n, c, l, e5, hI⟩ := ints_of_trod t5
  simp at e0 e1 e2 e3 e4 e5
  subst e0 e1 e2 e3 e4 e5
  exact ⟨⟨n0, n1, n2, n3, n4, A, n, c, l⟩, rfl, hI⟩
end
end Go.Proofs.Ytdbllcphopecjaa
