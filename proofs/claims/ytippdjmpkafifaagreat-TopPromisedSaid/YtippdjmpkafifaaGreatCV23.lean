/-
The arguments of a law, opened; what a law has to show of the memory behind it.
-/
import Derived.Deep.Slices
import Derived.Deep.Fields
import Derived.ChangeSame
import Derived.ProofKit
import Derived.OpenShut
import Derived.Test.YtippdjmpkafifaaGreatRows
import Derived.Test.YtippdjmpkafifaaGreatCV12
namespace Go.Proofs.YtippdjmpkafifaaGreat
open Go.RowKit
theorem winCells_len (l : List (Int × Int)) : (winCells l).length = l.length * 2 := by
  induction l with
  | nil => rfl
  | cons p l ih => simp [winCells, ih]; omega
end Go.Proofs.YtippdjmpkafifaaGreat
namespace Go.Proofs.YtippdjmpkafifaaGreat
open Go.ChangeShapes Go.WideShapes Go.Deep Go.RowKit
section
variable {H : Type} {enc : TypeId × Value → H} {P : Program} {w : World} {base : Nat} {spare : Nat → Bool} {held : Bool}
set_option maxRecDepth 100000 in
theorem open_slice_fields {t e : TypeId} {fs : Array Field} {fuel : Nat} {cs : List Value} {x : DataW H × List MemPlace} (ht : P.underlying t = some (.slice e)) (he : P.underlying e = some (.struct fs))
    (hone : oneCellFields P fs = true) (hC : P.cellsOf e = fs.size) (h : DataW.trod enc P w base spare held fuel t cs = some x) :
    (cs = [.slice none 0 0] ∧ x = (.nil, [])) ∨
    ∃ (a : Addr) (len cap m : Nat) (D : Nat → DataW H) (Pl : Nat → List MemPlace), cs = [.slice (some a) len cap] ∧ base ≤ a.block ∧ len ≤ cap ∧ cap ≤ maxLen ∧ m = (if spare a.block then cap else len) ∧
      x = (.slice ((List.range len).map D) ((List.range (m - len)).map fun j => D (len + j)), MemPlace.row a (m * fs.size) ++ (List.range m).flatMap Pl) ∧
      ∀ i, i < m → ∃ (ys : List (DataW H × List MemPlace)) (n : Nat), D i = .agg (ys.map (·.1)) ∧ Pl i = ys.flatMap (·.2) ∧ ys.length = fs.size ∧
        ∀ (j : Nat) (f : Field), fs[j]? = some f → ∃ (v : Value) (y : DataW H × List MemPlace), w.cell? (a.add (i * fs.size + j)) = some v ∧ ys[j]? = some y ∧ DataW.trod enc P w base spare held n f.type [v] = some y := by
  rcases open_slice ht h with h0 | ⟨a, len, cap, m, n, D, Pl, hcs, hb, hl, hm, hmm, hx, hi⟩
  · exact .inl h0
  · refine .inr ⟨a, len, cap, m, D, Pl, hcs, hb, hl, hm, hmm, by rw [hC] at hx; exact hx, fun i him => ?_⟩
    obtain ⟨cs', hc, ht'⟩ := hi i him
    rw [hC] at hc
    obtain ⟨ys, n', hn', hy, hlen, hyl, hf⟩ := DataW.trod_struct he ht'
    obtain ⟨_, hcl, hat⟩ := World.cells?_some hc
    simp only [Prod.mk.injEq] at hy
    refine ⟨ys, n', hy.1, hy.2, hyl, fun j f hj => ?_⟩
    obtain ⟨ho, hk⟩ := hone_of hone j f hj
    have hjl : j < fs.size := (Array.getElem?_eq_some_iff.1 hj).1
    have hcell := hat j hjl
    have hv : cs'[j]? = some (cs'[j]'(by omega)) := List.getElem?_eq_getElem (by omega)
    have h1 := hf j f hj
    rw [ho, hk] at h1
    have hone' : (cs'.drop j).take 1 = [cs'[j]'(by omega)] := by
      rw [List.drop_eq_getElem_cons (by omega)]
      rfl
    rw [hone'] at h1
    have hys : ys[j]? = some (ys[j]'(by omega)) := List.getElem?_eq_getElem (by omega)
    refine ⟨_, _, ?_, hys, h1.trans hys⟩
    rw [← Go.Deep.add_add, hcell, hv]
end
section
variable {H : Type} {enc : TypeId × Value → H} {P : Program}
theorem post_of_below {f : Func} {s : ChangeSpec} {apart fresh handsOn again : Bool} {W W' : World} {args : Array Value} {v : Value} {ds gs : List (DataW H)} {before pa pv : List MemPlace}
    (hW : DataW.Whole enc P f.params.toList s.vars apart W args.toList ds gs before)
    (hres : ∀ (b : Nat) (sp : Nat → Bool) (hd : Bool), DataW.TrodAll enc P W' b sp hd f.resultTypes.toList (v.resultList f.resultTypes.size) (s.fn H (ds ++ gs)).results [])
    (hargs : ∀ sp : Nat → Bool, (∀ p ∈ before, sp p.block = true) → DataW.TrodAll enc P W' 0 sp true f.params.toList args.toList (s.fn H (ds ++ gs)).args pa)
    (hvars : ∀ sp : Nat → Bool, (∀ p ∈ before, sp p.block = true) → DataW.TrodVars enc P W' sp s.vars (s.fn H (ds ++ gs)).vars pv)
    (hps : before = pa ++ pv) (hb : Below W.heap.size W W')
    (hok : ∀ (j : Nat) (t : TypeId) (r : Value), f.resultTypes[j]? = some t → (v.resultList f.resultTypes.size)[j]? = some r → Value.okWide P W' .any 0 t r) :
    s.post enc P f apart fresh handsOn again W args v W' := by
  have hlt : ∀ p ∈ before, p.block < W.heap.size := fun p hp => hW.lt p hp
  have hold : ∀ p ∈ before, (fun b => decide (b < W.heap.size)) p.block = true := fun p hp => by simpa using hlt p hp
  refine ⟨ds, gs, before, [], pa, pv, hW, hres _ _ _, hargs _ hold, hvars _ hold, World.keptBut_mono (fun p hp => ⟨hp, ?_⟩) (hb.frame (· ∈ before)), fun _ => ?_⟩
  · rw [hps, List.mem_append] at hp
    exact Or.inr hp
  · obtain ⟨_, _, _, _, _, hz, hn⟩ := hW
    refine ⟨hok, _, _, ([] ++ pa) ++ pv, ⟨[] ++ pa, pv, trodAll_append (hargs _ (fun _ _ => rfl)) (hres _ _ _), hvars _ (fun _ _ => rfl), rfl, ?_, ?_⟩, ?_⟩
    · intro b off hp
      have hin : MemPlace.cell b off ∈ before := by rw [hps]; simpa using hp
      rw [hb.frozen (hlt _ hin)]
      exact hz b off hin
    · intro ha
      have := hn ha
      rw [hps] at this
      simpa using this
    · intro p hp _
      rw [hps]
      simpa using hp
end
theorem list_of {α : Type} {n : Nat} {Q : Nat → α → Prop} (h : ∀ i, i < n → ∃ x, Q i x) : ∃ l : List α, l.length = n ∧ ∀ i x, l[i]? = some x → Q i x := by
  induction n with
  | zero => exact ⟨[], rfl, fun i x hx => by simp at hx⟩
  | succ n ih =>
    obtain ⟨l, hl, hq⟩ := ih (fun i hi => h i (by omega))
    obtain ⟨x, hx⟩ := h n (by omega)
    refine ⟨l ++ [x], by simp [hl], fun i y hy => ?_⟩
    rw [List.getElem?_append] at hy
    split at hy
    · exact hq i y hy
    · rename_i hlt
      have e : i = n := by
        by_cases e : i - l.length = 0
        · omega
        · rw [List.getElem?_eq_none (by simp; omega)] at hy; cases hy
      subst e
      rw [← hl, Nat.sub_self] at hy
      simp at hy
      subst hy; exact hx
theorem winCells_cell {w : World} {ad : Addr} {l : List (Int × Int)} (h : ∀ i p, l[i]? = some p → w.cell? (ad.add (i * 2)) = some (.int .i64 p.1) ∧ w.cell? (ad.add (i * 2 + 1)) = some (.int .i64 p.2)) :
    ∀ j u, (winCells l)[j]? = some u → w.cell? (ad.add j) = some u := by
  intro j u hu
  have hj : j < (winCells l).length := (List.getElem?_eq_some_iff.1 hu).1
  rw [winCells_len] at hj
  have hp : l[j / 2]? = some (l[j / 2]'(by omega)) := List.getElem?_eq_getElem (by omega)
  obtain ⟨g1, g2⟩ := winCells_get l _ _ hp
  obtain ⟨k1, k2⟩ := h _ _ hp
  by_cases e : j % 2 = 0
  · have : j = j / 2 * 2 := by omega
    rw [this] at hu ⊢
    rw [g1] at hu
    injection hu with hu
    rw [← hu]; exact k1
  · have : j = j / 2 * 2 + 1 := by omega
    rw [this] at hu ⊢
    rw [g2] at hu
    injection hu with hu
    rw [← hu]; exact k2
section
variable {H : Type} {enc : TypeId × Value → H} {W : World} {base b0 : Nat} {spare : Nat → Bool} {held : Bool} {r : Reach}
end
section
variable {H : Type} {enc : TypeId × Value → H} {P : Program}
theorem trodAll_stays (hl : laidOutB P = true) {W W' : World} {sp : Nat → Bool} (hb : Below W.heap.size W W') :
    ∀ (ts : List TypeId) (vs : List Value) (ds : List (DataW H)) (ps : List MemPlace), (∀ t ∈ ts, P.readableRec t = true ∧ t < P.types.size) → DataW.TrodAll enc P W 0 (fun _ => true) true ts vs ds ps →
      (∀ x ∈ ps, x.block < W.heap.size) → (∀ x ∈ ps, sp x.block = true) → DataW.TrodAll enc P W' 0 sp true ts vs ds ps := by
  intro ts
  induction ts with
  | nil => intro vs ds ps _ h _ _; cases vs <;> cases ds <;> first | exact h | exact h.elim
  | cons t ts ih =>
    intro vs ds ps hts h hlt hsp
    match vs, ds, h with
    | v :: vs, d :: ds, ⟨p, q, h1, h2, e⟩ =>
      subst e
      have ht := hts t (List.mem_cons_self ..)
      exact ⟨p, q, WideElems.Trod_stays hl ht.1 ht.2 h1 (fun x hx => hb.same (hlt x (List.mem_append_left _ hx))) (fun x hx => hsp x (List.mem_append_left _ hx)),
        ih vs ds q (fun t' h' => hts t' (List.mem_cons_of_mem _ h')) h2 (fun x hx => hlt x (List.mem_append_right _ hx)) (fun x hx => hsp x (List.mem_append_right _ hx)), rfl⟩
end
set_option maxRecDepth 100000 in
theorem Tryz.laid : laidOutB Tryz.prog = true := by kernel_rfl
section
variable {H : Type} {enc : TypeId × Value → H}
set_option maxRecDepth 100000 in
theorem post_true {f : Func} {s : ChangeSpec} {W W' : World} {args : Array Value} {ds : List (DataW H)} {before : List MemPlace} (hts : ∀ t ∈ f.params.toList, Tryz.prog.readableRec t = true ∧ t < Tryz.prog.types.size)
    (hv : s.vars = []) (hres : f.resultTypes = #[4]) (hW : DataW.Whole enc Tryz.prog f.params.toList s.vars false W args.toList ds [] before)
    (hspec : s.fn H (ds ++ []) = { results := [.lit (.bool true)], args := ds }) (hb : Below W.heap.size W W') : s.post enc Tryz.prog f false true false false W args (.bool true) W' := by
  have hW' := hW
  obtain ⟨p, q, hA, hV, rfl, hfz, hnd⟩ := hW
  rw [hv] at hV
  obtain ⟨_, rfl⟩ := trodVars_none hV
  have hlt : ∀ x ∈ p ++ [], x.block < W.heap.size := fun x hx => hW'.lt x hx
  rw [List.append_nil] at hlt
  refine post_of_below (pa := p) (pv := []) hW' ?_ ?_ ?_ rfl hb ?_
  · intro b sp hd
    rw [hspec, hres]
    exact trodAll_cons_mk (shut_bool Tryz.underlying4 _) trodAll_mk0
  · intro sp hsp
    rw [hspec]
    exact trodAll_stays Tryz.laid hb _ _ _ _ hts hA hlt (fun x hx => hsp x (by simpa using hx))
  · intro sp _
    rw [hspec, hv]
    rfl
  · exact ok_one hres rfl (okWide_bool_mk Tryz.underlying4 _)
end
end Go.Proofs.YtippdjmpkafifaaGreat
namespace Go.Proofs.YtippdjmpkafifaaGreat
open Go.ChangeShapes Go.WideShapes Go.Deep Go.RowKit
section
variable {H : Type} {enc : TypeId × Value → H} {W : World} {base b0 : Nat} {spare : Nat → Bool} {held : Bool} {r : Reach}
set_option maxRecDepth 100000 in
theorem wins_of_trod {fuel : Nat} {v : Value} {x : DataW H × List MemPlace} (hf : DataW.trod enc Tryz.prog W b0 spare held fuel 45 [v] = some x) : ∃ A n c l, v = .slice A n c ∧ Wins W A n l := by
  rcases open_slice_fields Tryz.underlying45 Tryz.underlying158 (by kernel_rfl) (by kernel_rfl) hf with ⟨hcs, _⟩ | ⟨a, len, cap, m, D, Pl, hcs, _, hlc, _, hm, _, hcell⟩
  · simp at hcs
    subst hcs
    exact ⟨none, 0, 0, [], rfl, rfl, rfl, fun h0 => absurd h0 (by omega)⟩
  · simp at hcs
    subst hcs
    have hlm : len ≤ m := by rw [hm]; split <;> omega
    have key : ∀ i, i < len → ∃ p : Int × Int, W.cell? (a.add (i * 2)) = some (.int .i64 p.1) ∧ W.cell? (a.add (i * 2 + 1)) = some (.int .i64 p.2) := by
      intro i hi
      obtain ⟨ys, n, _, _, _, hfld⟩ := hcell i (by omega)
      obtain ⟨v0, y0, c0, _, t0⟩ := hfld 0 _ rfl
      obtain ⟨v1, y1, c1, _, t1⟩ := hfld 1 _ rfl
      obtain ⟨n0, e0, _⟩ := DataW.trod_int Tryz.underlying3 t0
      obtain ⟨n1, e1, _⟩ := DataW.trod_int Tryz.underlying3 t1
      simp at e0 e1
      subst e0 e1
      exact ⟨(n0, n1), c0, c1⟩
    obtain ⟨l, hl, hq⟩ := list_of key
    exact ⟨_, _, _, l, rfl, hl.symm, by rw [winCells_len, hl], fun _ => ⟨a, rfl, winCells_cell hq⟩⟩
theorem reqCells_cell {w : World} {ad : Addr} {l : List Q} (h : ∀ i q, l[i]? = some q → ∀ j u, q.cells[j]? = some u → w.cell? (ad.add (i * 7 + j)) = some u) :
    ∀ j u, (reqCells l)[j]? = some u → w.cell? (ad.add j) = some u := by
  intro j u hu
  have hj : j < (reqCells l).length := (List.getElem?_eq_some_iff.1 hu).1
  rw [reqCells_len] at hj
  have hp : l[j / 7]? = some (l[j / 7]'(by omega)) := List.getElem?_eq_getElem (by omega)
  have hjj : j = j / 7 * 7 + j % 7 := by omega
  have g := reqCells_get l _ _ hp (j % 7) (by omega)
  rw [← hjj, hu] at g
  have := h _ _ hp (j % 7) u g.symm
  rwa [← hjj] at this
set_option maxRecDepth 100000 in
theorem reqs_of_trod {fuel : Nat} {v : Value} {x : DataW H × List MemPlace} (hf : DataW.trod enc Tryz.prog W b0 spare held fuel 26 [v] = some x) : ∃ A n c l, v = .slice A n c ∧ Reqs W A n l := by
  rcases open_slice_fields Tryz.underlying26 Tryz.underlying47 (by kernel_rfl) (by kernel_rfl) hf with ⟨hcs, _⟩ | ⟨a, len, cap, m, D, Pl, hcs, _, hlc, _, hm, _, hcell⟩
  · simp at hcs
    subst hcs
    exact ⟨none, 0, 0, [], rfl, rfl, ⟨rfl, fun h0 => absurd h0 (by omega)⟩, fun q hq => by simp at hq⟩
  · simp at hcs
    subst hcs
    have hlm : len ≤ m := by rw [hm]; split <;> omega
    have key : ∀ i, i < len → ∃ q : Q, Wins W q.A q.n q.l ∧ ∀ j u, q.cells[j]? = some u → W.cell? (a.add (i * 7 + j)) = some u := by
      intro i hi
      obtain ⟨ys, n, _, _, _, hfld⟩ := hcell i (by omega)
      obtain ⟨v0, y0, c0, _, t0⟩ := hfld 0 _ rfl
      obtain ⟨v1, y1, c1, _, t1⟩ := hfld 1 _ rfl
      obtain ⟨v2, y2, c2, _, t2⟩ := hfld 2 _ rfl
      obtain ⟨v3, y3, c3, _, t3⟩ := hfld 3 _ rfl
      obtain ⟨v4, y4, c4, _, t4⟩ := hfld 4 _ rfl
      obtain ⟨v5, y5, c5, _, t5⟩ := hfld 5 _ rfl
      obtain ⟨v6, y6, c6, _, t6⟩ := hfld 6 _ rfl
      obtain ⟨n0, e0, _⟩ := DataW.trod_int Tryz.underlying3 t0
      obtain ⟨n1, e1, _⟩ := DataW.trod_int Tryz.underlying3 t1
      obtain ⟨n2, e2, _⟩ := DataW.trod_int Tryz.underlying3 t2
      obtain ⟨n3, e3, _⟩ := DataW.trod_int Tryz.underlying3 t3
      obtain ⟨n4, e4, _⟩ := DataW.trod_int Tryz.underlying3 t4
      obtain ⟨n5, e5, _⟩ := DataW.trod_int Tryz.underlying3 t5
      obtain ⟨A, nn, cc, l, rfl, hw⟩ := wins_of_trod t6
      simp at e0 e1 e2 e3 e4 e5
      subst e0 e1 e2 e3 e4 e5
      refine ⟨⟨n0, n1, n2, n3, n4, n5, A, nn, cc, l⟩, hw, ?_⟩
      intro j u hu
      rcases j with _ | _ | _ | _ | _ | _ | _ | j <;> simp [Q.cells] at hu <;> subst hu <;> assumption
    obtain ⟨l, hl, hq⟩ := list_of key
    refine ⟨_, _, _, l, rfl, hl.symm, ⟨by rw [reqCells_len, hl], fun _ => ⟨a, rfl, reqCells_cell fun i q hi => (hq i q hi).2⟩⟩, ?_⟩
    intro q hq'
    obtain ⟨i, hi⟩ := List.mem_iff_getElem?.1 hq'
    exact (hq i q hi).1
set_option maxRecDepth 100000 in
theorem open_reqs {v : Value} {d : DataW H} {ps : List MemPlace} (hval : Value.okWide Tryz.prog W r base 26 v) (h : DataW.Trod enc Tryz.prog W b0 spare held 26 v d ps) : ∃ A n c l, v = .slice A n c ∧ Reqs W A n l := by
  obtain ⟨a0, len, cap, rfl⟩ := okWide_slice Tryz.underlying26 hval
  obtain ⟨fuel, hf⟩ := h
  exact reqs_of_trod hf
end
end Go.Proofs.YtippdjmpkafifaaGreat
namespace Go.Proofs.YtippdjmpkafifaaGreat
open Go.ChangeShapes Go.WideShapes Go.Deep Go.RowKit
section
variable {H : Type} {enc : TypeId × Value → H} {W : World} {base b0 : Nat} {spare : Nat → Bool} {held : Bool} {r : Reach}
set_option maxRecDepth 100000 in
theorem cints_of_trod {fuel : Nat} {v : Value} {x : DataW H × List MemPlace} (hf : DataW.trod enc Tryz.prog W b0 spare held fuel 48 [v] = some x) : ∃ A n c l, v = .slice A n c ∧ Ints W A n l ∧ n ≤ c := by
  rcases open_slice Tryz.underlying48 hf with ⟨hcs, _⟩ | ⟨a, len, cap, m, n, D, Pl, hcs, _, hlc, _, hm, _, hcell⟩
  · simp at hcs
    subst hcs
    exact ⟨none, 0, 0, [], rfl, ⟨rfl, rfl, fun h0 => absurd h0 (by omega)⟩, Nat.le_refl _⟩
  · simp at hcs
    subst hcs
    have hC : Tryz.prog.cellsOf 3 = 1 := by kernel_rfl
    have hlm : len ≤ m := by rw [hm]; split <;> omega
    have key : ∀ i, i < len → ∃ p : Int, W.cell? (a.add i) = some (.int .i64 p) := by
      intro i hi
      obtain ⟨cs', hc, ht'⟩ := hcell i (by omega)
      rw [hC, Nat.mul_one] at hc
      obtain ⟨_, _, hat⟩ := World.cells?_some hc
      obtain ⟨n0, e0, _⟩ := DataW.trod_int Tryz.underlying3 ht'
      subst e0
      have h0 := hat 0 (by omega)
      rw [Go.Deep.add_add, Nat.add_zero] at h0
      exact ⟨n0, h0⟩
    obtain ⟨l, hl, hq⟩ := list_of key
    refine ⟨_, _, _, l, rfl, ⟨hl.symm, by simp [intCells, hl], fun _ => ⟨a, rfl, ?_⟩⟩, hlc⟩
    intro j u hu
    rw [intCells, List.getElem?_map] at hu
    obtain ⟨y, hy, rfl⟩ := Option.map_eq_some_iff.1 hu
    exact hq j y hy
theorem roads_cell {w : World} {ad : Addr} {l : List Ro} (h : ∀ i q, l[i]? = some q → ∀ j u, (roadCells q)[j]? = some u → w.cell? (ad.add (i * 4 + j)) = some u) :
    ∀ j u, (l.flatMap roadCells)[j]? = some u → w.cell? (ad.add j) = some u := by
  intro j u hu
  have hj : j < (l.flatMap roadCells).length := (List.getElem?_eq_some_iff.1 hu).1
  rw [flat_len roadCells 4 (fun _ => rfl)] at hj
  have hp : l[j / 4]? = some (l[j / 4]'(by omega)) := List.getElem?_eq_getElem (by omega)
  have hjj : j = j / 4 * 4 + j % 4 := by omega
  have g := flat_get roadCells 4 (fun _ => rfl) l _ _ hp (j % 4) (by omega)
  rw [← hjj, hu] at g
  have := h _ _ hp (j % 4) u g.symm
  rwa [← hjj] at this
set_option maxRecDepth 100000 in
theorem roads_of_trod {fuel : Nat} {v : Value} {x : DataW H × List MemPlace} (hf : DataW.trod enc Tryz.prog W b0 spare held fuel 22 [v] = some x) : ∃ A n c l, v = .slice A n c ∧ Roads W A n l := by
  rcases open_slice_fields Tryz.underlying22 Tryz.underlying134 (by kernel_rfl) (by kernel_rfl) hf with ⟨hcs, _⟩ | ⟨a, len, cap, m, D, Pl, hcs, _, hlc, _, hm, _, hcell⟩
  · simp at hcs
    subst hcs
    exact ⟨none, 0, 0, [], rfl, rfl, rfl, fun h0 => absurd h0 (by omega)⟩
  · simp at hcs
    subst hcs
    have hlm : len ≤ m := by rw [hm]; split <;> omega
    have key : ∀ i, i < len → ∃ q : Ro, ∀ j u, (roadCells q)[j]? = some u → W.cell? (a.add (i * 4 + j)) = some u := by
      intro i hi
      obtain ⟨ys, n, _, _, _, hfld⟩ := hcell i (by omega)
      obtain ⟨v0, y0, c0, _, t0⟩ := hfld 0 _ rfl
      obtain ⟨v1, y1, c1, _, t1⟩ := hfld 1 _ rfl
      obtain ⟨v2, y2, c2, _, t2⟩ := hfld 2 _ rfl
      obtain ⟨v3, y3, c3, _, t3⟩ := hfld 3 _ rfl
      obtain ⟨n0, e0, _⟩ := DataW.trod_int Tryz.underlying3 t0
      obtain ⟨n1, e1, _⟩ := DataW.trod_int Tryz.underlying3 t1
      obtain ⟨n2, e2, _⟩ := DataW.trod_int Tryz.underlying3 t2
      obtain ⟨n3, e3, _⟩ := DataW.trod_int Tryz.underlying3 t3
      simp at e0 e1 e2 e3
      subst e0 e1 e2 e3
      refine ⟨⟨n0, n1, n2, n3⟩, ?_⟩
      intro j u hu
      rcases j with _ | _ | _ | _ | j <;> simp [roadCells] at hu <;> subst hu <;> assumption
    obtain ⟨l, hl, hq⟩ := list_of key
    exact ⟨_, _, _, l, rfl, hl.symm, by rw [flat_len roadCells 4 (fun _ => rfl), hl], fun _ => ⟨a, rfl, roads_cell fun i q hi => hq i q hi⟩⟩
set_option maxRecDepth 100000 in
theorem open_net {v : Value} {d : DataW H} {ps : List MemPlace} (hval : Value.okWide Tryz.prog W r base 24 v) (h : DataW.Trod enc Tryz.prog W b0 spare held 24 v d ps) : ∃ nd A n c l, v = .agg #[.int .i64 nd, .slice A n c] ∧ Roads W A n l := by
  obtain ⟨cs, rfl, hsz⟩ := okWide_struct Tryz.underlying24 hval
  obtain ⟨fuel, hf⟩ := h
  obtain ⟨ys, n', _, _, hlen, hyl, hfl⟩ := DataW.trod_struct Tryz.underlying24 hf
  rw [show Tryz.prog.cellsOf 24 = 2 by kernel_rfl] at hsz
  obtain ⟨v0, v1, rfl⟩ : ∃ v0 v1, cs = #[v0, v1] := by
    obtain ⟨l⟩ := cs
    rcases l with _ | ⟨v0, _ | ⟨v1, _ | ⟨v2, l⟩⟩⟩ <;> simp at hsz
    exact ⟨_, _, rfl⟩
  have C3 : Tryz.prog.cellsOf 3 = 1 := by kernel_rfl
  have C22 : Tryz.prog.cellsOf 22 = 1 := by kernel_rfl
  have get : ∀ i, i < ys.length → ∃ y, ys[i]? = some y := fun i hi => ⟨_, List.getElem?_eq_getElem hi⟩
  have h2 : ys.length = 2 := hyl
  have t0 := hfl 0 _ rfl
  have t1 := hfl 1 _ rfl
  obtain ⟨y0, g0⟩ := get 0 (by omega)
  obtain ⟨y1, g1⟩ := get 1 (by omega)
  rw [g0] at t0
  rw [g1] at t1
  simp [C3, C22, Value.cells] at t0 t1
  obtain ⟨n0, e0, _⟩ := DataW.trod_int Tryz.underlying3 t0
  obtain ⟨A, n, c, l, e1, hI⟩ := roads_of_trod t1
  simp at e0 e1
  subst e0 e1
  exact ⟨n0, A, n, c, l, rfl, hI⟩
end
end Go.Proofs.YtippdjmpkafifaaGreat
namespace Go.Proofs.YtippdjmpkafifaaGreat
open Go.ChangeShapes Go.WideShapes Go.Deep Go.RowKit
theorem flat_cell {α : Type} (f : α → List Value) (s : Nat) (hs : ∀ x, (f x).length = s) (h0 : 0 < s) {w : World} {ad : Addr} {l : List α} (h : ∀ (i : Nat) (q : α), l[i]? = some q → ∀ (j : Nat) (u : Value), (f q)[j]? = some u → w.cell? (ad.add (i * s + j)) = some u) :
    ∀ j u, (l.flatMap f)[j]? = some u → w.cell? (ad.add j) = some u := by
  intro j u hu
  have hj : j < (l.flatMap f).length := (List.getElem?_eq_some_iff.1 hu).1
  rw [flat_len f s hs] at hj
  have hd : j / s < l.length := Nat.div_lt_of_lt_mul (by rw [Nat.mul_comm]; exact hj)
  have hp : l[j / s]? = some (l[j / s]'hd) := List.getElem?_eq_getElem hd
  have hm : j % s < s := Nat.mod_lt _ h0
  have hjj : j = j / s * s + j % s := by rw [Nat.mul_comm]; exact (Nat.div_add_mod j s).symm
  have g := flat_get f s hs l _ _ hp (j % s) hm
  rw [← hjj, hu] at g
  have := h _ _ hp (j % s) u g.symm
  rwa [← hjj] at this
section
variable {H : Type} {enc : TypeId × Value → H} {W : World} {base b0 : Nat} {spare : Nat → Bool} {held : Bool} {r : Reach}
set_option maxRecDepth 100000 in
theorem shifts_of_trod {fuel : Nat} {v : Value} {x : DataW H × List MemPlace} (hf : DataW.trod enc Tryz.prog W b0 spare held fuel 25 [v] = some x) : ∃ A n c l, v = .slice A n c ∧ Shifts W A n l ∧ n ≤ c := by
  rcases open_slice_fields Tryz.underlying25 Tryz.underlying63 (by kernel_rfl) (by kernel_rfl) hf with ⟨hcs, _⟩ | ⟨a, len, cap, m, D, Pl, hcs, _, hlc, _, hm, _, hcell⟩
  · simp at hcs
    subst hcs
    exact ⟨none, 0, 0, [], rfl, ⟨⟨rfl, rfl, fun h0 => absurd h0 (by omega)⟩, fun q hq => by cases hq⟩, Nat.le_refl _⟩
  · simp at hcs
    subst hcs
    have hlm : len ≤ m := by rw [hm]; split <;> omega
    have key : ∀ i, i < len → ∃ q : S, (Ints W q.A q.n q.l) ∧ ∀ j u, (S.cells q)[j]? = some u → W.cell? (a.add (i * 6 + j)) = some u := by
      intro i hi
      obtain ⟨ys, n, _, _, _, hfld⟩ := hcell i (by omega)
      obtain ⟨v0, y0, d0, _, t0⟩ := hfld 0 _ rfl
      obtain ⟨v1, y1, d1, _, t1⟩ := hfld 1 _ rfl
      obtain ⟨v2, y2, d2, _, t2⟩ := hfld 2 _ rfl
      obtain ⟨v3, y3, d3, _, t3⟩ := hfld 3 _ rfl
      obtain ⟨v4, y4, d4, _, t4⟩ := hfld 4 _ rfl
      obtain ⟨v5, y5, d5, _, t5⟩ := hfld 5 _ rfl
      obtain ⟨n0, e0, _⟩ := DataW.trod_int Tryz.underlying3 t0
      obtain ⟨n1, e1, _⟩ := DataW.trod_int Tryz.underlying3 t1
      obtain ⟨n2, e2, _⟩ := DataW.trod_int Tryz.underlying3 t2
      obtain ⟨n3, e3, _⟩ := DataW.trod_int Tryz.underlying3 t3
      obtain ⟨n4, e4, _⟩ := DataW.trod_int Tryz.underlying3 t4
      obtain ⟨A5, m5, c5, l5, rfl, hI5, hc5⟩ := cints_of_trod t5
      simp at e0 e1 e2 e3 e4
      subst e0 e1 e2 e3 e4
      refine ⟨⟨n0, n1, n2, n3, n4, A5, m5, c5, l5⟩, hI5, ?_⟩
      intro j u hu
      rcases j with _ | _ | _ | _ | _ | _ | j <;> simp [S.cells] at hu <;> subst hu <;> assumption
    obtain ⟨l, hl, hq⟩ := list_of key
    have hall : ∀ q ∈ l, Ints W q.A q.n q.l := fun q hq' => by
      obtain ⟨i, hi⟩ := List.mem_iff_getElem?.1 hq'
      exact (hq i q hi).1
    exact ⟨_, _, _, l, rfl, ⟨⟨hl.symm, by rw [flat_len S.cells 6 (fun _ => rfl), hl], fun _ => ⟨a, rfl, flat_cell S.cells 6 (fun _ => rfl) (by omega) fun i q hi => (hq i q hi).2⟩⟩, hall⟩, hlc⟩
set_option maxRecDepth 100000 in
theorem open_shifts {v : Value} {d : DataW H} {ps : List MemPlace} (hval : Value.okWide Tryz.prog W r base 25 v) (h : DataW.Trod enc Tryz.prog W b0 spare held 25 v d ps) : ∃ A n c l, v = .slice A n c ∧ Shifts W A n l ∧ n ≤ c := by
  obtain ⟨a0, len, cap, rfl⟩ := okWide_slice Tryz.underlying25 hval
  obtain ⟨fuel, hf⟩ := h
  exact shifts_of_trod hf
end
end Go.Proofs.YtippdjmpkafifaaGreat
