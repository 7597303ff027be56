import Derived.Test.YtippdjmpkafifaaGreatAT1
import Derived.Below
import Derived.Laws.OwnMore
import Derived.Deep.AppendLies
import Derived.Deep.Draws
import Derived.Lib.Hide
import Derived.WalkKit
import Derived.WalkSpells
import Derived.WalkLawsBesides
import Derived.Maps.AppendAt
import Derived.BigQuiet
import Derived.Deep.QuietTactic
import Derived.StillTailTactics
import Derived.BigRegion
import Derived.RegionTactic
import Derived.Deep.DeepCutAuto
import Derived.Deep.OwnRows
import Derived.Maps.OwnSet
import Derived.Lib.LazyBuf
import Derived.Deep.RegionLaw
import Derived.Deep.LoopGhost
import Derived.Deep.RegionHeld3
import Derived.Laws.ResultCell
import Derived.DeepKeys5
import Derived.Laws.CopyOwn
import Derived.Deep.Light
import Derived.Deep.RegionLawGrows
import Derived.Deep.RegionWith
import Derived.Deep.Slices
import Derived.Deep.Fields
import Derived.ChangeSame
import Derived.ProofKit
import Derived.OpenShut
namespace Go.Proofs.YtippdjmpkafifaaGreat
open Go.RowKit
theorem own_lit {w : World} {base g : Nat} {e : TypeId} {size : Nat} (h : w.heap[g]? = some (.cells #[] e (0, 0))) (hb : base ≤ g) : w.ownsRow base e size (.slice (some ⟨g, 0, none⟩) 0 0) 0 [] :=
  ⟨by simp, .inr ⟨g, 0, #[], rfl, hb, h, Nat.le_refl _, by simp [maxLen], by simp, by simp⟩⟩
end Go.Proofs.YtippdjmpkafifaaGreat
namespace Go.Proofs.YtippdjmpkafifaaGreat
open Go.ChangeShapes Go.WideShapes Go.Deep Go.RowKit
section
variable {H : Type} {enc : TypeId × Value → H} {P : Program} {w : World} {base : Nat} {spare : Nat → Bool} {held : Bool}
set_option maxRecDepth 100000 in
theorem open_slice_fields {t e : TypeId} {fs : Array Field} {fuel : Nat} {cs : List Value} {x : DataW H × List MemPlace} (ht : P.underlying t = some (.slice e)) (he : P.underlying e = some (.struct fs))
    (hone : oneCellFields P fs = true) (hC : P.cellsOf e = fs.size) (h : DataW.trod enc P w base spare held fuel t cs = some x) :
    (cs = [.slice none 0 0] ∧ x = (.nil, [])) ∨
    ∃ (a : Addr) (len cap m : Nat) (D : Nat → DataW H) (Pl : Nat → List MemPlace), cs = [.slice (some a) len cap] ∧ base ≤ a.block ∧ len ≤ cap ∧ cap ≤ maxLen ∧ m = (if spare a.block then cap else len) ∧
      x = (.slice ((List.range len).map D) ((List.range (m - len)).map fun j => D (len + j)), MemPlace.row a (m * fs.size) ++ (List.range m).flatMap Pl) ∧
      ∀ i, i < m → ∃ (ys : List (DataW H × List MemPlace)) (n : Nat), D i = .agg (ys.map (·.1)) ∧ Pl i = ys.flatMap (·.2) ∧ ys.length = fs.size ∧
        ∀ (j : Nat) (f : Field), fs[j]? = some f → ∃ (v : Value) (y : DataW H × List MemPlace), w.cell? (a.add (i * fs.size + j)) = some v ∧ ys[j]? = some y ∧ DataW.trod enc P w base spare held n f.type [v] = some y := by
  rcases open_slice ht h with h0 | ⟨a, len, cap, m, n, D, Pl, hcs, hb, hl, hm, hmm, hx, hi⟩
  · exact .inl h0
  · refine .inr ⟨a, len, cap, m, D, Pl, hcs, hb, hl, hm, hmm, by rw [hC] at hx; exact hx, fun i him => ?_⟩
    obtain ⟨cs', hc, ht'⟩ := hi i him
    rw [hC] at hc
    obtain ⟨ys, n', hn', hy, hlen, hyl, hf⟩ := DataW.trod_struct he ht'
    obtain ⟨_, hcl, hat⟩ := World.cells?_some hc
    simp only [Prod.mk.injEq] at hy
    refine ⟨ys, n', hy.1, hy.2, hyl, fun j f hj => ?_⟩
    obtain ⟨ho, hk⟩ := hone_of hone j f hj
    have hjl : j < fs.size := (Array.getElem?_eq_some_iff.1 hj).1
    have hcell := hat j hjl
    have hv : cs'[j]? = some (cs'[j]'(by omega)) := List.getElem?_eq_getElem (by omega)
    have h1 := hf j f hj
    rw [ho, hk] at h1
    have hone' : (cs'.drop j).take 1 = [cs'[j]'(by omega)] := by
      rw [List.drop_eq_getElem_cons (by omega)]
      rfl
    rw [hone'] at h1
    have hys : ys[j]? = some (ys[j]'(by omega)) := List.getElem?_eq_getElem (by omega)
    refine ⟨_, _, ?_, hys, h1.trans hys⟩
    rw [← Go.Deep.add_add, hcell, hv]
end
section
variable {H : Type} {enc : TypeId × Value → H} {P : Program}
theorem post_of_below {f : Func} {s : ChangeSpec} {apart fresh handsOn again : Bool} {W W' : World} {args : Array Value} {v : Value} {ds gs : List (DataW H)} {before pa pv : List MemPlace}
    (hW : DataW.Whole enc P f.params.toList s.vars apart W args.toList ds gs before)
    (hres : ∀ (b : Nat) (sp : Nat → Bool) (hd : Bool), DataW.TrodAll enc P W' b sp hd f.resultTypes.toList (v.resultList f.resultTypes.size) (s.fn H (ds ++ gs)).results [])
    (hargs : ∀ sp : Nat → Bool, (∀ p ∈ before, sp p.block = true) → DataW.TrodAll enc P W' 0 sp true f.params.toList args.toList (s.fn H (ds ++ gs)).args pa)
    (hvars : ∀ sp : Nat → Bool, (∀ p ∈ before, sp p.block = true) → DataW.TrodVars enc P W' sp s.vars (s.fn H (ds ++ gs)).vars pv)
    (hps : before = pa ++ pv) (hb : Below W.heap.size W W')
    (hok : ∀ (j : Nat) (t : TypeId) (r : Value), f.resultTypes[j]? = some t → (v.resultList f.resultTypes.size)[j]? = some r → Value.okWide P W' .any 0 t r) :
    s.post enc P f apart fresh handsOn again W args v W' := by
  have hlt : ∀ p ∈ before, p.block < W.heap.size := fun p hp => hW.lt p hp
  have hold : ∀ p ∈ before, (fun b => decide (b < W.heap.size)) p.block = true := fun p hp => by simpa using hlt p hp
  refine ⟨ds, gs, before, [], pa, pv, hW, hres _ _ _, hargs _ hold, hvars _ hold, World.keptBut_mono (fun p hp => ⟨hp, ?_⟩) (hb.frame (· ∈ before)), fun _ => ?_⟩
  · rw [hps, List.mem_append] at hp
    exact Or.inr hp
  · obtain ⟨_, _, _, _, _, hz, hn⟩ := hW
    refine ⟨hok, _, _, ([] ++ pa) ++ pv, ⟨[] ++ pa, pv, trodAll_append (hargs _ (fun _ _ => rfl)) (hres _ _ _), hvars _ (fun _ _ => rfl), rfl, ?_, ?_⟩, ?_⟩
    · intro b off hp
      have hin : MemPlace.cell b off ∈ before := by rw [hps]; simpa using hp
      rw [hb.frozen (hlt _ hin)]
      exact hz b off hin
    · intro ha
      have := hn ha
      rw [hps] at this
      simpa using this
    · intro p hp _
      rw [hps]
      simpa using hp
end
theorem list_of {α : Type} {n : Nat} {Q : Nat → α → Prop} (h : ∀ i, i < n → ∃ x, Q i x) : ∃ l : List α, l.length = n ∧ ∀ i x, l[i]? = some x → Q i x := by
  induction n with
  | zero => exact ⟨[], rfl, fun i x hx => by simp at hx⟩
  | succ n ih =>
    obtain ⟨l, hl, hq⟩ := ih (fun i hi => h i (by omega))
    obtain ⟨x, hx⟩ := h n (by omega)
    refine ⟨l ++ [x], by simp [hl], fun i y hy => ?_⟩
    rw [List.getElem?_append] at hy
    split at hy
    · exact hq i y hy
    · rename_i hlt
      have e : i = n := by
        by_cases e : i - l.length = 0
        · omega
        · rw [List.getElem?_eq_none (by simp; omega)] at hy; cases hy
      subst e
      rw [← hl, Nat.sub_self] at hy
      simp at hy
      subst hy; exact hx
theorem winCells_cell {w : World} {ad : Addr} {l : List (Int × Int)} (h : ∀ i p, l[i]? = some p → w.cell? (ad.add (i * 2)) = some (.int .i64 p.1) ∧ w.cell? (ad.add (i * 2 + 1)) = some (.int .i64 p.2)) :
    ∀ j u, (winCells l)[j]? = some u → w.cell? (ad.add j) = some u := by
  intro j u hu
  have hj : j < (winCells l).length := (List.getElem?_eq_some_iff.1 hu).1
  rw [winCells_len] at hj
  have hp : l[j / 2]? = some (l[j / 2]'(by omega)) := List.getElem?_eq_getElem (by omega)
  obtain ⟨g1, g2⟩ := winCells_get l _ _ hp
  obtain ⟨k1, k2⟩ := h _ _ hp
  by_cases e : j % 2 = 0
  · have : j = j / 2 * 2 := by omega
    rw [this] at hu ⊢
    rw [g1] at hu
    injection hu with hu
    rw [← hu]; exact k1
  · have : j = j / 2 * 2 + 1 := by omega
    rw [this] at hu ⊢
    rw [g2] at hu
    injection hu with hu
    rw [← hu]; exact k2
section
variable {H : Type} {enc : TypeId × Value → H} {W : World} {base b0 : Nat} {spare : Nat → Bool} {held : Bool} {r : Reach}
end
section
variable {H : Type} {enc : TypeId × Value → H} {P : Program}
theorem trodAll_stays (hl : laidOutB P = true) {W W' : World} {sp : Nat → Bool} (hb : Below W.heap.size W W') :
    ∀ (ts : List TypeId) (vs : List Value) (ds : List (DataW H)) (ps : List MemPlace), (∀ t ∈ ts, P.readableRec t = true ∧ t < P.types.size) → DataW.TrodAll enc P W 0 (fun _ => true) true ts vs ds ps →
      (∀ x ∈ ps, x.block < W.heap.size) → (∀ x ∈ ps, sp x.block = true) → DataW.TrodAll enc P W' 0 sp true ts vs ds ps := by
  intro ts
  induction ts with
  | nil => intro vs ds ps _ h _ _; cases vs <;> cases ds <;> first | exact h | exact h.elim
  | cons t ts ih =>
    intro vs ds ps hts h hlt hsp
    match vs, ds, h with
    | v :: vs, d :: ds, ⟨p, q, h1, h2, e⟩ =>
      subst e
      have ht := hts t (List.mem_cons_self ..)
      exact ⟨p, q, WideElems.Trod_stays hl ht.1 ht.2 h1 (fun x hx => hb.same (hlt x (List.mem_append_left _ hx))) (fun x hx => hsp x (List.mem_append_left _ hx)),
        ih vs ds q (fun t' h' => hts t' (List.mem_cons_of_mem _ h')) h2 (fun x hx => hlt x (List.mem_append_right _ hx)) (fun x hx => hsp x (List.mem_append_right _ hx)), rfl⟩
end
set_option maxRecDepth 100000 in
theorem Tryz.laid : laidOutB Tryz.prog = true := by kernel_rfl
section
variable {H : Type} {enc : TypeId × Value → H}
set_option maxRecDepth 100000 in
theorem post_true {f : Func} {s : ChangeSpec} {W W' : World} {args : Array Value} {ds : List (DataW H)} {before : List MemPlace} (hts : ∀ t ∈ f.params.toList, Tryz.prog.readableRec t = true ∧ t < Tryz.prog.types.size)
    (hv : s.vars = []) (hres : f.resultTypes = #[4]) (hW : DataW.Whole enc Tryz.prog f.params.toList s.vars false W args.toList ds [] before)
    (hspec : s.fn H (ds ++ []) = { results := [.lit (.bool true)], args := ds }) (hb : Below W.heap.size W W') : s.post enc Tryz.prog f false true false false W args (.bool true) W' := by
  have hW' := hW
  obtain ⟨p, q, hA, hV, rfl, hfz, hnd⟩ := hW
  rw [hv] at hV
  obtain ⟨_, rfl⟩ := trodVars_none hV
  have hlt : ∀ x ∈ p ++ [], x.block < W.heap.size := fun x hx => hW'.lt x hx
  rw [List.append_nil] at hlt
  refine post_of_below (pa := p) (pv := []) hW' ?_ ?_ ?_ rfl hb ?_
  · intro b sp hd
    rw [hspec, hres]
    exact trodAll_cons_mk (shut_bool Tryz.underlying4 _) trodAll_mk0
  · intro sp hsp
    rw [hspec]
    exact trodAll_stays Tryz.laid hb _ _ _ _ hts hA hlt (fun x hx => hsp x (by simpa using hx))
  · intro sp _
    rw [hspec, hv]
    rfl
  · exact ok_one hres rfl (okWide_bool_mk Tryz.underlying4 _)
end
end Go.Proofs.YtippdjmpkafifaaGreat
namespace Go.Proofs.YtippdjmpkafifaaGreat
open Go.ChangeShapes Go.WideShapes Go.Deep Go.RowKit
section
variable {H : Type} {enc : TypeId × Value → H} {W : World} {base b0 : Nat} {spare : Nat → Bool} {held : Bool} {r : Reach}
set_option maxRecDepth 100000 in
theorem wins_of_trod {fuel : Nat} {v : Value} {x : DataW H × List MemPlace} (hf : DataW.trod enc Tryz.prog W b0 spare held fuel 45 [v] = some x) : ∃ A n c l, v = .slice A n c ∧ Wins W A n l := by
  rcases open_slice_fields Tryz.underlying45 Tryz.underlying158 (by kernel_rfl) (by kernel_rfl) hf with ⟨hcs, _⟩ | ⟨a, len, cap, m, D, Pl, hcs, _, hlc, _, hm, _, hcell⟩
  · simp at hcs
    subst hcs
    exact ⟨none, 0, 0, [], rfl, rfl, rfl, fun h0 => absurd h0 (by omega)⟩
  · simp at hcs
    subst hcs
    have hlm : len ≤ m := by rw [hm]; split <;> omega
    have key : ∀ i, i < len → ∃ p : Int × Int, W.cell? (a.add (i * 2)) = some (.int .i64 p.1) ∧ W.cell? (a.add (i * 2 + 1)) = some (.int .i64 p.2) := by
      intro i hi
      obtain ⟨ys, n, _, _, _, hfld⟩ := hcell i (by omega)
      obtain ⟨v0, y0, c0, _, t0⟩ := hfld 0 _ rfl
      obtain ⟨v1, y1, c1, _, t1⟩ := hfld 1 _ rfl
      obtain ⟨n0, e0, _⟩ := DataW.trod_int Tryz.underlying3 t0
      obtain ⟨n1, e1, _⟩ := DataW.trod_int Tryz.underlying3 t1
      simp at e0 e1
      subst e0 e1
      exact ⟨(n0, n1), c0, c1⟩
    obtain ⟨l, hl, hq⟩ := list_of key
    exact ⟨_, _, _, l, rfl, hl.symm, by rw [winCells_len, hl], fun _ => ⟨a, rfl, winCells_cell hq⟩⟩
theorem reqCells_cell {w : World} {ad : Addr} {l : List Q} (h : ∀ i q, l[i]? = some q → ∀ j u, q.cells[j]? = some u → w.cell? (ad.add (i * 7 + j)) = some u) :
    ∀ j u, (reqCells l)[j]? = some u → w.cell? (ad.add j) = some u := by
  intro j u hu
  have hj : j < (reqCells l).length := (List.getElem?_eq_some_iff.1 hu).1
  rw [reqCells_len] at hj
  have hp : l[j / 7]? = some (l[j / 7]'(by omega)) := List.getElem?_eq_getElem (by omega)
  have hjj : j = j / 7 * 7 + j % 7 := by omega
  have g := reqCells_get l _ _ hp (j % 7) (by omega)
  rw [← hjj, hu] at g
  have := h _ _ hp (j % 7) u g.symm
  rwa [← hjj] at this
set_option maxRecDepth 100000 in
theorem reqs_of_trod {fuel : Nat} {v : Value} {x : DataW H × List MemPlace} (hf : DataW.trod enc Tryz.prog W b0 spare held fuel 26 [v] = some x) : ∃ A n c l, v = .slice A n c ∧ Reqs W A n l := by
  rcases open_slice_fields Tryz.underlying26 Tryz.underlying47 (by kernel_rfl) (by kernel_rfl) hf with ⟨hcs, _⟩ | ⟨a, len, cap, m, D, Pl, hcs, _, hlc, _, hm, _, hcell⟩
  · simp at hcs
    subst hcs
    exact ⟨none, 0, 0, [], rfl, rfl, ⟨rfl, fun h0 => absurd h0 (by omega)⟩, fun q hq => by simp at hq⟩
  · simp at hcs
    subst hcs
    have hlm : len ≤ m := by rw [hm]; split <;> omega
    have key : ∀ i, i < len → ∃ q : Q, Wins W q.A q.n q.l ∧ ∀ j u, q.cells[j]? = some u → W.cell? (a.add (i * 7 + j)) = some u := by
      intro i hi
      obtain ⟨ys, n, _, _, _, hfld⟩ := hcell i (by omega)
      obtain ⟨v0, y0, c0, _, t0⟩ := hfld 0 _ rfl
      obtain ⟨v1, y1, c1, _, t1⟩ := hfld 1 _ rfl
      obtain ⟨v2, y2, c2, _, t2⟩ := hfld 2 _ rfl
      obtain ⟨v3, y3, c3, _, t3⟩ := hfld 3 _ rfl
      obtain ⟨v4, y4, c4, _, t4⟩ := hfld 4 _ rfl
      obtain ⟨v5, y5, c5, _, t5⟩ := hfld 5 _ rfl
      obtain ⟨v6, y6, c6, _, t6⟩ := hfld 6 _ rfl
      obtain ⟨n0, e0, _⟩ := DataW.trod_int Tryz.underlying3 t0
      obtain ⟨n1, e1, _⟩ := DataW.trod_int Tryz.underlying3 t1
      obtain ⟨n2, e2, _⟩ := DataW.trod_int Tryz.underlying3 t2
      obtain ⟨n3, e3, _⟩ := DataW.trod_int Tryz.underlying3 t3
      obtain ⟨n4, e4, _⟩ := DataW.trod_int Tryz.underlying3 t4
      obtain ⟨n5, e5, _⟩ := DataW.trod_int Tryz.underlying3 t5
      obtain ⟨A, nn, cc, l, rfl, hw⟩ := wins_of_trod t6
      simp at e0 e1 e2 e3 e4 e5
      subst e0 e1 e2 e3 e4 e5
      refine ⟨⟨n0, n1, n2, n3, n4, n5, A, nn, cc, l⟩, hw, ?_⟩
      intro j u hu
      rcases j with _ | _ | _ | _ | _ | _ | _ | j <;> simp [Q.cells] at hu <;> subst hu <;> assumption
    obtain ⟨l, hl, hq⟩ := list_of key
    refine ⟨_, _, _, l, rfl, hl.symm, ⟨by rw [reqCells_len, hl], fun _ => ⟨a, rfl, reqCells_cell fun i q hi => (hq i q hi).2⟩⟩, ?_⟩
    intro q hq'
    obtain ⟨i, hi⟩ := List.mem_iff_getElem?.1 hq'
    exact (hq i q hi).1
end
end Go.Proofs.YtippdjmpkafifaaGreat
namespace Go.Proofs.YtippdjmpkafifaaGreat
open Go.ChangeShapes Go.WideShapes Go.Deep Go.RowKit
section
variable {H : Type} {enc : TypeId × Value → H} {W : World} {base b0 : Nat} {spare : Nat → Bool} {held : Bool} {r : Reach}
set_option maxRecDepth 100000 in
theorem cints_of_trod {fuel : Nat} {v : Value} {x : DataW H × List MemPlace} (hf : DataW.trod enc Tryz.prog W b0 spare held fuel 48 [v] = some x) : ∃ A n c l, v = .slice A n c ∧ Ints W A n l ∧ n ≤ c := by
  rcases open_slice Tryz.underlying48 hf with ⟨hcs, _⟩ | ⟨a, len, cap, m, n, D, Pl, hcs, _, hlc, _, hm, _, hcell⟩
  · simp at hcs
    subst hcs
    exact ⟨none, 0, 0, [], rfl, ⟨rfl, rfl, fun h0 => absurd h0 (by omega)⟩, Nat.le_refl _⟩
  · simp at hcs
    subst hcs
    have hC : Tryz.prog.cellsOf 3 = 1 := by kernel_rfl
    have hlm : len ≤ m := by rw [hm]; split <;> omega
    have key : ∀ i, i < len → ∃ p : Int, W.cell? (a.add i) = some (.int .i64 p) := by
      intro i hi
      obtain ⟨cs', hc, ht'⟩ := hcell i (by omega)
      rw [hC, Nat.mul_one] at hc
      obtain ⟨_, _, hat⟩ := World.cells?_some hc
      obtain ⟨n0, e0, _⟩ := DataW.trod_int Tryz.underlying3 ht'
      subst e0
      have h0 := hat 0 (by omega)
      rw [Go.Deep.add_add, Nat.add_zero] at h0
      exact ⟨n0, h0⟩
    obtain ⟨l, hl, hq⟩ := list_of key
    refine ⟨_, _, _, l, rfl, ⟨hl.symm, by simp [intCells, hl], fun _ => ⟨a, rfl, ?_⟩⟩, hlc⟩
    intro j u hu
    rw [intCells, List.getElem?_map] at hu
    obtain ⟨y, hy, rfl⟩ := Option.map_eq_some_iff.1 hu
    exact hq j y hy
theorem roads_cell {w : World} {ad : Addr} {l : List Ro} (h : ∀ i q, l[i]? = some q → ∀ j u, (roadCells q)[j]? = some u → w.cell? (ad.add (i * 4 + j)) = some u) :
    ∀ j u, (l.flatMap roadCells)[j]? = some u → w.cell? (ad.add j) = some u := by
  intro j u hu
  have hj : j < (l.flatMap roadCells).length := (List.getElem?_eq_some_iff.1 hu).1
  rw [flat_len roadCells 4 (fun _ => rfl)] at hj
  have hp : l[j / 4]? = some (l[j / 4]'(by omega)) := List.getElem?_eq_getElem (by omega)
  have hjj : j = j / 4 * 4 + j % 4 := by omega
  have g := flat_get roadCells 4 (fun _ => rfl) l _ _ hp (j % 4) (by omega)
  rw [← hjj, hu] at g
  have := h _ _ hp (j % 4) u g.symm
  rwa [← hjj] at this
set_option maxRecDepth 100000 in
theorem roads_of_trod {fuel : Nat} {v : Value} {x : DataW H × List MemPlace} (hf : DataW.trod enc Tryz.prog W b0 spare held fuel 22 [v] = some x) : ∃ A n c l, v = .slice A n c ∧ Roads W A n l := by
  rcases open_slice_fields Tryz.underlying22 Tryz.underlying134 (by kernel_rfl) (by kernel_rfl) hf with ⟨hcs, _⟩ | ⟨a, len, cap, m, D, Pl, hcs, _, hlc, _, hm, _, hcell⟩
  · simp at hcs
    subst hcs
    exact ⟨none, 0, 0, [], rfl, rfl, rfl, fun h0 => absurd h0 (by omega)⟩
  · simp at hcs
    subst hcs
    have hlm : len ≤ m := by rw [hm]; split <;> omega
    have key : ∀ i, i < len → ∃ q : Ro, ∀ j u, (roadCells q)[j]? = some u → W.cell? (a.add (i * 4 + j)) = some u := by
      intro i hi
      obtain ⟨ys, n, _, _, _, hfld⟩ := hcell i (by omega)
      obtain ⟨v0, y0, c0, _, t0⟩ := hfld 0 _ rfl
      obtain ⟨v1, y1, c1, _, t1⟩ := hfld 1 _ rfl
      obtain ⟨v2, y2, c2, _, t2⟩ := hfld 2 _ rfl
      obtain ⟨v3, y3, c3, _, t3⟩ := hfld 3 _ rfl
      obtain ⟨n0, e0, _⟩ := DataW.trod_int Tryz.underlying3 t0
      obtain ⟨n1, e1, _⟩ := DataW.trod_int Tryz.underlying3 t1
      obtain ⟨n2, e2, _⟩ := DataW.trod_int Tryz.underlying3 t2
      obtain ⟨n3, e3, _⟩ := DataW.trod_int Tryz.underlying3 t3
      simp at e0 e1 e2 e3
      subst e0 e1 e2 e3
      refine ⟨⟨n0, n1, n2, n3⟩, ?_⟩
      intro j u hu
      rcases j with _ | _ | _ | _ | j <;> simp [roadCells] at hu <;> subst hu <;> assumption
    obtain ⟨l, hl, hq⟩ := list_of key
    exact ⟨_, _, _, l, rfl, hl.symm, by rw [flat_len roadCells 4 (fun _ => rfl), hl], fun _ => ⟨a, rfl, roads_cell fun i q hi => hq i q hi⟩⟩
end
end Go.Proofs.YtippdjmpkafifaaGreat
namespace Go.Proofs.YtippdjmpkafifaaGreat
open Go.ChangeShapes Go.WideShapes Go.Deep Go.RowKit
theorem flat_cell {α : Type} (f : α → List Value) (s : Nat) (hs : ∀ x, (f x).length = s) (h0 : 0 < s) {w : World} {ad : Addr} {l : List α} (h : ∀ (i : Nat) (q : α), l[i]? = some q → ∀ (j : Nat) (u : Value), (f q)[j]? = some u → w.cell? (ad.add (i * s + j)) = some u) :
    ∀ j u, (l.flatMap f)[j]? = some u → w.cell? (ad.add j) = some u := by
  intro j u hu
  have hj : j < (l.flatMap f).length := (List.getElem?_eq_some_iff.1 hu).1
  rw [flat_len f s hs] at hj
  have hd : j / s < l.length := Nat.div_lt_of_lt_mul (by rw [Nat.mul_comm]; exact hj)
  have hp : l[j / s]? = some (l[j / s]'hd) := List.getElem?_eq_getElem hd
  have hm : j % s < s := Nat.mod_lt _ h0
  have hjj : j = j / s * s + j % s := by rw [Nat.mul_comm]; exact (Nat.div_add_mod j s).symm
  have g := flat_get f s hs l _ _ hp (j % s) hm
  rw [← hjj, hu] at g
  have := h _ _ hp (j % s) u g.symm
  rwa [← hjj] at this
section
variable {H : Type} {enc : TypeId × Value → H} {W : World} {base b0 : Nat} {spare : Nat → Bool} {held : Bool} {r : Reach}
set_option maxRecDepth 100000 in
theorem shifts_of_trod {fuel : Nat} {v : Value} {x : DataW H × List MemPlace} (hf : DataW.trod enc Tryz.prog W b0 spare held fuel 25 [v] = some x) : ∃ A n c l, v = .slice A n c ∧ Shifts W A n l ∧ n ≤ c := by
  rcases open_slice_fields Tryz.underlying25 Tryz.underlying63 (by kernel_rfl) (by kernel_rfl) hf with ⟨hcs, _⟩ | ⟨a, len, cap, m, D, Pl, hcs, _, hlc, _, hm, _, hcell⟩
  · simp at hcs
    subst hcs
    exact ⟨none, 0, 0, [], rfl, ⟨⟨rfl, rfl, fun h0 => absurd h0 (by omega)⟩, fun q hq => by cases hq⟩, Nat.le_refl _⟩
  · simp at hcs
    subst hcs
    have hlm : len ≤ m := by rw [hm]; split <;> omega
    have key : ∀ i, i < len → ∃ q : S, (Ints W q.A q.n q.l) ∧ ∀ j u, (S.cells q)[j]? = some u → W.cell? (a.add (i * 6 + j)) = some u := by
      intro i hi
      obtain ⟨ys, n, _, _, _, hfld⟩ := hcell i (by omega)
      obtain ⟨v0, y0, d0, _, t0⟩ := hfld 0 _ rfl
      obtain ⟨v1, y1, d1, _, t1⟩ := hfld 1 _ rfl
      obtain ⟨v2, y2, d2, _, t2⟩ := hfld 2 _ rfl
      obtain ⟨v3, y3, d3, _, t3⟩ := hfld 3 _ rfl
      obtain ⟨v4, y4, d4, _, t4⟩ := hfld 4 _ rfl
      obtain ⟨v5, y5, d5, _, t5⟩ := hfld 5 _ rfl
      obtain ⟨n0, e0, _⟩ := DataW.trod_int Tryz.underlying3 t0
      obtain ⟨n1, e1, _⟩ := DataW.trod_int Tryz.underlying3 t1
      obtain ⟨n2, e2, _⟩ := DataW.trod_int Tryz.underlying3 t2
      obtain ⟨n3, e3, _⟩ := DataW.trod_int Tryz.underlying3 t3
      obtain ⟨n4, e4, _⟩ := DataW.trod_int Tryz.underlying3 t4
      obtain ⟨A5, m5, c5, l5, rfl, hI5, hc5⟩ := cints_of_trod t5
      simp at e0 e1 e2 e3 e4
      subst e0 e1 e2 e3 e4
      refine ⟨⟨n0, n1, n2, n3, n4, A5, m5, c5, l5⟩, hI5, ?_⟩
      intro j u hu
      rcases j with _ | _ | _ | _ | _ | _ | j <;> simp [S.cells] at hu <;> subst hu <;> assumption
    obtain ⟨l, hl, hq⟩ := list_of key
    have hall : ∀ q ∈ l, Ints W q.A q.n q.l := fun q hq' => by
      obtain ⟨i, hi⟩ := List.mem_iff_getElem?.1 hq'
      exact (hq i q hi).1
    exact ⟨_, _, _, l, rfl, ⟨⟨hl.symm, by rw [flat_len S.cells 6 (fun _ => rfl), hl], fun _ => ⟨a, rfl, flat_cell S.cells 6 (fun _ => rfl) (by omega) fun i q hi => (hq i q hi).2⟩⟩, hall⟩, hlc⟩
end
end Go.Proofs.YtippdjmpkafifaaGreat
namespace Go.Proofs.YtippdjmpkafifaaGreat
open Go.ChangeShapes Go.WideShapes Go.Deep Go.RowKit
section
variable {H : Type} {enc : TypeId × Value → H} {W : World} {base b0 : Nat} {spare : Nat → Bool} {held : Bool} {r : Reach}
set_option maxRecDepth 100000 in
theorem open_book {v : Value} {d : DataW H} {ps : List MemPlace} (hval : Value.okWide Tryz.prog W r base 44 v) (h : DataW.Trod enc Tryz.prog W b0 spare held 44 v d ps) : ∃ nd A n c l SA sn sc ss B m k r, v = .agg #[.int .i64 nd, .slice A n c, .slice SA sn sc, .slice B m k] ∧ Roads W A n l ∧ Shifts W SA sn ss ∧ Reqs W B m r ∧ ((d.weights Tryz.prog 44).all (· ≤ reachBytes) = true → m * 72 ≤ 140737488351232) := by
  obtain ⟨cs, rfl, hsz⟩ := okWide_struct Tryz.underlying44 hval
  obtain ⟨fuel, hf⟩ := h
  obtain ⟨ys, n', _, hxx, hlen, hyl, hfl⟩ := DataW.trod_struct Tryz.underlying44 hf
  rw [show Tryz.prog.cellsOf 44 = 4 by kernel_rfl] at hsz
  obtain ⟨v0, v1, v2, v3, rfl⟩ : ∃ v0 v1 v2 v3, cs = #[v0, v1, v2, v3] := by
    obtain ⟨l⟩ := cs
    rcases l with _ | ⟨v0, _ | ⟨v1, _ | ⟨v2, _ | ⟨v3, _ | ⟨v4, l⟩⟩⟩⟩⟩ <;> simp at hsz
    exact ⟨_, _, _, _, rfl⟩
  have get : ∀ i, i < ys.length → ∃ y, ys[i]? = some y := fun i hi => ⟨_, List.getElem?_eq_getElem hi⟩
  have hy : ys.length = 3 := hyl
  have C24 : Tryz.prog.cellsOf 24 = 2 := by kernel_rfl
  have C25 : Tryz.prog.cellsOf 25 = 1 := by kernel_rfl
  have C26 : Tryz.prog.cellsOf 26 = 1 := by kernel_rfl
  have t0 := hfl 0 _ rfl
  obtain ⟨y0, g0⟩ := get 0 (by omega)
  rw [g0] at t0
  have t1 := hfl 1 _ rfl
  obtain ⟨y1, g1⟩ := get 1 (by omega)
  rw [g1] at t1
  have t2 := hfl 2 _ rfl
  obtain ⟨y2, g2⟩ := get 2 (by omega)
  rw [g2] at t2
  simp [C24, C25, C26, Value.cells] at t0 t1 t2
  obtain ⟨zs, n2, _, _, _, hzl, hzf⟩ := DataW.trod_struct Tryz.underlying24 t0
  have hz : zs.length = 2 := hzl
  have C3 : Tryz.prog.cellsOf 3 = 1 := by kernel_rfl
  have C22 : Tryz.prog.cellsOf 22 = 1 := by kernel_rfl
  have s0 := hzf 0 _ rfl
  have s1 := hzf 1 _ rfl
  obtain ⟨z0, k0⟩ : ∃ y, zs[0]? = some y := ⟨_, List.getElem?_eq_getElem (by omega)⟩
  obtain ⟨z1, k1⟩ : ∃ y, zs[1]? = some y := ⟨_, List.getElem?_eq_getElem (by omega)⟩
  rw [k0] at s0
  rw [k1] at s1
  simp [C3, C22] at s0 s1
  obtain ⟨nd, e0, _⟩ := DataW.trod_int Tryz.underlying3 s0
  obtain ⟨A, n, c, l, e1, hR⟩ := roads_of_trod s1
  obtain ⟨SA, sn, sc, ss, e2, hS, -⟩ := shifts_of_trod t1
  obtain ⟨B, m, k, r, e3, hQ⟩ := reqs_of_trod t2
  have hw : ∀ ds : List (DataW H), ds[2]? = some y2.1 → (DataW.weightsEach Tryz.prog [24, 25, 26] ds).all (· ≤ reachBytes) = true → m * 72 ≤ 140737488351232 := fun ds hd hall => by
    rcases open_slice_fields Tryz.underlying26 Tryz.underlying47 (by kernel_rfl) (by kernel_rfl) t2 with ⟨hcs, _⟩ | ⟨a, len, cap, m', D, Pl, hcs, _, hlc, _, hm, hx, _⟩
    · rw [e3] at hcs
      injection hcs with hcs
      injection hcs with _ h1 _
      rw [h1]; decide
    · rw [e3] at hcs
      injection hcs with hcs
      injection hcs with _ h1 _
      rw [hx] at hd
      have h2 := sized_slice hall (j := 2) (t := 26) rfl hd Tryz.underlying26
      rw [List.length_map, List.length_range, show Tryz.prog.bytesOf 47 = 72 by kernel_rfl, ← h1] at h2
      have h3 : reachBytes = 140737488351232 := rfl
      omega
  simp at e0 e1 e2
  subst e0 e1 e2
  subst e3
  exact ⟨nd, A, n, c, l, SA, sn, sc, ss, B, m, k, r, rfl, hR, hS, hQ, fun h => hw (ys.map (·.1)) (by rw [List.getElem?_map, g2]; rfl) (by
    rw [show d = .agg (ys.map (·.1)) from congrArg Prod.fst hxx] at h
    simpa [DataW.weights, Tryz.underlying44] using h)⟩
set_option maxRecDepth 100000 in
theorem open_req {v : Value} {d : DataW H} {ps : List MemPlace} (hval : Value.okWide Tryz.prog W r base 47 v) (h : DataW.Trod enc Tryz.prog W b0 spare held 47 v d ps) : ∃ q : Q, v = .agg #[.int .i64 q.node, .int .i64 q.room, .int .i64 q.kilos, .int .i64 q.service, .int .i64 q.frm, .int .i64 q.by_, .slice q.A q.n q.c] ∧ Wins W q.A q.n q.l := by
  obtain ⟨cs, rfl, hsz⟩ := okWide_struct Tryz.underlying47 hval
  obtain ⟨fuel, hf⟩ := h
  obtain ⟨ys, n', _, _, hlen, hyl, hfl⟩ := DataW.trod_struct Tryz.underlying47 hf
  rw [show Tryz.prog.cellsOf 47 = 7 by kernel_rfl] at hsz
  obtain ⟨v0, v1, v2, v3, v4, v5, v6, rfl⟩ : ∃ v0 v1 v2 v3 v4 v5 v6, cs = #[v0, v1, v2, v3, v4, v5, v6] := by
    obtain ⟨l⟩ := cs
    rcases l with _ | ⟨v0, _ | ⟨v1, _ | ⟨v2, _ | ⟨v3, _ | ⟨v4, _ | ⟨v5, _ | ⟨v6, _ | ⟨v7, l⟩⟩⟩⟩⟩⟩⟩⟩ <;> simp at hsz
    exact ⟨_, _, _, _, _, _, _, rfl⟩
  have get : ∀ i, i < ys.length → ∃ y, ys[i]? = some y := fun i hi => ⟨_, List.getElem?_eq_getElem hi⟩
  have hy : ys.length = 7 := hyl
  have C3 : Tryz.prog.cellsOf 3 = 1 := by kernel_rfl
  have C45 : Tryz.prog.cellsOf 45 = 1 := by kernel_rfl
  have t0 := hfl 0 _ rfl
  obtain ⟨y0, g0⟩ := get 0 (by omega)
  rw [g0] at t0
  have t1 := hfl 1 _ rfl
  obtain ⟨y1, g1⟩ := get 1 (by omega)
  rw [g1] at t1
  have t2 := hfl 2 _ rfl
  obtain ⟨y2, g2⟩ := get 2 (by omega)
  rw [g2] at t2
  have t3 := hfl 3 _ rfl
  obtain ⟨y3, g3⟩ := get 3 (by omega)
  rw [g3] at t3
  have t4 := hfl 4 _ rfl
  obtain ⟨y4, g4⟩ := get 4 (by omega)
  rw [g4] at t4
  have t5 := hfl 5 _ rfl
  obtain ⟨y5, g5⟩ := get 5 (by omega)
  rw [g5] at t5
  have t6 := hfl 6 _ rfl
  obtain ⟨y6, g6⟩ := get 6 (by omega)
  rw [g6] at t6
  simp [C3, C45, Value.cells] at t0 t1 t2 t3 t4 t5 t6
  obtain ⟨n0, e0, _⟩ := DataW.trod_int Tryz.underlying3 t0
  obtain ⟨n1, e1, _⟩ := DataW.trod_int Tryz.underlying3 t1
  obtain ⟨n2, e2, _⟩ := DataW.trod_int Tryz.underlying3 t2
  obtain ⟨n3, e3, _⟩ := DataW.trod_int Tryz.underlying3 t3
  obtain ⟨n4, e4, _⟩ := DataW.trod_int Tryz.underlying3 t4
  obtain ⟨n5, e5, _⟩ := DataW.trod_int Tryz.underlying3 t5
  obtain ⟨A, n, c, l, e6, hX⟩ := wins_of_trod t6
  simp at e0 e1 e2 e3 e4 e5 e6
  subst e0 e1 e2 e3 e4 e5 e6
  exact ⟨⟨n0, n1, n2, n3, n4, n5, A, n, c, l⟩, rfl, hX⟩
end
end Go.Proofs.YtippdjmpkafifaaGreat
namespace Go.Proofs.YtippdjmpkafifaaGreat
open Go.RowKit
theorem ask_any2 (x : Cs) (q : Q) (w : World) (hx : Ok33 w x q) (hf : Few33 x q) :
    Calls Tryz.prog 33 #[.agg #[.int .i64 x.nd, .slice x.A x.n x.c, .slice x.SA x.sn x.sc, .slice x.B x.m x.d], .agg #[.int .i64 q.node, .int .i64 q.room, .int .i64 q.kilos, .int .i64 q.service, .int .i64 q.frm, .int .i64 q.by_, .slice q.A q.n q.c]] w fun e w' => (∃ (x' : Cs) (a : AV) (acc : Bool) (er : Int), e = .returned (.tuple #[.agg #[.int .i64 x'.nd, .slice x'.A x'.n x'.c, .slice x'.SA x'.sn x'.sc, .slice x'.B x'.m x'.d], .agg #[.bool acc, .slice a.PA a.pn a.pc, .slice a.VA a.vn a.vc, .slice a.RA a.rn a.rc], .int .i64 er]) ∧ AvAt w' a ∧ AvOk a ∧ acc = a.acc ∧ er = (K.ask33 x.nd x.l x.ss x.r q).2.2 ∧ a.an = (K.ask33 x.nd x.l x.ss x.r q).2.1 ∧ BookAt w' x x' (K.ask33 x.nd x.l x.ss x.r q).1) ∧ Below w.heap.size w w' := by
  refine (ask_any x q w hx (by have := hf.n; omega) (by have := hf.sn; omega) (fun s hs => by have := hf.s s hs; omega)).mono ?_
  rintro e w' ⟨⟨x', a, rfl, h1, h2, h3, h4, -, -⟩, hb⟩
  exact ⟨⟨x', a, a.acc, _, rfl, h1, h2, rfl, rfl, h3, h4⟩, hb⟩
end Go.Proofs.YtippdjmpkafifaaGreat
namespace Go.Proofs.YtippdjmpkafifaaGreat
open Go.RowKit
namespace K
def many33 (m : Nat) : Nat := m % 2 + m / 2 % 2 + m / 4 % 2 + m / 8 % 2
theorem bits33 : ∀ n : Fin 5, ∀ m : Fin 16, m.val < 2 ^ n.val → num (part (iota n.val) m.val) = m.val ∧ many33 m.val = (part (iota n.val) m.val).length := by decide +kernel
theorem iota_len (n : Nat) : (iota n).length = n := by unfold iota; rw [List.length_map, List.length_range]
theorem part_iota {n m : Nat} (hn : n ≤ 4) (hm : m < 2 ^ n) : num (part (iota n) m) = m ∧ many33 m = (part (iota n) m).length := by
  have h16 : m < 16 := Nat.lt_of_lt_of_le hm (Nat.pow_le_pow_right (by decide) hn)
  exact bits33 ⟨n, by omega⟩ ⟨m, h16⟩ hm
theorem part_combo {n m : Nat} : part (iota n) m ∈ A.combos n (part (iota n) m).length 0 := by
  have hs := part_sub (iota n) m
  exact A.mem_combos.2 ⟨rfl, (iota_sorted n).sublist hs, fun x hx => by have := mem_iota.1 (hs.subset hx); omega⟩
theorem mask33 {n : Nat} {v : List Int} (h1 : v.Pairwise (· < ·)) (h2 : ∀ i ∈ v, 0 ≤ i ∧ i < (n : Int)) : ∃ m, m < 2 ^ n ∧ part (iota n) m = v := by
  obtain ⟨m, g1, g2⟩ := sub_mask2 (A.sub_of_sorted h1 (iota_sorted n) fun x hx => mem_iota.2 (h2 x hx))
  rw [iota_len] at g1
  exact ⟨m, g1, g2⟩
section
variable {nd : Int} {l : List Ro} {ss : List S} {r : List Q} {x : Q}
structure Refusal (nd : Int) (l : List Ro) (ss : List S) (r : List Q) (x : Q) (v : List Int) : Prop where
  asc : v.Pairwise (· < ·)
  within : ∀ i ∈ v, 0 ≤ i ∧ i < (r.length : Int)
  lt : num v < 2 ^ r.length
  size : many33 (num v) = v.length
  named : (plan nd l ss (pick33 r (part (iota r.length) (num v)) x)).2 = 4
  less : ∀ m, m < 2 ^ r.length → many33 m < many33 (num v) → (plan nd l ss (pick33 r (part (iota r.length) m) x)).2 = 0
theorem refusal (hr : r.length ≤ 4) (h0 : (ask33 nd l ss r x).2.2 = 0) (h1 : (ask33 nd l ss r x).2.1.acc = false) : Refusal nd l ss r x (ask33 nd l ss r x).2.1.blk := by
  rcases ask_cases (nd := nd) (l := l) (ss := ss) (r := r) (x := x) with ⟨e, g1, g2⟩ | ⟨⟨g1, g2, g3⟩, ⟨g4, g5⟩ | ⟨g4, v, g5, g6⟩⟩
  · rw [g2] at h0; exact absurd h0 g1
  · rw [g5] at h1; cases h1
  rw [g6]
  show Refusal nd l ss r x v
  obtain ⟨n, -, -, hv, hb, hless⟩ := small33_some g5
  obtain ⟨p1, p2⟩ := combo_in hv
  obtain ⟨m, hm, rfl⟩ := mask33 p1 p2
  obtain ⟨q1, q2⟩ := part_iota hr hm
  have hlen : (part (iota r.length) m).length = n := (A.mem_combos.1 hv).1
  have hpc := plan_4 g4
  refine ⟨p1, p2, by rw [q1]; exact hm, by rw [q1]; exact q2, by rw [q1]; exact beq_iff_eq.1 hb, fun m' hm' hlt => ?_⟩
  obtain ⟨q3, q4⟩ := part_iota hr hm'
  rw [q1, q2, q4, hlen] at hlt
  have h9 := hless _ (Nat.zero_le _) hlt _ part_combo
  unfold blocks33 at h9
  have hsub := pick_subl (x := x) ((iota_sorted _).sublist (part_sub (iota r.length) m')) (fun i hi => by have := mem_iota.1 ((part_sub (iota r.length) m').subset hi); omega)
  rcases plan_42 (pcheck_sub hpc.1 hsub) with h8 | h8
  · exact h8
  · rw [h8] at h9; cases h9
end
end K
end Go.Proofs.YtippdjmpkafifaaGreat
namespace Go.Proofs.YtippdjmpkafifaaGreat
open Go.RowKit
theorem bel_alloc0 (w : World) (o : Obj) : Below w.heap.size w (w.alloc o) := (Below.refl _ _).alloc (Nat.le_refl _) _
namespace K
theorem iota_succ (n : Nat) : iota (n + 1) = iota n ++ [(n : Int)] := by unfold iota; rw [List.range_succ, List.map_append]; rfl
def somes (r : List Q) (m k : Nat) : List Q := (part (iota k) m).map (req r)
theorem somes_succ {r : List Q} {m k : Nat} {q : Q} (hq : r[k]? = some q) : somes r m (k + 1) = somes r m k ++ if m.testBit k = true then [q] else [] := by
  unfold somes
  rw [iota_succ, part_snoc, List.map_append, iota_len]
  congr 1
  split
  · rw [List.map_singleton, req_at hq]
  · rfl
theorem somes_len (r : List Q) (m k : Nat) : (somes r m k).length ≤ k := by
  unfold somes
  rw [List.length_map]
  have := part_len (iota k) m
  rwa [iota_len] at this
theorem somes_mem {r : List Q} {m k : Nat} (hk : k ≤ r.length) : ∀ p ∈ somes r m k, p ∈ r := fun p hp => by
  unfold somes at hp
  obtain ⟨i, hi, rfl⟩ := List.mem_map.1 hp
  have h1 := mem_iota.1 ((part_sub (iota k) m).subset hi)
  obtain ⟨j, rfl⟩ : ∃ j : Nat, i = (j : Int) := ⟨i.toNat, by omega⟩
  have hj : j < r.length := by omega
  rw [req_at (List.getElem?_eq_getElem hj)]
  exact List.getElem_mem hj
theorem many_bits : ∀ m : Fin 16, bits .and .i64 (m.val : Int) 1 = ((m.val % 2 : Nat) : Int) ∧ bits .and .i64 ((m.val : Int) / 2) 1 = ((m.val / 2 % 2 : Nat) : Int) ∧ bits .and .i64 ((m.val : Int) / 4) 1 = ((m.val / 4 % 2 : Nat) : Int) ∧ bits .and .i64 ((m.val : Int) / 8) 1 = ((m.val / 8 % 2 : Nat) : Int) := by decide +kernel
end K
set_option maxRecDepth 100000 in
set_option maxHeartbeats 4000000 in
theorem many_any (m : Nat) (hm : m < 16) (w : World) : Calls Tryz.prog 39 #[.int .i64 m] w fun e w' => e = .returned (.int .i64 (K.many33 m)) ∧ w = w' := by
  obtain ⟨h0, h1, h2, h3⟩ := K.many_bits ⟨m, hm⟩
  dsimp only at h0 h1 h2 h3
  obtain ⟨m0, hm0⟩ : ∃ n, n = m % 2 := ⟨_, rfl⟩
  obtain ⟨m1, hm1⟩ : ∃ n, n = m / 2 % 2 := ⟨_, rfl⟩
  obtain ⟨m2, hm2⟩ : ∃ n, n = m / 4 % 2 := ⟨_, rfl⟩
  obtain ⟨m3, hm3⟩ : ∃ n, n = m / 8 % 2 := ⟨_, rfl⟩
  have HX := Lib.hid (show K.many33 m = m0 + m1 + m2 + m3 by unfold K.many33; rw [hm0, hm1, hm2, hm3])
  have e1 : IntKind.i64.wrap ((m0 : Int) + m1) = (m0 : Int) + m1 := IntWalk.i64_in _ (by omega)
  have e2 : IntKind.i64.wrap ((m0 : Int) + m1 + m2) = (m0 : Int) + m1 + m2 := IntWalk.i64_in _ (by omega)
  have e3 : IntKind.i64.wrap ((m0 : Int) + m1 + m2 + m3) = (m0 : Int) + m1 + m2 + m3 := IntWalk.i64_in _ (by omega)
  rw [← hm0] at h0
  rw [← hm1] at h1
  rw [← hm2] at h2
  rw [← hm3] at h3
  clear hm0 hm1 hm2 hm3
  go_enter Tryz.func39, Tryz.ntmps39
  go_wp2_with fail
  go_ret
  refine ⟨?_, rfl⟩
  rw [HX.out]
  push_cast
  rfl
set_option maxRecDepth 100000 in
set_option maxHeartbeats 8000000 in
theorem some40_any (x : Cs) (m : Nat) (q : Q) (w : World) (hQ : Reqs w x.B x.m x.r) (hX : Wins w q.A q.n q.l) (hx4 : x.m ≤ 4) (hm : m < 16) :
    Calls Tryz.prog 40 #[.slice x.B x.m x.d, .int .i64 m, .agg #[.int .i64 q.node, .int .i64 q.room, .int .i64 q.kilos, .int .i64 q.service, .int .i64 q.frm, .int .i64 q.by_, .slice q.A q.n q.c]] w fun e w' => (∃ A n k, e = .returned (.slice A n k) ∧ Reqs w' A n (K.somes x.r m x.r.length ++ [q]) ∧ n ≤ 5) ∧ Below w.heap.size w w' := by
  obtain ⟨w1, hw1⟩ : ∃ w1 : World, w1 = w.alloc (.cells #[.int .i64 q.node, .int .i64 q.room, .int .i64 q.kilos, .int .i64 q.service, .int .i64 q.frm, .int .i64 q.by_, .slice q.A q.n q.c] 47) := ⟨_, rfl⟩
  have b1 : Below w.heap.size w w1 := by rw [hw1]; exact bel_alloc0 _ _
  obtain ⟨g, hg⟩ : ∃ g, g = w.heap.size := ⟨_, rfl⟩
  have hB1 : QBlk w1 g q := by rw [hw1, hg]; exact QBlk.new _ _
  obtain ⟨w2, hw2⟩ : ∃ w2 : World, w2 = w1.alloc (.cells #[] 47) := ⟨_, rfl⟩
  have b2 : Below w1.heap.size w1 w2 := by rw [hw2]; exact bel_alloc0 _ _
  have z1 : w1.heap.size = g + 1 := by rw [hw1, hg]; exact World.size_alloc _ _
  have hown0 : w2.ownsRow w1.heap.size 47 7 (.slice (some ⟨g + 1, 0, none⟩) 0 0) (K.somes x.r m 0).length ((K.somes x.r m 0).flatMap Q.cells) := by
    rw [hw2, ← z1]
    exact own_lit (heap_alloc_new w1 _) (Nat.le_refl _)
  have HRN := Lib.hid hQ.1
  go_enter Tryz.func40, Tryz.ntmps40
  go_wp2_with fail
  rw [← hw1, ← hg, ← hw2]
  clear hw1 hg hw2 z1
  go_loopw [7, 8] (fun v7 v8 wr => ∃ k : Nat, v8 = .int .i64 k ∧ k ≤ x.m ∧ wr.ownsRow w1.heap.size 47 7 v7 (K.somes x.r m k).length ((K.somes x.r m k).flatMap Q.cells) ∧ Below w1.heap.size w1 wr) (fun _ v8 _ => x.m - (intOf v8).toNat)
  case atStart => exact ⟨0, rfl, Nat.zero_le _, hown0, b2⟩
  case round =>
    clear hown0
    obtain ⟨k, rfl, hk, hown, hbr⟩ := hrel
    have hLl := K.somes_len x.r m k
    obtain ⟨L, hL⟩ : ∃ L, L = K.somes x.r m k := ⟨_, rfl⟩
    rw [← hL] at hown hLl
    have HL := Lib.hid hL
    clear hL
    by_cases hlt : k < x.m
    · have k0 : (0 : Int) ≤ (k : Int) := by omega
      have k1 : (k : Int) < (x.m : Int) := by omega
      have k2 : k + 1 ≤ x.m := hlt
      have k3 : (k : Int) < 64 := by omega
      have hL6 : L.length ≤ 1000000 := by omega
      obtain ⟨adq, y, hB, hy, -, c0, c1, c2, c3, c4, c5, c6⟩ := (hQ.below (bel b1 hbr)).at_ hlt
      have hb := bit_at (m := m) (k := k) (by omega) (by omega)
      have HSC := Lib.hid (K.somes_succ (m := m) hy)
      cases hbit : m.testBit k
      · rw [hbit, if_neg (by decide)] at hb
        have HE := Lib.hid (show K.somes x.r m (k + 1) = L by rw [HSC.out, hbit, HL.out]; simp)
        clear hbit c0 c1 c2 c3 c4 c5 c6 hy
        go_wp2_with fail
        go_roundw
        case rel => (go_light; exact ⟨k + 1, by go_num, k2, by rw [HE.out]; exact hown, hbr⟩)
        case measure => (go_light; simp [intOf]; omega)
      · rw [hbit, if_pos rfl] at hb
        have HE := Lib.hid (show K.somes x.r m (k + 1) = L ++ [y] by rw [HSC.out, hbit, HL.out]; simp)
        obtain ⟨g9, hg9⟩ : ∃ g9, g9 = wr.heap.size := ⟨_, rfl⟩
        obtain ⟨w5, hw5⟩ : ∃ w5 : World, w5 = wr.alloc (.cells #[.int .i64 y.node, .int .i64 y.room, .int .i64 y.kilos, .int .i64 y.service, .int .i64 y.frm, .int .i64 y.by_, .slice y.A y.n y.c] 47) := ⟨_, rfl⟩
        have b5 : Below wr.heap.size wr w5 := by rw [hw5]; exact bel_alloc0 _ _
        have hB5 : w5.heap[g9]? = some (.cells y.cells.toArray 47 (0, 0)) := by rw [hw5, hg9]; exact heap_alloc_new _ _
        have hown5 := own_below hown b5
        have hbs : w1.heap.size ≤ w5.heap.size := Nat.le_trans hbr.size b5.size
        have hb5 := bel hbr b5
        clear hbit hy
        rw [hB]
        go_wp2_with (first
          | (at_builtin; rw [← hw5, ← hg9]; refine app_req rfl _ _ rfl w1.heap.size _ L.length L rfl hown5 g9 y rfl hB5 hL6 hbs ?_; intro v6 w6 hown6 hgrow6 _)
          | fail)
        have hb6 : Below w1.heap.size w1 w6 := below_own2 hb5 hgrow6 (fun g e => (hown5.lt g e).1)
        go_roundw
        case rel => (go_light; exact ⟨k + 1, by go_num, k2, by rw [HE.out, List.length_append]; exact hown6, hb6⟩)
        case measure => (go_light; simp [intOf]; omega)
    · have hd : decide ((k : Int) < (x.m : Int)) = false := by simp; omega
      have hd2 : decide (k < x.m) = false := by simp; omega
      have hkm : k = x.r.length := by rw [← HRN.out]; omega
      have HE := Lib.hid (show K.somes x.r m x.r.length = L by rw [HL.out, hkm])
      have HM := Lib.hid (show ∀ p ∈ L, p ∈ x.r by rw [HL.out]; exact K.somes_mem (by omega))
      have hL6 : L.length ≤ 1000000 := by omega
      have HL4 := Lib.hid (show L.length ≤ 4 by omega)
      have hbw := bel b1 hbr
      have hQb := hB1.below hbr
      obtain ⟨c0, c1, c2, c3, c4, c5, c6⟩ := hQb.cells
      obtain ⟨g9, hg9⟩ : ∃ g9, g9 = wr.heap.size := ⟨_, rfl⟩
      obtain ⟨w5, hw5⟩ : ∃ w5 : World, w5 = wr.alloc (.cells #[.int .i64 q.node, .int .i64 q.room, .int .i64 q.kilos, .int .i64 q.service, .int .i64 q.frm, .int .i64 q.by_, .slice q.A q.n q.c] 47) := ⟨_, rfl⟩
      have b5 : Below wr.heap.size wr w5 := by rw [hw5]; exact bel_alloc0 _ _
      have hB5 : w5.heap[g9]? = some (.cells q.cells.toArray 47 (0, 0)) := by rw [hw5, hg9]; exact heap_alloc_new _ _
      have hown5 := own_below hown b5
      have hbs : w1.heap.size ≤ w5.heap.size := Nat.le_trans hbr.size b5.size
      have hb5 := bel hbr b5
      clear hkm hlt hk hown
      go_wp2_with (first
        | (at_builtin; rw [← hw5, ← hg9]; refine app_req rfl _ _ rfl w1.heap.size _ L.length L rfl hown5 g9 q rfl hB5 hL6 hbs ?_; intro v6 w6 hown6 hgrow6 _)
        | fail)
      have hb6 : Below w1.heap.size w1 w6 := below_own2 hb5 hgrow6 (fun g e => (hown5.lt g e).1)
      have hb66 := bel b1 hb6
      obtain ⟨A6, c6', rfl, hRd, -⟩ := own_form hown6
      go_ret
      refine ⟨⟨A6, L.length + 1, c6', rfl, ?_, by have := HL4.out; omega⟩, hb66⟩
      rw [HE.out]
      refine ⟨by rw [List.length_append]; rfl, by rw [reqCells_flat]; exact hRd, fun p hp => ?_⟩
      rcases List.mem_append.1 hp with hp | hp
      · exact (hQ.2.2 p (HM.out p hp)).below hb66
      · rw [List.mem_singleton.1 hp]; exact hX.below hb66
end Go.Proofs.YtippdjmpkafifaaGreat
namespace Go.Proofs.YtippdjmpkafifaaGreat
open Go.RowKit
theorem plan_some (x : Cs) (A7 : Option Addr) (n7 k7 : Nat) (L : List Q) (w : World) (hcs : CsAt w (x.with_ A7 n7 k7 L)) (er : Int) (h : (K.plan x.nd x.l x.ss L).2 = er) :
    Calls Tryz.prog 20 #[.agg #[.int .i64 x.nd, .slice x.A x.n x.c], .slice x.SA x.sn x.sc, .slice A7 n7 k7] w fun e w' => (∃ A n c, e = .returned (.tuple #[.slice A n c, .int .i64 er])) ∧ Below w.heap.size w w' := by
  refine Calls.mono (plan32X (x.with_ A7 n7 k7 L) w hcs) ?_
  rintro e w' ⟨⟨A, n, c, l, rfl, -⟩, hb⟩
  subst h
  exact ⟨⟨A, n, c, rfl⟩, hb⟩
theorem pow_le16 {n : Nat} (h : n ≤ 4) : 2 ^ n ≤ 16 := Nat.pow_le_pow_right (by decide) h
set_option maxRecDepth 100000 in
set_option maxHeartbeats 32000000 in
theorem smallest_any (x : Cs) (q : Q) (w : World) (hN : Roads w x.A x.n x.l) (hS : Shifts w x.SA x.sn x.ss) (hQ : Reqs w x.B x.m x.r) (hX : Wins w q.A q.n q.l) (hmB : x.m * 72 ≤ 140737488351232) :
    Calls Tryz.prog 6 #[.agg #[.int .i64 x.nd, .slice x.A x.n x.c, .slice x.SA x.sn x.sc, .slice x.B x.m x.d], .agg #[.int .i64 q.node, .int .i64 q.room, .int .i64 q.kilos, .int .i64 q.service, .int .i64 q.frm, .int .i64 q.by_, .slice q.A q.n q.c]] w fun e w' => e = .returned (.bool true) ∧ Below w.heap.size w w' := by
  obtain ⟨w1, hw1⟩ : ∃ w1 : World, w1 = w.alloc (.cells #[.int .i64 x.nd, .slice x.A x.n x.c, .slice x.SA x.sn x.sc, .slice x.B x.m x.d] 44) := ⟨_, rfl⟩
  have b1 : Below w.heap.size w w1 := by rw [hw1]; exact bel_alloc0 _ _
  have z1 : w1.heap.size = w.heap.size + 1 := by rw [hw1]; exact World.size_alloc _ _
  have hN1 : BkBlk w1 w.heap.size x := by rw [hw1]; exact BkBlk.new _ _
  obtain ⟨w2, hw2⟩ : ∃ w2 : World, w2 = w1.alloc (.cells #[.int .i64 q.node, .int .i64 q.room, .int .i64 q.kilos, .int .i64 q.service, .int .i64 q.frm, .int .i64 q.by_, .slice q.A q.n q.c] 47) := ⟨_, rfl⟩
  have b2 : Below w1.heap.size w1 w2 := by rw [hw2]; exact bel_alloc0 _ _
  have hB2 : QBlk w2 (w.heap.size + 1) q := by rw [hw2, ← z1]; exact QBlk.new _ _
  have hN2 := hN1.below b2
  have hb2 := bel b1 b2
  have HMK := Lib.hid (show ∀ w', Below w2.heap.size w2 w' → (fun w' : World => w'.cell? ⟨w.heap.size, 0, none⟩ = some (.int .i64 x.nd) ∧ w'.cell? ⟨w.heap.size, 1, none⟩ = some (.slice x.A x.n x.c) ∧ w'.cell? ⟨w.heap.size, 2, none⟩ = some (.slice x.SA x.sn x.sc) ∧ w'.cell? ⟨w.heap.size, 3, none⟩ = some (.slice x.B x.m x.d) ∧ w'.cell? ⟨w.heap.size + 1, 0, none⟩ = some (.int .i64 q.node) ∧ w'.cell? ⟨w.heap.size + 1, 1, none⟩ = some (.int .i64 q.room) ∧ w'.cell? ⟨w.heap.size + 1, 2, none⟩ = some (.int .i64 q.kilos) ∧ w'.cell? ⟨w.heap.size + 1, 3, none⟩ = some (.int .i64 q.service) ∧ w'.cell? ⟨w.heap.size + 1, 4, none⟩ = some (.int .i64 q.frm) ∧ w'.cell? ⟨w.heap.size + 1, 5, none⟩ = some (.int .i64 q.by_) ∧ w'.cell? ⟨w.heap.size + 1, 6, none⟩ = some (.slice q.A q.n q.c)) w' from fun w' h => BQ.mk' (hN2.below h) (hB2.below h))
  have HRN := Lib.hid hQ.1
  clear z1 hN1 hB2 hN2 b1 b2
  go_enter Tryz.func6, Tryz.ntmps6
  go_wp2_with fail
  rw [← hw1, ← hw2]
  clear hw1 hw2
  refine (psmall_any _).mono ?_
  rintro e w4 ⟨rfl, b4⟩
  have hb4 := bel hb2 b4
  obtain ⟨p0, p1, p2, p3, c0, c1, c2, c3, c4, c5, c6⟩ := HMK.out _ b4
  go_wp2_with fail
  refine (rfew33_any x q _ (hS.below hb4) (hQ.below hb4) (hX.below hb4) hmB).mono ?_
  rintro e w5 ⟨⟨z, rfl, hz⟩, b5⟩
  have HZ := Lib.hid hz
  have b5r := bel b4 b5
  have hb5 := bel hb2 b5r
  clear p0 p1 p2 p3 c0 c1 c2 c3 c4 c5 c6 hz
  obtain ⟨p0, p1, p2, p3, c0, c1, c2, c3, c4, c5, c6⟩ := HMK.out _ b5r
  cases z
  · go_wp2_with fail
    go_ret
    exact ⟨rfl, hb5⟩
  have hF := HZ.out rfl
  by_cases h4 : x.m ≤ 4
  rotate_left
  · have d1 : decide ((4 : Int) < (x.m : Int)) = true := by simp; omega
    have d2 : decide (4 < x.m) = true := by simp; omega
    clear h4
    go_wp2_with fail
    go_ret
    exact ⟨rfl, hb5⟩
  have d1 : decide ((4 : Int) < (x.m : Int)) = false := by simp; omega
  have d2 : decide (4 < x.m) = false := by simp; omega
  have hx5 := hF.ok (Lst.below hN hb5) (hS.below hb5) (hQ.below hb5) (hX.below hb5)
  have H4 := Lib.hid h4
  go_wp2_with fail
  refine (ask_any2 x q _ hx5 hF).mono ?_
  rintro e w7 ⟨⟨x', a, acc, er, rfl, hAt, hAo, hac, her, han, -⟩, b7⟩
  obtain ⟨R, hR⟩ : ∃ R, R = K.ask33 x.nd x.l x.ss x.r q := ⟨_, rfl⟩
  rw [← hR] at her han
  have b7r := bel b5r b7
  obtain ⟨W0, hW0⟩ : ∃ W0 : World, W0 = (w7.alloc (.cells #[.int .i64 x'.nd, .slice x'.A x'.n x'.c, .slice x'.SA x'.sn x'.sc, .slice x'.B x'.m x'.d] 44)).alloc (.cells #[.bool acc, .slice a.PA a.pn a.pc, .slice a.VA a.vn a.vc, .slice a.RA a.rn a.rc] 50) := ⟨_, rfl⟩
  obtain ⟨gB, hgB⟩ : ∃ gB, gB = w7.heap.size + 1 := ⟨_, rfl⟩
  have b70 : Below w7.heap.size w7 W0 := by rw [hW0]; exact bel_alloc (bel_alloc (Below.refl _ _) _) _
  have hBB : W0.heap[gB]? = some (.cells #[.bool acc, .slice a.PA a.pn a.pc, .slice a.VA a.vn a.vc, .slice a.RA a.rn a.rc] 50 (0, 0)) := by rw [hW0, hgB]; exact heap_alloc_at _ _ _ (World.size_alloc _ _).symm
  have b0r := bel b7r b70
  have hb0 := bel hb2 b0r
  clear p0 p1 p2 p3 c0 c1 c2 c3 c4 c5 c6 d1 d2
  have HR := Lib.hid hR
  have HER := Lib.hid her
  have HAN := Lib.hid han
  have HAC := Lib.hid hac
  clear hR her han
  by_cases he : er = 0
  rotate_left
  · have e1 : (er != 0) = true := by simp [bne, he]
    have e2 : decide (er = 0) = false := by simp [he]
    clear he hac
    go_wp2_with fail
    rw [← hW0]
    go_ret
    exact ⟨rfl, hb0⟩
  subst he
  have u0 := blk_cell hBB 0 _ rfl
  cases acc
  rotate_left
  · clear hac
    go_upto_region 5 with fail
    rw [← hW0, ← hgB]
    clear hW0 hgB
    go_wp2_with fail
    go_ret
    exact ⟨rfl, hb0⟩
  have hacc : R.2.1.acc = false := by rw [← congrArg K.An.acc HAN.out]; exact HAC.out.symm
  have hrf := K.refusal (nd := x.nd) (l := x.l) (ss := x.ss) (r := x.r) (x := q) (by rw [← HRN.out]; exact h4) (by rw [← HR.out, ← HER.out]) (by rw [← HR.out]; exact hacc)
  have hbl : (K.ask33 x.nd x.l x.ss x.r q).2.1.blk = a.v := by rw [← HR.out]; exact (congrArg K.An.blk HAN.out).symm
  rw [hbl] at hrf
  obtain ⟨s6, h6⟩ := K.set6 hrf.asc fun i hi => by have := hrf.within i hi; have := HRN.out; omega
  have hs6 : K.num a.v = s6 := h6.num
  have H6 := Lib.hid h6
  obtain ⟨PW, hPW⟩ : ∃ p, p = 2 ^ x.m := ⟨_, rfl⟩
  have hPr : 2 ^ x.r.length = PW := by rw [← HRN.out]; exact hPW.symm
  have hlt6 : s6 < PW := by have := hrf.lt; rw [hs6, hPr] at this; exact this
  have hP16 : PW ≤ 16 := by rw [hPW]; exact pow_le16 h4
  have HW := Lib.hid hrf.within
  have HSZ := Lib.hid (show K.many33 s6 = a.vn by rw [← hs6, hrf.size]; exact hAt.v.1.symm)
  have HNM := Lib.hid (show (K.plan x.nd x.l x.ss (K.somes x.r s6 x.r.length ++ [q])).2 = 4 by rw [← hs6]; exact hrf.named)
  have HLS := Lib.hid (show ∀ m, m < PW → K.many33 m < K.many33 s6 → (K.plan x.nd x.l x.ss (K.somes x.r m x.r.length ++ [q])).2 = 0 from fun m hm hl => hrf.less m (by rw [hPr]; exact hm) (by rw [hs6]; exact hl))
  have HPW := Lib.hid hPW
  have HS6 := Lib.hid hs6
  clear hrf hbl hPr hs6 h6 hacc hPW hac
  have hV0 := hAt.v.below b70
  have hvn6 : a.vn ≤ 6 := by rw [hV0.1]; exact H6.out.len
  have hx0 := (hx5.below b7).below b70
  have S0 := HMK.out _ b0r
  obtain ⟨p0, p1, p2, p3, c0, c1, c2, c3, c4, c5, c6⟩ := HMK.out _ b0r
  have u2 := blk_cell hBB 2 _ rfl
  go_upto_region 5 with fail
  rw [← hW0, ← hgB]
  clear hW0 hgB
  go_wp2_with fail
  have hn0 : K.num (a.v.take 0) = 0 := rfl
  go_loopw [9, 10] (fun v9 v10 wr => ∃ j : Nat, v10 = .int .i64 j ∧ j ≤ a.vn ∧ v9 = .int .i64 (K.num (a.v.take j)) ∧ Below W0.heap.size W0 wr) (fun _ v10 _ => a.vn - (intOf v10).toNat)
  case atStart => exact ⟨0, rfl, Nat.zero_le _, rfl, Below.refl _ _⟩
  case round =>
    clear S0 p0 p1 p2 p3 c0 c1 c2 c3 c4 c5 c6 u0 u2 hn0
    obtain ⟨j, rfl, hj, rfl, hbr⟩ := hrel
    have b0w := bel b0r hbr
    obtain ⟨p0, p1, p2, p3, c0, c1, c2, c3, c4, c5, c6⟩ := HMK.out _ b0w
    have hBBr := blk_below hbr hBB
    have u2 := blk_cell hBBr 2 _ rfl
    have hVr := hV0.below hbr
    by_cases hlt : j < a.vn
    · obtain ⟨adv, i, hVA, hi, ci⟩ := hVr.at_ hlt
      obtain ⟨g1, g2, g3, g4⟩ := H6.out.at_ hi
      have hwi := HW.out i (List.mem_of_getElem? hi)
      have HNX := Lib.hid (H6.out.next hi)
      obtain ⟨i, rfl⟩ : ∃ n : Nat, i = (n : Int) := ⟨i.toNat, by omega⟩
      rw [Int.toNat_natCast] at g2 HNX
      obtain ⟨nm, hnm⟩ : ∃ nm, nm = K.num (a.v.take j) := ⟨_, rfl⟩
      rw [← hnm] at g1 g2 HNX ⊢
      obtain ⟨mm, hmm⟩ : ∃ mm, mm = nm + 2 ^ i := ⟨_, rfl⟩
      have hor : bits BinOp.or IntKind.i64 (nm : Int) (IntKind.i64.wrap (2 ^ i)) = (mm : Int) := by rw [wrap_pow (by omega), bit_or g1 (by omega) g2, hmm]
      have hor' : bits BinOp.or IntKind.i64 (nm : Int) (wrap64 (2 ^ i)) = (mm : Int) := by rw [← IntWalk.i64_left]; exact hor
      have HM := Lib.hid (show K.num (a.v.take (j + 1)) = mm by rw [HNX.out, hmm])
      have k0 : (0 : Int) ≤ (j : Int) := by omega
      have k1 : (j : Int) < (a.vn : Int) := by omega
      have k2 : (0 : Int) ≤ (i : Int) := by omega
      have k3 : (i : Int) < 64 := by omega
      have hri := HRN.out
      have q1 : decide ((i : Int) < 0) = false := by simp
      have q2 : decide ((x.m : Int) ≤ (i : Int)) = false := by simp; omega
      have q3 : decide (x.m ≤ i) = false := by simp; omega
      clear hi hmm hnm HNX g1 g2 g3 g4 hwi hri
      rw [hVA] at u2 ⊢
      go_wp2_with fail
      go_quiet (fail)
      go_wp2_with fail
      go_roundw
      case rel => (go_light; exact ⟨j + 1, by go_num, hlt, by rw [HM.out], below_drewN hbr _⟩)
      case measure => (go_light; simp [intOf]; omega)
    · have hd : decide ((j : Int) < (a.vn : Int)) = false := by simp; omega
      have hd2 : decide (j < a.vn) = false := by simp; omega
      have hnj : K.num (a.v.take j) = s6 := by rw [List.take_of_length_le (by rw [← hV0.1]; omega)]; exact HS6.out
      rw [hnj]
      have hmy := HSZ.out
      have hs16 : s6 < 16 := by omega
      have CM := fun w => many_any s6 hs16 w
      have q1 : ((a.vn : Int) != (a.vn : Int)) = false := by simp
      have q2 : decide ((a.vn : Int) = (a.vn : Int)) = true := by simp
      rw [hmy] at CM
      clear hnj hmy
      have S0 : (fun w' : World => w'.cell? ⟨gB, 2, none⟩ = some (.slice a.VA a.vn a.vc)) wr := u2
      have S0d : (fun w' : World => w'.cell? ⟨gB, 2, none⟩ = some (.slice a.VA a.vn a.vc)) wr.drew := u2
      go_upto_region 14 with fail
      go_region_held3 (fun w' : World => w'.cell? ⟨gB, 2, none⟩ = some (.slice a.VA a.vn a.vc))
        (first | with_reducible exact S0d | with_reducible exact S0 | fail)
        (first | (go_at_call 39; refine (CM _).mono ?_; rintro e wm ⟨rfl, rfl⟩) | fail)
      obtain ⟨wk, hwk⟩ : ∃ wk : World, wk = wr.drew := ⟨_, rfl⟩
      have bk0 : Below wr.heap.size wr wk := by rw [hwk]; exact (Below.refl _ _).drew
      rw [← hwk]
      have bkr := bel hbr bk0
      clear hwk S0 S0d CM u2 p0 p1 p2 p3 c0 c1 c2 c3 c4 c5 c6 hVr hBBr b0w hd hd2 hlt hj hbr bk0
      have b0w := bel b0r bkr
      obtain ⟨p0, p1, p2, p3, c0, c1, c2, c3, c4, c5, c6⟩ := HMK.out _ b0w
      have hpw : IntKind.i64.wrap ((2 : Int) ^ x.m) = (PW : Int) := by rw [wrap_pow (by omega), HPW.out]; push_cast; rfl
      have hpw' : wrap64 ((2 : Int) ^ x.m) = (PW : Int) := by rw [← IntWalk.i64_left]; exact hpw
      go_wp2_with fail
      go_loopw [11] (fun v11 wr => ∃ m : Nat, v11 = .int .i64 m ∧ m ≤ PW ∧ Below wk.heap.size wk wr) (fun v11 _ => PW - (intOf v11).toNat)
      case atStart => exact ⟨0, rfl, Nat.zero_le _, Below.refl _ _⟩
      case round =>
        clear p0 p1 p2 p3 c0 c1 c2 c3 c4 c5 c6
        obtain ⟨m, rfl, hm, hbl⟩ := hrel
        have bWl := bel bkr hbl
        have b0l := bel b0w hbl
        obtain ⟨p0, p1, p2, p3, c0, c1, c2, c3, c4, c5, c6⟩ := HMK.out _ b0l
        have hbL := bel hb2 b0l
        by_cases hlt : m < PW
        rotate_left
        · have hd : decide ((m : Int) < (PW : Int)) = false := by simp; omega
          have hd2 : decide (m < PW) = false := by simp; omega
          go_wp2_with fail
          go_ret
          exact ⟨rfl, hbL⟩
        have hd : decide ((m : Int) < (PW : Int)) = true := by simp; omega
        have hd2 : decide (m < PW) = true := by simp; omega
        have hm16 : m < 16 := by omega
        obtain ⟨pz, hpz⟩ : ∃ pz, pz = (K.plan x.nd x.l x.ss (K.somes x.r m x.r.length ++ [q])).2 := ⟨_, rfl⟩
        have HPZ := Lib.hid hpz.symm
        obtain ⟨L, hL⟩ : ∃ L, L = K.somes x.r m x.r.length ++ [q] := ⟨_, rfl⟩
        have HL := Lib.hid hL.symm
        have hxl := hx0.below bWl
        have HCS := Lib.hid (show ∀ w', Below wr.heap.size wr w' → ∀ A n k, Reqs w' A n L → n ≤ 5 → CsAt w' (x.with_ A n k L) from fun w' h A n k hR hn => by
          have hx8 := hxl.below h
          refine ⟨hx8.cs.net, hx8.cs.shifts, hR, hx8.cs.b1, hx8.cs.b2, hx8.cs.b3, (show n ≤ 1000000000 by omega), fun p hp => ?_⟩
          rw [hL] at hp
          exact (List.mem_append.1 hp).elim (fun hp => hx8.cs.b5 p (K.somes_mem (Nat.le_refl _) p hp)) (fun hp => by rw [List.mem_singleton.1 hp]; have := hF.q; omega))
        have HRQ := Lib.hid (show ∀ w', Below wr.heap.size wr w' → Reqs w' x.B x.m x.r ∧ Wins w' q.A q.n q.l from fun w' h => ⟨(hxl.below h).cs.reqs, (hxl.below h).req⟩)
        have HM3 := Lib.hid (show ∀ w', Below wr.heap.size wr w' → (fun w' : World => w'.cell? ⟨w.heap.size, 0, none⟩ = some (.int .i64 x.nd) ∧ w'.cell? ⟨w.heap.size, 1, none⟩ = some (.slice x.A x.n x.c) ∧ w'.cell? ⟨w.heap.size, 2, none⟩ = some (.slice x.SA x.sn x.sc) ∧ w'.cell? ⟨w.heap.size, 3, none⟩ = some (.slice x.B x.m x.d) ∧ w'.cell? ⟨w.heap.size + 1, 0, none⟩ = some (.int .i64 q.node) ∧ w'.cell? ⟨w.heap.size + 1, 1, none⟩ = some (.int .i64 q.room) ∧ w'.cell? ⟨w.heap.size + 1, 2, none⟩ = some (.int .i64 q.kilos) ∧ w'.cell? ⟨w.heap.size + 1, 3, none⟩ = some (.int .i64 q.service) ∧ w'.cell? ⟨w.heap.size + 1, 4, none⟩ = some (.int .i64 q.frm) ∧ w'.cell? ⟨w.heap.size + 1, 5, none⟩ = some (.int .i64 q.by_) ∧ w'.cell? ⟨w.heap.size + 1, 6, none⟩ = some (.slice q.A q.n q.c)) w' from fun w' h => HMK.out _ (bel b0l h))
        have hR0 : Below wr.heap.size wr wr := Below.refl _ _
        have hR0d : Below wr.heap.size wr wr.drew := hR0.drew
        have S0 := HM3.out _ hR0
        have S0d := HM3.out _ hR0d
        rw [← hL] at hpz
        have HPL := Lib.hid hpz.symm
        clear hL hpz
        go_upto_region 19 with fail
        go_region_held3 (fun w' : World => w'.cell? ⟨w.heap.size, 0, none⟩ = some (.int .i64 x.nd) ∧ w'.cell? ⟨w.heap.size, 1, none⟩ = some (.slice x.A x.n x.c) ∧ w'.cell? ⟨w.heap.size, 2, none⟩ = some (.slice x.SA x.sn x.sc) ∧ w'.cell? ⟨w.heap.size, 3, none⟩ = some (.slice x.B x.m x.d) ∧ w'.cell? ⟨w.heap.size + 1, 0, none⟩ = some (.int .i64 q.node) ∧ w'.cell? ⟨w.heap.size + 1, 1, none⟩ = some (.int .i64 q.room) ∧ w'.cell? ⟨w.heap.size + 1, 2, none⟩ = some (.int .i64 q.kilos) ∧ w'.cell? ⟨w.heap.size + 1, 3, none⟩ = some (.int .i64 q.service) ∧ w'.cell? ⟨w.heap.size + 1, 4, none⟩ = some (.int .i64 q.frm) ∧ w'.cell? ⟨w.heap.size + 1, 5, none⟩ = some (.int .i64 q.by_) ∧ w'.cell? ⟨w.heap.size + 1, 6, none⟩ = some (.slice q.A q.n q.c))
          (first | with_reducible exact S2 | with_reducible exact S1 | with_reducible exact S0d | with_reducible exact S0 | fail)
          (first
            | (go_at_call 40; refine (some40_any x m q _ (HRQ.out _ hR0d).1 (HRQ.out _ hR0d).2 H4.out hm16).mono ?_; rintro e wc ⟨⟨A7, n7, k7, rfl, hR7, hn7⟩, bc⟩; rw [HL.out] at hR7; have bc2 := bel hR0d bc; have S1 := HM3.out _ bc2)
            | (go_at_call 20; refine (plan_some x A7 n7 k7 L _ (HCS.out _ bc2 _ _ _ hR7 hn7) pz HPL.out).mono ?_; rintro e wd ⟨⟨PA, pn, pc, rfl⟩, bd⟩; have bd2 := bel bc2 bd; have S2 := HM3.out _ bd2)
            | fail)
        have bkd := bel hbl bd2
        have hbD := bel hbL bd2
        clear S0 S0d S1 S2 HM3 hR0 hR0d HRQ HCS hR7 bc bd bc2 bd2 p0 p1 p2 p3 c0 c1 c2 c3 c4 c5 c6 hd hd2 hxl bWl b0l hbL hbl
        have HME := Lib.hid (show PW - (((m : Int) + 1).toNat) < PW - ((m : Int).toNat) by omega)
        have hlt' : m + 1 ≤ PW := hlt
        have mz0 : (m : Int) < 1000000000 := by omega
        by_cases hms : m = s6
        · subst hms
          obtain rfl : pz = 4 := by rw [← HPZ.out]; exact HNM.out
          have q1 : ((m : Int) == (m : Int)) = true := by simp
          have q2 : decide ((m : Int) = (m : Int)) = true := by simp
          have CM := fun w => many_any m hm16 w
          obtain ⟨mn, hmn⟩ : ∃ mn, mn = K.many33 m := ⟨_, rfl⟩
          rw [← hmn] at CM
          have q3 : decide ((mn : Int) < (mn : Int)) = false := by simp
          have q4 : decide (mn < mn) = false := by simp
          clear hmn hs16
          go_wp2_with fail
          refine (CM _).mono ?_
          rintro e wm ⟨rfl, rfl⟩
          go_wp2_with fail
          refine (CM _).mono ?_
          rintro e wm ⟨rfl, rfl⟩
          go_wp2_with fail
          go_roundw
          case rel => (go_light; exact ⟨m + 1, by go_num, hlt', bkd⟩)
          case measure => (go_light; simp [intOf]; omega)
        · have q1 : ((m : Int) == (s6 : Int)) = false := by simp; omega
          have q2 : decide ((m : Int) = (s6 : Int)) = false := by simp; omega
          have q2' : decide (m = s6) = false := by simp; omega
          have CM := fun w => many_any m hm16 w
          have CM6 := fun w => many_any s6 hs16 w
          have HLT := Lib.hid (HLS.out m hlt)
          rw [HPZ.out] at HLT
          obtain ⟨mn, hmn⟩ : ∃ mn, mn = K.many33 m := ⟨_, rfl⟩
          obtain ⟨mn6, hmn6⟩ : ∃ mn, mn = K.many33 s6 := ⟨_, rfl⟩
          rw [← hmn] at CM HLT
          rw [← hmn6] at CM6 HLT
          clear hmn hmn6 hs16 hms
          by_cases hml : mn < mn6
          · have q3 : decide ((mn : Int) < (mn6 : Int)) = true := by simp; omega
            have q4 : decide (mn < mn6) = true := by simp; omega
            obtain rfl : pz = 0 := HLT.out hml
            clear hml HLT
            go_wp2_with fail
            refine (CM _).mono ?_
            rintro e wm ⟨rfl, rfl⟩
            go_wp2_with fail
            refine (CM6 _).mono ?_
            rintro e wm ⟨rfl, rfl⟩
            go_wp2_with fail
            go_roundw
            case rel => (go_light; exact ⟨m + 1, by go_num, hlt', bkd⟩)
            case measure => (go_light; simp [intOf]; omega)
          · have q3 : decide ((mn : Int) < (mn6 : Int)) = false := by simp; omega
            have q4 : decide (mn < mn6) = false := by simp; omega
            clear hml HLT
            go_wp2_with fail
            refine (CM _).mono ?_
            rintro e wm ⟨rfl, rfl⟩
            go_wp2_with fail
            refine (CM6 _).mono ?_
            rintro e wm ⟨rfl, rfl⟩
            go_wp2_with fail
            go_roundw
            case rel => (go_light; exact ⟨m + 1, by go_num, hlt', bkd⟩)
            case measure => (go_light; simp [intOf]; omega)
end Go.Proofs.YtippdjmpkafifaaGreat
