import Derived.Test.YtippdjmpkafifaaGreatAT1
import Derived.Below
import Derived.Laws.OwnMore
import Derived.Deep.AppendLies
import Derived.Deep.Draws
import Derived.Lib.Hide
import Derived.WalkKit
import Derived.WalkSpells
import Derived.WalkLawsBesides
import Derived.Maps.AppendAt
import Derived.BigQuiet
import Derived.Deep.QuietTactic
import Derived.StillTailTactics
import Derived.BigRegion
import Derived.RegionTactic
import Derived.Deep.DeepCutAuto
import Derived.Deep.OwnRows
import Derived.Maps.OwnSet
import Derived.Lib.LazyBuf
import Derived.Deep.RegionLaw
import Derived.Deep.LoopGhost
import Derived.Deep.RegionHeld3
import Derived.Laws.ResultCell
import Derived.DeepKeys5
import Derived.Laws.CopyOwn
import Derived.Deep.Light
import Derived.Deep.RegionLawGrows
import Derived.Deep.RegionWith
import Derived.Deep.Slices
import Derived.Deep.Fields
import Derived.ChangeSame
import Derived.ProofKit
import Derived.OpenShut
namespace Go.Proofs.YtippdjmpkafifaaGreat
open Go.RowKit
theorem own_lit {w : World} {base g : Nat} {e : TypeId} {size : Nat} (h : w.heap[g]? = some (.cells #[] e (0, 0))) (hb : base ≤ g) : w.ownsRow base e size (.slice (some ⟨g, 0, none⟩) 0 0) 0 [] :=
 ⟨by simp, .inr ⟨g, 0, #[], rfl, hb, h, Nat.le_refl _, by simp [maxLen], by simp, by simp⟩⟩
end Go.Proofs.YtippdjmpkafifaaGreat
namespace Go.Proofs.YtippdjmpkafifaaGreat
open Go.ChangeShapes Go.WideShapes Go.Deep Go.RowKit
section
variable {H : Type} {enc : TypeId × Value → H} {P : Program} {w : World} {base : Nat} {spare : Nat → Bool} {held : Bool}
set_option maxRecDepth 100000 in
theorem open_slice_fields {t e : TypeId} {fs : Array Field} {fuel : Nat} {cs : List Value} {x : DataW H × List MemPlace} (ht : P.underlying t = some (.slice e)) (he : P.underlying e = some (.struct fs))
  (hone : oneCellFields P fs = true) (hC : P.cellsOf e = fs.size) (h : DataW.trod enc P w base spare held fuel t cs = some x) :
  (cs = [.slice none 0 0] ∧ x = (.nil, [])) ∨
  ∃ (a : Addr) (len cap m : Nat) (D : Nat → DataW H) (Pl : Nat → List MemPlace), cs = [.slice (some a) len cap] ∧ base ≤ a.block ∧ len ≤ cap ∧ cap ≤ maxLen ∧ m = (if spare a.block then cap else len) ∧
   x = (.slice ((List.range len).map D) ((List.range (m - len)).map fun j => D (len + j)), MemPlace.row a (m * fs.size) ++ (List.range m).flatMap Pl) ∧
   ∀ i, i < m → ∃ (ys : List (DataW H × List MemPlace)) (n : Nat), D i = .agg (ys.map (·.1)) ∧ Pl i = ys.flatMap (·.2) ∧ ys.length = fs.size ∧
    ∀ (j : Nat) (f : Field), fs[j]? = some f → ∃ (v : Value) (y : DataW H × List MemPlace), w.cell? (a.add (i * fs.size + j)) = some v ∧ ys[j]? = some y ∧ DataW.trod enc P w base spare held n f.type [v] = some y := by
 rcases open_slice ht h with h0 | ⟨a, len, cap, m, n, D, Pl, hcs, hb, hl, hm, hmm, hx, hi⟩
 ·exact .inl h0
 ·refine .inr ⟨a, len, cap, m, D, Pl, hcs, hb, hl, hm, hmm, by rw [hC] at hx; exact hx, fun i him => ?_⟩
  obtain ⟨cs', hc, ht'⟩ := hi i him
  rw [hC] at hc
  obtain ⟨ys, n', hn', hy, hlen, hyl, hf⟩ := DataW.trod_struct he ht'
  obtain ⟨_, hcl, hat⟩ := World.cells?_some hc
  simp only [Prod.mk.injEq] at hy
  refine ⟨ys, n', hy.1, hy.2, hyl, fun j f hj => ?_⟩
  obtain ⟨ho, hk⟩ := hone_of hone j f hj
  have hjl : j < fs.size := (Array.getElem?_eq_some_iff.1 hj).1
  have hcell := hat j hjl
  have hv : cs'[j]? = some (cs'[j]'(by omega)) := List.getElem?_eq_getElem (by omega)
  have h1 := hf j f hj
  rw [ho, hk] at h1
  have hone' : (cs'.drop j).take 1 = [cs'[j]'(by omega)] := by
   rw [List.drop_eq_getElem_cons (by omega)]
   rfl
  rw [hone'] at h1
  have hys : ys[j]? = some (ys[j]'(by omega)) := List.getElem?_eq_getElem (by omega)
  refine ⟨_, _, ?_, hys, h1.trans hys⟩
  rw [← Go.Deep.add_add, hcell, hv]
end
section
variable {H : Type} {enc : TypeId × Value → H} {P : Program}
theorem post_of_below {f : Func} {s : ChangeSpec} {apart fresh handsOn again : Bool} {W W' : World} {args : Array Value} {v : Value} {ds gs : List (DataW H)} {before pa pv : List MemPlace}
  (hW : DataW.Whole enc P f.params.toList s.vars apart W args.toList ds gs before)
  (hres : ∀ (b : Nat) (sp : Nat → Bool) (hd : Bool), DataW.TrodAll enc P W' b sp hd f.resultTypes.toList (v.resultList f.resultTypes.size) (s.fn H (ds ++ gs)).results [])
  (hargs : ∀ sp : Nat → Bool, (∀ p ∈ before, sp p.block = true) → DataW.TrodAll enc P W' 0 sp true f.params.toList args.toList (s.fn H (ds ++ gs)).args pa)
  (hvars : ∀ sp : Nat → Bool, (∀ p ∈ before, sp p.block = true) → DataW.TrodVars enc P W' sp s.vars (s.fn H (ds ++ gs)).vars pv)
  (hps : before = pa ++ pv) (hb : Below W.heap.size W W')
  (hok : ∀ (j : Nat) (t : TypeId) (r : Value), f.resultTypes[j]? = some t → (v.resultList f.resultTypes.size)[j]? = some r → Value.okWide P W' .any 0 t r) :
  s.post enc P f apart fresh handsOn again W args v W' := by
 have hlt : ∀ p ∈ before, p.block < W.heap.size := fun p hp => hW.lt p hp
 have hold : ∀ p ∈ before, (fun b => decide (b < W.heap.size)) p.block = true := fun p hp => by simpa using hlt p hp
 refine ⟨ds, gs, before, [], pa, pv, hW, hres _ _ _, hargs _ hold, hvars _ hold, World.keptBut_mono (fun p hp => ⟨hp, ?_⟩) (hb.frame (· ∈ before)), fun _ => ?_⟩
 ·rw [hps, List.mem_append] at hp
  exact Or.inr hp
 ·obtain ⟨_, _, _, _, _, hz, hn⟩ := hW
  refine ⟨hok, _, _, ([] ++ pa) ++ pv, ⟨[] ++ pa, pv, trodAll_append (hargs _ (fun _ _ => rfl)) (hres _ _ _), hvars _ (fun _ _ => rfl), rfl, ?_, ?_⟩, ?_⟩
  ·intro b off hp
   have hin : MemPlace.cell b off ∈ before := by rw [hps]; simpa using hp
   rw [hb.frozen (hlt _ hin)]
   exact hz b off hin
  ·intro ha
   have := hn ha
   rw [hps] at this
   simpa using this
  ·intro p hp _
   rw [hps]
   simpa using hp
end
theorem list_of {α : Type} {n : Nat} {Q : Nat → α → Prop} (h : ∀ i, i < n → ∃ x, Q i x) : ∃ l : List α, l.length = n ∧ ∀ i x, l[i]? = some x → Q i x := by
 induction n with
 | zero => exact ⟨[], rfl, fun i x hx => by simp at hx⟩
 | succ n ih =>
  obtain ⟨l, hl, hq⟩ := ih (fun i hi => h i (by omega))
  obtain ⟨x, hx⟩ := h n (by omega)
  refine ⟨l ++ [x], by simp [hl], fun i y hy => ?_⟩
  rw [List.getElem?_append] at hy
  split at hy
  ·exact hq i y hy
  ·rename_i hlt
   have e : i = n := by
    by_cases e : i - l.length = 0
    ·omega
    ·rw [List.getElem?_eq_none (by simp; omega)] at hy; cases hy
   subst e
   rw [← hl, Nat.sub_self] at hy
   simp at hy
   subst hy; exact hx
theorem winCells_cell {w : World} {ad : Addr} {l : List (Int × Int)} (h : ∀ i p, l[i]? = some p → w.cell? (ad.add (i * 2)) = some (.int .i64 p.1) ∧ w.cell? (ad.add (i * 2 + 1)) = some (.int .i64 p.2)) :
  ∀ j u, (winCells l)[j]? = some u → w.cell? (ad.add j) = some u := by
 intro j u hu
 have hj : j < (winCells l).length := (List.getElem?_eq_some_iff.1 hu).1
 rw [winCells_len] at hj
 have hp : l[j / 2]? = some (l[j / 2]'(by omega)) := List.getElem?_eq_getElem (by omega)
 obtain ⟨g1, g2⟩ := winCells_get l _ _ hp
 obtain ⟨k1, k2⟩ := h _ _ hp
 by_cases e : j % 2 = 0
 ·have : j = j / 2 * 2 := by omega
  rw [this] at hu ⊢
  rw [g1] at hu
  injection hu with hu
  rw [← hu]; exact k1
 ·have : j = j / 2 * 2 + 1 := by omega
  rw [this] at hu ⊢
  rw [g2] at hu
  injection hu with hu
  rw [← hu]; exact k2
section
variable {H : Type} {enc : TypeId × Value → H} {W : World} {base b0 : Nat} {spare : Nat → Bool} {held : Bool} {r : Reach}
end
section
variable {H : Type} {enc : TypeId × Value → H} {P : Program}
theorem trodAll_stays (hl : laidOutB P = true) {W W' : World} {sp : Nat → Bool} (hb : Below W.heap.size W W') :
  ∀ (ts : List TypeId) (vs : List Value) (ds : List (DataW H)) (ps : List MemPlace), (∀ t ∈ ts, P.readableRec t = true ∧ t < P.types.size) → DataW.TrodAll enc P W 0 (fun _ => true) true ts vs ds ps →
   (∀ x ∈ ps, x.block < W.heap.size) → (∀ x ∈ ps, sp x.block = true) → DataW.TrodAll enc P W' 0 sp true ts vs ds ps := by
 intro ts
 induction ts with
 | nil => intro vs ds ps _ h _ _; cases vs <;> cases ds <;> first | exact h | exact h.elim
 | cons t ts ih =>
  intro vs ds ps hts h hlt hsp
  match vs, ds, h with
  | v :: vs, d :: ds, ⟨p, q, h1, h2, e⟩ =>
   subst e
   have ht := hts t (List.mem_cons_self ..)
   exact ⟨p, q, WideElems.Trod_stays hl ht.1 ht.2 h1 (fun x hx => hb.same (hlt x (List.mem_append_left _ hx))) (fun x hx => hsp x (List.mem_append_left _ hx)),
    ih vs ds q (fun t' h' => hts t' (List.mem_cons_of_mem _ h')) h2 (fun x hx => hlt x (List.mem_append_right _ hx)) (fun x hx => hsp x (List.mem_append_right _ hx)), rfl⟩
end
set_option maxRecDepth 100000 in
theorem Tryz.laid : laidOutB Tryz.prog = true := by kernel_rfl
section
variable {H : Type} {enc : TypeId × Value → H}
set_option maxRecDepth 100000 in
theorem post_true {f : Func} {s : ChangeSpec} {W W' : World} {args : Array Value} {ds : List (DataW H)} {before : List MemPlace} (hts : ∀ t ∈ f.params.toList, Tryz.prog.readableRec t = true ∧ t < Tryz.prog.types.size)
  (hv : s.vars = []) (hres : f.resultTypes = #[4]) (hW : DataW.Whole enc Tryz.prog f.params.toList s.vars false W args.toList ds [] before)
  (hspec : s.fn H (ds ++ []) = { results := [.lit (.bool true)], args := ds }) (hb : Below W.heap.size W W') : s.post enc Tryz.prog f false true false false W args (.bool true) W' := by
 have hW' := hW
 obtain ⟨p, q, hA, hV, rfl, hfz, hnd⟩ := hW
 rw [hv] at hV
 obtain ⟨_, rfl⟩ := trodVars_none hV
 have hlt : ∀ x ∈ p ++ [], x.block < W.heap.size := fun x hx => hW'.lt x hx
 rw [List.append_nil] at hlt
 refine post_of_below (pa := p) (pv := []) hW' ?_ ?_ ?_ rfl hb ?_
 ·intro b sp hd
  rw [hspec, hres]
  exact trodAll_cons_mk (shut_bool Tryz.underlying4 _) trodAll_mk0
 ·intro sp hsp
  rw [hspec]
  exact trodAll_stays Tryz.laid hb _ _ _ _ hts hA hlt (fun x hx => hsp x (by simpa using hx))
 ·intro sp _
  rw [hspec, hv]
  rfl
 ·exact ok_one hres rfl (okWide_bool_mk Tryz.underlying4 _)
end
end Go.Proofs.YtippdjmpkafifaaGreat
namespace Go.Proofs.YtippdjmpkafifaaGreat
open Go.ChangeShapes Go.WideShapes Go.Deep Go.RowKit
section
variable {H : Type} {enc : TypeId × Value → H} {W : World} {base b0 : Nat} {spare : Nat → Bool} {held : Bool} {r : Reach}
set_option maxRecDepth 100000 in
theorem wins_of_trod {fuel : Nat} {v : Value} {x : DataW H × List MemPlace} (hf : DataW.trod enc Tryz.prog W b0 spare held fuel 45 [v] = some x) : ∃ A n c l, v = .slice A n c ∧ Wins W A n l := by
 rcases open_slice_fields Tryz.underlying45 Tryz.underlying158 (by kernel_rfl) (by kernel_rfl) hf with ⟨hcs, _⟩ | ⟨a, len, cap, m, D, Pl, hcs, _, hlc, _, hm, _, hcell⟩
 ·simp at hcs
  subst hcs
  exact ⟨none, 0, 0, [], rfl, rfl, rfl, fun h0 => absurd h0 (by omega)⟩
 ·simp at hcs
  subst hcs
  have hlm : len ≤ m := by rw [hm]; split <;> omega
  have key : ∀ i, i < len → ∃ p : Int × Int, W.cell? (a.add (i * 2)) = some (.int .i64 p.1) ∧ W.cell? (a.add (i * 2 + 1)) = some (.int .i64 p.2) := by
   intro i hi
   obtain ⟨ys, n, _, _, _, hfld⟩ := hcell i (by omega)
   obtain ⟨v0, y0, c0, _, t0⟩ := hfld 0 _ rfl
   obtain ⟨v1, y1, c1, _, t1⟩ := hfld 1 _ rfl
   obtain ⟨n0, e0, _⟩ := DataW.trod_int Tryz.underlying3 t0
   obtain ⟨n1, e1, _⟩ := DataW.trod_int Tryz.underlying3 t1
   simp at e0 e1
   subst e0 e1
   exact ⟨(n0, n1), c0, c1⟩
  obtain ⟨l, hl, hq⟩ := list_of key
  exact ⟨_, _, _, l, rfl, hl.symm, by rw [winCells_len, hl], fun _ => ⟨a, rfl, winCells_cell hq⟩⟩
theorem reqCells_cell {w : World} {ad : Addr} {l : List Q} (h : ∀ i q, l[i]? = some q → ∀ j u, q.cells[j]? = some u → w.cell? (ad.add (i * 7 + j)) = some u) :
  ∀ j u, (reqCells l)[j]? = some u → w.cell? (ad.add j) = some u := by
 intro j u hu
 have hj : j < (reqCells l).length := (List.getElem?_eq_some_iff.1 hu).1
 rw [reqCells_len] at hj
 have hp : l[j / 7]? = some (l[j / 7]'(by omega)) := List.getElem?_eq_getElem (by omega)
 have hjj : j = j / 7 * 7 + j % 7 := by omega
 have g := reqCells_get l _ _ hp (j % 7) (by omega)
 rw [← hjj, hu] at g
 have := h _ _ hp (j % 7) u g.symm
 rwa [← hjj] at this
set_option maxRecDepth 100000 in
theorem reqs_of_trod {fuel : Nat} {v : Value} {x : DataW H × List MemPlace} (hf : DataW.trod enc Tryz.prog W b0 spare held fuel 26 [v] = some x) : ∃ A n c l, v = .slice A n c ∧ Reqs W A n l := by
 rcases open_slice_fields Tryz.underlying26 Tryz.underlying47 (by kernel_rfl) (by kernel_rfl) hf with ⟨hcs, _⟩ | ⟨a, len, cap, m, D, Pl, hcs, _, hlc, _, hm, _, hcell⟩
 ·simp at hcs
  subst hcs
  exact ⟨none, 0, 0, [], rfl, rfl, ⟨rfl, fun h0 => absurd h0 (by omega)⟩, fun q hq => by simp at hq⟩
 ·simp at hcs
  subst hcs
  have hlm : len ≤ m := by rw [hm]; split <;> omega
  have key : ∀ i, i < len → ∃ q : Q, Wins W q.A q.n q.l ∧ ∀ j u, q.cells[j]? = some u → W.cell? (a.add (i * 7 + j)) = some u := by
   intro i hi
   obtain ⟨ys, n, _, _, _, hfld⟩ := hcell i (by omega)
   obtain ⟨v0, y0, c0, _, t0⟩ := hfld 0 _ rfl
   obtain ⟨v1, y1, c1, _, t1⟩ := hfld 1 _ rfl
   obtain ⟨v2, y2, c2, _, t2⟩ := hfld 2 _ rfl
   obtain ⟨v3, y3, c3, _, t3⟩ := hfld 3 _ rfl
   obtain ⟨v4, y4, c4, _, t4⟩ := hfld 4 _ rfl
   obtain ⟨v5, y5, c5, _, t5⟩ := hfld 5 _ rfl
   obtain ⟨v6, y6, c6, _, t6⟩ := hfld 6 _ rfl
   obtain ⟨n0, e0, _⟩ := DataW.trod_int Tryz.underlying3 t0
   obtain ⟨n1, e1, _⟩ := DataW.trod_int Tryz.underlying3 t1
   obtain ⟨n2, e2, _⟩ := DataW.trod_int Tryz.underlying3 t2
   obtain ⟨n3, e3, _⟩ := DataW.trod_int Tryz.underlying3 t3
   obtain ⟨n4, e4, _⟩ := DataW.trod_int Tryz.underlying3 t4
   obtain ⟨n5, e5, _⟩ := DataW.trod_int Tryz.underlying3 t5
   obtain ⟨A, nn, cc, l, rfl, hw⟩ := wins_of_trod t6
   simp at e0 e1 e2 e3 e4 e5
   subst e0 e1 e2 e3 e4 e5
   refine ⟨⟨n0, n1, n2, n3, n4, n5, A, nn, cc, l⟩, hw, ?_⟩
   intro j u hu
   rcases j with _ | _ | _ | _ | _ | _ | _ | j <;> simp [Q.cells] at hu <;> subst hu <;> assumption
  obtain ⟨l, hl, hq⟩ := list_of key
  refine ⟨_, _, _, l, rfl, hl.symm, ⟨by rw [reqCells_len, hl], fun _ => ⟨a, rfl, reqCells_cell fun i q hi => (hq i q hi).2⟩⟩, ?_⟩
  intro q hq'
  obtain ⟨i, hi⟩ := List.mem_iff_getElem?.1 hq'
  exact (hq i q hi).1
set_option maxRecDepth 100000 in
theorem open_reqs {v : Value} {d : DataW H} {ps : List MemPlace} (hval : Value.okWide Tryz.prog W r base 26 v) (h : DataW.Trod enc Tryz.prog W b0 spare held 26 v d ps) : ∃ A n c l, v = .slice A n c ∧ Reqs W A n l := by
 obtain ⟨a0, len, cap, rfl⟩ := okWide_slice Tryz.underlying26 hval
 obtain ⟨fuel, hf⟩ := h
 exact reqs_of_trod hf
end
end Go.Proofs.YtippdjmpkafifaaGreat
namespace Go.Proofs.YtippdjmpkafifaaGreat
open Go.ChangeShapes Go.WideShapes Go.Deep Go.RowKit
section
variable {H : Type} {enc : TypeId × Value → H} {W : World} {base b0 : Nat} {spare : Nat → Bool} {held : Bool} {r : Reach}
set_option maxRecDepth 100000 in
theorem cints_of_trod {fuel : Nat} {v : Value} {x : DataW H × List MemPlace} (hf : DataW.trod enc Tryz.prog W b0 spare held fuel 48 [v] = some x) : ∃ A n c l, v = .slice A n c ∧ Ints W A n l ∧ n ≤ c := by
 rcases open_slice Tryz.underlying48 hf with ⟨hcs, _⟩ | ⟨a, len, cap, m, n, D, Pl, hcs, _, hlc, _, hm, _, hcell⟩
 ·simp at hcs
  subst hcs
  exact ⟨none, 0, 0, [], rfl, ⟨rfl, rfl, fun h0 => absurd h0 (by omega)⟩, Nat.le_refl _⟩
 ·simp at hcs
  subst hcs
  have hC : Tryz.prog.cellsOf 3 = 1 := by kernel_rfl
  have hlm : len ≤ m := by rw [hm]; split <;> omega
  have key : ∀ i, i < len → ∃ p : Int, W.cell? (a.add i) = some (.int .i64 p) := by
   intro i hi
   obtain ⟨cs', hc, ht'⟩ := hcell i (by omega)
   rw [hC, Nat.mul_one] at hc
   obtain ⟨_, _, hat⟩ := World.cells?_some hc
   obtain ⟨n0, e0, _⟩ := DataW.trod_int Tryz.underlying3 ht'
   subst e0
   have h0 := hat 0 (by omega)
   rw [Go.Deep.add_add, Nat.add_zero] at h0
   exact ⟨n0, h0⟩
  obtain ⟨l, hl, hq⟩ := list_of key
  refine ⟨_, _, _, l, rfl, ⟨hl.symm, by simp [intCells, hl], fun _ => ⟨a, rfl, ?_⟩⟩, hlc⟩
  intro j u hu
  rw [intCells, List.getElem?_map] at hu
  obtain ⟨y, hy, rfl⟩ := Option.map_eq_some_iff.1 hu
  exact hq j y hy
theorem roads_cell {w : World} {ad : Addr} {l : List Ro} (h : ∀ i q, l[i]? = some q → ∀ j u, (roadCells q)[j]? = some u → w.cell? (ad.add (i * 4 + j)) = some u) :
  ∀ j u, (l.flatMap roadCells)[j]? = some u → w.cell? (ad.add j) = some u := by
 intro j u hu
 have hj : j < (l.flatMap roadCells).length := (List.getElem?_eq_some_iff.1 hu).1
 rw [flat_len roadCells 4 (fun _ => rfl)] at hj
 have hp : l[j / 4]? = some (l[j / 4]'(by omega)) := List.getElem?_eq_getElem (by omega)
 have hjj : j = j / 4 * 4 + j % 4 := by omega
 have g := flat_get roadCells 4 (fun _ => rfl) l _ _ hp (j % 4) (by omega)
 rw [← hjj, hu] at g
 have := h _ _ hp (j % 4) u g.symm
 rwa [← hjj] at this
set_option maxRecDepth 100000 in
theorem roads_of_trod {fuel : Nat} {v : Value} {x : DataW H × List MemPlace} (hf : DataW.trod enc Tryz.prog W b0 spare held fuel 22 [v] = some x) : ∃ A n c l, v = .slice A n c ∧ Roads W A n l := by
 rcases open_slice_fields Tryz.underlying22 Tryz.underlying134 (by kernel_rfl) (by kernel_rfl) hf with ⟨hcs, _⟩ | ⟨a, len, cap, m, D, Pl, hcs, _, hlc, _, hm, _, hcell⟩
 ·simp at hcs
  subst hcs
  exact ⟨none, 0, 0, [], rfl, rfl, rfl, fun h0 => absurd h0 (by omega)⟩
 ·simp at hcs
  subst hcs
  have hlm : len ≤ m := by rw [hm]; split <;> omega
  have key : ∀ i, i < len → ∃ q : Ro, ∀ j u, (roadCells q)[j]? = some u → W.cell? (a.add (i * 4 + j)) = some u := by
   intro i hi
   obtain ⟨ys, n, _, _, _, hfld⟩ := hcell i (by omega)
   obtain ⟨v0, y0, c0, _, t0⟩ := hfld 0 _ rfl
   obtain ⟨v1, y1, c1, _, t1⟩ := hfld 1 _ rfl
   obtain ⟨v2, y2, c2, _, t2⟩ := hfld 2 _ rfl
   obtain ⟨v3, y3, c3, _, t3⟩ := hfld 3 _ rfl
   obtain ⟨n0, e0, _⟩ := DataW.trod_int Tryz.underlying3 t0
   obtain ⟨n1, e1, _⟩ := DataW.trod_int Tryz.underlying3 t1
   obtain ⟨n2, e2, _⟩ := DataW.trod_int Tryz.underlying3 t2
   obtain ⟨n3, e3, _⟩ := DataW.trod_int Tryz.underlying3 t3
   simp at e0 e1 e2 e3
   subst e0 e1 e2 e3
   refine ⟨⟨n0, n1, n2, n3⟩, ?_⟩
   intro j u hu
   rcases j with _ | _ | _ | _ | j <;> simp [roadCells] at hu <;> subst hu <;> assumption
  obtain ⟨l, hl, hq⟩ := list_of key
  exact ⟨_, _, _, l, rfl, hl.symm, by rw [flat_len roadCells 4 (fun _ => rfl), hl], fun _ => ⟨a, rfl, roads_cell fun i q hi => hq i q hi⟩⟩
end
end Go.Proofs.YtippdjmpkafifaaGreat
namespace Go.Proofs.YtippdjmpkafifaaGreat
open Go.ChangeShapes Go.WideShapes Go.Deep Go.RowKit
theorem flat_cell {α : Type} (f : α → List Value) (s : Nat) (hs : ∀ x, (f x).length = s) (h0 : 0 < s) {w : World} {ad : Addr} {l : List α} (h : ∀ (i : Nat) (q : α), l[i]? = some q → ∀ (j : Nat) (u : Value), (f q)[j]? = some u → w.cell? (ad.add (i * s + j)) = some u) :
  ∀ j u, (l.flatMap f)[j]? = some u → w.cell? (ad.add j) = some u := by
 intro j u hu
 have hj : j < (l.flatMap f).length := (List.getElem?_eq_some_iff.1 hu).1
 rw [flat_len f s hs] at hj
 have hd : j / s < l.length := Nat.div_lt_of_lt_mul (by rw [Nat.mul_comm]; exact hj)
 have hp : l[j / s]? = some (l[j / s]'hd) := List.getElem?_eq_getElem hd
 have hm : j % s < s := Nat.mod_lt _ h0
 have hjj : j = j / s * s + j % s := by rw [Nat.mul_comm]; exact (Nat.div_add_mod j s).symm
 have g := flat_get f s hs l _ _ hp (j % s) hm
 rw [← hjj, hu] at g
 have := h _ _ hp (j % s) u g.symm
 rwa [← hjj] at this
section
variable {H : Type} {enc : TypeId × Value → H} {W : World} {base b0 : Nat} {spare : Nat → Bool} {held : Bool} {r : Reach}
set_option maxRecDepth 100000 in
theorem shifts_of_trod {fuel : Nat} {v : Value} {x : DataW H × List MemPlace} (hf : DataW.trod enc Tryz.prog W b0 spare held fuel 25 [v] = some x) : ∃ A n c l, v = .slice A n c ∧ Shifts W A n l ∧ n ≤ c := by
 rcases open_slice_fields Tryz.underlying25 Tryz.underlying63 (by kernel_rfl) (by kernel_rfl) hf with ⟨hcs, _⟩ | ⟨a, len, cap, m, D, Pl, hcs, _, hlc, _, hm, _, hcell⟩
 ·simp at hcs
  subst hcs
  exact ⟨none, 0, 0, [], rfl, ⟨⟨rfl, rfl, fun h0 => absurd h0 (by omega)⟩, fun q hq => by cases hq⟩, Nat.le_refl _⟩
 ·simp at hcs
  subst hcs
  have hlm : len ≤ m := by rw [hm]; split <;> omega
  have key : ∀ i, i < len → ∃ q : S, (Ints W q.A q.n q.l) ∧ ∀ j u, (S.cells q)[j]? = some u → W.cell? (a.add (i * 6 + j)) = some u := by
   intro i hi
   obtain ⟨ys, n, _, _, _, hfld⟩ := hcell i (by omega)
   obtain ⟨v0, y0, d0, _, t0⟩ := hfld 0 _ rfl
   obtain ⟨v1, y1, d1, _, t1⟩ := hfld 1 _ rfl
   obtain ⟨v2, y2, d2, _, t2⟩ := hfld 2 _ rfl
   obtain ⟨v3, y3, d3, _, t3⟩ := hfld 3 _ rfl
   obtain ⟨v4, y4, d4, _, t4⟩ := hfld 4 _ rfl
   obtain ⟨v5, y5, d5, _, t5⟩ := hfld 5 _ rfl
   obtain ⟨n0, e0, _⟩ := DataW.trod_int Tryz.underlying3 t0
   obtain ⟨n1, e1, _⟩ := DataW.trod_int Tryz.underlying3 t1
   obtain ⟨n2, e2, _⟩ := DataW.trod_int Tryz.underlying3 t2
   obtain ⟨n3, e3, _⟩ := DataW.trod_int Tryz.underlying3 t3
   obtain ⟨n4, e4, _⟩ := DataW.trod_int Tryz.underlying3 t4
   obtain ⟨A5, m5, c5, l5, rfl, hI5, hc5⟩ := cints_of_trod t5
   simp at e0 e1 e2 e3 e4
   subst e0 e1 e2 e3 e4
   refine ⟨⟨n0, n1, n2, n3, n4, A5, m5, c5, l5⟩, hI5, ?_⟩
   intro j u hu
   rcases j with _ | _ | _ | _ | _ | _ | j <;> simp [S.cells] at hu <;> subst hu <;> assumption
  obtain ⟨l, hl, hq⟩ := list_of key
  have hall : ∀ q ∈ l, Ints W q.A q.n q.l := fun q hq' => by
   obtain ⟨i, hi⟩ := List.mem_iff_getElem?.1 hq'
   exact (hq i q hi).1
  exact ⟨_, _, _, l, rfl, ⟨⟨hl.symm, by rw [flat_len S.cells 6 (fun _ => rfl), hl], fun _ => ⟨a, rfl, flat_cell S.cells 6 (fun _ => rfl) (by omega) fun i q hi => (hq i q hi).2⟩⟩, hall⟩, hlc⟩
end
end Go.Proofs.YtippdjmpkafifaaGreat
namespace Go.Proofs.YtippdjmpkafifaaGreat
open Go.ChangeShapes Go.WideShapes Go.Deep Go.RowKit
section
variable {H : Type} {enc : TypeId × Value → H} {W : World} {base b0 : Nat} {spare : Nat → Bool} {held : Bool} {r : Reach}
set_option maxRecDepth 100000 in
theorem open_book {v : Value} {d : DataW H} {ps : List MemPlace} (hval : Value.okWide Tryz.prog W r base 44 v) (h : DataW.Trod enc Tryz.prog W b0 spare held 44 v d ps) : ∃ nd A n c l SA sn sc ss B m k r, v = .agg #[.int .i64 nd, .slice A n c, .slice SA sn sc, .slice B m k] ∧ Roads W A n l ∧ Shifts W SA sn ss ∧ Reqs W B m r ∧ ((d.weights Tryz.prog 44).all (· ≤ reachBytes) = true → m * 72 ≤ 140737488351232) := by
 obtain ⟨cs, rfl, hsz⟩ := okWide_struct Tryz.underlying44 hval
 obtain ⟨fuel, hf⟩ := h
 obtain ⟨ys, n', _, hxx, hlen, hyl, hfl⟩ := DataW.trod_struct Tryz.underlying44 hf
 rw [show Tryz.prog.cellsOf 44 = 4 by kernel_rfl] at hsz
 obtain ⟨v0, v1, v2, v3, rfl⟩ : ∃ v0 v1 v2 v3, cs = #[v0, v1, v2, v3] := by
  obtain ⟨l⟩ := cs
  rcases l with _ | ⟨v0, _ | ⟨v1, _ | ⟨v2, _ | ⟨v3, _ | ⟨v4, l⟩⟩⟩⟩⟩ <;> simp at hsz
  exact ⟨_, _, _, _, rfl⟩
 have get : ∀ i, i < ys.length → ∃ y, ys[i]? = some y := fun i hi => ⟨_, List.getElem?_eq_getElem hi⟩
 have hy : ys.length = 3 := hyl
 have C24 : Tryz.prog.cellsOf 24 = 2 := by kernel_rfl
 have C25 : Tryz.prog.cellsOf 25 = 1 := by kernel_rfl
 have C26 : Tryz.prog.cellsOf 26 = 1 := by kernel_rfl
 have t0 := hfl 0 _ rfl
 obtain ⟨y0, g0⟩ := get 0 (by omega)
 rw [g0] at t0
 have t1 := hfl 1 _ rfl
 obtain ⟨y1, g1⟩ := get 1 (by omega)
 rw [g1] at t1
 have t2 := hfl 2 _ rfl
 obtain ⟨y2, g2⟩ := get 2 (by omega)
 rw [g2] at t2
 simp [C24, C25, C26, Value.cells] at t0 t1 t2
 obtain ⟨zs, n2, _, _, _, hzl, hzf⟩ := DataW.trod_struct Tryz.underlying24 t0
 have hz : zs.length = 2 := hzl
 have C3 : Tryz.prog.cellsOf 3 = 1 := by kernel_rfl
 have C22 : Tryz.prog.cellsOf 22 = 1 := by kernel_rfl
 have s0 := hzf 0 _ rfl
 have s1 := hzf 1 _ rfl
 obtain ⟨z0, k0⟩ : ∃ y, zs[0]? = some y := ⟨_, List.getElem?_eq_getElem (by omega)⟩
 obtain ⟨z1, k1⟩ : ∃ y, zs[1]? = some y := ⟨_, List.getElem?_eq_getElem (by omega)⟩
 rw [k0] at s0
 rw [k1] at s1
 simp [C3, C22] at s0 s1
 obtain ⟨nd, e0, _⟩ := DataW.trod_int Tryz.underlying3 s0
 obtain ⟨A, n, c, l, e1, hR⟩ := roads_of_trod s1
 obtain ⟨SA, sn, sc, ss, e2, hS, -⟩ := shifts_of_trod t1
 obtain ⟨B, m, k, r, e3, hQ⟩ := reqs_of_trod t2
 have hw : ∀ ds : List (DataW H), ds[2]? = some y2.1 → (DataW.weightsEach Tryz.prog [24, 25, 26] ds).all (· ≤ reachBytes) = true → m * 72 ≤ 140737488351232 := fun ds hd hall => by
  rcases open_slice_fields Tryz.underlying26 Tryz.underlying47 (by kernel_rfl) (by kernel_rfl) t2 with ⟨hcs, _⟩ | ⟨a, len, cap, m', D, Pl, hcs, _, hlc, _, hm, hx, _⟩
  ·rw [e3] at hcs
   injection hcs with hcs
   injection hcs with _ h1 _
   rw [h1]; decide
  ·rw [e3] at hcs
   injection hcs with hcs
   injection hcs with _ h1 _
   rw [hx] at hd
   have h2 := sized_slice hall (j := 2) (t := 26) rfl hd Tryz.underlying26
   rw [List.length_map, List.length_range, show Tryz.prog.bytesOf 47 = 72 by kernel_rfl, ← h1] at h2
   have h3 : reachBytes = 140737488351232 := rfl
   omega
 simp at e0 e1 e2
 subst e0 e1 e2
 subst e3
 exact ⟨nd, A, n, c, l, SA, sn, sc, ss, B, m, k, r, rfl, hR, hS, hQ, fun h => hw (ys.map (·.1)) (by rw [List.getElem?_map, g2]; rfl) (by
  rw [show d = .agg (ys.map (·.1)) from congrArg Prod.fst hxx] at h
  simpa [DataW.weights, Tryz.underlying44] using h)⟩
end
end Go.Proofs.YtippdjmpkafifaaGreat
namespace Go.Proofs.YtippdjmpkafifaaGreat
open Go.RowKit
namespace K
section
variable {nd : Int} {l : List Ro} {ss : List S} {r : List Q} {x : Q}
theorem ask_book (h : (ask33 nd l ss r x).2.2 = 0) : (ask33 nd l ss r x).1 = some (if (ask33 nd l ss r x).2.1.acc = true then r ++ [x] else r) ∧ ((ask33 nd l ss r x).2.1.acc = true → checks nd l ss (r ++ [x]) (ask33 nd l ss r x).2.1.tours = 0) := by
 rcases ask_cases (nd := nd) (l := l) (ss := ss) (r := r) (x := x) with ⟨e, g1, g2⟩ | ⟨⟨g1, g2, g3⟩, ⟨g4, g5⟩ | ⟨g4, v, g5, g6⟩⟩
 ·rw [g2] at h; exact absurd h g1
 ·rw [g5]
  exact ⟨rfl, fun _ => plan_checks g4⟩
 ·rw [g6]
  exact ⟨rfl, fun h => by cases h⟩
end
end K
end Go.Proofs.YtippdjmpkafifaaGreat
namespace Go.Proofs.YtippdjmpkafifaaGreat
open Go.RowKit
theorem bel_alloc0 (w : World) (o : Obj) : Below w.heap.size w (w.alloc o) := (Below.refl _ _).alloc (Nat.le_refl _) _
namespace K
end K
end Go.Proofs.YtippdjmpkafifaaGreat
namespace Go.Proofs.YtippdjmpkafifaaGreat
open Go.RowKit
theorem Q.bare_eq {a b : Q} (h : a.bare = b.bare) : a.node = b.node ∧ a.room = b.room ∧ a.kilos = b.kilos ∧ a.service = b.service ∧ a.frm = b.frm ∧ a.by_ = b.by_ ∧ a.l = b.l := by
 unfold Q.bare at h
 injection h with h1 h2 h3 h4 h5 h6 _ _ _ h7
 exact ⟨h1, h2, h3, h4, h5, h6, h7⟩
set_option maxRecDepth 100000 in
set_option maxHeartbeats 8000000 in
theorem sameReq60_yes (a b : Q) (w : World) (ha : Wins w a.A a.n a.l) (hb : Wins w b.A b.n b.l) (h : a.bare = b.bare) (hn : a.n ≤ 1000000000) :
  Calls Tryz.prog 60 #[.agg #[.int .i64 a.node, .int .i64 a.room, .int .i64 a.kilos, .int .i64 a.service, .int .i64 a.frm, .int .i64 a.by_, .slice a.A a.n a.c], .agg #[.int .i64 b.node, .int .i64 b.room, .int .i64 b.kilos, .int .i64 b.service, .int .i64 b.frm, .int .i64 b.by_, .slice b.A b.n b.c]] w fun e w' => e = .returned (.bool true) ∧ Below w.heap.size w w' := by
 obtain ⟨a1, a2, a3, a4, a5, a6, Aa, na, ca, la⟩ := a
 obtain ⟨b1, b2, b3, b4, b5, b6, Ab, nb, cb, lb⟩ := b
 obtain ⟨h1, h2, h3, h4, h5, h6, h7⟩ := Q.bare_eq h
 dsimp only at h1 h2 h3 h4 h5 h6 h7 ha hb hn
 obtain rfl : nb = na := by rw [ha.1, hb.1, h7]
 subst h1 h2 h3 h4 h5 h6 h7
 clear h
 obtain ⟨w1, hw1⟩ : ∃ w1 : World, w1 = w.alloc (.cells #[.int .i64 a1, .int .i64 a2, .int .i64 a3, .int .i64 a4, .int .i64 a5, .int .i64 a6, .slice Aa nb ca] 47) := ⟨_, rfl⟩
 have b01 : Below w.heap.size w w1 := by rw [hw1]; exact (Below.refl _ _).alloc (Nat.le_refl _) _
 obtain ⟨g, hg⟩ : ∃ g, g = w.heap.size := ⟨_, rfl⟩
 have hA1 : QBlk w1 g ⟨a1, a2, a3, a4, a5, a6, Aa, nb, ca, la⟩ := by rw [hw1, hg]; exact heap_alloc_new _ _
 obtain ⟨w2, hw2⟩ : ∃ w2 : World, w2 = w1.alloc (.cells #[.int .i64 a1, .int .i64 a2, .int .i64 a3, .int .i64 a4, .int .i64 a5, .int .i64 a6, .slice Ab nb cb] 47) := ⟨_, rfl⟩
 have b12 : Below w1.heap.size w1 w2 := by rw [hw2]; exact (Below.refl _ _).alloc (Nat.le_refl _) _
 have z1 : w1.heap.size = g + 1 := by rw [hw1, hg]; exact World.size_alloc _ _
 have hB2 : QBlk w2 (g + 1) ⟨a1, a2, a3, a4, a5, a6, Ab, nb, cb, la⟩ := by rw [hw2, ← z1]; exact heap_alloc_new _ _
 have hA2 := hA1.below b12
 have hb2 := bel b01 b12
 obtain ⟨c0, c1, c2, c3, c4, c5, c6⟩ := hA2.cells
 obtain ⟨d0, d1, d2, d3, d4, d5, d6⟩ := hB2.cells
 have ee : ∀ z : Int, (z != z) = false := fun z => by simp
 go_enter Tryz.func60, Tryz.ntmps60
 go_wp2_with fail
 rw [← hw1, ← hg, ← hw2]
 clear hw1 hg hw2 hA1 b01 b12 z1
 clear c0 c1 c2 c3 c4 c5 c6 d0 d1 d2 d3 d4 d5 d6
 go_loopw [5] (fun v wr => ∃ k : Nat, v = .int .i64 k ∧ k ≤ nb ∧ Below w2.heap.size w2 wr) (fun v _ => nb - (intOf v).toNat)
 case atStart => exact ⟨0, rfl, Nat.zero_le _, Below.refl _ _⟩
 case round =>
  obtain ⟨k, rfl, hk, hbr⟩ := hrel
  have hbw := bel hb2 hbr
  have c6 := (hA2.below hbr).cells.2.2.2.2.2.2
  have d6 := (hB2.below hbr).cells.2.2.2.2.2.2
  dsimp only at c6 d6
  by_cases hlt : k < nb
  ·obtain ⟨ad, o, e, hA, hl, q0, q1⟩ := (ha.below hbw).at_ hlt
   obtain ⟨ad2, o2, e2, hB, hl2, r0, r1⟩ := (hb.below hbw).at_ hlt
   rw [hl] at hl2
   injection hl2 with hl2
   injection hl2 with ho he
   subst ho he
   have k0 : (0 : Int) ≤ (k : Int) := by omega
   have k1 : (k : Int) < (nb : Int) := by omega
   rw [hA] at c6
   rw [hB] at d6
   clear hl hA hB
   go_wp2_with fail
   go_quiet (fail)
   go_wp2_with fail
   go_roundw
   case rel => exact ⟨k + 1, by go_num, hlt, below_drewN hbr _⟩
   case measure => simp [intOf]; omega
  ·have hd : decide ((k : Int) < (nb : Int)) = false := by simp; omega
   have hd2 : decide (k < nb) = false := by simp; omega
   go_wp2_with fail
   go_ret
   exact ⟨rfl, hbw⟩
set_option maxRecDepth 100000 in
set_option maxHeartbeats 8000000 in
theorem sameReqs41_yes (A B : Option Addr) (n m c d : Nat) (la lb : List Q) (w : World) (ha : Reqs w A n la) (hb : Reqs w B m lb) (h : la.map Q.bare = lb.map Q.bare) (hn : n ≤ 1000000000) (hq : ∀ p ∈ la, p.n ≤ 1000000000) :
  Calls Tryz.prog 41 #[.slice A n c, .slice B m d] w fun e w' => e = .returned (.bool true) ∧ Below w.heap.size w w' := by
 obtain rfl : m = n := by
  have := congrArg List.length h
  rw [List.length_map, List.length_map] at this
  rw [ha.1, hb.1, this]
 have HM := Lib.hid h
 clear h
 have ee : ∀ z : Int, (z != z) = false := fun z => by simp
 go_enter Tryz.func41, Tryz.ntmps41
 go_wp2_with fail
 go_loopw [5] (fun v wr => ∃ k : Nat, v = .int .i64 k ∧ k ≤ m ∧ Below w.heap.size w wr) (fun v _ => m - (intOf v).toNat)
 case atStart => exact ⟨0, rfl, Nat.zero_le _, Below.refl _ _⟩
 case round =>
  obtain ⟨k, rfl, hk, hbr⟩ := hrel
  by_cases hlt : k < m
  ·obtain ⟨ad, p, hA, hp, hIp, c0, c1, c2, c3, c4, c5, c6⟩ := (ha.below hbr).at_ hlt
   obtain ⟨ad2, q, hB, hq2, hIq, d0, d1, d2, d3, d4, d5, d6⟩ := (hb.below hbr).at_ hlt
   have hpq : p.bare = q.bare := by
    have e1 : (la.map Q.bare)[k]? = some p.bare := by rw [List.getElem?_map, hp]; rfl
    rw [HM.out, List.getElem?_map, hq2] at e1
    injection e1 with e1
    exact e1.symm
   have hpn := hq p (List.mem_of_getElem? hp)
   have CK : ∀ i : Beh wr, Calls Tryz.prog 60 #[.agg #[.int .i64 p.node, .int .i64 p.room, .int .i64 p.kilos, .int .i64 p.service, .int .i64 p.frm, .int .i64 p.by_, .slice p.A p.n p.c], .agg #[.int .i64 q.node, .int .i64 q.room, .int .i64 q.kilos, .int .i64 q.service, .int .i64 q.frm, .int .i64 q.by_, .slice q.A q.n q.c]] i.val fun e w' => e = .returned (.bool true) ∧ Below i.val.heap.size i.val w' := fun i => sameReq60_yes p q i.val (hIp.below i.property) (hIq.below i.property) hpq hpn
   have k0 : (0 : Int) ≤ (k : Int) := by omega
   have k1 : (k : Int) < (m : Int) := by omega
   have e0 := Beh.cell c0
   have e1 := Beh.cell c1
   have e2 := Beh.cell c2
   have e3 := Beh.cell c3
   have e4 := Beh.cell c4
   have e5 := Beh.cell c5
   have e6 := Beh.cell c6
   have f0 := Beh.cell d0
   have f1 := Beh.cell d1
   have f2 := Beh.cell d2
   have f3 := Beh.cell d3
   have f4 := Beh.cell d4
   have f5 := Beh.cell d5
   have f6 := Beh.cell d6
   clear hp hq2 hpq hpn hIp hIq c0 c1 c2 c3 c4 c5 c6 d0 d1 d2 d3 d4 d5 d6
   rw [hA, hB]
   clear hA hB
   go_upto_region 6 with fail
   refine reg_beh (by kernel_rfl) (by kernel_rfl) ?_
   repeat (go_big_quiet_step ((go_at_call 60; exact Beh.calls (CK _))))
   refine wpQuiet_nil ?_
   rintro w4 ⟨⟨w4, b4⟩, rfl⟩
   have hb4 := bel hbr b4
   clear CK e0 e1 e2 e3 e4 e5 e6 f0 f1 f2 f3 f4 f5 f6
   go_wp2_with fail
   go_roundw
   case rel => exact ⟨k + 1, by go_num, hlt, hb4⟩
   case measure => simp [intOf]; omega
  ·have hd : decide ((k : Int) < (m : Int)) = false := by simp; omega
   have hd2 : decide (k < m) = false := by simp; omega
   go_wp2_with fail
   go_ret
   exact ⟨rfl, hbr⟩
end Go.Proofs.YtippdjmpkafifaaGreat
namespace Go.Proofs.YtippdjmpkafifaaGreat
open Go.RowKit
structure DoneT (W0 : World) (T : World → Prop) (a0 a1 a2 a3 b0 b1 b2 b3 : Value) (gA gB : Nat) (w : World) : Prop where
 hA : w.heap[gA]? = some (.cells #[a0, a1, a2, a3] 44 (0, 0))
 hB : w.heap[gB]? = some (.cells #[b0, b1, b2, b3] 50 (0, 0))
 told : T w
 bel : Below W0.heap.size W0 w
 lA : W0.heap.size ≤ gA
 lB : W0.heap.size ≤ gB
section
variable {W0 w2 : World} {T : World → Prop} {a0 a1 a2 a3 b0 b1 b2 b3 : Value} {B : Nat}
theorem doneT1 (b : Below W0.heap.size W0 w2) (hT : ∀ w', Stays B w2 w' → T w') :
  DoneT W0 T a0 a1 a2 a3 b0 b1 b2 b3 w2.heap.size (w2.heap.size + 1) ((w2.alloc (.cells #[a0, a1, a2, a3] 44)).alloc (.cells #[b0, b1, b2, b3] 50)) :=
 have h1 := bel_alloc (Below.refl w2.heap.size w2) (.cells #[a0, a1, a2, a3] 44)
 ⟨blk_alloc (heap_alloc_new _ _) _, heap_alloc_at _ _ _ (World.size_alloc _ _).symm, hT _ (Stays.below B (bel_alloc h1 _)), bel_alloc (bel_alloc b _) _, b.size, Nat.le_succ_of_le b.size⟩
theorem doneT2 (b : Below W0.heap.size W0 w2) (hT : ∀ w', Stays B w2 w' → T w') :
  DoneT W0 T a0 a1 a2 a3 b0 b1 b2 b3 (w2.heap.size + 1) w2.heap.size ((w2.alloc (.cells #[b0, b1, b2, b3] 50)).alloc (.cells #[a0, a1, a2, a3] 44)) :=
 have h1 := bel_alloc (Below.refl w2.heap.size w2) (.cells #[b0, b1, b2, b3] 50)
 ⟨heap_alloc_at _ _ _ (World.size_alloc _ _).symm, blk_alloc (heap_alloc_new _ _) _, hT _ (Stays.below B (bel_alloc h1 _)), bel_alloc (bel_alloc b _) _, Nat.le_succ_of_le b.size, b.size⟩
theorem doneT3 {x0 x1 x2 x3 : Value} {gA : Nat} (b : Below W0.heap.size W0 w2) (hT : ∀ w', Stays B w2 w' → T w') (hA : w2.heap[gA]? = some (.cells #[x0, x1, x2, x3] 44 (0, 0))) (lA : gA < B) (zA : W0.heap.size ≤ gA) (u0 u1 u2 u3 : Value) :
  DoneT W0 T a0 a1 a2 a3 b0 b1 b2 b3 gA w2.heap.size (St4 (St4 (w2.alloc (.cells #[u0, u1, u2, u3] 50)) gA a0 a1 a2 a3) w2.heap.size b0 b1 b2 b3) := by
 have hs := blk_lt hA
 have h1 := bel_alloc (Below.refl w2.heap.size w2) (.cells #[u0, u1, u2, u3] 50)
 have hst := St4.stays (St4.stays (Stays.below B h1) (.inl lA) a0 a1 a2 a3) (.inr (Nat.le_refl _)) b0 b1 b2 b3
 refine ⟨?_, ?_, hT _ hst, St4.below (St4.below (bel_alloc b _) zA _ _ _ _) b.size _ _ _ _, zA, b.size⟩
 ·rw [St4.other (by omega)]
  exact St4.at_ (blk_alloc hA _) _ _ _ _
 ·refine St4.at_ (x0 := u0) (x1 := u1) (x2 := u2) (x3 := u3) ?_ _ _ _ _
  rw [St4.other (by omega)]
  exact heap_alloc_new _ _
theorem doneT4 {x0 x1 x2 x3 y0 y1 y2 y3 : Value} {gA gB : Nat} (b : Below W0.heap.size W0 w2) (hT : ∀ w', Stays B w2 w' → T w') (hA : w2.heap[gA]? = some (.cells #[x0, x1, x2, x3] 44 (0, 0))) (lA : gA < B) (zA : W0.heap.size ≤ gA) (hBB : w2.heap[gB]? = some (.cells #[y0, y1, y2, y3] 50 (0, 0))) (lB : gB < B) (zB : W0.heap.size ≤ gB) :
  DoneT W0 T a0 a1 a2 a3 b0 b1 b2 b3 gA gB (St4 (St4 w2 gA a0 a1 a2 a3) gB b0 b1 b2 b3) := by
 have hne : gA ≠ gB := fun e => by rw [e, hBB] at hA; simp at hA
 have hst := St4.stays (St4.stays (Stays.below B (Below.refl w2.heap.size w2)) (.inl lA) a0 a1 a2 a3) (.inl lB) b0 b1 b2 b3
 refine ⟨?_, ?_, hT _ hst, St4.below (St4.below b zA _ _ _ _) zB _ _ _ _, zA, zB⟩
 ·rw [St4.other hne]
  exact St4.at_ hA _ _ _ _
 ·refine St4.at_ (x0 := y0) (x1 := y1) (x2 := y2) (x3 := y3) ?_ _ _ _ _
  rw [St4.other hne.symm]
  exact hBB
theorem doneT5 {y0 y1 y2 y3 : Value} {gB : Nat} (b : Below W0.heap.size W0 w2) (hT : ∀ w', Stays B w2 w' → T w') (hBB : w2.heap[gB]? = some (.cells #[y0, y1, y2, y3] 50 (0, 0))) (lB : gB < B) (zB : W0.heap.size ≤ gB) :
  DoneT W0 T a0 a1 a2 a3 b0 b1 b2 b3 w2.heap.size gB (St4 (w2.alloc (.cells #[a0, a1, a2, a3] 44)) gB b0 b1 b2 b3) := by
 have hs := blk_lt hBB
 have h1 := bel_alloc (Below.refl w2.heap.size w2) (.cells #[a0, a1, a2, a3] 44)
 have hst := St4.stays (Stays.below B h1) (.inl lB) b0 b1 b2 b3
 refine ⟨?_, St4.at_ (blk_alloc hBB _) _ _ _ _, hT _ hst, St4.below (bel_alloc b _) zB _ _ _ _, b.size, zB⟩
 rw [St4.other (by omega)]
 exact heap_alloc_new _ _
end
def OffSt (g : Nat) (w w' : World) : Prop := ∀ h o, h ≠ g → w.heap[h]? = some o → w'.heap[h]? = some o
theorem OffSt.below {w w' : World} (g : Nat) (h : Below w.heap.size w w') : OffSt g w w' := fun _ _ _ e => blk_below h e
theorem Rd.off {w w' : World} {size n g : Nat} {A : Option Addr} {xs : List Value} (h : Rd w size A n xs) (hs : OffSt g w w') (hA : 0 < n → ∀ ad, A = some ad → ad.block ≠ g) : Rd w' size A n xs :=
 ⟨h.1, fun hn => by
  obtain ⟨ad, e, hc⟩ := h.2 hn
  refine ⟨ad, e, fun j u hu => ?_⟩
  have h1 := hc j u hu
  have hlt := cell_lt h1
  obtain ⟨o, ho⟩ : ∃ o, w.heap[(ad.add j).block]? = some o := ⟨_, Array.getElem?_eq_getElem hlt⟩
  refine (World.cell?_of_block ?_).trans h1
  rw [ho]
  exact hs _ _ (by rw [add_block]; exact hA hn ad e) ho⟩
theorem Rd.lt_of {w : World} {size n : Nat} {A : Option Addr} {xs : List Value} (h : Rd w size A n xs) (hs : 0 < size) (hn : 0 < n) : ∀ ad, A = some ad → ad.block < w.heap.size := fun ad e => by
 obtain ⟨ad', e', hc⟩ := h.2 hn
 rw [e] at e'
 injection e' with e'
 subst e'
 have hl : 0 < xs.length := by rw [h.1]; exact Nat.mul_pos hn hs
 have h1 := hc 0 _ (List.getElem?_eq_getElem hl)
 have h2 := cell_lt h1
 rwa [add_block] at h2
structure BkOff (g : Nat) (x : Cs) : Prop where
 n : 0 < x.n → ∀ ad, x.A = some ad → ad.block ≠ g
 s : 0 < x.sn → ∀ ad, x.SA = some ad → ad.block ≠ g
 r : ∀ s ∈ x.ss, 0 < s.n → ∀ ad, s.A = some ad → ad.block ≠ g
 q : 0 < x.m → ∀ ad, x.B = some ad → ad.block ≠ g
 w : ∀ p ∈ x.r, 0 < p.n → ∀ ad, p.A = some ad → ad.block ≠ g
structure BkIn (g : Nat) (w : World) (x : Cs) : Prop where
 blk : BkBlk w g x
 net : Roads w x.A x.n x.l
 shifts : Shifts w x.SA x.sn x.ss
 reqs : Reqs w x.B x.m x.r
 off : BkOff g x
theorem BkIn.move {g : Nat} {w w' : World} {x : Cs} (h : BkIn g w x) (hs : OffSt g w w') (hb : BkBlk w' g x) : BkIn g w' x :=
 ⟨hb, ⟨h.net.1, Rd.off h.net.2 hs h.off.n⟩, ⟨⟨h.shifts.1.1, Rd.off h.shifts.1.2 hs h.off.s⟩, fun s hm => ⟨(h.shifts.2 s hm).1, Rd.off (h.shifts.2 s hm).2 hs (h.off.r s hm)⟩⟩, ⟨h.reqs.1, Rd.off h.reqs.2.1 hs h.off.q, fun p hp => ⟨(h.reqs.2.2 p hp).1, Rd.off (h.reqs.2.2 p hp).2 hs (h.off.w p hp)⟩⟩, h.off⟩
theorem BkIn.below {g : Nat} {w w' : World} {x : Cs} (h : BkIn g w x) (hb : Below w.heap.size w w') : BkIn g w' x := h.move (OffSt.below g hb) (h.blk.below hb)
theorem bkIn_new {w w' : World} {x : Cs} (hN : Roads w x.A x.n x.l) (hS : Shifts w x.SA x.sn x.ss) (hQ : Reqs w x.B x.m x.r) (hb : Below w.heap.size w w') (hx : BkBlk w' w.heap.size x) : BkIn w.heap.size w' x :=
 ⟨hx, Lst.below hN hb, hS.below hb, hQ.below hb, ⟨fun h ad e => Nat.ne_of_lt (Rd.lt_of hN.2 (by decide) h ad e), fun h ad e => Nat.ne_of_lt (Rd.lt_of hS.1.2 (by decide) h ad e), fun s hs h ad e => Nat.ne_of_lt (Rd.lt_of (hS.2 s hs).2 (by decide) h ad e), fun h ad e => Nat.ne_of_lt (Rd.lt_of hQ.2.1 (by decide) h ad e), fun p hp h ad e => Nat.ne_of_lt (Rd.lt_of (hQ.2.2 p hp).2 (by decide) h ad e)⟩⟩
theorem BkNew.off {B g : Nat} {x : Cs} (h : BkNew B x) (hg : g < B) : BkOff g x :=
 ⟨fun h0 ad e => Nat.ne_of_gt (Nat.lt_of_lt_of_le hg (h.n h0 ad e)), fun _ ad e => Nat.ne_of_gt (Nat.lt_of_lt_of_le hg (h.s ad e)), fun s hs h0 ad e => Nat.ne_of_gt (Nat.lt_of_lt_of_le hg (h.r s hs h0 ad e)), fun _ ad e => Nat.ne_of_gt (Nat.lt_of_lt_of_le hg (h.q ad e)), fun p hp h0 ad e => Nat.ne_of_gt (Nat.lt_of_lt_of_le hg (h.w p hp h0 ad e))⟩
theorem BookAt.stays {w w2 : World} {x x' : Cs} {o : Option (List Q)} {B : Nat} (h : BookAt w x x' o) (hn : BkNew B x') (hs : Stays B w w2) : BookAt w2 x x' o := by
 cases o with
 | none => exact h
 | some r =>
  obtain ⟨h1, h2, h3, h4, h5, h6, h7⟩ := h
  exact ⟨h1, h2, h3, h4, h5.stays hn hs, h6, h7⟩
def ToldK (g : Nat) (xi x' : Cs) (a : AV) (o : Option (List Q)) (w : World) : Prop := BkOff g x' ∧ ∃ B, g < B ∧ ∀ w'', Stays B w w'' → AvAt w'' a ∧ BookAt w'' xi x' o
structure AskP (xi : Cs) (R : Option (List Q) × K.An × Int) (x' : Cs) (a : AV) (acc : Bool) (er : Int) : Prop where
 acc : acc = a.acc
 er : er = R.2.2
 an : a.an = R.2.1
 ok : AvOk a
 m : x'.m ≤ xi.m + 1
structure AskK (g : Nat) (xi : Cs) (R : Option (List Q) × K.An × Int) (B : Nat) (x' : Cs) (a : AV) (acc : Bool) (er : Int) (w2 : World) : Prop where
 p : AskP xi R x' a acc er
 told : ∀ w', Stays B w2 w' → ToldK g xi x' a R.1 w'
theorem ask_k (g : Nat) (x : Cs) (q : Q) (R : Option (List Q) × K.An × Int) (hR : K.ask33 x.nd x.l x.ss x.r q = R) (w : World) (hx : Ok33 w x q) (hg : g < w.heap.size) (h1 : x.n ≤ 1000000) (h2 : x.sn ≤ 1000000) (h3 : ∀ s ∈ x.ss, s.n ≤ 1000000) :
  Calls Tryz.prog 33 #[.agg #[.int .i64 x.nd, .slice x.A x.n x.c, .slice x.SA x.sn x.sc, .slice x.B x.m x.d], .agg #[.int .i64 q.node, .int .i64 q.room, .int .i64 q.kilos, .int .i64 q.service, .int .i64 q.frm, .int .i64 q.by_, .slice q.A q.n q.c]] w fun e w' => (∃ (x' : Cs) (a : AV) (acc : Bool) (er : Int), e = .returned (.tuple #[.agg #[.int .i64 x'.nd, .slice x'.A x'.n x'.c, .slice x'.SA x'.sn x'.sc, .slice x'.B x'.m x'.d], .agg #[.bool acc, .slice a.PA a.pn a.pc, .slice a.VA a.vn a.vc, .slice a.RA a.rn a.rc], .int .i64 er]) ∧ AskK g x R w.heap.size x' a acc er w') ∧ Below w.heap.size w w' := by
 subst hR
 refine (ask_any x q w hx h1 h2 h3).mono ?_
 rintro e w' ⟨⟨x', a, rfl, g1, g2, g3, g4, g5, g6⟩, hb⟩
 refine ⟨⟨x', a, a.acc, _, rfl, ⟨⟨rfl, rfl, g3, g2, ?_⟩, fun w2 hs => ⟨g6.off hg, _, hg, fun w'' hs2 => ⟨g1.stays g5 (hs.trans hs2), g4.stays g6 (hs.trans hs2)⟩⟩⟩⟩, hb⟩
 rcases K.ask_cases (nd := x.nd) (l := x.l) (ss := x.ss) (r := x.r) (x := q) with ⟨e, -, k2⟩ | ⟨-, ⟨-, k5⟩ | ⟨-, v, -, k6⟩⟩
 ·rw [k2] at g4
  have : x'.m = 0 := g4
  omega
 ·rw [k5] at g4
  obtain ⟨-, -, -, -, j5, -, j7⟩ := g4
  have := congrArg List.length j7
  rw [List.length_map, List.length_map, List.length_append, List.length_singleton, ← j5.reqs.1, ← hx.cs.reqs.1] at this
  omega
 ·rw [k6] at g4
  obtain ⟨-, -, -, -, j5, -, j7⟩ := g4
  have := congrArg List.length j7
  rw [List.length_map, List.length_map, ← j5.reqs.1, ← hx.cs.reqs.1] at this
  omega
theorem lt_bel {g B : Nat} {w w' : World} (h : g < w.heap.size) (hb : Below B w w') : g < w'.heap.size := Nat.lt_of_lt_of_le h hb.size
theorem K.ask_none {nd : Int} {l : List Ro} {ss : List S} {r : List Q} {x : Q} (h : (K.ask33 nd l ss r x).2.2 ≠ 0) : (K.ask33 nd l ss r x).1 = none := by
 rcases K.ask_cases (nd := nd) (l := l) (ss := ss) (r := r) (x := x) with ⟨e, h1, h2⟩ | ⟨_, ⟨_, h5⟩ | ⟨_, v, _, h6⟩⟩
 ·rw [h2]
 ·rw [h5] at h; exact absurd rfl h
 ·rw [h6] at h; exact absurd rfl h
set_option maxRecDepth 100000 in
set_option maxHeartbeats 32000000 in
theorem keeps_any (x : Cs) (LA : Option Addr) (ln lc : Nat) (ll : List Q) (w : World) (hN : Roads w x.A x.n x.l) (hS : Shifts w x.SA x.sn x.ss) (hQ : Reqs w x.B x.m x.r) (hL : Reqs w LA ln ll) (hmB : x.m * 72 ≤ 140737488351232) :
  Calls Tryz.prog 7 #[.agg #[.int .i64 x.nd, .slice x.A x.n x.c, .slice x.SA x.sn x.sc, .slice x.B x.m x.d], .slice LA ln lc] w fun e w' => e = .returned (.bool true) ∧ Below w.heap.size w w' := by
 obtain ⟨w1, hw1⟩ : ∃ w1 : World, w1 = w.alloc (.cells #[.int .i64 x.nd, .slice x.A x.n x.c, .slice x.SA x.sn x.sc, .slice x.B x.m x.d] 44) := ⟨_, rfl⟩
 have b1 : Below w.heap.size w w1 := by rw [hw1]; exact bel_alloc0 _ _
 have hN1 : BkBlk w1 w.heap.size x := by rw [hw1]; exact BkBlk.new _ _
 have hI1 := bkIn_new hN hS hQ b1 hN1
 obtain ⟨g, hg⟩ : ∃ g, g = w.heap.size := ⟨_, rfl⟩
 rw [← hg] at hI1
 have HG := Lib.hid hg
 clear hN1
 go_enter Tryz.func7, Tryz.ntmps7
 go_wp2_with fail
 rw [← hw1, ← hg]
 clear hw1 hg
 refine (psmall_any _).mono ?_
 rintro e w4 ⟨rfl, b4⟩
 have hI4 := hI1.below b4
 have hb4 := bel b1 b4
 clear hI1 b1 b4
 have p3 := blk_cell hI4.blk 3 _ rfl
 by_cases h4 : ln ≤ 4
 rotate_left
 ·have d1 : decide ((4 : Int) < (ln : Int)) = true := by simp; omega
  have d2 : decide (4 < ln) = true := by simp; omega
  clear h4
  go_wp2_with fail
  go_ret
  exact ⟨rfl, hb4⟩
 have d1 : decide ((4 : Int) < (ln : Int)) = false := by simp; omega
 have d2 : decide (4 < ln) = false := by simp; omega
 by_cases h3 : x.m ≤ 3
 rotate_left
 ·have d3 : decide ((3 : Int) < (x.m : Int)) = true := by simp; omega
  have d4 : decide (3 < x.m) = true := by simp; omega
  clear h4 h3
  go_wp2_with fail
  go_ret
  exact ⟨rfl, hb4⟩
 have d3 : decide ((3 : Int) < (x.m : Int)) = false := by simp; omega
 have d4 : decide (3 < x.m) = false := by simp; omega
 go_wp2_with fail
 clear d1 d2 d3 d4 p3
 go_loopw [6] (fun v6 wr => ∃ (i : Nat) (xi : Cs), v6 = .int .i64 i ∧ i ≤ ln ∧ BkIn g wr xi ∧ xi.m ≤ 4 ∧ Below w.heap.size w wr) (fun v6 _ => ln - (intOf v6).toNat)
 case atStart => exact ⟨0, x, rfl, Nat.zero_le _, hI4, by omega, hb4⟩
 case round =>
  clear hI4 hb4 h3
  obtain ⟨i, xi, rfl, hi, hI, hm4, hbr⟩ := hrel
  by_cases hlt : i < ln
  rotate_left
  ·have hd : decide ((i : Int) < (ln : Int)) = false := by simp; omega
   have hd2 : decide (i < ln) = false := by simp; omega
   go_wp2_with fail
   go_ret
   exact ⟨rfl, hbr⟩
  have k0 : (0 : Int) ≤ (i : Int) := by omega
  have k1 : (i : Int) < (ln : Int) := by omega
  obtain ⟨adl, q, hLA, hq, hW, c0, c1, c2, c3, c4, c5, c6⟩ := (hL.below hbr).at_ hlt
  obtain ⟨W0, hW0⟩ : ∃ W0 : World, W0 = wr := ⟨_, rfl⟩
  have hlg : g < W0.heap.size := by rw [hW0]; exact lt_of_block hI.blk
  have HMK := Lib.hid (show ∀ w', Below W0.heap.size W0 w' → (fun w' : World => w'.cell? ⟨g, 0, none⟩ = some (.int .i64 xi.nd) ∧ w'.cell? ⟨g, 1, none⟩ = some (.slice xi.A xi.n xi.c) ∧ w'.cell? ⟨g, 2, none⟩ = some (.slice xi.SA xi.sn xi.sc) ∧ w'.cell? ⟨g, 3, none⟩ = some (.slice xi.B xi.m xi.d) ∧ w'.cell? (adl.add (i * 7)) = some (.int .i64 q.node) ∧ w'.cell? ⟨(adl.add (i * 7)).block, (adl.add (i * 7)).off + 1, none⟩ = some (.int .i64 q.room) ∧ w'.cell? ⟨(adl.add (i * 7)).block, (adl.add (i * 7)).off + 2, none⟩ = some (.int .i64 q.kilos) ∧ w'.cell? ⟨(adl.add (i * 7)).block, (adl.add (i * 7)).off + 3, none⟩ = some (.int .i64 q.service) ∧ w'.cell? ⟨(adl.add (i * 7)).block, (adl.add (i * 7)).off + 4, none⟩ = some (.int .i64 q.frm) ∧ w'.cell? ⟨(adl.add (i * 7)).block, (adl.add (i * 7)).off + 5, none⟩ = some (.int .i64 q.by_) ∧ w'.cell? ⟨(adl.add (i * 7)).block, (adl.add (i * 7)).off + 6, none⟩ = some (.slice q.A q.n q.c)) w' from fun w' h => by
   rw [hW0] at h
   have hIb := (hI.below h).blk
   have mv : ∀ {p : Addr} {v : Value}, wr.cell? p = some v → w'.cell? p = some v := fun g => (h.cell (cell_lt g)).trans g
   exact ⟨blk_cell hIb 0 _ rfl, blk_cell hIb 1 _ rfl, blk_cell hIb 2 _ rfl, blk_cell hIb 3 _ rfl, mv c0, mv c1, mv c2, mv c3, mv c4, mv c5, mv c6⟩)
  have hR00 : Below W0.heap.size W0 W0 := Below.refl _ _
  have hR0d := hR00.drew
  have S0 := HMK.out _ hR00
  have S0d := HMK.out _ hR0d
  have hIW : BkIn g W0 xi := by rw [hW0]; exact hI
  have hWW : Wins W0 q.A q.n q.l := by rw [hW0]; exact hW
  have hbW : Below w.heap.size w W0 := by rw [hW0]; exact hbr
  have HLA := Lib.hid hLA
  have HLq := Lib.hid hq
  clear c0 c1 c2 c3 c4 c5 c6 hI hW hbr hq
  rw [hLA]
  rw [← hW0]
  clear hW0 hLA
  go_upto_region 7 with fail
  go_region_held3 (fun w' : World => w'.cell? ⟨g, 0, none⟩ = some (.int .i64 xi.nd) ∧ w'.cell? ⟨g, 1, none⟩ = some (.slice xi.A xi.n xi.c) ∧ w'.cell? ⟨g, 2, none⟩ = some (.slice xi.SA xi.sn xi.sc) ∧ w'.cell? ⟨g, 3, none⟩ = some (.slice xi.B xi.m xi.d) ∧ w'.cell? (adl.add (i * 7)) = some (.int .i64 q.node) ∧ w'.cell? ⟨(adl.add (i * 7)).block, (adl.add (i * 7)).off + 1, none⟩ = some (.int .i64 q.room) ∧ w'.cell? ⟨(adl.add (i * 7)).block, (adl.add (i * 7)).off + 2, none⟩ = some (.int .i64 q.kilos) ∧ w'.cell? ⟨(adl.add (i * 7)).block, (adl.add (i * 7)).off + 3, none⟩ = some (.int .i64 q.service) ∧ w'.cell? ⟨(adl.add (i * 7)).block, (adl.add (i * 7)).off + 4, none⟩ = some (.int .i64 q.frm) ∧ w'.cell? ⟨(adl.add (i * 7)).block, (adl.add (i * 7)).off + 5, none⟩ = some (.int .i64 q.by_) ∧ w'.cell? ⟨(adl.add (i * 7)).block, (adl.add (i * 7)).off + 6, none⟩ = some (.slice q.A q.n q.c))
   (first | with_reducible exact S1 | with_reducible exact S0d | with_reducible exact S0 | fail)
   (first | (go_at_call 31; refine (rfew33_any xi q _ (hIW.below hR0d).shifts (hIW.below hR0d).reqs (hWW.below hR0d) (by omega)).mono ?_; rintro e w5 ⟨⟨z, rfl, hz⟩, b5⟩; have b5r := bel hR0d b5; have S1 := HMK.out _ b5r) | fail)
  have HZ := Lib.hid hz
  have hI5 := hIW.below b5r
  have hW5 := hWW.below b5r
  have hb5 := bel hbW b5r
  clear hz S0 S0d hR0d b5
  cases z
  ·go_wp2_with fail
   go_ret
   exact ⟨rfl, hb5⟩
  have hF := HZ.out rfl
  clear hIW hWW hbW HZ
  obtain ⟨W1, hW1⟩ : ∃ W1 : World, W1 = w5 := ⟨_, rfl⟩
  rw [← hW1] at S1 hI5 hW5 hb5 b5r ⊢
  have HMK := Lib.hid (show ∀ w', Below W1.heap.size W1 w' → (fun w' : World => w'.cell? ⟨g, 0, none⟩ = some (.int .i64 xi.nd) ∧ w'.cell? ⟨g, 1, none⟩ = some (.slice xi.A xi.n xi.c) ∧ w'.cell? ⟨g, 2, none⟩ = some (.slice xi.SA xi.sn xi.sc) ∧ w'.cell? ⟨g, 3, none⟩ = some (.slice xi.B xi.m xi.d) ∧ w'.cell? (adl.add (i * 7)) = some (.int .i64 q.node) ∧ w'.cell? ⟨(adl.add (i * 7)).block, (adl.add (i * 7)).off + 1, none⟩ = some (.int .i64 q.room) ∧ w'.cell? ⟨(adl.add (i * 7)).block, (adl.add (i * 7)).off + 2, none⟩ = some (.int .i64 q.kilos) ∧ w'.cell? ⟨(adl.add (i * 7)).block, (adl.add (i * 7)).off + 3, none⟩ = some (.int .i64 q.service) ∧ w'.cell? ⟨(adl.add (i * 7)).block, (adl.add (i * 7)).off + 4, none⟩ = some (.int .i64 q.frm) ∧ w'.cell? ⟨(adl.add (i * 7)).block, (adl.add (i * 7)).off + 5, none⟩ = some (.int .i64 q.by_) ∧ w'.cell? ⟨(adl.add (i * 7)).block, (adl.add (i * 7)).off + 6, none⟩ = some (.slice q.A q.n q.c)) w' from fun w' h => HMK.out _ (bel b5r h))
  have HOK := Lib.hid (show ∀ w', Below W1.heap.size W1 w' → Ok33 w' xi q from fun w' h => hF.ok (hI5.below h).net (hI5.below h).shifts (hI5.below h).reqs (hW5.below h))
  have hKn : xi.n ≤ 1000000 := by have := hF.n; omega
  have hKs : xi.sn ≤ 1000000 := by have := hF.sn; omega
  have hKr : ∀ s ∈ xi.ss, s.n ≤ 1000000 := fun s hs => by have := hF.s s hs; omega
  have hlg1 : g < W1.heap.size := lt_of_block hI5.blk
  have hR00 : Below W1.heap.size W1 W1 := Below.refl _ _
  have S0 := HMK.out _ hR00
  have S0d := HMK.out _ hR00.drew
  have z0 : W1.heap.size ≤ W1.heap.size := Nat.le_refl _
  have z0d : W1.heap.size ≤ W1.drew.heap.size := Nat.le_refl _
  have z0s : W1.heap.size ≤ W1.heap.size + 1 := Nat.le_succ _
  obtain ⟨R, hR⟩ : ∃ R, R = K.ask33 xi.nd xi.l xi.ss xi.r q := ⟨_, rfl⟩
  have HR := Lib.hid hR.symm
  clear hW1 b5r S1 hR
  go_upto_region 9 with fail
  go_cut [7, 8, 9] from 37 to 45 (fun v7 v8 v9 wc => ∃ gA gB x' a acc er, v7 = .pointer (some ⟨gA, 0, none⟩) ∧ v8 = .pointer (some ⟨gB, 0, none⟩) ∧ v9 = .int .i64 er ∧ AskP xi R x' a acc er ∧ DoneT W1 (ToldK g xi x' a R.1) (.int .i64 x'.nd) (.slice x'.A x'.n x'.c) (.slice x'.SA x'.sn x'.sc) (.slice x'.B x'.m x'.d) (.bool acc) (.slice a.PA a.pn a.pc) (.slice a.VA a.vn a.vc) (.slice a.RA a.rn a.rc) gA gB wc)
  case first =>
   go_region_held3 (fun w' : World => w'.cell? ⟨g, 0, none⟩ = some (.int .i64 xi.nd) ∧ w'.cell? ⟨g, 1, none⟩ = some (.slice xi.A xi.n xi.c) ∧ w'.cell? ⟨g, 2, none⟩ = some (.slice xi.SA xi.sn xi.sc) ∧ w'.cell? ⟨g, 3, none⟩ = some (.slice xi.B xi.m xi.d) ∧ w'.cell? (adl.add (i * 7)) = some (.int .i64 q.node) ∧ w'.cell? ⟨(adl.add (i * 7)).block, (adl.add (i * 7)).off + 1, none⟩ = some (.int .i64 q.room) ∧ w'.cell? ⟨(adl.add (i * 7)).block, (adl.add (i * 7)).off + 2, none⟩ = some (.int .i64 q.kilos) ∧ w'.cell? ⟨(adl.add (i * 7)).block, (adl.add (i * 7)).off + 3, none⟩ = some (.int .i64 q.service) ∧ w'.cell? ⟨(adl.add (i * 7)).block, (adl.add (i * 7)).off + 4, none⟩ = some (.int .i64 q.frm) ∧ w'.cell? ⟨(adl.add (i * 7)).block, (adl.add (i * 7)).off + 5, none⟩ = some (.int .i64 q.by_) ∧ w'.cell? ⟨(adl.add (i * 7)).block, (adl.add (i * 7)).off + 6, none⟩ = some (.slice q.A q.n q.c))
    (first | with_reducible exact HMK.out _ b2r | with_reducible exact HMK.out _ (bel_alloc b2r _) | with_reducible exact HMK.out _ (bel_alloc (bel_alloc b2r _) _) | with_reducible exact HMK.out _ hR00 | with_reducible exact HMK.out _ (bel_alloc hR00 _) | with_reducible exact HMK.out _ (bel_alloc (bel_alloc hR00 _) _) | with_reducible exact HMK.out _ (hR00).drew | with_reducible exact HMK.out _ ((bel_alloc hR00 _)).drew | with_reducible exact HMK.out _ ((bel_alloc (bel_alloc hR00 _) _)).drew | with_reducible exact HMK.out _ hR00.drew | with_reducible exact HMK.out _ (bel_alloc hR00.drew _) | with_reducible exact HMK.out _ (bel_alloc (bel_alloc hR00.drew _) _) | with_reducible exact HMK.out _ (bel_set4 b2r (by assumption) _ _ _ _) | with_reducible exact HMK.out _ (bel_set4 (bel_alloc b2r _) (by assumption) _ _ _ _) | with_reducible exact HMK.out _ (bel_set4 (bel_alloc (bel_alloc b2r _) _) (by assumption) _ _ _ _) | with_reducible exact HMK.out _ (bel_set4 (bel_set4 b2r (by assumption) _ _ _ _) (by assumption) _ _ _ _) | with_reducible exact HMK.out _ (bel_set4 (bel_set4 (bel_alloc b2r _) (by assumption) _ _ _ _) (by assumption) _ _ _ _) | with_reducible exact HMK.out _ (bel_set4 (bel_set4 (bel_alloc (bel_alloc b2r _) _) (by assumption) _ _ _ _) (by assumption) _ _ _ _) | fail)
    (first
     | (go_at_call 33; (first | (with_reducible (refine (ask_k g xi q R HR.out _ (HOK.out _ hR00) (lt_bel hlg1 hR00) hKn hKs hKr).mono ?_; rintro e w2 ⟨⟨x', a, acc, er, rfl, hK⟩, b2⟩; have b2r := bel hR00 b2; have z2r := b2r.size; have z2s := Nat.le_succ_of_le z2r)) | (with_reducible (refine (ask_k g xi q R HR.out _ (HOK.out _ (bel_alloc hR00 _)) (lt_bel hlg1 (bel_alloc hR00 _)) hKn hKs hKr).mono ?_; rintro e w2 ⟨⟨x', a, acc, er, rfl, hK⟩, b2⟩; have b2r := bel (bel_alloc hR00 _) b2; have z2r := b2r.size; have z2s := Nat.le_succ_of_le z2r)) | (with_reducible (refine (ask_k g xi q R HR.out _ (HOK.out _ (bel_alloc (bel_alloc hR00 _) _)) (lt_bel hlg1 (bel_alloc (bel_alloc hR00 _) _)) hKn hKs hKr).mono ?_; rintro e w2 ⟨⟨x', a, acc, er, rfl, hK⟩, b2⟩; have b2r := bel (bel_alloc (bel_alloc hR00 _) _) b2; have z2r := b2r.size; have z2s := Nat.le_succ_of_le z2r)) | (with_reducible (refine (ask_k g xi q R HR.out _ (HOK.out _ (hR00).drew) (lt_bel hlg1 (hR00).drew) hKn hKs hKr).mono ?_; rintro e w2 ⟨⟨x', a, acc, er, rfl, hK⟩, b2⟩; have b2r := bel (hR00).drew b2; have z2r := b2r.size; have z2s := Nat.le_succ_of_le z2r)) | (with_reducible (refine (ask_k g xi q R HR.out _ (HOK.out _ ((bel_alloc hR00 _)).drew) (lt_bel hlg1 ((bel_alloc hR00 _)).drew) hKn hKs hKr).mono ?_; rintro e w2 ⟨⟨x', a, acc, er, rfl, hK⟩, b2⟩; have b2r := bel ((bel_alloc hR00 _)).drew b2; have z2r := b2r.size; have z2s := Nat.le_succ_of_le z2r)) | (with_reducible (refine (ask_k g xi q R HR.out _ (HOK.out _ ((bel_alloc (bel_alloc hR00 _) _)).drew) (lt_bel hlg1 ((bel_alloc (bel_alloc hR00 _) _)).drew) hKn hKs hKr).mono ?_; rintro e w2 ⟨⟨x', a, acc, er, rfl, hK⟩, b2⟩; have b2r := bel ((bel_alloc (bel_alloc hR00 _) _)).drew b2; have z2r := b2r.size; have z2s := Nat.le_succ_of_le z2r)) | (with_reducible (refine (ask_k g xi q R HR.out _ (HOK.out _ hR00.drew) (lt_bel hlg1 hR00.drew) hKn hKs hKr).mono ?_; rintro e w2 ⟨⟨x', a, acc, er, rfl, hK⟩, b2⟩; have b2r := bel hR00.drew b2; have z2r := b2r.size; have z2s := Nat.le_succ_of_le z2r)) | (with_reducible (refine (ask_k g xi q R HR.out _ (HOK.out _ (bel_alloc hR00.drew _)) (lt_bel hlg1 (bel_alloc hR00.drew _)) hKn hKs hKr).mono ?_; rintro e w2 ⟨⟨x', a, acc, er, rfl, hK⟩, b2⟩; have b2r := bel (bel_alloc hR00.drew _) b2; have z2r := b2r.size; have z2s := Nat.le_succ_of_le z2r)) | (with_reducible (refine (ask_k g xi q R HR.out _ (HOK.out _ (bel_alloc (bel_alloc hR00.drew _) _)) (lt_bel hlg1 (bel_alloc (bel_alloc hR00.drew _) _)) hKn hKs hKr).mono ?_; rintro e w2 ⟨⟨x', a, acc, er, rfl, hK⟩, b2⟩; have b2r := bel (bel_alloc (bel_alloc hR00.drew _) _) b2; have z2r := b2r.size; have z2s := Nat.le_succ_of_le z2r))); (first | (with_reducible (have lA := blk_lt2 b2 hA; have hA := blk_below b2 hA)) | (with_reducible (have lA := blk_lt2 b2 (blk_alloc hA _); have hA := blk_below b2 (blk_alloc hA _))) | (with_reducible (have lA := blk_lt2 b2 (heap_alloc_at _ (.cells #[.int .i64 0, .slice none 0 0, .slice none 0 0, .slice none 0 0] 44) _ (World.size_alloc _ _).symm); have hA := blk_below b2 (heap_alloc_at _ (.cells #[.int .i64 0, .slice none 0 0, .slice none 0 0, .slice none 0 0] 44) _ (World.size_alloc _ _).symm))) | (with_reducible (have lA := blk_lt2 b2 (heap_alloc_new _ (.cells #[.int .i64 0, .slice none 0 0, .slice none 0 0, .slice none 0 0] 44)); have hA := blk_below b2 (heap_alloc_new _ (.cells #[.int .i64 0, .slice none 0 0, .slice none 0 0, .slice none 0 0] 44)))) | (with_reducible (have lA := blk_lt2 b2 (blk_alloc (heap_alloc_new _ (.cells #[.int .i64 0, .slice none 0 0, .slice none 0 0, .slice none 0 0] 44)) (.cells #[.bool false, .slice none 0 0, .slice none 0 0, .slice none 0 0] 50)); have hA := blk_below b2 (blk_alloc (heap_alloc_new _ (.cells #[.int .i64 0, .slice none 0 0, .slice none 0 0, .slice none 0 0] 44)) (.cells #[.bool false, .slice none 0 0, .slice none 0 0, .slice none 0 0] 50)))) | (with_reducible (have lA := blk_lt2 b2 (drew_fact hA); have hA := blk_below b2 (drew_fact hA))) | (with_reducible (have lA := blk_lt2 b2 (drew_fact (blk_alloc hA _)); have hA := blk_below b2 (drew_fact (blk_alloc hA _)))) | (with_reducible (have lA := blk_lt2 b2 (drew_fact (heap_alloc_at _ (.cells #[.int .i64 0, .slice none 0 0, .slice none 0 0, .slice none 0 0] 44) _ (World.size_alloc _ _).symm)); have hA := blk_below b2 (drew_fact (heap_alloc_at _ (.cells #[.int .i64 0, .slice none 0 0, .slice none 0 0, .slice none 0 0] 44) _ (World.size_alloc _ _).symm)))) | (with_reducible (have lA := blk_lt2 b2 (drew_fact (heap_alloc_new _ (.cells #[.int .i64 0, .slice none 0 0, .slice none 0 0, .slice none 0 0] 44))); have hA := blk_below b2 (drew_fact (heap_alloc_new _ (.cells #[.int .i64 0, .slice none 0 0, .slice none 0 0, .slice none 0 0] 44))))) | (with_reducible (have lA := blk_lt2 b2 (drew_fact (blk_alloc (heap_alloc_new _ (.cells #[.int .i64 0, .slice none 0 0, .slice none 0 0, .slice none 0 0] 44)) (.cells #[.bool false, .slice none 0 0, .slice none 0 0, .slice none 0 0] 50))); have hA := blk_below b2 (drew_fact (blk_alloc (heap_alloc_new _ (.cells #[.int .i64 0, .slice none 0 0, .slice none 0 0, .slice none 0 0] 44)) (.cells #[.bool false, .slice none 0 0, .slice none 0 0, .slice none 0 0] 50))))) | skip); (first | (with_reducible (have lB := blk_lt2 b2 hB; have hB := blk_below b2 hB)) | (with_reducible (have lB := blk_lt2 b2 (blk_alloc hB _); have hB := blk_below b2 (blk_alloc hB _))) | (with_reducible (have lB := blk_lt2 b2 (heap_alloc_at _ (.cells #[.bool false, .slice none 0 0, .slice none 0 0, .slice none 0 0] 50) _ (World.size_alloc _ _).symm); have hB := blk_below b2 (heap_alloc_at _ (.cells #[.bool false, .slice none 0 0, .slice none 0 0, .slice none 0 0] 50) _ (World.size_alloc _ _).symm))) | (with_reducible (have lB := blk_lt2 b2 (heap_alloc_new _ (.cells #[.bool false, .slice none 0 0, .slice none 0 0, .slice none 0 0] 50)); have hB := blk_below b2 (heap_alloc_new _ (.cells #[.bool false, .slice none 0 0, .slice none 0 0, .slice none 0 0] 50)))) | (with_reducible (have lB := blk_lt2 b2 (blk_alloc (heap_alloc_new _ (.cells #[.bool false, .slice none 0 0, .slice none 0 0, .slice none 0 0] 50)) (.cells #[.int .i64 0, .slice none 0 0, .slice none 0 0, .slice none 0 0] 44)); have hB := blk_below b2 (blk_alloc (heap_alloc_new _ (.cells #[.bool false, .slice none 0 0, .slice none 0 0, .slice none 0 0] 50)) (.cells #[.int .i64 0, .slice none 0 0, .slice none 0 0, .slice none 0 0] 44)))) | (with_reducible (have lB := blk_lt2 b2 (drew_fact hB); have hB := blk_below b2 (drew_fact hB))) | (with_reducible (have lB := blk_lt2 b2 (drew_fact (blk_alloc hB _)); have hB := blk_below b2 (drew_fact (blk_alloc hB _)))) | (with_reducible (have lB := blk_lt2 b2 (drew_fact (heap_alloc_at _ (.cells #[.bool false, .slice none 0 0, .slice none 0 0, .slice none 0 0] 50) _ (World.size_alloc _ _).symm)); have hB := blk_below b2 (drew_fact (heap_alloc_at _ (.cells #[.bool false, .slice none 0 0, .slice none 0 0, .slice none 0 0] 50) _ (World.size_alloc _ _).symm)))) | (with_reducible (have lB := blk_lt2 b2 (drew_fact (heap_alloc_new _ (.cells #[.bool false, .slice none 0 0, .slice none 0 0, .slice none 0 0] 50))); have hB := blk_below b2 (drew_fact (heap_alloc_new _ (.cells #[.bool false, .slice none 0 0, .slice none 0 0, .slice none 0 0] 50))))) | (with_reducible (have lB := blk_lt2 b2 (drew_fact (blk_alloc (heap_alloc_new _ (.cells #[.bool false, .slice none 0 0, .slice none 0 0, .slice none 0 0] 50)) (.cells #[.int .i64 0, .slice none 0 0, .slice none 0 0, .slice none 0 0] 44))); have hB := blk_below b2 (drew_fact (blk_alloc (heap_alloc_new _ (.cells #[.bool false, .slice none 0 0, .slice none 0 0, .slice none 0 0] 50)) (.cells #[.int .i64 0, .slice none 0 0, .slice none 0 0, .slice none 0 0] 44))))) | skip); (first | (with_reducible (have fA := blk_free hA; have yA0 := blk_cell hA 0 _ rfl; have yA1 := blk_cell hA 1 _ rfl; have yA2 := blk_cell hA 2 _ rfl; have yA3 := blk_cell hA 3 _ rfl)) | skip); (first | (with_reducible (have fB := blk_free hB; have yB0 := blk_cell hB 0 _ rfl; have yB1 := blk_cell hB 1 _ rfl; have yB2 := blk_cell hB 2 _ rfl; have yB3 := blk_cell hB 3 _ rfl)) | skip); (first | (with_reducible (have fAB := blk_free (blk_alloc hA (.cells #[.bool false, .slice none 0 0, .slice none 0 0, .slice none 0 0] 50)); have yAB0 := blk_cell (blk_alloc hA (.cells #[.bool false, .slice none 0 0, .slice none 0 0, .slice none 0 0] 50)) 0 _ rfl; have yAB1 := blk_cell (blk_alloc hA (.cells #[.bool false, .slice none 0 0, .slice none 0 0, .slice none 0 0] 50)) 1 _ rfl; have yAB2 := blk_cell (blk_alloc hA (.cells #[.bool false, .slice none 0 0, .slice none 0 0, .slice none 0 0] 50)) 2 _ rfl; have yAB3 := blk_cell (blk_alloc hA (.cells #[.bool false, .slice none 0 0, .slice none 0 0, .slice none 0 0] 50)) 3 _ rfl)) | skip); (first | (with_reducible (have fBA := blk_free (blk_alloc hB (.cells #[.int .i64 0, .slice none 0 0, .slice none 0 0, .slice none 0 0] 44)); have yBA0 := blk_cell (blk_alloc hB (.cells #[.int .i64 0, .slice none 0 0, .slice none 0 0, .slice none 0 0] 44)) 0 _ rfl; have yBA1 := blk_cell (blk_alloc hB (.cells #[.int .i64 0, .slice none 0 0, .slice none 0 0, .slice none 0 0] 44)) 1 _ rfl; have yBA2 := blk_cell (blk_alloc hB (.cells #[.int .i64 0, .slice none 0 0, .slice none 0 0, .slice none 0 0] 44)) 2 _ rfl; have yBA3 := blk_cell (blk_alloc hB (.cells #[.int .i64 0, .slice none 0 0, .slice none 0 0, .slice none 0 0] 44)) 3 _ rfl)) | skip); (first | (with_reducible (have fBN := blk_free (blk_alloc hB (.cells #[.int .i64 x'.nd, .slice x'.A x'.n x'.c, .slice x'.SA x'.sn x'.sc, .slice x'.B x'.m x'.d] 44)); have yBN0 := blk_cell (blk_alloc hB (.cells #[.int .i64 x'.nd, .slice x'.A x'.n x'.c, .slice x'.SA x'.sn x'.sc, .slice x'.B x'.m x'.d] 44)) 0 _ rfl; have yBN1 := blk_cell (blk_alloc hB (.cells #[.int .i64 x'.nd, .slice x'.A x'.n x'.c, .slice x'.SA x'.sn x'.sc, .slice x'.B x'.m x'.d] 44)) 1 _ rfl; have yBN2 := blk_cell (blk_alloc hB (.cells #[.int .i64 x'.nd, .slice x'.A x'.n x'.c, .slice x'.SA x'.sn x'.sc, .slice x'.B x'.m x'.d] 44)) 2 _ rfl; have yBN3 := blk_cell (blk_alloc hB (.cells #[.int .i64 x'.nd, .slice x'.A x'.n x'.c, .slice x'.SA x'.sn x'.sc, .slice x'.B x'.m x'.d] 44)) 3 _ rfl)) | skip); (first | (with_reducible (have fBS := blk_free (blk_other4 hA hB (.int .i64 x'.nd) (.slice x'.A x'.n x'.c) (.slice x'.SA x'.sn x'.sc) (.slice x'.B x'.m x'.d)); have yBS0 := blk_cell (blk_other4 hA hB (.int .i64 x'.nd) (.slice x'.A x'.n x'.c) (.slice x'.SA x'.sn x'.sc) (.slice x'.B x'.m x'.d)) 0 _ rfl; have yBS1 := blk_cell (blk_other4 hA hB (.int .i64 x'.nd) (.slice x'.A x'.n x'.c) (.slice x'.SA x'.sn x'.sc) (.slice x'.B x'.m x'.d)) 1 _ rfl; have yBS2 := blk_cell (blk_other4 hA hB (.int .i64 x'.nd) (.slice x'.A x'.n x'.c) (.slice x'.SA x'.sn x'.sc) (.slice x'.B x'.m x'.d)) 2 _ rfl; have yBS3 := blk_cell (blk_other4 hA hB (.int .i64 x'.nd) (.slice x'.A x'.n x'.c) (.slice x'.SA x'.sn x'.sc) (.slice x'.B x'.m x'.d)) 3 _ rfl)) | skip); (first | (with_reducible (have fBF := blk_free (blk_other4 (blk_alloc hA (.cells #[.bool false, .slice none 0 0, .slice none 0 0, .slice none 0 0] 50)) (heap_alloc_new _ (.cells #[.bool false, .slice none 0 0, .slice none 0 0, .slice none 0 0] 50)) (.int .i64 x'.nd) (.slice x'.A x'.n x'.c) (.slice x'.SA x'.sn x'.sc) (.slice x'.B x'.m x'.d)); have yBF0 := blk_cell (blk_other4 (blk_alloc hA (.cells #[.bool false, .slice none 0 0, .slice none 0 0, .slice none 0 0] 50)) (heap_alloc_new _ (.cells #[.bool false, .slice none 0 0, .slice none 0 0, .slice none 0 0] 50)) (.int .i64 x'.nd) (.slice x'.A x'.n x'.c) (.slice x'.SA x'.sn x'.sc) (.slice x'.B x'.m x'.d)) 0 _ rfl; have yBF1 := blk_cell (blk_other4 (blk_alloc hA (.cells #[.bool false, .slice none 0 0, .slice none 0 0, .slice none 0 0] 50)) (heap_alloc_new _ (.cells #[.bool false, .slice none 0 0, .slice none 0 0, .slice none 0 0] 50)) (.int .i64 x'.nd) (.slice x'.A x'.n x'.c) (.slice x'.SA x'.sn x'.sc) (.slice x'.B x'.m x'.d)) 1 _ rfl; have yBF2 := blk_cell (blk_other4 (blk_alloc hA (.cells #[.bool false, .slice none 0 0, .slice none 0 0, .slice none 0 0] 50)) (heap_alloc_new _ (.cells #[.bool false, .slice none 0 0, .slice none 0 0, .slice none 0 0] 50)) (.int .i64 x'.nd) (.slice x'.A x'.n x'.c) (.slice x'.SA x'.sn x'.sc) (.slice x'.B x'.m x'.d)) 2 _ rfl; have yBF3 := blk_cell (blk_other4 (blk_alloc hA (.cells #[.bool false, .slice none 0 0, .slice none 0 0, .slice none 0 0] 50)) (heap_alloc_new _ (.cells #[.bool false, .slice none 0 0, .slice none 0 0, .slice none 0 0] 50)) (.int .i64 x'.nd) (.slice x'.A x'.n x'.c) (.slice x'.SA x'.sn x'.sc) (.slice x'.B x'.m x'.d)) 3 _ rfl)) | skip))
     | fail)
   all_goals go_wp2_with fail
   all_goals go_meet
   all_goals (first
    | with_reducible exact ⟨_, _, x', a, acc, er, rfl, rfl, rfl, hK.p, doneT1 b2r hK.told⟩
    | with_reducible exact ⟨_, _, x', a, acc, er, rfl, rfl, rfl, hK.p, doneT2 b2r hK.told⟩
    | with_reducible exact ⟨_, _, x', a, acc, er, rfl, rfl, rfl, hK.p, doneT3 b2r hK.told hA lA (by assumption) _ _ _ _⟩
    | with_reducible exact ⟨_, _, x', a, acc, er, rfl, rfl, rfl, hK.p, doneT4 b2r hK.told hA lA (by assumption) hB lB (by assumption)⟩
    | with_reducible exact ⟨_, _, x', a, acc, er, rfl, rfl, rfl, hK.p, doneT5 b2r hK.told hB lB (by assumption)⟩
    | trace_state)
  case rest =>
   obtain ⟨gA, gB, x', a, acc, er, rfl, rfl, rfl, ⟨hac, her, han, hao, hxm⟩, hD⟩ := hcut
   obtain ⟨hDA, hDB, ⟨hOf, Bc, hgB, hTT⟩, hbc, -, -⟩ := hD
   have hIc := hI5.below hbc
   have hbcw := bel hb5 hbc
   have HER := Lib.hid her
   have HAN := Lib.hid han
   have HAC := Lib.hid hac
   have HTT := Lib.hid hTT
   have S0 := HMK.out _ hbc
   clear S0d z0 z0d z0s hR00 her han hac hTT hI5 HOK
   by_cases he : er = 0
   rotate_left
   ·have e1 : (er != 0) = true := by simp [bne, he]
    have e2 : decide (er = 0) = false := by simp [he]
    have hm0 : x'.m = 0 := by
     have h9 := (HTT.out wc (fun _ _ _ e => e)).2
     have h8 : R.1 = none := by rw [← HR.out]; exact K.ask_none (by rw [HR.out, ← HER.out]; exact he)
     rw [h8] at h9
     exact h9
    rw [hm0] at hDA
    have y2 := blk_cell hDA 3 _ rfl
    clear he S0
    go_wp2_with fail
    go_roundw
    case rel => (go_light; exact ⟨i + 1, xi, by go_num, hlt, hIc, hm4, hbcw⟩)
    case measure => (go_light; simp [intOf]; omega)
   subst he
   have hbk := K.ask_book (nd := xi.nd) (l := xi.l) (ss := xi.ss) (r := xi.r) (x := q) (by rw [HR.out]; exact HER.out.symm)
   rw [HR.out] at hbk
   have hacR : R.2.1.acc = acc := by rw [HAC.out]; exact (congrArg K.An.acc HAN.out).symm
   rw [hacR] at hbk
   obtain ⟨hbk1, hbk2⟩ := hbk
   rw [hbk1] at HTT
   have HCK := Lib.hid hbk2
   obtain ⟨j1, j2, j3, j4, j5, j6, j7⟩ := (HTT.out wc (fun _ _ _ e => e)).2
   have HJ1 := Lib.hid j1
   have HJ4 := Lib.hid j4
   have HJ2 := Lib.hid j2
   have HJ6 := Lib.hid j6
   have HJ7 := Lib.hid j7
   have HXR := Lib.hid (show xi.m = xi.r.length from hIc.reqs.1)
   clear hbk1 hbk2 hacR j1 j2 j3 j4 j5 j6 j7
   obtain ⟨W2, hW2⟩ : ∃ W2 : World, W2 = wc.alloc (.cells #[] 47) := ⟨_, rfl⟩
   have b2 : Below wc.heap.size wc W2 := by rw [hW2]; exact bel_alloc0 _ _
   have hown0 : W2.ownsRow wc.heap.size 47 7 (.slice (some ⟨wc.heap.size, 0, none⟩) 0 0) 0 [] := by rw [hW2]; exact own_lit (heap_alloc_new wc _) (Nat.le_refl _)
   have p3w : (wc.alloc (.cells #[] 47)).cell? ⟨g, 3, none⟩ = some (.slice xi.B xi.m xi.d) := by rw [← hW2]; exact blk_cell (hIc.below b2).blk 3 _ rfl
   have hRq : Rd W2 7 xi.B xi.m (xi.r.flatMap Q.cells) := by have h := (hIc.below b2).reqs.2.1; rw [reqCells_flat] at h; exact h
   have hone := flat_one Q.cells req_one xi.r
   obtain ⟨i0, hi0, hzz0, hzz1, hzz2⟩ := info_parts clone120_info
   go_upto_region 14 with (first
    | (at_builtin; rw [← hW2]; refine wp_append_rd rfl _ _ 26 rfl wc.heap.size 47 i0 (.agg #[.int .i64 0, .int .i64 0, .int .i64 0, .int .i64 0, .int .i64 0, .int .i64 0, .slice none 0 0]) 7 72 Tryz.underlying26 hi0 hzz0 hzz1 hzz2 rfl (by decide) _ 0 [] rfl hown0 xi.B xi.m xi.d _ rfl hRq hone (by simp only [maxLen]; omega) (by omega) b2.size ?_; intro v6 w6 hown6 hgr6 _)
    | fail)
   have b6 : Below wc.heap.size wc w6 := below_own2 b2 hgr6 (fun g e => by injection e with e; rw [← e]; exact Nat.le_refl _)
   rw [Nat.zero_add, List.nil_append] at hown6
   have hB6 := blk_below b6 hDB
   have hA6 := blk_below b6 hDA
   have hI6 := hIc.below b6
   have hbw6 := bel hbcw b6
   have hL6 := hL.below hbw6
   have u0 := blk_cell hB6 0 _ rfl
   clear hW2 hown0 hRq b2 hgr6 S0 p3w
   cases acc
   ·obtain ⟨AW, cW, rfl, hRdW, -⟩ := own_form hown6
    have hWr : Reqs w6 AW xi.m xi.r := ⟨HXR.out, by rw [reqCells_flat]; exact hRdW, hI6.reqs.2.2⟩
    have hSame : x'.r.map Q.bare = xi.r.map Q.bare := by have h9 := HJ7.out; simpa using h9
    obtain ⟨wv, hwv⟩ : ∃ wv : World, wv = w6 := ⟨_, rfl⟩
    rw [← hwv] at hWr hI6 hA6 b6 hbw6 u0 ⊢
    have hI7 := hI6
    have hA7 := hA6
    have b7 := b6
    have hbw7 := hbw6
    clear hwv hown6 hRdW hI6 hA6 b6 hbw6 hL6 hB6 HCK
    have q1 : ((x'.sn : Int) != (xi.sn : Int)) = false := by rw [HJ4.out]; simp
    have q2 : (x'.nd != xi.nd) = false := by rw [HJ1.out]; simp
    have q3 : decide ((x'.sn : Int) = (xi.sn : Int)) = true := by rw [HJ4.out]; simp
    have q4 : decide (x'.nd = xi.nd) = true := by rw [HJ1.out]; simp
    have y2 := blk_cell hA7 3 _ rfl
    have hcs7 := (HTT.out wv (Stays.below Bc b7)).2.2.2.2.2.1
    have CS := sameReqs41_yes x'.B AW x'.m xi.m x'.d cW x'.r xi.r wv hcs7.reqs hWr hSame (by omega) (fun p hp => hcs7.b5 p hp)
    clear hcs7 hWr hSame
    go_wp2_with fail
    refine CS.mono ?_
    rintro e w8 ⟨rfl, b8⟩
    have hI8 := hI7.below b8
    have hA8 := blk_below b8 hA7
    have b8r := bel b7 b8
    have hbw8 := bel hbw7 b8
    clear CS y2 hI7 hA7 b8
    have f0 := blk_free hI8.blk
    have g0 := blk_cell hI8.blk 0 _ rfl
    have g1 := blk_cell hI8.blk 1 _ rfl
    have g2 := blk_cell hI8.blk 2 _ rfl
    have g3 := blk_cell hI8.blk 3 _ rfl
    have y0 := blk_cell hA8 0 _ rfl
    have y1 := blk_cell hA8 1 _ rfl
    have y2 := blk_cell hA8 2 _ rfl
    have y3 := blk_cell hA8 3 _ rfl
    go_upto_region 21 with fail
    clear q1 q2 q3 q4 f0 g0 g1 g2 g3 y0 y1 y2 y3
    obtain ⟨w9, hw9⟩ : ∃ w9 : World, w9 = (((w8.setCell ⟨g, 0, none⟩ (.int .i64 x'.nd)).setCell ⟨g, 1, none⟩ (.slice x'.A x'.n x'.c)).setCell ⟨g, 2, none⟩ (.slice x'.SA x'.sn x'.sc)).setCell ⟨g, 3, none⟩ (.slice x'.B x'.m x'.d) := ⟨_, rfl⟩
    rw [← hw9]
    have hS9 : Stays Bc wc w9 := by rw [hw9]; exact St4.stays (Stays.below Bc b8r) (.inl hgB) _ _ _ _
    have hB9 : BkBlk w9 g x' := by rw [hw9]; exact St4.at_ hI8.blk _ _ _ _
    have hb9 : Below w.heap.size w w9 := by rw [hw9]; exact St4.below hbw8 (by rw [HG.out]; exact Nat.le_refl _) _ _ _ _
    have hI9 : BkIn g w9 x' := by
     have h9 := (HTT.out w9 hS9).2.2.2.2.2.1
     exact ⟨hB9, h9.net, h9.shifts, h9.reqs, hOf⟩
    have y3 := blk_cell hB9 3 _ rfl
    clear hw9 hS9 hB9
    by_cases h5 : x'.m ≤ 4
    ·have d1 : decide ((4 : Int) < (x'.m : Int)) = false := by simp; omega
     have d2 : decide (4 < x'.m) = false := by simp; omega
     go_wp2_with fail
     go_roundw
     case rel => (go_light; exact ⟨i + 1, x', by go_num, hlt, hI9, h5, hb9⟩)
     case measure => (go_light; simp [intOf]; omega)
    ·have d1 : decide ((4 : Int) < (x'.m : Int)) = true := by simp; omega
     have d2 : decide (4 < x'.m) = true := by simp; omega
     clear h5
     go_wp2_with fail
     go_ret
     exact ⟨rfl, hb9⟩
   ·obtain ⟨adl', q', hA', hq', -, c0, c1, c2, c3, c4, c5, c6⟩ := hL6.at_ hlt
    rw [HLA.out] at hA'
    injection hA' with hA'
    subst hA'
    obtain rfl : q' = q := by have h9 := HLq.out; rw [hq'] at h9; injection h9
    obtain ⟨g9, hg9⟩ : ∃ g9, g9 = w6.heap.size := ⟨_, rfl⟩
    obtain ⟨W3, hW3⟩ : ∃ W3 : World, W3 = w6.alloc (.cells #[.int .i64 q'.node, .int .i64 q'.room, .int .i64 q'.kilos, .int .i64 q'.service, .int .i64 q'.frm, .int .i64 q'.by_, .slice q'.A q'.n q'.c] 47) := ⟨_, rfl⟩
    have b3 : Below w6.heap.size w6 W3 := by rw [hW3]; exact bel_alloc0 _ _
    have hB5 : W3.heap[g9]? = some (.cells q'.cells.toArray 47 (0, 0)) := by rw [hW3, hg9]; exact heap_alloc_new _ _
    have hownL : W3.ownsRow wc.heap.size 47 7 v6 xi.r.length (xi.r.flatMap Q.cells) := by rw [← HXR.out]; exact own_below hown6 b3
    have hbs : wc.heap.size ≤ W3.heap.size := Nat.le_trans b6.size b3.size
    have hl6 : xi.r.length ≤ 1000000 := by rw [← HXR.out]; omega
    have b63 := bel b6 b3
    clear hown6
    go_upto_region 16 with (first
     | (at_builtin; rw [← hW3, ← hg9]; refine app_req rfl _ _ rfl wc.heap.size _ xi.r.length xi.r rfl hownL g9 q' rfl hB5 hl6 hbs ?_; intro v7 w7 hown7 hgr7 _)
     | fail)
    have b7 : Below wc.heap.size wc w7 := below_own2 b63 hgr7 (fun g e => (hownL.lt g e).1)
    have hA7 := blk_below b7 hDA
    have hB7 := blk_below b7 hDB
    obtain ⟨AW, cW, rfl, hRdW, -⟩ := own_form hown7
    have hT7 := HTT.out w7 (Stays.below Bc b7)
    have hcs7 := hT7.2.2.2.2.2.1
    have CC := checks32_any x' a.PA a.pn a.pc a.ts w7 hcs7 hT7.1.t hao.ft
    have hck : K.checks x'.nd x'.l x'.ss x'.r (a.ts.map TV.pr) = 0 := by
     rw [HJ1.out, HJ2.out, K.checks_same (r := xi.r ++ [q']) (ss := xi.ss) (by have h9 := HJ7.out; simpa using h9) HJ6.out, show a.ts.map TV.pr = R.2.1.tours from congrArg K.An.tours HAN.out]
     exact HCK.out rfl
    rw [hck] at CC
    have y0 := blk_cell hA7 0 _ rfl
    have y1 := blk_cell hA7 1 _ rfl
    have y2 := blk_cell hA7 2 _ rfl
    have y3 := blk_cell hA7 3 _ rfl
    have u1 := blk_cell hB7 1 _ rfl
    clear hck c0 c1 c2 c3 c4 c5 c6 hW3 hg9 hB5 hownL hgr7 u0 hB6 hA6 hI6 hL6 b3 b63 hcs7 hT7 hown7
    go_wp2_with fail
    refine CC.mono ?_
    rintro e wv ⟨rfl, bv⟩
    have hRdV := hRdW.below bv
    have hI7 := (hIc.below b7).below bv
    replace hA7 := blk_below bv hA7
    have hbw7 := bel (bel hbcw b7) bv
    replace b7 := bel b7 bv
    have hWr : Reqs wv AW (xi.r.length + 1) (xi.r ++ [q']) := reqs_snoc (by rw [List.flatMap_append, List.flatMap_singleton] at hRdV; exact hRdV) rfl hI7.reqs.2.2 ((hL.below hbw7).2.2 q' (List.mem_of_getElem? HLq.out))
    have hSame : x'.r.map Q.bare = (xi.r ++ [q']).map Q.bare := by have h9 := HJ7.out; simpa using h9
    clear CC y0 y1 y2 y3 u1 hB7 bv hRdV hRdW HCK b6 hbw6
    have q1 : ((x'.sn : Int) != (xi.sn : Int)) = false := by rw [HJ4.out]; simp
    have q2 : (x'.nd != xi.nd) = false := by rw [HJ1.out]; simp
    have q3 : decide ((x'.sn : Int) = (xi.sn : Int)) = true := by rw [HJ4.out]; simp
    have q4 : decide (x'.nd = xi.nd) = true := by rw [HJ1.out]; simp
    have y2 := blk_cell hA7 3 _ rfl
    have hcs7 := (HTT.out wv (Stays.below Bc b7)).2.2.2.2.2.1
    have CS := sameReqs41_yes x'.B AW x'.m (xi.r.length + 1) x'.d cW x'.r (xi.r ++ [q']) wv hcs7.reqs hWr hSame (by omega) (fun p hp => hcs7.b5 p hp)
    clear hcs7 hWr hSame
    go_wp2_with fail
    refine CS.mono ?_
    rintro e w8 ⟨rfl, b8⟩
    have hI8 := hI7.below b8
    have hA8 := blk_below b8 hA7
    have b8r := bel b7 b8
    have hbw8 := bel hbw7 b8
    clear CS y2 hI7 hA7 b8
    have f0 := blk_free hI8.blk
    have g0 := blk_cell hI8.blk 0 _ rfl
    have g1 := blk_cell hI8.blk 1 _ rfl
    have g2 := blk_cell hI8.blk 2 _ rfl
    have g3 := blk_cell hI8.blk 3 _ rfl
    have y0 := blk_cell hA8 0 _ rfl
    have y1 := blk_cell hA8 1 _ rfl
    have y2 := blk_cell hA8 2 _ rfl
    have y3 := blk_cell hA8 3 _ rfl
    go_upto_region 21 with fail
    clear q1 q2 q3 q4 f0 g0 g1 g2 g3 y0 y1 y2 y3
    obtain ⟨w9, hw9⟩ : ∃ w9 : World, w9 = (((w8.setCell ⟨g, 0, none⟩ (.int .i64 x'.nd)).setCell ⟨g, 1, none⟩ (.slice x'.A x'.n x'.c)).setCell ⟨g, 2, none⟩ (.slice x'.SA x'.sn x'.sc)).setCell ⟨g, 3, none⟩ (.slice x'.B x'.m x'.d) := ⟨_, rfl⟩
    rw [← hw9]
    have hS9 : Stays Bc wc w9 := by rw [hw9]; exact St4.stays (Stays.below Bc b8r) (.inl hgB) _ _ _ _
    have hB9 : BkBlk w9 g x' := by rw [hw9]; exact St4.at_ hI8.blk _ _ _ _
    have hb9 : Below w.heap.size w w9 := by rw [hw9]; exact St4.below hbw8 (by rw [HG.out]; exact Nat.le_refl _) _ _ _ _
    have hI9 : BkIn g w9 x' := by
     have h9 := (HTT.out w9 hS9).2.2.2.2.2.1
     exact ⟨hB9, h9.net, h9.shifts, h9.reqs, hOf⟩
    have y3 := blk_cell hB9 3 _ rfl
    clear hw9 hS9 hB9
    by_cases h5 : x'.m ≤ 4
    ·have d1 : decide ((4 : Int) < (x'.m : Int)) = false := by simp; omega
     have d2 : decide (4 < x'.m) = false := by simp; omega
     go_wp2_with fail
     go_roundw
     case rel => (go_light; exact ⟨i + 1, x', by go_num, hlt, hI9, h5, hb9⟩)
     case measure => (go_light; simp [intOf]; omega)
    ·have d1 : decide ((4 : Int) < (x'.m : Int)) = true := by simp; omega
     have d2 : decide (4 < x'.m) = true := by simp; omega
     clear h5
     go_wp2_with fail
     go_ret
     exact ⟨rfl, hb9⟩
end Go.Proofs.YtippdjmpkafifaaGreat
