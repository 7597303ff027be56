import Derived.Test.YtippdjmpkafifaaGreatAT1
import Derived.Below
import Derived.Laws.OwnMore
import Derived.Deep.AppendLies
import Derived.Deep.Draws
import Derived.Lib.Hide
import Derived.WalkKit
import Derived.WalkSpells
import Derived.WalkLawsBesides
import Derived.Maps.AppendAt
import Derived.BigQuiet
import Derived.Deep.QuietTactic
import Derived.StillTailTactics
import Derived.BigRegion
import Derived.RegionTactic
import Derived.Deep.DeepCutAuto
import Derived.Deep.OwnRows
import Derived.Maps.OwnSet
import Derived.Lib.LazyBuf
import Derived.Deep.RegionLaw
import Derived.Deep.LoopGhost
import Derived.Deep.RegionHeld3
import Derived.Laws.ResultCell
import Derived.DeepKeys5
import Derived.Laws.CopyOwn
import Derived.Deep.Light
import Derived.Deep.RegionLawGrows
import Derived.Deep.RegionWith
import Derived.Deep.Slices
import Derived.Deep.Fields
import Derived.ChangeSame
import Derived.ProofKit
import Derived.OpenShut
namespace Go.Proofs.YtippdjmpkafifaaGreat
open Go.RowKit
theorem Rd.set {w : World} {size n : Nat} {A : Option Addr} {xs : List Value} (h : Rd w size A n xs) {g i : Nat} (u : Value) (hA : ∀ ad, A = some ad → ad.block ≠ g) : Rd (w.setCell ⟨g, i, none⟩ u) size A n xs :=
 ⟨h.1, fun h0 => by
  obtain ⟨ad, e, hc⟩ := h.2 h0
  exact ⟨ad, e, fun j y hy => (World.cell?_of_block (Below.heap_setCell w ⟨g, i, none⟩ u _ (by rw [add_block]; exact hA ad e))).trans (hc j y hy)⟩⟩
end Go.Proofs.YtippdjmpkafifaaGreat
namespace Go.Proofs.YtippdjmpkafifaaGreat
open Go.RowKit
theorem own_lit {w : World} {base g : Nat} {e : TypeId} {size : Nat} (h : w.heap[g]? = some (.cells #[] e (0, 0))) (hb : base ≤ g) : w.ownsRow base e size (.slice (some ⟨g, 0, none⟩) 0 0) 0 [] :=
 ⟨by simp, .inr ⟨g, 0, #[], rfl, hb, h, Nat.le_refl _, by simp [maxLen], by simp, by simp⟩⟩
end Go.Proofs.YtippdjmpkafifaaGreat
namespace Go.Proofs.YtippdjmpkafifaaGreat
open Go.RowKit
namespace K
theorem emb_id (r : List Q) : Emb r r id := ⟨fun _ _ => rfl, fun _ _ h _ => h⟩
section
variable {nd : Int} {l : List Ro} {ss ss' : List S} {r r' : List Q}
theorem pcheck_mem (h : ∀ s, s ∈ ss' ↔ s ∈ ss) (hl : ss'.length = ss.length) : pcheck nd l ss' r = pcheck nd l ss r := by
 have e : ss'.any (badS nd) = ss.any (badS nd) := by
  rw [Bool.eq_iff_iff, List.any_eq_true, List.any_eq_true]
  exact ⟨fun ⟨s, h1, h2⟩ => ⟨s, (h s).1 h1, h2⟩, fun ⟨s, h1, h2⟩ => ⟨s, (h s).2 h1, h2⟩⟩
 unfold pcheck
 rw [e, hl]
theorem more_mem (s : S) (ss : List S) : ∀ x, x ∈ ss ++ [s] ↔ x ∈ s :: ss := fun x => by
 rw [List.mem_append, List.mem_singleton, List.mem_cons]
 exact Or.comm
theorem more_len (s : S) (ss : List S) : (ss ++ [s]).length = (s :: ss).length := by rw [List.length_append]; rfl
theorem more_law (s : S) (hl : ss.length ≤ 2) (hc : T.check s = 0) (hd : s.depot < nd) : (plan nd l (s :: ss) r).2 = (plan nd l (ss ++ [s]) r).2 ∧ ((plan nd l ss r).2 = 0 → (plan nd l (s :: ss) r).2 = 0) := by
 have he := pcheck_mem (nd := nd) (l := l) (r := r) (more_mem s ss) (more_len s ss)
 have hfront : ∀ i, i < ss.length → (s :: ss)[i + 1]? = (ss ++ [s])[i]? := fun i hi => by
  rw [List.getElem?_cons_succ, List.getElem?_append_left hi]
 have hlast : (ss ++ [s])[ss.length]? = some s := by rw [List.getElem?_append_right (Nat.le_refl _), Nat.sub_self]; rfl
 refine ⟨?_, fun h => ?_⟩
 ·by_cases h1 : pcheck nd l (s :: ss) r = 0
  ·have h2 : pcheck nd l (ss ++ [s]) r = 0 := by rw [he]; exact h1
   have a : (plan nd l (s :: ss) r).2 = 0 → (plan nd l (ss ++ [s]) r).2 = 0 := fun h => by
    obtain ⟨-, d, h3, -⟩ := plan_0 h
    obtain ⟨-, hd2, -⟩ := first_some h3
    refine plan_embed (θ := fun i => if i = 0 then ss.length else i - 1) h1 h2 (emb_id r) h3 (fun i hi => ?_) (fun i hi j hj e => ?_)
    ·have hb := hd2 i hi
     rw [List.length_cons] at hb
     by_cases e : i = 0
     ·rw [if_pos e, e, hlast]; rfl
     ·rw [if_neg e, ← hfront (i - 1) (by omega), show i - 1 + 1 = i by omega]
    ·have hb := hd2 i hi
     have hb2 := hd2 j hj
     rw [List.length_cons] at hb hb2
     by_cases e1 : i = 0 <;> by_cases e2 : j = 0 <;> simp only [e1, e2, if_true, if_false] at e <;> omega
   have b : (plan nd l (ss ++ [s]) r).2 = 0 → (plan nd l (s :: ss) r).2 = 0 := fun h => by
    obtain ⟨-, d, h3, -⟩ := plan_0 h
    obtain ⟨-, hd2, -⟩ := first_some h3
    refine plan_embed (θ := fun i => if i = ss.length then 0 else i + 1) h2 h1 (emb_id r) h3 (fun i hi => ?_) (fun i hi j hj e => ?_)
    ·have hb := hd2 i hi
     rw [more_len, List.length_cons] at hb
     by_cases e : i = ss.length
     ·rw [if_pos e, e, hlast]; rfl
     ·rw [if_neg e, ← hfront i (by omega)]
    ·have hb := hd2 i hi
     have hb2 := hd2 j hj
     rw [more_len, List.length_cons] at hb hb2
     by_cases e1 : i = ss.length <;> by_cases e2 : j = ss.length <;> simp only [e1, e2, if_true, if_false] at e <;> omega
   rcases plan_42 h1 with g1 | g1 <;> rcases plan_42 h2 with g2 | g2
   ·omega
   ·have := a g1; omega
   ·have := b g2; omega
   ·omega
  ·rw [plan_err h1, plan_err (by rw [he]; exact h1), he]
 ·obtain ⟨h1, d, h3, -⟩ := plan_0 h
  obtain ⟨g1, g2, g3, g4, g5⟩ := pcheck_ok h1
  have h2 : pcheck nd l (s :: ss) r = 0 := pcheck_of g1 (by rw [List.length_cons]; omega) (fun x hx => by
   rcases List.mem_cons.1 hx with rfl | hx
   ·exact ⟨hc, hd⟩
   ·exact g3 x hx) g4 g5
  exact plan_embed (θ := fun i => i + 1) h1 h2 (emb_id r) h3 (fun i _ => List.getElem?_cons_succ) (fun i _ j _ e => by omega)
end
end K
end Go.Proofs.YtippdjmpkafifaaGreat
namespace Go.Proofs.YtippdjmpkafifaaGreat
open Go.ChangeShapes Go.WideShapes Go.Deep Go.RowKit
section
variable {H : Type} {enc : TypeId × Value → H} {P : Program} {w : World} {base : Nat} {spare : Nat → Bool} {held : Bool}
set_option maxRecDepth 100000 in
theorem open_slice_fields {t e : TypeId} {fs : Array Field} {fuel : Nat} {cs : List Value} {x : DataW H × List MemPlace} (ht : P.underlying t = some (.slice e)) (he : P.underlying e = some (.struct fs))
  (hone : oneCellFields P fs = true) (hC : P.cellsOf e = fs.size) (h : DataW.trod enc P w base spare held fuel t cs = some x) :
  (cs = [.slice none 0 0] ∧ x = (.nil, [])) ∨
  ∃ (a : Addr) (len cap m : Nat) (D : Nat → DataW H) (Pl : Nat → List MemPlace), cs = [.slice (some a) len cap] ∧ base ≤ a.block ∧ len ≤ cap ∧ cap ≤ maxLen ∧ m = (if spare a.block then cap else len) ∧
   x = (.slice ((List.range len).map D) ((List.range (m - len)).map fun j => D (len + j)), MemPlace.row a (m * fs.size) ++ (List.range m).flatMap Pl) ∧
   ∀ i, i < m → ∃ (ys : List (DataW H × List MemPlace)) (n : Nat), D i = .agg (ys.map (·.1)) ∧ Pl i = ys.flatMap (·.2) ∧ ys.length = fs.size ∧
    ∀ (j : Nat) (f : Field), fs[j]? = some f → ∃ (v : Value) (y : DataW H × List MemPlace), w.cell? (a.add (i * fs.size + j)) = some v ∧ ys[j]? = some y ∧ DataW.trod enc P w base spare held n f.type [v] = some y := by
 rcases open_slice ht h with h0 | ⟨a, len, cap, m, n, D, Pl, hcs, hb, hl, hm, hmm, hx, hi⟩
 ·exact .inl h0
 ·refine .inr ⟨a, len, cap, m, D, Pl, hcs, hb, hl, hm, hmm, by rw [hC] at hx; exact hx, fun i him => ?_⟩
  obtain ⟨cs', hc, ht'⟩ := hi i him
  rw [hC] at hc
  obtain ⟨ys, n', hn', hy, hlen, hyl, hf⟩ := DataW.trod_struct he ht'
  obtain ⟨_, hcl, hat⟩ := World.cells?_some hc
  simp only [Prod.mk.injEq] at hy
  refine ⟨ys, n', hy.1, hy.2, hyl, fun j f hj => ?_⟩
  obtain ⟨ho, hk⟩ := hone_of hone j f hj
  have hjl : j < fs.size := (Array.getElem?_eq_some_iff.1 hj).1
  have hcell := hat j hjl
  have hv : cs'[j]? = some (cs'[j]'(by omega)) := List.getElem?_eq_getElem (by omega)
  have h1 := hf j f hj
  rw [ho, hk] at h1
  have hone' : (cs'.drop j).take 1 = [cs'[j]'(by omega)] := by
   rw [List.drop_eq_getElem_cons (by omega)]
   rfl
  rw [hone'] at h1
  have hys : ys[j]? = some (ys[j]'(by omega)) := List.getElem?_eq_getElem (by omega)
  refine ⟨_, _, ?_, hys, h1.trans hys⟩
  rw [← Go.Deep.add_add, hcell, hv]
end
section
variable {H : Type} {enc : TypeId × Value → H} {P : Program}
theorem post_of_below {f : Func} {s : ChangeSpec} {apart fresh handsOn again : Bool} {W W' : World} {args : Array Value} {v : Value} {ds gs : List (DataW H)} {before pa pv : List MemPlace}
  (hW : DataW.Whole enc P f.params.toList s.vars apart W args.toList ds gs before)
  (hres : ∀ (b : Nat) (sp : Nat → Bool) (hd : Bool), DataW.TrodAll enc P W' b sp hd f.resultTypes.toList (v.resultList f.resultTypes.size) (s.fn H (ds ++ gs)).results [])
  (hargs : ∀ sp : Nat → Bool, (∀ p ∈ before, sp p.block = true) → DataW.TrodAll enc P W' 0 sp true f.params.toList args.toList (s.fn H (ds ++ gs)).args pa)
  (hvars : ∀ sp : Nat → Bool, (∀ p ∈ before, sp p.block = true) → DataW.TrodVars enc P W' sp s.vars (s.fn H (ds ++ gs)).vars pv)
  (hps : before = pa ++ pv) (hb : Below W.heap.size W W')
  (hok : ∀ (j : Nat) (t : TypeId) (r : Value), f.resultTypes[j]? = some t → (v.resultList f.resultTypes.size)[j]? = some r → Value.okWide P W' .any 0 t r) :
  s.post enc P f apart fresh handsOn again W args v W' := by
 have hlt : ∀ p ∈ before, p.block < W.heap.size := fun p hp => hW.lt p hp
 have hold : ∀ p ∈ before, (fun b => decide (b < W.heap.size)) p.block = true := fun p hp => by simpa using hlt p hp
 refine ⟨ds, gs, before, [], pa, pv, hW, hres _ _ _, hargs _ hold, hvars _ hold, World.keptBut_mono (fun p hp => ⟨hp, ?_⟩) (hb.frame (· ∈ before)), fun _ => ?_⟩
 ·rw [hps, List.mem_append] at hp
  exact Or.inr hp
 ·obtain ⟨_, _, _, _, _, hz, hn⟩ := hW
  refine ⟨hok, _, _, ([] ++ pa) ++ pv, ⟨[] ++ pa, pv, trodAll_append (hargs _ (fun _ _ => rfl)) (hres _ _ _), hvars _ (fun _ _ => rfl), rfl, ?_, ?_⟩, ?_⟩
  ·intro b off hp
   have hin : MemPlace.cell b off ∈ before := by rw [hps]; simpa using hp
   rw [hb.frozen (hlt _ hin)]
   exact hz b off hin
  ·intro ha
   have := hn ha
   rw [hps] at this
   simpa using this
  ·intro p hp _
   rw [hps]
   simpa using hp
end
theorem list_of {α : Type} {n : Nat} {Q : Nat → α → Prop} (h : ∀ i, i < n → ∃ x, Q i x) : ∃ l : List α, l.length = n ∧ ∀ i x, l[i]? = some x → Q i x := by
 induction n with
 | zero => exact ⟨[], rfl, fun i x hx => by simp at hx⟩
 | succ n ih =>
  obtain ⟨l, hl, hq⟩ := ih (fun i hi => h i (by omega))
  obtain ⟨x, hx⟩ := h n (by omega)
  refine ⟨l ++ [x], by simp [hl], fun i y hy => ?_⟩
  rw [List.getElem?_append] at hy
  split at hy
  ·exact hq i y hy
  ·rename_i hlt
   have e : i = n := by
    by_cases e : i - l.length = 0
    ·omega
    ·rw [List.getElem?_eq_none (by simp; omega)] at hy; cases hy
   subst e
   rw [← hl, Nat.sub_self] at hy
   simp at hy
   subst hy; exact hx
theorem winCells_cell {w : World} {ad : Addr} {l : List (Int × Int)} (h : ∀ i p, l[i]? = some p → w.cell? (ad.add (i * 2)) = some (.int .i64 p.1) ∧ w.cell? (ad.add (i * 2 + 1)) = some (.int .i64 p.2)) :
  ∀ j u, (winCells l)[j]? = some u → w.cell? (ad.add j) = some u := by
 intro j u hu
 have hj : j < (winCells l).length := (List.getElem?_eq_some_iff.1 hu).1
 rw [winCells_len] at hj
 have hp : l[j / 2]? = some (l[j / 2]'(by omega)) := List.getElem?_eq_getElem (by omega)
 obtain ⟨g1, g2⟩ := winCells_get l _ _ hp
 obtain ⟨k1, k2⟩ := h _ _ hp
 by_cases e : j % 2 = 0
 ·have : j = j / 2 * 2 := by omega
  rw [this] at hu ⊢
  rw [g1] at hu
  injection hu with hu
  rw [← hu]; exact k1
 ·have : j = j / 2 * 2 + 1 := by omega
  rw [this] at hu ⊢
  rw [g2] at hu
  injection hu with hu
  rw [← hu]; exact k2
section
variable {H : Type} {enc : TypeId × Value → H} {W : World} {base b0 : Nat} {spare : Nat → Bool} {held : Bool} {r : Reach}
end
section
variable {H : Type} {enc : TypeId × Value → H} {P : Program}
theorem trodAll_stays (hl : laidOutB P = true) {W W' : World} {sp : Nat → Bool} (hb : Below W.heap.size W W') :
  ∀ (ts : List TypeId) (vs : List Value) (ds : List (DataW H)) (ps : List MemPlace), (∀ t ∈ ts, P.readableRec t = true ∧ t < P.types.size) → DataW.TrodAll enc P W 0 (fun _ => true) true ts vs ds ps →
   (∀ x ∈ ps, x.block < W.heap.size) → (∀ x ∈ ps, sp x.block = true) → DataW.TrodAll enc P W' 0 sp true ts vs ds ps := by
 intro ts
 induction ts with
 | nil => intro vs ds ps _ h _ _; cases vs <;> cases ds <;> first | exact h | exact h.elim
 | cons t ts ih =>
  intro vs ds ps hts h hlt hsp
  match vs, ds, h with
  | v :: vs, d :: ds, ⟨p, q, h1, h2, e⟩ =>
   subst e
   have ht := hts t (List.mem_cons_self ..)
   exact ⟨p, q, WideElems.Trod_stays hl ht.1 ht.2 h1 (fun x hx => hb.same (hlt x (List.mem_append_left _ hx))) (fun x hx => hsp x (List.mem_append_left _ hx)),
    ih vs ds q (fun t' h' => hts t' (List.mem_cons_of_mem _ h')) h2 (fun x hx => hlt x (List.mem_append_right _ hx)) (fun x hx => hsp x (List.mem_append_right _ hx)), rfl⟩
end
set_option maxRecDepth 100000 in
theorem Tryz.laid : laidOutB Tryz.prog = true := by kernel_rfl
section
variable {H : Type} {enc : TypeId × Value → H}
set_option maxRecDepth 100000 in
theorem post_true {f : Func} {s : ChangeSpec} {W W' : World} {args : Array Value} {ds : List (DataW H)} {before : List MemPlace} (hts : ∀ t ∈ f.params.toList, Tryz.prog.readableRec t = true ∧ t < Tryz.prog.types.size)
  (hv : s.vars = []) (hres : f.resultTypes = #[4]) (hW : DataW.Whole enc Tryz.prog f.params.toList s.vars false W args.toList ds [] before)
  (hspec : s.fn H (ds ++ []) = { results := [.lit (.bool true)], args := ds }) (hb : Below W.heap.size W W') : s.post enc Tryz.prog f false true false false W args (.bool true) W' := by
 have hW' := hW
 obtain ⟨p, q, hA, hV, rfl, hfz, hnd⟩ := hW
 rw [hv] at hV
 obtain ⟨_, rfl⟩ := trodVars_none hV
 have hlt : ∀ x ∈ p ++ [], x.block < W.heap.size := fun x hx => hW'.lt x hx
 rw [List.append_nil] at hlt
 refine post_of_below (pa := p) (pv := []) hW' ?_ ?_ ?_ rfl hb ?_
 ·intro b sp hd
  rw [hspec, hres]
  exact trodAll_cons_mk (shut_bool Tryz.underlying4 _) trodAll_mk0
 ·intro sp hsp
  rw [hspec]
  exact trodAll_stays Tryz.laid hb _ _ _ _ hts hA hlt (fun x hx => hsp x (by simpa using hx))
 ·intro sp _
  rw [hspec, hv]
  rfl
 ·exact ok_one hres rfl (okWide_bool_mk Tryz.underlying4 _)
end
end Go.Proofs.YtippdjmpkafifaaGreat
namespace Go.Proofs.YtippdjmpkafifaaGreat
open Go.ChangeShapes Go.WideShapes Go.Deep Go.RowKit
section
variable {H : Type} {enc : TypeId × Value → H} {W : World} {base b0 : Nat} {spare : Nat → Bool} {held : Bool} {r : Reach}
set_option maxRecDepth 100000 in
theorem wins_of_trod {fuel : Nat} {v : Value} {x : DataW H × List MemPlace} (hf : DataW.trod enc Tryz.prog W b0 spare held fuel 45 [v] = some x) : ∃ A n c l, v = .slice A n c ∧ Wins W A n l := by
 rcases open_slice_fields Tryz.underlying45 Tryz.underlying158 (by kernel_rfl) (by kernel_rfl) hf with ⟨hcs, _⟩ | ⟨a, len, cap, m, D, Pl, hcs, _, hlc, _, hm, _, hcell⟩
 ·simp at hcs
  subst hcs
  exact ⟨none, 0, 0, [], rfl, rfl, rfl, fun h0 => absurd h0 (by omega)⟩
 ·simp at hcs
  subst hcs
  have hlm : len ≤ m := by rw [hm]; split <;> omega
  have key : ∀ i, i < len → ∃ p : Int × Int, W.cell? (a.add (i * 2)) = some (.int .i64 p.1) ∧ W.cell? (a.add (i * 2 + 1)) = some (.int .i64 p.2) := by
   intro i hi
   obtain ⟨ys, n, _, _, _, hfld⟩ := hcell i (by omega)
   obtain ⟨v0, y0, c0, _, t0⟩ := hfld 0 _ rfl
   obtain ⟨v1, y1, c1, _, t1⟩ := hfld 1 _ rfl
   obtain ⟨n0, e0, _⟩ := DataW.trod_int Tryz.underlying3 t0
   obtain ⟨n1, e1, _⟩ := DataW.trod_int Tryz.underlying3 t1
   simp at e0 e1
   subst e0 e1
   exact ⟨(n0, n1), c0, c1⟩
  obtain ⟨l, hl, hq⟩ := list_of key
  exact ⟨_, _, _, l, rfl, hl.symm, by rw [winCells_len, hl], fun _ => ⟨a, rfl, winCells_cell hq⟩⟩
set_option maxRecDepth 100000 in
theorem ints_of_trod {fuel : Nat} {v : Value} {x : DataW H × List MemPlace} (hf : DataW.trod enc Tryz.prog W b0 spare held fuel 48 [v] = some x) : ∃ A n c l, v = .slice A n c ∧ Ints W A n l := by
 rcases open_slice Tryz.underlying48 hf with ⟨hcs, _⟩ | ⟨a, len, cap, m, n, D, Pl, hcs, _, hlc, _, hm, _, hcell⟩
 ·simp at hcs
  subst hcs
  exact ⟨none, 0, 0, [], rfl, rfl, rfl, fun h0 => absurd h0 (by omega)⟩
 ·simp at hcs
  subst hcs
  have hC : Tryz.prog.cellsOf 3 = 1 := by kernel_rfl
  have hlm : len ≤ m := by rw [hm]; split <;> omega
  have key : ∀ i, i < len → ∃ p : Int, W.cell? (a.add i) = some (.int .i64 p) := by
   intro i hi
   obtain ⟨cs', hc, ht'⟩ := hcell i (by omega)
   rw [hC, Nat.mul_one] at hc
   obtain ⟨_, _, hat⟩ := World.cells?_some hc
   obtain ⟨n0, e0, _⟩ := DataW.trod_int Tryz.underlying3 ht'
   subst e0
   have h0 := hat 0 (by omega)
   rw [Go.Deep.add_add, Nat.add_zero] at h0
   exact ⟨n0, h0⟩
  obtain ⟨l, hl, hq⟩ := list_of key
  refine ⟨_, _, _, l, rfl, hl.symm, by simp [intCells, hl], fun _ => ⟨a, rfl, ?_⟩⟩
  intro j u hu
  rw [intCells, List.getElem?_map] at hu
  obtain ⟨y, hy, rfl⟩ := Option.map_eq_some_iff.1 hu
  exact hq j y hy
theorem reqCells_cell {w : World} {ad : Addr} {l : List Q} (h : ∀ i q, l[i]? = some q → ∀ j u, q.cells[j]? = some u → w.cell? (ad.add (i * 7 + j)) = some u) :
  ∀ j u, (reqCells l)[j]? = some u → w.cell? (ad.add j) = some u := by
 intro j u hu
 have hj : j < (reqCells l).length := (List.getElem?_eq_some_iff.1 hu).1
 rw [reqCells_len] at hj
 have hp : l[j / 7]? = some (l[j / 7]'(by omega)) := List.getElem?_eq_getElem (by omega)
 have hjj : j = j / 7 * 7 + j % 7 := by omega
 have g := reqCells_get l _ _ hp (j % 7) (by omega)
 rw [← hjj, hu] at g
 have := h _ _ hp (j % 7) u g.symm
 rwa [← hjj] at this
set_option maxRecDepth 100000 in
theorem reqs_of_trod {fuel : Nat} {v : Value} {x : DataW H × List MemPlace} (hf : DataW.trod enc Tryz.prog W b0 spare held fuel 26 [v] = some x) : ∃ A n c l, v = .slice A n c ∧ Reqs W A n l := by
 rcases open_slice_fields Tryz.underlying26 Tryz.underlying47 (by kernel_rfl) (by kernel_rfl) hf with ⟨hcs, _⟩ | ⟨a, len, cap, m, D, Pl, hcs, _, hlc, _, hm, _, hcell⟩
 ·simp at hcs
  subst hcs
  exact ⟨none, 0, 0, [], rfl, rfl, ⟨rfl, fun h0 => absurd h0 (by omega)⟩, fun q hq => by simp at hq⟩
 ·simp at hcs
  subst hcs
  have hlm : len ≤ m := by rw [hm]; split <;> omega
  have key : ∀ i, i < len → ∃ q : Q, Wins W q.A q.n q.l ∧ ∀ j u, q.cells[j]? = some u → W.cell? (a.add (i * 7 + j)) = some u := by
   intro i hi
   obtain ⟨ys, n, _, _, _, hfld⟩ := hcell i (by omega)
   obtain ⟨v0, y0, c0, _, t0⟩ := hfld 0 _ rfl
   obtain ⟨v1, y1, c1, _, t1⟩ := hfld 1 _ rfl
   obtain ⟨v2, y2, c2, _, t2⟩ := hfld 2 _ rfl
   obtain ⟨v3, y3, c3, _, t3⟩ := hfld 3 _ rfl
   obtain ⟨v4, y4, c4, _, t4⟩ := hfld 4 _ rfl
   obtain ⟨v5, y5, c5, _, t5⟩ := hfld 5 _ rfl
   obtain ⟨v6, y6, c6, _, t6⟩ := hfld 6 _ rfl
   obtain ⟨n0, e0, _⟩ := DataW.trod_int Tryz.underlying3 t0
   obtain ⟨n1, e1, _⟩ := DataW.trod_int Tryz.underlying3 t1
   obtain ⟨n2, e2, _⟩ := DataW.trod_int Tryz.underlying3 t2
   obtain ⟨n3, e3, _⟩ := DataW.trod_int Tryz.underlying3 t3
   obtain ⟨n4, e4, _⟩ := DataW.trod_int Tryz.underlying3 t4
   obtain ⟨n5, e5, _⟩ := DataW.trod_int Tryz.underlying3 t5
   obtain ⟨A, nn, cc, l, rfl, hw⟩ := wins_of_trod t6
   simp at e0 e1 e2 e3 e4 e5
   subst e0 e1 e2 e3 e4 e5
   refine ⟨⟨n0, n1, n2, n3, n4, n5, A, nn, cc, l⟩, hw, ?_⟩
   intro j u hu
   rcases j with _ | _ | _ | _ | _ | _ | _ | j <;> simp [Q.cells] at hu <;> subst hu <;> assumption
  obtain ⟨l, hl, hq⟩ := list_of key
  refine ⟨_, _, _, l, rfl, hl.symm, ⟨by rw [reqCells_len, hl], fun _ => ⟨a, rfl, reqCells_cell fun i q hi => (hq i q hi).2⟩⟩, ?_⟩
  intro q hq'
  obtain ⟨i, hi⟩ := List.mem_iff_getElem?.1 hq'
  exact (hq i q hi).1
set_option maxRecDepth 100000 in
theorem open_shift {v : Value} {d : DataW H} {ps : List MemPlace} (hval : Value.okWide Tryz.prog W r base 63 v) (h : DataW.Trod enc Tryz.prog W b0 spare held 63 v d ps) : ∃ s : S, v = .agg #[.int .i64 s.day, .int .i64 s.depot, .int .i64 s.start, .int .i64 s.end_, .int .i64 s.tare, .slice s.A s.n s.c] ∧ Ints W s.A s.n s.l := by
 obtain ⟨cs, rfl, hsz⟩ := okWide_struct Tryz.underlying63 hval
 obtain ⟨fuel, hf⟩ := h
 obtain ⟨ys, n', _, _, hlen, hyl, hfl⟩ := DataW.trod_struct Tryz.underlying63 hf
 rw [show Tryz.prog.cellsOf 63 = 6 by kernel_rfl] at hsz
 obtain ⟨v0, v1, v2, v3, v4, v5, rfl⟩ : ∃ v0 v1 v2 v3 v4 v5, cs = #[v0, v1, v2, v3, v4, v5] := by
  obtain ⟨l⟩ := cs
  rcases l with _ | ⟨v0, _ | ⟨v1, _ | ⟨v2, _ | ⟨v3, _ | ⟨v4, _ | ⟨v5, _ | ⟨v6, l⟩⟩⟩⟩⟩⟩⟩ <;> simp at hsz
  exact ⟨_, _, _, _, _, _, rfl⟩
 have C3 : Tryz.prog.cellsOf 3 = 1 := by kernel_rfl
 have C22 : Tryz.prog.cellsOf 48 = 1 := by kernel_rfl
 have get : ∀ i, i < ys.length → ∃ y, ys[i]? = some y := fun i hi => ⟨_, List.getElem?_eq_getElem hi⟩
 have h6 : ys.length = 6 := hyl
 have t0 := hfl 0 _ rfl
 have t1 := hfl 1 _ rfl
 have t2 := hfl 2 _ rfl
 have t3 := hfl 3 _ rfl
 have t4 := hfl 4 _ rfl
 have t5 := hfl 5 _ rfl
 obtain ⟨y0, g0⟩ := get 0 (by omega)
 obtain ⟨y1, g1⟩ := get 1 (by omega)
 obtain ⟨y2, g2⟩ := get 2 (by omega)
 obtain ⟨y3, g3⟩ := get 3 (by omega)
 obtain ⟨y4, g4⟩ := get 4 (by omega)
 obtain ⟨y5, g5⟩ := get 5 (by omega)
 rw [g0] at t0
 rw [g1] at t1
 rw [g2] at t2
 rw [g3] at t3
 rw [g4] at t4
 rw [g5] at t5
 simp [C3, C22, Value.cells] at t0 t1 t2 t3 t4 t5
 obtain ⟨n0, e0, _⟩ := DataW.trod_int Tryz.underlying3 t0
 obtain ⟨n1, e1, _⟩ := DataW.trod_int Tryz.underlying3 t1
 obtain ⟨n2, e2, _⟩ := DataW.trod_int Tryz.underlying3 t2
 obtain ⟨n3, e3, _⟩ := DataW.trod_int Tryz.underlying3 t3
 obtain ⟨n4, e4, _⟩ := DataW.trod_int Tryz.underlying3 t4
 obtain ⟨A, n, c, l, e5, hI⟩ := ints_of_trod t5
 simp at e0 e1 e2 e3 e4 e5
 subst e0 e1 e2 e3 e4 e5
 exact ⟨⟨n0, n1, n2, n3, n4, A, n, c, l⟩, rfl, hI⟩
end
end Go.Proofs.YtippdjmpkafifaaGreat
namespace Go.Proofs.YtippdjmpkafifaaGreat
open Go.ChangeShapes Go.WideShapes Go.Deep Go.RowKit
section
variable {H : Type} {enc : TypeId × Value → H} {W : World} {base b0 : Nat} {spare : Nat → Bool} {held : Bool} {r : Reach}
set_option maxRecDepth 100000 in
theorem cints_of_trod {fuel : Nat} {v : Value} {x : DataW H × List MemPlace} (hf : DataW.trod enc Tryz.prog W b0 spare held fuel 48 [v] = some x) : ∃ A n c l, v = .slice A n c ∧ Ints W A n l ∧ n ≤ c := by
 rcases open_slice Tryz.underlying48 hf with ⟨hcs, _⟩ | ⟨a, len, cap, m, n, D, Pl, hcs, _, hlc, _, hm, _, hcell⟩
 ·simp at hcs
  subst hcs
  exact ⟨none, 0, 0, [], rfl, ⟨rfl, rfl, fun h0 => absurd h0 (by omega)⟩, Nat.le_refl _⟩
 ·simp at hcs
  subst hcs
  have hC : Tryz.prog.cellsOf 3 = 1 := by kernel_rfl
  have hlm : len ≤ m := by rw [hm]; split <;> omega
  have key : ∀ i, i < len → ∃ p : Int, W.cell? (a.add i) = some (.int .i64 p) := by
   intro i hi
   obtain ⟨cs', hc, ht'⟩ := hcell i (by omega)
   rw [hC, Nat.mul_one] at hc
   obtain ⟨_, _, hat⟩ := World.cells?_some hc
   obtain ⟨n0, e0, _⟩ := DataW.trod_int Tryz.underlying3 ht'
   subst e0
   have h0 := hat 0 (by omega)
   rw [Go.Deep.add_add, Nat.add_zero] at h0
   exact ⟨n0, h0⟩
  obtain ⟨l, hl, hq⟩ := list_of key
  refine ⟨_, _, _, l, rfl, ⟨hl.symm, by simp [intCells, hl], fun _ => ⟨a, rfl, ?_⟩⟩, hlc⟩
  intro j u hu
  rw [intCells, List.getElem?_map] at hu
  obtain ⟨y, hy, rfl⟩ := Option.map_eq_some_iff.1 hu
  exact hq j y hy
theorem roads_cell {w : World} {ad : Addr} {l : List Ro} (h : ∀ i q, l[i]? = some q → ∀ j u, (roadCells q)[j]? = some u → w.cell? (ad.add (i * 4 + j)) = some u) :
  ∀ j u, (l.flatMap roadCells)[j]? = some u → w.cell? (ad.add j) = some u := by
 intro j u hu
 have hj : j < (l.flatMap roadCells).length := (List.getElem?_eq_some_iff.1 hu).1
 rw [flat_len roadCells 4 (fun _ => rfl)] at hj
 have hp : l[j / 4]? = some (l[j / 4]'(by omega)) := List.getElem?_eq_getElem (by omega)
 have hjj : j = j / 4 * 4 + j % 4 := by omega
 have g := flat_get roadCells 4 (fun _ => rfl) l _ _ hp (j % 4) (by omega)
 rw [← hjj, hu] at g
 have := h _ _ hp (j % 4) u g.symm
 rwa [← hjj] at this
set_option maxRecDepth 100000 in
theorem roads_of_trod {fuel : Nat} {v : Value} {x : DataW H × List MemPlace} (hf : DataW.trod enc Tryz.prog W b0 spare held fuel 22 [v] = some x) : ∃ A n c l, v = .slice A n c ∧ Roads W A n l := by
 rcases open_slice_fields Tryz.underlying22 Tryz.underlying134 (by kernel_rfl) (by kernel_rfl) hf with ⟨hcs, _⟩ | ⟨a, len, cap, m, D, Pl, hcs, _, hlc, _, hm, _, hcell⟩
 ·simp at hcs
  subst hcs
  exact ⟨none, 0, 0, [], rfl, rfl, rfl, fun h0 => absurd h0 (by omega)⟩
 ·simp at hcs
  subst hcs
  have hlm : len ≤ m := by rw [hm]; split <;> omega
  have key : ∀ i, i < len → ∃ q : Ro, ∀ j u, (roadCells q)[j]? = some u → W.cell? (a.add (i * 4 + j)) = some u := by
   intro i hi
   obtain ⟨ys, n, _, _, _, hfld⟩ := hcell i (by omega)
   obtain ⟨v0, y0, c0, _, t0⟩ := hfld 0 _ rfl
   obtain ⟨v1, y1, c1, _, t1⟩ := hfld 1 _ rfl
   obtain ⟨v2, y2, c2, _, t2⟩ := hfld 2 _ rfl
   obtain ⟨v3, y3, c3, _, t3⟩ := hfld 3 _ rfl
   obtain ⟨n0, e0, _⟩ := DataW.trod_int Tryz.underlying3 t0
   obtain ⟨n1, e1, _⟩ := DataW.trod_int Tryz.underlying3 t1
   obtain ⟨n2, e2, _⟩ := DataW.trod_int Tryz.underlying3 t2
   obtain ⟨n3, e3, _⟩ := DataW.trod_int Tryz.underlying3 t3
   simp at e0 e1 e2 e3
   subst e0 e1 e2 e3
   refine ⟨⟨n0, n1, n2, n3⟩, ?_⟩
   intro j u hu
   rcases j with _ | _ | _ | _ | j <;> simp [roadCells] at hu <;> subst hu <;> assumption
  obtain ⟨l, hl, hq⟩ := list_of key
  exact ⟨_, _, _, l, rfl, hl.symm, by rw [flat_len roadCells 4 (fun _ => rfl), hl], fun _ => ⟨a, rfl, roads_cell fun i q hi => hq i q hi⟩⟩
end
end Go.Proofs.YtippdjmpkafifaaGreat
namespace Go.Proofs.YtippdjmpkafifaaGreat
open Go.ChangeShapes Go.WideShapes Go.Deep Go.RowKit
theorem flat_cell {α : Type} (f : α → List Value) (s : Nat) (hs : ∀ x, (f x).length = s) (h0 : 0 < s) {w : World} {ad : Addr} {l : List α} (h : ∀ (i : Nat) (q : α), l[i]? = some q → ∀ (j : Nat) (u : Value), (f q)[j]? = some u → w.cell? (ad.add (i * s + j)) = some u) :
  ∀ j u, (l.flatMap f)[j]? = some u → w.cell? (ad.add j) = some u := by
 intro j u hu
 have hj : j < (l.flatMap f).length := (List.getElem?_eq_some_iff.1 hu).1
 rw [flat_len f s hs] at hj
 have hd : j / s < l.length := Nat.div_lt_of_lt_mul (by rw [Nat.mul_comm]; exact hj)
 have hp : l[j / s]? = some (l[j / s]'hd) := List.getElem?_eq_getElem hd
 have hm : j % s < s := Nat.mod_lt _ h0
 have hjj : j = j / s * s + j % s := by rw [Nat.mul_comm]; exact (Nat.div_add_mod j s).symm
 have g := flat_get f s hs l _ _ hp (j % s) hm
 rw [← hjj, hu] at g
 have := h _ _ hp (j % s) u g.symm
 rwa [← hjj] at this
section
variable {H : Type} {enc : TypeId × Value → H} {W : World} {base b0 : Nat} {spare : Nat → Bool} {held : Bool} {r : Reach}
set_option maxRecDepth 100000 in
theorem shifts_of_trod {fuel : Nat} {v : Value} {x : DataW H × List MemPlace} (hf : DataW.trod enc Tryz.prog W b0 spare held fuel 25 [v] = some x) : ∃ A n c l, v = .slice A n c ∧ Shifts W A n l ∧ n ≤ c := by
 rcases open_slice_fields Tryz.underlying25 Tryz.underlying63 (by kernel_rfl) (by kernel_rfl) hf with ⟨hcs, _⟩ | ⟨a, len, cap, m, D, Pl, hcs, _, hlc, _, hm, _, hcell⟩
 ·simp at hcs
  subst hcs
  exact ⟨none, 0, 0, [], rfl, ⟨⟨rfl, rfl, fun h0 => absurd h0 (by omega)⟩, fun q hq => by cases hq⟩, Nat.le_refl _⟩
 ·simp at hcs
  subst hcs
  have hlm : len ≤ m := by rw [hm]; split <;> omega
  have key : ∀ i, i < len → ∃ q : S, (Ints W q.A q.n q.l) ∧ ∀ j u, (S.cells q)[j]? = some u → W.cell? (a.add (i * 6 + j)) = some u := by
   intro i hi
   obtain ⟨ys, n, _, _, _, hfld⟩ := hcell i (by omega)
   obtain ⟨v0, y0, d0, _, t0⟩ := hfld 0 _ rfl
   obtain ⟨v1, y1, d1, _, t1⟩ := hfld 1 _ rfl
   obtain ⟨v2, y2, d2, _, t2⟩ := hfld 2 _ rfl
   obtain ⟨v3, y3, d3, _, t3⟩ := hfld 3 _ rfl
   obtain ⟨v4, y4, d4, _, t4⟩ := hfld 4 _ rfl
   obtain ⟨v5, y5, d5, _, t5⟩ := hfld 5 _ rfl
   obtain ⟨n0, e0, _⟩ := DataW.trod_int Tryz.underlying3 t0
   obtain ⟨n1, e1, _⟩ := DataW.trod_int Tryz.underlying3 t1
   obtain ⟨n2, e2, _⟩ := DataW.trod_int Tryz.underlying3 t2
   obtain ⟨n3, e3, _⟩ := DataW.trod_int Tryz.underlying3 t3
   obtain ⟨n4, e4, _⟩ := DataW.trod_int Tryz.underlying3 t4
   obtain ⟨A5, m5, c5, l5, rfl, hI5, hc5⟩ := cints_of_trod t5
   simp at e0 e1 e2 e3 e4
   subst e0 e1 e2 e3 e4
   refine ⟨⟨n0, n1, n2, n3, n4, A5, m5, c5, l5⟩, hI5, ?_⟩
   intro j u hu
   rcases j with _ | _ | _ | _ | _ | _ | j <;> simp [S.cells] at hu <;> subst hu <;> assumption
  obtain ⟨l, hl, hq⟩ := list_of key
  have hall : ∀ q ∈ l, Ints W q.A q.n q.l := fun q hq' => by
   obtain ⟨i, hi⟩ := List.mem_iff_getElem?.1 hq'
   exact (hq i q hi).1
  exact ⟨_, _, _, l, rfl, ⟨⟨hl.symm, by rw [flat_len S.cells 6 (fun _ => rfl), hl], fun _ => ⟨a, rfl, flat_cell S.cells 6 (fun _ => rfl) (by omega) fun i q hi => (hq i q hi).2⟩⟩, hall⟩, hlc⟩
end
end Go.Proofs.YtippdjmpkafifaaGreat
namespace Go.Proofs.YtippdjmpkafifaaGreat
open Go.ChangeShapes Go.WideShapes Go.Deep Go.RowKit
section
variable {H : Type} {enc : TypeId × Value → H} {W : World} {base b0 : Nat} {spare : Nat → Bool} {held : Bool} {r : Reach}
set_option maxRecDepth 100000 in
theorem open_book {v : Value} {d : DataW H} {ps : List MemPlace} (hval : Value.okWide Tryz.prog W r base 44 v) (h : DataW.Trod enc Tryz.prog W b0 spare held 44 v d ps) : ∃ nd A n c l SA sn sc ss B m k r, v = .agg #[.int .i64 nd, .slice A n c, .slice SA sn sc, .slice B m k] ∧ Roads W A n l ∧ Shifts W SA sn ss ∧ Reqs W B m r ∧ ((d.weights Tryz.prog 44).all (· ≤ reachBytes) = true → m * 72 ≤ 140737488351232) := by
 obtain ⟨cs, rfl, hsz⟩ := okWide_struct Tryz.underlying44 hval
 obtain ⟨fuel, hf⟩ := h
 obtain ⟨ys, n', _, hxx, hlen, hyl, hfl⟩ := DataW.trod_struct Tryz.underlying44 hf
 rw [show Tryz.prog.cellsOf 44 = 4 by kernel_rfl] at hsz
 obtain ⟨v0, v1, v2, v3, rfl⟩ : ∃ v0 v1 v2 v3, cs = #[v0, v1, v2, v3] := by
  obtain ⟨l⟩ := cs
  rcases l with _ | ⟨v0, _ | ⟨v1, _ | ⟨v2, _ | ⟨v3, _ | ⟨v4, l⟩⟩⟩⟩⟩ <;> simp at hsz
  exact ⟨_, _, _, _, rfl⟩
 have get : ∀ i, i < ys.length → ∃ y, ys[i]? = some y := fun i hi => ⟨_, List.getElem?_eq_getElem hi⟩
 have hy : ys.length = 3 := hyl
 have C24 : Tryz.prog.cellsOf 24 = 2 := by kernel_rfl
 have C25 : Tryz.prog.cellsOf 25 = 1 := by kernel_rfl
 have C26 : Tryz.prog.cellsOf 26 = 1 := by kernel_rfl
 have t0 := hfl 0 _ rfl
 obtain ⟨y0, g0⟩ := get 0 (by omega)
 rw [g0] at t0
 have t1 := hfl 1 _ rfl
 obtain ⟨y1, g1⟩ := get 1 (by omega)
 rw [g1] at t1
 have t2 := hfl 2 _ rfl
 obtain ⟨y2, g2⟩ := get 2 (by omega)
 rw [g2] at t2
 simp [C24, C25, C26, Value.cells] at t0 t1 t2
 obtain ⟨zs, n2, _, _, _, hzl, hzf⟩ := DataW.trod_struct Tryz.underlying24 t0
 have hz : zs.length = 2 := hzl
 have C3 : Tryz.prog.cellsOf 3 = 1 := by kernel_rfl
 have C22 : Tryz.prog.cellsOf 22 = 1 := by kernel_rfl
 have s0 := hzf 0 _ rfl
 have s1 := hzf 1 _ rfl
 obtain ⟨z0, k0⟩ : ∃ y, zs[0]? = some y := ⟨_, List.getElem?_eq_getElem (by omega)⟩
 obtain ⟨z1, k1⟩ : ∃ y, zs[1]? = some y := ⟨_, List.getElem?_eq_getElem (by omega)⟩
 rw [k0] at s0
 rw [k1] at s1
 simp [C3, C22] at s0 s1
 obtain ⟨nd, e0, _⟩ := DataW.trod_int Tryz.underlying3 s0
 obtain ⟨A, n, c, l, e1, hR⟩ := roads_of_trod s1
 obtain ⟨SA, sn, sc, ss, e2, hS, -⟩ := shifts_of_trod t1
 obtain ⟨B, m, k, r, e3, hQ⟩ := reqs_of_trod t2
 have hw : ∀ ds : List (DataW H), ds[2]? = some y2.1 → (DataW.weightsEach Tryz.prog [24, 25, 26] ds).all (· ≤ reachBytes) = true → m * 72 ≤ 140737488351232 := fun ds hd hall => by
  rcases open_slice_fields Tryz.underlying26 Tryz.underlying47 (by kernel_rfl) (by kernel_rfl) t2 with ⟨hcs, _⟩ | ⟨a, len, cap, m', D, Pl, hcs, _, hlc, _, hm, hx, _⟩
  ·rw [e3] at hcs
   injection hcs with hcs
   injection hcs with _ h1 _
   rw [h1]; decide
  ·rw [e3] at hcs
   injection hcs with hcs
   injection hcs with _ h1 _
   rw [hx] at hd
   have h2 := sized_slice hall (j := 2) (t := 26) rfl hd Tryz.underlying26
   rw [List.length_map, List.length_range, show Tryz.prog.bytesOf 47 = 72 by kernel_rfl, ← h1] at h2
   have h3 : reachBytes = 140737488351232 := rfl
   omega
 simp at e0 e1 e2
 subst e0 e1 e2
 subst e3
 exact ⟨nd, A, n, c, l, SA, sn, sc, ss, B, m, k, r, rfl, hR, hS, hQ, fun h => hw (ys.map (·.1)) (by rw [List.getElem?_map, g2]; rfl) (by
  rw [show d = .agg (ys.map (·.1)) from congrArg Prod.fst hxx] at h
  simpa [DataW.weights, Tryz.underlying44] using h)⟩
set_option maxRecDepth 100000 in
theorem open_req {v : Value} {d : DataW H} {ps : List MemPlace} (hval : Value.okWide Tryz.prog W r base 47 v) (h : DataW.Trod enc Tryz.prog W b0 spare held 47 v d ps) : ∃ q : Q, v = .agg #[.int .i64 q.node, .int .i64 q.room, .int .i64 q.kilos, .int .i64 q.service, .int .i64 q.frm, .int .i64 q.by_, .slice q.A q.n q.c] ∧ Wins W q.A q.n q.l := by
 obtain ⟨cs, rfl, hsz⟩ := okWide_struct Tryz.underlying47 hval
 obtain ⟨fuel, hf⟩ := h
 obtain ⟨ys, n', _, _, hlen, hyl, hfl⟩ := DataW.trod_struct Tryz.underlying47 hf
 rw [show Tryz.prog.cellsOf 47 = 7 by kernel_rfl] at hsz
 obtain ⟨v0, v1, v2, v3, v4, v5, v6, rfl⟩ : ∃ v0 v1 v2 v3 v4 v5 v6, cs = #[v0, v1, v2, v3, v4, v5, v6] := by
  obtain ⟨l⟩ := cs
  rcases l with _ | ⟨v0, _ | ⟨v1, _ | ⟨v2, _ | ⟨v3, _ | ⟨v4, _ | ⟨v5, _ | ⟨v6, _ | ⟨v7, l⟩⟩⟩⟩⟩⟩⟩⟩ <;> simp at hsz
  exact ⟨_, _, _, _, _, _, _, rfl⟩
 have get : ∀ i, i < ys.length → ∃ y, ys[i]? = some y := fun i hi => ⟨_, List.getElem?_eq_getElem hi⟩
 have hy : ys.length = 7 := hyl
 have C3 : Tryz.prog.cellsOf 3 = 1 := by kernel_rfl
 have C45 : Tryz.prog.cellsOf 45 = 1 := by kernel_rfl
 have t0 := hfl 0 _ rfl
 obtain ⟨y0, g0⟩ := get 0 (by omega)
 rw [g0] at t0
 have t1 := hfl 1 _ rfl
 obtain ⟨y1, g1⟩ := get 1 (by omega)
 rw [g1] at t1
 have t2 := hfl 2 _ rfl
 obtain ⟨y2, g2⟩ := get 2 (by omega)
 rw [g2] at t2
 have t3 := hfl 3 _ rfl
 obtain ⟨y3, g3⟩ := get 3 (by omega)
 rw [g3] at t3
 have t4 := hfl 4 _ rfl
 obtain ⟨y4, g4⟩ := get 4 (by omega)
 rw [g4] at t4
 have t5 := hfl 5 _ rfl
 obtain ⟨y5, g5⟩ := get 5 (by omega)
 rw [g5] at t5
 have t6 := hfl 6 _ rfl
 obtain ⟨y6, g6⟩ := get 6 (by omega)
 rw [g6] at t6
 simp [C3, C45, Value.cells] at t0 t1 t2 t3 t4 t5 t6
 obtain ⟨n0, e0, _⟩ := DataW.trod_int Tryz.underlying3 t0
 obtain ⟨n1, e1, _⟩ := DataW.trod_int Tryz.underlying3 t1
 obtain ⟨n2, e2, _⟩ := DataW.trod_int Tryz.underlying3 t2
 obtain ⟨n3, e3, _⟩ := DataW.trod_int Tryz.underlying3 t3
 obtain ⟨n4, e4, _⟩ := DataW.trod_int Tryz.underlying3 t4
 obtain ⟨n5, e5, _⟩ := DataW.trod_int Tryz.underlying3 t5
 obtain ⟨A, n, c, l, e6, hX⟩ := wins_of_trod t6
 simp at e0 e1 e2 e3 e4 e5 e6
 subst e0 e1 e2 e3 e4 e5 e6
 exact ⟨⟨n0, n1, n2, n3, n4, n5, A, n, c, l⟩, rfl, hX⟩
end
end Go.Proofs.YtippdjmpkafifaaGreat
namespace Go.Proofs.YtippdjmpkafifaaGreat
open Go.ChangeShapes Go.WideShapes Go.Deep Go.RowKit
section
variable {H : Type} {enc : TypeId × Value → H} {W : World} {b0 : Nat} {spare : Nat → Bool} {held : Bool}
set_option maxRecDepth 100000 in
theorem book_cap {nd : Int} {A SA B : Option Addr} {n c sn sc m k : Nat} {d : DataW H} {ps : List MemPlace} (h : DataW.Trod enc Tryz.prog W b0 spare held 44 (.agg #[.int .i64 nd, .slice A n c, .slice SA sn sc, .slice B m k]) d ps) : m ≤ k := by
 obtain ⟨fuel, hf⟩ := h
 obtain ⟨ys, n', _, _, hlen, hyl, hfl⟩ := DataW.trod_struct Tryz.underlying44 hf
 have hy : ys.length = 3 := hyl
 have C26 : Tryz.prog.cellsOf 26 = 1 := by kernel_rfl
 have t2 := hfl 2 _ rfl
 obtain ⟨y2, g2⟩ : ∃ y, ys[2]? = some y := ⟨_, List.getElem?_eq_getElem (by omega)⟩
 rw [g2] at t2
 simp [C26, Value.cells] at t2
 rcases open_slice_fields Tryz.underlying26 Tryz.underlying47 (by kernel_rfl) (by kernel_rfl) t2 with ⟨hcs, _⟩ | ⟨a, len, cap, m', D, Pl, hcs, _, hlc, _⟩
 ·injection hcs with hcs
  injection hcs with _ h1 h2
  omega
 ·injection hcs with hcs
  injection hcs with _ h1 h2
  omega
end
end Go.Proofs.YtippdjmpkafifaaGreat
namespace Go.Proofs.YtippdjmpkafifaaGreat
open Go.RowKit
namespace K
section
variable {nd : Int} {l : List Ro} {ss : List S} {r : List Q} {x : Q}
theorem ask_more (s : S) (hl : ss.length ≤ 2) (h0 : (ask33 nd l ss r x).2.2 = 0) (h1 : (ask33 nd l ss r x).2.1.acc = true) : (ask33 nd l (ss ++ [s]) r x).2.2 = 1 ∨ ((ask33 nd l (ss ++ [s]) r x).2.2 = 0 ∧ (ask33 nd l (ss ++ [s]) r x).2.1.acc = true) := by
 rcases ask_cases (nd := nd) (l := l) (ss := ss) (r := r) (x := x) with ⟨e, g1, g2⟩ | ⟨⟨g1, g2, g3⟩, ⟨g4, g5⟩ | ⟨g4, v, g5, g6⟩⟩
 ·rw [g2] at h0; exact absurd h0 g1
 ·by_cases hp : pcheck nd l (ss ++ [s]) r = 0
  ·obtain ⟨-, -, hs, -⟩ := pcheck_ok hp
   obtain ⟨hc, hd⟩ := hs s (List.mem_append_right _ (List.mem_singleton_self s))
   have a1 := (more_law (nd := nd) (l := l) (r := r) s hl hc hd)
   have a2 := (more_law (nd := nd) (l := l) (r := r ++ [x]) s hl hc hd)
   have b1 : (plan nd l (ss ++ [s]) r).2 = 0 := by rw [← a1.1]; exact a1.2 g1
   have b2 : (plan nd l (ss ++ [s]) (r ++ [x])).2 = 0 := by rw [← a2.1]; exact a2.2 g4
   refine .inr ?_
   unfold ask33
   rw [if_neg (by rw [b1, g2]; simp), if_neg (by omega), if_pos b2]
   exact ⟨rfl, rfl⟩
  ·refine .inl ?_
   have : (plan nd l (ss ++ [s]) r).2 ≠ 0 := by rw [plan_err hp]; exact hp
   unfold ask33
   rw [if_pos (.inl this)]
 ·rw [g6] at h1; cases h1
theorem ask_less {r' : List Q} (hs : r'.Sublist r) (h0 : (ask33 nd l ss r x).2.2 = 0) (h1 : (ask33 nd l ss r x).2.1.acc = true) : (ask33 nd l ss r' x).2.2 = 0 ∧ (ask33 nd l ss r' x).2.1.acc = true := by
 rcases ask_cases (nd := nd) (l := l) (ss := ss) (r := r) (x := x) with ⟨e, g1, g2⟩ | ⟨⟨g1, g2, g3⟩, ⟨g4, g5⟩ | ⟨g4, v, g5, g6⟩⟩
 ·rw [g2] at h0; exact absurd h0 g1
 ·have b1 := plan_part g1 hs
  have b2 := plan_part g4 (hs.append (List.Sublist.refl [x]))
  have hl := hs.length_le
  unfold ask33
  rw [if_neg (by rw [b1, g2]; simp), if_neg (by omega), if_pos b2]
  exact ⟨rfl, rfl⟩
 ·rw [g6] at h1; cases h1
theorem less_one (k : Nat) : (r.take k ++ r.drop (k + 1)).Sublist r := by
 have h := (List.Sublist.refl (r.take k)).append (List.drop_sublist_drop_left r (Nat.le_succ k))
 rwa [List.take_append_drop] at h
end
end K
end Go.Proofs.YtippdjmpkafifaaGreat
namespace Go.Proofs.YtippdjmpkafifaaGreat
open Go.RowKit
theorem bel_alloc0 (w : World) (o : Obj) : Below w.heap.size w (w.alloc o) := (Below.refl _ _).alloc (Nat.le_refl _) _
namespace K
end K
end Go.Proofs.YtippdjmpkafifaaGreat
namespace Go.Proofs.YtippdjmpkafifaaGreat
open Go.RowKit
def Cs.shf (x : Cs) (A : Option Addr) (n k : Nat) (L : List S) : Cs := ⟨x.nd, x.A, x.n, x.c, x.l, A, n, k, L, x.B, x.m, x.d, x.r⟩
theorem ask_any3 (x : Cs) (q : Q) (w : World) (hx : Ok33 w x q) (h1 : x.n ≤ 1000000) (h2 : x.sn ≤ 1000000) (h3 : ∀ s ∈ x.ss, s.n ≤ 1000000) :
  Calls Tryz.prog 33 #[.agg #[.int .i64 x.nd, .slice x.A x.n x.c, .slice x.SA x.sn x.sc, .slice x.B x.m x.d], .agg #[.int .i64 q.node, .int .i64 q.room, .int .i64 q.kilos, .int .i64 q.service, .int .i64 q.frm, .int .i64 q.by_, .slice q.A q.n q.c]] w fun e w' => (∃ (x' : Cs) (a : AV) (acc : Bool) (er : Int), e = .returned (.tuple #[.agg #[.int .i64 x'.nd, .slice x'.A x'.n x'.c, .slice x'.SA x'.sn x'.sc, .slice x'.B x'.m x'.d], .agg #[.bool acc, .slice a.PA a.pn a.pc, .slice a.VA a.vn a.vc, .slice a.RA a.rn a.rc], .int .i64 er]) ∧ acc = (K.ask33 x.nd x.l x.ss x.r q).2.1.acc ∧ er = (K.ask33 x.nd x.l x.ss x.r q).2.2) ∧ Below w.heap.size w w' := by
 refine (ask_any x q w hx h1 h2 h3).mono ?_
 rintro e w' ⟨⟨x', a, rfl, h1, h2, h3, h4, -, -⟩, hb⟩
 exact ⟨⟨x', a, a.acc, _, rfl, congrArg K.An.acc h3, rfl⟩, hb⟩
theorem shifts_snoc {w : World} {A : Option Addr} {m : Nat} {r : List S} {q : S} (h : Rd w 6 A (m + 1) (r.flatMap S.cells ++ q.cells)) (hm : m = r.length) (hr : ∀ p ∈ r, Ints w p.A p.n p.l) (hq : Ints w q.A q.n q.l) : Shifts w A (m + 1) (r ++ [q]) :=
 ⟨⟨by rw [List.length_append, hm]; rfl, by rw [List.flatMap_append, List.flatMap_singleton]; exact h⟩, fun p hp => (List.mem_append.1 hp).elim (hr p) (fun hp => by rw [List.mem_singleton.1 hp]; exact hq)⟩
theorem K.ask_pcheck {nd : Int} {l : List Ro} {ss : List S} {r : List Q} {x : Q} (h : (K.ask33 nd l ss r x).2.2 = 0) : K.pcheck nd l ss r = 0 := by
 rcases K.ask_cases (nd := nd) (l := l) (ss := ss) (r := r) (x := x) with ⟨e, h1, h2⟩ | ⟨⟨h1, h2, h3⟩, -⟩
 ·rw [h2] at h; exact absurd h h1
 ·exact (K.plan_0 h1).1
theorem flat_drop {α : Type} {f : α → List Value} {size : Nat} (hs : ∀ x, (f x).length = size) : ∀ (l : List α) (k : Nat), (l.drop k).flatMap f = (l.flatMap f).drop (k * size)
 | l, 0 => by rw [Nat.zero_mul, List.drop_zero, List.drop_zero]
 | [], k + 1 => by simp
 | x :: l, k + 1 => by
  rw [List.drop_succ_cons, flat_drop hs l k, List.flatMap_cons, Nat.succ_mul, Nat.add_comm, ← List.drop_drop, List.drop_left' (hs x)]
theorem rd_drop {α : Type} {w : World} {size n : Nat} {ad : Addr} {f : α → List Value} {l : List α} (h : Rd w size (some ad) n (l.flatMap f)) (hs : ∀ x, (f x).length = size) {k : Nat} (hk : k ≤ n) : Rd w size (some (ad.add (k * size))) (n - k) ((l.drop k).flatMap f) := by
 rw [flat_drop hs]
 refine ⟨by rw [List.length_drop, h.1, Nat.sub_mul], fun h0 => ?_⟩
 obtain ⟨ad', e, hc⟩ := h.2 (by omega)
 injection e with e
 subst e
 refine ⟨_, rfl, fun j u hu => ?_⟩
 rw [List.getElem?_drop] at hu
 rw [add_add]
 exact hc _ u hu
theorem Reqs.cut {w : World} {A : Option Addr} {n : Nat} {l : List Q} (h : Reqs w A n l) {k : Nat} (hk : k ≤ n) : Rd w 7 A k ((l.take k).flatMap Q.cells) := by
 have := (h.take hk).2.1
 rwa [reqCells_flat] at this
theorem reqs_two {w : World} {A : Option Addr} {n : Nat} {l : List Q} {k : Nat} (h : Rd w 7 A n ((l.take k).flatMap Q.cells ++ (l.drop (k + 1)).flatMap Q.cells)) (hn : n = (l.take k ++ l.drop (k + 1)).length) (hr : ∀ p ∈ l, Wins w p.A p.n p.l) : Reqs w A n (l.take k ++ l.drop (k + 1)) :=
 ⟨hn, by rw [reqCells_flat, List.flatMap_append]; exact h, fun p hp => (List.mem_append.1 hp).elim (fun hp => hr p (List.mem_of_mem_take hp)) (fun hp => hr p (List.mem_of_mem_drop hp))⟩
theorem Reqs.end_ {w : World} {A : Option Addr} {n : Nat} {l : List Q} (h : Reqs w A n l) {ad : Addr} (e : A = some ad) {k : Nat} (hk : k ≤ n) : Rd w 7 (some (ad.add (k * 7))) (n - k) ((l.drop k).flatMap Q.cells) := by
 subst e
 have h1 := h.2.1
 rw [reqCells_flat] at h1
 exact rd_drop h1 (fun _ => rfl) hk
set_option maxRecDepth 100000 in
set_option maxHeartbeats 32000000 in
theorem less_any (x : Cs) (q : Q) (wh : Int) (s : S) (w : World) (hN : Roads w x.A x.n x.l) (hS : Shifts w x.SA x.sn x.ss) (hQ : Reqs w x.B x.m x.r) (hX : Wins w q.A q.n q.l) (hI : Ints w s.A s.n s.l) (hwh : (Lit.int .u8 wh).wf = true) (hmB : x.m * 72 ≤ 140737488351232) (hmd : x.m ≤ x.d) :
  Calls Tryz.prog 8 #[.agg #[.int .i64 x.nd, .slice x.A x.n x.c, .slice x.SA x.sn x.sc, .slice x.B x.m x.d], .agg #[.int .i64 q.node, .int .i64 q.room, .int .i64 q.kilos, .int .i64 q.service, .int .i64 q.frm, .int .i64 q.by_, .slice q.A q.n q.c], .int .u8 wh, .agg #[.int .i64 s.day, .int .i64 s.depot, .int .i64 s.start, .int .i64 s.end_, .int .i64 s.tare, .slice s.A s.n s.c]] w fun e w' => e = .returned (.bool true) ∧ Below w.heap.size w w' := by
 obtain ⟨w1, hw1⟩ : ∃ w1 : World, w1 = w.alloc (.cells #[.int .i64 x.nd, .slice x.A x.n x.c, .slice x.SA x.sn x.sc, .slice x.B x.m x.d] 44) := ⟨_, rfl⟩
 have b1 : Below w.heap.size w w1 := by rw [hw1]; exact bel_alloc0 _ _
 have z1 : w1.heap.size = w.heap.size + 1 := by rw [hw1]; exact World.size_alloc _ _
 have hN1 : BkBlk w1 w.heap.size x := by rw [hw1]; exact BkBlk.new _ _
 obtain ⟨w2, hw2⟩ : ∃ w2 : World, w2 = w1.alloc (.cells #[.int .i64 q.node, .int .i64 q.room, .int .i64 q.kilos, .int .i64 q.service, .int .i64 q.frm, .int .i64 q.by_, .slice q.A q.n q.c] 47) := ⟨_, rfl⟩
 have b2 : Below w1.heap.size w1 w2 := by rw [hw2]; exact bel_alloc0 _ _
 have z2 : w2.heap.size = w.heap.size + 1 + 1 := by rw [hw2, World.size_alloc, z1]
 have hB2 : QBlk w2 (w.heap.size + 1) q := by rw [hw2, ← z1]; exact QBlk.new _ _
 obtain ⟨w3, hw3⟩ : ∃ w3 : World, w3 = w2.alloc (.cells #[.int .i64 s.day, .int .i64 s.depot, .int .i64 s.start, .int .i64 s.end_, .int .i64 s.tare, .slice s.A s.n s.c] 63) := ⟨_, rfl⟩
 have b3 : Below w2.heap.size w2 w3 := by rw [hw3]; exact bel_alloc0 _ _
 have hC3 : w3.heap[w.heap.size + 1 + 1]? = some (.cells #[.int .i64 s.day, .int .i64 s.depot, .int .i64 s.start, .int .i64 s.end_, .int .i64 s.tare, .slice s.A s.n s.c] 63 (0, 0)) := by rw [hw3, ← z2]; exact heap_alloc_new _ _
 have hN3 := (hN1.below b2).below b3
 have hB3 := hB2.below b3
 have hb3 := bel (bel b1 b2) b3
 have HMK := Lib.hid (show ∀ w', Below w3.heap.size w3 w' → (fun w' : World => w'.cell? ⟨w.heap.size, 0, none⟩ = some (.int .i64 x.nd) ∧ w'.cell? ⟨w.heap.size, 1, none⟩ = some (.slice x.A x.n x.c) ∧ w'.cell? ⟨w.heap.size, 2, none⟩ = some (.slice x.SA x.sn x.sc) ∧ w'.cell? ⟨w.heap.size, 3, none⟩ = some (.slice x.B x.m x.d) ∧ w'.cell? ⟨w.heap.size + 1, 0, none⟩ = some (.int .i64 q.node) ∧ w'.cell? ⟨w.heap.size + 1, 1, none⟩ = some (.int .i64 q.room) ∧ w'.cell? ⟨w.heap.size + 1, 2, none⟩ = some (.int .i64 q.kilos) ∧ w'.cell? ⟨w.heap.size + 1, 3, none⟩ = some (.int .i64 q.service) ∧ w'.cell? ⟨w.heap.size + 1, 4, none⟩ = some (.int .i64 q.frm) ∧ w'.cell? ⟨w.heap.size + 1, 5, none⟩ = some (.int .i64 q.by_) ∧ w'.cell? ⟨w.heap.size + 1, 6, none⟩ = some (.slice q.A q.n q.c) ∧ w'.cell? ⟨w.heap.size + 1 + 1, 0, none⟩ = some (.int .i64 s.day) ∧ w'.cell? ⟨w.heap.size + 1 + 1, 1, none⟩ = some (.int .i64 s.depot) ∧ w'.cell? ⟨w.heap.size + 1 + 1, 2, none⟩ = some (.int .i64 s.start) ∧ w'.cell? ⟨w.heap.size + 1 + 1, 3, none⟩ = some (.int .i64 s.end_) ∧ w'.cell? ⟨w.heap.size + 1 + 1, 4, none⟩ = some (.int .i64 s.tare) ∧ w'.cell? ⟨w.heap.size + 1 + 1, 5, none⟩ = some (.slice s.A s.n s.c)) w' from fun w' h => by
  obtain ⟨q0, q1, q2, q3, d0, d1, d2, d3, d4, d5, d6⟩ := BQ.mk' (hN3.below h) (hB3.below h)
  have hC := blk_below h hC3
  exact ⟨q0, q1, q2, q3, d0, d1, d2, d3, d4, d5, d6, blk_cell hC 0 _ rfl, blk_cell hC 1 _ rfl, blk_cell hC 2 _ rfl, blk_cell hC 3 _ rfl, blk_cell hC 4 _ rfl, blk_cell hC 5 _ rfl⟩)
 have HRN := Lib.hid hQ.1
 have HSN := Lib.hid hS.1.1
 clear z1 z2 hN1 hB2 hC3 hN3 hB3 b1 b2 b3
 go_enter Tryz.func8, Tryz.ntmps8
 go_wp2_with fail
 rw [← hw1, ← hw2, ← hw3]
 clear hw1 hw2 hw3
 refine (psmall_any _).mono ?_
 rintro e w4 ⟨rfl, b4⟩
 have hb4 := bel hb3 b4
 obtain ⟨p0, p1, p2, p3, c0, c1, c2, c3, c4, c5, c6, s0, s1, s2, s3, s4, s5⟩ := HMK.out _ b4
 go_wp2_with fail
 refine (rfew33_any x q _ (hS.below hb4) (hQ.below hb4) (hX.below hb4) hmB).mono ?_
 rintro e w5 ⟨⟨z, rfl, hz⟩, b5⟩
 have HZ := Lib.hid hz
 have b5r := bel b4 b5
 have hb5 := bel hb3 b5r
 clear p0 p1 p2 p3 c0 c1 c2 c3 c4 c5 c6 s0 s1 s2 s3 s4 s5 hz
 obtain ⟨p0, p1, p2, p3, c0, c1, c2, c3, c4, c5, c6, s0, s1, s2, s3, s4, s5⟩ := HMK.out _ b5r
 cases z
 ·go_wp2_with fail
  go_ret
  exact ⟨rfl, hb5⟩
 have hF := HZ.out rfl
 by_cases h6 : s.n ≤ 6
 rotate_left
 ·have d1 : decide ((6 : Int) < (s.n : Int)) = true := by simp; omega
  have d2 : decide (6 < s.n) = true := by simp; omega
  clear h6
  go_wp2_with fail
  go_ret
  exact ⟨rfl, hb5⟩
 have d1 : decide ((6 : Int) < (s.n : Int)) = false := by simp; omega
 have d2 : decide (6 < s.n) = false := by simp; omega
 have hx5 := hF.ok (Lst.below hN hb5) (hS.below hb5) (hQ.below hb5) (hX.below hb5)
 go_wp2_with fail
 refine (ask_any3 x q _ hx5 (by have := hF.n; omega) (by have := hF.sn; omega) (fun s hs => by have := hF.s s hs; omega)).mono ?_
 rintro e w7 ⟨⟨x', a, acc, er, rfl, hac, her⟩, b7⟩
 have b7r := bel b5r b7
 obtain ⟨W0, hW0⟩ : ∃ W0 : World, W0 = (w7.alloc (.cells #[.int .i64 x'.nd, .slice x'.A x'.n x'.c, .slice x'.SA x'.sn x'.sc, .slice x'.B x'.m x'.d] 44)).alloc (.cells #[.bool acc, .slice a.PA a.pn a.pc, .slice a.VA a.vn a.vc, .slice a.RA a.rn a.rc] 50) := ⟨_, rfl⟩
 obtain ⟨gB, hgB⟩ : ∃ gB, gB = w7.heap.size + 1 := ⟨_, rfl⟩
 have b70 : Below w7.heap.size w7 W0 := by rw [hW0]; exact bel_alloc (bel_alloc (Below.refl _ _) _) _
 have hBB : W0.heap[gB]? = some (.cells #[.bool acc, .slice a.PA a.pn a.pc, .slice a.VA a.vn a.vc, .slice a.RA a.rn a.rc] 50 (0, 0)) := by rw [hW0, hgB]; exact heap_alloc_at _ _ _ (World.size_alloc _ _).symm
 have b0r := bel b7r b70
 have hb0 := bel hb3 b0r
 clear p0 p1 p2 p3 c0 c1 c2 c3 c4 c5 c6 s0 s1 s2 s3 s4 s5 d1 d2
 have HER := Lib.hid her
 have HAC := Lib.hid hac
 clear her
 by_cases he : er = 0
 rotate_left
 ·have e1 : (er != 0) = true := by simp [bne, he]
  have e2 : decide (er = 0) = false := by simp [he]
  clear he hac
  go_wp2_with fail
  rw [← hW0]
  go_ret
  exact ⟨rfl, hb0⟩
 subst he
 have u0 := blk_cell hBB 0 _ rfl
 cases acc
 ·clear hac
  go_upto_region 5 with fail
  rw [← hW0, ← hgB]
  clear hW0 hgB
  go_wp2_with fail
  go_ret
  exact ⟨rfl, hb0⟩
 have hp4 : x.ss.length ≤ 2 := by
  have hp : K.pcheck x.nd x.l x.ss x.r = 0 := K.ask_pcheck HER.out.symm
  have := (K.pcheck_ok hp).2.1
  have h9 := HSN.out
  have := hF.s2 (by omega)
  omega
 have HMO := Lib.hid (K.ask_more (nd := x.nd) (l := x.l) (ss := x.ss) (r := x.r) (x := q) s hp4 HER.out.symm HAC.out.symm)
 have HLS := Lib.hid (fun k => K.ask_less (nd := x.nd) (l := x.l) (ss := x.ss) (r := x.r) (x := q) (K.less_one k) HER.out.symm HAC.out.symm)
 clear hac
 obtain ⟨p0, p1, p2, p3, c0, c1, c2, c3, c4, c5, c6, s0, s1, s2, s3, s4, s5⟩ := HMK.out _ b0r
 go_upto_region 5 with fail
 rw [← hW0, ← hgB]
 clear hW0 hgB
 obtain ⟨W1, hW1⟩ : ∃ W1 : World, W1 = W0.alloc (.cells #[.int .i64 x.nd, .slice x.A x.n x.c, .slice x.SA x.sn x.sc, .slice x.B x.m x.d] 44) := ⟨_, rfl⟩
 obtain ⟨gM, hgM⟩ : ∃ gM, gM = W0.heap.size := ⟨_, rfl⟩
 have b01 : Below W0.heap.size W0 W1 := by rw [hW1]; exact bel_alloc0 _ _
 have hM1 : W1.heap[gM]? = some (.cells #[.int .i64 x.nd, .slice x.A x.n x.c, .slice x.SA x.sn x.sc, .slice x.B x.m x.d] 44 (0, 0)) := by rw [hW1, hgM]; exact heap_alloc_new _ _
 have b1r := bel b0r b01
 have hb1 := bel hb3 b1r
 have hS1 := hS.below hb1
 have hgMl := lt_of_block hM1
 have hgM3 : w3.heap.size ≤ gM := by rw [hgM]; exact b0r.size
 have HMW := Lib.hid (show ∀ w', Below W1.heap.size W1 w' → (fun w' : World => w'.cell? ⟨w.heap.size, 0, none⟩ = some (.int .i64 x.nd) ∧ w'.cell? ⟨w.heap.size, 1, none⟩ = some (.slice x.A x.n x.c) ∧ w'.cell? ⟨w.heap.size, 2, none⟩ = some (.slice x.SA x.sn x.sc) ∧ w'.cell? ⟨w.heap.size, 3, none⟩ = some (.slice x.B x.m x.d) ∧ w'.cell? ⟨w.heap.size + 1, 0, none⟩ = some (.int .i64 q.node) ∧ w'.cell? ⟨w.heap.size + 1, 1, none⟩ = some (.int .i64 q.room) ∧ w'.cell? ⟨w.heap.size + 1, 2, none⟩ = some (.int .i64 q.kilos) ∧ w'.cell? ⟨w.heap.size + 1, 3, none⟩ = some (.int .i64 q.service) ∧ w'.cell? ⟨w.heap.size + 1, 4, none⟩ = some (.int .i64 q.frm) ∧ w'.cell? ⟨w.heap.size + 1, 5, none⟩ = some (.int .i64 q.by_) ∧ w'.cell? ⟨w.heap.size + 1, 6, none⟩ = some (.slice q.A q.n q.c) ∧ w'.cell? ⟨w.heap.size + 1 + 1, 0, none⟩ = some (.int .i64 s.day) ∧ w'.cell? ⟨w.heap.size + 1 + 1, 1, none⟩ = some (.int .i64 s.depot) ∧ w'.cell? ⟨w.heap.size + 1 + 1, 2, none⟩ = some (.int .i64 s.start) ∧ w'.cell? ⟨w.heap.size + 1 + 1, 3, none⟩ = some (.int .i64 s.end_) ∧ w'.cell? ⟨w.heap.size + 1 + 1, 4, none⟩ = some (.int .i64 s.tare) ∧ w'.cell? ⟨w.heap.size + 1 + 1, 5, none⟩ = some (.slice s.A s.n s.c)) w' from fun w' h => HMK.out _ (bel b1r h))
 have hsn6 := hF.sn
 go_upto_region 8 with fail
 rw [← hW1, ← hgM]
 clear hW1 hgM p0 p1 p2 p3 c0 c1 c2 c3 c4 c5 c6 s0 s1 s2 s3 s4 s5 u0
 go_cut [57] from 50 to 57 (fun v57 wc => ∃ A7 k7, v57 = .pointer (some ⟨gM, 2, none⟩) ∧ wc.heap[gM]? = some (.cells #[.int .i64 x.nd, .slice x.A x.n x.c, .slice A7 (x.sn + 1) k7, .slice x.B x.m x.d] 44 (0, 0)) ∧ Shifts wc A7 (x.sn + 1) (x.ss ++ [s]) ∧ Below w3.heap.size w3 wc)
 case first =>
  have hWW : Below W1.heap.size W1 W1 := Below.refl _ _
  have Fd : Below W1.heap.size W1 W1.drew := hWW.drew
  have Fz : Below W1.heap.size W1 (W1.alloc (.cells #[] 63)) := bel_alloc0 _ _
  have S0 := HMW.out _ hWW
  have S0d := HMW.out _ Fd
  have S0z := HMW.out _ Fz
  have S0zd := HMW.out _ Fz.drew
  obtain ⟨i0, hi, hzz0, hzz1, hzz2⟩ := info_parts clone150_info
  have hone : ∀ u ∈ x.ss.flatMap S.cells, u.oneCell' = true := flat_one S.cells shift_one x.ss
  have hone2 : ∀ u ∈ s.cells, u.oneCell' = true := shift_one s
  have hm63 : 0 + x.sn ≤ maxLen := by simp only [maxLen]; omega
  have hm47 : (0 + x.sn) * 64 ≤ 140737488355328 := by omega
  have hn63 : x.sn + 1 ≤ maxLen := by simp only [maxLen]; omega
  have hn47 : (x.sn + 1) * 64 ≤ 140737488355328 := by omega
  have Cz : ∀ g, (Value.slice (some ⟨W1.heap.size, 0, none⟩) 0 0).ownBlock = some g → W1.heap.size ≤ g := fun g e => by injection e with e; rw [← e]; exact Nat.le_refl _
  have Oa : (W1.alloc (.cells #[] 63)).drew.ownsRow W1.heap.size 63 6 (.slice (some ⟨W1.heap.size, 0, none⟩) 0 0) 0 [] := own_lit (heap_alloc_new W1 (.cells #[] 63)) (Nat.le_refl _)
  have Rq : Rd W1 6 (x.SA) x.sn (x.ss.flatMap S.cells) := hS1.1.2
  have Ra := Rq.below Fz.drew
  have Oz : True := trivial
  have Fx : Below W1.heap.size W1 (W1.alloc (.cells #[.int .i64 s.day, .int .i64 s.depot, .int .i64 s.start, .int .i64 s.end_, .int .i64 s.tare, .slice s.A s.n s.c] 63)) := bel_alloc0 _ _
  have Fzx : Below W1.heap.size W1 ((W1.alloc (.cells #[] 63)).alloc (.cells #[.int .i64 s.day, .int .i64 s.depot, .int .i64 s.start, .int .i64 s.end_, .int .i64 s.tare, .slice s.A s.n s.c] 63)) := bel Fz (bel_alloc0 _ _)
  have Fxz : Below W1.heap.size W1 ((W1.alloc (.cells #[.int .i64 s.day, .int .i64 s.depot, .int .i64 s.start, .int .i64 s.end_, .int .i64 s.tare, .slice s.A s.n s.c] 63)).alloc (.cells #[] 63)) := bel Fx (bel_alloc0 _ _)
  have S0x := HMW.out _ Fx
  have S0zx := HMW.out _ Fzx
  have S0xz := HMW.out _ Fxz
  have S0xd := HMW.out _ Fx.drew
  have S0zxd := HMW.out _ Fzx.drew
  have S0xzd := HMW.out _ Fxz.drew
  have Ob : ((W1.alloc (.cells #[] 63)).alloc (.cells #[.int .i64 s.day, .int .i64 s.depot, .int .i64 s.start, .int .i64 s.end_, .int .i64 s.tare, .slice s.A s.n s.c] 63)).drew.ownsRow W1.heap.size 63 6 (.slice (some ⟨W1.heap.size, 0, none⟩) 0 0) 0 [] := own_lit (blk_alloc (heap_alloc_new W1 (.cells #[] 63)) (.cells #[.int .i64 s.day, .int .i64 s.depot, .int .i64 s.start, .int .i64 s.end_, .int .i64 s.tare, .slice s.A s.n s.c] 63)) (Nat.le_refl _)
  have Oc : ((W1.alloc (.cells #[.int .i64 s.day, .int .i64 s.depot, .int .i64 s.start, .int .i64 s.end_, .int .i64 s.tare, .slice s.A s.n s.c] 63)).alloc (.cells #[] 63)).drew.ownsRow W1.heap.size 63 6 (.slice (some ⟨W1.heap.size + 1, 0, none⟩) 0 0) 0 [] := own_lit (heap_alloc_at (W1.alloc (.cells #[.int .i64 s.day, .int .i64 s.depot, .int .i64 s.start, .int .i64 s.end_, .int .i64 s.tare, .slice s.A s.n s.c] 63)) (.cells #[] 63) _ (World.size_alloc _ _).symm) (Nat.le_succ _)
  have Xb : ((W1.alloc (.cells #[] 63)).alloc (.cells #[.int .i64 s.day, .int .i64 s.depot, .int .i64 s.start, .int .i64 s.end_, .int .i64 s.tare, .slice s.A s.n s.c] 63)).drew.heap[W1.heap.size + 1]? = some (.cells #[.int .i64 s.day, .int .i64 s.depot, .int .i64 s.start, .int .i64 s.end_, .int .i64 s.tare, .slice s.A s.n s.c] 63 (0, 0)) := heap_alloc_at (W1.alloc (.cells #[] 63)) (.cells #[.int .i64 s.day, .int .i64 s.depot, .int .i64 s.start, .int .i64 s.end_, .int .i64 s.tare, .slice s.A s.n s.c] 63) _ (World.size_alloc _ _).symm
  have Xc : ((W1.alloc (.cells #[.int .i64 s.day, .int .i64 s.depot, .int .i64 s.start, .int .i64 s.end_, .int .i64 s.tare, .slice s.A s.n s.c] 63)).alloc (.cells #[] 63)).drew.heap[W1.heap.size]? = some (.cells #[.int .i64 s.day, .int .i64 s.depot, .int .i64 s.start, .int .i64 s.end_, .int .i64 s.tare, .slice s.A s.n s.c] 63 (0, 0)) := blk_alloc (heap_alloc_new W1 (.cells #[.int .i64 s.day, .int .i64 s.depot, .int .i64 s.start, .int .i64 s.end_, .int .i64 s.tare, .slice s.A s.n s.c] 63)) (.cells #[] 63)
  have Rb := Rq.below Fzx.drew
  have Rc := Rq.below Fxz.drew
  have hRX : ∀ (W : World) (gg : Nat), W.heap[gg]? = some (.cells #[.int .i64 s.day, .int .i64 s.depot, .int .i64 s.start, .int .i64 s.end_, .int .i64 s.tare, .slice s.A s.n s.c] 63 (0, 0)) → Rd W 6 (some ⟨gg, 0, none⟩) 1 (s.cells) := fun W gg h => Rd.of_block h 6 1 rfl
  have HRX := Lib.hid hRX
  have Cxz : ∀ g, (Value.slice (some ⟨W1.heap.size + 1, 0, none⟩) 0 0).ownBlock = some g → W1.heap.size ≤ g := fun g e => by injection e with e; rw [← e]; exact Nat.le_succ _
  have Nb : some (W1.heap.size + 1) ≠ (Value.slice (some ⟨W1.heap.size, 0, none⟩) 0 0).ownBlock := fun e => by injection e with e; dsimp only at e; omega
  have Nc : some W1.heap.size ≠ (Value.slice (some ⟨W1.heap.size + 1, 0, none⟩) 0 0).ownBlock := fun e => by injection e with e; dsimp only at e; omega
  clear hRX
  go_region_held3 (fun w' : World => w'.cell? ⟨w.heap.size, 0, none⟩ = some (.int .i64 x.nd) ∧ w'.cell? ⟨w.heap.size, 1, none⟩ = some (.slice x.A x.n x.c) ∧ w'.cell? ⟨w.heap.size, 2, none⟩ = some (.slice x.SA x.sn x.sc) ∧ w'.cell? ⟨w.heap.size, 3, none⟩ = some (.slice x.B x.m x.d) ∧ w'.cell? ⟨w.heap.size + 1, 0, none⟩ = some (.int .i64 q.node) ∧ w'.cell? ⟨w.heap.size + 1, 1, none⟩ = some (.int .i64 q.room) ∧ w'.cell? ⟨w.heap.size + 1, 2, none⟩ = some (.int .i64 q.kilos) ∧ w'.cell? ⟨w.heap.size + 1, 3, none⟩ = some (.int .i64 q.service) ∧ w'.cell? ⟨w.heap.size + 1, 4, none⟩ = some (.int .i64 q.frm) ∧ w'.cell? ⟨w.heap.size + 1, 5, none⟩ = some (.int .i64 q.by_) ∧ w'.cell? ⟨w.heap.size + 1, 6, none⟩ = some (.slice q.A q.n q.c) ∧ w'.cell? ⟨w.heap.size + 1 + 1, 0, none⟩ = some (.int .i64 s.day) ∧ w'.cell? ⟨w.heap.size + 1 + 1, 1, none⟩ = some (.int .i64 s.depot) ∧ w'.cell? ⟨w.heap.size + 1 + 1, 2, none⟩ = some (.int .i64 s.start) ∧ w'.cell? ⟨w.heap.size + 1 + 1, 3, none⟩ = some (.int .i64 s.end_) ∧ w'.cell? ⟨w.heap.size + 1 + 1, 4, none⟩ = some (.int .i64 s.tare) ∧ w'.cell? ⟨w.heap.size + 1 + 1, 5, none⟩ = some (.slice s.A s.n s.c))
   (first | with_reducible exact S7s | with_reducible exact S7 | with_reducible exact S6x | with_reducible exact S6 | with_reducible exact S0zxd | with_reducible exact S0xzd | with_reducible exact S0zd | with_reducible exact S0xd | with_reducible exact S0zx | with_reducible exact S0xz | with_reducible exact S0z | with_reducible exact S0x | with_reducible exact S0d | with_reducible exact S0 | fail)
   (first
    | (have h0 := Oz; clear Oz; apply step_append_rd (hgd := rfl) (s := .tmp 50) (x := .tmp 52) (t := 25) (ho := rfl) (base := W1.heap.size) (e := 63) (i := i0) (z := (.agg #[.int .i64 0, .int .i64 0, .int .i64 0, .int .i64 0, .int .i64 0, .slice none 0 0])) (size := 6) (bytes := 64) (ht := Tryz.underlying25) (hi := hi) (hz := hzz0) (hsize := hzz1) (hby := hzz2) (hzs := rfl) (hsz := by decide) (v := .slice (some ⟨_, 0, none⟩) 0 0) (n := 0) (xs := []) (hs := rfl) (A := x.SA) (m := x.sn) (c := x.sc) (news := x.ss.flatMap S.cells) (hx := rfl) (h1 := hone) (h63 := hm63) (hbytes := hm47); (first | with_reducible exact Oa | with_reducible exact Ob | with_reducible exact Oc | fail); (first | with_reducible exact Ra | with_reducible exact Rb | with_reducible exact Rc | fail); (first | with_reducible exact Fz.drew.size | with_reducible exact Fzx.drew.size | with_reducible exact Fxz.drew.size | fail); intro v6 w6 hown6 hgr6 hat6; (first | (have b6r : Below W1.heap.size W1 w6 := by with_reducible exact below_own2 Fz.drew hgr6 Cz) | (have b6r : Below W1.heap.size W1 w6 := by with_reducible exact below_own2 Fzx.drew hgr6 Cz) | (have b6r : Below W1.heap.size W1 w6 := by with_reducible exact below_own2 Fxz.drew hgr6 Cxz) | fail); (first | (with_reducible (have hL := grow_blk hgr6 Xb Nb)) | (with_reducible (have hL := grow_blk hgr6 Xc Nc)) | skip); have S6 := HMW.out _ b6r; have F6x : Below w6.heap.size w6 (w6.alloc (.cells #[.int .i64 s.day, .int .i64 s.depot, .int .i64 s.start, .int .i64 s.end_, .int .i64 s.tare, .slice s.A s.n s.c] 63)) := bel_alloc0 _ _; have S6x := HMW.out _ (bel b6r F6x); rw [Nat.zero_add, List.nil_append] at hown6)
    | (have h9 := hown6; clear hown6; apply step_append_rd (hgd := rfl) (s := .tmp 53) (x := .tmp 55) (t := 25) (ho := rfl) (base := W1.heap.size) (e := 63) (i := i0) (z := (.agg #[.int .i64 0, .int .i64 0, .int .i64 0, .int .i64 0, .int .i64 0, .slice none 0 0])) (size := 6) (bytes := 64) (ht := Tryz.underlying25) (hi := hi) (hz := hzz0) (hsize := hzz1) (hby := hzz2) (hzs := rfl) (hsz := by decide) (v := v6) (n := x.sn) (xs := x.ss.flatMap S.cells) (hs := rfl) (A := some ⟨_, 0, none⟩) (m := 1) (c := 1) (news := s.cells) (hx := rfl) (h1 := hone2) (h63 := hn63) (hbytes := hn47); rotate_right 1; (first | with_reducible exact h9 | with_reducible exact own_below h9 F6x | fail); (first | with_reducible exact HRX.out _ _ hL | with_reducible exact HRX.out _ _ (heap_alloc_new w6 _) | fail); (first | with_reducible exact b6r.size | with_reducible exact Nat.le_trans b6r.size F6x.size | fail); intro v7 w7 hown7 hgr7 hat7; obtain ⟨A7, k7, rfl, hRd7, hF7⟩ := own_form hown7; (first | (have b7r : Below W1.heap.size W1 w7 := by with_reducible exact below_own2 b6r hgr7 (fun g e => (h9.lt g e).1)) | (have b7r : Below W1.heap.size W1 w7 := by with_reducible exact below_own2 (bel b6r F6x) hgr7 (fun g e => (h9.lt g e).1)) | fail); have S7 := HMW.out _ b7r; have hM7 := blk_below b7r hM1; have y2 := blk_cell hM7 2 _ rfl; have f2 := blk_free hM7; have b7s := (bel b1r b7r).setCell (p := ⟨gM, 2, none⟩) hgM3 (.slice A7 (x.sn + 1) k7); have S7s := HMK.out _ b7s)
    | fail)
  all_goals go_wp2_with fail
  all_goals go_meet
  all_goals exact ⟨A7, k7, rfl, blk_set hM7 2 _, shifts_snoc (hRd7.set _ (fun ad e => by have := (hF7 ad.block (by rw [e]; rfl)).1; omega)) HSN.out (hS.below (bel hb3 b7s)).2 (hI.below (bel hb3 b7s)), b7s⟩
 case rest =>
  obtain ⟨A7, k7, -, hM2, hS2, b2r⟩ := hcut
  clear hM1 hS1 b1r b01 hb1 HMW
  have hb2 := bel hb3 b2r
  have hxc := hF.ok (Lst.below hN hb2) (hS.below hb2) (hQ.below hb2) (hX.below hb2)
  have hx2 : Ok33 wc (x.shf A7 (x.sn + 1) k7 (x.ss ++ [s])) q := ⟨⟨hxc.cs.net, hS2, hxc.cs.reqs, hxc.cs.b1, fun p hp => (List.mem_append.1 hp).elim (hxc.cs.b2 p) (fun hp => by rw [List.mem_singleton.1 hp]; omega), (show x.sn + 1 ≤ 1000000000 by omega), hxc.cs.b4, hxc.cs.b5⟩, hxc.req, hxc.m, hxc.qs, hxc.q⟩
  have y0 := blk_cell hM2 0 _ rfl
  have y1 := blk_cell hM2 1 _ rfl
  have y2 := blk_cell hM2 2 _ rfl
  have y3 := blk_cell hM2 3 _ rfl
  obtain ⟨p0, p1, p2, p3, c0, c1, c2, c3, c4, c5, c6, s0, s1, s2, s3, s4, s5⟩ := HMK.out _ b2r
  go_upto_region 9 with fail
  go_wp2_with fail
  refine (ask_any3 (x.shf A7 (x.sn + 1) k7 (x.ss ++ [s])) q _ hx2 (show x.n ≤ 1000000 by have := hF.n; omega) (show x.sn + 1 ≤ 1000000 by omega) (fun p hp => (List.mem_append.1 hp).elim (fun hp => by have := hF.s p hp; omega) (fun hp => by rw [List.mem_singleton.1 hp]; omega))).mono ?_
  rintro e w8 ⟨⟨x', a, acc, er, rfl, hac, her⟩, b8⟩
  replace hac : acc = (K.ask33 x.nd x.l (x.ss ++ [s]) x.r q).2.1.acc := hac
  replace her : er = (K.ask33 x.nd x.l (x.ss ++ [s]) x.r q).2.2 := her
  have HVD := Lib.hid (show er = 1 ∨ (er = 0 ∧ acc = true) by rw [hac, her]; exact HMO.out)
  clear hac her HMO
  obtain ⟨W3, hW3⟩ : ∃ W3 : World, W3 = (w8.alloc (.cells #[.int .i64 x'.nd, .slice x'.A x'.n x'.c, .slice x'.SA x'.sn x'.sc, .slice x'.B x'.m x'.d] 44)).alloc (.cells #[.bool acc, .slice a.PA a.pn a.pc, .slice a.VA a.vn a.vc, .slice a.RA a.rn a.rc] 50) := ⟨_, rfl⟩
  obtain ⟨gB2, hgB2⟩ : ∃ g, g = w8.heap.size + 1 := ⟨_, rfl⟩
  have b83 : Below w8.heap.size w8 W3 := by rw [hW3]; exact bel_alloc (bel_alloc (Below.refl _ _) _) _
  have hBB2 : W3.heap[gB2]? = some (.cells #[.bool acc, .slice a.PA a.pn a.pc, .slice a.VA a.vn a.vc, .slice a.RA a.rn a.rc] 50 (0, 0)) := by rw [hW3, hgB2]; exact heap_alloc_at _ _ _ (World.size_alloc _ _).symm
  have b3r := bel b2r (bel b8 b83)
  have hb33 := bel hb3 b3r
  clear p0 p1 p2 p3 c0 c1 c2 c3 c4 c5 c6 s0 s1 s2 s3 s4 s5 y0 y1 y2 y3
  have v0 := blk_cell hBB2 0 _ rfl
  obtain ⟨p0, p1, p2, p3, c0, c1, c2, c3, c4, c5, c6, s0, s1, s2, s3, s4, s5⟩ := HMK.out _ b3r
  go_upto_region 10 with fail
  rw [← hW3, ← hgB2]
  clear hW3 hgB2
  go_cut [79] from 65 to 79 (fun v79 wz => v79 = .bool false ∧ wz = W3)
  case first =>
   rcases HVD.out with rfl | ⟨rfl, rfl⟩
   ·go_wp2_with fail
    go_meet
    exact ⟨rfl, rfl⟩
   ·go_wp2_with fail
    go_meet
    exact ⟨rfl, rfl⟩
  case rest =>
   obtain ⟨rfl, hwz⟩ := hcut
   rw [hwz]
   clear hwz v0 hBB2 HVD
   by_cases h0 : x.m = 0
   ·have d1 : ((x.m : Int) == 0) = true := by simp [h0]
    have d2 : decide ((x.m : Int) = 0) = true := by simp [h0]
    clear h0
    go_wp2_with fail
    go_ret
    exact ⟨rfl, hb33⟩
   have d1 : ((x.m : Int) == 0) = false := by simp [h0]
   have d2 : decide ((x.m : Int) = 0) = false := by simp [h0]
   have hwi : 0 ≤ wh ∧ wh ≤ 255 := by
    simp [Lit.wf] at hwh
    exact hwh
   obtain ⟨hw0, hw255⟩ := hwi
   obtain ⟨k, hk⟩ : ∃ k : Nat, wh % (x.m : Int) = (k : Int) := ⟨(wh % (x.m : Int)).toNat, by have := Int.emod_nonneg wh (show (x.m : Int) ≠ 0 by omega); omega⟩
   have hkv : k < x.m := by have := Int.emod_lt_of_pos wh (show (0 : Int) < (x.m : Int) by omega); omega
   have hrem : wh.tmod (x.m : Int) = (k : Int) := by rw [Int.tmod_eq_emod_of_nonneg hw0]; exact hk
   obtain ⟨adB, hadB⟩ : ∃ ad, x.B = some ad := by
    obtain ⟨ad, e, -⟩ := hQ.2.1.2 (by omega)
    exact ⟨ad, e⟩
   obtain ⟨W4, hW4⟩ : ∃ W4 : World, W4 = W3.alloc (.cells #[.int .i64 x.nd, .slice x.A x.n x.c, .slice x.SA x.sn x.sc, .slice x.B x.m x.d] 44) := ⟨_, rfl⟩
   obtain ⟨gL, hgL⟩ : ∃ g, g = W3.heap.size := ⟨_, rfl⟩
   have b34 : Below W3.heap.size W3 W4 := by rw [hW4]; exact bel_alloc0 _ _
   have hL4 : W4.heap[gL]? = some (.cells #[.int .i64 x.nd, .slice x.A x.n x.c, .slice x.SA x.sn x.sc, .slice x.B x.m x.d] 44 (0, 0)) := by rw [hW4, hgL]; exact heap_alloc_new _ _
   have b4r := bel b3r b34
   have hb44 := bel hb3 b4r
   have hgLl := lt_of_block hL4
   have hgL3 : w3.heap.size ≤ gL := by rw [hgL]; exact b3r.size
   have hm7 := hF.m
   have k0 : (0 : Int) ≤ (k : Int) := by omega
   have k1 : (k : Int) ≤ (x.d : Int) := by omega
   have k2 : IntKind.i64.wrap ((k : Int) + 1) = (k : Int) + 1 := IntWalk.i64_in _ (by omega)
   have k3 : (0 : Int) ≤ (k : Int) + 1 := by omega
   have k4 : (k : Int) + 1 ≤ (x.m : Int) := by omega
   have HKL := Lib.hid (HLS.out k)
   have hQ4 := hQ.below hb44
   have RK0 : Rd W4 7 (some adB) k ((x.r.take k).flatMap Q.cells) := by rw [← hadB]; exact hQ4.cut (by omega)
   have RE := Lib.hid (hQ4.end_ hadB (k := k + 1) (by omega))
   have HMW := Lib.hid (show ∀ w', Below W4.heap.size W4 w' → (fun w' : World => w'.cell? ⟨w.heap.size, 3, none⟩ = some (.slice (some adB) x.m x.d)) w' from fun w' h => by
    obtain ⟨-, -, -, q3, -⟩ := HMK.out _ (bel b4r h)
    rw [← hadB]
    exact q3)
   have HAB := Lib.hid hadB
   clear hk HLS hBB hadB
   go_upto_region 16 with fail
   rw [← hW4, ← hgL]
   clear hW4 hgL d1 d2 hrem p0 p1 p2 p3 c0 c1 c2 c3 c4 c5 c6 s0 s1 s2 s3 s4 s5
   obtain ⟨nL, hnL⟩ : ∃ n, n = k + (x.m - (k + 1)) := ⟨_, rfl⟩
   have HNL := Lib.hid hnL
   clear hnL
   go_cut [104] from 92 to 104 (fun v104 wc => ∃ A7 k7, v104 = .pointer (some ⟨gL, 3, none⟩) ∧ wc.heap[gL]? = some (.cells #[.int .i64 x.nd, .slice x.A x.n x.c, .slice x.SA x.sn x.sc, .slice A7 nL k7] 44 (0, 0)) ∧ Reqs wc A7 nL (x.r.take k ++ x.r.drop (k + 1)) ∧ Below w3.heap.size w3 wc)
   case first =>
    by_cases hc : x.d = k + 1
    ·have hc' : (x.d = k + 1) = True := eq_true hc
     have RKD : Rd W4 7 (some adB) (x.m - (k + 1)) ((x.r.drop (k + 1)).flatMap Q.cells) := by
      have e0 : x.m - (k + 1) = 0 := by omega
      have h9 := RE.out
      rw [e0] at h9 ⊢
      exact ⟨h9.1, fun h => absurd h (Nat.lt_irrefl 0)⟩
     clear hc
     have hWW : Below W4.heap.size W4 W4 := Below.refl _ _
     have Fd : Below W4.heap.size W4 W4.drew := hWW.drew
     have Fz : Below W4.heap.size W4 (W4.alloc (.cells #[] 47)) := bel_alloc0 _ _
     have S0 := HMW.out _ hWW
     have S0d := HMW.out _ Fd
     have S0z := HMW.out _ Fz
     have S0zd := HMW.out _ Fz.drew
     obtain ⟨i0, hi, hzz0, hzz1, hzz2⟩ := info_parts clone120_info
     have hone : ∀ u ∈ (x.r.take k).flatMap Q.cells, u.oneCell' = true := flat_one Q.cells req_one _
     have hone2 : ∀ u ∈ (x.r.drop (k + 1)).flatMap Q.cells, u.oneCell' = true := flat_one Q.cells req_one _
     have hm63 : 0 + k ≤ maxLen := by simp only [maxLen]; omega
     have hm47 : (0 + k) * 72 ≤ 140737488355328 := by omega
     have hn63 : k + (x.m - (k + 1)) ≤ maxLen := by simp only [maxLen]; omega
     have hn47 : (k + (x.m - (k + 1))) * 72 ≤ 140737488355328 := by omega
     have Cz : ∀ g, (Value.slice (some ⟨W4.heap.size, 0, none⟩) 0 0).ownBlock = some g → W4.heap.size ≤ g := fun g e => by injection e with e; rw [← e]; exact Nat.le_refl _
     have Oa : (W4.alloc (.cells #[] 47)).drew.ownsRow W4.heap.size 47 7 (.slice (some ⟨W4.heap.size, 0, none⟩) 0 0) 0 [] := own_lit (heap_alloc_new W4 (.cells #[] 47)) (Nat.le_refl _)
     have Rq : Rd W4 7 (some adB) k ((x.r.take k).flatMap Q.cells) := RK0
     have Ra := Rq.below Fz.drew
     have Oz : True := trivial
     go_region_held3 (fun w' : World => w'.cell? ⟨w.heap.size, 3, none⟩ = some (.slice (some adB) x.m x.d))
      (first | with_reducible exact S7s | with_reducible exact S7 | with_reducible exact S6 | with_reducible exact S0zd | with_reducible exact S0z | with_reducible exact S0d | with_reducible exact S0 | fail)
      (first
       | (have h0 := Oz; clear Oz; apply step_append_rd (hgd := rfl) (s := .tmp 92) (x := .tmp 96) (t := 26) (ho := rfl) (base := W4.heap.size) (e := 47) (i := i0) (z := (.agg #[.int .i64 0, .int .i64 0, .int .i64 0, .int .i64 0, .int .i64 0, .int .i64 0, .slice none 0 0])) (size := 7) (bytes := 72) (ht := Tryz.underlying26) (hi := hi) (hz := hzz0) (hsize := hzz1) (hby := hzz2) (hzs := rfl) (hsz := by decide) (v := .slice (some ⟨_, 0, none⟩) 0 0) (n := 0) (xs := []) (hs := rfl) (A := some adB) (m := k) (c := x.d) (news := (x.r.take k).flatMap Q.cells) (hx := rfl) (h1 := hone) (h63 := hm63) (hbytes := hm47); with_reducible exact Oa; with_reducible exact Ra; with_reducible exact Fz.drew.size; intro v6 w6 hown6 hgr6 hat6; have b6r : Below W4.heap.size W4 w6 := below_own2 Fz.drew hgr6 Cz; have S6 := HMW.out _ b6r; rw [Nat.zero_add, List.nil_append] at hown6)
       | (have h9 := hown6; clear hown6; apply step_append_rd (hgd := rfl) (s := .tmp 97) (x := .tmp 102) (t := 26) (ho := rfl) (base := W4.heap.size) (e := 47) (i := i0) (z := (.agg #[.int .i64 0, .int .i64 0, .int .i64 0, .int .i64 0, .int .i64 0, .int .i64 0, .slice none 0 0])) (size := 7) (bytes := 72) (ht := Tryz.underlying26) (hi := hi) (hz := hzz0) (hsize := hzz1) (hby := hzz2) (hzs := rfl) (hsz := by decide) (v := v6) (n := k) (xs := (x.r.take k).flatMap Q.cells) (hs := rfl) (A := some adB) (m := (x.m - (k + 1))) (c := (x.d - (k + 1))) (news := (x.r.drop (k + 1)).flatMap Q.cells) (hx := rfl) (h1 := hone2) (h63 := hn63) (hbytes := hn47); with_reducible exact h9; with_reducible exact (RKD.below b6r); with_reducible exact b6r.size; intro v7 w7 hown7 hgr7 hat7; obtain ⟨A7, k7, rfl, hRd7, hF7⟩ := own_form hown7; have b7r : Below W4.heap.size W4 w7 := below_own2 b6r hgr7 (fun g e => (h9.lt g e).1); have S7 := HMW.out _ b7r; have hL7 := blk_below b7r hL4; have y3 := blk_cell hL7 3 _ rfl; have f3 := blk_free hL7; have b7s := (bel b4r b7r).setCell (p := ⟨gL, 3, none⟩) hgL3 (.slice A7 (k + (x.m - (k + 1))) k7); have S7s : (fun w' : World => w'.cell? ⟨w.heap.size, 3, none⟩ = some (.slice (some adB) x.m x.d)) _ := (by obtain ⟨-, -, -, q3, -⟩ := HMK.out _ b7s; rw [← HAB.out]; exact q3))
       | fail)
     all_goals go_wp2_with fail
     all_goals go_meet
     all_goals exact ⟨A7, k7, rfl, by rw [HNL.out]; exact blk_set hL7 3 _, by rw [HNL.out]; exact reqs_two (hRd7.set _ (fun ad e => by have := (hF7 ad.block (by rw [e]; rfl)).1; omega)) (by rw [List.length_append, List.length_take, List.length_drop, ← HRN.out]; omega) (fun p hp => (hQ.below (bel hb3 b7s)).2.2 p hp), b7s⟩
    ·have hc' : (x.d = k + 1) = False := eq_false hc
     have hadd : adB.add ((k + 1) * 7) = ⟨adB.block, adB.off + (k + 1) * 7, none⟩ := by unfold Addr.add; simp
     have RKD : Rd W4 7 (some ⟨adB.block, adB.off + (k + 1) * 7, none⟩) (x.m - (k + 1)) ((x.r.drop (k + 1)).flatMap Q.cells) := by rw [← hadd]; exact RE.out
     clear hc hadd
     have hWW : Below W4.heap.size W4 W4 := Below.refl _ _
     have Fd : Below W4.heap.size W4 W4.drew := hWW.drew
     have Fz : Below W4.heap.size W4 (W4.alloc (.cells #[] 47)) := bel_alloc0 _ _
     have S0 := HMW.out _ hWW
     have S0d := HMW.out _ Fd
     have S0z := HMW.out _ Fz
     have S0zd := HMW.out _ Fz.drew
     obtain ⟨i0, hi, hzz0, hzz1, hzz2⟩ := info_parts clone120_info
     have hone : ∀ u ∈ (x.r.take k).flatMap Q.cells, u.oneCell' = true := flat_one Q.cells req_one _
     have hone2 : ∀ u ∈ (x.r.drop (k + 1)).flatMap Q.cells, u.oneCell' = true := flat_one Q.cells req_one _
     have hm63 : 0 + k ≤ maxLen := by simp only [maxLen]; omega
     have hm47 : (0 + k) * 72 ≤ 140737488355328 := by omega
     have hn63 : k + (x.m - (k + 1)) ≤ maxLen := by simp only [maxLen]; omega
     have hn47 : (k + (x.m - (k + 1))) * 72 ≤ 140737488355328 := by omega
     have Cz : ∀ g, (Value.slice (some ⟨W4.heap.size, 0, none⟩) 0 0).ownBlock = some g → W4.heap.size ≤ g := fun g e => by injection e with e; rw [← e]; exact Nat.le_refl _
     have Oa : (W4.alloc (.cells #[] 47)).drew.ownsRow W4.heap.size 47 7 (.slice (some ⟨W4.heap.size, 0, none⟩) 0 0) 0 [] := own_lit (heap_alloc_new W4 (.cells #[] 47)) (Nat.le_refl _)
     have Rq : Rd W4 7 (some adB) k ((x.r.take k).flatMap Q.cells) := RK0
     have Ra := Rq.below Fz.drew
     have Oz : True := trivial
     go_region_held3 (fun w' : World => w'.cell? ⟨w.heap.size, 3, none⟩ = some (.slice (some adB) x.m x.d))
      (first | with_reducible exact S7s | with_reducible exact S7 | with_reducible exact S6 | with_reducible exact S0zd | with_reducible exact S0z | with_reducible exact S0d | with_reducible exact S0 | fail)
      (first
       | (have h0 := Oz; clear Oz; apply step_append_rd (hgd := rfl) (s := .tmp 92) (x := .tmp 96) (t := 26) (ho := rfl) (base := W4.heap.size) (e := 47) (i := i0) (z := (.agg #[.int .i64 0, .int .i64 0, .int .i64 0, .int .i64 0, .int .i64 0, .int .i64 0, .slice none 0 0])) (size := 7) (bytes := 72) (ht := Tryz.underlying26) (hi := hi) (hz := hzz0) (hsize := hzz1) (hby := hzz2) (hzs := rfl) (hsz := by decide) (v := .slice (some ⟨_, 0, none⟩) 0 0) (n := 0) (xs := []) (hs := rfl) (A := some adB) (m := k) (c := x.d) (news := (x.r.take k).flatMap Q.cells) (hx := rfl) (h1 := hone) (h63 := hm63) (hbytes := hm47); with_reducible exact Oa; with_reducible exact Ra; with_reducible exact Fz.drew.size; intro v6 w6 hown6 hgr6 hat6; have b6r : Below W4.heap.size W4 w6 := below_own2 Fz.drew hgr6 Cz; have S6 := HMW.out _ b6r; rw [Nat.zero_add, List.nil_append] at hown6)
       | (have h9 := hown6; clear hown6; apply step_append_rd (hgd := rfl) (s := .tmp 97) (x := .tmp 102) (t := 26) (ho := rfl) (base := W4.heap.size) (e := 47) (i := i0) (z := (.agg #[.int .i64 0, .int .i64 0, .int .i64 0, .int .i64 0, .int .i64 0, .int .i64 0, .slice none 0 0])) (size := 7) (bytes := 72) (ht := Tryz.underlying26) (hi := hi) (hz := hzz0) (hsize := hzz1) (hby := hzz2) (hzs := rfl) (hsz := by decide) (v := v6) (n := k) (xs := (x.r.take k).flatMap Q.cells) (hs := rfl) (A := some ⟨adB.block, adB.off + (k + 1) * 7, none⟩) (m := (x.m - (k + 1))) (c := (x.d - (k + 1))) (news := (x.r.drop (k + 1)).flatMap Q.cells) (hx := rfl) (h1 := hone2) (h63 := hn63) (hbytes := hn47); with_reducible exact h9; with_reducible exact (RKD.below b6r); with_reducible exact b6r.size; intro v7 w7 hown7 hgr7 hat7; obtain ⟨A7, k7, rfl, hRd7, hF7⟩ := own_form hown7; have b7r : Below W4.heap.size W4 w7 := below_own2 b6r hgr7 (fun g e => (h9.lt g e).1); have S7 := HMW.out _ b7r; have hL7 := blk_below b7r hL4; have y3 := blk_cell hL7 3 _ rfl; have f3 := blk_free hL7; have b7s := (bel b4r b7r).setCell (p := ⟨gL, 3, none⟩) hgL3 (.slice A7 (k + (x.m - (k + 1))) k7); have S7s : (fun w' : World => w'.cell? ⟨w.heap.size, 3, none⟩ = some (.slice (some adB) x.m x.d)) _ := (by obtain ⟨-, -, -, q3, -⟩ := HMK.out _ b7s; rw [← HAB.out]; exact q3))
       | fail)
     all_goals go_wp2_with fail
     all_goals go_meet
     all_goals exact ⟨A7, k7, rfl, by rw [HNL.out]; exact blk_set hL7 3 _, by rw [HNL.out]; exact reqs_two (hRd7.set _ (fun ad e => by have := (hF7 ad.block (by rw [e]; rfl)).1; omega)) (by rw [List.length_append, List.length_take, List.length_drop, ← HRN.out]; omega) (fun p hp => (hQ.below (bel hb3 b7s)).2.2 p hp), b7s⟩
   case rest =>
    obtain ⟨A7, k7, -, hL5, hR5, b5z⟩ := hcut
    have hb55 := bel hb3 b5z
    have hx5 := hF.ok (Lst.below hN hb55) (hS.below hb55) (hQ.below hb55) (hX.below hb55)
    have hx6 : Ok33 wc (x.with_ A7 nL k7 (x.r.take k ++ x.r.drop (k + 1))) q := ⟨⟨hx5.cs.net, hx5.cs.shifts, hR5, hx5.cs.b1, hx5.cs.b2, hx5.cs.b3, (show nL ≤ 1000000000 by have := HNL.out; omega), fun p hp => hx5.cs.b5 p ((List.mem_append.1 hp).elim List.mem_of_mem_take List.mem_of_mem_drop)⟩, hx5.req, (show nL ≤ 100 by have := HNL.out; omega), fun p hp => hx5.qs p ((List.mem_append.1 hp).elim List.mem_of_mem_take List.mem_of_mem_drop), hx5.q⟩
    have y0 := blk_cell hL5 0 _ rfl
    have y1 := blk_cell hL5 1 _ rfl
    have y2 := blk_cell hL5 2 _ rfl
    have y3 := blk_cell hL5 3 _ rfl
    obtain ⟨p0, p1, p2, p3, c0, c1, c2, c3, c4, c5, c6, s0, s1, s2, s3, s4, s5⟩ := HMK.out _ b5z
    go_wp2_with fail
    refine (ask_any3 (x.with_ A7 nL k7 (x.r.take k ++ x.r.drop (k + 1))) q _ hx6 (show x.n ≤ 1000000 by have := hF.n; omega) (show x.sn ≤ 1000000 by omega) (fun p hp => by have := hF.s p hp; omega)).mono ?_
    rintro e w9 ⟨⟨x', a, acc, er, rfl, hac, her⟩, b9⟩
    obtain rfl : er = 0 := her.trans HKL.out.1
    obtain rfl : acc = true := hac.trans HKL.out.2
    obtain ⟨W6, hW6⟩ : ∃ W6 : World, W6 = (w9.alloc (.cells #[.int .i64 x'.nd, .slice x'.A x'.n x'.c, .slice x'.SA x'.sn x'.sc, .slice x'.B x'.m x'.d] 44)).alloc (.cells #[.bool true, .slice a.PA a.pn a.pc, .slice a.VA a.vn a.vc, .slice a.RA a.rn a.rc] 50) := ⟨_, rfl⟩
    obtain ⟨gB3, hgB3⟩ : ∃ g, g = w9.heap.size + 1 := ⟨_, rfl⟩
    have b96 : Below w9.heap.size w9 W6 := by rw [hW6]; exact bel_alloc (bel_alloc (Below.refl _ _) _) _
    have hBB3 : W6.heap[gB3]? = some (.cells #[.bool true, .slice a.PA a.pn a.pc, .slice a.VA a.vn a.vc, .slice a.RA a.rn a.rc] 50 (0, 0)) := by rw [hW6, hgB3]; exact heap_alloc_at _ _ _ (World.size_alloc _ _).symm
    have b6r := bel b5z (bel b9 b96)
    clear p0 p1 p2 p3 c0 c1 c2 c3 c4 c5 c6 s0 s1 s2 s3 s4 s5 y0 y1 y2 y3 hac her
    have v0 := blk_cell hBB3 0 _ rfl
    go_upto_region 18 with fail
    rw [← hW6, ← hgB3]
    clear hW6 hgB3
    go_wp2_with fail
    go_ret
    exact ⟨rfl, bel hb3 b6r⟩
end Go.Proofs.YtippdjmpkafifaaGreat
