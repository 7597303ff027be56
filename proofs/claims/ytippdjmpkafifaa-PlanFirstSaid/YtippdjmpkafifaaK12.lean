/-
Plain laws of tours: a lighter truck, a lighter request, an earlier beginning; an order without one of its requests.
-/
import Derived.Test.YtippdjmpkafifaaBD
namespace Go.Proofs.Ytippdjmpkafifaa
open Go.RowKit

theorem T.check_iff {s : S} : T.check s = 0 ↔ T.btw s.day 0 100000 = true ∧ T.dated s = true ∧ s.l.length ≤ 3 ∧ T.heavy (s.tare :: s.l) = false := by
  unfold T.check
  constructor
  · intro h
    split at h
    · simp at h
    · rename_i h1
      split at h
      · simp at h
      · rename_i h2
        split at h
        · simp at h
        · rename_i h3
          split at h
          · simp at h
          · rename_i h4
            exact ⟨by simpa using h1, by simpa using h2, by omega, by simpa using h4⟩
  · rintro ⟨h1, h2, h3, h4⟩
    rw [if_neg (by simp [h1]), if_neg (by simp [h2]), if_neg (by omega), if_neg (by simp [h4])]

theorem T.check_tare {s : S} {t : Int} (h : T.check s = 0) (h0 : 0 ≤ t) (h1 : t ≤ s.tare) : T.check { s with tare := t } = 0 := by
  obtain ⟨a, b, c, d⟩ := T.check_iff.1 h
  refine T.check_iff.2 ⟨a, b, c, ?_⟩
  have ht := (T.check_rooms h).2.1
  simp only [T.heavy, List.any_cons, Bool.or_eq_false_iff] at d ⊢
  refine ⟨?_, d.2⟩
  have : T.btw t 0 1000000 = true := T.btw_iff.2 ⟨h0, by omega⟩
  simp [this]

theorem T.check_start {s : S} {t : Int} (h : T.check s = 0) (h0 : 0 ≤ t) (h1 : t ≤ s.start) : T.check { s with start := t } = 0 := by
  obtain ⟨a, b, c, d⟩ := T.check_iff.1 h
  refine T.check_iff.2 ⟨a, ?_, c, d⟩
  simp only [T.dated, Bool.and_eq_true, decide_eq_true_eq] at b ⊢
  obtain ⟨b1, b2, b3, b4⟩ := b
  exact ⟨b1, h0, by show t ≤ s.end_; omega, b4⟩

namespace K
/-- A run that goes better. -/
def Better (nd : Int) (l : List Ro) (s : S) (r : List Q) (o : List Int) (s' : S) (r' : List Q) (o' : List Int) : Prop :=
  (run nd l s' r' o').e = 0 ∧ (run nd l s' r' o').tour.end_ ≤ (run nd l s r o).tour.end_

/-- The nodes and services are right in a right round. -/
theorem fine_right {nd : Int} {l : List Ro} {s : S} {r : List Q} {o : List Int} (h : right nd l s r o = true) : Fine nd r o := by
  obtain ⟨h1, h2, h3, h4⟩ := right_parts h
  obtain ⟨h5, h6, h7⟩ := T.load_parts h2
  intro i hi
  have hb := T.isSetFrom_mem h6 i hi
  obtain ⟨q, hq⟩ : ∃ q, r[i.toNat]? = some q := ⟨_, List.getElem?_eq_getElem (by omega)⟩
  have hr := right_req (h7 q (List.mem_of_getElem? hq))
  have e : req r i = q := by unfold req; rw [hq]; rfl
  have := h4 i hi
  rw [e] at this ⊢
  exact ⟨⟨hr.1.1, this⟩, hr.2.1.1⟩

theorem run_dom {nd : Int} {l : List Ro} {s s' : S} {r r' : List Q} {o : List Int} (h : (run nd l s r o).e = 0) (hr' : right nd l s' r' o = true) (hday : s'.day = s.day) (hend : s'.end_ = s.end_) (hdep : s'.depot = s.depot) (hst : 0 ≤ s'.start ∧ s'.start ≤ s.start)
    (hal : Alike r r' o) (hw : ∀ p, p <+: o → T.weight s' r' p ≤ T.weight s r p) (hf : ∀ p, p <+: o → T.fits s r p = true → T.fits s' r' p = true) :
    Better nd l s r o s' r' o ∧ Ahead (run nd l s' r' o).tour.times (run nd l s r o).tour.times := by
  obtain ⟨h1, h2, h3, h4⟩ := run_ok h
  obtain ⟨p1, p2, p3, p4⟩ := right_parts h1
  obtain ⟨-, ⟨d0, d1⟩, -⟩ := check_parts (T.load_parts p2).1
  have hd0 : Dom nd l s r [] s.depot s.start s' r' [] s'.depot s'.start := by
    rw [hdep]
    exact Dom.same p1 ⟨d0, p3⟩ (hw [] (by simp)) hst.1 hst.2 (by omega)
  obtain ⟨g1, g2, g3⟩ := legs_dom p1 hday (by omega) o [] [] _ _ _ _ hal (fine_right h1) (fun p hp => by simpa using hw p hp) (fun p hp => by simpa using hf p hp) hd0 h2
  have hb := g3 s.depot ⟨d0, p3⟩ (by have h9 := h3; unfold back all at h9; simpa using h9)
  have hb1 : (back nd l s' r' o).2 = 0 := by
    have h9 := hb.1
    unfold back all
    rw [hdep] at h9 ⊢
    simpa using h9
  have h5 := run_mk hr' g1 hb1
  unfold Better
  rw [h5, h4]
  refine ⟨⟨rfl, ?_⟩, g2⟩
  refine Int.le_trans (Int.le_of_eq ?_) (Int.le_trans hb.2.2 (Int.le_of_eq ?_))
  · unfold back all
    simp [hdep]
  · unfold back all
    simp

/-- A lighter truck. -/
theorem heavy_tare {nd : Int} {l : List Ro} {s : S} {r : List Q} {o : List Int} (h : (run nd l s r o).e = 0) {t : Int} (h0 : 0 ≤ t) (h1 : t ≤ s.tare) : Better nd l s r o { s with tare := t } r o ∧ Ahead (run nd l { s with tare := t } r o).tour.times (run nd l s r o).tour.times := by
  have hr := (run_ok h).1
  obtain ⟨p1, p2, p3, p4⟩ := right_parts hr
  obtain ⟨q1, q2, q3⟩ := T.load_parts p2
  have hc := T.check_tare q1 h0 h1
  have hst := check_parts q1
  have ld : ∀ p, T.load s r p = true → T.load { s with tare := t } r p = true := fun p hp => by
    obtain ⟨_, a, b⟩ := T.load_parts hp
    exact T.load_mk hc a b
  have hr' : right nd l { s with tare := t } r o = true := by
    simp only [right, Bool.and_eq_true, beq_iff_eq, decide_eq_true_eq, List.all_eq_true]
    exact ⟨p1, ld o p2, p3, fun i hi => p4 i hi⟩
  refine run_dom h hr' rfl rfl rfl ⟨hst.2.2.1, Int.le_refl _⟩ (fun i _ => ⟨rfl, rfl, rfl, rfl, rfl⟩) (fun p hp => ?_) (fun p hp hf => ?_)
  · have hl := T.load_sub p2 hp.sublist
    rw [T.weight_eq hl, T.weight_eq (ld p hl)]
    simp only
    omega
  · obtain ⟨f1, f2⟩ := T.fits_iff.1 hf
    exact T.fits_iff.2 ⟨ld p f1, f2⟩

/-- An earlier beginning. -/
theorem heavy_start {nd : Int} {l : List Ro} {s : S} {r : List Q} {o : List Int} (h : (run nd l s r o).e = 0) {t : Int} (h0 : 0 ≤ t) (h1 : t ≤ s.start) : Better nd l s r o { s with start := t } r o ∧ Ahead (run nd l { s with start := t } r o).tour.times (run nd l s r o).tour.times := by
  have hr := (run_ok h).1
  obtain ⟨p1, p2, p3, p4⟩ := right_parts hr
  obtain ⟨q1, q2, q3⟩ := T.load_parts p2
  have hc := T.check_start q1 h0 h1
  have ld : ∀ p, T.load s r p = true → T.load { s with start := t } r p = true := fun p hp => by
    obtain ⟨_, a, b⟩ := T.load_parts hp
    exact T.load_mk hc a b
  have hr' : right nd l { s with start := t } r o = true := by
    simp only [right, Bool.and_eq_true, beq_iff_eq, decide_eq_true_eq, List.all_eq_true]
    exact ⟨p1, ld o p2, p3, fun i hi => p4 i hi⟩
  refine run_dom h hr' rfl rfl rfl ⟨h0, h1⟩ (fun i _ => ⟨rfl, rfl, rfl, rfl, rfl⟩) (fun p hp => ?_) (fun p hp hf => ?_)
  · have hl := T.load_sub p2 hp.sublist
    rw [T.weight_eq hl, T.weight_eq (ld p hl)]
    simp only
    omega
  · obtain ⟨f1, f2⟩ := T.fits_iff.1 hf
    exact T.fits_iff.2 ⟨ld p f1, f2⟩

theorem set_get {r : List Q} {k : Nat} {q q' : Q} (hk : r[k]? = some q) (i : Nat) : (r.set k q')[i]? = if i = k then some q' else r[i]? := by
  by_cases h : i = k
  · subst h
    rw [if_pos rfl, List.getElem?_set_self (List.getElem?_eq_some_iff.1 hk).1]
  · rw [if_neg h, List.getElem?_set_ne (Ne.symm h)]

/-- A lighter request. -/
theorem heavy_kilos {nd : Int} {l : List Ro} {s : S} {r : List Q} {o : List Int} (h : (run nd l s r o).e = 0) {k : Nat} {q : Q} (hk : r[k]? = some q) {t : Int} (h0 : 1 ≤ t) (h1 : t ≤ q.kilos) : Better nd l s r o s (r.set k { q with kilos := t }) o ∧ Ahead (run nd l s (r.set k { q with kilos := t }) o).tour.times (run nd l s r o).tour.times := by
  have hr := (run_ok h).1
  obtain ⟨p1, p2, p3, p4⟩ := right_parts hr
  obtain ⟨q1, q2, q3⟩ := T.load_parts p2
  have hst := check_parts q1
  have hal : ∀ i : Int, (req (r.set k { q with kilos := t }) i).node = (req r i).node ∧ (req (r.set k { q with kilos := t }) i).service = (req r i).service ∧ (req (r.set k { q with kilos := t }) i).frm = (req r i).frm ∧ (req (r.set k { q with kilos := t }) i).by_ = (req r i).by_ ∧ (req (r.set k { q with kilos := t }) i).l = (req r i).l := by
    intro i
    unfold req
    rw [set_get hk]
    by_cases e : i.toNat = k
    · rw [if_pos e, e, hk]; exact ⟨rfl, rfl, rfl, rfl, rfl⟩
    · rw [if_neg e]; exact ⟨rfl, rfl, rfl, rfl, rfl⟩
  have hall : T.allRight (r.set k { q with kilos := t }) := by
    intro y hy
    rcases List.mem_or_eq_of_mem_set hy with hy | rfl
    · exact q3 y hy
    · have := q3 q (List.mem_of_getElem? hk)
      have hkr := (T.right_room this).2
      simp only [T.right, Bool.and_eq_true] at this ⊢
      exact ⟨this.1, this.2.1, T.btw_iff.2 ⟨h0, by omega⟩, this.2.2.2⟩
  have hset : ∀ p, T.isSet r.length p = true → T.isSet ((r.set k { q with kilos := t }).length : Nat) p = true := fun p hp => by rw [List.length_set]; exact hp
  have ld : ∀ p, T.load s r p = true → T.load s (r.set k { q with kilos := t }) p = true := fun p hp => by
    obtain ⟨a, b, _⟩ := T.load_parts hp
    exact T.load_mk a (hset p b) hall
  have hr' : right nd l s (r.set k { q with kilos := t }) o = true := by
    simp only [right, Bool.and_eq_true, beq_iff_eq, decide_eq_true_eq, List.all_eq_true]
    exact ⟨p1, ld o p2, p3, fun i hi => by rw [(hal i).1]; exact p4 i hi⟩
  have hki : ∀ j i : Int, T.kilo (r.set k { q with kilos := t }) j i ≤ T.kilo r j i := by
    intro j i
    unfold T.kilo
    rw [set_get hk]
    by_cases e : i.toNat = k
    · rw [if_pos e, e, hk]
      simp only
      split
      · exact h1
      · exact Int.le_refl _
    · rw [if_neg e]; exact Int.le_refl _
  have hro : ∀ (j : Int) (p : List Int), T.room (r.set k { q with kilos := t }) j p ≤ T.room r j p := by
    intro j p
    induction p with
    | nil => exact Int.le_refl _
    | cons i p ih => have := hki j i; simp only [T.room]; omega
  refine run_dom h hr' rfl rfl rfl ⟨hst.2.2.1, Int.le_refl _⟩ (fun i _ => hal i) (fun p hp => ?_) (fun p hp hf => ?_)
  · have hl := T.load_sub p2 hp.sublist
    rw [T.weight_eq hl, T.weight_eq (ld p hl)]
    have a := hro 0 p
    have b := hro 1 p
    have c := hro 2 p
    omega
  · obtain ⟨f1, f2, f3, f4⟩ := T.fits_iff.1 hf
    have a := hro 0 p
    have b := hro 1 p
    have c := hro 2 p
    exact T.fits_iff.2 ⟨ld p f1, by omega, by omega, by omega⟩

/-- An order without the request at a place. -/
theorem skips {nd : Int} {l : List Ro} {s : S} {r : List Q} {o1 o2 : List Int} {i : Int} (h : (run nd l s r (o1 ++ i :: o2)).e = 0) :
    Better nd l s r (o1 ++ i :: o2) s r (o1 ++ o2) ∧ ∃ t1 t2 t2' b, (run nd l s r (o1 ++ i :: o2)).tour.times = t1 ++ b :: t2 ∧ (run nd l s r (o1 ++ o2)).tour.times = t1 ++ t2' ∧ t1.length = o1.length ∧ Ahead t2' t2 := by
  obtain ⟨h1, h2, h3, h4⟩ := run_ok h
  obtain ⟨p1, p2, p3, p4⟩ := right_parts h1
  obtain ⟨-, ⟨d0, d1⟩, st0, st1, -⟩ := check_parts (T.load_parts p2).1
  have hfine := fine_right h1
  have hsub : (o1 ++ o2).Sublist (o1 ++ i :: o2) := (List.Sublist.refl o1).append (List.sublist_cons_self i o2)
  have hr' := right_sub h1 hsub
  have hp1 := (legs_take (nd := nd) (l := l) (s := s) (r := r) (o1 ++ i :: o2) [] s.depot s.start o1.length).1 (by
    have := (legs_full (nd := nd) (l := l) (s := s) (r := r) (o1 ++ i :: o2) [] s.depot s.start).1 h2
    rw [this, List.length_append]; omega)
  rw [List.take_left] at hp1
  have e1 : (legs nd l s r [] s.depot s.start o1).e = 0 := hp1.1
  have hl1 := (legs_full (nd := nd) (l := l) (s := s) (r := r) o1 [] s.depot s.start).1 e1
  have hA := legs_app o1 [] s.depot s.start (i :: o2) e1
  have hB := legs_app o1 [] s.depot s.start o2 e1
  rw [List.nil_append] at hA hB
  obtain ⟨ha, ht⟩ := legs_at o1 [] s.depot s.start (fun j hj => hfine j (List.mem_append_left _ hj)) ⟨d0, p3⟩ st0 e1
  obtain ⟨a, hae⟩ : ∃ a, a = (legs nd l s r [] s.depot s.start o1).a := ⟨_, rfl⟩
  obtain ⟨t, hte⟩ : ∃ t, t = (legs nd l s r [] s.depot s.start o1).t := ⟨_, rfl⟩
  rw [← hae, ← hte] at hA hB
  rw [← hae] at ha
  rw [← hte] at ht
  have e2 : (legs nd l s r o1 a t (i :: o2)).e = 0 := by
    have : (legs nd l s r [] s.depot s.start (o1 ++ i :: o2)).e = 0 := h2
    rw [hA] at this; exact this
  obtain ⟨k1, k2⟩ := legs_cons_ok e2
  have e3 : (legs nd l s r (o1 ++ [i]) (req r i).node ((leg nd l s r o1 i a t).1 + (req r i).service) o2).e = 0 := by rw [k2] at e2; exact e2
  obtain ⟨⟨n0, n1⟩, n2⟩ := hfine i (by simp)
  obtain ⟨-, -, l3, l4, l5, l6, l7⟩ := leg_ok k1
  obtain ⟨r1, r2, r3, r4⟩ := reach_ok l4
  obtain ⟨-, -, -, f4, -⟩ := H.fit_ok l5
  have hpi : (o1 ++ [i]).Sublist (o1 ++ i :: o2) := (List.Sublist.refl o1).append (by simp)
  have hw0 : T.weight s r o1 ≤ T.weight s r (o1 ++ [i]) := T.weight_sub (T.load_sub p2 hpi) (by simp)
  have hd : Dom nd l s r (o1 ++ [i]) (req r i).node ((leg nd l s r o1 i a t).1 + (req r i).service) s r o1 a t := by
    intro c hc hrc
    obtain ⟨w1, w2, w3, w4⟩ := reach_ok hrc
    obtain ⟨g1, g2, g3⟩ := way_tri p1 ha ⟨n0, n1⟩ hc hw0 r1 w1
    have : t + way nd l a (T.weight s r o1) c ≤ (reach nd l s r (o1 ++ [i]) (req r i).node ((leg nd l s r o1 i a t).1 + (req r i).service) c).1 := by
      rw [w3, l6]; omega
    rw [reach_mk g1 (by omega)]
    exact ⟨rfl, by simp only; omega, by simp only; exact this⟩
  have hsubs : ∀ p, p <+: o2 → (o1 ++ p).Sublist (o1 ++ [i] ++ p) ∧ T.load s r (o1 ++ [i] ++ p) = true := fun p hp => by
    refine ⟨by simp, T.load_sub p2 ?_⟩
    rw [List.append_assoc]
    exact (List.Sublist.refl o1).append (List.Sublist.cons_cons i hp.sublist)
  obtain ⟨g1, g2, g3⟩ := legs_dom p1 (s := s) (s' := s) rfl (Int.le_refl _) o2 (o1 ++ [i]) o1 _ _ _ _ (fun _ _ => ⟨rfl, rfl, rfl, rfl, rfl⟩) (fun j hj => hfine j (by simp [hj])) (fun p hp => T.weight_sub (hsubs p hp).2 (hsubs p hp).1) (fun p hp hf => T.fits_sub hf (hsubs p hp).1) hd e3
  have hb := g3 s.depot ⟨d0, p3⟩ (by
    have h9 := h3
    unfold back all at h9
    rw [hA, k2] at h9
    simp only at h9
    simpa using h9)
  have hall : (all nd l s r (o1 ++ o2)).e = 0 := by unfold all; rw [hB]; exact g1
  have hb1 : (back nd l s r (o1 ++ o2)).2 = 0 := by unfold back all; rw [hB]; exact hb.1
  have h5 := run_mk hr' hall hb1
  unfold Better
  rw [h5, h4]
  refine ⟨⟨rfl, ?_⟩, (legs nd l s r [] s.depot s.start o1).times, (legs nd l s r (o1 ++ [i]) (req r i).node ((leg nd l s r o1 i a t).1 + (req r i).service) o2).times, (legs nd l s r o1 a t o2).times, (leg nd l s r o1 i a t).1, ?_, ?_, hl1, g2⟩
  · have := hb.2.2
    unfold back all
    rw [hA, hB, k2]
    simp only
    simpa using this
  · simp only
    unfold all
    rw [hA, k2]
  · simp only
    unfold all
    rw [hB]
end K
end Go.Proofs.Ytippdjmpkafifaa
