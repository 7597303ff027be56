/-
Plain laws: of the tours that end as early the search returns the first one.
-/
import Derived.Test.YtjcdpfpdjcannaaVE
namespace Go.Proofs.Ytjcdpfpdjcannaa
open Go.RowKit
namespace K
/-- Whether a list is not behind another one. -/
def lexle : List Int → List Int → Bool
  | [], _ => true
  | _ :: _, [] => false
  | a :: x, b :: y => if a = b then lexle x y else decide (a < b)
theorem lexle_refl : ∀ l : List Int, lexle l l = true
  | [] => rfl
  | a :: x => by simp [lexle, lexle_refl x]
theorem lexle_less {a b : Int} (h : a < b) (x y : List Int) : ∀ p : List Int, lexle (p ++ a :: x) (p ++ b :: y) = true
  | [] => by simp [lexle, h]; omega
  | c :: p => by simp [lexle, lexle_less h x y p]
theorem lexle_at {x y : List Int} {k : Nat} {a b : Int} (hx : x[k]? = some a) (hy : y[k]? = some b) : lexle (x.drop k) (y.drop k) = if a = b then lexle (x.drop (k + 1)) (y.drop (k + 1)) else decide (a < b) := by
  obtain ⟨h1, e1⟩ := List.getElem?_eq_some_iff.1 hx
  obtain ⟨h2, e2⟩ := List.getElem?_eq_some_iff.1 hy
  rw [List.drop_eq_getElem_cons h1, List.drop_eq_getElem_cons h2, e1, e2]
  rfl

section
variable {nd : Int} {l : List Ro} {s : S} {r : List Q} {v : List Int}

theorem step_stops {a b : St} {i : Nat} {k : Int} (h : onward nd l s r v a i k = some b) : b.stops = a.stops ++ [k] := by
  obtain ⟨-, -, -, e⟩ := onward_some h
  rw [e]
theorem ends_stops {a : St} {t : Tr} (h : Ends nd l s r v a t) : ∃ x, t.stops = a.stops ++ x := by
  induction h with
  | home h => obtain ⟨-, -, -, rfl⟩ := h; exact ⟨[], by simp⟩
  | step h h2 ih =>
    obtain ⟨i, k, -, ho⟩ := h
    obtain ⟨x, hx⟩ := ih
    exact ⟨k :: x, by rw [hx, step_stops ho]; simp⟩

/-- What the search hands back, of the tours in P: the first one of those that end earliest. -/
structure First (P : Tr → Prop) (best R : Option Tr) : Prop where
  sound : ∀ t, R = some t → best = some t ∨ P t
  keeps : ∀ b, best = some b → ∃ t, R = some t ∧ (t = b ∨ t.end_ < b.end_)
  least : ∀ t, P t → ∃ t', R = some t' ∧ t'.end_ ≤ t.end_ ∧ (t'.end_ = t.end_ → best = some t' ∨ lexle t'.stops t.stops = true)

theorem go_first (hs : v.Pairwise (· < ·)) {rec : St → Option Tr → Option Tr} {st : St} (hrec : ∀ st' b, Step nd l s r v st st' → First (Ends nd l s r v st') b (rec st' b)) : ∀ (rest : List Int) (i : Nat) (best : Option Tr), v.drop i = rest →
    First (fun t => ∃ j k st', i ≤ j ∧ v[j]? = some k ∧ onward nd l s r v st j k = some st' ∧ Ends nd l s r v st' t) best (seek.go rec nd l s r v st best i rest) := by
  intro rest
  induction rest with
  | nil =>
    intro i best hd
    refine ⟨fun t h => .inl h, fun b h => ⟨b, h, .inl rfl⟩, ?_⟩
    rintro t ⟨j, k, st', hj, hk, -⟩
    have h1 := (List.getElem?_eq_some_iff.1 hk).1
    have h2 : v.length ≤ i := by simpa using hd
    omega
  | cons k rest ih =>
    intro i best hd
    have hk : v[i]? = some k := by
      have h1 : (v.drop i)[0]? = some k := by rw [hd]; rfl
      simpa using h1
    have hd2 : v.drop (i + 1) = rest := by
      have h1 : (v.drop i).drop 1 = rest := by rw [hd]; rfl
      simpa [List.drop_drop] using h1
    unfold seek.go
    cases ho : onward nd l s r v st i k with
    | none =>
      obtain ⟨a1, a2, a3⟩ := ih (i + 1) best hd2
      refine ⟨fun t h => (a1 t h).imp id ?_, a2, ?_⟩
      · rintro ⟨j, k', st', hj, h⟩
        exact ⟨j, k', st', by omega, h⟩
      · rintro t ⟨j, k', st', hj, hk', ho', he⟩
        refine a3 t ⟨j, k', st', ?_, hk', ho', he⟩
        rcases Nat.eq_or_lt_of_le hj with rfl | hj
        · rw [hk] at hk'; injection hk' with hk'; subst hk'; rw [ho] at ho'; cases ho'
        · omega
    | some st1 =>
      obtain ⟨b1, b2, b3⟩ := hrec st1 best ⟨i, k, hk, ho⟩
      obtain ⟨a1, a2, a3⟩ := ih (i + 1) (rec st1 best) hd2
      refine ⟨fun t h => ?_, fun b h => ?_, ?_⟩
      · rcases a1 t h with h | ⟨j, k', st', hj, h⟩
        · exact (b1 t h).imp id fun h => ⟨i, k, st1, Nat.le_refl _, hk, ho, h⟩
        · exact .inr ⟨j, k', st', by omega, h⟩
      · obtain ⟨t, h1, h2⟩ := b2 b h
        obtain ⟨t', h3, h4⟩ := a2 t h1
        refine ⟨t', h3, ?_⟩
        rcases h4 with rfl | h4
        · exact h2
        · rcases h2 with rfl | h2
          · exact .inr h4
          · exact .inr (by omega)
      · rintro t ⟨j, k', st', hj, hk', ho', he⟩
        rcases Nat.eq_or_lt_of_le hj with rfl | hj
        · rw [hk] at hk'; injection hk' with hk'; subst hk'; rw [ho] at ho'; injection ho' with ho'; subst ho'
          obtain ⟨t1, h1, h2, h5⟩ := b3 t he
          obtain ⟨t', h3, h4⟩ := a2 t1 h1
          refine ⟨t', h3, ?_, fun heq => ?_⟩
          · rcases h4 with rfl | h4 <;> omega
          · rcases h4 with rfl | h4
            · exact h5 heq
            · omega
        · obtain ⟨t', h3, h4, h5⟩ := a3 t ⟨j, k', st', by omega, hk', ho', he⟩
          refine ⟨t', h3, h4, fun heq => ?_⟩
          rcases h5 heq with h6 | h6
          · rcases b1 t' h6 with h7 | h7
            · exact .inl h7
            · refine .inr ?_
              obtain ⟨x, hx⟩ := ends_stops h7
              obtain ⟨y, hy⟩ := ends_stops he
              rw [hx, hy, step_stops ho, step_stops ho']
              have hlt : k < k' := by
                obtain ⟨q1, e1⟩ := List.getElem?_eq_some_iff.1 hk
                obtain ⟨q2, e2⟩ := List.getElem?_eq_some_iff.1 hk'
                rw [← e1, ← e2]
                exact (List.pairwise_iff_getElem.1 hs) i j q1 q2 hj
              simpa using lexle_less hlt x y st.stops
          · exact .inr h6

theorem seek_first (hc : Case31 nd l s r v) (hs : v.Pairwise (· < ·)) : ∀ (f : Nat) (st : St) (best : Option Tr), st.bits < 2 ^ v.length → 2 ^ v.length ≤ st.bits + f → First (Ends nd l s r v st) best (seek nd l s r v f st best) := by
  intro f
  induction f with
  | zero => intro st best h1 h2; omega
  | succ f ih =>
    intro st best hb hf
    unfold seek
    split
    · rename_i hl
      obtain ⟨b, rfl, hle⟩ : ∃ b, best = some b ∧ b.end_ ≤ st.t := by
        cases best with
        | none => simp [late] at hl
        | some b => exact ⟨b, rfl, by simpa [late] using hl⟩
      exact ⟨fun t h => .inl h, fun b' h => ⟨b', h, .inl rfl⟩, fun t h => ⟨b, rfl, Int.le_trans hle (ends_time hc h), fun _ => .inl rfl⟩⟩
    · split
      · rename_i hl hfull
        have hends : ∀ t, Ends nd l s r v st t → Home nd l s r v st t := fun t h => by
          cases h with
          | home h => exact h
          | step h h2 => exact absurd h (full_no_step hfull)
        unfold home
        split
        · rename_i h
          obtain ⟨h1, h2, h3⟩ := h
          refine ⟨fun t ht => .inr (.home ⟨hfull, h1, h2, ?_⟩), fun b hb => ⟨_, rfl, ?_⟩, fun t ht => ⟨_, rfl, ?_⟩⟩
          · injection ht with ht; exact ht.symm
          · subst hb
            simp only [better, decide_eq_true_eq] at h3
            refine .inr ?_
            show _ + _ < _
            omega
          · obtain ⟨-, -, -, rfl⟩ := hends t ht
            exact ⟨Int.le_refl _, fun _ => .inr (lexle_refl _)⟩
        · rename_i h
          refine ⟨fun t h => .inl h, fun b h => ⟨b, h, .inl rfl⟩, fun t ht => ?_⟩
          obtain ⟨-, h1, h2, rfl⟩ := hends t ht
          cases best with
          | none => exact absurd ⟨h1, h2, rfl⟩ h
          | some b =>
            refine ⟨b, rfl, ?_, fun _ => .inl rfl⟩
            have h3 : ¬ better (some b) (st.t + way nd l st.a (T.weight s r (part v st.bits)) s.depot) = true := fun h4 => h ⟨h1, h2, h4⟩
            simp only [better, decide_eq_true_eq] at h3
            show b.end_ ≤ _ + _
            omega
      · rename_i hl hfull
        have hg := go_first (nd := nd) (l := l) (s := s) (r := r) (v := v) hs (rec := seek nd l s r v f) (st := st) (fun st' b h => ih st' b (step_bits hc h hb).1 (by have := (step_bits hc h hb).2; omega)) v 0 best rfl
        refine ⟨fun t h => (hg.sound t h).imp id ?_, hg.keeps, fun t h => ?_⟩
        · rintro ⟨j, k, st', -, hk, ho, he⟩
          exact .step ⟨j, k, hk, ho⟩ he
        · cases h with
          | home h => exact absurd h.1 hfull
          | step h h2 =>
            obtain ⟨j, k, hk, ho⟩ := h
            exact hg.least t ⟨j, k, _, Nat.zero_le _, hk, ho, h2⟩

theorem set_sorted (h : ok31 nd l s r v = true) : v.Pairwise (· < ·) := ((setGo_iff _ _).1 (ok31_parts h).2.2.2.2.2).2

/-- An order of the set, as the statement tells it. -/
theorem inSet_perm (hok : ok31 nd l s r v = true) (hr : r.length ≤ 1000) {o : List Int} : inSet o v = true ↔ o.Perm v := by
  have hnd := set_nodup hok
  unfold inSet
  simp only [Bool.and_eq_true, beq_iff_eq, List.all_eq_true, List.any_eq_true]
  rw [T.isSet_iff]
  constructor
  · rintro ⟨h1, ⟨-, h2⟩, h3⟩
    have h4 : (o.filter fun x => decide (x ∈ v)).Perm v := by
      refine (List.perm_ext_iff_of_nodup (h2.filter _) hnd).2 fun x => ?_
      rw [List.mem_filter]
      constructor
      · rintro ⟨-, h⟩; exact of_decide_eq_true h
      · intro h
        obtain ⟨y, hy, e⟩ := h3 x h
        exact ⟨by rw [← e]; exact hy, decide_eq_true h⟩
    have h5 : (o.filter fun x => decide (x ∈ v)).length = o.length := by rw [h4.length_eq, h1]
    have h6 : o.filter (fun x => decide (x ∈ v)) = o := List.filter_eq_self.2 (List.length_filter_eq_length_iff.1 h5)
    rw [h6] at h4
    exact h4
  · intro h
    refine ⟨h.length_eq, ⟨fun x hx => ?_, h.nodup_iff.2 hnd⟩, fun x hx => ⟨x, h.mem_iff.2 hx, rfl⟩⟩
    obtain ⟨g0, g1, -⟩ := ((setGo_iff _ _).1 (ok31_parts hok).2.2.2.2.2).1 x (h.mem_iff.1 hx)
    omega

/-- The law of RouteBest: a better tour than an order that can be served. -/
theorem best_law (hok : ok31 nd l s r v = true) {o : List Int} (hp : o.Perm v) (he : (run nd l s r o).e = 0) :
    ∃ t, best nd l s r v = some t ∧ t.end_ ≤ (run nd l s r o).tour.end_ ∧ (t.end_ = (run nd l s r o).tour.end_ → lexle t.stops o = true) := by
  have hc := case31 hok
  obtain ⟨q, c, hh, hH, hst⟩ := run_home hok hp he
  obtain ⟨t, h1, h2, h3⟩ := (seek_first hc (set_sorted hok) _ _ none (Nat.two_pow_pos _) (Nat.le_add_left _ _) : First _ none (best nd l s r v)).least _ (hits_ends hh (.home hH))
  refine ⟨t, h1, h2, fun h4 => ?_⟩
  rcases h3 h4 with h5 | h5
  · cases h5
  · obtain ⟨-, -, -, e⟩ := hH
    rw [e] at h5
    rw [← hst]
    exact h5
theorem best_tour (hok : ok31 nd l s r v = true) {t : Tr} (h : best nd l s r v = some t) : t.stops.Perm v ∧ run nd l s r t.stops = ⟨t, 0, t.stops.length⟩ ∧ t.times.length = t.stops.length := by
  have hE : Ends nd l s r v (St.first s) t := by
    rcases (best_sees (case31 hok)).sound t h with h | h
    · cases h
    · exact h
  obtain ⟨q, c, hh, hH⟩ := ends_hits hE none .first
  obtain ⟨h1, h2⟩ := home_run hok hh hH
  refine ⟨h1, h2, ?_⟩
  obtain ⟨-, -, -, e⟩ := hH
  rw [e]
  exact (hits_times (case31 hok) hh).1
end
end K
end Go.Proofs.Ytjcdpfpdjcannaa
