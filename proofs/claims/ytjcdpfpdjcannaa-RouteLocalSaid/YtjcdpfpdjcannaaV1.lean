/-
Plain laws of the search for the best tour: its end is the least of all orders; a label is the least of all orders of its part.
-/
import Derived.Test.YtjcdpfpdjcannaaPP
namespace Go.Proofs.Ytjcdpfpdjcannaa
open Go.RowKit
namespace K

/-- What the laws want of a case. -/
structure Case31 (nd : Int) (l : List Ro) (s : S) (r : List Q) (v : List Int) : Prop where
  len : v.length ≤ 6
  ok : ∀ i ∈ v, 0 ≤ (req r i).service ∧ (req r i).service ≤ 1000000 ∧ H.right (req r i).l = true
  start : 0 ≤ s.start
  end_ : s.end_ ≤ 1000000
theorem case31 {nd : Int} {l : List Ro} {s : S} {r : List Q} {v : List Int} (h : ok31 nd l s r v = true) : Case31 nd l s r v := by
  obtain ⟨-, hck, -, hrq, hl6, hgo⟩ := ok31_parts h
  obtain ⟨-, -, st0, st1, en1⟩ := check_parts hck
  refine ⟨hl6, fun i hi => ?_, st0, en1⟩
  obtain ⟨h0, h1, -⟩ := setGo_nodes _ _ hgo _ hi
  obtain ⟨q, hq⟩ : ∃ q, r[i.toNat]? = some q := ⟨_, List.getElem?_eq_getElem (by omega)⟩
  have hi2 : i = (i.toNat : Int) := by omega
  rw [hi2, req_get hq]
  obtain ⟨-, hs, hr⟩ := right_req (hrq q (List.mem_of_getElem? hq))
  exact ⟨hs.1, hs.2, hr⟩

section
variable {nd : Int} {l : List Ro} {s : S} {r : List Q} {v : List Int}

/-- A step: one more request. -/
def Step (nd : Int) (l : List Ro) (s : S) (r : List Q) (v : List Int) (a b : St) : Prop := ∃ i k, v[i]? = some k ∧ onward nd l s r v a i k = some b
/-- A state from which the truck comes home in time, and the tour that it has driven. -/
def Home (nd : Int) (l : List Ro) (s : S) (r : List Q) (v : List Int) (c : St) (t : Tr) : Prop :=
  c.bits = 2 ^ v.length - 1 ∧ way nd l c.a (T.weight s r (part v c.bits)) s.depot ≠ -1 ∧ c.t + way nd l c.a (T.weight s r (part v c.bits)) s.depot ≤ s.end_ ∧
    t = ⟨c.stops, c.times, c.t + way nd l c.a (T.weight s r (part v c.bits)) s.depot⟩
/-- The tours that go on from a state. -/
inductive Ends (nd : Int) (l : List Ro) (s : S) (r : List Q) (v : List Int) : St → Tr → Prop
  | home {c : St} {t : Tr} (h : Home nd l s r v c t) : Ends nd l s r v c t
  | step {a b : St} {t : Tr} (h : Step nd l s r v a b) (h2 : Ends nd l s r v b t) : Ends nd l s r v a t

theorem onward_some {st st' : St} {i : Nat} {k : Int} (h : onward nd l s r v st i k = some st') :
    st.bits.testBit i = false ∧ way nd l st.a (T.weight s r (part v st.bits)) (req r k).node ≠ -1 ∧
    (begins s r (req r k) (part v (st.bits + 2 ^ i)) (st.t + way nd l st.a (T.weight s r (part v st.bits)) (req r k).node)).2 = true ∧
    st' = ⟨st.bits + 2 ^ i, (req r k).node, (begins s r (req r k) (part v (st.bits + 2 ^ i)) (st.t + way nd l st.a (T.weight s r (part v st.bits)) (req r k).node)).1 + (req r k).service,
      st.stops ++ [k], st.times ++ [(begins s r (req r k) (part v (st.bits + 2 ^ i)) (st.t + way nd l st.a (T.weight s r (part v st.bits)) (req r k).node)).1]⟩ := by
  unfold onward at h
  split at h
  · cases h
  · rename_i h1
    split at h
    · cases h
    · rename_i h2
      split at h
      · cases h
      · rename_i h3
        injection h with h
        exact ⟨by simpa using h1, h2, by simpa using h3, h.symm⟩

theorem step_time (hc : Case31 nd l s r v) {a b : St} (h : Step nd l s r v a b) : a.t ≤ b.t := by
  obtain ⟨i, k, hk, ho⟩ := h
  obtain ⟨-, h2, h3, rfl⟩ := onward_some ho
  have h4 := begins_ok h3
  have h5 := way_bd nd l a.a (T.weight s r (part v a.bits)) (req r k).node
  have h6 := (hc.ok k (List.mem_of_getElem? hk)).1
  show a.t ≤ _ + _
  omega
theorem ends_time (hc : Case31 nd l s r v) {a : St} {t : Tr} (h : Ends nd l s r v a t) : a.t ≤ t.end_ := by
  induction h with
  | home h =>
    obtain ⟨-, h2, -, rfl⟩ := h
    have h5 := way_bd nd l ‹St›.a (T.weight s r (part v ‹St›.bits)) s.depot
    show _ ≤ _ + _
    omega
  | step h h2 ih => exact Int.le_trans (step_time hc h) ih

theorem full_no_step {a b : St} (h : a.bits = 2 ^ v.length - 1) : ¬ Step nd l s r v a b := by
  rintro ⟨i, k, hk, ho⟩
  obtain ⟨h1, -⟩ := onward_some ho
  have hi := (List.getElem?_eq_some_iff.1 hk).1
  rw [h, Nat.testBit_two_pow_sub_one] at h1
  simp [hi] at h1
theorem step_bits (hc : Case31 nd l s r v) {a b : St} (h : Step nd l s r v a b) (ha : a.bits < 2 ^ v.length) : b.bits < 2 ^ v.length ∧ a.bits < b.bits := by
  obtain ⟨i, k, hk, ho⟩ := h
  obtain ⟨h1, -, -, rfl⟩ := onward_some ho
  have hi := (List.getElem?_eq_some_iff.1 hk).1
  have := Nat.two_pow_pos i
  exact ⟨bits_next hc.len ha hi h1, by show a.bits < a.bits + 2 ^ i; omega⟩

/-- What the search hands back, of the tours in P. -/
structure Sees (P : Tr → Prop) (best R : Option Tr) : Prop where
  sound : ∀ t, R = some t → best = some t ∨ P t
  keeps : ∀ b, best = some b → ∃ t, R = some t ∧ t.end_ ≤ b.end_
  least : ∀ t, P t → ∃ t', R = some t' ∧ t'.end_ ≤ t.end_

theorem go_sees {rec : St → Option Tr → Option Tr} {st : St} (hrec : ∀ st' b, Step nd l s r v st st' → Sees (Ends nd l s r v st') b (rec st' b)) : ∀ (rest : List Int) (i : Nat) (best : Option Tr), v.drop i = rest →
    Sees (fun t => ∃ j k st', i ≤ j ∧ v[j]? = some k ∧ onward nd l s r v st j k = some st' ∧ Ends nd l s r v st' t) best (seek.go rec nd l s r v st best i rest) := by
  intro rest
  induction rest with
  | nil =>
    intro i best hd
    refine ⟨fun t h => .inl h, fun b h => ⟨b, h, Int.le_refl _⟩, ?_⟩
    rintro t ⟨j, k, st', hj, hk, -⟩
    have h1 := (List.getElem?_eq_some_iff.1 hk).1
    have h2 : v.length ≤ i := by simpa using hd
    omega
  | cons k rest ih =>
    intro i best hd
    have hk : v[i]? = some k := by
      have h1 : (v.drop i)[0]? = some k := by rw [hd]; rfl
      simpa using h1
    have hd2 : v.drop (i + 1) = rest := by
      have h1 : (v.drop i).drop 1 = rest := by rw [hd]; rfl
      simpa [List.drop_drop] using h1
    unfold seek.go
    cases ho : onward nd l s r v st i k with
    | none =>
      obtain ⟨a1, a2, a3⟩ := ih (i + 1) best hd2
      refine ⟨fun t h => (a1 t h).imp id ?_, a2, ?_⟩
      · rintro ⟨j, k', st', hj, h⟩
        exact ⟨j, k', st', by omega, h⟩
      · rintro t ⟨j, k', st', hj, hk', ho', he⟩
        refine a3 t ⟨j, k', st', ?_, hk', ho', he⟩
        rcases Nat.eq_or_lt_of_le hj with rfl | hj
        · rw [hk] at hk'; injection hk' with hk'; subst hk'; rw [ho] at ho'; cases ho'
        · omega
    | some st1 =>
      obtain ⟨b1, b2, b3⟩ := hrec st1 best ⟨i, k, hk, ho⟩
      obtain ⟨a1, a2, a3⟩ := ih (i + 1) (rec st1 best) hd2
      refine ⟨fun t h => ?_, fun b h => ?_, ?_⟩
      · rcases a1 t h with h | ⟨j, k', st', hj, h⟩
        · exact (b1 t h).imp id fun h => ⟨i, k, st1, Nat.le_refl _, hk, ho, h⟩
        · exact .inr ⟨j, k', st', by omega, h⟩
      · obtain ⟨t, h1, h2⟩ := b2 b h
        obtain ⟨t', h3, h4⟩ := a2 t h1
        exact ⟨t', h3, by omega⟩
      · rintro t ⟨j, k', st', hj, hk', ho', he⟩
        rcases Nat.eq_or_lt_of_le hj with rfl | hj
        · rw [hk] at hk'; injection hk' with hk'; subst hk'; rw [ho] at ho'; injection ho' with ho'; subst ho'
          obtain ⟨t1, h1, h2⟩ := b3 t he
          obtain ⟨t', h3, h4⟩ := a2 t1 h1
          exact ⟨t', h3, by omega⟩
        · exact a3 t ⟨j, k', st', by omega, hk', ho', he⟩

theorem seek_sees (hc : Case31 nd l s r v) : ∀ (f : Nat) (st : St) (best : Option Tr), st.bits < 2 ^ v.length → 2 ^ v.length ≤ st.bits + f → Sees (Ends nd l s r v st) best (seek nd l s r v f st best) := by
  intro f
  induction f with
  | zero => intro st best h1 h2; omega
  | succ f ih =>
    intro st best hb hf
    unfold seek
    split
    · rename_i hl
      obtain ⟨b, rfl, hle⟩ : ∃ b, best = some b ∧ b.end_ ≤ st.t := by
        cases best with
        | none => simp [late] at hl
        | some b => exact ⟨b, rfl, by simpa [late] using hl⟩
      exact ⟨fun t h => .inl h, fun b' h => ⟨b', h, Int.le_refl _⟩, fun t h => ⟨b, rfl, Int.le_trans hle (ends_time hc h)⟩⟩
    · split
      · rename_i hl hfull
        have hends : ∀ t, Ends nd l s r v st t → Home nd l s r v st t := fun t h => by
          cases h with
          | home h => exact h
          | step h h2 => exact absurd h (full_no_step hfull)
        unfold home
        split
        · rename_i h
          obtain ⟨h1, h2, h3⟩ := h
          refine ⟨fun t ht => .inr (.home ⟨hfull, h1, h2, ?_⟩), fun b hb => ⟨_, rfl, ?_⟩, fun t ht => ⟨_, rfl, ?_⟩⟩
          · injection ht with ht; exact ht.symm
          · subst hb
            simp only [better, decide_eq_true_eq] at h3
            show _ + _ ≤ _
            omega
          · obtain ⟨-, -, -, rfl⟩ := hends t ht
            exact Int.le_refl _
        · rename_i h
          refine ⟨fun t h => .inl h, fun b h => ⟨b, h, Int.le_refl _⟩, fun t ht => ?_⟩
          obtain ⟨-, h1, h2, rfl⟩ := hends t ht
          cases best with
          | none => exact absurd ⟨h1, h2, rfl⟩ h
          | some b =>
            refine ⟨b, rfl, ?_⟩
            have h3 : ¬ better (some b) (st.t + way nd l st.a (T.weight s r (part v st.bits)) s.depot) = true := fun h4 => h ⟨h1, h2, h4⟩
            simp only [better, decide_eq_true_eq] at h3
            show b.end_ ≤ _ + _
            omega
      · rename_i hl hfull
        have hg := go_sees (nd := nd) (l := l) (s := s) (r := r) (v := v) (rec := seek nd l s r v f) (st := st) (fun st' b h => ih st' b (step_bits hc h hb).1 (by have := (step_bits hc h hb).2; omega)) v 0 best rfl
        refine ⟨fun t h => (hg.sound t h).imp id ?_, hg.keeps, fun t h => ?_⟩
        · rintro ⟨j, k, st', -, hk, ho, he⟩
          exact .step ⟨j, k, hk, ho⟩ he
        · cases h with
          | home h => exact absurd h.1 hfull
          | step h h2 =>
            obtain ⟨j, k, hk, ho⟩ := h
            exact hg.least t ⟨j, k, _, Nat.zero_le _, hk, ho, h2⟩

def St.first (s : S) : St := ⟨0, s.depot, s.start, [], []⟩
/-- The best tour is one, and none ends earlier. -/
theorem best_sees (hc : Case31 nd l s r v) : Sees (Ends nd l s r v (St.first s)) none (best nd l s r v) :=
  seek_sees hc _ _ _ (Nat.two_pow_pos _) (Nat.le_add_left _ _)
theorem best_none (hc : Case31 nd l s r v) : best nd l s r v = none ↔ ∀ t, ¬ Ends nd l s r v (St.first s) t := by
  have h := best_sees hc
  constructor
  · intro hn t ht
    obtain ⟨t', h1, -⟩ := h.least t ht
    rw [hn] at h1; cases h1
  · intro hn
    cases hb : best nd l s r v with
    | none => rfl
    | some t =>
      rcases h.sound t hb with h1 | h1
      · cases h1
      · exact absurd h1 (hn t)
end
end K
end Go.Proofs.Ytjcdpfpdjcannaa
