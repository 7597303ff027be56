/-
Plain laws: there are the labels of all parts in order, and each follows from those of the part without its element.
-/
import Derived.Test.YtjcdpfpdjcannaaVE
namespace Go.Proofs.Ytjcdpfpdjcannaa
open Go.RowKit
namespace K
theorem noted_comm {y1 t1 y2 t2 : Int} (f : Int) (g1 : -1 ≤ y1) (g2 : -1 ≤ t1) (g3 : -1 ≤ y2) (g4 : -1 ≤ t2) : noted y1 (noted y2 f t2) t1 = noted y2 (noted y1 f t1) t2 := by
  unfold noted
  by_cases h1 : y1 = -1 <;> by_cases h2 : y2 = -1 <;> by_cases h3 : t1 = -1 <;> by_cases h4 : t2 = -1 <;> simp only [h1, h2, h3, h4, ne_eq, not_true_eq_false, not_false_eq_true, false_and, true_and, if_false, and_false] <;> (repeat' split) <;> omega
theorem firsts_noted {nd : Int} {l : List Ro} {wt tn y t : Int} (hy : -1 ≤ y) (ht : -1 ≤ t) : ∀ (z : List (Int × Int)) (f : Int), (∀ p ∈ z, -1 ≤ p.2) → firsts nd l wt tn z (noted y f t) = noted y (firsts nd l wt tn z f) t
  | [], _, _ => rfl
  | p :: z, f, hz => by
    have h1 : ∀ f, firsts nd l wt tn (p :: z) f = firsts nd l wt tn z (noted (way nd l p.1 wt tn) f p.2) := fun _ => rfl
    rw [h1, h1, noted_comm f (way_bd _ _ _ _ _).1 (hz p (List.mem_cons_self ..)) hy ht, firsts_noted hy ht z _ fun q hq => hz q (List.mem_cons_of_mem _ hq)]

/-- Whether a service can be at a minute of arrival, in the statement's words. -/
def may (s : S) (r : List Q) (q : Q) (all : List Int) (f : Int) : Bool :=
  (H.fit q.l f q.service).2 && (decide (0 ≤ f) && (decide (f ≤ s.end_) && (decide ((H.fit q.l f q.service).1 + q.service ≤ s.end_) && (T.fits s r all && (decide (q.frm ≤ s.day) && decide (s.day ≤ q.by_))))))
theorem labelOf_may {s : S} {r : List Q} {q : Q} {all : List Int} {f : Int} : labelOf s r q all f = if may s r q all f = true then (H.fit q.l f q.service).1 + q.service else -1 := by
  unfold labelOf
  by_cases h1 : f = -1
  · rw [if_pos h1, if_neg]
    simp only [may, Bool.and_eq_true, decide_eq_true_eq]
    omega
  rw [if_neg h1]
  by_cases h2 : (begins s r q all f).2 = true
  · rw [if_pos h2]
    obtain ⟨a1, a2, a3, a4, a5, a6, a7⟩ := begins_ok h2
    rw [a3] at a6 ⊢
    have a8 : ¬ (s.day < q.frm ∨ q.by_ < s.day ∨ s.end_ < f ∨ T.fits s r all = false) := fun h => (a1 ▸ h : False)
    rw [if_pos]
    simp only [may, Bool.and_eq_true, decide_eq_true_eq]
    have a9 : T.fits s r all = true := by
      cases h : T.fits s r all with
      | true => rfl
      | false => exact absurd (.inr (.inr (.inr h))) a8
    have b1 : ¬ s.day < q.frm := fun h => a8 (.inl h)
    have b2 : ¬ q.by_ < s.day := fun h => a8 (.inr (.inl h))
    have b3 : ¬ s.end_ < f := fun h => a8 (.inr (.inr (.inl h)))
    exact ⟨a2, a4, by omega, a6, a9, by omega, by omega⟩
  · rw [if_neg h2, if_neg]
    intro h
    simp only [may, Bool.and_eq_true, decide_eq_true_eq] at h
    obtain ⟨c1, c2, c3, c4, c5, c6, c7⟩ := h
    apply h2
    unfold begins
    rw [if_neg]
    · simp only [Bool.and_eq_true, decide_eq_true_eq]
      exact ⟨c1, c4⟩
    · rintro (h | h | h | h)
      · omega
      · omega
      · omega
      · rw [c5] at h; cases h

section
variable (nd : Int) (l : List Ro) (s : S) (r : List Q) (v : List Int)
/-- The earliest arrival behind a part, of the first places. -/
def locGo (rest : Nat) (tn : Int) : Nat → Int
  | 0 => -1
  | i + 1 => noted (way nd l (req r ((v[i]?).getD 0)).node (T.weight s r (part v rest)) tn) (locGo rest tn i) (lab nd l s r v rest i)
/-- .. and of the depot. -/
def locF (rest : Nat) (tn : Int) : Int := noted (way nd l s.depot (T.weight s r (part v rest)) tn) (locGo nd l s r v rest tn v.length) (if rest = 0 then s.start else -1)
/-- How many labels there are before those of a part and a place. -/
def nlab (m i : Nat) : Nat := (tabLabs v.length (table nd l s r v (2 ^ v.length)) m).length + (rowLabs m (((table nd l s r v (2 ^ v.length))[m]?).getD []) i).length
end
section
variable {nd : Int} {l : List Ro} {s : S} {r : List Q} {v : List Int}
theorem locGo_bd (hc : Case31 nd l s r v) (rest : Nat) (tn : Int) : ∀ i, -1 ≤ locGo nd l s r v rest tn i ∧ locGo nd l s r v rest tn i ≤ 60001000000
  | 0 => by simp [locGo]
  | i + 1 => by
    have h1 := locGo_bd hc rest tn i
    have h2 := way_bd nd l (req r ((v[i]?).getD 0)).node (T.weight s r (part v rest)) tn
    have h3 := lab_bd hc rest i
    rw [locGo]
    unfold noted
    split <;> omega
theorem locF_bd (hc : Case31 nd l s r v) (hs : s.start ≤ 1000000) (rest : Nat) (tn : Int) : -1 ≤ locF nd l s r v rest tn ∧ locF nd l s r v rest tn ≤ 60001000000 := by
  have h1 := locGo_bd hc rest tn v.length
  have h2 := way_bd nd l s.depot (T.weight s r (part v rest)) tn
  have h3 := hc.start
  unfold locF
  by_cases h : rest = 0
  · rw [if_pos h]
    unfold noted
    split <;> omega
  · rw [if_neg h, noted_no2 rfl]
    exact h1
theorem locGo_firsts (rest : Nat) (tn : Int) : ∀ i, i ≤ v.length → locGo nd l s r v rest tn i = firsts nd l (T.weight s r (part v rest)) tn (((nodes r v).zip (rowOf nd l s r v (table nd l s r v rest) rest)).take i) (-1)
  | 0, _ => rfl
  | i + 1, hi => by
    have hil : i < v.length := hi
    have hz : ((nodes r v).zip (rowOf nd l s r v (table nd l s r v rest) rest))[i]? = some ((req r ((v[i]?).getD 0)).node, lab nd l s r v rest i) := by
      rw [List.getElem?_zip_eq_some]
      refine ⟨by rw [nodes, List.getElem?_map, List.getElem?_eq_getElem hil]; rfl, ?_⟩
      unfold lab
      rw [List.getElem?_eq_getElem (by rw [rowOf_len]; exact hil), Option.getD_some]
    rw [locGo, locGo_firsts rest tn i (by omega), take_snoc hz]
    unfold firsts
    rw [List.foldl_append]
    rfl
theorem locF_arrives (hc : Case31 nd l s r v) (rest : Nat) (q : Q) : locF nd l s r v rest q.node = arrives nd l s r v (rowOf nd l s r v (table nd l s r v rest) rest) rest q := by
  have h1 : first0 nd l s (T.weight s r (part v rest)) q.node rest = noted (way nd l s.depot (T.weight s r (part v rest)) q.node) (-1) (if rest = 0 then s.start else -1) := by
    unfold first0
    by_cases h : rest = 0
    · rw [if_pos h, if_pos h]
    · rw [if_neg h, if_neg h, noted_no2 rfl]
  unfold arrives locF
  have hst := hc.start
  rw [h1, firsts_noted (way_bd _ _ _ _ _).1 (by split <;> omega) _ _ fun p hp => ?_, locGo_firsts rest q.node v.length (Nat.le_refl _), List.take_of_length_le (by rw [List.length_zip, rowOf_len]; omega)]
  obtain ⟨a, b⟩ := p
  exact (rowOf_bd (fun k hk => (hc.ok k hk).1) b (List.of_mem_zip hp).2).1
/-- A label follows from those of the part without its element. -/
theorem lab_local (hc : Case31 nd l s r v) {m i : Nat} {k : Int} (hm : m < 2 ^ v.length) (hk : v[i]? = some k) (hb : m.testBit i = true) :
    lab nd l s r v m i = labelOf s r (req r k) (part v m) (locF nd l s r v (m - 2 ^ i) (req r k).node) := by
  have hil := (List.getElem?_eq_some_iff.1 hk).1
  have hl6 := hc.len
  have hm64 : m < 64 := Nat.lt_of_lt_of_le hm (Nat.pow_le_pow_right (by omega) hl6)
  obtain ⟨hre, hrb⟩ := bit_rest hm64 (by omega) hb
  have hpw := Nat.two_pow_pos i
  unfold lab
  rw [rowOf_at hk, Option.getD_some, if_pos hb, table_at (by omega), Option.getD_some, label, hre, locF_arrives hc]
/-- The earliest arrival so far: of the first j places, then of the depot, too. -/
def locU (nd : Int) (l : List Ro) (s : S) (r : List Q) (v : List Int) (rest : Nat) (tn : Int) (j : Nat) : Int := if j ≤ v.length then locGo nd l s r v rest tn j else locF nd l s r v rest tn
theorem locU_zero (rest : Nat) (tn : Int) : -1 = locU nd l s r v rest tn 0 := by unfold locU; rw [if_pos (Nat.zero_le _)]; rfl
theorem locU_next {rest : Nat} {tn : Int} {j : Nat} {k : Int} (h : v[j]? = some k) : locU nd l s r v rest tn (j + 1) = noted (way nd l (req r k).node (T.weight s r (part v rest)) tn) (locU nd l s r v rest tn j) (lab nd l s r v rest j) := by
  have hj := (List.getElem?_eq_some_iff.1 h).1
  unfold locU
  rw [if_pos (by omega), if_pos (by omega), locGo, h, Option.getD_some]
theorem locU_last {rest : Nat} {tn : Int} {j : Nat} (h : j = v.length) : locU nd l s r v rest tn (j + 1) = noted (way nd l s.depot (T.weight s r (part v rest)) tn) (locU nd l s r v rest tn j) (if rest = 0 then s.start else -1) := by
  unfold locU
  rw [if_neg (by omega), if_pos (by omega), locF, h]
theorem locU_end {rest : Nat} {tn : Int} {j : Nat} (h : v.length < j) : locU nd l s r v rest tn j = locF nd l s r v rest tn := by
  unfold locU
  rw [if_neg (by omega)]
theorem locU_bd (hc : Case31 nd l s r v) (hs : s.start ≤ 1000000) (rest : Nat) (tn : Int) (j : Nat) : -1 ≤ locU nd l s r v rest tn j ∧ locU nd l s r v rest tn j ≤ 60001000000 := by
  unfold locU
  split
  · exact locGo_bd hc rest tn j
  · exact locF_bd hc hs rest tn
theorem lab_no {m i : Nat} (hb : m.testBit i = false) : lab nd l s r v m i = -1 := by
  unfold lab
  cases h : v[i]? with
  | none =>
    have : v.length ≤ i := by simpa using h
    rw [List.getElem?_eq_none (by rw [rowOf_len]; exact this)]
    rfl
  | some k => rw [rowOf_at h, hb]; rfl
theorem atLab_none {bits last : Int} : ∀ (l : List Lb), (∀ x ∈ l, ¬ (x.set = bits ∧ x.last = last)) → atLab bits last l = -1
  | [], _ => rfl
  | y :: l, h => by
    rw [atLab, if_neg (h y (List.mem_cons_self ..))]
    exact atLab_none l fun x hx => h x (List.mem_cons_of_mem _ hx)
theorem atLab_all (h : ok31 nd l s r v = true) {m i : Nat} (hm : m < 2 ^ v.length) (hi : i < v.length) : atLab (m : Int) (i : Int) (labs nd l s r v) = lab nd l s r v m i := by
  cases hb : m.testBit i with
  | true => exact atLab_labs h hm hi hb
  | false =>
    rw [lab_no hb]
    refine atLab_none _ fun x hx => ?_
    rintro ⟨e1, e2⟩
    obtain ⟨m', i', -, -, hb', rfl⟩ := mem_labs h hx
    have e1 : (m' : Int) = (m : Int) := e1
    have e2 : (i' : Int) = (i : Int) := e2
    rw [show m' = m by omega, show i' = i by omega, hb] at hb'
    cases hb'

theorem rowLabs_zero (row : List Int) : ∀ i, rowLabs 0 row i = []
  | 0 => rfl
  | i + 1 => by rw [rowLabs, rowLabs_zero row i, Nat.zero_testBit]; rfl
theorem nlab_zero : nlab nd l s r v 1 0 = 0 := by
  unfold nlab
  rw [tabLabs, rowLabs_zero]
  rfl
theorem nlab_skip {m i : Nat} (h : m.testBit i = false) : nlab nd l s r v m (i + 1) = nlab nd l s r v m i := by
  unfold nlab
  rw [rowLabs, h]
  simp
theorem nlab_next {m i : Nat} (h : m.testBit i = true) : nlab nd l s r v m (i + 1) = nlab nd l s r v m i + 1 := by
  unfold nlab
  rw [rowLabs, h]
  simp
  omega
theorem nlab_row (m : Nat) : nlab nd l s r v m v.length = nlab nd l s r v (m + 1) 0 := by
  unfold nlab
  rw [tabLabs, List.length_append]
  rfl
theorem nlab_end (h : ok31 nd l s r v = true) : nlab nd l s r v (2 ^ v.length) 0 = (labs nd l s r v).length := by
  unfold nlab labs
  rw [if_pos h]
  rfl
theorem rowLabs_pre {m : Nat} {row : List Int} {i : Nat} : ∀ {j : Nat}, i ≤ j → ∃ x, rowLabs m row j = rowLabs m row i ++ x
  | 0, h => ⟨[], by rw [show i = 0 by omega]; simp⟩
  | j + 1, h => by
    by_cases e : i = j + 1
    · exact ⟨[], by rw [e]; simp⟩
    · obtain ⟨x, hx⟩ := rowLabs_pre (m := m) (row := row) (i := i) (j := j) (by omega)
      exact ⟨_, by rw [rowLabs, hx, List.append_assoc]⟩
theorem tabLabs_pre {n : Nat} {t : List (List Int)} {i : Nat} : ∀ {j : Nat}, i ≤ j → ∃ x, tabLabs n t j = tabLabs n t i ++ x
  | 0, h => ⟨[], by rw [show i = 0 by omega]; simp⟩
  | j + 1, h => by
    by_cases e : i = j + 1
    · exact ⟨[], by rw [e]; simp⟩
    · obtain ⟨x, hx⟩ := tabLabs_pre (n := n) (t := t) (i := i) (j := j) (by omega)
      exact ⟨_, by rw [tabLabs, hx, List.append_assoc]⟩
theorem labs_nth (h : ok31 nd l s r v = true) {m i : Nat} (hm : m < 2 ^ v.length) (hi : i < v.length) (hb : m.testBit i = true) : (labs nd l s r v)[nlab nd l s r v m i]? = some ⟨m, i, lab nd l s r v m i⟩ := by
  obtain ⟨x, hx⟩ := tabLabs_pre (n := v.length) (t := table nd l s r v (2 ^ v.length)) (i := m + 1) (j := 2 ^ v.length) hm
  obtain ⟨y, hy⟩ := rowLabs_pre (m := m) (row := ((table nd l s r v (2 ^ v.length))[m]?).getD []) (i := i + 1) (j := v.length) hi
  unfold labs
  rw [if_pos h, hx, tabLabs, hy]
  unfold nlab
  rw [rowLabs, hb, if_pos rfl, List.append_assoc, List.getElem?_append_right (by omega), Nat.add_sub_cancel_left, List.append_assoc, List.append_assoc, List.getElem?_append_right (Nat.le_refl _), Nat.sub_self, table_at hm]
  rfl
end
end K
end Go.Proofs.Ytjcdpfpdjcannaa
