/-
Plain laws of labels: a label is the least minute of all orders of its part that end with its element.
-/
import Derived.Test.YtjcdpfpdjcannaaV1
namespace Go.Proofs.Ytjcdpfpdjcannaa
open Go.RowKit
namespace K
section
variable {nd : Int} {l : List Ro} {s : S} {r : List Q} {v : List Int}

/-- Who arrives earlier begins no later. -/
theorem begins_mono {q : Q} {all : List Int} {x y : Int} (hr : H.right q.l = true) (hs : 0 ≤ q.service ∧ q.service ≤ 1000000) (h0 : 0 ≤ x) (hx : x ≤ y) (hok : (begins s r q all y).2 = true) :
    (begins s r q all x).2 = true ∧ (begins s r q all x).1 ≤ (begins s r q all y).1 := by
  obtain ⟨hc, hf, he, hy0, hy1, hy2, hy3⟩ := begins_ok hok
  have hcx : ¬ (s.day < q.frm ∨ q.by_ < s.day ∨ s.end_ < x ∨ T.fits s r all = false) := by
    rintro (h | h | h | h)
    · exact (hc ▸ (.inl h) : False)
    · exact (hc ▸ (.inr (.inl h)) : False)
    · exact (hc ▸ (.inr (.inr (.inl (by omega)))) : False)
    · exact (hc ▸ (.inr (.inr (.inr h))) : False)
  obtain ⟨g1, g2⟩ := (H.first_two hr (t := x) (o := y) (s := q.service) ⟨h0, by omega⟩ hs ⟨hx, by omega⟩).1 hf
  unfold begins
  rw [if_neg hcx]
  have he2 : (if s.day < q.frm ∨ q.by_ < s.day ∨ s.end_ < y ∨ T.fits s r all = false then ((0 : Int), false) else ((H.fit q.l y q.service).1, (H.fit q.l y q.service).2 && decide ((H.fit q.l y q.service).1 + q.service ≤ s.end_))).1 = (H.fit q.l y q.service).1 := he
  rw [he2]
  rw [he] at hy2
  simp only [Bool.and_eq_true, decide_eq_true_eq]
  exact ⟨⟨g1, by omega⟩, g2⟩

/-- What the earliest arrival is the least of. -/
def Cand (nd : Int) (l : List Ro) (wt tn : Int) (z : List (Int × Int)) (f x : Int) : Prop := (f ≠ -1 ∧ x = f) ∨ ∃ p ∈ z, p.2 ≠ -1 ∧ way nd l p.1 wt tn ≠ -1 ∧ x = p.2 + way nd l p.1 wt tn
theorem noted_cases (y f t : Int) : (y ≠ -1 ∧ t ≠ -1 ∧ noted y f t = t + y ∧ (f = -1 ∨ t + y < f)) ∨ (noted y f t = f ∧ (y ≠ -1 → t ≠ -1 → f ≠ -1 ∧ f ≤ t + y)) := by
  by_cases h : y ≠ -1 ∧ t ≠ -1 ∧ (f = -1 ∨ t + y < f)
  · exact .inl ⟨h.1, h.2.1, by unfold noted; rw [if_pos h], h.2.2⟩
  · refine .inr ⟨by unfold noted; rw [if_neg h], fun h1 h2 => ?_⟩
    have h3 : ¬ (f = -1 ∨ t + y < f) := fun h3 => h ⟨h1, h2, h3⟩
    omega
theorem firsts_least {wt tn : Int} : ∀ (z : List (Int × Int)) (f : Int), -1 ≤ f → (∀ p ∈ z, -1 ≤ p.2) →
    (firsts nd l wt tn z f ≠ -1 → Cand nd l wt tn z f (firsts nd l wt tn z f)) ∧ (∀ x, Cand nd l wt tn z f x → firsts nd l wt tn z f ≠ -1 ∧ firsts nd l wt tn z f ≤ x) := by
  intro z
  induction z with
  | nil =>
    intro f hf _
    refine ⟨fun h => .inl ⟨h, rfl⟩, ?_⟩
    rintro x (⟨h, rfl⟩ | ⟨p, hp, -⟩)
    · exact ⟨h, Int.le_refl _⟩
    · cases hp
  | cons p z ih =>
    intro f hf hz
    have hw := way_bd nd l p.1 wt tn
    have hp2 := hz p (List.mem_cons_self ..)
    have hstep : firsts nd l wt tn (p :: z) f = firsts nd l wt tn z (noted (way nd l p.1 wt tn) f p.2) := rfl
    rw [hstep]
    rcases noted_cases (way nd l p.1 wt tn) f p.2 with ⟨h1, h2, he, h3⟩ | ⟨he, h3⟩
    · rw [he]
      obtain ⟨a1, a2⟩ := ih (p.2 + way nd l p.1 wt tn) (by omega) (fun q hq => hz q (List.mem_cons_of_mem _ hq))
      refine ⟨fun h => ?_, ?_⟩
      · rcases a1 h with ⟨-, e⟩ | ⟨q, hq, h⟩
        · exact .inr ⟨p, List.mem_cons_self .., h2, h1, e⟩
        · exact .inr ⟨q, List.mem_cons_of_mem _ hq, h⟩
      · rintro x (⟨hf1, rfl⟩ | ⟨q, hq, g1, g2, rfl⟩)
        · have := a2 (p.2 + way nd l p.1 wt tn) (.inl ⟨by omega, rfl⟩)
          omega
        · rcases List.mem_cons.1 hq with rfl | hq
          · exact a2 _ (.inl ⟨by omega, rfl⟩)
          · exact a2 _ (.inr ⟨q, hq, g1, g2, rfl⟩)
    · rw [he]
      obtain ⟨a1, a2⟩ := ih f hf (fun q hq => hz q (List.mem_cons_of_mem _ hq))
      refine ⟨fun h => ?_, ?_⟩
      · rcases a1 h with h | ⟨q, hq, h⟩
        · exact .inl h
        · exact .inr ⟨q, List.mem_cons_of_mem _ hq, h⟩
      · rintro x (h | ⟨q, hq, g1, g2, rfl⟩)
        · exact a2 _ (.inl h)
        · rcases List.mem_cons.1 hq with rfl | hq
          · obtain ⟨f1, f2⟩ := h3 g2 g1
            have := a2 f (.inl ⟨f1, rfl⟩)
            omega
          · exact a2 _ (.inr ⟨q, hq, g1, g2, rfl⟩)

theorem bit_set_all : ∀ m : Fin 64, ∀ i : Fin 6, m.val.testBit i.val = false → (m.val + 2 ^ i.val).testBit i.val = true := by decide +kernel
theorem bit_set {m i : Nat} (hm : m < 64) (hi : i < 6) (h : m.testBit i = false) : (m + 2 ^ i).testBit i = true := bit_set_all ⟨m, hm⟩ ⟨i, hi⟩ h

/-- The label of a part and an element. -/
def lab (nd : Int) (l : List Ro) (s : S) (r : List Q) (v : List Int) (m i : Nat) : Int := ((rowOf nd l s r v (table nd l s r v m) m)[i]?).getD (-1)
theorem lab_bd (hc : Case31 nd l s r v) (m i : Nat) : -1 ≤ lab nd l s r v m i ∧ lab nd l s r v m i ≤ 1000000 := by
  unfold lab
  cases h : (rowOf nd l s r v (table nd l s r v m) m)[i]? with
  | none => exact ⟨Int.le_refl _, by decide⟩
  | some x => exact rowOf_bd (fun k hk => (hc.ok k hk).1) x (List.mem_of_getElem? h)

/-- The states that can be reached, and the element served last. -/
inductive Hits (nd : Int) (l : List Ro) (s : S) (r : List Q) (v : List Int) : Option Nat → St → Prop
  | first : Hits nd l s r v none (St.first s)
  | step {o : Option Nat} {a b : St} {i : Nat} {k : Int} (h : Hits nd l s r v o a) (hk : v[i]? = some k) (ho : onward nd l s r v a i k = some b) : Hits nd l s r v (some i) b

theorem arrives_least (hc : Case31 nd l s r v) (rest : Nat) (q : Q) :
    (arrives nd l s r v (rowOf nd l s r v (table nd l s r v rest) rest) rest q ≠ -1 → (rest = 0 ∧ way nd l s.depot (T.weight s r (part v rest)) q.node ≠ -1 ∧ arrives nd l s r v (rowOf nd l s r v (table nd l s r v rest) rest) rest q = s.start + way nd l s.depot (T.weight s r (part v rest)) q.node) ∨
      ∃ j k, v[j]? = some k ∧ lab nd l s r v rest j ≠ -1 ∧ way nd l (req r k).node (T.weight s r (part v rest)) q.node ≠ -1 ∧ arrives nd l s r v (rowOf nd l s r v (table nd l s r v rest) rest) rest q = lab nd l s r v rest j + way nd l (req r k).node (T.weight s r (part v rest)) q.node) ∧
    (rest = 0 → way nd l s.depot (T.weight s r (part v rest)) q.node ≠ -1 → arrives nd l s r v (rowOf nd l s r v (table nd l s r v rest) rest) rest q ≠ -1 ∧ arrives nd l s r v (rowOf nd l s r v (table nd l s r v rest) rest) rest q ≤ s.start + way nd l s.depot (T.weight s r (part v rest)) q.node) ∧
    (∀ j k, v[j]? = some k → lab nd l s r v rest j ≠ -1 → way nd l (req r k).node (T.weight s r (part v rest)) q.node ≠ -1 →
      arrives nd l s r v (rowOf nd l s r v (table nd l s r v rest) rest) rest q ≠ -1 ∧ arrives nd l s r v (rowOf nd l s r v (table nd l s r v rest) rest) rest q ≤ lab nd l s r v rest j + way nd l (req r k).node (T.weight s r (part v rest)) q.node) := by
  have hz : ∀ j k, v[j]? = some k → ((nodes r v).zip (rowOf nd l s r v (table nd l s r v rest) rest))[j]? = some ((req r k).node, lab nd l s r v rest j) := fun j k hk => by
    rw [List.getElem?_zip_eq_some]
    refine ⟨by rw [nodes, List.getElem?_map, hk]; rfl, ?_⟩
    have hj := (List.getElem?_eq_some_iff.1 hk).1
    unfold lab
    rw [List.getElem?_eq_getElem (by rw [rowOf_len]; exact hj), Option.getD_some]
  have hzb : ∀ p ∈ (nodes r v).zip (rowOf nd l s r v (table nd l s r v rest) rest), ∃ j k, v[j]? = some k ∧ p = ((req r k).node, lab nd l s r v rest j) := fun p hp => by
    obtain ⟨j, hj⟩ := List.mem_iff_getElem?.1 hp
    have hjl : j < v.length := by
      have := (List.getElem?_eq_some_iff.1 hj).1
      rw [List.length_zip, nodes, List.length_map] at this
      omega
    have h2 := hz j _ (List.getElem?_eq_getElem hjl)
    rw [hj] at h2
    injection h2 with h2
    exact ⟨j, _, List.getElem?_eq_getElem hjl, h2⟩
  have hw0 := way_bd nd l s.depot (T.weight s r (part v rest)) q.node
  have hst := hc.start
  have hf0 : (first0 nd l s (T.weight s r (part v rest)) q.node rest = -1 ∧ ¬ (rest = 0 ∧ way nd l s.depot (T.weight s r (part v rest)) q.node ≠ -1)) ∨
      (rest = 0 ∧ way nd l s.depot (T.weight s r (part v rest)) q.node ≠ -1 ∧ first0 nd l s (T.weight s r (part v rest)) q.node rest = s.start + way nd l s.depot (T.weight s r (part v rest)) q.node) := by
    unfold first0
    by_cases h0 : rest = 0
    · rw [if_pos h0]
      by_cases hw : way nd l s.depot (T.weight s r (part v rest)) q.node = -1
      · exact .inl ⟨by rw [noted_no1 hw], fun h => h.2 hw⟩
      · exact .inr ⟨h0, hw, noted_yes hw (by omega) (.inl rfl)⟩
    · rw [if_neg h0]
      exact .inl ⟨rfl, fun h => h0 h.1⟩
  obtain ⟨a1, a2⟩ := firsts_least (nd := nd) (l := l) (wt := T.weight s r (part v rest)) (tn := q.node) ((nodes r v).zip (rowOf nd l s r v (table nd l s r v rest) rest)) (first0 nd l s (T.weight s r (part v rest)) q.node rest) (by rcases hf0 with h | h <;> omega) (fun p hp => by
    obtain ⟨j, k, -, rfl⟩ := hzb p hp
    exact (lab_bd hc rest j).1)
  have he : arrives nd l s r v (rowOf nd l s r v (table nd l s r v rest) rest) rest q = firsts nd l (T.weight s r (part v rest)) q.node ((nodes r v).zip (rowOf nd l s r v (table nd l s r v rest) rest)) (first0 nd l s (T.weight s r (part v rest)) q.node rest) := rfl
  rw [he]
  refine ⟨fun h => ?_, fun h0 hw => ?_, fun j k hk hl hw => a2 _ (.inr ⟨_, List.mem_of_getElem? (hz j k hk), hl, hw, rfl⟩)⟩
  · rcases a1 h with ⟨h1, e⟩ | ⟨p, hp, h1, h2, e⟩
    · rcases hf0 with ⟨h2, -⟩ | ⟨g1, g2, g3⟩
      · exact absurd h2 h1
      · exact .inl ⟨g1, g2, by rw [e, g3]⟩
    · obtain ⟨j, k, hk, rfl⟩ := hzb p hp
      exact .inr ⟨j, k, hk, h1, h2, e⟩
  · rcases hf0 with ⟨-, h2⟩ | ⟨g1, g2, g3⟩
    · exact absurd ⟨h0, hw⟩ h2
    · exact a2 _ (.inl ⟨by omega, g3.symm⟩)

theorem hits_inv (hc : Case31 nd l s r v) {o : Option Nat} {c : St} (h : Hits nd l s r v o c) : c.bits < 2 ^ v.length ∧ (o = none → c = St.first s) ∧ ∀ i, o = some i → c.bits.testBit i = true ∧ ∃ k, v[i]? = some k ∧ c.a = (req r k).node := by
  induction h with
  | first => exact ⟨Nat.two_pow_pos _, fun _ => rfl, fun i e => (nomatch e)⟩
  | step h hk ho ih =>
    rename_i o a b i k
    have hb := step_bits hc ⟨i, k, hk, ho⟩ ih.1
    obtain ⟨h1, -, -, e⟩ := onward_some ho
    refine ⟨hb.1, fun e => (nomatch e), fun j e2 => ?_⟩
    injection e2 with e2
    subst e2
    refine ⟨?_, k, hk, by rw [e]⟩
    have hil := (List.getElem?_eq_some_iff.1 hk).1
    have hl6 := hc.len
    have h64 : a.bits < 64 := Nat.lt_of_lt_of_le ih.1 (Nat.pow_le_pow_right (by omega) hl6)
    rw [e]
    exact bit_set h64 (by omega) h1

/-- A label is the least minute of the states that it speaks of, and one of these. -/
theorem lab_least (hc : Case31 nd l s r v) : ∀ (m : Nat), m < 2 ^ v.length → ∀ (i : Nat) (k : Int), v[i]? = some k →
    (∀ c, Hits nd l s r v (some i) c → c.bits = m → lab nd l s r v m i ≠ -1 ∧ lab nd l s r v m i ≤ c.t) ∧ (lab nd l s r v m i ≠ -1 → ∃ c, Hits nd l s r v (some i) c ∧ c.bits = m ∧ c.t = lab nd l s r v m i) := by
  intro m
  induction m using Nat.strongRecOn with
  | ind m ih =>
  intro hm i k hk
  have hil := (List.getElem?_eq_some_iff.1 hk).1
  have hl6 := hc.len
  have hm64 : m < 64 := Nat.lt_of_lt_of_le hm (Nat.pow_le_pow_right (by omega) hl6)
  obtain ⟨hs0, hs1, hr⟩ := hc.ok k (List.mem_of_getElem? hk)
  have hst := hc.start
  have hlab : lab nd l s r v m i = if m.testBit i = true then label nd l s r v (((table nd l s r v m)[m - 2 ^ i]?).getD []) (m - 2 ^ i) i (req r k) else -1 := by
    unfold lab
    rw [rowOf_at hk, Option.getD_some]
  have hpw := Nat.two_pow_pos i
  cases hbit : m.testBit i
  · rw [hbit] at hlab
    refine ⟨fun c h he => ?_, fun h => absurd (by simpa using hlab) h⟩
    have := ((hits_inv hc h).2.2 i rfl).1
    rw [he, hbit] at this
    cases this
  · rw [hbit, if_pos rfl] at hlab
    obtain ⟨hre, hrb⟩ := bit_rest hm64 (by omega) hbit
    obtain ⟨rest, hrest⟩ : ∃ rest, rest = m - 2 ^ i := ⟨_, rfl⟩
    rw [← hrest] at hlab hre hrb
    have hrm : rest < m := by omega
    rw [table_at hrm, Option.getD_some] at hlab
    obtain ⟨F, hF⟩ : ∃ F, F = arrives nd l s r v (rowOf nd l s r v (table nd l s r v rest) rest) rest (req r k) := ⟨_, rfl⟩
    have hlab2 : lab nd l s r v m i = if F = -1 then -1 else if (begins s r (req r k) (part v m) F).2 = true then (begins s r (req r k) (part v m) F).1 + (req r k).service else -1 := by
      rw [hlab, label, ← hF, hre]; rfl
    obtain ⟨f1, f2, f3⟩ := arrives_least hc rest (req r k)
    rw [← hF] at f1 f2 f3
    have hF0 : F ≠ -1 → 0 ≤ F := fun h => by
      rcases f1 h with ⟨-, h2, e⟩ | ⟨j, kj, hj, h1, h2, e⟩
      · have := way_bd nd l s.depot (T.weight s r (part v rest)) (req r k).node
        omega
      · have := way_bd nd l (req r kj).node (T.weight s r (part v rest)) (req r k).node
        have := lab_bd hc rest j
        omega
    have ihr := ih rest hrm (by omega)
    clear hlab
    refine ⟨fun c h he => ?_, fun h => ?_⟩
    · cases h with
      | step h hk2 ho =>
        rename_i o a k2
        rw [hk] at hk2; injection hk2 with hk2; subst hk2
        obtain ⟨h1, h2, h3, e⟩ := onward_some ho
        have hab : a.bits = rest := by rw [e] at he; have he : a.bits + 2 ^ i = m := he; omega
        have hcand : F ≠ -1 ∧ F ≤ a.t + way nd l a.a (T.weight s r (part v a.bits)) (req r k).node := by
          cases o with
          | none =>
            have ha := (hits_inv hc h).2.1 rfl
            subst ha
            have hr0 : rest = 0 := hab.symm
            exact f2 hr0 (by rw [← hab]; exact h2) |>.imp id (fun h => by rw [hab]; exact h)
          | some j =>
            obtain ⟨-, kj, hkj, haj⟩ := (hits_inv hc h).2.2 j rfl
            obtain ⟨g1, g2⟩ := (ihr j kj hkj).1 a h hab
            rw [haj, hab] at h2 ⊢
            obtain ⟨g3, g4⟩ := f3 j kj hkj g1 h2
            exact ⟨g3, by omega⟩
        have hrm2 : a.bits + 2 ^ i = m := by omega
        rw [hrm2] at h3 e
        obtain ⟨b1, b2⟩ := begins_mono (s := s) (r := r) (all := part v m) hr ⟨hs0, hs1⟩ (hF0 hcand.1) hcand.2 h3
        rw [hlab2, if_neg hcand.1, if_pos b1, e]
        obtain ⟨-, -, -, y0, y1, -, -⟩ := begins_ok b1
        refine ⟨by omega, ?_⟩
        show _ ≤ _ + _
        omega
    · rw [hlab2] at h ⊢
      by_cases hF1 : F = -1
      · rw [if_pos hF1] at h; exact absurd rfl h
      rw [if_neg hF1] at h ⊢
      by_cases hb : (begins s r (req r k) (part v m) F).2 = true
      rotate_left
      · rw [if_neg hb] at h; exact absurd rfl h
      rw [if_pos hb]
      have mk : ∀ (o : Option Nat) (a : St), Hits nd l s r v o a → a.bits = rest → way nd l a.a (T.weight s r (part v rest)) (req r k).node ≠ -1 → F = a.t + way nd l a.a (T.weight s r (part v rest)) (req r k).node →
          ∃ c, Hits nd l s r v (some i) c ∧ c.bits = m ∧ c.t = (begins s r (req r k) (part v m) F).1 + (req r k).service := fun o a ha hab hw hFe => by
        refine ⟨_, .step ha hk (b := ⟨m, (req r k).node, (begins s r (req r k) (part v m) F).1 + (req r k).service, a.stops ++ [k], a.times ++ [(begins s r (req r k) (part v m) F).1]⟩) ?_, rfl, rfl⟩
        unfold onward
        rw [hab, hre, if_neg (by rw [hrb]; simp), if_neg hw, ← hFe, if_neg (by rw [hb]; simp)]
      rcases f1 hF1 with ⟨h0, h2, e⟩ | ⟨j, kj, hj, h1, h2, e⟩
      · exact mk none _ .first h0.symm h2 e
      · obtain ⟨c, c1, c2, c3⟩ := (ihr j kj hj).2 h1
        obtain ⟨-, kj2, hkj2, haj⟩ := (hits_inv hc c1).2.2 j rfl
        rw [hj] at hkj2; injection hkj2 with hkj2; subst hkj2
        exact mk (some j) c c1 c2 (by rw [haj]; exact h2) (by rw [haj, c3]; exact e)
end
end K
end Go.Proofs.Ytjcdpfpdjcannaa
