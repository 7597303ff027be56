/-
Plain laws of sound vaults: what is part of an item.
-/
import Derived.Test.YtijkaiilecpbcaaW12
import Derived.Test.YtijkaiilecpbcaaW11
namespace Go.Proofs.Ytijkaiilecpbcaa
open Go.RowKit

theorem K.sum_parts {l : List It} (h : K.sound l = true) {k : Nat} {x : It} (hx : l[k]? = some x) (hlf : K.leafy x = false) :
    (0 ≤ x.lt ∧ x.lt < k) ∧ (0 ≤ x.rt ∧ x.rt < k) ∧ ∃ a b, l[x.lt.toNat]? = some a ∧ l[x.rt.toNat]? = some b ∧ x.val = a.val + b.val ∧ x.bl = a.bl + b.bl := by
  obtain ⟨h1, h2⟩ := K.sound_parts h hx hlf
  refine ⟨h1, h2, ?_⟩
  have h3 := K.sound_at h hx
  simp only [K.okAt, hlf, Bool.and_eq_true, Bool.false_eq_true, if_false] at h3
  have h4 := h3.2.2.2.2
  unfold K.sums at h4
  cases ea : l[x.lt.toNat]? with
  | none => rw [ea] at h4; simp at h4
  | some a =>
    cases eb : l[x.rt.toNat]? with
    | none => rw [ea, eb] at h4; simp at h4
    | some b =>
      rw [ea, eb] at h4
      simp at h4
      exact ⟨a, b, rfl, rfl, h4.1, h4.2⟩

theorem K.sound_amounts {l : List It} (h : K.sound l = true) {k : Nat} {x : It} (hx : l[k]? = some x) : (0 ≤ x.val ∧ x.val ≤ 1125899906842624) ∧ (0 ≤ x.bl ∧ x.bl ≤ 1125899906842624) := by
  have h3 := K.sound_at h hx
  simp only [K.okAt, K.btw, Bool.and_eq_true, decide_eq_true_eq] at h3
  exact ⟨h3.1, h3.2.1⟩

/-- The item j is part of the item i. -/
inductive K.Sub (l : List It) : Nat → Nat → Prop
  | refl (i : Nat) : K.Sub l i i
  | lt (i j : Nat) (x : It) : l[i]? = some x → K.leafy x = false → K.Sub l x.lt.toNat j → K.Sub l i j
  | rt (i j : Nat) (x : It) : l[i]? = some x → K.leafy x = false → K.Sub l x.rt.toNat j → K.Sub l i j

theorem K.Sub.le {l : List It} (hs : K.sound l = true) {i j : Nat} (h : K.Sub l i j) : ∀ x y, l[i]? = some x → l[j]? = some y → y.val ≤ x.val := by
  induction h with
  | refl i => intro x y hx hy; rw [hx] at hy; injection hy with hy; subst hy; exact Int.le_refl _
  | lt i j z hz hl _ ih =>
    intro x y hx hy
    rw [hz] at hx; injection hx with hx; subst hx
    obtain ⟨_, _, a, b, ha, hb, hv, _⟩ := K.sum_parts hs hz hl
    have h1 := ih a y ha hy
    have h2 := (K.sound_amounts hs hb).1.1
    omega
  | rt i j z hz hl _ ih =>
    intro x y hx hy
    rw [hz] at hx; injection hx with hx; subst hx
    obtain ⟨_, _, a, b, ha, hb, hv, _⟩ := K.sum_parts hs hz hl
    have h1 := ih b y hb hy
    have h2 := (K.sound_amounts hs ha).1.1
    omega

theorem K.Sub.two {l : List It} (hs : K.sound l = true) : ∀ (n i j k : Nat), i ≤ n → K.Sub l i j → K.Sub l i k → j ≠ k → ∀ x y z, l[i]? = some x → l[j]? = some y → l[k]? = some z → K.leafy y = true → K.leafy z = true → y.val + z.val ≤ x.val := by
  intro n
  induction n with
  | zero =>
    intro i j k hi hj hk hne x y z hx hy hz ly lz
    cases hj with
    | refl =>
      cases hk with
      | refl => exact absurd rfl hne
      | lt _ _ u hu hl _ => rw [hy] at hu; injection hu with hu; subst hu; rw [ly] at hl; cases hl
      | rt _ _ u hu hl _ => rw [hy] at hu; injection hu with hu; subst hu; rw [ly] at hl; cases hl
    | lt _ _ u hu hl _ => have := (K.sum_parts hs hu hl).1; omega
    | rt _ _ u hu hl _ => have := (K.sum_parts hs hu hl).1; omega
  | succ n ih =>
    intro i j k hi hj hk hne x y z hx hy hz ly lz
    have key : ∀ u, l[i]? = some u → K.leafy u = false → (K.Sub l u.lt.toNat j ∨ K.Sub l u.rt.toNat j) → (K.Sub l u.lt.toNat k ∨ K.Sub l u.rt.toNat k) → y.val + z.val ≤ x.val := by
      intro u hu hl h1 h2
      rw [hx] at hu; injection hu with hu; subst hu
      obtain ⟨⟨p0, p1⟩, ⟨q0, q1⟩, a, b, ha, hb, hv, _⟩ := K.sum_parts hs hx hl
      have va := (K.sound_amounts hs ha).1.1
      have vb := (K.sound_amounts hs hb).1.1
      rcases h1 with h1 | h1 <;> rcases h2 with h2 | h2
      · have := ih _ j k (by omega) h1 h2 hne a y z ha hy hz ly lz; omega
      · have e1 := h1.le hs a y ha hy
        have e2 := h2.le hs b z hb hz
        omega
      · have e1 := h1.le hs b y hb hy
        have e2 := h2.le hs a z ha hz
        omega
      · have := ih _ j k (by omega) h1 h2 hne b y z hb hy hz ly lz; omega
    cases hj with
    | refl =>
      cases hk with
      | refl => exact absurd rfl hne
      | lt _ _ u hu hl _ => rw [hy] at hu; injection hu with hu; subst hu; rw [ly] at hl; cases hl
      | rt _ _ u hu hl _ => rw [hy] at hu; injection hu with hu; subst hu; rw [ly] at hl; cases hl
    | lt _ _ u hu hl h1 =>
      cases hk with
      | refl => rw [hz] at hu; injection hu with hu; subst hu; rw [lz] at hl; cases hl
      | lt _ _ u' hu' hl' h2 => rw [hu] at hu'; injection hu' with hu'; subst hu'; exact key u hu hl (.inl h1) (.inl h2)
      | rt _ _ u' hu' hl' h2 => rw [hu] at hu'; injection hu' with hu'; subst hu'; exact key u hu hl (.inl h1) (.inr h2)
    | rt _ _ u hu hl h1 =>
      cases hk with
      | refl => rw [hz] at hu; injection hu with hu; subst hu; rw [lz] at hl; cases hl
      | lt _ _ u' hu' hl' h2 => rw [hu] at hu'; injection hu' with hu'; subst hu'; exact key u hu hl (.inr h1) (.inl h2)
      | rt _ _ u' hu' hl' h2 => rw [hu] at hu'; injection hu' with hu'; subst hu'; exact key u hu hl (.inr h1) (.inr h2)

theorem K.leafy_no {x : It} {a : Int} (ha : 0 ≤ a) (h : x.lt = a ∨ x.rt = a) : K.leafy x = false := by
  unfold K.leafy
  rcases h with h | h
  · have : (x.lt == -1) = false := by rw [beq_eq_false_iff_ne]; omega
    rw [this]; rfl
  · have : (x.rt == -1) = false := by rw [beq_eq_false_iff_ne]; omega
    rw [this, Bool.and_false]

theorem K.step_parts {l : List It} {p a : Int} (h : K.stepOk l p a = true) : ∃ x, l[p.toNat]? = some x ∧ (x.lt = a ∨ x.rt = a) := by
  unfold K.stepOk at h
  cases e : l[p.toNat]? with
  | none => rw [e] at h; cases h
  | some x => rw [e] at h; simp at h; exact ⟨x, rfl, h⟩

theorem K.walk_sub {l : List It} : ∀ (r : List Int) (p : Int), 0 ≤ p → K.walkFrom l (some p) r = true → K.Sub l p.toNat ((p :: r).getLastD 0).toNat := by
  intro r
  induction r with
  | nil => intro p _ _; exact K.Sub.refl _
  | cons a r ih =>
    intro p hp h
    simp only [K.walkFrom, K.from_, Bool.and_eq_true] at h
    have ha := K.has_iff.1 h.1
    obtain ⟨x, hx, hxa⟩ := K.step_parts h.2.1
    have hlf := K.leafy_no ha.1 hxa
    have h1 := ih a ha.1 h.2.2
    rw [show (p :: a :: r).getLastD 0 = (a :: r).getLastD 0 by simp]
    rcases hxa with e | e
    · subst e; exact K.Sub.lt _ _ x hx hlf h1
    · subst e; exact K.Sub.rt _ _ x hx hlf h1

theorem K.opens_parts {l : List It} {i v b : Int} (h : K.opens l i v b = true) : K.sound l = true ∧ (0 ≤ i ∧ i < l.length) ∧ ∃ x, l[i.toNat]? = some x ∧ x.val = v ∧ x.bl = b := by
  simp only [K.opens, Bool.and_eq_true] at h
  refine ⟨h.1, K.has_iff.1 h.2.1, ?_⟩
  have h2 := h.2.2
  cases e : l[i.toNat]? with
  | none => rw [e] at h2; cases h2
  | some x => rw [e] at h2; simp at h2; exact ⟨x, rfl, h2.1, h2.2⟩

theorem K.check_parts {l : List It} {p : List Int} {t b : Int} {x : Ln} (h : K.check l p t b x = true) :
    K.sound l = true ∧ p ≠ [] ∧ K.Sub l (p.headD 0).toNat (p.getLastD 0).toNat ∧ (0 ≤ p.headD 0 ∧ 0 ≤ p.getLastD 0) ∧ K.right x = true ∧ ∃ y z, l[(p.getLastD 0).toNat]? = some y ∧ l[(p.headD 0).toNat]? = some z ∧ K.leafy y = true ∧ y.val = x.cents ∧ y.bl = x.bl ∧ z.val = t ∧ z.bl = b := by
  simp only [K.check, Bool.and_eq_true] at h
  obtain ⟨hw, hr, hlf, h1, h2⟩ := h
  obtain ⟨hs, hne, hwf⟩ := K.walks_parts hw
  obtain ⟨_, g1, y, hy, v1, b1⟩ := K.opens_parts h1
  obtain ⟨_, g2, z, hz, v2, b2⟩ := K.opens_parts h2
  refine ⟨hs, hne, ?_, ⟨g2.1, g1.1⟩, hr, y, z, hy, hz, ?_, v1, b1, v2, b2⟩
  · cases p with
    | nil => exact absurd rfl hne
    | cons a r =>
      simp only [K.walkFrom, Bool.and_eq_true] at hwf
      exact K.walk_sub r a (K.has_iff.1 hwf.1).1 hwf.2.2
  · unfold K.leafAt at hlf
    rw [hy] at hlf
    exact hlf

theorem K.check_le {l : List It} {p : List Int} {t b : Int} {x : Ln} (h : K.check l p t b x = true) : x.cents ≤ t := by
  obtain ⟨hs, _, hsub, _, _, y, z, hy, hz, _, v1, _, v2, _⟩ := K.check_parts h
  have := hsub.le hs z y hz hy
  omega

theorem K.check_two {l : List It} {p q : List Int} {t b : Int} {x y : Ln} (h : K.check l p t b x = true) (h' : K.check l q t b y = true) (h0 : p.headD 0 = q.headD 0) (h1 : p.getLastD 0 ≠ q.getLastD 0) : x.cents + y.cents ≤ t := by
  obtain ⟨hs, _, hsub, g, _, u, z, hu, hz, lu, v1, _, v2, _⟩ := K.check_parts h
  obtain ⟨_, _, hsub', g', _, u', z', hu', hz', lu', v1', _, v2', _⟩ := K.check_parts h'
  rw [← h0] at hsub'
  have := K.Sub.two hs _ _ _ _ (Nat.le_refl _) hsub hsub' (fun e => h1 (by omega)) z u u' hz hu hu' lu lu'
  omega
end Go.Proofs.Ytijkaiilecpbcaa
