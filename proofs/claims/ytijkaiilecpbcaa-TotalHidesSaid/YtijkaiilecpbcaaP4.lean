/-
Plain laws of paths in sound vaults.
-/
import Derived.Test.YtijkaiilecpbcaaP3
namespace Go.Proofs.Ytijkaiilecpbcaa
open Go.RowKit

theorem K.Sub.down {l : List It} (hs : K.sound l = true) {i j : Nat} (h : K.Sub l i j) : j ≤ i := by
  induction h with
  | refl i => exact Nat.le_refl _
  | lt i j x hx hl _ ih => have := (K.sum_parts hs hx hl).1; omega
  | rt i j x hx hl _ ih => have := (K.sum_parts hs hx hl).2.1; omega

theorem K.near_of_sub {l : List It} (hs : K.sound l = true) {i j : Nat} (h : K.Sub l i j) : ∀ x, l[i]? = some x → (K.near l j).getD i false = true := by
  induction h with
  | refl i => intro x hx; rw [K.near_at hs hx, if_pos rfl]
  | lt i j z hz hl hsub ih =>
    intro x hx
    obtain ⟨p1, _, a, b, ha, hb, _⟩ := K.sum_parts hs hz hl
    have hd := hsub.down hs
    rw [K.near_at hs hz, if_neg (by omega), if_pos (by omega)]
    unfold K.nearOf
    rw [hl, ih a ha]; rfl
  | rt i j z hz hl hsub ih =>
    intro x hx
    obtain ⟨_, p1, a, b, ha, hb, _⟩ := K.sum_parts hs hz hl
    have hd := hsub.down hs
    rw [K.near_at hs hz, if_neg (by omega), if_pos (by omega)]
    unfold K.nearOf
    rw [hl, ih b hb, Bool.or_true]; rfl

theorem K.next_mem (bs : List Bool) (x : It) : K.nextOf bs x = x.lt ∨ K.nextOf bs x = x.rt := by
  unfold K.nextOf
  split <;> omega

theorem K.tail_walk {l : List It} (hs : K.sound l = true) {leaf : Nat} : ∀ (f k : Nat), k < f → ∀ x, l[k]? = some x → (K.near l leaf).getD k false = true →
    K.walkFrom l (some (k : Int)) (K.tailOf l (K.near l leaf) leaf f k) = true ∧ ((k : Int) :: K.tailOf l (K.near l leaf) leaf f k).getLastD 0 = (leaf : Int) := by
  intro f
  induction f with
  | zero => intro k hk; omega
  | succ f ih =>
    intro k hk x hx hn
    by_cases e : k = leaf
    · subst e
      rw [K.tail_end]
      exact ⟨rfl, rfl⟩
    · rw [K.tail_next hx e]
      obtain ⟨hlf, ⟨⟨a0, a1⟩, b0, b1⟩, hn2⟩ := K.near_step hs hx hn e
      obtain ⟨_, _, a, b, ha, hb, _⟩ := K.sum_parts hs hx hlf
      have hm := K.next_mem (K.near l leaf) x
      obtain ⟨j, hj⟩ : ∃ j : Nat, K.nextOf (K.near l leaf) x = j := ⟨(K.nextOf (K.near l leaf) x).toNat, by omega⟩
      rw [hj] at hn2 hm ⊢
      have hjk : j < k := by omega
      have hlen := (List.getElem?_eq_some_iff.1 hx).1
      have hy : ∃ y, l[j]? = some y := ⟨_, List.getElem?_eq_getElem (by omega)⟩
      obtain ⟨y, hy⟩ := hy
      obtain ⟨g1, g2⟩ := ih j (by omega) y hy (by simpa using hn2)
      rw [Int.toNat_natCast]
      refine ⟨?_, ?_⟩
      · simp only [K.walkFrom, K.from_, K.stepOk, Int.toNat_natCast, hx]
        rw [g1, Bool.and_true, Bool.and_eq_true]
        refine ⟨K.has_iff.2 ⟨by omega, by omega⟩, ?_⟩
        rcases hm with h | h
        · rw [h]; simp
        · rw [h]; simp
      · rw [show ((k : Int) :: (j : Int) :: K.tailOf l (K.near l leaf) leaf f j).getLastD 0 = ((j : Int) :: K.tailOf l (K.near l leaf) leaf f j).getLastD 0 by simp]
        exact g2

/-- A path that is there: sound, from the root to the leaf. -/
theorem K.path_yes {l : List It} {root leaf : Int} (h : K.path l root leaf ≠ []) :
    K.sound l = true ∧ (0 ≤ root ∧ root < l.length) ∧ (0 ≤ leaf ∧ leaf < l.length) ∧ K.walks l (K.path l root leaf) = true ∧ (K.path l root leaf).headD 0 = root ∧ (K.path l root leaf).getLastD 0 = leaf ∧ (root = leaf → (K.path l root leaf).length = 1) := by
  cases hc : (K.sound l && (K.has l.length root && (K.has l.length leaf && (K.near l leaf.toNat).getD root.toNat false)))
  · exact absurd (K.path_no hc) h
  · have hp : K.path l root leaf = root :: K.tailOf l (K.near l leaf.toNat) leaf.toNat (root.toNat + 1) root.toNat := by unfold K.path; rw [hc]; rfl
    simp only [Bool.and_eq_true] at hc
    obtain ⟨hs, hr, hlf, hn⟩ := hc
    have hr' := hr
    rw [K.has_iff] at hr hlf
    obtain ⟨r, rfl⟩ : ∃ r : Nat, root = r := ⟨root.toNat, by omega⟩
    obtain ⟨f, rfl⟩ : ∃ r : Nat, leaf = r := ⟨leaf.toNat, by omega⟩
    rw [Int.toNat_natCast] at hn hp
    rw [Int.toNat_natCast] at hn hp
    have hx : l[r]? = some (l[r]'(by omega)) := List.getElem?_eq_getElem (by omega)
    obtain ⟨g1, g2⟩ := K.tail_walk hs (r + 1) r (by omega) _ hx hn
    refine ⟨hs, hr, hlf, ?_, by rw [hp]; rfl, by rw [hp]; exact g2, fun e => ?_⟩
    · rw [hp]
      simp only [K.walks, K.walkFrom, K.from_, hs, hr', g1, List.isEmpty_cons]; rfl
    · have : r = f := by omega
      subst this
      rw [hp, K.tail_end]; rfl

theorem K.path_has {l : List It} (hs : K.sound l = true) {r f : Nat} (hr : r < l.length) (hf : f < l.length) (h : K.Sub l r f) : K.path l (r : Int) (f : Int) ≠ [] := by
  have hx : l[r]? = some (l[r]'hr) := List.getElem?_eq_getElem hr
  have hn := K.near_of_sub hs h _ hx
  unfold K.path
  rw [if_pos]
  · exact List.cons_ne_nil _ _
  · simp only [Int.toNat_natCast, Bool.and_eq_true]
    exact ⟨hs, K.has_iff.2 ⟨by omega, by omega⟩, K.has_iff.2 ⟨by omega, by omega⟩, hn⟩

/-- No path: none from its parts either. -/
theorem K.path_none {l : List It} (hs : K.sound l = true) {r f : Nat} {x : It} (hx : l[r]? = some x) (hf : f < l.length) (h : K.path l (r : Int) (f : Int) = []) : r ≠ f ∧ K.path l x.lt (f : Int) = [] ∧ K.path l x.rt (f : Int) = [] := by
  have hr := (List.getElem?_eq_some_iff.1 hx).1
  have hno : ¬ K.Sub l r f := fun hsub => K.path_has hs hr hf hsub h
  have part : ∀ a : Int, (x.lt = a ∨ x.rt = a) → K.path l a (f : Int) = [] := by
    intro a ha
    by_cases e : K.path l a (f : Int) = []
    · exact e
    · exfalso
      obtain ⟨_, ha2, _, hw, h1, h2, _⟩ := K.path_yes e
      obtain ⟨_, hne, hwf⟩ := K.walks_parts hw
      have hsub : K.Sub l a.toNat f := by
        cases hp : K.path l a (f : Int) with
        | nil => exact absurd hp e
        | cons b rr =>
          rw [hp] at h1 h2 hwf
          simp at h1
          subst h1
          simp only [K.walkFrom, Bool.and_eq_true] at hwf
          have := K.walk_sub rr b ha2.1 hwf.2.2
          rw [h2] at this
          simpa using this
      have hlf := K.leafy_no ha2.1 ha
      rcases ha with ha | ha
      · subst ha; exact hno (.lt _ _ x hx hlf hsub)
      · subst ha; exact hno (.rt _ _ x hx hlf hsub)
  exact ⟨fun e => hno (e ▸ .refl _), part _ (.inl rfl), part _ (.inr rfl)⟩

theorem K.view_get (l : List It) (m : Nat) : ∀ (p : List Int) (i k : Nat) (a : Int), p[k]? = some a → (K.viewFrom l m i p)[k]? = some (K.viewAt l m (i + k) a) := by
  intro p
  induction p with
  | nil => intro i k a h; simp at h
  | cons b p ih =>
    intro i k a h
    cases k with
    | zero => simp at h; subst h; rfl
    | succ k =>
      simp only [K.viewFrom]
      rw [List.getElem?_cons_succ, ih (i + 1) k a (by simpa using h), show i + 1 + k = i + (k + 1) by omega]

theorem K.veil_parts (m i : Nat) (x : It) : (K.veil m i x).lt = x.lt ∧ (K.veil m i x).rt = x.rt := by
  unfold K.veil; split <;> exact ⟨rfl, rfl⟩

/-- What the view shows of an element of a path. -/
theorem K.view_at {l : List It} {p : List Int} (hw : K.walks l p = true) {k : Nat} {a : Int} (ha : p[k]? = some a) : ∃ x y, l[a.toNat]? = some x ∧ (K.view l p)[k]? = some y ∧ y.lt = x.lt ∧ y.rt = x.rt := by
  obtain ⟨hs, hne, hwf⟩ := K.walks_parts hw
  have hh := K.has_iff.1 (K.walk_mem p none hwf a (List.mem_of_getElem? ha))
  have hx : l[a.toNat]? = some (l[a.toNat]'(by omega)) := List.getElem?_eq_getElem (by omega)
  obtain ⟨x, hx⟩ : ∃ x, l[a.toNat]? = some x := ⟨_, hx⟩
  refine ⟨x, K.veil p.length k x, hx, ?_, K.veil_parts _ _ _⟩
  unfold K.view
  rw [hw, if_pos rfl, K.view_get l p.length p 0 k a ha, Nat.zero_add]
  simp only [K.viewAt, hx]

theorem K.view_length {l : List It} {p : List Int} (hw : K.walks l p = true) : (K.view l p).length = p.length := by
  unfold K.view
  rw [hw, if_pos rfl, K.view_len]

theorem K.walk_step {l : List It} {p : List Int} (hw : K.walks l p = true) {k : Nat} {a b : Int} (ha : p[k]? = some a) (hb : p[k + 1]? = some b) : ∃ x, l[a.toNat]? = some x ∧ (x.lt = b ∨ x.rt = b) := by
  obtain ⟨_, _, hwf⟩ := K.walks_parts hw
  have : ∀ (p : List Int) (pr : Option Int) (k : Nat), K.walkFrom l pr p = true → p[k]? = some a → p[k + 1]? = some b → K.stepOk l a b = true := by
    intro p
    induction p with
    | nil => intro pr k _ h; simp at h
    | cons c p ih =>
      intro pr k h h1 h2
      simp only [K.walkFrom, Bool.and_eq_true] at h
      cases k with
      | succ k => exact ih (some c) k h.2.2 (by simpa using h1) (by simpa using h2)
      | zero =>
        simp at h1
        subst h1
        cases p with
        | nil => simp at h2
        | cons d p =>
          simp at h2
          subst h2
          have := h.2.2
          simp only [K.walkFrom, K.from_, Bool.and_eq_true] at this
          exact this.2.1
  exact K.step_parts (this p none k hwf ha hb)

theorem K.path_bad {l : List It} {root leaf : Int} (h : ¬ (K.sound l = true ∧ (0 ≤ root ∧ root < l.length) ∧ (0 ≤ leaf ∧ leaf < l.length))) : K.path l root leaf = [] := by
  by_cases e : K.path l root leaf = []
  · exact e
  · obtain ⟨h1, h2, h3, _⟩ := K.path_yes e
    exact absurd ⟨h1, h2, h3⟩ h
theorem K.view_nil (l : List It) : K.view l [] = [] := by
  unfold K.view; split <;> rfl
end Go.Proofs.Ytijkaiilecpbcaa
