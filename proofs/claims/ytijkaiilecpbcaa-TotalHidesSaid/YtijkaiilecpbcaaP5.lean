/-
Plain laws of the tree that Build makes.
-/
import Derived.Test.YtijkaiilecpbcaaP2
import Derived.Test.YtijkaiilecpbcaaP4
namespace Go.Proofs.Ytijkaiilecpbcaa
open Go.RowKit

/-- Every item is right. -/
def K.all (V : List It) : Prop := ∀ (k : Nat) (x : It), V[k]? = some x → K.okAt V k x = true

theorem K.sound_all {V : List It} (h : K.sound V = true) : K.all V := fun _ _ hx => K.sound_at h hx

theorem K.from_all {V : List It} (h : K.all V) : ∀ (r : List It) (i : Nat), V.drop i = r → K.soundFrom V i r = true := by
  intro r
  induction r with
  | nil => intro i _; rfl
  | cons x r ih =>
    intro i hi
    have hx : V[i]? = some x := by
      have h0 : (V.drop i)[0]? = some x := by rw [hi]; rfl
      rw [List.getElem?_drop, Nat.add_zero] at h0
      exact h0
    simp only [K.soundFrom, Bool.and_eq_true]
    refine ⟨h i x hx, ih (i + 1) ?_⟩
    rw [← List.tail_drop, hi]; rfl
theorem K.all_sound {V : List It} (h : K.all V) (hl : V.length ≤ 1000) : K.sound V = true := by
  simp only [K.sound, Bool.and_eq_true, decide_eq_true_eq]
  exact ⟨K.from_all h V 0 rfl, hl⟩

theorem K.ok_parts {V : List It} {k : Nat} {x : It} (h : K.okAt V k x = true) (hlf : K.leafy x = false) : (0 ≤ x.lt ∧ x.lt < k) ∧ (0 ≤ x.rt ∧ x.rt < k) := by
  simp only [K.okAt, hlf, Bool.and_eq_true, Bool.false_eq_true, if_false] at h
  exact ⟨K.has_iff.1 h.2.2.1, K.has_iff.1 h.2.2.2.1⟩

theorem K.ok_app {V : List It} (W : List It) {k : Nat} {x : It} (hk : k ≤ V.length) (h : K.okAt V k x = true) : K.okAt (V ++ W) k x = true := by
  cases hlf : K.leafy x
  · obtain ⟨⟨a0, a1⟩, b0, b1⟩ := K.ok_parts h hlf
    have e1 : (V ++ W)[x.lt.toNat]? = V[x.lt.toNat]? := List.getElem?_append_left (by omega)
    have e2 : (V ++ W)[x.rt.toNat]? = V[x.rt.toNat]? := List.getElem?_append_left (by omega)
    simp only [K.okAt, K.sums, e1, e2] at h ⊢
    exact h
  · simp only [K.okAt, hlf, if_true] at h ⊢
    exact h

theorem K.all_app {V : List It} (h : K.all V) (x : It) (hx : K.okAt (V ++ [x]) V.length x = true) : K.all (V ++ [x]) := by
  intro k y hy
  by_cases e : k < V.length
  · rw [List.getElem?_append_left e] at hy
    exact K.ok_app _ (by omega) (h k y hy)
  · have hk := (List.getElem?_eq_some_iff.1 hy).1
    rw [List.length_append] at hk
    simp at hk
    have : k = V.length := by omega
    subst this
    rw [List.getElem?_append_right (Nat.le_refl _), Nat.sub_self] at hy
    simp at hy
    subst hy; exact hx

theorem K.get_some {V : List It} {a : Int} (h : 0 ≤ a ∧ a < V.length) : V[a.toNat]? = some (K.get V a) := by
  unfold K.get
  rw [List.getElem?_eq_getElem (by omega)]; rfl

theorem K.all_sum {V : List It} {a b : Int} {r : List Int} (h : K.all V) (ho : K.Ok V (a :: b :: r) 1125899906842624 70368744177664) : K.all (V ++ [K.sumIt V a b]) := by
  obtain ⟨ha, hb, hv, hbl, _⟩ := ho.two
  refine K.all_app h _ ?_
  have e1 : (V ++ [K.sumIt V a b])[a.toNat]? = some (K.get V a) := by rw [List.getElem?_append_left (by omega)]; exact K.get_some ha
  have e2 : (V ++ [K.sumIt V a b])[b.toNat]? = some (K.get V b) := by rw [List.getElem?_append_left (by omega)]; exact K.get_some hb
  have hlf : K.leafy (K.sumIt V a b) = false := K.leafy_no ha.1 (.inl rfl)
  have hh1 : K.has V.length (K.sumIt V a b).lt = true := K.has_iff.2 ha
  have hh2 : K.has V.length (K.sumIt V a b).rt = true := K.has_iff.2 hb
  have hs : K.sums (V ++ [K.sumIt V a b]) (K.sumIt V a b) = true := by
    unfold K.sums
    show (match (V ++ [K.sumIt V a b])[a.toNat]?, (V ++ [K.sumIt V a b])[b.toNat]? with
      | some x, some y => ((K.sumIt V a b).val == x.val + y.val) && ((K.sumIt V a b).bl == x.bl + y.bl)
      | _, _ => false) = true
    rw [e1, e2]
    simp [K.sumIt]
  simp only [K.okAt, hlf, hh1, hh2, hs, K.btw, Bool.and_eq_true, decide_eq_true_eq, Bool.false_eq_true, if_false]
  refine ⟨⟨?_, ?_⟩, ⟨?_, ?_⟩, trivial, trivial, trivial⟩
  · show 0 ≤ (K.get V a).val + (K.get V b).val; omega
  · show (K.get V a).val + (K.get V b).val ≤ _; omega
  · show 0 ≤ (K.get V a).bl + (K.get V b).bl; omega
  · show (K.get V a).bl + (K.get V b).bl ≤ _; omega

theorem K.Sub.app {V : List It} (W : List It) {i j : Nat} (h : K.Sub V i j) : K.Sub (V ++ W) i j := by
  have old : ∀ (k : Nat) (x : It), V[k]? = some x → (V ++ W)[k]? = some x := fun k x hx => by
    rw [List.getElem?_append_left (List.getElem?_eq_some_iff.1 hx).1]; exact hx
  induction h with
  | refl i => exact .refl i
  | lt i j x hx hl _ ih => exact .lt i j x (old _ _ hx) hl ih
  | rt i j x hx hl _ ih => exact .rt i j x (old _ _ hx) hl ih
theorem K.Sub.trans {V : List It} {i j k : Nat} (h : K.Sub V i j) (h2 : K.Sub V j k) : K.Sub V i k := by
  induction h with
  | refl i => exact h2
  | lt i j x hx hl _ ih => exact .lt i _ x hx hl (ih h2)
  | rt i j x hx hl _ ih => exact .rt i _ x hx hl (ih h2)

theorem K.pair_more : ∀ (m : Nat) (lv : List Int) (V : List It), lv.length ≤ m → K.all V → K.Ok V lv 1125899906842624 70368744177664 →
    K.all (K.pairUp V lv).1 ∧ ∀ j ∈ lv, ∃ j' ∈ (K.pairUp V lv).2, K.Sub (K.pairUp V lv).1 j'.toNat j.toNat := by
  intro m
  induction m with
  | zero =>
    intro lv V hm h ho
    have : lv = [] := List.length_eq_zero_iff.1 (by omega)
    subst this
    exact ⟨h, fun j hj => by simp at hj⟩
  | succ m ih =>
    intro lv V hm h ho
    rcases lv with _ | ⟨a, _ | ⟨b, r⟩⟩
    · exact ⟨h, fun j hj => by simp at hj⟩
    · exact ⟨h, fun j hj => ⟨j, hj, .refl _⟩⟩
    · obtain ⟨ha, hb, _, _, hnx⟩ := ho.two
      have h1 := K.all_sum h ho
      have hr : K.fine (V ++ [K.sumIt V a b]) r := (hnx _).fine
      obtain ⟨g1, g2⟩ := ih r (V ++ [K.sumIt V a b]) (by simp at hm; omega) h1 (hnx _)
      obtain ⟨_, _, _, ⟨W, g4⟩, _⟩ := K.pair_fine r.length r (V ++ [K.sumIt V a b]) (Nat.le_refl _) hr
      have hx : (K.pairUp (V ++ [K.sumIt V a b]) r).1[V.length]? = some (K.sumIt V a b) := by
        rw [g4, List.append_assoc, List.getElem?_append_right (Nat.le_refl _), Nat.sub_self]; rfl
      have hlf : K.leafy (K.sumIt V a b) = false := K.leafy_no ha.1 (.inl rfl)
      simp only [K.pairUp]
      refine ⟨g1, fun j hj => ?_⟩
      rcases List.mem_cons.1 hj with rfl | hj
      · refine ⟨_, List.mem_cons_self, ?_⟩
        rw [Int.toNat_natCast]
        exact .lt _ _ _ hx hlf (.refl _)
      rcases List.mem_cons.1 hj with rfl | hj
      · refine ⟨_, List.mem_cons_self, ?_⟩
        rw [Int.toNat_natCast]
        exact .rt _ _ _ hx hlf (.refl _)
      · obtain ⟨j', h1, h2⟩ := g2 j hj
        exact ⟨j', List.mem_cons_of_mem _ h1, h2⟩

theorem K.levels_more : ∀ (f : Nat) (V : List It) (lv : List Int), lv.length ≤ f → 0 < lv.length → K.all V → K.Ok V lv 1125899906842624 70368744177664 →
    K.all (K.levels f V lv).1 ∧ (∃ W, (K.levels f V lv).1 = V ++ W) ∧ (K.levels f V lv).1.length + 1 = V.length + lv.length ∧
      ∃ z : Nat, (K.levels f V lv).2 = z ∧ (∃ x, (K.levels f V lv).1[z]? = some x ∧ x.val = K.sumv V lv ∧ x.bl = K.sumb V lv) ∧ ∀ j ∈ lv, K.Sub (K.levels f V lv).1 z j.toNat := by
  intro f
  induction f with
  | zero => intro V lv h h0; omega
  | succ f ih =>
    intro V lv hf h0 h ho
    by_cases h1 : lv.length ≤ 1
    · obtain ⟨z, rfl⟩ : ∃ z, lv = [z] := by
        rcases lv with _ | ⟨z, _ | ⟨y, r⟩⟩
        · simp at h0
        · exact ⟨z, rfl⟩
        · simp at h1
      rw [K.levels_end]
      have hz := (ho.fine z List.mem_cons_self).1
      refine ⟨h, ⟨[], by simp⟩, rfl, z.toNat, by simp only; omega, ⟨K.get V z, K.get_some hz, by simp [K.sumv], by simp [K.sumb]⟩, fun j hj => ?_⟩
      simp at hj
      subst hj; exact .refl _
    · obtain ⟨g1, g2⟩ := K.pair_more lv.length lv V (Nat.le_refl _) h ho
      obtain ⟨p1, p2, p3, ⟨W1, p4⟩, p5, p6, p7⟩ := K.pair_fine lv.length lv V (Nat.le_refl _) ho.fine
      rw [K.levels_step (by omega) hf]
      obtain ⟨q1, ⟨W2, q2⟩, q3, z, q4, ⟨x, q5, q6, q7⟩, q8⟩ := ih (K.pairUp V lv).1 (K.pairUp V lv).2 (by omega) (by omega) g1 ⟨p1, by rw [p2]; exact ho.v, by rw [p3]; exact ho.b⟩
      refine ⟨q1, ⟨W1 ++ W2, by rw [q2, p4, List.append_assoc]⟩, by omega, z, q4, ⟨x, q5, by rw [q6, p2], by rw [q7, p3]⟩, fun j hj => ?_⟩
      obtain ⟨j', h2, h3⟩ := g2 j hj
      have h4 := q8 j' h2
      rw [q2] at h4 ⊢
      exact h4.trans (h3.app W2)

theorem K.all_leaves {v : List It} (hv : K.all v) : ∀ (l : List Ln), (∀ x ∈ l, K.right x = true) → K.all (v ++ l.map K.leafIt) := by
  intro l
  induction l generalizing v with
  | nil => intro _; simpa using hv
  | cons x l ih =>
    intro h
    have h1 : K.all (v ++ [K.leafIt x]) := by
      refine K.all_app hv _ ?_
      have := K.right_cents (h x List.mem_cons_self)
      have hlf : K.leafy (K.leafIt x) = true := rfl
      simp only [K.okAt, hlf, K.btw, Bool.and_eq_true, decide_eq_true_eq, if_true]
      refine ⟨⟨?_, ?_⟩, ⟨?_, ?_⟩, ?_⟩
      · show 0 ≤ x.cents; omega
      · show x.cents ≤ _; omega
      · show 0 ≤ x.bl; omega
      · show x.bl ≤ _; omega
      · show x.bl ≤ _; omega
    have := ih h1 fun y hy => h y (List.mem_cons_of_mem _ hy)
    rwa [List.append_assoc] at this

/-- What holds of a tree that Build has made. -/
structure K.Tree (v : List It) (l : List Ln) (V : List It) (root : Nat) : Prop where
  sound : K.sound V = true
  keep : ∃ W, V = v ++ W
  len : V.length + 1 = v.length + 2 * l.length
  top : ∃ x, V[root]? = some x ∧ x.val = K.cents l ∧ x.bl = K.blinds l
  leaf : ∀ (i : Nat) (x : Ln), l[i]? = some x → V[v.length + i]? = some (K.leafIt x)
  sub : ∀ (i : Nat), i < l.length → K.Sub V root (v.length + i)
  right : ∀ x ∈ l, K.right x = true
  pos : 0 < l.length
  vsound : K.sound v = true
  cents : 0 ≤ K.cents l ∧ K.cents l ≤ 1125899906842624
  blinds : 0 ≤ K.blinds l ∧ K.blinds l ≤ 70368744177664

theorem K.build_ok {v : List It} {l : List Ln} (h : (K.build v l).err = 0) : ∃ root : Nat, (K.build v l).root = root ∧ (K.build v l).leaves = K.idx v.length l ∧ K.Tree v l (K.build v l).items root := by
  unfold K.build at h ⊢
  split at h
  · simp at h
  split at h
  · simp at h
  split at h
  · simp at h
  rename_i h1 h2 h3
  rw [if_neg h1, if_neg h2, if_neg h3]
  have hs : K.sound v = true := by
    cases e : K.sound v
    · exact absurd (by rw [e]; rfl) h1
    · rfl
  have hr : ∀ x ∈ l, K.right x = true := by
    intro x hx
    cases e : K.right x
    · refine absurd ?_ h1
      have : (l.any fun x => !K.right x) = true := List.any_eq_true.2 ⟨x, hx, by rw [e]; rfl⟩
      rw [this, Bool.or_true]
    · rfl
  have hp : 0 < l.length := by
    cases l with
    | nil => exact absurd (by simp) h1
    | cons a l => simp
  have hsum := K.leaves_sum v l
  have hcb := K.cents_bound hr
  have hbb := K.blinds_bound hr
  have hok : K.Ok (v ++ l.map K.leafIt) (K.idx v.length l) 1125899906842624 70368744177664 := ⟨K.leaves_fine hr, by rw [hsum.1]; omega, by rw [hsum.2]; omega⟩
  obtain ⟨q1, ⟨W, q2⟩, q3, z, q4, ⟨x, q5, q6, q7⟩, q8⟩ := K.levels_more l.length (v ++ l.map K.leafIt) (K.idx v.length l) (by rw [K.idx_len]; exact Nat.le_refl _) (by rw [K.idx_len]; exact hp) (K.all_leaves (K.sound_all hs) l hr) hok
  rw [K.idx_len, List.length_append, List.length_map] at q3
  have n1 : (K.levels l.length (v ++ l.map K.leafIt) (K.idx v.length l)).1.length ≤ 1000 := by omega
  have n2 : (K.levels l.length (v ++ l.map K.leafIt) (K.idx v.length l)).1.length + 1 = v.length + 2 * l.length := by omega
  refine ⟨z, q4, rfl, ⟨K.all_sound q1 n1, ⟨l.map K.leafIt ++ W, by rw [← List.append_assoc]; exact q2⟩, n2, ⟨x, q5, by rw [q6, hsum.1], by rw [q7, hsum.2]⟩, ?_, ?_, hr, hp, hs, by omega, by omega⟩⟩
  · intro i y hy
    have hi := (List.getElem?_eq_some_iff.1 hy).1
    show (K.levels l.length (v ++ l.map K.leafIt) (K.idx v.length l)).1[v.length + i]? = _
    rw [q2, List.append_assoc, List.getElem?_append_right (by omega), Nat.add_sub_cancel_left, List.getElem?_append_left (by rw [List.length_map]; exact hi), List.getElem?_map, hy]; rfl
  · intro i hi
    have := q8 ((v.length + i : Nat) : Int) (by
      unfold K.idx
      exact List.mem_map.2 ⟨i, List.mem_range.2 hi, rfl⟩)
    rwa [Int.toNat_natCast] at this

theorem K.build_bad {v : List It} {l : List Ln} (h : (K.build v l).err ≠ 0) : (K.build v l).items = [] ∧ (K.build v l).root = -1 ∧ (K.build v l).leaves = [] := by
  unfold K.build at h ⊢
  split
  · exact ⟨rfl, rfl, rfl⟩
  rename_i h1
  rw [if_neg h1] at h
  split
  · exact ⟨rfl, rfl, rfl⟩
  rename_i h2
  rw [if_neg h2] at h
  split
  · exact ⟨rfl, rfl, rfl⟩
  rename_i h3
  rw [if_neg h3] at h
  exact absurd rfl h

theorem K.idx_at (n : Nat) (l : List Ln) {i : Nat} (h : i < l.length) : (K.idx n l)[i]? = some ((n + i : Nat) : Int) := by
  unfold K.idx
  rw [List.getElem?_map, List.getElem?_range h]; rfl

/-- The path to a line's leaf. -/
theorem K.Tree.path {v : List It} {l : List Ln} {V : List It} {root : Nat} (h : K.Tree v l V root) {i : Nat} {x : Ln} (hx : l[i]? = some x) :
    K.check V (K.path V root ((v.length + i : Nat) : Int)) (K.cents l) (K.blinds l) x = true ∧
      (∀ c, c ≠ x.cents → K.check V (K.path V root ((v.length + i : Nat) : Int)) (K.cents l) (K.blinds l) ⟨x.hh, c, x.bl⟩ = false) ∧
      (∀ c, c ≠ x.bl → K.check V (K.path V root ((v.length + i : Nat) : Int)) (K.cents l) (K.blinds l) ⟨x.hh, x.cents, c⟩ = false) ∧
      (∀ c, c ≠ K.cents l → K.check V (K.path V root ((v.length + i : Nat) : Int)) c (K.blinds l) x = false) ∧
      (∀ c, c ≠ K.blinds l → K.check V (K.path V root ((v.length + i : Nat) : Int)) (K.cents l) c x = false) := by
  have hi := (List.getElem?_eq_some_iff.1 hx).1
  obtain ⟨t, ht, t1, t2⟩ := h.top
  have hrl := (List.getElem?_eq_some_iff.1 ht).1
  have hlf := h.leaf i x hx
  have hll := (List.getElem?_eq_some_iff.1 hlf).1
  have hne := K.path_has h.sound hrl hll (h.sub i hi)
  obtain ⟨_, _, _, hw, hh, hla, _⟩ := K.path_yes hne
  have no : ∀ (t' b' : Int) (y : Ln), (t' = K.cents l ∧ b' = K.blinds l ∧ y.cents = x.cents ∧ y.bl = x.bl → False) → K.check V (K.path V root ((v.length + i : Nat) : Int)) t' b' y = false := by
    intro t' b' y hf
    cases e : K.check V (K.path V root ((v.length + i : Nat) : Int)) t' b' y
    · rfl
    · exfalso
      obtain ⟨_, _, _, _, _, u, z, hu, hz, _, u1, u2, z1, z2⟩ := K.check_parts e
      rw [hla, Int.toNat_natCast, hlf] at hu
      rw [hh, Int.toNat_natCast, ht] at hz
      injection hu with hu; subst hu
      injection hz with hz; subst hz
      exact hf ⟨by rw [← z1, t1], by rw [← z2, t2], u1.symm, u2.symm⟩
  refine ⟨?_, fun c hc => no _ _ _ fun g => hc g.2.2.1, fun c hc => no _ _ _ fun g => hc g.2.2.2, fun c hc => no _ _ _ fun g => hc g.1, fun c hc => no _ _ _ fun g => hc g.2.1⟩
  have hop : ∀ (k : Nat) (z : It), V[k]? = some z → K.opens V (k : Int) z.val z.bl = true := by
    intro k z hz
    have hk := (List.getElem?_eq_some_iff.1 hz).1
    simp only [K.opens, Int.toNat_natCast, hz, h.sound, Bool.true_and]
    rw [K.has_iff.2 ⟨by omega, by omega⟩]
    simp
  have o1 := hop _ _ ht
  have o2 := hop _ _ hlf
  rw [t1, t2] at o1
  simp only [K.check, hw, hh, hla, h.right x (List.mem_of_getElem? hx), o1, Bool.true_and, Bool.and_true]
  rw [Bool.and_eq_true]
  refine ⟨?_, o2⟩
  unfold K.leafAt
  rw [Int.toNat_natCast, hlf]; rfl
end Go.Proofs.Ytijkaiilecpbcaa
