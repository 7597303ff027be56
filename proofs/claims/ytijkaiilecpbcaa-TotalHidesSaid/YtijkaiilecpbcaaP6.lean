/-
Plain laws: paths and views hang on the parts alone.
-/
import Derived.Test.YtijkaiilecpbcaaP5
namespace Go.Proofs.Ytijkaiilecpbcaa
open Go.RowKit

/-- The parts of an item. -/
def K.sh (x : It) : Int × Int := (x.lt, x.rt)
/-- Two lists of items with the same parts. -/
def K.Shape (V U : List It) : Prop := V.map K.sh = U.map K.sh

theorem K.Shape.len {V U : List It} (h : K.Shape V U) : V.length = U.length := by
  have := congrArg List.length h
  simpa using this
theorem K.Shape.at {V U : List It} (h : K.Shape V U) {k : Nat} {x : It} (hx : V[k]? = some x) : ∃ y, U[k]? = some y ∧ y.lt = x.lt ∧ y.rt = x.rt := by
  have hk := (List.getElem?_eq_some_iff.1 hx).1
  have hl := h.len
  have hy : U[k]? = some (U[k]'(by omega)) := List.getElem?_eq_getElem (by omega)
  refine ⟨_, hy, ?_⟩
  have e : (V.map K.sh)[k]? = (U.map K.sh)[k]? := by rw [show V.map K.sh = U.map K.sh from h]
  rw [List.getElem?_map, List.getElem?_map, hx, hy] at e
  simp only [Option.map_some, Option.some.injEq, K.sh, Prod.mk.injEq] at e
  exact ⟨e.1.symm, e.2.symm⟩
theorem K.Shape.none {V U : List It} (h : K.Shape V U) {k : Nat} (hx : V[k]? = none) : U[k]? = none := by
  rw [List.getElem?_eq_none_iff] at hx ⊢
  have := h.len; omega
theorem K.Shape.symm {V U : List It} (h : K.Shape V U) : K.Shape U V := Eq.symm h
theorem K.Shape.snoc {V U : List It} (h : K.Shape V U) {x y : It} (e : K.sh x = K.sh y) : K.Shape (V ++ [x]) (U ++ [y]) := by
  unfold K.Shape at h ⊢
  rw [List.map_append, List.map_append, h]
  simp [e]

theorem K.pair_shape : ∀ (m : Nat) (lv : List Int) (V U : List It), lv.length ≤ m → K.Shape V U → K.Shape (K.pairUp V lv).1 (K.pairUp U lv).1 ∧ (K.pairUp V lv).2 = (K.pairUp U lv).2 := by
  intro m
  induction m with
  | zero =>
    intro lv V U hm h
    have : lv = [] := List.length_eq_zero_iff.1 (by omega)
    subst this
    exact ⟨h, rfl⟩
  | succ m ih =>
    intro lv V U hm h
    rcases lv with _ | ⟨a, _ | ⟨b, r⟩⟩
    · exact ⟨h, rfl⟩
    · exact ⟨h, rfl⟩
    · obtain ⟨g1, g2⟩ := ih r (V ++ [K.sumIt V a b]) (U ++ [K.sumIt U a b]) (by simp at hm; omega) (h.snoc rfl)
      simp only [K.pairUp]
      exact ⟨g1, by rw [g2, h.len]⟩

theorem K.levels_shape : ∀ (f : Nat) (V U : List It) (lv : List Int), K.Shape V U → K.Shape (K.levels f V lv).1 (K.levels f U lv).1 ∧ (K.levels f V lv).2 = (K.levels f U lv).2 := by
  intro f
  induction f with
  | zero => intro V U lv h; exact ⟨h, rfl⟩
  | succ f ih =>
    intro V U lv h
    simp only [K.levels]
    split
    · exact ⟨h, rfl⟩
    · obtain ⟨g1, g2⟩ := K.pair_shape lv.length lv V U (Nat.le_refl _) h
      rw [← g2]
      exact ih _ _ _ g1

theorem K.leaves_shape (v : List It) : ∀ (a b : List Ln), a.length = b.length → K.Shape (v ++ a.map K.leafIt) (v ++ b.map K.leafIt) := by
  intro a b h
  unfold K.Shape
  rw [List.map_append, List.map_append, List.map_map, List.map_map]
  congr 1
  have : ∀ l : List Ln, l.map (K.sh ∘ K.leafIt) = List.replicate l.length ((-1 : Int), (-1 : Int)) := by
    intro l
    induction l with
    | nil => rfl
    | cons x l ih => rw [List.map_cons, ih]; rfl
  rw [this, this, h]

theorem K.idx_shape (n : Nat) {a b : List Ln} (h : a.length = b.length) : K.idx n a = K.idx n b := by
  unfold K.idx; rw [h]

theorem K.build_shape {v : List It} {a b : List Ln} (h : a.length = b.length) (ea : (K.build v a).err = 0) (eb : (K.build v b).err = 0) :
    K.Shape (K.build v a).items (K.build v b).items ∧ (K.build v a).root = (K.build v b).root := by
  have form : ∀ l : List Ln, (K.build v l).err = 0 → (K.build v l).items = (K.levels l.length (v ++ l.map K.leafIt) (K.idx v.length l)).1 ∧ (K.build v l).root = (K.levels l.length (v ++ l.map K.leafIt) (K.idx v.length l)).2 := by
    intro l he
    unfold K.build at he ⊢
    split at he
    · simp at he
    split at he
    · simp at he
    split at he
    · simp at he
    rename_i h1 h2 h3
    rw [if_neg h1, if_neg h2, if_neg h3]
    exact ⟨rfl, rfl⟩
  obtain ⟨a1, a2⟩ := form a ea
  obtain ⟨b1, b2⟩ := form b eb
  rw [a1, a2, b1, b2, ← h, ← K.idx_shape v.length h]
  exact K.levels_shape _ _ _ _ (K.leaves_shape v a b h)

theorem K.nearOf_shape {bs : List Bool} {x y : It} (h1 : y.lt = x.lt) (h2 : y.rt = x.rt) : K.nearOf bs y = K.nearOf bs x := by
  simp only [K.nearOf, K.leafy, h1, h2]
theorem K.near_shape {V U : List It} (h : K.Shape V U) (leaf : Nat) : ∀ k, K.nearUp V leaf k = K.nearUp U leaf k := by
  intro k
  induction k with
  | zero => simp only [K.nearUp, h.len]
  | succ k ih =>
    simp only [K.nearUp, K.nearStep, ih]
    cases e : V[leaf + 1 + k]? with
    | none => rw [h.none e]
    | some x =>
      obtain ⟨y, hy, h1, h2⟩ := h.at e
      rw [hy]
      simp only [K.nearOf_shape h1 h2]
theorem K.nextOf_shape {bs : List Bool} {x y : It} (h1 : y.lt = x.lt) (h2 : y.rt = x.rt) : K.nextOf bs y = K.nextOf bs x := by
  simp only [K.nextOf, h1, h2]
theorem K.tail_shape {V U : List It} (h : K.Shape V U) (bs : List Bool) (leaf : Nat) : ∀ f k, K.tailOf V bs leaf f k = K.tailOf U bs leaf f k := by
  intro f
  induction f with
  | zero => intro k; rfl
  | succ f ih =>
    intro k
    simp only [K.tailOf]
    split
    · rfl
    · cases e : V[k]? with
      | none => rw [h.none e]
      | some x =>
        obtain ⟨y, hy, h1, h2⟩ := h.at e
        rw [hy]
        simp only [K.nextOf_shape h1 h2, ih]
theorem K.path_shape {V U : List It} (h : K.Shape V U) (hv : K.sound V = true) (hu : K.sound U = true) (r f : Int) : K.path V r f = K.path U r f := by
  unfold K.path K.near
  rw [hv, hu, h.len, K.near_shape h]
  simp only [K.tail_shape h]
theorem K.walk_shape {V U : List It} (h : K.Shape V U) : ∀ (p : List Int) (pr : Option Int), K.walkFrom V pr p = K.walkFrom U pr p := by
  intro p
  induction p with
  | nil => intro pr; rfl
  | cons a p ih =>
    intro pr
    simp only [K.walkFrom, ih, h.len]
    congr 2
    cases pr with
    | none => rfl
    | some q =>
      simp only [K.from_, K.stepOk]
      cases e : V[q.toNat]? with
      | none => rw [h.none e]
      | some x =>
        obtain ⟨y, hy, h1, h2⟩ := h.at e
        rw [hy]
        simp only [h1, h2]

/-- What is seen along a path, where the first and the last item are the same. -/
theorem K.view_shape {V U : List It} (h : K.Shape V U) (hv : K.sound V = true) (hu : K.sound U = true) {p : List Int} (h0 : V[(p.headD 0).toNat]? = U[(p.headD 0).toNat]?) (h1 : V[(p.getLastD 0).toNat]? = U[(p.getLastD 0).toNat]?) : K.view V p = K.view U p := by
  have hw : K.walks V p = K.walks U p := by unfold K.walks; rw [hv, hu, K.walk_shape h]
  unfold K.view
  rw [← hw]
  split
  · rename_i hwv
    obtain ⟨_, hne, _⟩ := K.walks_parts hwv
    apply List.ext_getElem?
    intro k
    by_cases hk : k < p.length
    · have hp : p[k]? = some (p[k]'hk) := List.getElem?_eq_getElem hk
      rw [K.view_get V p.length p 0 k _ hp, K.view_get U p.length p 0 k _ hp, Nat.zero_add]
      congr 1
      unfold K.viewAt
      by_cases e0 : k = 0
      · subst e0
        have := K.head_at hne
        rw [hp] at this
        injection this with this
        rw [this, h0]
      · by_cases e1 : k + 1 = p.length
        · have := K.last_at hne
          rw [show p.length - 1 = k by omega, hp] at this
          injection this with this
          rw [this, h1]
        · cases e : V[(p[k]'hk).toNat]? with
          | none => rw [h.none e]
          | some x =>
            obtain ⟨y, hy, g1, g2⟩ := h.at e
            rw [hy]
            simp only [K.veil]
            rw [if_pos (by omega), if_pos (by omega), g1, g2]
    · rw [List.getElem?_eq_none (by rw [K.view_len]; omega), List.getElem?_eq_none (by rw [K.view_len]; omega)]
  · rfl

theorem K.It_eq {x y : It} (h1 : x.val = y.val) (h2 : x.bl = y.bl) (h3 : x.lt = y.lt) (h4 : x.rt = y.rt) : x = y := by
  cases x; cases y; simp_all

/-- Two trees over one vault, of as many lines: what the household at a place sees. -/
theorem K.hides {v : List It} {a b : List Ln} {V U : List It} {root : Nat} (ta : K.Tree v a V root) (tb : K.Tree v b U root) (hs : K.Shape V U) {i : Nat} {x : Ln} (ha : a[i]? = some x) (hb : b[i]? = some x)
    (hc : K.cents a = K.cents b) (hbl : K.blinds a = K.blinds b) :
    K.path V root ((v.length + i : Nat) : Int) = K.path U root ((v.length + i : Nat) : Int) ∧ K.path V root ((v.length + i : Nat) : Int) ≠ [] ∧
      K.view V (K.path V root ((v.length + i : Nat) : Int)) = K.view U (K.path V root ((v.length + i : Nat) : Int)) := by
  have hi := (List.getElem?_eq_some_iff.1 ha).1
  obtain ⟨t, ht, t1, t2⟩ := ta.top
  obtain ⟨u, hu, u1, u2⟩ := tb.top
  have hrl := (List.getElem?_eq_some_iff.1 ht).1
  have hlf := ta.leaf i x ha
  have hll := (List.getElem?_eq_some_iff.1 hlf).1
  have hne := K.path_has ta.sound hrl hll (ta.sub i hi)
  obtain ⟨_, _, _, _, hh, hla, _⟩ := K.path_yes hne
  refine ⟨K.path_shape hs ta.sound tb.sound _ _, hne, K.view_shape hs ta.sound tb.sound ?_ ?_⟩
  · rw [hh, Int.toNat_natCast, ht, hu]
    obtain ⟨y, hy, g1, g2⟩ := hs.at ht
    rw [hu] at hy
    injection hy with hy; subst hy
    rw [K.It_eq (by rw [t1, u1, hc]) (by rw [t2, u2, hbl]) g1.symm g2.symm]
  · rw [hla, Int.toNat_natCast, hlf, tb.leaf i x hb]
end Go.Proofs.Ytijkaiilecpbcaa
