/-
Plain laws: an order of some requests of the set that can be served ends not earlier than its label says.
-/
import Derived.Test.YtjcdpfpdjcannaaVD
import Derived.Test.YtjcdpfpdjcannaaPH
namespace Go.Proofs.Ytjcdpfpdjcannaa
open Go.RowKit
namespace K
/-- The place of an element: p, unless it is found from place i on. -/
def placeGo (x : Int) : List Int → Nat → Int → Int
  | [], _, p => p
  | y :: l, i, p => placeGo x l (i + 1) (if y = x then (i : Int) else p)
def place (v : List Int) (x : Int) : Int := placeGo x v 0 (-1)
/-- The bits of the places of an order, and the place of its last element; none if an element has no place. -/
def bitsGo (v : List Int) : List Int → Int → Int → Option (Int × Int)
  | [], b, p => some (b, p)
  | x :: o, b, _ => if place v x < 0 then none else bitsGo v o (b + 2 ^ (place v x).toNat) (place v x)

theorem placeGo_at {x y : Int} {v : List Int} {k : Nat} (h : v[k]? = some y) (p : Int) : placeGo x (v.drop k) k p = placeGo x (v.drop (k + 1)) (k + 1) (if y = x then (k : Int) else p) := by
  obtain ⟨hk, e⟩ := List.getElem?_eq_some_iff.1 h
  rw [List.drop_eq_getElem_cons hk, e]
  rfl
theorem bitsGo_at {v o : List Int} {x : Int} {k : Nat} (h : o[k]? = some x) (b p : Int) : bitsGo v (o.drop k) b p = if place v x < 0 then none else bitsGo v (o.drop (k + 1)) (b + 2 ^ (place v x).toNat) (place v x) := by
  obtain ⟨hk, e⟩ := List.getElem?_eq_some_iff.1 h
  rw [List.drop_eq_getElem_cons hk, e]
  rfl
theorem placeGo_cases (x : Int) : ∀ (l : List Int) (i : Nat) (p : Int), (placeGo x l i p = p ∧ x ∉ l) ∨ ∃ j : Nat, placeGo x l i p = ((i + j : Nat) : Int) ∧ l[j]? = some x
  | [], i, p => .inl ⟨rfl, by simp⟩
  | y :: l, i, p => by
    rcases placeGo_cases x l (i + 1) (if y = x then (i : Int) else p) with ⟨h1, h2⟩ | ⟨j, h1, h2⟩
    · by_cases hy : y = x
      · refine .inr ⟨0, ?_, by simp [hy]⟩
        show placeGo x l (i + 1) (if y = x then (i : Int) else p) = _
        rw [h1, if_pos hy]; simp
      · refine .inl ⟨?_, fun h => ?_⟩
        · show placeGo x l (i + 1) (if y = x then (i : Int) else p) = _
          rw [h1, if_neg hy]
        · rcases List.mem_cons.1 h with h | h
          · exact hy h.symm
          · exact h2 h
    · refine .inr ⟨j + 1, ?_, by simpa using h2⟩
      show placeGo x l (i + 1) (if y = x then (i : Int) else p) = _
      rw [h1]; congr 1; omega
theorem place_at {v : List Int} {i : Nat} {x : Int} (hd : v.Nodup) (h : v[i]? = some x) : place v x = (i : Int) := by
  rcases placeGo_cases x v 0 (-1) with ⟨-, h2⟩ | ⟨j, h1, h2⟩
  · exact absurd (List.mem_of_getElem? h) h2
  · have hij : j = i := by
      obtain ⟨hj, ej⟩ := List.getElem?_eq_some_iff.1 h2
      obtain ⟨hi, ei⟩ := List.getElem?_eq_some_iff.1 h
      have hpw := List.pairwise_iff_getElem.1 hd
      rcases Nat.lt_trichotomy j i with h | h | h
      · exact absurd (ej.trans ei.symm) (hpw j i hj hi h)
      · exact h
      · exact absurd (ei.trans ej.symm) (hpw i j hi hj h)
    show placeGo x v 0 (-1) = _
    rw [h1, hij]; simp
theorem place_bd (v : List Int) (x : Int) : -1 ≤ place v x ∧ place v x < (v.length : Int) := by
  rcases placeGo_cases x v 0 (-1) with ⟨h1, -⟩ | ⟨j, h1, h2⟩
  · have : place v x = -1 := h1
    omega
  · have := (List.getElem?_eq_some_iff.1 h2).1
    have : place v x = ((0 + j : Nat) : Int) := h1
    omega
theorem place_mem {v : List Int} {x : Int} (h : ¬ place v x < 0) : x ∈ v := by
  rcases placeGo_cases x v 0 (-1) with ⟨h1, -⟩ | ⟨j, -, h2⟩
  · exact absurd (show place v x < 0 by show placeGo x v 0 (-1) < 0; omega) h
  · exact List.mem_of_getElem? h2
theorem bitsGo_snoc {v : List Int} {k : Int} : ∀ (o : List Int) (b p b' p' : Int), bitsGo v o b p = some (b', p') → ¬ place v k < 0 → bitsGo v (o ++ [k]) b p = some (b' + 2 ^ (place v k).toNat, place v k)
  | [], b, p, b', p', h, hk => by
    simp only [bitsGo, Option.some.injEq, Prod.mk.injEq] at h
    simp only [List.nil_append, bitsGo, if_neg hk, h.1]
  | x :: o, b, p, b', p', h, hk => by
    simp only [bitsGo] at h
    split at h
    · cases h
    · rename_i hx
      simp only [List.cons_append, bitsGo, if_neg hx]
      exact bitsGo_snoc o _ _ _ _ h hk
theorem bitsGo_mem {v : List Int} : ∀ (o : List Int) (b p : Int) (z : Int × Int), bitsGo v o b p = some z → ∀ x ∈ o, x ∈ v
  | [], _, _, _, _ => by simp
  | x :: o, b, p, z, h => by
    simp only [bitsGo] at h
    split at h
    · cases h
    · rename_i hx
      intro y hy
      rcases List.mem_cons.1 hy with rfl | hy
      · exact place_mem hx
      · exact bitsGo_mem o _ _ _ h y hy

theorem atLab_eq {bits last T : Int} : ∀ (l : List Lb), (∀ x ∈ l, x.set = bits → x.last = last → x.time = T) → (∃ x ∈ l, x.set = bits ∧ x.last = last) → atLab bits last l = T
  | [], _, h => by obtain ⟨x, hx, -⟩ := h; cases hx
  | y :: l, h1, h2 => by
    unfold atLab
    split
    · rename_i h
      exact h1 y (List.mem_cons_self ..) h.1 h.2
    · rename_i h
      obtain ⟨x, hx, e1, e2⟩ := h2
      refine atLab_eq l (fun z hz => h1 z (List.mem_cons_of_mem _ hz)) ⟨x, ?_, e1, e2⟩
      rcases List.mem_cons.1 hx with rfl | hx
      · exact absurd ⟨e1, e2⟩ h
      · exact hx

section
variable {nd : Int} {l : List Ro} {s : S} {r : List Q} {v : List Int}

theorem atLab_labs (h : ok31 nd l s r v = true) {m i : Nat} (hm : m < 2 ^ v.length) (hi : i < v.length) (hb : m.testBit i = true) : atLab (m : Int) (i : Int) (labs nd l s r v) = lab nd l s r v m i := by
  refine atLab_eq _ (fun x hx e1 e2 => ?_) ⟨_, labs_mem h hm hi hb, rfl, rfl⟩
  obtain ⟨m', i', -, -, -, rfl⟩ := mem_labs h hx
  have e1 : (m' : Int) = (m : Int) := e1
  have e2 : (i' : Int) = (i : Int) := e2
  rw [show m' = m by omega, show i' = i by omega]

theorem set_nodup (h : ok31 nd l s r v = true) : v.Nodup := by
  rw [ok31_eq] at h
  simp only [Bool.and_eq_true] at h
  exact (T.isSet_iff.1 (T.load_parts (right_parts h.2).2.1).2.1).2

theorem hits_bits (hd : v.Nodup) {q : Option Nat} {c : St} (h : Hits nd l s r v q c) : bitsGo v c.stops 0 0 = some ((c.bits : Int), ((q.getD 0 : Nat) : Int)) := by
  induction h with
  | first => rfl
  | step h hk ho ih =>
    rename_i o a b i k
    obtain ⟨-, -, -, e⟩ := onward_some ho
    have hp := place_at hd hk
    have := bitsGo_snoc (k := k) _ _ _ _ _ ih (by omega)
    rw [e]
    show bitsGo v (a.stops ++ [k]) 0 0 = _
    rw [this, hp]
    simp
theorem hits_times (hc : Case31 nd l s r v) {q : Option Nat} {c : St} (h : Hits nd l s r v q c) : c.times.length = c.stops.length ∧ (c.stops ≠ [] → ∃ i k y, q = some i ∧ c.stops[c.stops.length - 1]? = some k ∧ c.times[c.stops.length - 1]? = some y ∧ c.t = y + (req r k).service ∧ v[i]? = some k ∧ 0 ≤ y ∧ y ≤ 1000000) := by
  induction h with
  | first => exact ⟨rfl, fun h => absurd rfl h⟩
  | step h hk ho ih =>
    rename_i o a b i k
    obtain ⟨-, -, h3, e⟩ := onward_some ho
    obtain ⟨b1, b2, b3, b4, b5, b6, b7⟩ := begins_ok h3
    have hsv := (hc.ok k (List.mem_of_getElem? hk)).1
    rw [e]
    dsimp only
    refine ⟨by simp [ih.1], fun _ => ⟨i, k, _, rfl, by simp, by simp [← ih.1], rfl, hk, ?_, ?_⟩⟩
    · omega
    · omega

/-- The law of RouteEarlier. -/
theorem earlier_law (hok : ok31 nd l s r v = true) {o : List Int} (ho : o ≠ []) (hd : o.Nodup) {b p : Int} (hb : bitsGo v o 0 0 = some (b, p)) (he : (run nd l s r o).e = 0) :
    (run nd l s r o).tour.times.length = o.length ∧ 0 ≤ atLab b p (labs nd l s r v) ∧ ∃ k y, o[o.length - 1]? = some k ∧ (run nd l s r o).tour.times[o.length - 1]? = some y ∧ atLab b p (labs nd l s r v) ≤ y + (req r k).service ∧ 0 ≤ y ∧ y ≤ 1000000 := by
  have hc := case31 hok
  have hnd := set_nodup hok
  obtain ⟨h1, h2, h3, h4⟩ := run_ok he
  obtain ⟨q, c, hh, hs⟩ := legs_hits (nd := nd) (l := l) (s := s) (r := r) (v := v) o.length o rfl hd (bitsGo_mem o _ _ _ hb) h2
  have hlg := hits_legs hh
  rw [hs] at hlg
  have hbt := hits_bits hnd hh
  obtain ⟨ht, hl⟩ := hits_times hc hh
  rw [hs] at hbt ht hl
  obtain ⟨i, k, y, rfl, hk, hy, hct, hvk, hy0, hy1⟩ := hl ho
  rw [hbt] at hb
  injection hb with hb
  injection hb with hb1 hb2
  subst hb1 hb2
  have htm : (run nd l s r o).tour.times = c.times := by
    rw [h4]; unfold all; rw [hlg]
  obtain ⟨i1, -, i2⟩ := hits_inv hc hh
  obtain ⟨l1, l2⟩ := (lab_least hc c.bits i1 i k hvk).1 c hh rfl
  have hil := (List.getElem?_eq_some_iff.1 hvk).1
  have hat : atLab (c.bits : Int) (((some i).getD 0 : Nat) : Int) (labs nd l s r v) = lab nd l s r v c.bits i := atLab_labs hok i1 hil (i2 i rfl).1
  have hlb := lab_bd hc c.bits i
  rw [hat, htm]
  exact ⟨ht, by omega, k, y, hk, hy, by omega, hy0, hy1⟩
end
end K
end Go.Proofs.Ytjcdpfpdjcannaa
