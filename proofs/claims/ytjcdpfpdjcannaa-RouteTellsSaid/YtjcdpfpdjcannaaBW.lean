/-
Plain: the next order of different numbers, as the reference of layer 31 finds it; all orders of at most four places.
Plain: the reference's way through all orders of a set of at most four elements finds the best tour.
Plain: the first of the orders that end earliest is the best tour.
Plain laws: there are the labels of all parts in order, and each follows from those of the part without its element.
Plain: the reference's labels; and the walk of its less.
Plain: how many orders are left; a list of numbers, read off a slice.
-/
import Derived.Test.YtjcdpfpdjcannaaBV
import Derived.Test.YtjcdpfpdjcannaaPR
namespace Go.Proofs.Ytjcdpfpdjcannaa
open Go.RowKit
namespace K
/-- The last place ahead of place j whose element is not greater than the one behind it. -/
def nextI (l : List Int) : Nat → Option Nat
  | 0 => none
  | j + 1 => if (l[j + 1]?).getD 0 < (l[j]?).getD 0 then nextI l j else some j
/-- The last place below k whose element is not less than x. -/
def nextK (l : List Int) (x : Int) : Nat → Nat
  | 0 => 0
  | k + 1 => if (l[k]?).getD 0 < x then nextK l x k else k
/-- The elements behind place i turned round, and two elements exchanged. -/
def turned (l : List Int) (i k : Nat) : List Int :=
  (((l.set i ((l[k]?).getD 0)).set k ((l[i]?).getD 0)).take (i + 1)) ++ (((l.set i ((l[k]?).getD 0)).set k ((l[i]?).getD 0)).drop (i + 1)).reverse
/-- The lexicographically next order. -/
def next (l : List Int) : Option (List Int) := match nextI l (l.length - 1) with
  | none => none
  | some i => some (turned l i (nextK l ((l[i]?).getD 0) l.length))
/-- An order and those that follow it. -/
def orders : Nat → List Int → List (List Int)
  | 0, _ => []
  | f + 1, l => l :: match next l with | none => [] | some l' => orders f l'
/-- The places of a set of n elements. -/
def places (n : Nat) : List Int := (List.range n).map fun (i : Nat) => (i : Int)
/-- Whether a list of lists grows. -/
def grows : List (List Int) → Bool
  | [] => true
  | a :: l => l.all (fun b => lexle a b) && grows l
theorem orders_grow_all : ∀ n : Fin 5, grows (orders 25 (places n.val)) = true := by decide +kernel
theorem orders_len_all : ∀ n : Fin 5, (orders 25 (places n.val)).length ≤ 24 := by decide +kernel
theorem orders_all1 : ∀ a : Fin 1, [(a.val : Int)] ∈ orders 25 (places 1) := by decide +kernel
theorem orders_all2 : ∀ a b : Fin 2, [a, b].Nodup → [(a.val : Int), b.val] ∈ orders 25 (places 2) := by decide +kernel
theorem orders_all3 : ∀ a b c : Fin 3, [a, b, c].Nodup → [(a.val : Int), b.val, c.val] ∈ orders 25 (places 3) := by decide +kernel
theorem orders_all4 : ∀ a b c d : Fin 4, [a, b, c, d].Nodup → [(a.val : Int), b.val, c.val, d.val] ∈ orders 25 (places 4) := by decide +kernel
theorem orders_mem_all : ∀ n : Fin 5, ∀ o ∈ orders 25 (places n.val), o.length = n.val ∧ o.Nodup ∧ ∀ x ∈ o, 0 ≤ x ∧ x < n.val := by decide +kernel

theorem nextI_lt {l : List Int} : ∀ {j i : Nat}, nextI l j = some i → i < j
  | 0, i, h => by cases h
  | j + 1, i, h => by
    rw [nextI] at h
    split at h
    · have := nextI_lt h; omega
    · injection h with h; omega
theorem nextK_lt {l : List Int} {x : Int} : ∀ {k : Nat}, 0 < k → nextK l x k < k
  | 0, h => by omega
  | k + 1, _ => by
    rw [nextK]
    split
    · cases k with
      | zero => simp [nextK]
      | succ k => have := nextK_lt (l := l) (x := x) (k := k + 1) (by omega); omega
    · omega
section
variable {f : Int → Int} {l : List Int}
theorem map_at {i : Nat} (h : i < l.length) : (((l.map f)[i]?).getD 0) = f ((l[i]?).getD 0) := by
  rw [List.getElem?_map, List.getElem?_eq_getElem h]
  rfl
theorem at_mem {i : Nat} (h : i < l.length) : (l[i]?).getD 0 ∈ l := by
  rw [List.getElem?_eq_getElem h]
  exact List.getElem_mem h
/-- A map that keeps the order of a list's elements. -/
def Keeps (f : Int → Int) (l : List Int) : Prop := ∀ a ∈ l, ∀ b ∈ l, (f a < f b ↔ a < b)
theorem nextI_map (hf : Keeps f l) : ∀ j, (j = 0 ∨ j < l.length) → nextI (l.map f) j = nextI l j
  | 0, _ => rfl
  | j + 1, h => by
    have h1 : j + 1 < l.length := by omega
    rw [nextI, nextI, map_at h1, map_at (show j < l.length by omega), nextI_map hf j (by omega)]
    simp only [hf _ (at_mem h1) _ (at_mem (show j < l.length by omega))]
theorem nextK_map (hf : Keeps f l) {x : Int} (hx : x ∈ l) : ∀ k, k ≤ l.length → nextK (l.map f) (f x) k = nextK l x k
  | 0, _ => rfl
  | k + 1, h => by
    rw [nextK, nextK, map_at (show k < l.length by omega), nextK_map hf hx k (by omega)]
    simp only [hf _ (at_mem (show k < l.length by omega)) _ hx]
theorem turned_map {i k : Nat} (hi : i < l.length) (hk : k < l.length) : turned (l.map f) i k = (turned l i k).map f := by
  unfold turned
  rw [map_at hi, map_at hk]
  simp only [List.map_append, List.map_take, List.map_reverse, List.map_drop, List.map_set]
theorem turned_mem {i k : Nat} (hi : i < l.length) (hk : k < l.length) : ∀ x ∈ turned l i k, x ∈ l := by
  intro x hx
  have h1 : x ∈ (l.set i ((l[k]?).getD 0)).set k ((l[i]?).getD 0) := by
    unfold turned at hx
    rcases List.mem_append.1 hx with h | h
    · exact List.mem_of_mem_take h
    · exact List.mem_of_mem_drop (List.mem_reverse.1 h)
  rcases List.mem_or_eq_of_mem_set h1 with h | h
  · rcases List.mem_or_eq_of_mem_set h with h | h
    · exact h
    · rw [h]; exact at_mem hk
  · rw [h]; exact at_mem hi
theorem next_map (hf : Keeps f l) : next (l.map f) = (next l).map (List.map f) ∧ ∀ l', next l = some l' → ∀ x ∈ l', x ∈ l := by
  unfold next
  rw [List.length_map, nextI_map hf _ (by omega)]
  cases h : nextI l (l.length - 1) with
  | none => exact ⟨rfl, fun _ h => by cases h⟩
  | some i =>
    have hi : i < l.length := by have := nextI_lt h; omega
    have hk : nextK l ((l[i]?).getD 0) l.length < l.length := nextK_lt (by omega)
    dsimp only
    rw [map_at hi, nextK_map hf (at_mem hi) _ (Nat.le_refl _), turned_map hi hk]
    refine ⟨rfl, fun l' h => ?_⟩
    injection h with h
    subst h
    exact turned_mem hi hk
end
theorem orders_map {f : Int → Int} : ∀ (n : Nat) (l : List Int), Keeps f l → orders n (l.map f) = (orders n l).map (List.map f)
  | 0, _, _ => rfl
  | n + 1, l, hf => by
    obtain ⟨h1, h2⟩ := next_map hf
    rw [orders, orders, h1]
    cases h : next l with
    | none => rfl
    | some l' =>
      have hf' : Keeps f l' := fun a ha b hb => hf a (h2 l' h a ha) b (h2 l' h b hb)
      simp only [Option.map_some, List.map_cons]
      rw [orders_map n l' hf']
/-- A set is its places, mapped. -/
theorem places_map (v : List Int) : (places v.length).map (fun i => (v[i.toNat]?).getD 0) = v := by
  apply List.ext_getElem?
  intro k
  unfold places
  rw [List.map_map, List.getElem?_map]
  by_cases h : k < v.length
  · rw [List.getElem?_range h]
    simp [h]
  · rw [List.getElem?_eq_none (by simpa using h), List.getElem?_eq_none (by omega)]
    rfl
end K
end Go.Proofs.Ytjcdpfpdjcannaa
namespace Go.Proofs.Ytjcdpfpdjcannaa
open Go.RowKit
namespace K
theorem perm_of {o v : List Int} (h1 : o.Nodup) (h2 : v.Nodup) (h3 : ∀ x ∈ o, x ∈ v) (h4 : o.length = v.length) : o.Perm v := by
  have h5 : (v.filter fun x => decide (x ∈ o)).Perm o := by
    refine (List.perm_ext_iff_of_nodup (h2.filter _) h1).2 fun x => ?_
    rw [List.mem_filter]
    exact ⟨fun h => of_decide_eq_true h.2, fun h => ⟨h3 x h, decide_eq_true h⟩⟩
  have h6 : v.filter (fun x => decide (x ∈ o)) = v := List.filter_eq_self.2 (List.length_filter_eq_length_iff.1 (by rw [h5.length_eq, h4]))
  rw [h6] at h5
  exact h5.symm
/-- All orders of at most four places are there. -/
theorem orders_all {n : Nat} (hn : n ≤ 4) {σ : List Int} (hl : σ.length = n) (hd : σ.Nodup) (hr : ∀ x ∈ σ, 0 ≤ x ∧ x < (n : Int)) : σ ∈ orders 25 (places n) := by
  have hz : ∀ x : Int, 0 ≤ x → x < (n : Int) → ∃ a : Fin n, (a.val : Int) = x := fun x h0 h1 => ⟨⟨x.toNat, by omega⟩, by show ((x.toNat : Nat) : Int) = x; omega⟩
  match n, hn, σ, hl with
  | 0, _, [], _ => decide
  | 1, _, [x], _ =>
    obtain ⟨a, rfl⟩ := hz x (hr x (by simp)).1 (hr x (by simp)).2
    exact orders_all1 a
  | 2, _, [x, y], _ =>
    obtain ⟨a, rfl⟩ := hz x (hr x (by simp)).1 (hr x (by simp)).2
    obtain ⟨b, rfl⟩ := hz y (hr y (by simp)).1 (hr y (by simp)).2
    refine orders_all2 a b ?_
    simp only [List.nodup_cons, List.mem_cons, List.not_mem_nil, or_false, not_false_eq_true, List.nodup_nil, and_true] at hd ⊢
    exact fun h => hd (by rw [h])
  | 3, _, [x, y, z], _ =>
    obtain ⟨a, rfl⟩ := hz x (hr x (by simp)).1 (hr x (by simp)).2
    obtain ⟨b, rfl⟩ := hz y (hr y (by simp)).1 (hr y (by simp)).2
    obtain ⟨c, rfl⟩ := hz z (hr z (by simp)).1 (hr z (by simp)).2
    refine orders_all3 a b c ?_
    simp only [List.nodup_cons, List.mem_cons, List.not_mem_nil, or_false, not_or, not_false_eq_true, List.nodup_nil, and_true] at hd ⊢
    exact ⟨⟨fun h => hd.1.1 (by rw [h]), fun h => hd.1.2 (by rw [h])⟩, fun h => hd.2 (by rw [h])⟩
  | 4, _, [x, y, z, u], _ =>
    obtain ⟨a, rfl⟩ := hz x (hr x (by simp)).1 (hr x (by simp)).2
    obtain ⟨b, rfl⟩ := hz y (hr y (by simp)).1 (hr y (by simp)).2
    obtain ⟨c, rfl⟩ := hz z (hr z (by simp)).1 (hr z (by simp)).2
    obtain ⟨d, rfl⟩ := hz u (hr u (by simp)).1 (hr u (by simp)).2
    refine orders_all4 a b c d ?_
    simp only [List.nodup_cons, List.mem_cons, List.not_mem_nil, or_false, not_or, not_false_eq_true, List.nodup_nil, and_true] at hd ⊢
    exact ⟨⟨fun h => hd.1.1 (by rw [h]), fun h => hd.1.2.1 (by rw [h]), fun h => hd.1.2.2 (by rw [h])⟩, ⟨fun h => hd.2.1.1 (by rw [h]), fun h => hd.2.1.2 (by rw [h])⟩, fun h => hd.2.2 (by rw [h])⟩

theorem grows_pairwise : ∀ {l : List (List Int)}, grows l = true → l.Pairwise fun a b => lexle a b = true
  | [], _ => .nil
  | a :: l, h => by
    simp only [grows, Bool.and_eq_true, List.all_eq_true] at h
    exact .cons h.1 (grows_pairwise h.2)
theorem lexle_map {f : Int → Int} : ∀ {a b : List Int}, (∀ x ∈ a, ∀ y ∈ b, (f x < f y ↔ x < y) ∧ (f x = f y ↔ x = y)) → lexle (a.map f) (b.map f) = lexle a b
  | [], _, _ => rfl
  | _ :: _, [], _ => rfl
  | x :: a, y :: b, h => by
    obtain ⟨h1, h2⟩ := h x (List.mem_cons_self ..) y (List.mem_cons_self ..)
    simp only [List.map_cons, lexle, h1, h2]
    rw [lexle_map fun p hp q hq => h p (List.mem_cons_of_mem _ hp) q (List.mem_cons_of_mem _ hq)]
theorem lexle_anti : ∀ {a b : List Int}, a.length = b.length → lexle a b = true → lexle b a = true → a = b
  | [], [], _, _, _ => rfl
  | x :: a, y :: b, hl, h1, h2 => by
    unfold lexle at h1 h2
    by_cases hxy : x = y
    · rw [if_pos hxy] at h1
      rw [if_pos hxy.symm] at h2
      rw [hxy, lexle_anti (by simpa using hl) h1 h2]
    · rw [if_neg hxy] at h1
      rw [if_neg (Ne.symm hxy)] at h2
      have h1 := of_decide_eq_true h1
      have h2 := of_decide_eq_true h2
      omega

section
variable {v : List Int} (hs : v.Pairwise (· < ·)) (h4 : v.length ≤ 4)
/-- The element at a place. -/
def elemAt (v : List Int) (i : Int) : Int := (v[i.toNat]?).getD 0
theorem elemAt_lt (hs : v.Pairwise (· < ·)) {i j : Int} (hi : 0 ≤ i ∧ i < (v.length : Int)) (hj : 0 ≤ j ∧ j < (v.length : Int)) : (elemAt v i < elemAt v j ↔ i < j) ∧ (elemAt v i = elemAt v j ↔ i = j) := by
  have key : ∀ a b : Int, 0 ≤ a → a < b → b < (v.length : Int) → elemAt v a < elemAt v b := fun a b h0 h1 h2 => by
    unfold elemAt
    rw [List.getElem?_eq_getElem (show a.toNat < v.length by omega), List.getElem?_eq_getElem (show b.toNat < v.length by omega)]
    exact (List.pairwise_iff_getElem.1 hs) _ _ _ _ (by omega)
  rcases Int.lt_trichotomy i j with h | h | h
  · have := key i j hi.1 h hj.2
    exact ⟨⟨fun _ => h, fun _ => this⟩, ⟨fun e => by omega, fun e => by omega⟩⟩
  · subst h
    exact ⟨⟨fun h => absurd h (Int.lt_irrefl _), fun h => absurd h (Int.lt_irrefl _)⟩, ⟨fun _ => rfl, fun _ => rfl⟩⟩
  · have := key j i hj.1 h hi.2
    exact ⟨⟨fun _ => by omega, fun _ => by omega⟩, ⟨fun e => by omega, fun e => by omega⟩⟩
theorem places_mem {n : Nat} {x : Int} (h : x ∈ places n) : 0 ≤ x ∧ x < (n : Int) := by
  unfold places at h
  obtain ⟨i, hi, rfl⟩ := List.mem_map.1 h
  have := List.mem_range.1 hi
  omega
include hs in
theorem orders_v : orders 25 v = (orders 25 (places v.length)).map (List.map (elemAt v)) := by
  have h1 := orders_map (f := elemAt v) 25 (places v.length) fun a ha b hb => (elemAt_lt hs (places_mem ha) (places_mem hb)).1
  have h2 : (places v.length).map (elemAt v) = v := places_map v
  rw [h2] at h1
  exact h1
include hs h4 in
theorem orders_grow : (orders 25 v).Pairwise fun a b => lexle a b = true := by
  rw [orders_v hs]
  have h1 := grows_pairwise (orders_grow_all ⟨v.length, by omega⟩)
  refine List.pairwise_map.2 ?_
  refine List.Pairwise.imp_of_mem (fun {a b} ha hb hab => ?_) h1
  obtain ⟨-, -, ra⟩ := orders_mem_all ⟨v.length, by omega⟩ a ha
  obtain ⟨-, -, rb⟩ := orders_mem_all ⟨v.length, by omega⟩ b hb
  rw [lexle_map fun x hx y hy => elemAt_lt hs (ra x hx) (rb y hy)]
  exact hab
include hs h4 in
theorem mem_orders {o : List Int} : o ∈ orders 25 v ↔ o.Perm v := by
  have hnd : v.Nodup := hs.imp fun h => Int.ne_of_lt h
  rw [orders_v hs, List.mem_map]
  constructor
  · rintro ⟨σ, hσ, rfl⟩
    obtain ⟨r1, r2, r3⟩ := orders_mem_all ⟨v.length, by omega⟩ σ hσ
    refine perm_of ?_ hnd ?_ (by rw [List.length_map]; exact r1)
    · refine List.pairwise_map.2 (List.Pairwise.imp_of_mem (fun {a b} ha hb hab he => hab ?_) r2)
      exact (elemAt_lt hs (r3 a ha) (r3 b hb)).2.1 he
    · intro x hx
      obtain ⟨i, hi, rfl⟩ := List.mem_map.1 hx
      have := r3 i hi
      unfold elemAt
      have h9 : i.toNat < v.length := by have h8 : (i.toNat : Int) = i := by omega
                                         have h7 : i < (v.length : Int) := this.2
                                         omega
      rw [List.getElem?_eq_getElem h9]
      exact List.getElem_mem h9
  · intro hp
    refine ⟨o.map (place v), orders_all h4 (by rw [List.length_map, hp.length_eq]) ?_ ?_, ?_⟩
    · refine List.pairwise_map.2 (List.Pairwise.imp_of_mem (fun {a b} ha hb hab he => hab ?_) (hp.nodup_iff.2 hnd))
      obtain ⟨i, hi⟩ := List.mem_iff_getElem?.1 (hp.mem_iff.1 ha)
      obtain ⟨j, hj⟩ := List.mem_iff_getElem?.1 (hp.mem_iff.1 hb)
      rw [place_at hnd hi, place_at hnd hj] at he
      have : i = j := by omega
      subst this
      rw [hi] at hj
      injection hj
    · intro x hx
      obtain ⟨y, hy, rfl⟩ := List.mem_map.1 hx
      obtain ⟨i, hi⟩ := List.mem_iff_getElem?.1 (hp.mem_iff.1 hy)
      have := (List.getElem?_eq_some_iff.1 hi).1
      rw [place_at hnd hi]
      omega
    · rw [List.map_map]
      conv => rhs; rw [← List.map_id o]
      refine List.map_congr_left fun y hy => ?_
      obtain ⟨i, hi⟩ := List.mem_iff_getElem?.1 (hp.mem_iff.1 hy)
      show elemAt v (place v y) = y
      rw [place_at hnd hi]
      unfold elemAt
      rw [Int.toNat_natCast, hi]
      rfl
end
end K
end Go.Proofs.Ytjcdpfpdjcannaa
namespace Go.Proofs.Ytjcdpfpdjcannaa
open Go.RowKit
namespace K
section
variable {nd : Int} {l : List Ro} {s : S} {r : List Q} {v : List Int}
/-- The first of some orders that ends earliest, or what was had before. -/
def pick (nd : Int) (l : List Ro) (s : S) (r : List Q) : List (List Int) → Option Tr → Option Tr
  | [], b => b
  | o :: os, b => pick nd l s r os (if (run nd l s r o).e = 0 ∧ better b (run nd l s r o).tour.end_ = true then some (run nd l s r o).tour else b)
theorem run_stops {o : List Int} (h : (run nd l s r o).e = 0) : (run nd l s r o).tour.stops = o := by rw [(run_ok h).2.2.2]
theorem pick_law : ∀ (L : List (List Int)) (b : Option Tr), L.Pairwise (fun a b => lexle a b = true) →
    (∀ t, pick nd l s r L b = some t → b = some t ∨ ∃ o ∈ L, (run nd l s r o).e = 0 ∧ t = (run nd l s r o).tour) ∧
    (∀ b0, b = some b0 → ∃ t, pick nd l s r L b = some t ∧ (t = b0 ∨ t.end_ < b0.end_)) ∧
    (∀ o ∈ L, (run nd l s r o).e = 0 → ∃ t, pick nd l s r L b = some t ∧ t.end_ ≤ (run nd l s r o).tour.end_ ∧ (t.end_ = (run nd l s r o).tour.end_ → b = some t ∨ lexle t.stops o = true))
  | [], b, _ => ⟨fun t h => .inl h, fun b0 h => ⟨b0, h, .inl rfl⟩, fun o h => by cases h⟩
  | a :: L, b, hp => by
    have hp1 := (List.pairwise_cons.1 hp).1
    have hp2 := (List.pairwise_cons.1 hp).2
    unfold pick
    by_cases hc : (run nd l s r a).e = 0 ∧ better b (run nd l s r a).tour.end_ = true
    · rw [if_pos hc]
      obtain ⟨i1, i2, i3⟩ := pick_law L (some (run nd l s r a).tour) hp2
      obtain ⟨t0, ht0, hle0⟩ := i2 _ rfl
      refine ⟨fun t h => ?_, fun b0 hb => ?_, fun o ho he => ?_⟩
      · rcases i1 t h with h | ⟨o, ho, h1, h2⟩
        · injection h with h
          exact .inr ⟨a, List.mem_cons_self .., hc.1, h.symm⟩
        · exact .inr ⟨o, List.mem_cons_of_mem _ ho, h1, h2⟩
      · subst hb
        have hlt : (run nd l s r a).tour.end_ < b0.end_ := of_decide_eq_true hc.2
        refine ⟨t0, ht0, .inr ?_⟩
        rcases hle0 with rfl | h
        · exact hlt
        · omega
      · rcases List.mem_cons.1 ho with rfl | ho
        · refine ⟨t0, ht0, ?_, fun heq => .inr ?_⟩
          · rcases hle0 with rfl | h
            · exact Int.le_refl _
            · omega
          · rcases hle0 with rfl | h
            · rw [run_stops hc.1]; exact lexle_refl _
            · omega
        · obtain ⟨t, ht, h1, h2⟩ := i3 o ho he
          refine ⟨t, ht, h1, fun heq => ?_⟩
          rcases h2 heq with h | h
          · injection h with h
            refine .inr ?_
            rw [← h, run_stops hc.1]
            exact hp1 o ho
          · exact .inr h
    · rw [if_neg hc]
      obtain ⟨i1, i2, i3⟩ := pick_law L b hp2
      refine ⟨fun t h => ?_, i2, fun o ho he => ?_⟩
      · rcases i1 t h with h | ⟨o, ho, h1, h2⟩
        · exact .inl h
        · exact .inr ⟨o, List.mem_cons_of_mem _ ho, h1, h2⟩
      · rcases List.mem_cons.1 ho with rfl | ho
        · cases hb : b with
          | none => exact absurd ⟨he, by rw [hb]; rfl⟩ hc
          | some b0 =>
            obtain ⟨t, ht, h1⟩ := i2 b0 hb
            have hge : ¬ (run nd l s r o).tour.end_ < b0.end_ := fun h => hc ⟨he, by rw [hb]; exact decide_eq_true h⟩
            rw [hb] at ht
            refine ⟨t, ht, ?_, fun heq => .inl ?_⟩
            · rcases h1 with rfl | h1 <;> omega
            · rcases h1 with rfl | h1
              · rfl
              · omega
        · exact i3 o ho he
/-- The reference's way finds the best tour. -/
theorem pick_best (hok : ok31 nd l s r v = true) (h4 : v.length ≤ 4) : pick nd l s r (orders 25 v) none = best nd l s r v := by
  have hs := set_sorted hok
  obtain ⟨i1, -, i3⟩ := pick_law (nd := nd) (l := l) (s := s) (r := r) (orders 25 v) none (orders_grow hs h4)
  cases hb : best nd l s r v with
  | none =>
    cases hp : pick nd l s r (orders 25 v) none with
    | none => rfl
    | some t =>
      rcases i1 t hp with h | ⟨o, ho, h1, -⟩
      · cases h
      · obtain ⟨t', ht', -⟩ := best_law hok ((mem_orders hs h4).1 ho) h1
        rw [hb] at ht'; cases ht'
  | some t =>
    obtain ⟨g1, g2, -⟩ := best_tour hok hb
    obtain ⟨t', h1, h2, h3⟩ := i3 t.stops ((mem_orders hs h4).2 g1) (by rw [g2])
    rw [g2] at h2 h3
    rcases i1 t' h1 with h | ⟨o, ho, e1, e2⟩
    · cases h
    · have ho2 := (mem_orders hs h4).1 ho
      obtain ⟨t2, k1, k2, k3⟩ := best_law hok ho2 e1
      rw [hb] at k1
      injection k1 with k1
      subst k1
      rw [← e2] at k2 k3
      have h2 : t'.end_ ≤ t.end_ := h2
      have heq : t'.end_ = t.end_ := by omega
      have hst : t'.stops = o := by rw [e2]; exact run_stops e1
      have l1 : lexle t'.stops t.stops = true := by
        rcases h3 heq with h | h
        · cases h
        · exact h
      have l2 := k3 heq.symm
      have : o = t.stops := lexle_anti (by rw [ho2.length_eq, g1.length_eq]) (by rw [← hst]; exact l1) l2
      rw [h1, e2, this, g2]
end
end K
end Go.Proofs.Ytjcdpfpdjcannaa
namespace Go.Proofs.Ytjcdpfpdjcannaa
open Go.RowKit
namespace K
theorem noted_comm {y1 t1 y2 t2 : Int} (f : Int) (g1 : -1 ≤ y1) (g2 : -1 ≤ t1) (g3 : -1 ≤ y2) (g4 : -1 ≤ t2) : noted y1 (noted y2 f t2) t1 = noted y2 (noted y1 f t1) t2 := by
  unfold noted
  by_cases h1 : y1 = -1 <;> by_cases h2 : y2 = -1 <;> by_cases h3 : t1 = -1 <;> by_cases h4 : t2 = -1 <;> simp only [h1, h2, h3, h4, ne_eq, not_true_eq_false, not_false_eq_true, false_and, true_and, if_false, and_false] <;> (repeat' split) <;> omega
theorem firsts_noted {nd : Int} {l : List Ro} {wt tn y t : Int} (hy : -1 ≤ y) (ht : -1 ≤ t) : ∀ (z : List (Int × Int)) (f : Int), (∀ p ∈ z, -1 ≤ p.2) → firsts nd l wt tn z (noted y f t) = noted y (firsts nd l wt tn z f) t
  | [], _, _ => rfl
  | p :: z, f, hz => by
    have h1 : ∀ f, firsts nd l wt tn (p :: z) f = firsts nd l wt tn z (noted (way nd l p.1 wt tn) f p.2) := fun _ => rfl
    rw [h1, h1, noted_comm f (way_bd _ _ _ _ _).1 (hz p (List.mem_cons_self ..)) hy ht, firsts_noted hy ht z _ fun q hq => hz q (List.mem_cons_of_mem _ hq)]

/-- Whether a service can be at a minute of arrival, in the statement's words. -/
def may (s : S) (r : List Q) (q : Q) (all : List Int) (f : Int) : Bool :=
  (H.fit q.l f q.service).2 && (decide (0 ≤ f) && (decide (f ≤ s.end_) && (decide ((H.fit q.l f q.service).1 + q.service ≤ s.end_) && (T.fits s r all && (decide (q.frm ≤ s.day) && decide (s.day ≤ q.by_))))))
theorem labelOf_may {s : S} {r : List Q} {q : Q} {all : List Int} {f : Int} : labelOf s r q all f = if may s r q all f = true then (H.fit q.l f q.service).1 + q.service else -1 := by
  unfold labelOf
  by_cases h1 : f = -1
  · rw [if_pos h1, if_neg]
    simp only [may, Bool.and_eq_true, decide_eq_true_eq]
    omega
  rw [if_neg h1]
  by_cases h2 : (begins s r q all f).2 = true
  · rw [if_pos h2]
    obtain ⟨a1, a2, a3, a4, a5, a6, a7⟩ := begins_ok h2
    rw [a3] at a6 ⊢
    have a8 : ¬ (s.day < q.frm ∨ q.by_ < s.day ∨ s.end_ < f ∨ T.fits s r all = false) := fun h => (a1 ▸ h : False)
    rw [if_pos]
    simp only [may, Bool.and_eq_true, decide_eq_true_eq]
    have a9 : T.fits s r all = true := by
      cases h : T.fits s r all with
      | true => rfl
      | false => exact absurd (.inr (.inr (.inr h))) a8
    have b1 : ¬ s.day < q.frm := fun h => a8 (.inl h)
    have b2 : ¬ q.by_ < s.day := fun h => a8 (.inr (.inl h))
    have b3 : ¬ s.end_ < f := fun h => a8 (.inr (.inr (.inl h)))
    exact ⟨a2, a4, by omega, a6, a9, by omega, by omega⟩
  · rw [if_neg h2, if_neg]
    intro h
    simp only [may, Bool.and_eq_true, decide_eq_true_eq] at h
    obtain ⟨c1, c2, c3, c4, c5, c6, c7⟩ := h
    apply h2
    unfold begins
    rw [if_neg]
    · simp only [Bool.and_eq_true, decide_eq_true_eq]
      exact ⟨c1, c4⟩
    · rintro (h | h | h | h)
      · omega
      · omega
      · omega
      · rw [c5] at h; cases h

section
variable (nd : Int) (l : List Ro) (s : S) (r : List Q) (v : List Int)
/-- The earliest arrival behind a part, of the first places. -/
def locGo (rest : Nat) (tn : Int) : Nat → Int
  | 0 => -1
  | i + 1 => noted (way nd l (req r ((v[i]?).getD 0)).node (T.weight s r (part v rest)) tn) (locGo rest tn i) (lab nd l s r v rest i)
/-- .. and of the depot. -/
def locF (rest : Nat) (tn : Int) : Int := noted (way nd l s.depot (T.weight s r (part v rest)) tn) (locGo nd l s r v rest tn v.length) (if rest = 0 then s.start else -1)
/-- How many labels there are before those of a part and a place. -/
def nlab (m i : Nat) : Nat := (tabLabs v.length (table nd l s r v (2 ^ v.length)) m).length + (rowLabs m (((table nd l s r v (2 ^ v.length))[m]?).getD []) i).length
end
section
variable {nd : Int} {l : List Ro} {s : S} {r : List Q} {v : List Int}
theorem locGo_bd (hc : Case31 nd l s r v) (rest : Nat) (tn : Int) : ∀ i, -1 ≤ locGo nd l s r v rest tn i ∧ locGo nd l s r v rest tn i ≤ 60001000000
  | 0 => by simp [locGo]
  | i + 1 => by
    have h1 := locGo_bd hc rest tn i
    have h2 := way_bd nd l (req r ((v[i]?).getD 0)).node (T.weight s r (part v rest)) tn
    have h3 := lab_bd hc rest i
    rw [locGo]
    unfold noted
    split <;> omega
theorem locF_bd (hc : Case31 nd l s r v) (hs : s.start ≤ 1000000) (rest : Nat) (tn : Int) : -1 ≤ locF nd l s r v rest tn ∧ locF nd l s r v rest tn ≤ 60001000000 := by
  have h1 := locGo_bd hc rest tn v.length
  have h2 := way_bd nd l s.depot (T.weight s r (part v rest)) tn
  have h3 := hc.start
  unfold locF
  by_cases h : rest = 0
  · rw [if_pos h]
    unfold noted
    split <;> omega
  · rw [if_neg h, noted_no2 rfl]
    exact h1
theorem locGo_firsts (rest : Nat) (tn : Int) : ∀ i, i ≤ v.length → locGo nd l s r v rest tn i = firsts nd l (T.weight s r (part v rest)) tn (((nodes r v).zip (rowOf nd l s r v (table nd l s r v rest) rest)).take i) (-1)
  | 0, _ => rfl
  | i + 1, hi => by
    have hil : i < v.length := hi
    have hz : ((nodes r v).zip (rowOf nd l s r v (table nd l s r v rest) rest))[i]? = some ((req r ((v[i]?).getD 0)).node, lab nd l s r v rest i) := by
      rw [List.getElem?_zip_eq_some]
      refine ⟨by rw [nodes, List.getElem?_map, List.getElem?_eq_getElem hil]; rfl, ?_⟩
      unfold lab
      rw [List.getElem?_eq_getElem (by rw [rowOf_len]; exact hil), Option.getD_some]
    rw [locGo, locGo_firsts rest tn i (by omega), take_snoc hz]
    unfold firsts
    rw [List.foldl_append]
    rfl
theorem locF_arrives (hc : Case31 nd l s r v) (rest : Nat) (q : Q) : locF nd l s r v rest q.node = arrives nd l s r v (rowOf nd l s r v (table nd l s r v rest) rest) rest q := by
  have h1 : first0 nd l s (T.weight s r (part v rest)) q.node rest = noted (way nd l s.depot (T.weight s r (part v rest)) q.node) (-1) (if rest = 0 then s.start else -1) := by
    unfold first0
    by_cases h : rest = 0
    · rw [if_pos h, if_pos h]
    · rw [if_neg h, if_neg h, noted_no2 rfl]
  unfold arrives locF
  have hst := hc.start
  rw [h1, firsts_noted (way_bd _ _ _ _ _).1 (by split <;> omega) _ _ fun p hp => ?_, locGo_firsts rest q.node v.length (Nat.le_refl _), List.take_of_length_le (by rw [List.length_zip, rowOf_len]; omega)]
  obtain ⟨a, b⟩ := p
  exact (rowOf_bd (fun k hk => (hc.ok k hk).1) b (List.of_mem_zip hp).2).1
/-- A label follows from those of the part without its element. -/
theorem lab_local (hc : Case31 nd l s r v) {m i : Nat} {k : Int} (hm : m < 2 ^ v.length) (hk : v[i]? = some k) (hb : m.testBit i = true) :
    lab nd l s r v m i = labelOf s r (req r k) (part v m) (locF nd l s r v (m - 2 ^ i) (req r k).node) := by
  have hil := (List.getElem?_eq_some_iff.1 hk).1
  have hl6 := hc.len
  have hm64 : m < 64 := Nat.lt_of_lt_of_le hm (Nat.pow_le_pow_right (by omega) hl6)
  obtain ⟨hre, hrb⟩ := bit_rest hm64 (by omega) hb
  have hpw := Nat.two_pow_pos i
  unfold lab
  rw [rowOf_at hk, Option.getD_some, if_pos hb, table_at (by omega), Option.getD_some, label, hre, locF_arrives hc]
/-- The earliest arrival so far: of the first j places, then of the depot, too. -/
def locU (nd : Int) (l : List Ro) (s : S) (r : List Q) (v : List Int) (rest : Nat) (tn : Int) (j : Nat) : Int := if j ≤ v.length then locGo nd l s r v rest tn j else locF nd l s r v rest tn
theorem locU_zero (rest : Nat) (tn : Int) : -1 = locU nd l s r v rest tn 0 := by unfold locU; rw [if_pos (Nat.zero_le _)]; rfl
theorem locU_next {rest : Nat} {tn : Int} {j : Nat} {k : Int} (h : v[j]? = some k) : locU nd l s r v rest tn (j + 1) = noted (way nd l (req r k).node (T.weight s r (part v rest)) tn) (locU nd l s r v rest tn j) (lab nd l s r v rest j) := by
  have hj := (List.getElem?_eq_some_iff.1 h).1
  unfold locU
  rw [if_pos (by omega), if_pos (by omega), locGo, h, Option.getD_some]
theorem locU_last {rest : Nat} {tn : Int} {j : Nat} (h : j = v.length) : locU nd l s r v rest tn (j + 1) = noted (way nd l s.depot (T.weight s r (part v rest)) tn) (locU nd l s r v rest tn j) (if rest = 0 then s.start else -1) := by
  unfold locU
  rw [if_neg (by omega), if_pos (by omega), locF, h]
theorem locU_end {rest : Nat} {tn : Int} {j : Nat} (h : v.length < j) : locU nd l s r v rest tn j = locF nd l s r v rest tn := by
  unfold locU
  rw [if_neg (by omega)]
theorem locU_bd (hc : Case31 nd l s r v) (hs : s.start ≤ 1000000) (rest : Nat) (tn : Int) (j : Nat) : -1 ≤ locU nd l s r v rest tn j ∧ locU nd l s r v rest tn j ≤ 60001000000 := by
  unfold locU
  split
  · exact locGo_bd hc rest tn j
  · exact locF_bd hc hs rest tn
theorem lab_no {m i : Nat} (hb : m.testBit i = false) : lab nd l s r v m i = -1 := by
  unfold lab
  cases h : v[i]? with
  | none =>
    have : v.length ≤ i := by simpa using h
    rw [List.getElem?_eq_none (by rw [rowOf_len]; exact this)]
    rfl
  | some k => rw [rowOf_at h, hb]; rfl
theorem atLab_none {bits last : Int} : ∀ (l : List Lb), (∀ x ∈ l, ¬ (x.set = bits ∧ x.last = last)) → atLab bits last l = -1
  | [], _ => rfl
  | y :: l, h => by
    rw [atLab, if_neg (h y (List.mem_cons_self ..))]
    exact atLab_none l fun x hx => h x (List.mem_cons_of_mem _ hx)
theorem atLab_all (h : ok31 nd l s r v = true) {m i : Nat} (hm : m < 2 ^ v.length) (hi : i < v.length) : atLab (m : Int) (i : Int) (labs nd l s r v) = lab nd l s r v m i := by
  cases hb : m.testBit i with
  | true => exact atLab_labs h hm hi hb
  | false =>
    rw [lab_no hb]
    refine atLab_none _ fun x hx => ?_
    rintro ⟨e1, e2⟩
    obtain ⟨m', i', -, -, hb', rfl⟩ := mem_labs h hx
    have e1 : (m' : Int) = (m : Int) := e1
    have e2 : (i' : Int) = (i : Int) := e2
    rw [show m' = m by omega, show i' = i by omega, hb] at hb'
    cases hb'

theorem rowLabs_zero (row : List Int) : ∀ i, rowLabs 0 row i = []
  | 0 => rfl
  | i + 1 => by rw [rowLabs, rowLabs_zero row i, Nat.zero_testBit]; rfl
theorem nlab_zero : nlab nd l s r v 1 0 = 0 := by
  unfold nlab
  rw [tabLabs, rowLabs_zero]
  rfl
theorem nlab_skip {m i : Nat} (h : m.testBit i = false) : nlab nd l s r v m (i + 1) = nlab nd l s r v m i := by
  unfold nlab
  rw [rowLabs, h]
  simp
theorem nlab_next {m i : Nat} (h : m.testBit i = true) : nlab nd l s r v m (i + 1) = nlab nd l s r v m i + 1 := by
  unfold nlab
  rw [rowLabs, h]
  simp
  omega
theorem nlab_row (m : Nat) : nlab nd l s r v m v.length = nlab nd l s r v (m + 1) 0 := by
  unfold nlab
  rw [tabLabs, List.length_append]
  rfl
theorem nlab_end (h : ok31 nd l s r v = true) : nlab nd l s r v (2 ^ v.length) 0 = (labs nd l s r v).length := by
  unfold nlab labs
  rw [if_pos h]
  rfl
theorem rowLabs_pre {m : Nat} {row : List Int} {i : Nat} : ∀ {j : Nat}, i ≤ j → ∃ x, rowLabs m row j = rowLabs m row i ++ x
  | 0, h => ⟨[], by rw [show i = 0 by omega]; simp⟩
  | j + 1, h => by
    by_cases e : i = j + 1
    · exact ⟨[], by rw [e]; simp⟩
    · obtain ⟨x, hx⟩ := rowLabs_pre (m := m) (row := row) (i := i) (j := j) (by omega)
      exact ⟨_, by rw [rowLabs, hx, List.append_assoc]⟩
theorem tabLabs_pre {n : Nat} {t : List (List Int)} {i : Nat} : ∀ {j : Nat}, i ≤ j → ∃ x, tabLabs n t j = tabLabs n t i ++ x
  | 0, h => ⟨[], by rw [show i = 0 by omega]; simp⟩
  | j + 1, h => by
    by_cases e : i = j + 1
    · exact ⟨[], by rw [e]; simp⟩
    · obtain ⟨x, hx⟩ := tabLabs_pre (n := n) (t := t) (i := i) (j := j) (by omega)
      exact ⟨_, by rw [tabLabs, hx, List.append_assoc]⟩
theorem labs_nth (h : ok31 nd l s r v = true) {m i : Nat} (hm : m < 2 ^ v.length) (hi : i < v.length) (hb : m.testBit i = true) : (labs nd l s r v)[nlab nd l s r v m i]? = some ⟨m, i, lab nd l s r v m i⟩ := by
  obtain ⟨x, hx⟩ := tabLabs_pre (n := v.length) (t := table nd l s r v (2 ^ v.length)) (i := m + 1) (j := 2 ^ v.length) hm
  obtain ⟨y, hy⟩ := rowLabs_pre (m := m) (row := ((table nd l s r v (2 ^ v.length))[m]?).getD []) (i := i + 1) (j := v.length) hi
  unfold labs
  rw [if_pos h, hx, tabLabs, hy]
  unfold nlab
  rw [rowLabs, hb, if_pos rfl, List.append_assoc, List.getElem?_append_right (by omega), Nat.add_sub_cancel_left, List.append_assoc, List.append_assoc, List.getElem?_append_right (Nat.le_refl _), Nat.sub_self, table_at hm]
  rfl
end
end K
end Go.Proofs.Ytjcdpfpdjcannaa
namespace Go.Proofs.Ytjcdpfpdjcannaa
open Go.RowKit
namespace K
/-- The smaller one of two minutes. -/
def lessV (a b : Int) : Int := if a < 0 ∨ (0 ≤ b ∧ b < a) then b else a
/-- A label, as the reference reckons it. -/
def refLabel (s : S) (r : List Q) (q : Q) (all : List Int) (f : Int) : Int :=
  if s.day < q.frm ∨ q.by_ < s.day ∨ T.fits s r all = false then -1
  else if f < 0 ∨ s.end_ < f then -1
  else if (H.fit q.l f q.service).2 = false ∨ s.end_ < (H.fit q.l f q.service).1 + q.service then -1
  else (H.fit q.l f q.service).1 + q.service
theorem refLabel_eq (s : S) (r : List Q) (q : Q) (all : List Int) (f : Int) : refLabel s r q all f = labelOf s r q all f := by
  rw [labelOf_may]
  unfold refLabel may
  cases h1 : T.fits s r all <;> cases h2 : (H.fit q.l f q.service).2 <;> simp <;> (repeat' split) <;> first | rfl | omega
section
variable {nd : Int} {l : List Ro} {s : S} {r : List Q} {v : List Int}
theorem lab_zero (i : Nat) : lab nd l s r v 0 i = -1 := lab_no (Nat.zero_testBit i)
theorem locGo_zero (tn : Int) : ∀ i, locGo nd l s r v 0 tn i = -1
  | 0 => rfl
  | i + 1 => by rw [locGo, locGo_zero tn i, lab_zero, noted_no2 rfl]
theorem locF_zero (tn : Int) : locF nd l s r v 0 tn = if way nd l s.depot (T.weight s r (part v 0)) tn < 0 then -1 else if s.start = -1 then -1 else s.start + way nd l s.depot (T.weight s r (part v 0)) tn := by
  have hw := way_bd nd l s.depot (T.weight s r (part v 0)) tn
  unfold locF
  rw [locGo_zero, if_pos rfl]
  unfold noted
  by_cases h1 : way nd l s.depot (T.weight s r (part v 0)) tn < 0
  · rw [if_pos h1, if_neg (by omega)]
  · rw [if_neg h1]
    by_cases h2 : s.start = -1
    · rw [if_pos h2, if_neg (by omega)]
    · rw [if_neg h2, if_pos ⟨by omega, h2, .inl rfl⟩]
theorem locF_pos {rest : Nat} (h : rest ≠ 0) (tn : Int) : locF nd l s r v rest tn = locGo nd l s r v rest tn v.length := by
  unfold locF
  rw [if_neg h, noted_no2 rfl]
theorem locGo_skip {rest i : Nat} {tn : Int} (h : lab nd l s r v rest i = -1) : locGo nd l s r v rest tn (i + 1) = locGo nd l s r v rest tn i := by rw [locGo, noted_no2 h]
theorem locGo_none {rest i : Nat} {tn k : Int} (hk : v[i]? = some k) (h : way nd l (req r k).node (T.weight s r (part v rest)) tn < 0) : locGo nd l s r v rest tn (i + 1) = locGo nd l s r v rest tn i := by
  have hw := way_bd nd l (req r k).node (T.weight s r (part v rest)) tn
  rw [locGo, hk, Option.getD_some, noted_no1 (by omega)]
theorem locGo_less (hc : Case31 nd l s r v) {rest i : Nat} {tn k : Int} (hk : v[i]? = some k) (h1 : 0 ≤ lab nd l s r v rest i) (h2 : 0 ≤ way nd l (req r k).node (T.weight s r (part v rest)) tn) :
    locGo nd l s r v rest tn (i + 1) = lessV (locGo nd l s r v rest tn i) (lab nd l s r v rest i + way nd l (req r k).node (T.weight s r (part v rest)) tn) := by
  have hb := locGo_bd hc rest tn i
  rw [locGo, hk, Option.getD_some]
  unfold noted lessV
  by_cases h : locGo nd l s r v rest tn i = -1 ∨ lab nd l s r v rest i + way nd l (req r k).node (T.weight s r (part v rest)) tn < locGo nd l s r v rest tn i
  · rw [if_pos ⟨by omega, by omega, h⟩, if_pos (by omega)]
  · rw [if_neg (fun h9 => h h9.2.2), if_neg (by omega)]
end
end K

set_option maxHeartbeats 4000000 in
theorem less106_any (a b : Int) (w : World) : Calls Try.prog 106 #[.int .i64 a, .int .i64 b] w fun e w' => e = .returned (.int .i64 (K.lessV a b)) ∧ w = w' := by
  by_cases h1 : a < 0
  · have c1 : decide (a < 0) = true := decide_eq_true h1
    have HX := Lib.hid (show K.lessV a b = b by unfold K.lessV; rw [if_pos (.inl h1)])
    go_enter Try.func106, Try.ntmps106
    go_wp2_with fail
    go_ret
    exact ⟨by rw [HX.out]; rfl, rfl⟩
  have c1 : decide (a < 0) = false := decide_eq_false h1
  by_cases h2 : 0 ≤ b
  · have c2 : decide (0 ≤ b) = true := decide_eq_true h2
    by_cases h3 : b < a
    · have c3 : decide (b < a) = true := decide_eq_true h3
      have HX := Lib.hid (show K.lessV a b = b by unfold K.lessV; rw [if_pos (.inr ⟨h2, h3⟩)])
      go_enter Try.func106, Try.ntmps106
      go_wp2_with fail
      go_ret
      exact ⟨by rw [HX.out]; rfl, rfl⟩
    · have c3 : decide (b < a) = false := decide_eq_false h3
      have HX := Lib.hid (show K.lessV a b = a by unfold K.lessV; rw [if_neg (by omega)])
      go_enter Try.func106, Try.ntmps106
      go_wp2_with fail
      go_ret
      exact ⟨by rw [HX.out]; rfl, rfl⟩
  · have c2 : decide (0 ≤ b) = false := decide_eq_false h2
    have HX := Lib.hid (show K.lessV a b = a by unfold K.lessV; rw [if_neg (by omega)])
    go_enter Try.func106, Try.ntmps106
    go_wp2_with fail
    go_ret
    exact ⟨by rw [HX.out]; rfl, rfl⟩
end Go.Proofs.Ytjcdpfpdjcannaa
namespace Go.Proofs.Ytjcdpfpdjcannaa
open Go.RowKit
namespace K
theorem orders_stop : ∀ (f : Nat) (l : List Int), (orders f l).length < f → orders (f + 1) l = orders f l
  | 0, _, h => absurd h (by omega)
  | f + 1, l, h => by
    rw [orders] at h
    rw [orders, orders]
    cases hn : next l with
    | none => rfl
    | some l' =>
      rw [hn] at h
      dsimp only at h ⊢
      rw [List.length_cons] at h
      rw [orders_stop f l' (by omega)]
theorem orders_next {l l' : List Int} (h : next l = some l') (hl : (orders 25 l).length ≤ 24) : orders 25 l = l :: orders 25 l' ∧ (orders 25 l').length < (orders 25 l).length := by
  have h1 : orders 25 l = l :: orders 24 l' := by
    show orders (24 + 1) l = _
    rw [orders, h]
  have h2 : orders 25 l' = orders 24 l' := by
    refine orders_stop 24 l' ?_
    rw [h1, List.length_cons] at hl
    omega
  rw [h2, h1]
  exact ⟨rfl, by rw [List.length_cons]; omega⟩
theorem orders_last {l : List Int} (h : next l = none) : orders 25 l = [l] := by
  show orders (24 + 1) l = _
  rw [orders, h]
theorem next_len {l l' : List Int} (h : next l = some l') : l'.length = l.length := by
  unfold next at h
  cases hi : nextI l (l.length - 1) with
  | none => rw [hi] at h; cases h
  | some i =>
    rw [hi] at h
    injection h with h
    rw [← h]
    unfold turned
    rw [List.length_append, List.length_reverse, ← List.length_append, List.take_append_drop, List.length_set, List.length_set]
theorem orders_few {nd : Int} {l : List Ro} {s : S} {r : List Q} {v : List Int} (hok : ok31 nd l s r v = true) (h4 : v.length ≤ 4) : (orders 25 v).length ≤ 24 := by
  rw [orders_v (set_sorted hok), List.length_map]
  exact orders_len_all ⟨v.length, by omega⟩
section
variable {nd : Int} {l : List Ro} {s : S} {r : List Q}
theorem pick_yes {o : List Int} {os : List (List Int)} {b : Option Tr} (h : (run nd l s r o).e = 0) (h2 : better b (run nd l s r o).tour.end_ = true) : pick nd l s r (o :: os) b = pick nd l s r os (some (run nd l s r o).tour) := by
  rw [pick, if_pos ⟨h, h2⟩]
theorem pick_no {o : List Int} {os : List (List Int)} {b : Option Tr} (h : ¬ ((run nd l s r o).e = 0 ∧ better b (run nd l s r o).tour.end_ = true)) : pick nd l s r (o :: os) b = pick nd l s r os b := by
  rw [pick, if_neg h]
end
end K

/-- The numbers of a slice. -/
def readInts (w : World) : Value → List Int
  | .slice (some ad) n _ => (List.range n).map fun j => match w.cell? (ad.add j) with | some (.int _ x) => x | _ => 0
  | _ => []
theorem readInts_ints {w : World} {A : Option Addr} {n c : Nat} {l : List Int} (h : Ints w A n l) : readInts w (.slice A n c) = l := by
  cases A with
  | none =>
    have h0 : n = 0 := by
      cases n with
      | zero => rfl
      | succ n => obtain ⟨ad, e, _⟩ := h.2.2 (by omega); cases e
    have := h.1
    rw [h0] at this
    rw [List.length_eq_zero_iff.1 this.symm]
    rfl
  | some ad =>
    apply List.ext_getElem?
    intro k
    unfold readInts
    rw [List.getElem?_map]
    by_cases hk : k < n
    · obtain ⟨ad', x, e, hx, hc⟩ := h.at_ hk
      injection e with e
      subst e
      rw [List.getElem?_range hk, hx, Option.map_some, hc]
    · rw [List.getElem?_eq_none (by simpa using hk), List.getElem?_eq_none (by rw [← h.1]; omega)]
      rfl
/-- How many rounds the reference has before it. -/
def leftOf (w : World) (v m : Value) : Nat := match m with
  | .bool true => (K.orders 25 (readInts w v)).length + 1
  | _ => 0
theorem leftOf_no (w : World) (v : Value) : leftOf w v (.bool false) = 0 := rfl
theorem leftOf_yes {w : World} {A : Option Addr} {n c : Nat} {l : List Int} (h : Ints w A n l) : leftOf w (.slice A n c) (.bool true) = (K.orders 25 l).length + 1 := by
  unfold leftOf
  rw [readInts_ints h]
end Go.Proofs.Ytjcdpfpdjcannaa
