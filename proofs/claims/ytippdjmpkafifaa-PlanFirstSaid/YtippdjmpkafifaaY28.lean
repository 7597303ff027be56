/-
Plans: the walk of Next (reference).
-/
import Derived.Test.YtippdjmpkafifaaY27
namespace Go.Proofs.Ytippdjmpkafifaa
open Go.RowKit
/-- The block g begins with these numbers. -/
def Row3 (w : World) (g : Nat) (l : List Int) : Prop := ∃ cur : Array Value, w.heap[g]? = some (.cells cur 3 (0, 0)) ∧ ∀ (i : Nat) (x : Int), l[i]? = some x → cur[i]? = some (.int .i64 x)
theorem Row3.cell {w : World} {g : Nat} {l : List Int} (h : Row3 w g l) {i : Nat} {x : Int} (hx : l[i]? = some x) : w.cell? ⟨g, i, none⟩ = some (.int .i64 x) := by
  obtain ⟨cur, h1, h2⟩ := h
  exact blk_cell h1 i _ (h2 i x hx)
theorem Row3.free {w : World} {g : Nat} {l : List Int} (h : Row3 w g l) (i : Nat) : w.frozen? ⟨g, i, none⟩ = false := by
  obtain ⟨cur, h1, -⟩ := h
  exact blk_free h1 i
theorem Row3.set {w : World} {g : Nat} {l : List Int} (h : Row3 w g l) {k : Nat} (hk : k < l.length) (x : Int) : Row3 (w.setCell ⟨g, k, none⟩ (.int .i64 x)) g (l.set k x) := by
  obtain ⟨cur, h1, h2⟩ := h
  refine ⟨_, blk_set h1 k _, fun i y hy => ?_⟩
  have hkc : k < cur.size := (Array.getElem?_eq_some_iff.1 (h2 k _ (List.getElem?_eq_getElem hk))).1
  rw [List.getElem?_set] at hy
  rw [Array.getElem?_setIfInBounds]
  by_cases e : k = i
  · subst e
    rw [if_pos rfl, if_pos hk] at hy
    injection hy with hy
    rw [if_pos rfl, if_pos hkc, hy]
  · rw [if_neg e] at hy
    rw [if_neg e]
    exact h2 i y hy
theorem Row3.ints {w : World} {g : Nat} {l : List Int} (h : Row3 w g l) : Ints w (some ⟨g, 0, none⟩) l.length l := by
  obtain ⟨cur, h1, h2⟩ := h
  refine ⟨rfl, by simp [intCells], fun _ => ⟨_, rfl, fun j u hu => ?_⟩⟩
  rw [intCells, List.getElem?_map] at hu
  obtain ⟨y, hy, rfl⟩ := Option.map_eq_some_iff.1 hu
  rw [add_zero_block]
  exact blk_cell h1 j _ (h2 j y hy)
theorem row3_of {w : World} {base n c : Nat} {A2 : Option Addr} {l : List Int} (h : w.ownsRow base 3 1 (.slice A2 n c) n (intCells l)) (h0 : 0 < n) : ∃ g, A2 = some ⟨g, 0, none⟩ ∧ base ≤ g ∧ Row3 w g l := by
  obtain ⟨hl, ⟨e, e2⟩ | ⟨g, cap, cur, e, hb, hh, hnc, -, hsz, ht⟩⟩ := h
  · omega
  · injection e with e1 e2 e3
    refine ⟨g, e1, hb, cur, hh, fun i x hx => ?_⟩
    have hu : (intCells l)[i]? = some (.int .i64 x) := by rw [intCells, List.getElem?_map, hx]; rfl
    rw [← ht, List.getElem?_take] at hu
    split at hu
    · simpa using hu
    · cases hu
theorem set_mid (a z : List Int) (x y : Int) : ((a ++ [x]) ++ z).set a.length y = a ++ y :: z := by
  rw [List.append_assoc, List.set_append_right _ _ (Nat.le_refl _), Nat.sub_self]
  rfl
/-- What Next hands back. -/
def RetNext (w w' : World) (p : Option (List Nat)) (e : Ending) : Prop :=
  ((p = none ∧ e = .returned (.tuple #[.slice none 0 0, .bool false])) ∨ ∃ d A n c, p = some d ∧ e = .returned (.tuple #[.slice A n c, .bool true]) ∧ Ints w' A n (K.nat d) ∧ n ≤ c) ∧ Below w.heap.size w w'
/-- The digits up to j, then zeros. -/
def K.low (d : List Nat) (n j : Nat) : List Int := K.nat (d.take j) ++ List.replicate (n - j) 0
theorem K.low_get {d : List Nat} {n i x : Nat} (h : d[i]? = some x) : (K.low d n (i + 1))[i]? = some (x : Int) := by
  have hk := (List.getElem?_eq_some_iff.1 h).1
  unfold K.low K.nat
  rw [List.getElem?_append_left (by rw [List.length_map, List.length_take]; omega), List.getElem?_map, List.getElem?_take, if_pos (by omega), h]
  rfl
theorem K.low_len {d : List Nat} {n j : Nat} (hn : n = d.length) (hj : j ≤ n) : (K.low d n j).length = n := by
  unfold K.low K.nat
  rw [List.length_append, List.length_map, List.length_take, List.length_replicate]
  omega
theorem K.low_set {d : List Nat} {n i x : Nat} (h : d[i]? = some x) (y : Int) : (K.low d n (i + 1)).set i y = K.nat (d.take i) ++ y :: List.replicate (n - (i + 1)) 0 := by
  have hk := (List.getElem?_eq_some_iff.1 h).1
  have hl : (K.nat (d.take i)).length = i := by unfold K.nat; rw [List.length_map, List.length_take]; omega
  have := set_mid (K.nat (d.take i)) (List.replicate (n - (i + 1)) 0) (x : Int) y
  rw [hl] at this
  rw [← this]
  unfold K.low
  rw [take_snoc h]
  unfold K.nat
  rw [List.map_append]
  rfl
theorem K.low_zero {d : List Nat} {n i x : Nat} (h : d[i]? = some x) (hn : n = d.length) : (K.low d n (i + 1)).set i 0 = K.low d n i := by
  have hk := (List.getElem?_eq_some_iff.1 h).1
  rw [K.low_set h, K.low]
  congr 1
  rw [show n - i = (n - (i + 1)) + 1 by omega]
  rfl

set_option maxRecDepth 100000 in
set_option maxHeartbeats 8000000 in
theorem next20_any (A0 : Option Addr) (n c : Nat) (d : List Nat) (m : Nat) (w : World) (hl : Ints w A0 n (K.nat d)) (hn : n ≤ 1000) (hd : ∀ s ∈ d, s < m) (hm : m ≤ 1000) :
    Calls Try.prog 20 #[.slice A0 n c, .int .i64 (m : Int)] w fun e w' => RetNext w w' (A.next m d) e := by
  have HLN := Lib.hid (show n = d.length by have := hl.1; rw [this]; exact List.length_map _)
  obtain ⟨i0, hi, hz0, hz1, hz2⟩ := info_parts Try.info3
  obtain ⟨w1, hw1⟩ : ∃ w1 : World, w1 = w.alloc (.cells #[] 3) := ⟨_, rfl⟩
  have b1 : Below w.heap.size w w1 := by rw [hw1]; exact (Below.refl _ _).alloc (Nat.le_refl _) _
  have hlit : w1.ownsRow w.heap.size 3 1 (.slice (some ⟨w.heap.size, 0, none⟩) 0 0) 0 [] := by rw [hw1]; exact own_lit (heap_alloc_new w (.cells #[] 3)) (Nat.le_refl _)
  have hrd := (hl.below b1).2
  have hsz := b1.size
  have hwr : IntKind.i64.wrap ((n : Int) - 1) = (n : Int) - 1 := IntWalk.i64_in _ (by omega)
  go_enter Try.func20, Try.ntmps20
  go_wp2_with (first
    | (at_builtin; rw [← hw1]; refine wp_append_rd rfl (.tmp 8) (.tmp 9) 41 rfl w.heap.size 3 i0 (.int .i64 0) 1 8 Try.underlying41 hi hz0 hz1 hz2 rfl (by decide) (.slice (some ⟨w.heap.size, 0, none⟩) 0 0) 0 [] rfl hlit A0 n c (intCells (K.nat d)) rfl hrd (intCells_one _) (by simp only [maxLen]; omega) (by omega) hsz ?_; intro v1 w2 hown2 hgrow2 _; rw [Nat.zero_add, List.nil_append] at hown2; obtain ⟨A2, c2, rfl, -, -⟩ := own_form hown2; have hb2 := below_own2 b1 hgrow2 (lit_block (Nat.le_refl _)))
    | fail)
  have hc2 := own_cap hown2
  clear hlit hrd hsz hw1 b1 hgrow2 hi hz0 hz1 hz2
  go_loopw [7] (fun v7 wr => ∃ (j : Nat) (z : Int), v7 = .int .i64 z ∧ z = (j : Int) - 1 ∧ j ≤ n ∧ (0 < n → ∃ g, A2 = some ⟨g, 0, none⟩ ∧ w.heap.size ≤ g ∧ Row3 wr g (K.low d n j)) ∧ Hid (A.next m (d.drop j) = none) ∧ Below w.heap.size w wr) (fun v7 _ => (intOf v7 + 1).toNat)
  case atStart =>
    refine ⟨n, _, rfl, (by simp), Nat.le_refl _, fun h0 => ?_, (by show _ = _; rw [List.drop_eq_nil_of_le (by rw [← HLN.out]; exact Nat.le_refl _)]; rfl), hb2⟩
    obtain ⟨g, e1, e2, e3⟩ := row3_of hown2 h0
    refine ⟨g, e1, e2, ?_⟩
    unfold K.low
    rw [List.take_of_length_le (by rw [← HLN.out]; exact Nat.le_refl _), Nat.sub_self, List.replicate_zero, List.append_nil]
    exact e3
  case round =>
    clear hown2 hb2
    obtain ⟨j, z, rfl, hz, hj, hrow, hnx, hbr⟩ := hrel
    cases j with
    | zero =>
      have hzz : z = -1 := by omega
      subst hzz
      have HX := Lib.hid (show A.next m d = none by have := hnx.out; rwa [List.drop_zero] at this)
      clear hz hrow
      go_wp2_with fail
      go_ret2
      exact ⟨.inl ⟨HX.out, rfl⟩, hbr⟩
    | succ i =>
      have hzz : z = (i : Int) := by omega
      subst hzz
      obtain ⟨g, rfl, hg, hR⟩ := hrow (by omega)
      have hid : i < d.length := by rw [← HLN.out]; omega
      have hx : d[i]? = some d[i] := List.getElem?_eq_getElem hid
      obtain ⟨x, hxe⟩ : ∃ x, x = d[i] := ⟨_, rfl⟩
      rw [← hxe] at hx
      have hxm : x < m := hd x (List.mem_of_getElem? hx)
      have hcell := hR.cell (K.low_get (n := n) hx)
      have hfree := hR.free i
      have hlow := K.low_len HLN.out hj
      have i0 : (0 : Int) ≤ (i : Int) := by omega
      have i1 : (i : Int) < (n : Int) := by omega
      have hw1 : IntKind.i64.wrap ((x : Int) + 1) = (x : Int) + 1 := IntWalk.i64_in _ (by omega)
      have hw2 : IntKind.i64.wrap ((i : Int) - 1) = (i : Int) - 1 := IntWalk.i64_in _ (by omega)
      have hge : decide (0 ≤ (i : Int)) = true := by simp
      have HNX := Lib.hid (A.next_at d i hnx.out x hx)
      have HX := Lib.hid hx
      have HD := Lib.hid (show d = d.take i ++ d.drop i from (List.take_append_drop i d).symm)
      have hB1 : ∀ u : Int, Below w.heap.size w (wr.setCell ⟨g, i, none⟩ (.int .i64 u)) := fun u => hbr.setCell (p := ⟨g, i, none⟩) hg _
      have hRs : ∀ u : Int, Row3 (wr.setCell ⟨g, i, none⟩ (.int .i64 u)) g ((K.low d n (i + 1)).set i u) := fun u => hR.set (by rw [hlow]; omega) u
      clear hz hx hxe hid hR hlow
      by_cases hlt : x + 1 < m
      · have hd1 : decide ((x : Int) + 1 < (m : Int)) = true := by simp; omega
        have HN := Lib.hid (show A.next m d = some (d.take i ++ (x + 1) :: List.replicate (n - (i + 1)) 0) by
          have h9 := HNX.out
          rw [if_pos hlt, ← HLN.out] at h9
          rw [HD.out, A.next_pre _ _ _ h9, ← HD.out])
        have hI := (hRs ((x : Int) + 1)).ints
        rw [K.low_set HX.out] at hI
        have hln : (K.nat (d.take i) ++ ((x : Int) + 1) :: List.replicate (n - (i + 1)) 0).length = n := by
          have h8 := HLN.out
          unfold K.nat
          rw [List.length_append, List.length_map, List.length_take, List.length_cons, List.length_replicate]
          omega
        rw [hln] at hI
        have hI2 : Ints (wr.setCell ⟨g, i, none⟩ (.int .i64 ((x : Int) + 1))) (some ⟨g, 0, none⟩) n (K.nat (d.take i ++ (x + 1) :: List.replicate (n - (i + 1)) 0)) := by
          have e9 : K.nat (d.take i ++ (x + 1) :: List.replicate (n - (i + 1)) 0) = K.nat (d.take i) ++ ((x : Int) + 1) :: List.replicate (n - (i + 1)) 0 := by
            unfold K.nat
            rw [List.map_append, List.map_cons, List.map_replicate]
            rfl
          rw [e9]
          exact hI
        have hbX := hB1 ((x : Int) + 1)
        clear hI hln hlt hRs hB1 HNX
        go_wp2_with fail
        go_ret2
        exact ⟨.inr ⟨_, _, _, _, HN.out, rfl, hI2, hc2⟩, hbX⟩
      · have hd1 : decide ((x : Int) + 1 < (m : Int)) = false := by simp; omega
        have HN := Lib.hid (show A.next m (d.drop i) = none by rw [HNX.out, if_neg hlt])
        have hR0 := hRs 0
        rw [K.low_zero HX.out HLN.out] at hR0
        have hbX := hB1 0
        clear hlt hRs hB1 HNX
        go_wp2_with fail
        go_roundw
        case rel => (go_light; exact ⟨i, _, rfl, (by simp), by omega, fun _ => ⟨g, rfl, hg, hR0⟩, HN.out, hbX⟩)
        case measure => (go_light; simp [intOf])
end Go.Proofs.Ytippdjmpkafifaa
