/-
Plans: the walk of Share (reference).
-/
import Derived.Test.YtippdjmpkafifaaYD
import Derived.Test.YtippdjmpkafifaaX9
namespace Go.Proofs.Ytippdjmpkafifaa
open Go.RowKit
/-- Numbers as the program holds them. -/
def K.nat (d : List Nat) : List Int := d.map fun (x : Nat) => (x : Int)
/-- A new slice of numbers is handed back. -/
def RetOwn (w w' : World) (l : List Int) (e : Ending) : Prop := (∃ A n c, e = .returned (.slice A n c) ∧ Ints w' A n l ∧ n ≤ c) ∧ Below w.heap.size w w'
theorem own_cap {w : World} {base : Nat} {e : TypeId} {size n n' c : Nat} {A : Option Addr} {xs : List Value} (h : w.ownsRow base e size (.slice A n' c) n xs) : n' ≤ c := by
  obtain ⟨hl, ⟨h1, h2⟩ | ⟨g, cap, cur, h1, h2, h3, h4, h5⟩⟩ := h
  · injection h1 with e1 e2 e3
    omega
  · injection h1 with e1 e2 e3
    omega
theorem K.nat_get {d : List Nat} {k : Nat} {i : Int} (h : (K.nat d)[k]? = some i) : ∃ x : Nat, d[k]? = some x ∧ i = (x : Int) := by
  unfold K.nat at h
  rw [List.getElem?_map] at h
  cases hd : d[k]? with
  | none => rw [hd] at h; cases h
  | some x =>
    rw [hd] at h
    injection h with h
    exact ⟨x, rfl, h.symm⟩
theorem A.share_take {d : List Nat} {k x : Nat} (s : Nat) (h : d[k]? = some x) : A.share (d.take (k + 1)) s 0 = A.share (d.take k) s 0 ++ (if x = s then [(k : Int)] else []) := by
  obtain ⟨hk, e⟩ := List.getElem?_eq_some_iff.1 h
  rw [List.take_succ_eq_append_getElem hk, e, A.share_app]
  have hl : (d.take k).length = k := by rw [List.length_take]; omega
  rw [hl, A.share, A.share, Int.zero_add]
theorem A.share_len (s : Nat) : ∀ (d : List Nat) (i : Int), (A.share d s i).length ≤ d.length
  | [], _ => Nat.le_refl _
  | x :: d, i => by
    rw [A.share, List.length_cons]
    have := A.share_len s d (i + 1)
    split
    · rw [List.length_cons]; omega
    · omega

set_option maxRecDepth 100000 in
set_option maxHeartbeats 8000000 in
theorem share22_any (A0 : Option Addr) (n c : Nat) (d : List Nat) (s : Nat) (w : World) (hl : Ints w A0 n (K.nat d)) (hn : n ≤ 1000) :
    Calls Try.prog 22 #[.slice A0 n c, .int .i64 (s : Int)] w fun e w' => RetOwn w w' (A.share d s 0) e := by
  have HLN := Lib.hid (show n = d.length by have := hl.1; rw [this]; exact List.length_map _)
  go_enter Try.func22, Try.ntmps22
  go_wp2_with fail
  go_loopw [5, 6] (fun v5 v6 wr => ∃ (k : Nat), v6 = .int .i64 k ∧ k ≤ n ∧ wr.ownsRow w.heap.size 3 1 v5 (A.share (d.take k) s 0).length (intCells (A.share (d.take k) s 0)) ∧ Below w.heap.size w wr) (fun _ v6 _ => n - (intOf v6).toNat)
  case atStart => exact ⟨0, rfl, by omega, World.ownsRow_nil _ _ _ _, Below.refl _ _⟩
  case round =>
    obtain ⟨k, rfl, hk, hown, hbr⟩ := hrel
    by_cases hlt : k < n
    · obtain ⟨adv, i, rfl, hi, ci⟩ := (hl.below hbr).at_ hlt
      obtain ⟨x, hx, rfl⟩ := K.nat_get hi
      have k0 : (0 : Int) ≤ (k : Int) := by omega
      have k1 : (k : Int) < (n : Int) := by omega
      have HT := Lib.hid (A.share_take s hx)
      have hpl : (A.share (d.take k) s 0).length ≤ 1000 := by
        have := A.share_len s (d.take k) 0
        rw [List.length_take] at this
        omega
      clear hi hx
      by_cases hxs : x = s
      rotate_left
      · have hb1 : ((x : Int) == (s : Int)) = false := by simp; omega
        have hb2 : decide ((x : Int) = (s : Int)) = false := by simp; omega
        have hb3 : (x == s) = false := by simp; omega
        have hb4 : decide (x = s) = false := by simp; omega
        have HN := Lib.hid (show A.share (d.take (k + 1)) s 0 = A.share (d.take k) s 0 by rw [HT.out, if_neg hxs, List.append_nil])
        clear hxs
        go_wp2_with fail
        go_roundw
        case rel => exact ⟨k + 1, by go_num, by omega, by rw [HN.out]; exact hown, hbr⟩
        case measure => simp [intOf]; omega
      · have HN := Lib.hid (show A.share (d.take (k + 1)) s 0 = A.share (d.take k) s 0 ++ [(k : Int)] by rw [HT.out, if_pos hxs])
        subst hxs
        have ha : Below wr.heap.size wr (wr.alloc (.cells #[.int .i64 k] 3)) := (Below.refl _ _).alloc (Nat.le_refl _) _
        have hown2 := own_below hown ha
        have hs2 : w.heap.size ≤ (wr.alloc (.cells #[.int .i64 k] 3)).heap.size := Nat.le_trans hbr.size ha.size
        go_wp2_with (at_builtin; refine app_int rfl (.tmp 19) (.tmp 21) rfl w.heap.size u5 (A.share (d.take k) x 0).length (A.share (d.take k) x 0) rfl hown2 wr.heap.size (k : Int) rfl (heap_alloc_at _ _ _ rfl) (by omega) hs2 ?_; intro tv' w6 hown6 hgrow6 hat6)
        have b6 := below_own2 (bel hbr ha) hgrow6 (fun g e => (hown.lt g e).1)
        have HS := Lib.hid (show (A.share (d.take k) x 0).length + 1 = (A.share (d.take (k + 1)) x 0).length by rw [HN.out, List.length_append]; rfl)
        rw [← HN.out, HS.out] at hown6
        clear hgrow6 hat6 hown2 hown
        go_roundw
        case rel => exact ⟨k + 1, by go_num, by omega, hown6, b6⟩
        case measure => simp [intOf]; omega
    · have HN := Lib.hid (show d.take k = d from List.take_of_length_le (by rw [← HLN.out]; omega))
      rw [HN.out] at hown
      have hd : decide ((k : Int) < (n : Int)) = false := by simp; omega
      have hd2 : decide (k < n) = false := by simp; omega
      have hown' := hown
      obtain ⟨A9, c9, rfl, hI⟩ := own_ints hown rfl
      have hc9 := own_cap hown'
      clear hlt
      go_wp2_with fail
      go_ret
      exact ⟨⟨_, _, _, rfl, hI, hc9⟩, hbr⟩
end Go.Proofs.Ytippdjmpkafifaa
