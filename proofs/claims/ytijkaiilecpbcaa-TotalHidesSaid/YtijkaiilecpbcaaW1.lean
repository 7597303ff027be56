/-
The walks of isLeaf, has, right and few.
-/
import Derived.Test.YtijkaiilecpbcaaM2
namespace Go.Proofs.Ytijkaiilecpbcaa
open Go.RowKit
namespace K
def btw (n lo hi : Int) : Bool := decide (lo ≤ n) && decide (n ≤ hi)
def leafy (x : It) : Bool := (x.lt == -1) && (x.rt == -1)
def has (n : Nat) (i : Int) : Bool := btw i 0 ((n : Int) - 1)
def right (x : Ln) : Bool := btw x.hh 0 99 && (btw x.cents 0 1125899906842624 && btw x.bl 0 1099511627776)
end K

set_option maxHeartbeats 400000 in
theorem leaf_any (x : It) (w : World) : Calls Try.prog 25 #[.agg #[.int .i64 x.val, .int .i64 x.bl, .int .i64 x.lt, .int .i64 x.rt]] w fun e w' => e = .returned (.bool (K.leafy x)) ∧ Below w.heap.size w w' := by
  cases h : (x.lt == -1)
  all_goals
    go_enter Try.func25, Try.ntmps25
    go_wp2_with fail
    go_ret
    exact ⟨ret_b (by simp [K.leafy, h]), (Below.refl _ _).alloc (Nat.le_refl _) _⟩

set_option maxHeartbeats 400000 in
theorem has_any (A : Option Addr) (n c : Nat) (i : Int) (w : World) : Calls Try.prog 26 #[.agg #[.slice A n c], .int .i64 i] w fun e w' => e = .returned (.bool (K.has n i)) ∧ Below w.heap.size w w' := by
  by_cases h : 0 ≤ i
  · go_enter Try.func26, Try.ntmps26
    go_wp2_with fail
    go_ret
    exact ⟨ret_b (by rw [Bool.eq_iff_iff]; simp [K.has, K.btw]; omega), (Below.refl _ _).alloc (Nat.le_refl _) _⟩
  · have h' : decide (0 ≤ i) = false := by simpa using h
    have hh := Lib.hid h
    clear h
    go_enter Try.func26, Try.ntmps26
    go_wp2_with fail
    go_ret
    exact ⟨ret_b (by have := hh.out; rw [Bool.eq_iff_iff]; simp [K.has, K.btw]; omega), (Below.refl _ _).alloc (Nat.le_refl _) _⟩

set_option maxHeartbeats 400000 in
theorem few_any (A : Option Addr) (n c : Nat) (B : Option Addr) (m d : Nat) (most : Nat) (w : World) : Calls Try.prog 8 #[.agg #[.slice A n c], .slice B m d, .int .i64 most] w fun e w' => e = .returned (.bool (decide (n ≤ most) && decide (m ≤ 10))) ∧ Below w.heap.size w w' := by
  by_cases h : n ≤ most
  · have h' : decide ((n : Int) ≤ most) = true := by simpa using h
    go_enter Try.func8, Try.ntmps8
    go_wp2_with fail
    go_ret
    exact ⟨ret_b (by rw [Bool.eq_iff_iff]; simp; omega), (Below.refl _ _).alloc (Nat.le_refl _) _⟩
  · have h' : decide ((n : Int) ≤ most) = false := by simpa using h
    have hh := Lib.hid h
    clear h
    go_enter Try.func8, Try.ntmps8
    go_wp2_with fail
    go_ret
    exact ⟨ret_b (by have := hh.out; rw [Bool.eq_iff_iff]; simp; omega), (Below.refl _ _).alloc (Nat.le_refl _) _⟩

set_option maxHeartbeats 1000000 in
theorem right_any (x : Ln) (w : World) : Calls Try.prog 21 #[.agg #[.int .i64 x.hh, .int .i64 x.cents, .int .i64 x.bl]] w fun e w' => e = .returned (.bool (K.right x)) ∧ Below w.heap.size w w' := by
  by_cases h0 : 0 ≤ x.hh
  rotate_left
  · have q : decide (0 ≤ x.hh) = false := by simpa using h0
    have HX := Lib.hid (show K.right x = false by simp [K.right, K.btw]; omega)
    clear h0
    go_enter Try.func21, Try.ntmps21
    go_wp2_with fail
    go_ret
    exact ⟨ret_b HX.out.symm, (Below.refl _ _).alloc (Nat.le_refl _) _⟩
  by_cases h1 : x.hh < 100
  rotate_left
  · have q : decide (x.hh < 100) = false := by simpa using h1
    have HX := Lib.hid (show K.right x = false by simp [K.right, K.btw]; omega)
    clear h1
    go_enter Try.func21, Try.ntmps21
    go_wp2_with fail
    go_ret
    exact ⟨ret_b HX.out.symm, (Below.refl _ _).alloc (Nat.le_refl _) _⟩
  by_cases h2 : 0 ≤ x.cents
  rotate_left
  · have q : decide (0 ≤ x.cents) = false := by simpa using h2
    have HX := Lib.hid (show K.right x = false by simp [K.right, K.btw]; omega)
    clear h2
    go_enter Try.func21, Try.ntmps21
    go_wp2_with fail
    go_ret
    exact ⟨ret_b HX.out.symm, (Below.refl _ _).alloc (Nat.le_refl _) _⟩
  by_cases h3 : x.cents ≤ 1125899906842624
  rotate_left
  · have q : decide (x.cents ≤ 1125899906842624) = false := by simpa using h3
    have HX := Lib.hid (show K.right x = false by simp [K.right, K.btw]; omega)
    clear h3
    go_enter Try.func21, Try.ntmps21
    go_wp2_with fail
    go_ret
    exact ⟨ret_b HX.out.symm, (Below.refl _ _).alloc (Nat.le_refl _) _⟩
  by_cases h4 : 0 ≤ x.bl
  rotate_left
  · have q : decide (0 ≤ x.bl) = false := by simpa using h4
    have HX := Lib.hid (show K.right x = false by simp [K.right, K.btw]; omega)
    clear h4
    go_enter Try.func21, Try.ntmps21
    go_wp2_with fail
    go_ret
    exact ⟨ret_b HX.out.symm, (Below.refl _ _).alloc (Nat.le_refl _) _⟩
  go_enter Try.func21, Try.ntmps21
  go_wp2_with fail
  go_ret
  exact ⟨ret_b (by rw [Bool.eq_iff_iff]; simp [K.right, K.btw]; omega), (Below.refl _ _).alloc (Nat.le_refl _) _⟩
end Go.Proofs.Ytijkaiilecpbcaa
