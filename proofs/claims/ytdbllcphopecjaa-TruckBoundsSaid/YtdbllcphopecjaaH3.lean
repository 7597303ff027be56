/-
The walks of slices.IndexFunc and slices.ContainsFunc at windows, and of hours.Open.
-/
import Derived.Test.YtdbllcphopecjaaH2
namespace Go.Proofs.Ytdbllcphopecjaa
open Go.RowKit

theorem drop_any {α : Type} {p : α → Bool} {l : List α} {k : Nat} {x : α} (h : l[k]? = some x) : (l.drop k).any p = (p x || (l.drop (k + 1)).any p) := by
  obtain ⟨hk, e⟩ := List.getElem?_eq_some_iff.1 h
  rw [List.drop_eq_getElem_cons hk, e]
  rfl

/-- A predicate on windows, as a function value that the program holds. -/
def PredW (w : World) (f : FuncId) (cap : Array Value) (p : Int × Int → Bool) : Prop :=
  ∀ (x : Int × Int) (wx : World), Below w.heap.size w wx → Calls Try.prog f (#[.agg #[.int .i64 x.1, .int .i64 x.2]] ++ cap) wx fun e w' => e = .returned (.bool (p x)) ∧ Below wx.heap.size wx w'

set_option maxHeartbeats 1000000 in
theorem indexW (A : Option Addr) (n c : Nat) (l : List (Int × Int)) (f : FuncId) (a : Addr) (p : Int × Int → Bool) (w : World) (hl : Wins w A n l) (hn : n ≤ 1000000000) (hp : Hid (PredW w f #[.pointer (some a)] p))
    (hcf : ∀ (args : Array Value) (wx : World), (callFunc f args).run Try.prog wx = .ok (.enter f args) wx) :
    Calls Try.prog 56 #[.slice A n c, .func (.func f) #[] #[.pointer (some a)]] w fun e w' => (∃ i : Int, e = .returned (.int .i64 i) ∧ (decide (0 ≤ i)) = l.any p) ∧ Below w.heap.size w w' := by
  go_enter Try.func56, Try.ntmps56
  go_wp2
  go_loopw [5, 8] (fun vj vi wr => ∃ k : Nat, vi = .int .i64 k ∧ k ≤ n ∧ Hid (l.any p = (l.drop k).any p) ∧ Below w.heap.size w wr) (fun _ vi _ => n - (intOf vi).toNat)
  case atStart => exact ⟨0, rfl, by omega, by show _ = _; rw [List.drop_zero], Below.refl _ _⟩
  case round =>
    obtain ⟨k, rfl, hk, hr, hbr⟩ := hrel
    by_cases hlt : k < n
    · obtain ⟨ad, o, d, rfl, hg, c0, c1⟩ := (hl.below hbr).at_ hlt
      have HS := Lib.hid (drop_any (p := p) hg)
      clear hg
      go_wp2_with fail
      refine (hp.out (o, d) _ hbr).mono ?_
      rintro e w1 ⟨rfl, hb1⟩
      cases hpx : p (o, d)
      · go_wp2
        go_roundw
        case rel => exact ⟨k + 1, by go_num, by omega, by show _ = _; rw [hr.out, HS.out, hpx]; rfl, bel hbr hb1⟩
        case measure => simp [intOf]; omega
      · go_wp2
        go_ret
        exact ⟨⟨k, rfl, by rw [hr.out, HS.out, hpx]; simp⟩, bel hbr hb1⟩
    · have hd : l.drop k = [] := List.drop_eq_nil_of_le (by rw [← hl.1]; omega)
      have HD := Lib.hid hd
      clear hd
      go_wp2
      go_ret
      exact ⟨⟨-1, rfl, by rw [hr.out, HD.out]; rfl⟩, hbr⟩

set_option maxHeartbeats 400000 in
theorem containsW (A : Option Addr) (n c : Nat) (l : List (Int × Int)) (f : FuncId) (a : Addr) (p : Int × Int → Bool) (w : World) (hl : Wins w A n l) (hn : n ≤ 1000000000) (hp : Hid (PredW w f #[.pointer (some a)] p))
    (hcf : ∀ (args : Array Value) (wx : World), (callFunc f args).run Try.prog wx = .ok (.enter f args) wx) :
    Calls Try.prog 51 #[.slice A n c, .func (.func f) #[] #[.pointer (some a)]] w fun e w' => e = .returned (.bool (l.any p)) ∧ Below w.heap.size w w' := by
  have HF := Lib.hid hcf
  clear hcf
  go_enter Try.func51, Try.ntmps51
  go_wp2_with (go_at_call 56; refine (indexW _ _ _ l f a p _ hl hn hp HF.out).mono ?_; rintro e w1 ⟨⟨i, rfl, hi⟩, hb1⟩)
  go_ret
  exact ⟨rfl, hb1⟩

set_option maxHeartbeats 400000 in
theorem open1_any (t : Int) (x : Int × Int) (a : Addr) (w : World) (ha : w.cell? a = some (.int .i64 t)) :
    Calls Try.prog 52 #[.agg #[.int .i64 x.1, .int .i64 x.2], .pointer (some a)] w fun e w' => e = .returned (.bool (H.opens t x)) ∧ Below w.heap.size w w' := by
  obtain ⟨o, d⟩ := x
  have hlt := cell_lt ha
  by_cases h1 : o ≤ t
  · by_cases h2 : t ≤ d
    · go_enter Try.func52, Try.ntmps52
      go_wp2
      go_ret
      exact ⟨ret_b (by simp [H.opens, h1, h2]), (Below.refl _ _).alloc (Nat.le_refl _) _⟩
    · go_enter Try.func52, Try.ntmps52
      go_wp2
      go_ret
      exact ⟨ret_b (by simp [H.opens, h1, h2]), (Below.refl _ _).alloc (Nat.le_refl _) _⟩
  · have h3 : decide (o ≤ t) = false := by simpa using h1
    have h4 := Lib.hid h3
    go_enter Try.func52, Try.ntmps52
    go_wp2
    go_ret
    exact ⟨ret_b (by simp [H.opens, h4.out]), (Below.refl _ _).alloc (Nat.le_refl _) _⟩

theorem callee52 (args : Array Value) (wx : World) : (callFunc 52 args).run Try.prog wx = .ok (.enter 52 args) wx := by
  go_simp

set_option maxHeartbeats 1000000 in
theorem open_any (A : Option Addr) (n c : Nat) (l : List (Int × Int)) (t : Int) (w : World) (hl : Wins w A n l) (hn : n ≤ 1000000000) :
    Calls Try.prog 37 #[.slice A n c, .int .i64 t] w fun e w' => e = .returned (.bool (H.isOpen l t)) ∧ Below w.heap.size w w' := by
  cases hm : H.minute t
  · go_enter Try.func37, Try.ntmps37
    go_wp2_with (go_at_call 46; refine (minute_any _ _).mono ?_; rintro e w2 ⟨rfl, rfl⟩)
    go_ret
    exact ⟨ret_b (by simp [H.isOpen, hm]), (Below.refl _ _).alloc (Nat.le_refl _) _⟩
  · cases hr : H.right l
    · go_enter Try.func37, Try.ntmps37
      go_wp2_with (first
        | (go_at_call 46; refine (minute_any _ _).mono ?_; rintro e w2 ⟨rfl, rfl⟩)
        | (go_at_call 15; refine (hright_any _ _ _ l _ (hl.below ((Below.refl _ _).alloc (Nat.le_refl _) _)) (by omega)).mono ?_; rintro e w1 ⟨rfl, hb1⟩))
      go_ret
      exact ⟨ret_b (by simp [H.isOpen, hr]), bel ((Below.refl _ _).alloc (Nat.le_refl _) _) hb1⟩
    · have hlen : n ≤ 6 := by have := (H.right_bd hr).1; rw [hl.1]; exact this
      have hal := (H.all_bd hr).1
      have hb0 : Below w.heap.size w (w.alloc (.cells #[.int .i64 t] 3)) := (Below.refl _ _).alloc (Nat.le_refl _) _
      go_enter Try.func37, Try.ntmps37
      go_wp2_with (first
        | (go_at_call 46; refine (minute_any _ _).mono ?_; rintro e w2 ⟨rfl, rfl⟩)
        | (go_at_call 15; refine (hright_any _ _ _ l _ (hl.below ((Below.refl _ _).alloc (Nat.le_refl _) _)) (by omega)).mono ?_; rintro e w1 ⟨rfl, hb1⟩)
        | (go_at_call 47; refine (all_any _ _ _ l _ (hl.below (bel ((Below.refl _ _).alloc (Nat.le_refl _) _) hb1)) (by omega)).mono ?_; rintro e w2 ⟨A1, n1, c1, rfl, h1, hb2⟩))
      have hc : w2.cell? ⟨w.heap.size, 0, none⟩ = some (.int .i64 t) := by
        have h0 : (w.alloc (.cells #[.int .i64 t] 3)).cell? ⟨w.heap.size, 0, none⟩ = some (.int .i64 t) := by rw [World.cell?_alloc_new]; rfl
        have h3 := (hb1.cell (cell_lt h0)).trans h0
        exact (hb2.cell (cell_lt h3)).trans h3
      have hp : PredW w2 52 #[.pointer (some ⟨w.heap.size, 0, none⟩)] (H.opens t) := fun x wx hbx => open1_any t x _ wx ((hbx.cell (cell_lt hc)).trans hc)
      refine (containsW _ _ _ (H.all l) 52 ⟨w.heap.size, 0, none⟩ (H.opens t) _ h1 (by rw [h1.1]; omega) (Lib.hid hp) callee52).mono ?_
      rintro e w3 ⟨rfl, hb3⟩
      clear hp hc
      go_wp2
      go_ret
      exact ⟨ret_b (by simp [H.isOpen, hm, hr]), bel (bel (bel hb0 hb1) hb2) hb3⟩
end Go.Proofs.Ytdbllcphopecjaa
