/-
The walks of the reference's Fit and Last.
-/
import Derived.Test.YtdbllcphopecjaaHR2
namespace Go.Proofs.Ytdbllcphopecjaa
open Go.RowKit

theorem guard_cases (a b c : Bool) : (a = false) ∨ (a = true ∧ b = false) ∨ (a = true ∧ b = true ∧ c = false) ∨ (a = true ∧ b = true ∧ c = true) := by
  cases a <;> cases b <;> cases c <;> simp

theorem rfitGo_drop {l : List (Int × Int)} {t s o c : Int} {r : List (Int × Int)} {k : Nat} (h : r[k]? = some (o, c)) :
    H.rfitGo l t s (r.drop k) = if decide (t ≤ o) && H.fits l o s then (o, true) else H.rfitGo l t s (r.drop (k + 1)) := by
  obtain ⟨hk, e⟩ := List.getElem?_eq_some_iff.1 h
  rw [List.drop_eq_getElem_cons hk, e]
  rfl

set_option maxHeartbeats 2000000 in
theorem rfit_any (A : Option Addr) (n c : Nat) (l : List (Int × Int)) (t s : Int) (w : World) (hl : Wins w A n l) (hn : n ≤ 1000000000) :
    Calls Try.prog 30 #[.slice A n c, .int .i64 t, .int .i64 s] w fun e w' => e = .returned (.tuple #[.int .i64 (H.fit l t s).1, .bool (H.fit l t s).2]) ∧ Below w.heap.size w w' := by
  rw [H.fit_eq]
  rcases guard_cases (H.right l) (H.minute t) (H.minute s) with k1 | ⟨k1, k2⟩ | ⟨k1, k2, k3⟩ | ⟨k1, k2, k3⟩
  · have HF := Lib.hid (show H.rfit l t s = (0, false) by simp [H.rfit, k1])
    go_enter Try.func30, Try.ntmps30
    go_wp2_with (first | (go_at_call 36; refine (rright_any _ _ _ l _ hl hn).mono ?_; rintro e w1 ⟨rfl, hb⟩) | (go_at_call 48; refine (rminute_any _ _).mono ?_; rintro e w2 ⟨rfl, rfl⟩))
    go_ret2
    exact ⟨ret_ib HF.out, hb⟩
  · have HF := Lib.hid (show H.rfit l t s = (0, false) by simp [H.rfit, k2])
    go_enter Try.func30, Try.ntmps30
    go_wp2_with (first | (go_at_call 36; refine (rright_any _ _ _ l _ hl hn).mono ?_; rintro e w1 ⟨rfl, hb⟩) | (go_at_call 48; refine (rminute_any _ _).mono ?_; rintro e w2 ⟨rfl, rfl⟩))
    go_ret2
    exact ⟨ret_ib HF.out, hb⟩
  · have HF := Lib.hid (show H.rfit l t s = (0, false) by simp [H.rfit, k3])
    go_enter Try.func30, Try.ntmps30
    go_wp2_with (first | (go_at_call 36; refine (rright_any _ _ _ l _ hl hn).mono ?_; rintro e w1 ⟨rfl, hb⟩) | (go_at_call 48; refine (rminute_any _ _).mono ?_; rintro e w2 ⟨rfl, rfl⟩))
    go_ret2
    exact ⟨ret_ib HF.out, hb⟩
  · cases kf : H.fits l t s
    · have HF := Lib.hid (show H.rfit l t s = H.rfitGo l t s l by simp [H.rfit, k1, k2, k3, kf])
      go_enter Try.func30, Try.ntmps30
      go_wp2_with (first
        | (go_at_call 36; refine (rright_any _ _ _ l _ hl hn).mono ?_; rintro e w1 ⟨rfl, hb⟩)
        | (go_at_call 48; refine (rminute_any _ _).mono ?_; rintro e w2 ⟨rfl, rfl⟩)
        | (go_at_call 49; refine (rfits_any _ _ _ l _ _ _ (hl.below hb) hn).mono ?_; rintro e w2 ⟨rfl, rfl⟩))
      have hl1 := hl.below hb
      go_loop [8] (fun vi => ∃ k : Nat, vi = .int .i64 k ∧ k ≤ n ∧ Hid (H.rfitGo l t s l = H.rfitGo l t s (l.drop k))) (fun vi => n - (intOf vi).toNat)
      case atStart => exact ⟨0, rfl, by omega, by show _ = _; rw [List.drop_zero]⟩
      case round =>
        obtain ⟨k, rfl, hk, hr⟩ := hrel
        by_cases hlt : k < n
        · obtain ⟨ad, o, d, rfl, hg, c0, c1⟩ := hl1.at_ hlt
          have HS := Lib.hid (rfitGo_drop (l := l) (t := t) (s := s) hg)
          clear hg
          by_cases h1 : t ≤ o
          · cases hf2 : H.fits l o s
            · go_wp2_with (go_at_call 49; refine (rfits_any _ _ _ l _ _ _ hl1 hn).mono ?_; rintro e w2 ⟨rfl, rfl⟩)
              go_round
              case rel => exact ⟨k + 1, by go_num, by omega, by show _ = _; rw [hr.out, HS.out]; simp [hf2]⟩
              case measure => simp [intOf]; omega
            · go_wp2_with (go_at_call 49; refine (rfits_any _ _ _ l _ _ _ hl1 hn).mono ?_; rintro e w2 ⟨rfl, rfl⟩)
              go_ret2
              exact ⟨ret_ib (by rw [HF.out, hr.out, HS.out]; simp [h1, hf2]), hb⟩
          · have h1' : decide (t ≤ o) = false := by simpa using h1
            go_wp2
            go_round
            case rel => exact ⟨k + 1, by go_num, by omega, by show _ = _; rw [hr.out, HS.out]; simp; intro; omega⟩
            case measure => simp [intOf]; omega
        · have HD := Lib.hid (drop_none hl1 hlt)
          go_wp2
          go_ret2
          exact ⟨ret_ib (by rw [HF.out, hr.out, HD.out]; rfl), hb⟩
    · have HF := Lib.hid (show H.rfit l t s = (t, true) by simp [H.rfit, k1, k2, k3, kf])
      go_enter Try.func30, Try.ntmps30
      go_wp2_with (first
        | (go_at_call 36; refine (rright_any _ _ _ l _ hl hn).mono ?_; rintro e w1 ⟨rfl, hb⟩)
        | (go_at_call 48; refine (rminute_any _ _).mono ?_; rintro e w2 ⟨rfl, rfl⟩)
        | (go_at_call 49; refine (rfits_any _ _ _ l _ _ _ (hl.below hb) hn).mono ?_; rintro e w2 ⟨rfl, rfl⟩))
      go_ret2
      exact ⟨ret_ib HF.out, hb⟩

theorem rlastGo_drop {l : List (Int × Int)} {y s b o c : Int} {r : List (Int × Int)} {k : Nat} (h : r[k]? = some (o, c)) :
    H.rlastGo l y s b (r.drop k) = H.rlastGo l y s (if decide (c ≤ y) && H.fits l (c - s) s then c - s else b) (r.drop (k + 1)) := by
  obtain ⟨hk, e⟩ := List.getElem?_eq_some_iff.1 h
  rw [List.drop_eq_getElem_cons hk, e]
  rfl

set_option maxHeartbeats 2000000 in
theorem rlast_any (A : Option Addr) (n c : Nat) (l : List (Int × Int)) (t s : Int) (w : World) (hl : Wins w A n l) (hn : n ≤ 1000000000) :
    Calls Try.prog 32 #[.slice A n c, .int .i64 t, .int .i64 s] w fun e w' => e = .returned (.tuple #[.int .i64 (H.last l t s).1, .bool (H.last l t s).2]) ∧ Below w.heap.size w w' := by
  rw [H.last_eq]
  rcases guard_cases (H.right l) (H.minute t) (H.minute s) with k1 | ⟨k1, k2⟩ | ⟨k1, k2, k3⟩ | ⟨k1, k2, k3⟩
  · have HF := Lib.hid (show H.rlast l t s = (0, false) by simp [H.rlast, k1])
    go_enter Try.func32, Try.ntmps32
    go_wp2_with (first | (go_at_call 36; refine (rright_any _ _ _ l _ hl hn).mono ?_; rintro e w1 ⟨rfl, hb⟩) | (go_at_call 48; refine (rminute_any _ _).mono ?_; rintro e w2 ⟨rfl, rfl⟩))
    go_ret2
    exact ⟨ret_ib HF.out, hb⟩
  · have HF := Lib.hid (show H.rlast l t s = (0, false) by simp [H.rlast, k2])
    go_enter Try.func32, Try.ntmps32
    go_wp2_with (first | (go_at_call 36; refine (rright_any _ _ _ l _ hl hn).mono ?_; rintro e w1 ⟨rfl, hb⟩) | (go_at_call 48; refine (rminute_any _ _).mono ?_; rintro e w2 ⟨rfl, rfl⟩))
    go_ret2
    exact ⟨ret_ib HF.out, hb⟩
  · have HF := Lib.hid (show H.rlast l t s = (0, false) by simp [H.rlast, k3])
    go_enter Try.func32, Try.ntmps32
    go_wp2_with (first | (go_at_call 36; refine (rright_any _ _ _ l _ hl hn).mono ?_; rintro e w1 ⟨rfl, hb⟩) | (go_at_call 48; refine (rminute_any _ _).mono ?_; rintro e w2 ⟨rfl, rfl⟩))
    go_ret2
    exact ⟨ret_ib HF.out, hb⟩
  · obtain ⟨t0, t1⟩ := H.minute_iff.1 k2
    obtain ⟨s0, s1⟩ := H.minute_iff.1 k3
    have HB := Lib.hid (H.right_bd k1).2
    cases kf : H.fits l (t - s) s
    · have HF := Lib.hid (show H.rlast l t s = if H.rlastGo l t s (-1) l < 0 then (0, false) else (H.rlastGo l t s (-1) l, true) by simp [H.rlast, k1, k2, k3, kf])
      go_enter Try.func32, Try.ntmps32
      go_wp2_with (first
        | (go_at_call 36; refine (rright_any _ _ _ l _ hl hn).mono ?_; rintro e w1 ⟨rfl, hb⟩)
        | (go_at_call 48; refine (rminute_any _ _).mono ?_; rintro e w2 ⟨rfl, rfl⟩)
        | (go_at_call 49; refine (rfits_any _ _ _ l _ _ _ (hl.below hb) hn).mono ?_; rintro e w2 ⟨rfl, rfl⟩))
      have hl1 := hl.below hb
      go_loop [8, 9] (fun vb vi => ∃ (k : Nat) (b : Int), vi = .int .i64 k ∧ vb = .int .i64 b ∧ k ≤ n ∧ -1000000 ≤ b ∧ b ≤ 1000000 ∧ Hid (H.rlastGo l t s (-1) l = H.rlastGo l t s b (l.drop k))) (fun _ vi => n - (intOf vi).toNat)
      case atStart => exact ⟨0, -1, rfl, rfl, by omega, by omega, by omega, by show _ = _; rw [List.drop_zero]⟩
      case round =>
        obtain ⟨k, b, rfl, rfl, hk, b0, b1, hr⟩ := hrel
        by_cases hlt : k < n
        · obtain ⟨ad, o, d, rfl, hg, c0, c1⟩ := hl1.at_ hlt
          have HS := Lib.hid (rlastGo_drop (l := l) (y := t) (s := s) (b := b) hg)
          obtain ⟨o0, od, d1⟩ := HB.out _ (List.mem_of_getElem? hg)
          have o0' : 0 ≤ o := o0
          have od' : o ≤ d := od
          have d1' : d ≤ 1000000 := d1
          clear hg o0 od d1
          by_cases h1 : d ≤ t
          · cases hf2 : H.fits l (d - s) s
            · go_wp2_with (go_at_call 49; refine (rfits_any _ _ _ l _ _ _ hl1 hn).mono ?_; rintro e w2 ⟨rfl, rfl⟩)
              go_round
              case rel => exact ⟨k + 1, b, by go_num, rfl, by omega, b0, b1, by show _ = _; rw [hr.out, HS.out]; simp [hf2]⟩
              case measure => simp [intOf]; omega
            · go_wp2_with (go_at_call 49; refine (rfits_any _ _ _ l _ _ _ hl1 hn).mono ?_; rintro e w2 ⟨rfl, rfl⟩)
              go_round
              case rel => exact ⟨k + 1, d - s, by go_num, rfl, by omega, by omega, by omega, by show _ = _; rw [hr.out, HS.out]; simp [hf2, h1]⟩
              case measure => simp [intOf]; omega
          · have h1' : decide (d ≤ t) = false := by simpa using h1
            go_wp2
            go_round
            case rel => exact ⟨k + 1, b, by go_num, rfl, by omega, b0, b1, by show _ = _; rw [hr.out, HS.out, if_neg (by simp; intro; omega)]⟩
            case measure => simp [intOf]; omega
        · have HD := Lib.hid (drop_none hl1 hlt)
          by_cases hneg : b < 0
          · go_wp2
            go_ret2
            exact ⟨ret_ib (by rw [HF.out, hr.out, HD.out]; exact if_pos hneg), hb⟩
          · go_wp2
            go_ret2
            exact ⟨ret_ib (by rw [HF.out, hr.out, HD.out]; show (if b < 0 then ((0 : Int), false) else (b, true)) = (b, true); exact if_neg (by omega)), hb⟩
    · have HF := Lib.hid (show H.rlast l t s = (t - s, true) by simp [H.rlast, k1, k2, k3, kf])
      go_enter Try.func32, Try.ntmps32
      go_wp2_with (first
        | (go_at_call 36; refine (rright_any _ _ _ l _ hl hn).mono ?_; rintro e w1 ⟨rfl, hb⟩)
        | (go_at_call 48; refine (rminute_any _ _).mono ?_; rintro e w2 ⟨rfl, rfl⟩)
        | (go_at_call 49; refine (rfits_any _ _ _ l _ _ _ (hl.below hb) hn).mono ?_; rintro e w2 ⟨rfl, rfl⟩))
      go_ret2
      exact ⟨ret_ib HF.out, hb⟩
end Go.Proofs.Ytdbllcphopecjaa
