/-
Routes: small cases; and orders of a set.
-/
import Derived.Test.YtjcdpfpdjcannaaPI
namespace Go.Proofs.Ytjcdpfpdjcannaa
open Go.RowKit

namespace K
def size31 (n : Nat) : Bool := decide (n ≤ 4) || (decide (6 < n) && decide (n ≤ 20))
def few31 (nd : Int) (n : Nat) (s : S) (r : List Q) (vn : Nat) : Bool := few30 nd n s r && size31 vn
/-- Whether an order has exactly the elements of a set. -/
def inSet (o v : List Int) : Bool := (o.length == v.length) && (T.isSet 1000 o && v.all fun x => o.any (· == x))
end K

set_option maxHeartbeats 4000000 in
theorem few31_any (x : C) (V : Option Addr) (vn vc : Nat) (w : World) (hq : Reqs w x.B x.m x.r) :
    Calls Try.prog 25 #[.agg #[.int .i64 x.nd, .slice x.A x.n x.c], .agg #[.int .i64 x.s.day, .int .i64 x.s.depot, .int .i64 x.s.start, .int .i64 x.s.end_, .int .i64 x.s.tare, .slice x.s.A x.s.n x.s.c], .slice x.B x.m x.d, .slice V vn vc] w fun e w' => e = .returned (.bool (K.few31 x.nd x.n x.s x.r vn)) ∧ Below w.heap.size w w' := by
  obtain ⟨w0, hw0⟩ : ∃ w0 : World, w0 = (w.alloc (.cells #[.int .i64 x.nd, .slice x.A x.n x.c] 24)).alloc (.cells #[.int .i64 x.s.day, .int .i64 x.s.depot, .int .i64 x.s.start, .int .i64 x.s.end_, .int .i64 x.s.tare, .slice x.s.A x.s.n x.s.c] 27) := ⟨_, rfl⟩
  have b0 : Below w.heap.size w w0 := by rw [hw0]; exact bel ((Below.refl _ _).alloc (Nat.le_refl _) _) ((Below.refl _ _).alloc (Nat.le_refl _) _)
  have HX := Lib.hid (show K.few31 x.nd x.n x.s x.r vn = (K.few30 x.nd x.n x.s x.r && (decide (vn ≤ 4) || (decide (6 < vn) && decide (vn ≤ 20)))) from rfl)
  go_enter Try.func25, Try.ntmps25
  go_wp2_with fail
  rw [← hw0]
  clear hw0
  refine (few30_any x _ (hq.below b0)).mono ?_
  rintro e w1 ⟨rfl, b1⟩
  have hb := bel b0 b1
  cases h1 : K.few30 x.nd x.n x.s x.r
  · rw [h1] at HX
    clear h1
    go_wp2_with fail
    go_ret
    exact ⟨ret_b HX.out.symm, hb⟩
  rw [h1] at HX
  clear h1
  cases h2 : decide (vn ≤ 4)
  · have h2i : decide ((vn : Int) ≤ 4) = false := by have := of_decide_eq_false h2; simp; omega
    rw [h2] at HX
    cases h3 : decide (6 < vn)
    · have h3i : decide ((6 : Int) < (vn : Int)) = false := by have := of_decide_eq_false h3; simp; omega
      rw [h3] at HX
      go_wp2_with fail
      go_ret
      exact ⟨ret_b HX.out.symm, hb⟩
    · have h3i : decide ((6 : Int) < (vn : Int)) = true := by have := of_decide_eq_true h3; simp; omega
      rw [h3] at HX
      cases h4 : decide (vn ≤ 20)
      · have h4i : decide ((vn : Int) ≤ 20) = false := by have := of_decide_eq_false h4; simp; omega
        rw [h4] at HX
        go_wp2_with fail
        go_ret
        exact ⟨ret_b HX.out.symm, hb⟩
      · have h4i : decide ((vn : Int) ≤ 20) = true := by have := of_decide_eq_true h4; simp; omega
        rw [h4] at HX
        go_wp2_with fail
        go_ret
        exact ⟨ret_b HX.out.symm, hb⟩
  · have h2i : decide ((vn : Int) ≤ 4) = true := by have := of_decide_eq_true h2; simp; omega
    rw [h2] at HX
    go_wp2_with fail
    go_ret
    exact ⟨ret_b (by rw [HX.out]; rfl), hb⟩

set_option maxHeartbeats 4000000 in
theorem inSet_any (A B : Option Addr) (n m c d : Nat) (o v : List Int) (w : World) (ho : Ints w A n o) (hv : Ints w B m v) (hn : n ≤ 1000000000) (hm : m ≤ 1000000000) :
    Calls Try.prog 40 #[.slice A n c, .slice B m d] w fun e w' => e = .returned (.bool (K.inSet o v)) ∧ Below w.heap.size w w' := by
  have HON := Lib.hid ho.1
  have HVN := Lib.hid hv.1
  by_cases hnm : n = m
  · obtain rfl := hnm
    have HX := Lib.hid (show K.inSet o v = (T.isSet 1000 o && v.all fun x => o.any (· == x)) by unfold K.inSet; rw [← HON.out, ← HVN.out]; simp)
    go_enter Try.func40, Try.ntmps40
    go_wp2_with fail
    refine (isSet_any A n c o 1000 w ho hn).mono ?_
    rintro e w1 ⟨rfl, b1⟩
    cases h1 : T.isSet 1000 o
    · rw [h1] at HX
      clear h1
      go_wp2_with fail
      go_ret
      exact ⟨ret_b HX.out.symm, b1⟩
    rw [h1, Bool.true_and] at HX
    clear h1
    go_wp2_with fail
    go_loopw [5] (fun v5 wr => ∃ k : Nat, v5 = .int .i64 k ∧ k ≤ n ∧ Hid (K.inSet o v = (v.drop k).all fun x => o.any (· == x)) ∧ Below w1.heap.size w1 wr) (fun v5 _ => n - (intOf v5).toNat)
    case atStart => exact ⟨0, rfl, by omega, by show _ = _; rw [HX.out, List.drop_zero], Below.refl _ _⟩
    case round =>
      obtain ⟨k, rfl, hk, hr, hbr⟩ := hrel
      have hbw := bel b1 hbr
      by_cases hlt : k < n
      · obtain ⟨adv, x, rfl, hx, cxw⟩ := hv.at_ hlt
        have HS := Lib.hid (hr.out.trans (drop_all (p := fun x => o.any (· == x)) hx))
        have k0 : (0 : Int) ≤ (k : Int) := by omega
        have k1 : (k : Int) < (n : Int) := by omega
        clear hx hr
        go_wp2_with fail
        go_loopw [6, 7] (fun v6 v7 wi => ∃ i : Nat, v7 = .int .i64 i ∧ i ≤ n ∧ v6 = .bool ((o.take i).any (· == x)) ∧ Below w1.heap.size w1 wi) (fun _ v7 _ => n - (intOf v7).toNat)
        case atStart => exact ⟨0, rfl, by omega, rfl, hbr⟩
        case round =>
          clear hbr hbw
          obtain ⟨i, rfl, hi, rfl, hbr⟩ := hrel
          have hbw := bel b1 hbr
          obtain ⟨z, hz⟩ : ∃ z, z = (o.take i).any (· == x) := ⟨_, rfl⟩
          rw [← hz]
          have HZ := Lib.hid hz
          clear hz
          by_cases hlti : i < n
          · obtain ⟨ado, y, rfl, hy, cy⟩ := (ho.below hbw).at_ hlti
            have cx := (hbw.cell (cell_lt cxw)).trans cxw
            have k2 : (0 : Int) ≤ (i : Int) := by omega
            have k3 : (i : Int) < (n : Int) := by omega
            have HT := Lib.hid (show (o.take (i + 1)).any (· == x) = (z || (y == x)) by rw [take_snoc hy, List.any_append, ← HZ.out]; simp)
            clear hy
            cases z
            · cases e1 : (y == x)
              · have HT2 := Lib.hid (show (o.take (i + 1)).any (· == x) = false by rw [HT.out, e1]; rfl)
                go_wp2_with fail
                go_quiet (fail)
                go_wp2_with fail
                go_roundw
                case rel => exact ⟨i + 1, by go_num, by omega, by rw [HT2.out], below_drewN hbr _⟩
                case measure => simp [intOf]; omega
              · have HT2 := Lib.hid (show (o.take (i + 1)).any (· == x) = true by rw [HT.out, e1]; rfl)
                go_wp2_with fail
                go_quiet (fail)
                go_wp2_with fail
                go_roundw
                case rel => exact ⟨i + 1, by go_num, by omega, by rw [HT2.out], below_drewN hbr _⟩
                case measure => simp [intOf]; omega
            · have HT2 := Lib.hid (show (o.take (i + 1)).any (· == x) = true by rw [HT.out]; rfl)
              go_wp2_with fail
              go_quiet (fail)
              go_wp2_with fail
              go_roundw
              case rel => exact ⟨i + 1, by go_num, by omega, by rw [HT2.out], below_drewN hbr _⟩
              case measure => simp [intOf]; omega
          · have HZ2 := Lib.hid (show z = o.any (· == x) by rw [HZ.out, List.take_of_length_le (by rw [← HON.out]; omega)])
            cases z
            · have HF := Lib.hid (show K.inSet o v = false by rw [HS.out, ← HZ2.out]; rfl)
              go_wp2_with fail
              go_ret
              exact ⟨ret_b HF.out.symm, hbw⟩
            · have HF := Lib.hid (show K.inSet o v = (v.drop (k + 1)).all fun x => o.any (· == x) by rw [HS.out, ← HZ2.out]; rfl)
              go_wp2_with fail
              go_roundw
              case rel => exact ⟨k + 1, by go_num, by omega, HF.out, hbr⟩
              case measure => simp [intOf]; omega
      · have HN := Lib.hid (show K.inSet o v = true by rw [hr.out, List.drop_eq_nil_of_le (by rw [← HVN.out]; omega)]; rfl)
        go_wp2_with fail
        go_ret
        exact ⟨ret_b HN.out.symm, hbw⟩
  · have HX := Lib.hid (show K.inSet o v = false by unfold K.inSet; rw [← HON.out, ← HVN.out]; simp [hnm])
    have q1 : (((n : Nat) : Int) != ((m : Nat) : Int)) = true := by simp; omega
    go_enter Try.func40, Try.ntmps40
    go_wp2_with fail
    go_ret
    exact ⟨ret_b HX.out.symm, Below.refl _ _⟩
end Go.Proofs.Ytjcdpfpdjcannaa
