/-
Routes: right cases, as the statements ask for them.
-/
import Derived.Test.YtjcdpfpdjcannaaPH
import Derived.Test.YtjcdpfpdjcannaaN7
namespace Go.Proofs.Ytjcdpfpdjcannaa
open Go.RowKit

namespace K
/-- Numbers in order, behind p. -/
def ordGo (n : Int) : Int → List Int → Bool
  | _, [] => true
  | p, k :: rest => decide (0 ≤ k) && (decide (k < n) && (decide (p < k) && ordGo n k rest))
def set31 (l : List Int) (n : Int) : Bool := ordGo n (-1) l && decide (l.length ≤ 6)
theorem ordGo_at {n : Int} {v : List Int} {k : Nat} {i : Int} (h : v[k]? = some i) (p : Int) : ordGo n p (v.drop k) = (decide (0 ≤ i) && (decide (i < n) && (decide (p < i) && ordGo n i (v.drop (k + 1))))) := by
  obtain ⟨hk, e⟩ := List.getElem?_eq_some_iff.1 h
  rw [List.drop_eq_getElem_cons hk, e]
  rfl
theorem ordGo_sorted {n : Int} : ∀ (l : List Int) (p : Int), ordGo n p l = true → (∀ x ∈ l, 0 ≤ x ∧ x < n) ∧ (∀ x ∈ l, p < x) ∧ l.Nodup
  | [], _, _ => ⟨by simp, by simp, List.nodup_nil⟩
  | i :: l, p, h => by
    simp only [ordGo, Bool.and_eq_true, decide_eq_true_eq] at h
    obtain ⟨h1, h2, h3⟩ := ordGo_sorted l i h.2.2.2
    refine ⟨fun x hx => ?_, fun x hx => ?_, List.nodup_cons.2 ⟨fun hi => by have := h2 i hi; omega, h3⟩⟩
    · rcases List.mem_cons.1 hx with rfl | hx
      · exact ⟨h.1, h.2.1⟩
      · exact h1 x hx
    · rcases List.mem_cons.1 hx with rfl | hx
      · exact h.2.2.1
      · have := h2 x hx; have := h.2.2.1; omega
theorem setGo_ord {nd : Int} {r : List Q} : ∀ (l : List Int) (p : Int), setGo nd r p l = (ordGo (r.length : Int) p l && l.all fun i => decide ((req r i).node < nd))
  | [], _ => rfl
  | i :: l, p => by
    simp only [setGo, ordGo, List.all_cons, setGo_ord l i]
    cases decide (0 ≤ i) <;> cases decide (i < (r.length : Int)) <;> cases decide (p < i) <;> cases decide ((req r i).node < nd) <;> simp
/-- A right case is a right round over a set in order. -/
theorem ok31_eq (nd : Int) (l : List Ro) (s : S) (r : List Q) (v : List Int) : ok31 nd l s r v = (set31 v (r.length : Int) && right nd l s r v) := by
  unfold ok31 set31 right
  rw [setGo_ord]
  cases h1 : ordGo (r.length : Int) (-1) v
  · simp
  · obtain ⟨a, -, c⟩ := ordGo_sorted _ _ h1
    have hs : T.isSet (r.length : Int) v = true := T.isSet_iff.2 ⟨a, c⟩
    unfold T.load
    rw [hs]
    cases (netErr nd l == 0) <;> cases (T.check s == 0) <;> cases decide (s.depot < nd) <;> cases (r.any fun q => !T.right q) <;> cases decide (v.length ≤ 6) <;> simp
end K

set_option maxRecDepth 100000 in
set_option maxHeartbeats 8000000 in
theorem set31_any (A : Option Addr) (n c : Nat) (v : List Int) (m : Int) (w : World) (hV : Ints w A n v) (hn : n ≤ 1000000000) :
    Calls Try.prog 71 #[.slice A n c, .int .i64 m] w fun e w' => e = .returned (.bool (K.set31 v m)) ∧ Below w.heap.size w w' := by
  have HLN := Lib.hid hV.1
  go_enter Try.func71, Try.ntmps71
  go_wp2_with fail
  go_loopw [5] (fun v5 wr => ∃ k : Nat, v5 = .int .i64 k ∧ k ≤ n ∧ Hid (K.ordGo m (-1) v = K.ordGo m (K.prev v k) (v.drop k)) ∧ Below w.heap.size w wr) (fun v5 _ => n - (intOf v5).toNat)
  case atStart => exact ⟨0, rfl, by omega, rfl, Below.refl _ _⟩
  case round =>
    obtain ⟨k, rfl, hk, hr, hbr⟩ := hrel
    by_cases hlt : k < n
    · obtain ⟨adv, i, rfl, hi, ci⟩ := (hV.below hbr).at_ hlt
      have HR := Lib.hid (hr.out.trans (K.ordGo_at hi (K.prev v k)))
      have HNX := Lib.hid (show K.prev v (k + 1) = i by simp [K.prev, hi])
      clear hi hr
      have k0 : (0 : Int) ≤ (k : Int) := by omega
      have k1 : (k : Int) < (n : Int) := by omega
      cases c1 : decide (i < 0)
      rotate_left
      · have HX := Lib.hid (show K.set31 v m = false by unfold K.set31; rw [HR.out]; have := of_decide_eq_true c1; simp; omega)
        go_wp2_with fail
        go_quiet (fail)
        go_wp2_with fail
        go_ret
        exact ⟨ret_b HX.out.symm, below_drewN hbr _⟩
      have hi0 : ¬ i < 0 := of_decide_eq_false c1
      cases c2 : decide (m ≤ i)
      rotate_left
      · have HX := Lib.hid (show K.set31 v m = false by unfold K.set31; rw [HR.out]; have := of_decide_eq_true c2; simp; intros; omega)
        go_wp2_with fail
        go_quiet (fail)
        go_wp2_with fail
        go_ret
        exact ⟨ret_b HX.out.symm, below_drewN hbr _⟩
      have hi1 : ¬ m ≤ i := of_decide_eq_false c2
      rcases Nat.eq_zero_or_pos k with hk0 | hk0
      · have HK0 := Lib.hid hk0
        have k2 : decide ((0 : Int) < (k : Int)) = false := by simp; omega
        have k2n : decide (0 < k) = false := by simp; omega
        clear hk0
        have HN := Lib.hid (show K.ordGo m (-1) v = K.ordGo m (K.prev v (k + 1)) (v.drop (k + 1)) by
          rw [HR.out, HNX.out, show K.prev v k = -1 by rw [HK0.out]; rfl]; simp [show (0 : Int) ≤ i by omega, show i < m by omega, show (-1 : Int) < i by omega])
        go_wp2_with fail
        go_quiet (fail)
        go_wp2_with fail
        go_roundw
        case rel => exact ⟨k + 1, by go_num, by omega, HN.out, below_drewN hbr _⟩
        case measure => simp [intOf]; omega
      · obtain ⟨kp, hkp⟩ : ∃ kp : Nat, k = kp + 1 := ⟨k - 1, by omega⟩
        obtain ⟨adp, pv, ep, hp, cp⟩ := (hV.below hbr).at_ (k := kp) (by omega)
        injection ep with ep
        subst ep
        have HPV := Lib.hid (show K.prev v k = pv by rw [hkp]; simp [K.prev, hp])
        have k2 : decide ((0 : Int) < (k : Int)) = true := by simp; omega
        have k2n : decide (0 < k) = true := by simp; omega
        have k3 : IntKind.i64.wrap ((k : Int) - 1) = (kp : Int) := by rw [IntWalk.i64_in _ (by omega)]; omega
        have k4 : (kp : Int) < (n : Int) := by omega
        have k5 : (0 : Int) ≤ (kp : Int) := by omega
        have k6 : decide ((kp : Int) < 0) = false := by simp
        have HKP := Lib.hid hkp
        clear hp hkp
        cases c4 : decide (i ≤ pv)
        · have HN := Lib.hid (show K.ordGo m (-1) v = K.ordGo m (K.prev v (k + 1)) (v.drop (k + 1)) by
            have := of_decide_eq_false c4
            rw [HR.out, HNX.out, HPV.out]; simp [show (0 : Int) ≤ i by omega, show i < m by omega, show pv < i by omega])
          go_wp2_with fail
          go_quiet (fail)
          go_wp2_with fail
          go_roundw
          case rel => exact ⟨k + 1, by go_num, by omega, HN.out, below_drewN hbr _⟩
          case measure => simp [intOf]; omega
        · have HX := Lib.hid (show K.set31 v m = false by unfold K.set31; rw [HR.out, HPV.out]; have := of_decide_eq_true c4; simp; intros; omega)
          go_wp2_with fail
          go_quiet (fail)
          go_wp2_with fail
          go_ret
          exact ⟨ret_b HX.out.symm, below_drewN hbr _⟩
    · have HN := Lib.hid (show K.set31 v m = decide (v.length ≤ 6) by unfold K.set31; rw [hr.out, List.drop_eq_nil_of_le (by rw [← HLN.out]; omega)]; rfl)
      go_wp2_with fail
      go_ret
      exact ⟨by rw [HN.out, ← HLN.out]; simp; omega, hbr⟩

set_option maxRecDepth 100000 in
set_option maxHeartbeats 8000000 in
theorem right31_any (x : C) (V : Option Addr) (vn vc : Nat) (v : List Int) (w : World) (hx : At w x) (hV : Ints w V vn v) (hvn : vn ≤ 1000000000) :
    Calls Try.prog 34 #[.agg #[.int .i64 x.nd, .slice x.A x.n x.c], .agg #[.int .i64 x.s.day, .int .i64 x.s.depot, .int .i64 x.s.start, .int .i64 x.s.end_, .int .i64 x.s.tare, .slice x.s.A x.s.n x.s.c], .slice x.B x.m x.d, .slice V vn vc] w fun e w' => e = .returned (.bool (K.ok31 x.nd x.l x.s x.r v)) ∧ Below w.heap.size w w' := by
  have b0 := ((Below.refl w.heap.size w).alloc (Nat.le_refl _) (.cells #[.int .i64 x.nd, .slice x.A x.n x.c] 24)).alloc (by rw [World.size_alloc]; omega) (.cells #[.int .i64 x.s.day, .int .i64 x.s.depot, .int .i64 x.s.start, .int .i64 x.s.end_, .int .i64 x.s.tare, .slice x.s.A x.s.n x.s.c] 27)
  have SZ := World.size_alloc w (.cells #[.int .i64 x.nd, .slice x.A x.n x.c] 24)
  have hP := (Net.new w x.nd x.A x.n x.c).below ((Below.refl _ _).alloc (Nat.le_refl _) (.cells #[.int .i64 x.s.day, .int .i64 x.s.depot, .int .i64 x.s.start, .int .i64 x.s.end_, .int .i64 x.s.tare, .slice x.s.A x.s.n x.s.c] 27))
  have hS := Shf.new (w.alloc (.cells #[.int .i64 x.nd, .slice x.A x.n x.c] 24)) x.s
  rw [SZ] at hS
  have HO := Lib.hid (K.ok31_eq x.nd x.l x.s x.r v)
  have HM := Lib.hid hx.reqs.1
  go_enter Try.func34, Try.ntmps34
  go_wp2_with fail
  obtain ⟨w0, hw0⟩ : ∃ w0 : World, w0 = (w.alloc (.cells #[.int .i64 x.nd, .slice x.A x.n x.c] 24)).alloc (.cells #[.int .i64 x.s.day, .int .i64 x.s.depot, .int .i64 x.s.start, .int .i64 x.s.end_, .int .i64 x.s.tare, .slice x.s.A x.s.n x.s.c] 27) := ⟨_, rfl⟩
  rw [← hw0] at b0 hP hS ⊢
  clear hw0 SZ
  refine (set31_any V vn vc v x.m _ (hV.below b0) hvn).mono ?_
  rintro e w1 ⟨rfl, b1⟩
  have hP := hP.below b1
  have hS := hS.below b1
  have hb := bel b0 b1
  clear b0 b1
  cases h1 : K.set31 v (x.m : Int)
  · have HX := Lib.hid (show K.ok31 x.nd x.l x.s x.r v = false by rw [HO.out, ← HM.out, h1]; rfl)
    go_wp2_with fail
    go_ret
    exact ⟨ret_b HX.out.symm, hb⟩
  have HX := Lib.hid (show K.ok31 x.nd x.l x.s x.r v = K.right x.nd x.l x.s x.r v by rw [HO.out, ← HM.out, h1]; rfl)
  have p0 := hP.c0
  have p1 := hP.c1
  obtain ⟨s0, s1, s2, s3, s4, s5⟩ := hS.cells
  go_wp2_with fail
  refine (rright30_any x V vn vc v _ (hx.below hb) (hV.below hb) hvn).mono ?_
  rintro e w2 ⟨rfl, b2⟩
  go_wp2_with fail
  go_ret
  exact ⟨by rw [HX.out]; rfl, bel hb b2⟩
end Go.Proofs.Ytjcdpfpdjcannaa
