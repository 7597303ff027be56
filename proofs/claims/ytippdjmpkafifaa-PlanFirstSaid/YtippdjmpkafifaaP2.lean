/-
Routes: the contract of route.planned.
-/
import Derived.Test.YtippdjmpkafifaaP1
namespace Go.Proofs.Ytippdjmpkafifaa
open Go.RowKit

namespace K
/-- A set in order, behind p. -/
theorem ok31_parts {nd : Int} {l : List Ro} {s : S} {r : List Q} {v : List Int} (h : ok31 nd l s r v = true) : netErr nd l = 0 ∧ T.check s = 0 ∧ s.depot < nd ∧ (∀ q ∈ r, T.right q = true) ∧ v.length ≤ 6 ∧ setGo nd r (-1) v = true := by
  simp only [ok31, Bool.and_eq_true, beq_iff_eq, decide_eq_true_eq, Bool.not_eq_true', List.any_eq_false] at h
  exact ⟨h.1, h.2.1, h.2.2.1, fun q hq => by have := h.2.2.2.1 q hq; simpa using this, h.2.2.2.2.1, h.2.2.2.2.2⟩
end K

set_option maxHeartbeats 400000 in
theorem planned1_any (q : Q) (w : World) (hl : Wins w q.A q.n q.l) (hn : q.n ≤ 1000000000) :
    Calls Try.prog 81 #[.agg #[.int .i64 q.node, .int .i64 q.room, .int .i64 q.kilos, .int .i64 q.service, .int .i64 q.frm, .int .i64 q.by_, .slice q.A q.n q.c]] w fun e w' => e = .returned (.bool (!T.right q)) ∧ Below w.heap.size w w' := by
  go_enter Try.func81, Try.ntmps81
  go_wp2_with fail
  refine (tright_any q _ (hl.below ?_) hn).mono ?_
  · exact (Below.refl _ _).alloc (Nat.le_refl _) _
  rintro e w1 ⟨rfl, hb1⟩
  go_wp2_with fail
  go_ret
  exact ⟨rfl, bel ((Below.refl _ _).alloc (Nat.le_refl _) _) hb1⟩

set_option maxHeartbeats 1000000 in
theorem indexP (A : Option Addr) (n c : Nat) (l : List Q) (w : World) (hl : Reqs w A n l) (hn : n ≤ 1000000000) (hq : ∀ q ∈ l, q.n ≤ 1000000000) :
    Calls Try.prog 109 #[.slice A n c, .func (.func 81) #[] #[]] w fun e w' => (∃ i : Int, e = .returned (.int .i64 i) ∧ (decide (0 ≤ i)) = l.any fun q => !T.right q) ∧ Below w.heap.size w w' := by
  go_enter Try.func109, Try.ntmps109
  go_wp2_with fail
  go_loopw [8] (fun vi wr => ∃ k : Nat, vi = .int .i64 k ∧ k ≤ n ∧ Hid ((l.any fun q => !T.right q) = (l.drop k).any fun q => !T.right q) ∧ Below w.heap.size w wr) (fun vi _ => n - (intOf vi).toNat)
  case atStart => exact ⟨0, rfl, by omega, by show _ = _; rw [List.drop_zero], Below.refl _ _⟩
  case round =>
    obtain ⟨k, rfl, hk, hr, hbr⟩ := hrel
    by_cases hlt : k < n
    · obtain ⟨ad, q, rfl, hg, hwq, c0, c1, c2, c3, c4, c5, c6⟩ := (hl.below hbr).at_ hlt
      have hqn := hq q (List.mem_of_getElem? hg)
      have HS := Lib.hid (drop_any (p := fun q => !T.right q) hg)
      clear hg
      go_wp2_with fail
      refine (planned1_any q _ hwq hqn).mono ?_
      rintro e w1 ⟨rfl, hb1⟩
      cases hpx : T.right q
      · go_wp2_with fail
        go_ret
        exact ⟨⟨k, rfl, by rw [hr.out, HS.out, hpx]; simp⟩, bel hbr hb1⟩
      · go_wp2_with fail
        go_roundw
        case rel => exact ⟨k + 1, by go_num, by omega, by show _ = _; rw [hr.out, HS.out, hpx]; rfl, bel hbr hb1⟩
        case measure => simp [intOf]; omega
    · have hd : l.drop k = [] := List.drop_eq_nil_of_le (by rw [← hl.1]; omega)
      have HD := Lib.hid hd
      clear hd
      go_wp2_with fail
      go_ret
      exact ⟨⟨-1, rfl, by rw [hr.out, HD.out]; rfl⟩, hbr⟩

set_option maxHeartbeats 400000 in
theorem containsP (A : Option Addr) (n c : Nat) (l : List Q) (w : World) (hl : Reqs w A n l) (hn : n ≤ 1000000000) (hq : ∀ q ∈ l, q.n ≤ 1000000000) :
    Calls Try.prog 75 #[.slice A n c, .func (.func 81) #[] #[]] w fun e w' => e = .returned (.bool (l.any fun q => !T.right q)) ∧ Below w.heap.size w w' := by
  go_enter Try.func75, Try.ntmps75
  go_wp2_with fail
  refine (indexP A n c l _ hl hn hq).mono ?_
  rintro e w1 ⟨⟨i, rfl, hi⟩, hb1⟩
  go_wp2_with fail
  go_ret
  exact ⟨rfl, hb1⟩

/-- What route.planned hands back. -/
def RetPlan (x : C) (V : Option Addr) (vn vc : Nat) (v : List Int) (w w' : World) (e : Ending) : Prop :=
  ((K.ok31 x.nd x.l x.s x.r v = false ∧ e = .returned (.tuple #[.pointer none, .bool false])) ∨
    ∃ b mb, e = .returned (.tuple #[.pointer (some ⟨b, 0, none⟩), .bool true]) ∧ w.heap.size ≤ b ∧ w.heap.size ≤ mb ∧ (∀ X, PAt w' b mb ⟨x, V, vn, vc, v⟩ X)) ∧ Below w.heap.size w w'
theorem planned_no {x : C} {V : Option Addr} {vn vc : Nat} {v : List Int} {w w' : World} (h : K.ok31 x.nd x.l x.s x.r v = false) (hb : Below w.heap.size w w') : RetPlan x V vn vc v w w' (.returned (.tuple #[.pointer none, .bool false])) := ⟨.inl ⟨h, rfl⟩, hb⟩

set_option maxRecDepth 100000 in
set_option maxHeartbeats 16000000 in
theorem planned_any (x : C) (V : Option Addr) (vn vc : Nat) (v : List Int) (w : World) (hx : At w x) (hV : Ints w V vn v) (hvc : vn ≤ vc) (hvn : vn ≤ 1000000000) :
    Calls Try.prog 51 #[.agg #[.int .i64 x.nd, .slice x.A x.n x.c], .agg #[.int .i64 x.s.day, .int .i64 x.s.depot, .int .i64 x.s.start, .int .i64 x.s.end_, .int .i64 x.s.tare, .slice x.s.A x.s.n x.s.c], .slice x.B x.m x.d, .slice V vn vc] w fun e w' => RetPlan x V vn vc v w w' e := by
  have b0 := ((Below.refl w.heap.size w).alloc (Nat.le_refl _) (.cells #[.int .i64 x.nd, .slice x.A x.n x.c] 24)).alloc (by rw [World.size_alloc]; omega) (.cells #[.int .i64 x.s.day, .int .i64 x.s.depot, .int .i64 x.s.start, .int .i64 x.s.end_, .int .i64 x.s.tare, .slice x.s.A x.s.n x.s.c] 43)
  have SZ := World.size_alloc w (.cells #[.int .i64 x.nd, .slice x.A x.n x.c] 24)
  have hP := (Net.new w x.nd x.A x.n x.c).below ((Below.refl _ _).alloc (Nat.le_refl _) (.cells #[.int .i64 x.s.day, .int .i64 x.s.depot, .int .i64 x.s.start, .int .i64 x.s.end_, .int .i64 x.s.tare, .slice x.s.A x.s.n x.s.c] 43))
  have hS := Shf.new (w.alloc (.cells #[.int .i64 x.nd, .slice x.A x.n x.c] 24)) x.s
  rw [SZ] at hS
  have p0 := hP.c0
  have p1 := hP.c1
  go_enter Try.func51, Try.ntmps51
  go_wp2_with fail
  obtain ⟨w0, hw0⟩ : ∃ w0 : World, w0 = (w.alloc (.cells #[.int .i64 x.nd, .slice x.A x.n x.c] 24)).alloc (.cells #[.int .i64 x.s.day, .int .i64 x.s.depot, .int .i64 x.s.start, .int .i64 x.s.end_, .int .i64 x.s.tare, .slice x.s.A x.s.n x.s.c] 43) := ⟨_, rfl⟩
  rw [← hw0] at b0 hP hS ⊢
  clear hw0 p0 p1 SZ
  refine (netcheck_any x.nd x.A x.n x.c x.l _ (Lst.below hx.net b0) hx.b1).mono ?_
  rintro e w1 ⟨rfl, b1⟩
  have hP := hP.below b1
  have hS := hS.below b1
  have hb := bel b0 b1
  clear b0 b1
  obtain ⟨s0, s1, s2, s3, s4, s5⟩ := hS.cells
  cases h1 : (K.netErr x.nd x.l == 0)
  · have h1' : (K.netErr x.nd x.l != 0) = true := by simp [bne, h1]
    have HX := Lib.hid (show K.ok31 x.nd x.l x.s x.r v = false by simp [K.ok31, h1])
    go_wp2_with fail
    go_ret2
    exact planned_no HX.out hb

  have h1' : (K.netErr x.nd x.l != 0) = false := by simp [bne, h1]
  go_wp2_with fail
  refine (check_any x.s _ (hx.below hb).rooms hx.b2).mono ?_
  rintro e w2 ⟨rfl, b2⟩
  have hP := hP.below b2
  have hS := hS.below b2
  have hb := bel hb b2
  clear b2 s0 s1 s2 s3 s4 s5
  have p0 := hP.c0
  obtain ⟨s0, s1, s2, s3, s4, s5⟩ := hS.cells
  cases h2 : (T.check x.s == 0)
  · have h2' : (T.check x.s != 0) = true := by simp [bne, h2]
    have HX := Lib.hid (show K.ok31 x.nd x.l x.s x.r v = false by simp [K.ok31, h2])
    go_wp2_with fail
    go_ret2
    exact planned_no HX.out hb

  have h2' : (T.check x.s != 0) = false := by simp [bne, h2]
  cases h3 : decide (x.nd ≤ x.s.depot)
  rotate_left
  · have h3' : x.nd ≤ x.s.depot := of_decide_eq_true h3
    have HX := Lib.hid (show K.ok31 x.nd x.l x.s x.r v = false by simp [K.ok31]; intros; omega)
    go_wp2_with fail
    go_ret2
    exact planned_no HX.out hb

  have h3' : ¬ x.nd ≤ x.s.depot := of_decide_eq_false h3
  go_wp2_with fail
  refine (containsP x.B x.m x.d x.r _ (hx.below hb).reqs hx.b3 hx.b4).mono ?_
  rintro e w3 ⟨rfl, b3⟩
  have hP := hP.below b3
  have hS := hS.below b3
  have hb := bel hb b3
  clear b3 s0 s1 s2 s3 s4 s5 p0
  obtain ⟨s0, s1, s2, s3, s4, s5⟩ := hS.cells
  cases h4 : (x.r.any fun q => !T.right q)
  rotate_left
  · have HX := Lib.hid (show K.ok31 x.nd x.l x.s x.r v = false by simp only [K.ok31, h4]; simp)
    go_wp2_with fail
    go_ret2
    exact planned_no HX.out hb

  cases h5 : decide ((6 : Int) < (vn : Int))
  rotate_left
  · have h5' : 6 < vn := by have := of_decide_eq_true h5; omega
    have HX := Lib.hid (show K.ok31 x.nd x.l x.s x.r v = false by simp [K.ok31]; intros; have := hV.1; omega)
    go_wp2_with fail
    go_ret2
    exact planned_no HX.out hb

  have h5' : vn ≤ 6 := by have := of_decide_eq_false h5; omega
  have HX := Lib.hid (show K.ok31 x.nd x.l x.s x.r v = K.setGo x.nd x.r (-1) v by
    simp only [K.ok31, h1, h2, h4]
    simp [show x.s.depot < x.nd by omega, show v.length ≤ 6 by have := hV.1; omega])
  clear h1 h2 h3 h4
  have HLN := Lib.hid hV.1
  go_wp2_with fail
  go_loopw [40] (fun v40 wr => ∃ k : Nat, v40 = .int .i64 k ∧ k ≤ vn ∧ Hid (K.ok31 x.nd x.l x.s x.r v = K.setGo x.nd x.r (K.prev v k) (v.drop k)) ∧ Below w3.heap.size w3 wr) (fun v40 _ => vn - (intOf v40).toNat)
  case atStart => exact ⟨0, rfl, by omega, HX.out, Below.refl _ _⟩
  case round =>
    clear HX s0 s1 s2 s3 s4 s5
    obtain ⟨k, rfl, hk, hr, hbr⟩ := hrel
    have hbw := bel hb hbr
    have hPr := hP.below hbr
    have p0 := hPr.c0
    by_cases hlt : k < vn
    · obtain ⟨adv, i, rfl, hi, ci⟩ := (hV.below hbw).at_ hlt
      have HR := Lib.hid (show K.ok31 x.nd x.l x.s x.r v = _ from hr.out.trans (K.setGo_at hi (K.prev v k)))
      have HNX := Lib.hid (show K.prev v (k + 1) = i by simp [K.prev, hi])
      have HI := Lib.hid hi
      clear hi hr
      have k0 : (0 : Int) ≤ (k : Int) := by omega
      have k1 : (k : Int) < (vn : Int) := by omega
      cases c1 : decide (i < 0)
      rotate_left
      · have HX := Lib.hid (show K.ok31 x.nd x.l x.s x.r v = false by rw [HR.out]; have := of_decide_eq_true c1; simp; omega)
        go_wp2_with fail
        go_quiet (fail)
        go_wp2_with fail
        go_ret2
        exact planned_no HX.out (below_drewN hbw _)
      have hi0 : ¬ i < 0 := of_decide_eq_false c1
      obtain ⟨j, rfl⟩ : ∃ j : Nat, i = (j : Int) := ⟨i.toNat, by omega⟩
      cases c2 : decide (x.m ≤ j)
      rotate_left
      · have c2' : decide ((x.m : Int) ≤ (j : Int)) = true := by simpa using c2
        have HX := Lib.hid (show K.ok31 x.nd x.l x.s x.r v = false by rw [HR.out]; have := of_decide_eq_true c2; have := hx.reqs.1; simp; omega)
        go_wp2_with fail
        go_quiet (fail)
        go_wp2_with fail
        go_ret2
        exact planned_no HX.out (below_drewN hbw _)
      have c2' : decide ((x.m : Int) ≤ (j : Int)) = false := by simpa using c2
      have hjm : j < x.m := by have := of_decide_eq_false c2; omega
      obtain ⟨ad, q, hB, hgq, -, e0, -⟩ := (hx.reqs.below hbw).at_ hjm
      have HRQ := Lib.hid (K.req_get hgq)
      have j0 : (0 : Int) ≤ (j : Int) := by omega
      have j1 : (j : Int) < (x.m : Int) := by omega
      have hrl : x.m = x.r.length := hx.reqs.1
      have HRL := Lib.hid hrl
      clear hgq hrl
      rw [hB]
      cases c5 : decide (x.nd ≤ q.node)
      · have h5 : ¬ x.nd ≤ q.node := of_decide_eq_false c5
        rcases Nat.eq_zero_or_pos k with hk0 | hk0
        · have k2 : decide ((0 : Int) < (k : Int)) = false := by simp; omega
          have k2n : decide (0 < k) = false := by simp; omega
          have HK0 := Lib.hid hk0
          clear hk0
          have HN := Lib.hid (show K.ok31 x.nd x.l x.s x.r v = K.setGo x.nd x.r (K.prev v (k + 1)) (v.drop (k + 1)) by
            rw [HR.out, HRQ.out, HNX.out, show K.prev v k = -1 by rw [HK0.out]; rfl]; simp [show j < x.r.length by rw [← HRL.out]; exact hjm, show q.node < x.nd by omega, show (-1 : Int) < (j : Int) by omega])
          go_wp2_with fail
          go_quiet (fail)
          go_wp2_with fail
          go_roundw
          case rel => exact ⟨k + 1, by go_num, by omega, HN.out, below_drewN hbr _⟩
          case measure => simp [intOf]; omega
        · obtain ⟨kp, hkp⟩ : ∃ kp : Nat, k = kp + 1 := ⟨k - 1, by omega⟩
          obtain ⟨adp, pv, ep, hp, cp⟩ := (hV.below hbw).at_ (k := kp) (by omega)
          injection ep with ep
          subst ep
          have HPV := Lib.hid (show K.prev v k = pv by rw [hkp]; simp [K.prev, hp])
          have k2 : decide ((0 : Int) < (k : Int)) = true := by simp; omega
          have k2n : decide (0 < k) = true := by simp; omega
          have k3 : IntKind.i64.wrap ((k : Int) - 1) = (kp : Int) := by rw [IntWalk.i64_in _ (by omega)]; omega
          have k4 : (kp : Int) < (vn : Int) := by omega
          have k5 : (0 : Int) ≤ (kp : Int) := by omega
          have HKP := Lib.hid hkp
          clear hp hkp
          cases c4 : decide ((j : Int) ≤ pv)
          · have HN := Lib.hid (show K.ok31 x.nd x.l x.s x.r v = K.setGo x.nd x.r (K.prev v (k + 1)) (v.drop (k + 1)) by
              have := of_decide_eq_false c4
              rw [HR.out, HRQ.out, HNX.out, HPV.out]; simp [show j < x.r.length by rw [← HRL.out]; exact hjm, show q.node < x.nd by omega, show pv < (j : Int) by omega])
            go_wp2_with fail
            go_quiet (fail)
            go_wp2_with fail
            go_roundw
            case rel => exact ⟨k + 1, by go_num, by omega, HN.out, below_drewN hbr _⟩
            case measure => simp [intOf]; omega
          · have HX := Lib.hid (show K.ok31 x.nd x.l x.s x.r v = false by rw [HR.out, HPV.out]; have := of_decide_eq_true c4; simp; omega)
            go_wp2_with fail
            go_quiet (fail)
            go_wp2_with fail
            go_ret2
            exact planned_no HX.out (below_drewN hbw _)
      · have HX := Lib.hid (show K.ok31 x.nd x.l x.s x.r v = false by rw [HR.out, HRQ.out]; have := of_decide_eq_true c5; simp; omega)
        rcases Nat.eq_zero_or_pos k with hk0 | hk0
        · have k2 : decide ((0 : Int) < (k : Int)) = false := by simp; omega
          have k2n : decide (0 < k) = false := by simp; omega
          have HK0 := Lib.hid hk0
          clear hk0
          go_wp2_with fail
          go_quiet (fail)
          go_wp2_with fail
          go_ret2
          exact planned_no HX.out (below_drewN hbw _)
        · obtain ⟨kp, hkp⟩ : ∃ kp : Nat, k = kp + 1 := ⟨k - 1, by omega⟩
          obtain ⟨adp, pv, ep, hp, cp⟩ := (hV.below hbw).at_ (k := kp) (by omega)
          injection ep with ep
          subst ep
          have k2 : decide ((0 : Int) < (k : Int)) = true := by simp; omega
          have k2n : decide (0 < k) = true := by simp; omega
          have k3 : IntKind.i64.wrap ((k : Int) - 1) = (kp : Int) := by rw [IntWalk.i64_in _ (by omega)]; omega
          have k4 : (kp : Int) < (vn : Int) := by omega
          have k5 : (0 : Int) ≤ (kp : Int) := by omega
          have HKP := Lib.hid hkp
          clear hp hkp
          cases c4 : decide ((j : Int) ≤ pv)
          all_goals
            go_wp2_with fail
            go_quiet (fail)
            go_wp2_with fail
            go_ret2
            exact planned_no HX.out (below_drewN hbw _)
    · have HN := Lib.hid (show K.ok31 x.nd x.l x.s x.r v = true by rw [hr.out, List.drop_eq_nil_of_le (by rw [← HLN.out]; omega)]; rfl)
      have hSr := hS.below hbr
      have p1 := hPr.c1
      obtain ⟨s0, s1, s2, s3, s4, s5⟩ := hSr.cells
      have hmm := @run_makeMap Try.prog
      have bm : Below wr.heap.size wr (wr.alloc (.map #[] 0)) := (Below.refl _ _).alloc (Nat.le_refl _) _
      have hM : ∀ X, Memo (wr.alloc (.map #[] 0)) wr.heap.size x.nd x.l X := fun X => ⟨#[], 0, heap_alloc_new _ _, fun e he => by simp at he⟩
      have hz : (wr.alloc (.map #[] 0)).heap.size = wr.heap.size + 1 := World.size_alloc _ _
      have HZ := Lib.hid hz
      clear hz
      obtain ⟨wm, hwm⟩ : ∃ wm : World, wm = wr.alloc (.map #[] 0) := ⟨_, rfl⟩
      rw [← hwm] at bm hM HZ
      have hPm := hPr.below bm
      have hSm := hSr.below bm
      have hbm := bel hbw bm
      have hs9 := hbw.size
      go_wp2_with fail
      rw [← hwm, ← HZ.out]
      go_ret2
      clear hwm hmm
      have b9 : Below wm.heap.size wm (wm.alloc (.cells #[.int .i64 x.nd, .slice x.A x.n x.c, .int .i64 x.s.day, .int .i64 x.s.depot, .int .i64 x.s.start, .int .i64 x.s.end_, .int .i64 x.s.tare, .slice x.s.A x.s.n x.s.c, .slice x.B x.m x.d, .slice V vn vc, .map (some wr.heap.size)] 156)) := (Below.refl _ _).alloc (Nat.le_refl _) _
      refine ⟨.inr ⟨wm.heap.size, wr.heap.size, rfl, by rw [HZ.out]; omega, hs9, fun X => ?_⟩, bel hbm b9⟩
      exact ⟨(hx.below (bel hbm b9)), hV.below (bel hbm b9), heap_alloc_new _ _, (hM X).below b9, HN.out, hvc⟩
end Go.Proofs.Ytippdjmpkafifaa
