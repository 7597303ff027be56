import Derived.Test.YtippdjmpkafifaaGreatAQ8
import Derived.Test.YtippdjmpkafifaaGreatAQ7
import Derived.Test.YtippdjmpkafifaaGreatAQ6
import Derived.Test.YtippdjmpkafifaaGreatAQ3
import Derived.Lib.LazyBuf
import Derived.Deep.RegionHeld3
import Derived.Deep.RegionWith
/-
Plans: the walks of FewTours and FewBlocks (reference).
Plans: the walk of Few (reference).
Plans: the walk of SameInts (reference).
Plans: the walk of SameTours (reference).
Plans, plain: what is small.
Plans: the walk of the example.
-/
namespace Go.Proofs.YtippdjmpkafifaaGreat
open Go.RowKit

set_option maxRecDepth 100000 in
set_option maxHeartbeats 4000000 in
theorem fewTours_any (A : Option Addr) (n c : Nat) (ts : List TV) (w : World) (hT : Tours w A n ts) :
    Calls Tryz.prog 18 #[.slice A n c] w fun e w' => (∃ z, e = .returned (.bool z) ∧ (z = true → n ≤ 6 ∧ ∀ y ∈ ts, y.n ≤ 10 ∧ y.n' ≤ 10)) ∧ Below w.heap.size w w' := by
  go_enter Tryz.func18, Tryz.ntmps18
  go_wp2_with fail
  go_loopw [3] (fun v3 wr => ∃ k : Nat, v3 = .int .i64 k ∧ k ≤ n ∧ k ≤ 6 ∧ (∀ (i : Nat) (y : TV), ts[i]? = some y → i < k → y.n ≤ 10 ∧ y.n' ≤ 10) ∧ Below w.heap.size w wr) (fun v3 _ => n - (intOf v3).toNat)
  case atStart => exact ⟨0, rfl, by omega, by omega, fun i y _ h => absurd h (by omega), Below.refl _ _⟩
  case round =>
    obtain ⟨k, rfl, hk, hk6, hf, hW⟩ := hrel
    by_cases hlt : k < n ∧ k < 6
    · obtain ⟨hlt, hl6⟩ := hlt
      obtain ⟨ad, y, rfl, hg, -, t0, t1, t2, t3⟩ := (hT.below hW).at_ hlt
      have k0 : (0 : Int) ≤ (k : Int) := by omega
      have k1 : (k : Int) < (n : Int) := by omega
      have k2 : decide ((k : Int) < (n : Int)) = true := by simp; omega
      have k3 : decide ((k : Int) < 6) = true := by simp; omega
      have ks : IntKind.i64.wrap ((k : Int) + 1) = ((k + 1 : Nat) : Int) := by rw [IntWalk.i64_in _ (by omega)]; omega
      have HG := Lib.hid hg
      clear hg
      by_cases h1 : 10 < y.n
      · have d1 : decide ((10 : Int) < (y.n : Int)) = true := by simp; omega
        have d2 : decide (10 < y.n) = true := by simp; omega
        clear h1
        go_wp2_with fail
        go_ret
        exact ⟨⟨false, rfl, fun h => (by cases h)⟩, hW⟩
      · have d1 : decide ((10 : Int) < (y.n : Int)) = false := by simp; omega
        have d2 : decide (10 < y.n) = false := by simp; omega
        by_cases h2 : 10 < y.n'
        · have d3 : decide ((10 : Int) < (y.n' : Int)) = true := by simp; omega
          have d4 : decide (10 < y.n') = true := by simp; omega
          clear h1 h2
          go_wp2_with fail
          go_ret
          exact ⟨⟨false, rfl, fun h => (by cases h)⟩, hW⟩
        · have d3 : decide ((10 : Int) < (y.n' : Int)) = false := by simp; omega
          have d4 : decide (10 < y.n') = false := by simp; omega
          have H12 := Lib.hid (show y.n ≤ 10 ∧ y.n' ≤ 10 by omega)
          clear h1 h2
          go_wp2_with fail
          go_roundw
          case rel =>
            refine ⟨k + 1, by go_num, by omega, by omega, fun i z hz hi => ?_, hW⟩
            by_cases e : i = k
            · rw [e, HG.out] at hz
              injection hz with hz
              rw [← hz]
              exact H12.out
            · exact hf i z hz (by omega)
          case measure => simp [intOf]; omega
    · have HF := Lib.hid (show n ≤ 6 → ∀ y ∈ ts, y.n ≤ 10 ∧ y.n' ≤ 10 from fun h y hy => by
        obtain ⟨i, hi, e⟩ := List.mem_iff_getElem.1 hy
        have := hT.1.1
        exact hf i y (by rw [List.getElem?_eq_getElem hi, e]) (by omega))
      by_cases hkn : k < n
      · have k2 : decide ((k : Int) < (n : Int)) = true := by simp; omega
        have k2' : decide (k < n) = true := by simp; omega
        have k3 : decide ((k : Int) < 6) = false := by simp; omega
        have hlt' : ¬ k < 6 := fun h => hlt ⟨hkn, h⟩
        have HZ := Lib.hid (show decide ((n : Int) ≤ 6) = false by simp; omega)
        clear hlt hkn hlt'
        go_wp2_with fail
        go_ret
        exact ⟨⟨_, rfl, fun h => absurd (h.symm.trans (by first | exact HZ.out | (have h9 := HZ.out; simp at h9 ⊢; omega))) (by decide)⟩, hW⟩
      · have k2 : decide ((k : Int) < (n : Int)) = false := by simp; omega
        have k2' : decide (k < n) = false := by simp; omega
        clear hlt hkn
        go_wp2_with fail
        go_ret
        exact ⟨⟨_, rfl, fun h => (by have h9 : n ≤ 6 := (by simp at h; omega); exact ⟨h9, HF.out h9⟩)⟩, hW⟩

set_option maxRecDepth 100000 in
set_option maxHeartbeats 4000000 in
theorem fewBlocks_any (A : Option Addr) (n c : Nat) (ts : List BV) (w : World) (hT : Blks w A n ts) :
    Calls Tryz.prog 19 #[.slice A n c] w fun e w' => (∃ z, e = .returned (.bool z) ∧ (z = true → n ≤ 202 ∧ ∀ y ∈ ts, y.vn ≤ 6 ∧ y.ln ≤ 60)) ∧ Below w.heap.size w w' := by
  go_enter Tryz.func19, Tryz.ntmps19
  go_wp2_with fail
  go_loopw [3] (fun v3 wr => ∃ k : Nat, v3 = .int .i64 k ∧ k ≤ n ∧ k ≤ 210 ∧ (∀ (i : Nat) (y : BV), ts[i]? = some y → i < k → y.vn ≤ 6 ∧ y.ln ≤ 60) ∧ Below w.heap.size w wr) (fun v3 _ => n - (intOf v3).toNat)
  case atStart => exact ⟨0, rfl, by omega, by omega, fun i y _ h => absurd h (by omega), Below.refl _ _⟩
  case round =>
    obtain ⟨k, rfl, hk, hk6, hf, hW⟩ := hrel
    by_cases hlt : k < n ∧ k < 210
    · obtain ⟨hlt, hl6⟩ := hlt
      obtain ⟨ad, y, rfl, hg, -, c0, c1, c2⟩ := (hT.below hW).at_ hlt
      have k0 : (0 : Int) ≤ (k : Int) := by omega
      have k1 : (k : Int) < (n : Int) := by omega
      have k2 : decide ((k : Int) < (n : Int)) = true := by simp; omega
      have k3 : decide ((k : Int) < 210) = true := by simp; omega
      have ks : IntKind.i64.wrap ((k : Int) + 1) = ((k + 1 : Nat) : Int) := by rw [IntWalk.i64_in _ (by omega)]; omega
      have HG := Lib.hid hg
      clear hg
      by_cases h1 : 6 < y.vn
      · have d1 : decide ((6 : Int) < (y.vn : Int)) = true := by simp; omega
        have d2 : decide (6 < y.vn) = true := by simp; omega
        clear h1
        go_wp2_with fail
        go_ret
        exact ⟨⟨false, rfl, fun h => (by cases h)⟩, hW⟩
      · have d1 : decide ((6 : Int) < (y.vn : Int)) = false := by simp; omega
        have d2 : decide (6 < y.vn) = false := by simp; omega
        by_cases h2 : 60 < y.ln
        · have d3 : decide ((60 : Int) < (y.ln : Int)) = true := by simp; omega
          have d4 : decide (60 < y.ln) = true := by simp; omega
          clear h1 h2
          go_wp2_with fail
          go_ret
          exact ⟨⟨false, rfl, fun h => (by cases h)⟩, hW⟩
        · have d3 : decide ((60 : Int) < (y.ln : Int)) = false := by simp; omega
          have d4 : decide (60 < y.ln) = false := by simp; omega
          have H12 := Lib.hid (show y.vn ≤ 6 ∧ y.ln ≤ 60 by omega)
          clear h1 h2
          go_wp2_with fail
          go_roundw
          case rel =>
            refine ⟨k + 1, by go_num, by omega, by omega, fun i z hz hi => ?_, hW⟩
            by_cases e : i = k
            · rw [e, HG.out] at hz
              injection hz with hz
              rw [← hz]
              exact H12.out
            · exact hf i z hz (by omega)
          case measure => simp [intOf]; omega
    · have HF := Lib.hid (show n ≤ 202 → ∀ y ∈ ts, y.vn ≤ 6 ∧ y.ln ≤ 60 from fun h y hy => by
        obtain ⟨i, hi, e⟩ := List.mem_iff_getElem.1 hy
        have := hT.1.1
        exact hf i y (by rw [List.getElem?_eq_getElem hi, e]) (by omega))
      by_cases hkn : k < n
      · have hb : ¬ k < 210 := fun h => hlt ⟨hkn, h⟩
        have k2 : decide ((k : Int) < (n : Int)) = true := by simp; omega
        have k2' : decide (k < n) = true := by simp; omega
        have k3 : decide ((k : Int) < 210) = false := by simp; omega
        have k3' : decide (k < 210) = false := by simp; omega
        have d12i : decide ((n : Int) ≤ 12) = false := by simp; omega
        have d12n : decide (n ≤ 12) = false := by simp; omega
        have d200i : decide (200 < (n : Int)) = true := by simp; omega
        have d200n : decide (200 < n) = true := by simp; omega
        have d202i : decide ((n : Int) ≤ 202) = false := by simp; omega
        have d202n : decide (n ≤ 202) = false := by simp; omega
        have HF2 := Lib.hid (show True from trivial)
        clear hlt hkn hb
        go_wp2_with fail
        go_ret
        exact ⟨⟨false, rfl, fun h => (by cases h)⟩, hW⟩
      by_cases hb : n ≤ 12
      · have k2 : decide ((k : Int) < (n : Int)) = false := by simp; omega
        have k2' : decide (k < n) = false := by simp; omega
        have d12i : decide ((n : Int) ≤ 12) = true := by simp; omega
        have d12n : decide (n ≤ 12) = true := by simp; omega
        have HF2 := Lib.hid (show n ≤ 202 from by omega)
        clear hlt hkn hb
        go_wp2_with fail
        go_ret
        exact ⟨⟨true, rfl, fun _ => ⟨HF2.out, HF.out HF2.out⟩⟩, hW⟩
      by_cases hb : n ≤ 200
      · have k2 : decide ((k : Int) < (n : Int)) = false := by simp; omega
        have k2' : decide (k < n) = false := by simp; omega
        have d12i : decide ((n : Int) ≤ 12) = false := by simp; omega
        have d12n : decide (n ≤ 12) = false := by simp; omega
        have d200i : decide (200 < (n : Int)) = false := by simp; omega
        have d200n : decide (200 < n) = false := by simp; omega
        have HF2 := Lib.hid (show True from trivial)
        clear hlt hkn hb
        go_wp2_with fail
        go_ret
        exact ⟨⟨false, rfl, fun h => (by cases h)⟩, hW⟩
      by_cases hb : n ≤ 202
      · have k2 : decide ((k : Int) < (n : Int)) = false := by simp; omega
        have k2' : decide (k < n) = false := by simp; omega
        have d12i : decide ((n : Int) ≤ 12) = false := by simp; omega
        have d12n : decide (n ≤ 12) = false := by simp; omega
        have d200i : decide (200 < (n : Int)) = true := by simp; omega
        have d200n : decide (200 < n) = true := by simp; omega
        have d202i : decide ((n : Int) ≤ 202) = true := by simp; omega
        have d202n : decide (n ≤ 202) = true := by simp; omega
        have HF2 := Lib.hid (show n ≤ 202 from by omega)
        clear hlt hkn hb
        go_wp2_with fail
        go_ret
        exact ⟨⟨true, rfl, fun _ => ⟨HF2.out, HF.out HF2.out⟩⟩, hW⟩
      · have k2 : decide ((k : Int) < (n : Int)) = false := by simp; omega
        have k2' : decide (k < n) = false := by simp; omega
        have d12i : decide ((n : Int) ≤ 12) = false := by simp; omega
        have d12n : decide (n ≤ 12) = false := by simp; omega
        have d200i : decide (200 < (n : Int)) = true := by simp; omega
        have d200n : decide (200 < n) = true := by simp; omega
        have d202i : decide ((n : Int) ≤ 202) = false := by simp; omega
        have d202n : decide (n ≤ 202) = false := by simp; omega
        have HF2 := Lib.hid (show True from trivial)
        clear hlt hkn hb
        go_wp2_with fail
        go_ret
        exact ⟨⟨false, rfl, fun h => (by cases h)⟩, hW⟩


end Go.Proofs.YtippdjmpkafifaaGreat
namespace Go.Proofs.YtippdjmpkafifaaGreat
open Go.RowKit
namespace K
def zeroS : S := ⟨0, 0, 0, 0, 0, none, 0, 0, []⟩
def fewM (n a b c : Nat) : Bool := (decide (a < n) && decide (n ≤ b)) || decide (c < n)
/-- What is not too much for a draw. -/
def few32 (x : Cs) : Bool := few27 x.nd x.n && (!(fewM x.sn 2 4 6) && (!(fewM x.m 4 6 8) && (x.ss.all (fun s => T.few s x.r 8) && T.few zeroS x.r 8)))
end K
set_option maxRecDepth 100000 in
set_option maxHeartbeats 8000000 in
theorem few9_any (x : Cs) (w : World) (hSS : Shifts w x.SA x.sn x.ss) (hRR : Reqs w x.B x.m x.r) :
    Calls Tryz.prog 17 #[.agg #[.int .i64 x.nd, .slice x.A x.n x.c], .slice x.SA x.sn x.sc, .slice x.B x.m x.d] w fun e w' => e = .returned (.bool (K.few32 x)) ∧ Below w.heap.size w w' := by
  have hN := Net.new w x.nd x.A x.n x.c
  have p0 := hN.c0
  have p1 := hN.c1
  have b0 : Below w.heap.size w (w.alloc (.cells #[.int .i64 x.nd, .slice x.A x.n x.c] 24)) := (Below.refl _ _).alloc (Nat.le_refl _) _
  have C27 := rfew27_any x.nd x.A x.n x.c (w.alloc (.cells #[.int .i64 x.nd, .slice x.A x.n x.c] 24))
  obtain ⟨f27, hf27⟩ : ∃ f27, f27 = K.few27 x.nd x.n := ⟨_, rfl⟩
  rw [← hf27] at C27
  have HF27 := Lib.hid hf27
  clear hf27
  go_enter Tryz.func17, Tryz.ntmps17
  go_wp2_with fail
  refine C27.mono ?_
  rintro e w1 ⟨rfl, b1⟩
  have hb1 := bel b0 b1
  clear C27 b0 b1 p0 p1 hN
  cases f27 with
  | false =>
    have HX := Lib.hid (show K.few32 x = false by unfold K.few32; rw [← HF27.out]; rfl)
    go_wp2_with fail
    go_ret
    exact ⟨by rw [HX.out]; rfl, hb1⟩
  | true =>
    by_cases h1 : x.sn ≤ 2
    · have s1i : decide (2 < ((x.sn : Nat) : Int)) = false := by simp; omega
      have s1n : decide (2 < x.sn) = false := by simp; omega
      have s3i : decide (6 < ((x.sn : Nat) : Int)) = false := by simp; omega
      have s3n : decide (6 < x.sn) = false := by simp; omega
      by_cases h2 : x.m ≤ 4
      · have m1i : decide (4 < ((x.m : Nat) : Int)) = false := by simp; omega
        have m1n : decide (4 < x.m) = false := by simp; omega
        have m3i : decide (8 < ((x.m : Nat) : Int)) = false := by simp; omega
        have m3n : decide (8 < x.m) = false := by simp; omega
        have HH := Lib.hid (show K.few32 x = (x.ss.all (fun s => T.few s x.r 8) && T.few K.zeroS x.r 8) by
          have e1 : K.fewM x.sn 2 4 6 = false := by unfold K.fewM; simp; omega
          have e2 : K.fewM x.m 4 6 8 = false := by unfold K.fewM; simp; omega
          unfold K.few32; rw [← HF27.out, e1, e2]; rfl)
        have hsn9 : x.sn ≤ 1000000000 := by omega
        clear h1 h2
        go_wp2_with fail
        go_loopw [7] (fun v7 wr => ∃ k : Nat, v7 = .int .i64 k ∧ k ≤ x.sn ∧ Hid (K.few32 x = ((x.ss.drop k).all (fun s => T.few s x.r 8) && T.few K.zeroS x.r 8)) ∧ Below w.heap.size w wr) (fun v7 _ => x.sn - (intOf v7).toNat)
        case atStart => exact ⟨0, rfl, by omega, by show _ = _; rw [List.drop_zero]; exact HH.out, hb1⟩
        case round =>
          obtain ⟨k, rfl, hk, hr, hW⟩ := hrel
          by_cases hlt : k < x.sn
          · obtain ⟨ad, s, hA, hg, -, c0, c1, c2, c3, c4, c5⟩ := (hSS.below hW).at_ hlt
            rw [hA]
            have HA := Lib.hid hA
            have HD := Lib.hid (drop_all (p := fun s => T.few s x.r 8) hg)
            have CF := few_any s x.B x.m x.d x.r 8 wr (hRR.below hW) (by omega)
            obtain ⟨z, hz⟩ : ∃ z, z = T.few s x.r 8 := ⟨_, rfl⟩
            rw [← hz] at CF
            have HZ := Lib.hid hz
            have k0 : (0 : Int) ≤ (k : Int) := by omega
            have k1 : (k : Int) < (x.sn : Int) := by omega
            clear hz hg hA
            go_wp2_with fail
            refine CF.mono ?_
            rintro e w2 ⟨rfl, b2⟩
            have hb2 := bel hW b2
            clear CF c0 c1 c2 c3 c4 c5
            cases z with
            | false =>
              go_wp2_with fail
              go_ret
              exact ⟨by rw [hr.out, HD.out, ← HZ.out]; rfl, hb2⟩
            | true =>
              go_wp2_with fail
              go_roundw
              case rel => exact ⟨k + 1, by go_num, by omega, by show _ = _; rw [hr.out, HD.out, ← HZ.out, Bool.true_and], hb2⟩
              case measure => simp [intOf]; omega
          · have HE := Lib.hid (show K.few32 x = T.few K.zeroS x.r 8 by rw [hr.out, List.drop_eq_nil_of_le (by rw [← hSS.1.1]; omega)]; rfl)
            have CZ := few_any K.zeroS x.B x.m x.d x.r 8 wr (hRR.below hW) (by omega)
            have k2 : decide ((k : Int) < (x.sn : Int)) = false := by simp; omega
            have k2' : decide (k < x.sn) = false := by simp; omega
            clear hlt
            go_wp2_with fail
            refine CZ.mono ?_
            rintro e w2 ⟨rfl, b2⟩
            go_wp2_with fail
            go_ret
            exact ⟨by rw [HE.out]; rfl, bel hW b2⟩
      by_cases h2 : x.m ≤ 6
      · have m1i : decide (4 < ((x.m : Nat) : Int)) = true := by simp; omega
        have m1n : decide (4 < x.m) = true := by simp; omega
        have m2i : decide (((x.m : Nat) : Int) ≤ 6) = true := by simp; omega
        have m2n : decide (x.m ≤ 6) = true := by simp; omega
        have HX := Lib.hid (show K.few32 x = false by unfold K.few32 K.fewM; simp; omega)
        go_wp2_with fail
        go_ret
        exact ⟨by rw [HX.out]; rfl, hb1⟩
      by_cases h2 : x.m ≤ 8
      · have m1i : decide (4 < ((x.m : Nat) : Int)) = true := by simp; omega
        have m1n : decide (4 < x.m) = true := by simp; omega
        have m2i : decide (((x.m : Nat) : Int) ≤ 6) = false := by simp; omega
        have m2n : decide (x.m ≤ 6) = false := by simp; omega
        have m3i : decide (8 < ((x.m : Nat) : Int)) = false := by simp; omega
        have m3n : decide (8 < x.m) = false := by simp; omega
        have HH := Lib.hid (show K.few32 x = (x.ss.all (fun s => T.few s x.r 8) && T.few K.zeroS x.r 8) by
          have e1 : K.fewM x.sn 2 4 6 = false := by unfold K.fewM; simp; omega
          have e2 : K.fewM x.m 4 6 8 = false := by unfold K.fewM; simp; omega
          unfold K.few32; rw [← HF27.out, e1, e2]; rfl)
        have hsn9 : x.sn ≤ 1000000000 := by omega
        clear h1 h2
        go_wp2_with fail
        go_loopw [7] (fun v7 wr => ∃ k : Nat, v7 = .int .i64 k ∧ k ≤ x.sn ∧ Hid (K.few32 x = ((x.ss.drop k).all (fun s => T.few s x.r 8) && T.few K.zeroS x.r 8)) ∧ Below w.heap.size w wr) (fun v7 _ => x.sn - (intOf v7).toNat)
        case atStart => exact ⟨0, rfl, by omega, by show _ = _; rw [List.drop_zero]; exact HH.out, hb1⟩
        case round =>
          obtain ⟨k, rfl, hk, hr, hW⟩ := hrel
          by_cases hlt : k < x.sn
          · obtain ⟨ad, s, hA, hg, -, c0, c1, c2, c3, c4, c5⟩ := (hSS.below hW).at_ hlt
            rw [hA]
            have HA := Lib.hid hA
            have HD := Lib.hid (drop_all (p := fun s => T.few s x.r 8) hg)
            have CF := few_any s x.B x.m x.d x.r 8 wr (hRR.below hW) (by omega)
            obtain ⟨z, hz⟩ : ∃ z, z = T.few s x.r 8 := ⟨_, rfl⟩
            rw [← hz] at CF
            have HZ := Lib.hid hz
            have k0 : (0 : Int) ≤ (k : Int) := by omega
            have k1 : (k : Int) < (x.sn : Int) := by omega
            clear hz hg hA
            go_wp2_with fail
            refine CF.mono ?_
            rintro e w2 ⟨rfl, b2⟩
            have hb2 := bel hW b2
            clear CF c0 c1 c2 c3 c4 c5
            cases z with
            | false =>
              go_wp2_with fail
              go_ret
              exact ⟨by rw [hr.out, HD.out, ← HZ.out]; rfl, hb2⟩
            | true =>
              go_wp2_with fail
              go_roundw
              case rel => exact ⟨k + 1, by go_num, by omega, by show _ = _; rw [hr.out, HD.out, ← HZ.out, Bool.true_and], hb2⟩
              case measure => simp [intOf]; omega
          · have HE := Lib.hid (show K.few32 x = T.few K.zeroS x.r 8 by rw [hr.out, List.drop_eq_nil_of_le (by rw [← hSS.1.1]; omega)]; rfl)
            have CZ := few_any K.zeroS x.B x.m x.d x.r 8 wr (hRR.below hW) (by omega)
            have k2 : decide ((k : Int) < (x.sn : Int)) = false := by simp; omega
            have k2' : decide (k < x.sn) = false := by simp; omega
            clear hlt
            go_wp2_with fail
            refine CZ.mono ?_
            rintro e w2 ⟨rfl, b2⟩
            go_wp2_with fail
            go_ret
            exact ⟨by rw [HE.out]; rfl, bel hW b2⟩
      · have m1i : decide (4 < ((x.m : Nat) : Int)) = true := by simp; omega
        have m1n : decide (4 < x.m) = true := by simp; omega
        have m2i : decide (((x.m : Nat) : Int) ≤ 6) = false := by simp; omega
        have m2n : decide (x.m ≤ 6) = false := by simp; omega
        have m3i : decide (8 < ((x.m : Nat) : Int)) = true := by simp; omega
        have m3n : decide (8 < x.m) = true := by simp; omega
        have HX := Lib.hid (show K.few32 x = false by unfold K.few32 K.fewM; simp; omega)
        go_wp2_with fail
        go_ret
        exact ⟨by rw [HX.out]; rfl, hb1⟩
    by_cases h1 : x.sn ≤ 4
    · have s1i : decide (2 < ((x.sn : Nat) : Int)) = true := by simp; omega
      have s1n : decide (2 < x.sn) = true := by simp; omega
      have s2i : decide (((x.sn : Nat) : Int) ≤ 4) = true := by simp; omega
      have s2n : decide (x.sn ≤ 4) = true := by simp; omega
      have HX := Lib.hid (show K.few32 x = false by unfold K.few32 K.fewM; simp; omega)
      go_wp2_with fail
      go_ret
      exact ⟨by rw [HX.out]; rfl, hb1⟩
    by_cases h1 : x.sn ≤ 6
    · have s1i : decide (2 < ((x.sn : Nat) : Int)) = true := by simp; omega
      have s1n : decide (2 < x.sn) = true := by simp; omega
      have s2i : decide (((x.sn : Nat) : Int) ≤ 4) = false := by simp; omega
      have s2n : decide (x.sn ≤ 4) = false := by simp; omega
      have s3i : decide (6 < ((x.sn : Nat) : Int)) = false := by simp; omega
      have s3n : decide (6 < x.sn) = false := by simp; omega
      by_cases h2 : x.m ≤ 4
      · have m1i : decide (4 < ((x.m : Nat) : Int)) = false := by simp; omega
        have m1n : decide (4 < x.m) = false := by simp; omega
        have m3i : decide (8 < ((x.m : Nat) : Int)) = false := by simp; omega
        have m3n : decide (8 < x.m) = false := by simp; omega
        have HH := Lib.hid (show K.few32 x = (x.ss.all (fun s => T.few s x.r 8) && T.few K.zeroS x.r 8) by
          have e1 : K.fewM x.sn 2 4 6 = false := by unfold K.fewM; simp; omega
          have e2 : K.fewM x.m 4 6 8 = false := by unfold K.fewM; simp; omega
          unfold K.few32; rw [← HF27.out, e1, e2]; rfl)
        have hsn9 : x.sn ≤ 1000000000 := by omega
        clear h1 h2
        go_wp2_with fail
        go_loopw [7] (fun v7 wr => ∃ k : Nat, v7 = .int .i64 k ∧ k ≤ x.sn ∧ Hid (K.few32 x = ((x.ss.drop k).all (fun s => T.few s x.r 8) && T.few K.zeroS x.r 8)) ∧ Below w.heap.size w wr) (fun v7 _ => x.sn - (intOf v7).toNat)
        case atStart => exact ⟨0, rfl, by omega, by show _ = _; rw [List.drop_zero]; exact HH.out, hb1⟩
        case round =>
          obtain ⟨k, rfl, hk, hr, hW⟩ := hrel
          by_cases hlt : k < x.sn
          · obtain ⟨ad, s, hA, hg, -, c0, c1, c2, c3, c4, c5⟩ := (hSS.below hW).at_ hlt
            rw [hA]
            have HA := Lib.hid hA
            have HD := Lib.hid (drop_all (p := fun s => T.few s x.r 8) hg)
            have CF := few_any s x.B x.m x.d x.r 8 wr (hRR.below hW) (by omega)
            obtain ⟨z, hz⟩ : ∃ z, z = T.few s x.r 8 := ⟨_, rfl⟩
            rw [← hz] at CF
            have HZ := Lib.hid hz
            have k0 : (0 : Int) ≤ (k : Int) := by omega
            have k1 : (k : Int) < (x.sn : Int) := by omega
            clear hz hg hA
            go_wp2_with fail
            refine CF.mono ?_
            rintro e w2 ⟨rfl, b2⟩
            have hb2 := bel hW b2
            clear CF c0 c1 c2 c3 c4 c5
            cases z with
            | false =>
              go_wp2_with fail
              go_ret
              exact ⟨by rw [hr.out, HD.out, ← HZ.out]; rfl, hb2⟩
            | true =>
              go_wp2_with fail
              go_roundw
              case rel => exact ⟨k + 1, by go_num, by omega, by show _ = _; rw [hr.out, HD.out, ← HZ.out, Bool.true_and], hb2⟩
              case measure => simp [intOf]; omega
          · have HE := Lib.hid (show K.few32 x = T.few K.zeroS x.r 8 by rw [hr.out, List.drop_eq_nil_of_le (by rw [← hSS.1.1]; omega)]; rfl)
            have CZ := few_any K.zeroS x.B x.m x.d x.r 8 wr (hRR.below hW) (by omega)
            have k2 : decide ((k : Int) < (x.sn : Int)) = false := by simp; omega
            have k2' : decide (k < x.sn) = false := by simp; omega
            clear hlt
            go_wp2_with fail
            refine CZ.mono ?_
            rintro e w2 ⟨rfl, b2⟩
            go_wp2_with fail
            go_ret
            exact ⟨by rw [HE.out]; rfl, bel hW b2⟩
      by_cases h2 : x.m ≤ 6
      · have m1i : decide (4 < ((x.m : Nat) : Int)) = true := by simp; omega
        have m1n : decide (4 < x.m) = true := by simp; omega
        have m2i : decide (((x.m : Nat) : Int) ≤ 6) = true := by simp; omega
        have m2n : decide (x.m ≤ 6) = true := by simp; omega
        have HX := Lib.hid (show K.few32 x = false by unfold K.few32 K.fewM; simp; omega)
        go_wp2_with fail
        go_ret
        exact ⟨by rw [HX.out]; rfl, hb1⟩
      by_cases h2 : x.m ≤ 8
      · have m1i : decide (4 < ((x.m : Nat) : Int)) = true := by simp; omega
        have m1n : decide (4 < x.m) = true := by simp; omega
        have m2i : decide (((x.m : Nat) : Int) ≤ 6) = false := by simp; omega
        have m2n : decide (x.m ≤ 6) = false := by simp; omega
        have m3i : decide (8 < ((x.m : Nat) : Int)) = false := by simp; omega
        have m3n : decide (8 < x.m) = false := by simp; omega
        have HH := Lib.hid (show K.few32 x = (x.ss.all (fun s => T.few s x.r 8) && T.few K.zeroS x.r 8) by
          have e1 : K.fewM x.sn 2 4 6 = false := by unfold K.fewM; simp; omega
          have e2 : K.fewM x.m 4 6 8 = false := by unfold K.fewM; simp; omega
          unfold K.few32; rw [← HF27.out, e1, e2]; rfl)
        have hsn9 : x.sn ≤ 1000000000 := by omega
        clear h1 h2
        go_wp2_with fail
        go_loopw [7] (fun v7 wr => ∃ k : Nat, v7 = .int .i64 k ∧ k ≤ x.sn ∧ Hid (K.few32 x = ((x.ss.drop k).all (fun s => T.few s x.r 8) && T.few K.zeroS x.r 8)) ∧ Below w.heap.size w wr) (fun v7 _ => x.sn - (intOf v7).toNat)
        case atStart => exact ⟨0, rfl, by omega, by show _ = _; rw [List.drop_zero]; exact HH.out, hb1⟩
        case round =>
          obtain ⟨k, rfl, hk, hr, hW⟩ := hrel
          by_cases hlt : k < x.sn
          · obtain ⟨ad, s, hA, hg, -, c0, c1, c2, c3, c4, c5⟩ := (hSS.below hW).at_ hlt
            rw [hA]
            have HA := Lib.hid hA
            have HD := Lib.hid (drop_all (p := fun s => T.few s x.r 8) hg)
            have CF := few_any s x.B x.m x.d x.r 8 wr (hRR.below hW) (by omega)
            obtain ⟨z, hz⟩ : ∃ z, z = T.few s x.r 8 := ⟨_, rfl⟩
            rw [← hz] at CF
            have HZ := Lib.hid hz
            have k0 : (0 : Int) ≤ (k : Int) := by omega
            have k1 : (k : Int) < (x.sn : Int) := by omega
            clear hz hg hA
            go_wp2_with fail
            refine CF.mono ?_
            rintro e w2 ⟨rfl, b2⟩
            have hb2 := bel hW b2
            clear CF c0 c1 c2 c3 c4 c5
            cases z with
            | false =>
              go_wp2_with fail
              go_ret
              exact ⟨by rw [hr.out, HD.out, ← HZ.out]; rfl, hb2⟩
            | true =>
              go_wp2_with fail
              go_roundw
              case rel => exact ⟨k + 1, by go_num, by omega, by show _ = _; rw [hr.out, HD.out, ← HZ.out, Bool.true_and], hb2⟩
              case measure => simp [intOf]; omega
          · have HE := Lib.hid (show K.few32 x = T.few K.zeroS x.r 8 by rw [hr.out, List.drop_eq_nil_of_le (by rw [← hSS.1.1]; omega)]; rfl)
            have CZ := few_any K.zeroS x.B x.m x.d x.r 8 wr (hRR.below hW) (by omega)
            have k2 : decide ((k : Int) < (x.sn : Int)) = false := by simp; omega
            have k2' : decide (k < x.sn) = false := by simp; omega
            clear hlt
            go_wp2_with fail
            refine CZ.mono ?_
            rintro e w2 ⟨rfl, b2⟩
            go_wp2_with fail
            go_ret
            exact ⟨by rw [HE.out]; rfl, bel hW b2⟩
      · have m1i : decide (4 < ((x.m : Nat) : Int)) = true := by simp; omega
        have m1n : decide (4 < x.m) = true := by simp; omega
        have m2i : decide (((x.m : Nat) : Int) ≤ 6) = false := by simp; omega
        have m2n : decide (x.m ≤ 6) = false := by simp; omega
        have m3i : decide (8 < ((x.m : Nat) : Int)) = true := by simp; omega
        have m3n : decide (8 < x.m) = true := by simp; omega
        have HX := Lib.hid (show K.few32 x = false by unfold K.few32 K.fewM; simp; omega)
        go_wp2_with fail
        go_ret
        exact ⟨by rw [HX.out]; rfl, hb1⟩
    · have s1i : decide (2 < ((x.sn : Nat) : Int)) = true := by simp; omega
      have s1n : decide (2 < x.sn) = true := by simp; omega
      have s2i : decide (((x.sn : Nat) : Int) ≤ 4) = false := by simp; omega
      have s2n : decide (x.sn ≤ 4) = false := by simp; omega
      have s3i : decide (6 < ((x.sn : Nat) : Int)) = true := by simp; omega
      have s3n : decide (6 < x.sn) = true := by simp; omega
      have HX := Lib.hid (show K.few32 x = false by unfold K.few32 K.fewM; simp; omega)
      go_wp2_with fail
      go_ret
      exact ⟨by rw [HX.out]; rfl, hb1⟩
end Go.Proofs.YtippdjmpkafifaaGreat
namespace Go.Proofs.YtippdjmpkafifaaGreat
open Go.RowKit
end Go.Proofs.YtippdjmpkafifaaGreat
namespace Go.Proofs.YtippdjmpkafifaaGreat
open Go.RowKit
/-- What says whether something holds. -/
def Says (P : Prop) (e : Ending) : Prop := ∃ z, e = .returned (.bool z) ∧ (z = true ↔ P)
end Go.Proofs.YtippdjmpkafifaaGreat
namespace Go.Proofs.YtippdjmpkafifaaGreat
open Go.RowKit
namespace K
theorem fewM_no {n a b c : Nat} (h : fewM n a b c = false) : n ≤ c ∧ (n ≤ b → n ≤ a) := by
  unfold fewM at h
  simp at h
  omega
theorem few32_parts {x : Cs} (h : few32 x = true) (hm : x.m = x.r.length) : x.n ≤ 40 ∧ x.sn ≤ 6 ∧ x.m ≤ 8 ∧ (∀ s ∈ x.ss, s.n ≤ 6) ∧ (∀ q ∈ x.r, q.n ≤ 10) ∧ (x.sn ≤ 4 → x.sn ≤ 2) ∧ (x.m ≤ 6 → x.m ≤ 4) := by
  simp only [few32, few27, Bool.and_eq_true, Bool.not_eq_true', decide_eq_true_eq] at h
  obtain ⟨⟨-, h1⟩, h2, h3, h4, h5⟩ := h
  obtain ⟨g1, g2⟩ := fewM_no h2
  obtain ⟨g3, g4⟩ := fewM_no h3
  refine ⟨h1, g1, g3, fun s hs => ?_, fun q hq => ?_, g2, g4⟩
  · have := List.all_eq_true.1 h4 s hs
    simp only [T.few, Bool.and_eq_true, decide_eq_true_eq] at this
    exact this.2.1
  · simp only [T.few, Bool.and_eq_true, Bool.not_eq_true'] at h5
    have := List.any_eq_false.1 h5.1 q (by rw [List.take_of_length_le (by omega)]; exact hq)
    simpa using this
section
variable {nd : Int} {l : List Ro} {ss : List S} {r : List Q} {ts : List (Int × Tr)}
/-- Tours that are accepted are few. -/
theorem checks_few (h : checks nd l ss r ts = 0) : ts.length ≤ 4 ∧ ∀ t ∈ ts, t.2.stops.length ≤ 6 ∧ t.2.times.length ≤ 6 := by
  unfold checks at h
  split at h
  case isFalse h1 => exact absurd h h1
  rename_i h1
  obtain ⟨-, hs4, -, -, hr6⟩ := pcheck_ok h1
  obtain ⟨g1, g2, -, -⟩ := checkGo_parts ts _ _ h
  refine ⟨?_, fun t ht => ?_⟩
  · have hn : (ts.map fun t => t.1).Nodup := by
      unfold List.Nodup
      rw [List.pairwise_map]
      exact g2.imp fun h => Int.ne_of_lt h.1
    have := len_sub (b := (List.range ss.length).map fun (i : Nat) => (i : Int)) hn fun y hy => by
      obtain ⟨t, ht, rfl⟩ := List.mem_map.1 hy
      obtain ⟨-, hg⟩ := g1 t ht
      obtain ⟨x, hx, -⟩ := hg.sh
      have := (List.getElem?_eq_some_iff.1 hx).1
      have := hg.pos
      exact List.mem_map.2 ⟨t.1.toNat, by rw [List.mem_range]; omega, by omega⟩
    rw [List.length_map, List.length_map, List.length_range] at this
    omega
  · obtain ⟨-, hg⟩ := g1 t ht
    obtain ⟨x, -, hc⟩ := hg.sh
    obtain ⟨c1, c2, c3⟩ := check_run hc
    have := len_sub (b := (List.range r.length).map fun (i : Nat) => (i : Int)) c3 fun y hy => List.mem_map.2 ⟨y.toNat, by have := c2 y hy; rw [List.mem_range]; omega, by have := c2 y hy; omega⟩
    rw [List.length_map, List.length_range] at this
    refine ⟨by omega, ?_⟩
    unfold check at hc
    simp only [Bool.and_eq_true, decide_eq_true_eq] at hc
    obtain ⟨-, -, -, e⟩ := run_ok c1
    rw [← hc.2.1, e]
    have := K.legs_len nd l x r t.2.stops [] x.depot x.start
    show (all nd l x r t.2.stops).times.length ≤ 6
    unfold all
    omega
end
end K
theorem fewT_of {w : World} {A : Option Addr} {n : Nat} {ts : List TV} (hT : Tours w A n ts) (h : ts.length ≤ 4 ∧ ∀ t ∈ ts.map TV.pr, t.2.stops.length ≤ 6 ∧ t.2.times.length ≤ 6) : FewT n ts := by
  refine ⟨by have := hT.1.1; omega, fun y hy => ?_⟩
  have h1 := h.2 y.pr (List.mem_map_of_mem hy)
  have h2 := (hT.2 y hy).1.1
  have h3 := (hT.2 y hy).2.1
  have e1 : y.pr.2.stops = y.t.stops := rfl
  have e2 : y.pr.2.times = y.t.times := rfl
  rw [e1, e2] at h1
  omega
end Go.Proofs.YtippdjmpkafifaaGreat
namespace Go.Proofs.YtippdjmpkafifaaGreat
open Go.RowKit
def K.exL32 : List Ro := [⟨0, 1, 10, -1⟩, ⟨1, 0, 10, -1⟩]
def K.exS32 (A : Option Addr) (c : Nat) : S := ⟨1, 0, 0, 60, 0, A, 1, c, [5]⟩
def K.exQ32 (k : Int) : Q := ⟨1, 0, k, 5, 1, 1, none, 0, 0, []⟩
/-- The example. -/
def IsEx32 (l : List Int) (x : Cs) : Prop := ∃ A c A2 c2 SA sc B d, x = ⟨2, A, 2, c, K.exL32, SA, 2, sc, [K.exS32 A2 c2, K.exS32 A2 c2], B, l.length, d, l.map K.exQ32⟩
theorem app_req {ops : Array Oper} {rest : List Oper} {o : Oper} {a : Act} {Q' : Exit → Act → World → Prop} {w : World} (hgd : o.guard = none) (s x : Operand)
    (ho : o.op = .call { callee := .builtin .append, args := #[s, x], argTypes := #[26, 26] })
    (base : Nat) (v : Value) (n : Nat) (l : List Q) (hs : a.eval s = v) (hown : w.ownsRow base 47 7 v n (l.flatMap Q.cells)) (g : Nat) (y : Q) (hx : a.eval x = .slice (some ⟨g, 0, none⟩) 1 1)
    (hg : w.heap[g]? = some (.cells y.cells.toArray 47 (0, 0))) (hn : n ≤ 1000000) (hbase : base ≤ w.heap.size)
    (h : ∀ v' w', w'.ownsRow base 47 7 v' (n + 1) ((l ++ [y]).flatMap Q.cells) → w.grownBy w' v.ownBlock → (v'.ownBlock = v.ownBlock ∨ v'.ownBlock = some w.heap.size) → wpList Tryz.prog ops Q' rest (a.put o.dst v') w') :
    wpList Tryz.prog ops Q' (o :: rest) a w := by
  obtain ⟨i0, hi, hz0, hz1, hz2⟩ := info_parts Tryz.info47
  refine wpList_append_own_at w hgd s x 26 ho base 47 i0 (.agg #[.int .i64 0, .int .i64 0, .int .i64 0, .int .i64 0, .int .i64 0, .int .i64 0, .slice none 0 0]) 7 72 Tryz.underlying26 hi hz0 hz1 hz2 rfl (by decide) v n (l.flatMap Q.cells) hs hown ⟨g, 0, none⟩ 1 1 y.cells hx rfl ?_ ?_ ?_ ?_ hbase ?_
  · intro j u hu
    rw [add_zero_block]
    exact blk_cell hg j u (by simpa using hu)
  · intro u hu
    simp [Q.cells] at hu
    rcases hu with rfl | rfl | rfl | rfl | rfl | rfl | rfl <;> rfl
  · simp only [maxLen]; omega
  · omega
  · intro v' w' h2 h3 _ h5
    exact h v' w' (by rw [List.flatMap_append]; simpa using h2) h3 h5
theorem reqCells_flat : ∀ l : List Q, reqCells l = l.flatMap Q.cells
  | [] => rfl
  | q :: l => by rw [List.flatMap_cons, ← reqCells_flat l]; rfl
end Go.Proofs.YtippdjmpkafifaaGreat

/-
Plain: what can be planned in part, and with a further shift.
-/
namespace Go.Proofs.YtippdjmpkafifaaGreat
open Go.RowKit
namespace K
theorem emb_sub {r' r : List Q} (h : r'.Sublist r) : ∃ φ, Emb r' r φ := by
  induction h with
  | slnil => exact ⟨id, fun i hi => absurd hi (by simp), fun i j _ hj => absurd hj (by simp)⟩
  | cons a _ ih =>
    obtain ⟨φ, h1, h2⟩ := ih
    exact ⟨fun i => φ i + 1, fun i hi => by rw [List.getElem?_cons_succ]; exact h1 i hi, fun i j hij hj => by have := h2 i j hij hj; omega⟩
  | cons_cons a _ ih =>
    obtain ⟨φ, h1, h2⟩ := ih
    refine ⟨fun i => match i with | 0 => 0 | i + 1 => φ i + 1, fun i hi => ?_, fun i j hij hj => ?_⟩
    · cases i with
      | zero => rfl
      | succ i =>
        rw [List.length_cons] at hi
        show (a :: _)[φ i + 1]? = _
        rw [List.getElem?_cons_succ, List.getElem?_cons_succ]
        exact h1 i (by omega)
    · rw [List.length_cons] at hj
      cases j with
      | zero => omega
      | succ j =>
        cases i with
        | zero => exact Nat.succ_pos _
        | succ i =>
          have := h2 i j (by omega) (by omega)
          show φ i + 1 < φ j + 1
          omega
section
variable {nd : Int} {l : List Ro} {ss ss' : List S} {r r' : List Q}
theorem pcheck_of (h1 : netErr nd l = 0) (h2 : ss.length ≤ 4) (h3 : ∀ s ∈ ss, T.check s = 0 ∧ s.depot < nd) (h4 : ∀ q ∈ r, T.right q = true ∧ q.node < nd) (h5 : r.length ≤ 6) : pcheck nd l ss r = 0 := by
  have a1 : ss.any (badS nd) = false := by
    rw [List.any_eq_false]
    intro s hs
    obtain ⟨b1, b2⟩ := h3 s hs
    simp [badS, b1]
    omega
  have a2 : r.any (badQ nd) = false := by
    rw [List.any_eq_false]
    intro q hq
    obtain ⟨b1, b2⟩ := h4 q hq
    simp [badQ, b1]
    omega
  unfold pcheck
  rw [h1, decide_eq_true h2, a1, a2, if_pos (by decide), if_neg (by omega)]
theorem pcheck_sub (h : pcheck nd l ss r = 0) (hs : r'.Sublist r) : pcheck nd l ss r' = 0 := by
  obtain ⟨h1, h2, h3, h4, h5⟩ := pcheck_ok h
  exact pcheck_of h1 h2 h3 (fun q hq => h4 q (hs.subset hq)) (Nat.le_trans hs.length_le h5)
/-- What can be planned can be planned in part. -/
theorem plan_part (h : (plan nd l ss r).2 = 0) (hs : r'.Sublist r) : (plan nd l ss r').2 = 0 := by
  obtain ⟨h1, d, h2, -⟩ := plan_0 h
  obtain ⟨φ, hE⟩ := emb_sub hs
  exact plan_embed (θ := id) h1 (pcheck_sub h1 hs) hE h2 (fun _ _ => rfl) (fun _ _ _ _ e => e)
theorem plan_42 (h : pcheck nd l ss r = 0) : (plan nd l ss r).2 = 0 ∨ (plan nd l ss r).2 = 4 := by
  rcases plan_cases h with ⟨g, -⟩ | ⟨d, -, g⟩
  · rw [g]; exact .inr rfl
  · rw [g]; exact .inl rfl
end
end K
end Go.Proofs.YtippdjmpkafifaaGreat

/-
Plain: promises.
-/
namespace Go.Proofs.YtippdjmpkafifaaGreat
open Go.RowKit
namespace K
/-- Whether a request fits a network. -/
def fits33 (nd : Int) (x : Q) : Bool := T.right x && decide (x.node < nd)
/-- The requests of a set, and one behind them. -/
def pick33 (r : List Q) (v : List Int) (x : Q) : List Q := v.map (req r) ++ [x]
def blocks33 (nd : Int) (l : List Ro) (ss : List S) (r : List Q) (x : Q) (v : List Int) : Bool := (plan nd l ss (pick33 r v x)).2 == 4
/-- The first set of so many further requests from an index on that blocks. -/
def find33 (nd : Int) (l : List Ro) (ss : List S) (r : List Q) (x : Q) (c : List Int) (many frm : Nat) : Option (List Int) :=
  ((A.combos r.length many frm).map (c ++ ·)).find? (blocks33 nd l ss r x)
/-- The first of the smallest sets that block, of at least so many requests. -/
def small33 (nd : Int) (l : List Ro) (ss : List S) (r : List Q) (x : Q) : Nat → Nat → Option (List Int)
  | 0, _ => none
  | k + 1, many => match find33 nd l ss r x [] many 0 with
    | some v => some v
    | none => small33 nd l ss r x k (many + 1)
/-- An answer. -/
structure An where
  acc : Bool
  tours : List (Int × Tr)
  blk : List Int
  proof : List (Int × List Int × List Lb)
def An.zero : An := ⟨false, [], [], []⟩
/-- What promise.Ask hands back: the requests of the book (none: the zero book), the answer, the error. -/
def ask33 (nd : Int) (l : List Ro) (ss : List S) (r : List Q) (x : Q) : Option (List Q) × An × Int :=
  if (plan nd l ss r).2 ≠ 0 ∨ fits33 nd x = false then (none, An.zero, 1)
  else if 6 ≤ r.length then (none, An.zero, 6)
  else if (plan nd l ss (r ++ [x])).2 = 0 then (some (r ++ [x]), ⟨true, (plan nd l ss (r ++ [x])).1.map fun t => ((t.1 : Int), t.2), [], []⟩, 0)
  else match small33 nd l ss r x (r.length + 1) 0 with
    | some v => (some r, ⟨false, [], v, (refute nd l ss (pick33 r v x)).1.map fun b => ((b.1 : Int), b.2)⟩, 0)
    | none => (some r, An.zero, 0)
/-- Whether numbers are ascending, from behind p, below n. -/
def asc33 (n : Int) : Int → List Int → Bool
  | _, [] => true
  | p, i :: v => !decide (i ≤ p) && (!decide (n ≤ i) && asc33 n i v)
/-- What promise.Check hands back. -/
def check33 (nd : Int) (l : List Ro) (ss : List S) (r : List Q) (x : Q) (a : An) : Bool :=
  if fits33 nd x = false ∨ 6 ≤ r.length then false
  else if a.acc = true then (a.blk.length + a.proof.length == 0) && (checks nd l ss (r ++ [x]) a.tours == 0)
  else asc33 r.length (-1) a.blk && ((a.tours.length == 0) && refutes nd l ss (pick33 r a.blk x) a.proof)
section
variable {nd : Int} {l : List Ro} {ss ss' : List S} {r r' : List Q} {x : Q}
theorem plan_same (h : r'.map Q.bare = r.map Q.bare) (g : ss'.map S.bare = ss.map S.bare) : plan nd l ss' r' = plan nd l ss r := by rw [← plan_bare nd l r' ss', h, g, plan_bare]
theorem refute_same (h : r'.map Q.bare = r.map Q.bare) (g : ss'.map S.bare = ss.map S.bare) : refute nd l ss' r' = refute nd l ss r := by rw [← refute_bare nd l r' ss', h, g, refute_bare]
theorem checks_same (h : r'.map Q.bare = r.map Q.bare) (g : ss'.map S.bare = ss.map S.bare) (ts : List (Int × Tr)) : checks nd l ss' r' ts = checks nd l ss r ts := by rw [← checks_bare nd l r' ss', h, g, checks_bare]
theorem refutes_same (h : r'.map Q.bare = r.map Q.bare) (g : ss'.map S.bare = ss.map S.bare) (bl : List (Int × List Int × List Lb)) : refutes nd l ss' r' bl = refutes nd l ss r bl := by rw [← refutes_bare nd l r' ss', h, g, refutes_bare]
theorem req_at {i : Nat} {q : Q} (h : r[i]? = some q) : req r (i : Int) = q := by unfold req; rw [Int.toNat_natCast, h]; rfl
theorem pick_iota : pick33 r (iota r.length) x = r ++ [x] := by
  unfold pick33
  congr 1
  apply List.ext_getElem?
  intro i
  rw [List.getElem?_map, iota, List.getElem?_map]
  by_cases hi : i < r.length
  · rw [List.getElem?_range hi, Option.map_some, Option.map_some, req_at (List.getElem?_eq_getElem hi), List.getElem?_eq_getElem hi]
  · rw [List.getElem?_eq_none (by rw [List.length_range]; omega), List.getElem?_eq_none (by omega)]
    rfl
/-- Where the book lies in memory makes no difference. -/
theorem pick_same (h : r'.map Q.bare = r.map Q.bare) {x' : Q} (hx : x'.bare = x.bare) (v : List Int) : (pick33 r' v x').map Q.bare = (pick33 r v x).map Q.bare := by
  unfold pick33
  rw [List.map_append, List.map_append, List.map_map, List.map_map, List.map_singleton, List.map_singleton, hx]
  congr 1
  refine List.map_congr_left fun i _ => ?_
  show (req r' i).bare = (req r i).bare
  rw [← req_bare, ← req_bare, h]
theorem same_len (h : r'.map Q.bare = r.map Q.bare) : r'.length = r.length := by have := congrArg List.length h; rwa [List.length_map, List.length_map] at this
theorem fits_same {x' : Q} (hx : x'.bare = x.bare) : fits33 nd x' = fits33 nd x := by
  have h1 : ∀ y : Q, fits33 nd y.bare = fits33 nd y := fun _ => rfl
  rw [← h1 x', hx, h1]
theorem app_same (h : r'.map Q.bare = r.map Q.bare) {x' : Q} (hx : x'.bare = x.bare) : (r' ++ [x']).map Q.bare = (r ++ [x]).map Q.bare := by
  rw [List.map_append, List.map_append, h, List.map_singleton, List.map_singleton, hx]
theorem find_same (h : r'.map Q.bare = r.map Q.bare) (g : ss'.map S.bare = ss.map S.bare) {x' : Q} (hx : x'.bare = x.bare) (c : List Int) (m f : Nat) : find33 nd l ss' r' x' c m f = find33 nd l ss r x c m f := by
  have : blocks33 nd l ss' r' x' = blocks33 nd l ss r x := by
    funext v
    unfold blocks33
    rw [plan_same (pick_same h hx v) g]
  unfold find33
  rw [this, same_len h]
theorem small_same (h : r'.map Q.bare = r.map Q.bare) (g : ss'.map S.bare = ss.map S.bare) {x' : Q} (hx : x'.bare = x.bare) : ∀ (k m : Nat), small33 nd l ss' r' x' k m = small33 nd l ss r x k m
  | 0, _ => rfl
  | k + 1, m => by rw [small33, small33, find_same h g hx, small_same h g hx k (m + 1)]
theorem ask_same (h : r'.map Q.bare = r.map Q.bare) (g : ss'.map S.bare = ss.map S.bare) {x' : Q} (hx : x'.bare = x.bare) : (ask33 nd l ss' r' x').2 = (ask33 nd l ss r x).2 ∧ (ask33 nd l ss' r' x').1.map (List.map Q.bare) = (ask33 nd l ss r x).1.map (List.map Q.bare) := by
  have hp := plan_same (nd := nd) (l := l) h g
  have hq := plan_same (nd := nd) (l := l) (app_same h hx) g
  have hs := small_same (nd := nd) (l := l) h g hx
  have hr := fun v => refute_same (nd := nd) (l := l) (pick_same h hx v) g
  have hl := same_len h
  unfold ask33
  rw [hp, hq, fits_same hx, hl, hs]
  split
  · exact ⟨rfl, rfl⟩
  split
  · exact ⟨rfl, rfl⟩
  split
  · exact ⟨rfl, by simp only [Option.map_some]; rw [app_same h hx]⟩
  split
  · exact ⟨by rw [hr], by simp only [Option.map_some]; rw [h]⟩
  · exact ⟨rfl, by simp only [Option.map_some]; rw [h]⟩
theorem check_same (h : r'.map Q.bare = r.map Q.bare) (g : ss'.map S.bare = ss.map S.bare) {x' : Q} (hx : x'.bare = x.bare) (a : An) : check33 nd l ss' r' x' a = check33 nd l ss r x a := by
  unfold check33
  rw [fits_same hx, same_len h, checks_same (app_same h hx) g, refutes_same (pick_same h hx _) g]
theorem asc33_iff {n : Int} : ∀ {v : List Int} {p : Int}, asc33 n p v = true ↔ v.Pairwise (· < ·) ∧ ∀ i ∈ v, p < i ∧ i < n
  | [], p => ⟨fun _ => ⟨List.Pairwise.nil, fun i h => by cases h⟩, fun _ => rfl⟩
  | j :: v, p => by
    rw [asc33, Bool.and_eq_true, Bool.and_eq_true, Bool.not_eq_true', Bool.not_eq_true', decide_eq_false_iff_not, decide_eq_false_iff_not, asc33_iff, List.pairwise_cons]
    constructor
    · rintro ⟨h1, h2, h3, h4⟩
      refine ⟨⟨fun i hi => (h4 i hi).1, h3⟩, fun i hi => ?_⟩
      rcases List.mem_cons.1 hi with rfl | hi
      · omega
      · have := h4 i hi; omega
    · rintro ⟨⟨h1, h2⟩, h3⟩
      have hj := h3 j (List.mem_cons_self ..)
      exact ⟨by omega, by omega, h2, fun i hi => ⟨h1 i hi, (h3 i (List.mem_cons_of_mem _ hi)).2⟩⟩
theorem small33_some : ∀ {k m : Nat} {v : List Int}, small33 nd l ss r x k m = some v → ∃ n, m ≤ n ∧ n < m + k ∧ v ∈ A.combos r.length n 0 ∧ blocks33 nd l ss r x v = true ∧ ∀ n', m ≤ n' → n' < n → ∀ u ∈ A.combos r.length n' 0, blocks33 nd l ss r x u = false
  | 0, m, v, h => by cases h
  | k + 1, m, v, h => by
    rw [small33] at h
    cases hf : find33 nd l ss r x [] m 0 with
    | some u =>
      rw [hf] at h
      injection h with h
      subst h
      unfold find33 at hf
      have h1 := List.find?_some hf
      have h2 := List.mem_of_find?_eq_some hf
      obtain ⟨u', hu, e⟩ := List.mem_map.1 h2
      rw [List.nil_append] at e
      subst e
      exact ⟨m, Nat.le_refl _, by omega, hu, h1, fun n' h1 h2 => by omega⟩
    | none =>
      rw [hf] at h
      obtain ⟨n, h1, h2, h3, h4, h5⟩ := small33_some h
      refine ⟨n, by omega, by omega, h3, h4, fun n' g1 g2 u hu => ?_⟩
      by_cases e : n' = m
      · subst e
        unfold find33 at hf
        have := List.find?_eq_none.1 hf ([] ++ u) (List.mem_map.2 ⟨u, hu, rfl⟩)
        rw [List.nil_append] at this
        simpa using this
      · exact h5 n' (by omega) g2 u hu
theorem small33_none : ∀ {k m : Nat}, small33 nd l ss r x k m = none → ∀ n, m ≤ n → n < m + k → ∀ u ∈ A.combos r.length n 0, blocks33 nd l ss r x u = false
  | 0, m, _, n, h1, h2 => by omega
  | k + 1, m, h, n, h1, h2 => fun u hu => by
    rw [small33] at h
    cases hf : find33 nd l ss r x [] m 0 with
    | some u => rw [hf] at h; cases h
    | none =>
      rw [hf] at h
      by_cases e : n = m
      · subst e
        unfold find33 at hf
        have := List.find?_eq_none.1 hf ([] ++ u) (List.mem_map.2 ⟨u, hu, rfl⟩)
        rw [List.nil_append] at this
        simpa using this
      · exact small33_none h n (by omega) (by omega) u hu
theorem iota_combo (n : Nat) : iota n ∈ A.combos n n 0 := A.mem_combos.2 ⟨by unfold iota; rw [List.length_map, List.length_range], iota_sorted n, fun y hy => by have := mem_iota.1 hy; omega⟩
/-- The requests of a set are some of the book's. -/
theorem pick_sub : ∀ {v : List Int}, v.Pairwise (· < ·) → (∀ i ∈ v, 0 ≤ i ∧ i < (r.length : Int)) → (v.map (req r)).Sublist r := by
  have key : ∀ (r : List Q) (v : List Int), v.Pairwise (· < ·) → (∀ i ∈ v, 0 ≤ i ∧ i < (r.length : Int)) → (v.map (req r)).Sublist r := by
    intro r
    induction r with
    | nil =>
      intro v _ hv
      cases v with
      | nil => exact List.Sublist.refl _
      | cons i v => have := hv i (List.mem_cons_self ..); simp at this; omega
    | cons q r ih =>
      intro v hp hv
      have shift : ∀ (u : List Int), (∀ i ∈ u, 1 ≤ i) → u.map (req (q :: r)) = (u.map (· - 1)).map (req r) := by
        intro u hu
        rw [List.map_map]
        refine List.map_congr_left fun i hi => ?_
        have := hu i hi
        show req (q :: r) i = req r (i - 1)
        unfold req
        rw [show i.toNat = (i - 1).toNat + 1 by omega, List.getElem?_cons_succ]
      have pw : ∀ (u : List Int), u.Pairwise (· < ·) → (u.map (· - 1)).Pairwise (· < ·) := fun u hu => List.pairwise_map.2 (hu.imp (by intro a b h; omega))
      cases v with
      | nil => exact List.nil_sublist _
      | cons i v =>
        obtain ⟨h1, h2⟩ := List.pairwise_cons.1 hp
        have hi := hv i (List.mem_cons_self ..)
        by_cases e : i = 0
        · subst e
          rw [List.map_cons, shift v (fun j hj => by have := h1 j hj; omega)]
          refine List.Sublist.cons_cons _ (ih _ (pw v h2) fun j hj => ?_)
          obtain ⟨k, hk, rfl⟩ := List.mem_map.1 hj
          have := h1 k hk
          have := hv k (List.mem_cons_of_mem _ hk)
          rw [List.length_cons] at this
          omega
        · rw [shift (i :: v) (fun j hj => by
            rcases List.mem_cons.1 hj with rfl | hj
            · omega
            · have := h1 j hj; omega)]
          refine List.Sublist.cons _ (ih _ (pw _ hp) fun j hj => ?_)
          obtain ⟨k, hk, rfl⟩ := List.mem_map.1 hj
          have h9 := hv k hk
          rw [List.length_cons] at h9
          rcases List.mem_cons.1 hk with rfl | hk
          · omega
          · have := h1 k hk; omega
  exact fun {v} h1 h2 => key r v h1 h2
theorem pick_subl {v : List Int} (h1 : v.Pairwise (· < ·)) (h2 : ∀ i ∈ v, 0 ≤ i ∧ i < (r.length : Int)) : (pick33 r v x).Sublist (r ++ [x]) := (pick_sub h1 h2).append (List.Sublist.refl _)
theorem fits_q (h : pcheck nd l ss r = 0) (hx : fits33 nd x = true) (hl : r.length + 1 ≤ 6) : pcheck nd l ss (r ++ [x]) = 0 := by
  obtain ⟨h1, h2, h3, h4, -⟩ := pcheck_ok h
  refine pcheck_of h1 h2 h3 (fun q hq => ?_) (by rw [List.length_append]; exact hl)
  rcases List.mem_append.1 hq with hq | hq
  · exact h4 q hq
  · rw [List.mem_singleton.1 hq]
    unfold fits33 at hx
    rw [Bool.and_eq_true, decide_eq_true_iff] at hx
    exact hx
/-- The cases of promise.Ask. -/
theorem ask_cases : (∃ e, e ≠ 0 ∧ ask33 nd l ss r x = (none, An.zero, e)) ∨
    (((plan nd l ss r).2 = 0 ∧ fits33 nd x = true ∧ r.length < 6) ∧
      (((plan nd l ss (r ++ [x])).2 = 0 ∧ ask33 nd l ss r x = (some (r ++ [x]), ⟨true, (plan nd l ss (r ++ [x])).1.map fun t => ((t.1 : Int), t.2), [], []⟩, 0)) ∨
        ((plan nd l ss (r ++ [x])).2 = 4 ∧ ∃ v, small33 nd l ss r x (r.length + 1) 0 = some v ∧ ask33 nd l ss r x = (some r, ⟨false, [], v, (refute nd l ss (pick33 r v x)).1.map fun b => ((b.1 : Int), b.2)⟩, 0)))) := by
  by_cases h1 : (plan nd l ss r).2 ≠ 0 ∨ fits33 nd x = false
  · exact .inl ⟨1, by decide, by unfold ask33; rw [if_pos h1]⟩
  by_cases h2 : 6 ≤ r.length
  · exact .inl ⟨6, by decide, by unfold ask33; rw [if_neg h1, if_pos h2]⟩
  have h3 : (plan nd l ss r).2 = 0 := by
    by_cases e : (plan nd l ss r).2 = 0
    · exact e
    · exact absurd (.inl e) h1
  have h4 : fits33 nd x = true := by
    cases e : fits33 nd x
    · exact absurd (.inr e) h1
    · rfl
  refine .inr ⟨⟨h3, h4, by omega⟩, ?_⟩
  have hpc := fits_q (plan_0 h3).1 h4 (by omega)
  rcases plan_42 hpc with h5 | h5
  · exact .inl ⟨h5, by unfold ask33; rw [if_neg h1, if_neg h2, if_pos h5]⟩
  · refine .inr ⟨h5, ?_⟩
    cases hs : small33 nd l ss r x (r.length + 1) 0 with
    | none =>
      have := small33_none hs r.length (Nat.zero_le _) (by omega) _ (iota_combo _)
      unfold blocks33 at this
      rw [pick_iota, h5] at this
      cases this
    | some v => exact ⟨v, rfl, by unfold ask33; rw [if_neg h1, if_neg h2, if_neg (by omega), hs]⟩
theorem combo_in {n : Nat} {v : List Int} (h : v ∈ A.combos r.length n 0) : v.Pairwise (· < ·) ∧ ∀ i ∈ v, 0 ≤ i ∧ i < (r.length : Int) := by
  obtain ⟨-, h1, h2⟩ := A.mem_combos.1 h
  exact ⟨h1, fun i hi => by have := h2 i hi; omega⟩
/-- The answer that is given is accepted. -/
theorem ask_check (hs : ss.length ≤ 4) (hr : r.length ≤ 3) (h : (ask33 nd l ss r x).2.2 = 0) : check33 nd l ss r x (ask33 nd l ss r x).2.1 = true ∧ ((ask33 nd l ss r x).2.1.acc = true ↔ (plan nd l ss (r ++ [x])).2 = 0) := by
  rcases ask_cases (nd := nd) (l := l) (ss := ss) (r := r) (x := x) with ⟨e, h1, h2⟩ | ⟨⟨h1, h2, h3⟩, ⟨h4, h5⟩ | ⟨h4, v, h5, h6⟩⟩
  · rw [h2] at h; exact absurd h h1
  · rw [h5]
    refine ⟨?_, by simp [h4]⟩
    unfold check33
    rw [if_neg (by rw [h2]; simp; omega), if_pos rfl]
    have := plan_checks h4
    simp [this]
  · rw [h6]
    obtain ⟨n, -, -, hv, hb, -⟩ := small33_some h5
    obtain ⟨g1, g2⟩ := combo_in hv
    unfold blocks33 at hb
    have hb := beq_iff_eq.1 hb
    have hl := (pick_subl (x := x) g1 g2).length_le
    rw [List.length_append, List.length_singleton] at hl
    obtain ⟨-, hrf⟩ := refute_refutes hs (by omega) hb
    refine ⟨?_, by simp [h4]⟩
    unfold check33
    rw [if_neg (by rw [h2]; simp; omega), if_neg (by simp)]
    simp only [Bool.and_eq_true]
    exact ⟨asc33_iff.2 ⟨g1, fun i hi => by have := g2 i hi; omega⟩, rfl, hrf⟩
/-- No answer that says the opposite is accepted. -/
theorem ask_opposite (h : (ask33 nd l ss r x).2.2 = 0) {a : An} (ha : check33 nd l ss r x a = true) : a.acc = (ask33 nd l ss r x).2.1.acc := by
  unfold check33 at ha
  split at ha
  · cases ha
  rcases ask_cases (nd := nd) (l := l) (ss := ss) (r := r) (x := x) with ⟨e, h1, h2⟩ | ⟨⟨h1, h2, h3⟩, ⟨h4, h5⟩ | ⟨h4, v, h5, h6⟩⟩
  · rw [h2] at h; exact absurd h h1
  · rw [h5]
    cases hac : a.acc
    · rw [hac, if_neg (by simp)] at ha
      simp only [Bool.and_eq_true] at ha
      obtain ⟨g1, -, g2⟩ := ha
      obtain ⟨p1, p2⟩ := asc33_iff.1 g1
      have := refutes_plan g2
      have := plan_part h4 (pick_subl (x := x) p1 (fun i hi => by have := p2 i hi; omega))
      omega
    · rfl
  · rw [h6]
    cases hac : a.acc
    · rfl
    · rw [hac, if_pos rfl] at ha
      simp only [Bool.and_eq_true] at ha
      have := checks_plan (beq_iff_eq.1 ha.2)
      omega
end
end K
end Go.Proofs.YtippdjmpkafifaaGreat

/-
Promises: the walks of slices.Clone, of windows, and of copied.
-/
namespace Go.Proofs.YtippdjmpkafifaaGreat
open Go.RowKit
theorem eql45 (a : Option Addr) (l c : Nat) (w : World) : (binOp .eql 45 (.slice a l c) (.slice none 0 0)).run Tryz.prog w = .ok (.bool a.isNone) w := Go.run_eql_slice_nil w 45 158 a l c Tryz.underlying45
/-- A slice that lies in new memory, if there is anything in it. -/
def Fresh (B : Nat) (A : Option Addr) (n : Nat) : Prop := 0 < n → ∀ ad, A = some ad → B ≤ ad.block
theorem fresh_own {w : World} {base : Nat} {e : TypeId} {size n m c : Nat} {A : Option Addr} {xs : List Value} (h : w.ownsRow base e size (.slice A n c) m xs) : Fresh base A n := fun _ ad e => by
  subst e
  obtain ⟨-, -, -, -, h3⟩ := own_form h
  exact (h3 _ rfl).1

set_option maxHeartbeats 2000000 in
theorem clone_wins (A : Option Addr) (n c : Nat) (l : List (Int × Int)) (w : World) (hl : Wins w A n l) (hn : n ≤ 1000000) :
    Calls Tryz.prog 196 #[.slice A n c] w fun e w' => (∃ A' c', e = .returned (.slice A' n c') ∧ Wins w' A' n l ∧ Fresh w.heap.size A' n) ∧ Below w.heap.size w w' := by
  obtain ⟨i0, hi, hz0, hz1, hz2⟩ := info_parts Tryz.info158
  have heq := eql45
  cases A with
  | none =>
    go_enter Tryz.func196, Tryz.ntmps196
    go_wp2_with fail
    go_ret
    have h0 : n = 0 := by
      cases n with
      | zero => rfl
      | succ n => obtain ⟨ad, e, _⟩ := hl.2.2 (by omega); cases e
    subst h0
    have hl0 : l = [] := List.length_eq_zero_iff.1 hl.1.symm
    subst hl0
    exact ⟨⟨none, 0, rfl, ⟨rfl, rfl, fun h => absurd h (by omega)⟩, fun h => absurd h (by omega)⟩, Below.refl _ _⟩
  | some ad =>
    have hlit : (w.alloc (.cells #[] 158)).ownsRow w.heap.size 158 2 (.slice (some ⟨w.heap.size, 0, none⟩) 0 0) 0 [] := World.ownsRow_lit w #[] 0 (Nat.le_refl _) (by simp only [maxLen]; omega) (by simp)
    have hb0 := (Below.refl w.heap.size w).alloc (Nat.le_refl _) (.cells #[] 158)
    go_enter Tryz.func196, Tryz.ntmps196
    go_wp2_with (at_builtin; refine wp_append_rd rfl (.tmp 5) (.tmp 6) 45 rfl w.heap.size 158 i0 (.agg #[.int .i64 0, .int .i64 0]) 2 16 Tryz.underlying45 hi hz0 hz1 hz2 rfl (by decide) _ 0 _ rfl hlit (some ad) n c (winCells l) rfl (hl.below hb0).2 (winCells_one l) (by simp only [maxLen]; omega) (by omega) (by first | (simp; done) | (simp; omega)) ?_; intro v' w4 hown4 hgrow4 hat4)
    rw [Nat.zero_add] at hown4
    have hb4 : Below w.heap.size w w4 := below_own hb0 (Nat.le_refl _) hgrow4 (fun g h => (hlit.lt g h).1)
    clear hgrow4 hat4
    obtain ⟨A', c', rfl, hR, -⟩ := own_form hown4
    have hF := fresh_own hown4
    rw [List.nil_append] at hR
    go_wp2_with fail
    go_ret
    exact ⟨⟨_, _, rfl, ⟨hl.1, hR⟩, hF⟩, hb4⟩

/-- A row of seven cells that is written over. -/
def Set7 (w : World) (g : Nat) (y0 y1 y2 y3 y4 y5 y6 : Value) : World := ((((((w.setCell ⟨g, 0, none⟩ y0).setCell ⟨g, 1, none⟩ y1).setCell ⟨g, 2, none⟩ y2).setCell ⟨g, 3, none⟩ y3).setCell ⟨g, 4, none⟩ y4).setCell ⟨g, 5, none⟩ y5).setCell ⟨g, 6, none⟩ y6
theorem set7_blk {w : World} {g : Nat} {x0 x1 x2 x3 x4 x5 x6 : Value} {t : TypeId} (h : w.heap[g]? = some (.cells #[x0, x1, x2, x3, x4, x5, x6] t (0, 0))) (y0 y1 y2 y3 y4 y5 y6 : Value) : (Set7 w g y0 y1 y2 y3 y4 y5 y6).heap[g]? = some (.cells #[y0, y1, y2, y3, y4, y5, y6] t (0, 0)) := by
  have c0 := blk_set h 0 y0
  have c1 := blk_set c0 1 y1
  have c2 := blk_set c1 2 y2
  have c3 := blk_set c2 3 y3
  have c4 := blk_set c3 4 y4
  have c5 := blk_set c4 5 y5
  have c6 := blk_set c5 6 y6
  have e : ((((((((#[x0, x1, x2, x3, x4, x5, x6] : Array Value).setIfInBounds 0 y0).setIfInBounds 1 y1).setIfInBounds 2 y2).setIfInBounds 3 y3).setIfInBounds 4 y4).setIfInBounds 5 y5).setIfInBounds 6 y6) = #[y0, y1, y2, y3, y4, y5, y6] := by simp only [List.setIfInBounds_toArray, List.set_cons_zero, List.set_cons_succ]
  rw [e] at c6
  exact c6
theorem set7_below {B : Nat} {a w : World} {g : Nat} (h : Below B a w) (hg : B ≤ g) (y0 y1 y2 y3 y4 y5 y6 : Value) : Below B a (Set7 w g y0 y1 y2 y3 y4 y5 y6) :=
  ((((((h.setCell (p := ⟨g, 0, none⟩) hg y0).setCell (p := ⟨g, 1, none⟩) hg y1).setCell (p := ⟨g, 2, none⟩) hg y2).setCell (p := ⟨g, 3, none⟩) hg y3).setCell (p := ⟨g, 4, none⟩) hg y4).setCell (p := ⟨g, 5, none⟩) hg y5).setCell (p := ⟨g, 6, none⟩) hg y6

set_option maxRecDepth 100000 in
set_option maxHeartbeats 4000000 in
theorem copied_any (q : Q) (w : World) (hq : Wins w q.A q.n q.l) (hn : q.n ≤ 1000000) :
    Calls Tryz.prog 148 #[.agg #[.int .i64 q.node, .int .i64 q.room, .int .i64 q.kilos, .int .i64 q.service, .int .i64 q.frm, .int .i64 q.by_, .slice q.A q.n q.c]] w fun e w' => (∃ A' c', e = .returned (.agg #[.int .i64 q.node, .int .i64 q.room, .int .i64 q.kilos, .int .i64 q.service, .int .i64 q.frm, .int .i64 q.by_, .slice A' q.n c']) ∧ Wins w' A' q.n q.l ∧ Fresh w.heap.size A' q.n) ∧ Below w.heap.size w w' := by
  obtain ⟨g, hg⟩ : ∃ g, g = w.heap.size := ⟨_, rfl⟩
  obtain ⟨w0, hw0⟩ : ∃ w0 : World, w0 = w.alloc (.cells #[.int .i64 q.node, .int .i64 q.room, .int .i64 q.kilos, .int .i64 q.service, .int .i64 q.frm, .int .i64 q.by_, .slice q.A q.n q.c] 47) := ⟨_, rfl⟩
  have b0 : Below w.heap.size w w0 := by rw [hw0]; exact (Below.refl _ _).alloc (Nat.le_refl _) _
  have z0 : w0.heap.size = w.heap.size + 1 := by rw [hw0]; exact World.size_alloc _ _
  have hB0 : QBlk w0 g q := by rw [hw0, hg]; exact QBlk.new _ _
  obtain ⟨w1, hw1⟩ : ∃ w1 : World, w1 = w0.alloc (.cells #[.int .i64 0, .int .i64 0, .int .i64 0, .int .i64 0, .int .i64 0, .int .i64 0, .slice none 0 0] 47) := ⟨_, rfl⟩
  have b1 : Below w0.heap.size w0 w1 := by rw [hw1]; exact (Below.refl _ _).alloc (Nat.le_refl _) _
  have hB2 : w1.heap[g + 1]? = some (.cells #[.int .i64 0, .int .i64 0, .int .i64 0, .int .i64 0, .int .i64 0, .int .i64 0, .slice none 0 0] 47 (0, 0)) := by rw [hw1, hg, ← z0]; exact heap_alloc_new _ _
  have hB1 := hB0.below b1
  have hb1 := bel b0 b1
  have c6 := hB1.cells.2.2.2.2.2.2
  have hgg : w.heap.size ≤ g := by omega
  have hg1s : g + 1 < w1.heap.size := (Array.getElem?_eq_some_iff.1 hB2).1
  rw [hw1, hw0, hg] at c6
  go_enter Tryz.func148, Tryz.ntmps148
  go_wp2_with fail
  rw [← hw0, ← hw1, ← hg]
  clear hw1 hw0 hg hB0 z0 b0 b1 c6
  refine (clone_wins q.A q.n q.c q.l w1 (hq.below hb1) hn).mono ?_
  rintro e w2 ⟨⟨A', c', rfl, hW, hF⟩, b2⟩
  have hb2 := bel hb1 b2
  have hsz := hb1.size
  have hB1 := hB1.below b2
  have hB2 := blk_below b2 hB2
  obtain ⟨c0, c1, c2, c3, c4, c5, c6⟩ := hB1.cells
  have f1 := blk_free hB1
  have f2 := blk_free hB2
  have e0 := blk_cell hB2 0 _ rfl
  have e1 := blk_cell hB2 1 _ rfl
  have e2 := blk_cell hB2 2 _ rfl
  have e3 := blk_cell hB2 3 _ rfl
  have e4 := blk_cell hB2 4 _ rfl
  have e5 := blk_cell hB2 5 _ rfl
  have e6 := blk_cell hB2 6 _ rfl
  have hwl : ∀ (h0 : 0 < q.n) ad, A' = some ad → w.heap.size ≤ ad.block := fun h0 ad e => Nat.le_trans hsz (hF h0 ad e)
  have hgs : g + 1 < w1.heap.size := hg1s
  have HNE := Lib.hid (show 0 < q.n → ∀ ad, A' = some ad → ad.block ≠ g ∧ ad.block ≠ g + 1 from fun h0 ad e => by
    have h1 := hF h0 ad e
    omega)
  go_wp2_with fail
  obtain ⟨wy, hwy⟩ : ∃ wy, wy = w2.setCell ⟨g, 6, none⟩ (.slice A' q.n c') := ⟨_, rfl⟩
  obtain ⟨wz, hwz⟩ : ∃ wz, wz = Set7 wy (g + 1) (.int .i64 q.node) (.int .i64 q.room) (.int .i64 q.kilos) (.int .i64 q.service) (.int .i64 q.frm) (.int .i64 q.by_) (.slice A' q.n c') := ⟨_, rfl⟩
  have hY : wy.heap[g + 1]? = some (.cells #[.int .i64 0, .int .i64 0, .int .i64 0, .int .i64 0, .int .i64 0, .int .i64 0, .slice none 0 0] 47 (0, 0)) := by
    rw [hwy]
    exact (Sets.other [(⟨g, 6, none⟩, .slice A' q.n c')] w2 (g + 1) (fun p hp => by rw [List.mem_singleton.1 hp]; simp)).trans hB2
  have hZ : wz.heap[g + 1]? = some (.cells #[.int .i64 q.node, .int .i64 q.room, .int .i64 q.kilos, .int .i64 q.service, .int .i64 q.frm, .int .i64 q.by_, .slice A' q.n c'] 47 (0, 0)) := by
    rw [hwz]
    exact set7_blk hY _ _ _ _ _ _ _
  have bz : Below w.heap.size w wz := by
    rw [hwz, hwy]
    exact set7_below (hb2.setCell (p := ⟨g, 6, none⟩) hgg _) (by omega) _ _ _ _ _ _ _
  have hWz : Wins wz A' q.n q.l := by
    refine ⟨hW.1, hW.2.1, fun h0 => ?_⟩
    obtain ⟨ad, e, hc⟩ := hW.2.2 h0
    obtain ⟨n1, n2⟩ := HNE.out h0 ad e
    refine ⟨ad, e, fun k u hu => ?_⟩
    have h9 : wz.heap[(ad.add k).block]? = w2.heap[(ad.add k).block]? := by
      rw [hwz, hwy]
      refine Sets.other [(⟨g, 6, none⟩, .slice A' q.n c'), (⟨g + 1, 0, none⟩, .int .i64 q.node), (⟨g + 1, 1, none⟩, .int .i64 q.room), (⟨g + 1, 2, none⟩, .int .i64 q.kilos), (⟨g + 1, 3, none⟩, .int .i64 q.service), (⟨g + 1, 4, none⟩, .int .i64 q.frm), (⟨g + 1, 5, none⟩, .int .i64 q.by_), (⟨g + 1, 6, none⟩, .slice A' q.n c')] w2 _ (fun p hp => ?_)
      simp only [List.mem_cons, List.not_mem_nil, or_false] at hp
      rw [add_block]
      rcases hp with rfl | rfl | rfl | rfl | rfl | rfl | rfl | rfl
      · exact fun e => n1 e.symm
      all_goals exact fun e => n2 e.symm
    exact (World.cell?_of_block h9).trans (hc k u hu)
  unfold Set7 at hwz
  rw [← hwy, ← hwz]
  refine bodyPost_ret_by (v := .agg #[.int .i64 q.node, .int .i64 q.room, .int .i64 q.kilos, .int .i64 q.service, .int .i64 q.frm, .int .i64 q.by_, .slice A' q.n c']) (results_cell_row rfl _ wz (g + 1) 47 _ (0, 0) _ rfl hZ Tryz.underlying47 rfl (by kernel_rfl)) rfl ?_
  exact ⟨⟨A', c', rfl, hWz, fun h0 ad e => hwl h0 ad e⟩, bz⟩
end Go.Proofs.YtippdjmpkafifaaGreat

/-
Promises: the walk of with.
-/
namespace Go.Proofs.YtippdjmpkafifaaGreat
open Go.RowKit
theorem Wins.lt_of {w : World} {A : Option Addr} {n : Nat} {l : List (Int × Int)} (h : Wins w A n l) (h0 : 0 < n) {ad : Addr} (e : A = some ad) : ad.block < w.heap.size := by
  obtain ⟨ad', o, c, e', -, hc, -⟩ := h.at_ h0
  rw [e] at e'
  injection e' with e'
  subst e'
  have := cell_lt hc
  rwa [add_block] at this
theorem Wins.grow {w w' : World} {A : Option Addr} {n : Nat} {l : List (Int × Int)} {r : Option Nat} (h : Wins w A n l) (hg : w.grownBy w' r) (hne : 0 < n → ∀ ad, A = some ad → some ad.block ≠ r) : Wins w' A n l := by
  refine ⟨h.1, h.2.1, fun h0 => ?_⟩
  obtain ⟨ad, e, hc⟩ := h.2.2 h0
  refine ⟨ad, e, fun j u hu => ?_⟩
  have c := hc j u hu
  exact (World.cell?_of_block (hg.block _ (cell_lt c) (by rw [add_block]; exact hne h0 ad e))).trans c
/-- Requests of a row, whose windows lie away from the row. -/
def QOk (w : World) (v : Value) (L : List Q) : Prop := ∀ q ∈ L, Wins w q.A q.n q.l ∧ OffRow q.A q.n v
theorem QOk.below {w w' : World} {v : Value} {L : List Q} (h : QOk w v L) (hb : Below w.heap.size w w') : QOk w' v L := fun q hq => ⟨(h q hq).1.below hb, (h q hq).2⟩
theorem QOk.snoc {w w' : World} {v v' : Value} {L : List Q} (h : QOk w v L) {q : Q} (hq : Wins w q.A q.n q.l) (ho : OffRow q.A q.n v) (hg : w.grownBy w' v.ownBlock) (ha : v'.ownBlock = v.ownBlock ∨ v'.ownBlock = some w.heap.size) : QOk w' v' (L ++ [q]) := fun y hy => by
  have h1 : Wins w y.A y.n y.l ∧ OffRow y.A y.n v := by
    rcases List.mem_append.1 hy with hy | hy
    · exact h y hy
    · rw [List.mem_singleton.1 hy]; exact ⟨hq, ho⟩
  refine ⟨h1.1.grow hg (fun h0 ad e e2 => h1.2 h0 ad e e2.symm), fun h0 ad e e2 => ?_⟩
  rcases ha with e3 | e3
  · rw [e3] at e2; exact h1.2 h0 ad e e2
  · rw [e3] at e2
    injection e2 with e2
    have := h1.1.lt_of h0 e
    omega
theorem own_cap33 {w : World} {base : Nat} {e : TypeId} {size n n' c : Nat} {A : Option Addr} {xs : List Value} (h : w.ownsRow base e size (.slice A n' c) n xs) : n ≤ c := by
  obtain ⟨-, ⟨e, e0⟩ | ⟨g', cap, cur, e, -, -, h9, -⟩⟩ := h
  · rw [e0]; exact Nat.zero_le _
  · injection e with e1 e2 e3
    rw [e3]; exact h9
/-- Requests whose windows lie in new memory. -/
def NQ (B : Nat) (L : List Q) : Prop := ∀ q ∈ L, 0 < q.n → ∀ ad, q.A = some ad → B ≤ ad.block
theorem NQ.snoc {B : Nat} {L : List Q} (h : NQ B L) {q : Q} (hq : 0 < q.n → ∀ ad, q.A = some ad → B ≤ ad.block) : NQ B (L ++ [q]) := fun y hy => by
  rcases List.mem_append.1 hy with hy | hy
  · exact h y hy
  · rw [List.mem_singleton.1 hy]; exact hq
/-- What promise.with hands back. -/
def RetWith (w w' : World) (m : Nat) (M : List Q) (e : Ending) : Prop :=
  (∃ A k L, e = .returned (.slice A m k) ∧ Reqs w' A m L ∧ L.map Q.bare = M.map Q.bare ∧ m ≤ k ∧ (∀ ad, A = some ad → w.heap.size ≤ ad.block) ∧ NQ w.heap.size L) ∧ Below w.heap.size w w'
theorem same_n {w : World} {A : Option Addr} {n : Nat} {L M : List Q} (h : Reqs w A n L) (e : L.map Q.bare = M.map Q.bare) {N : Nat} (hM : ∀ q ∈ M, q.l.length ≤ N) : ∀ q ∈ L, q.n ≤ N := fun q hq => by
  have h1 := (h.2.2 q hq).1
  have h2 : q.bare ∈ M.map Q.bare := by rw [← e]; exact List.mem_map.2 ⟨q, hq, rfl⟩
  obtain ⟨q', h3, h4⟩ := List.mem_map.1 h2
  have h5 : q'.l = q.l := show q'.bare.l = q.bare.l by rw [h4]
  have := hM q' h3
  rw [h5] at this
  omega

set_option maxRecDepth 100000 in
set_option maxHeartbeats 8000000 in
theorem with_any (B : Option Addr) (n c : Nat) (r : List Q) (V : Option Addr) (vn vc : Nat) (v : List Int) (x : Q) (w : World) (hR : Reqs w B n r) (hV : Ints w V vn v) (hv : ∀ i ∈ v, 0 ≤ i ∧ i < (r.length : Int)) (hX : Wins w x.A x.n x.l)
    (hrn : ∀ q ∈ r, q.n ≤ 1000000) (hxn : x.n ≤ 1000000) (hvn : vn ≤ 1000) :
    Calls Tryz.prog 95 #[.slice B n c, .slice V vn vc, .agg #[.int .i64 x.node, .int .i64 x.room, .int .i64 x.kilos, .int .i64 x.service, .int .i64 x.frm, .int .i64 x.by_, .slice x.A x.n x.c]] w fun e w' => RetWith w w' (vn + 1) (K.pick33 r v x) e := by
  obtain ⟨g, hg⟩ : ∃ g, g = w.heap.size := ⟨_, rfl⟩
  obtain ⟨w1, hw1⟩ : ∃ w1 : World, w1 = w.alloc (.cells #[.int .i64 x.node, .int .i64 x.room, .int .i64 x.kilos, .int .i64 x.service, .int .i64 x.frm, .int .i64 x.by_, .slice x.A x.n x.c] 47) := ⟨_, rfl⟩
  have b1 : Below w.heap.size w w1 := by rw [hw1]; exact (Below.refl _ _).alloc (Nat.le_refl _) _
  have hB1 : QBlk w1 g x := by rw [hw1, hg]; exact QBlk.new _ _
  have HVN := Lib.hid hV.1
  have HRN := Lib.hid hR.1
  go_enter Tryz.func95, Tryz.ntmps95
  go_wp2_with fail
  rw [← hw1, ← hg]
  clear hw1 hg
  have hown0 : w1.ownsRow w1.heap.size 47 7 (.slice none 0 0) 0 (([] : List Q).flatMap Q.cells) := World.ownsRow_nil _ _ _ _
  go_loopw [7, 12] (fun v7 v12 wr => ∃ (k : Nat) (L : List Q), v12 = .int .i64 k ∧ k ≤ vn ∧ L.length = k ∧ wr.ownsRow w1.heap.size 47 7 v7 k (L.flatMap Q.cells) ∧ QOk wr v7 L ∧ NQ w.heap.size L ∧ Hid (L.map Q.bare = ((v.take k).map (K.req r)).map Q.bare) ∧ Below w1.heap.size w1 wr) (fun _ v12 _ => vn - (intOf v12).toNat)
  case atStart => exact ⟨0, [], rfl, Nat.zero_le _, rfl, hown0, fun q h => (by cases h), fun q h => (by cases h), rfl, Below.refl _ _⟩
  case round =>
    clear hown0
    obtain ⟨k, L, rfl, hk, hLk, hown, hok, hnq, hLM, hbr⟩ := hrel
    by_cases hlt : k < vn
    · obtain ⟨adv, i, hVa, hvi, ci⟩ := (hV.below (bel b1 hbr)).at_ hlt
      obtain ⟨j, rfl⟩ : ∃ j : Nat, i = (j : Int) := ⟨i.toNat, by have := (hv i (List.mem_of_getElem? hvi)).1; omega⟩
      have hjn : j < n := by have := (hv _ (List.mem_of_getElem? hvi)).2; have := HRN.out; omega
      have j0 : (0 : Int) ≤ (j : Int) := by omega
      have j1 : (j : Int) < (n : Int) := by omega
      have k0 : (0 : Int) ≤ (k : Int) := by omega
      have k1 : (k : Int) < (vn : Int) := by omega
      obtain ⟨adq, q, hBa, hq, hW, c0, c1, c2, c3, c4, c5, c6⟩ := (hR.below (bel b1 hbr)).at_ hjn
      have hqn := hrn q (List.mem_of_getElem? hq)
      rw [hVa, hBa]
      go_wp2_with fail
      refine (copied_any q wr hW hqn).mono ?_
      rintro e w2 ⟨⟨A', c', rfl, hW2, hF2⟩, b2⟩
      obtain ⟨g2, hg2⟩ : ∃ g2, g2 = w2.heap.size := ⟨_, rfl⟩
      obtain ⟨w3, hw3⟩ : ∃ w3 : World, w3 = w2.alloc (.cells #[.int .i64 q.node, .int .i64 q.room, .int .i64 q.kilos, .int .i64 q.service, .int .i64 q.frm, .int .i64 q.by_, .slice A' q.n c'] 47) := ⟨_, rfl⟩
      have b3 : Below w2.heap.size w2 w3 := by rw [hw3]; exact (Below.refl _ _).alloc (Nat.le_refl _) _
      have hB3 : w3.heap[g2]? = some (.cells #[.int .i64 q.node, .int .i64 q.room, .int .i64 q.kilos, .int .i64 q.service, .int .i64 q.frm, .int .i64 q.by_, .slice A' q.n c'] 47 (0, 0)) := by rw [hw3, hg2]; exact heap_alloc_new _ _
      have hoff : OffRow A' q.n u7 := fun h0 ad e e2 => by
        have h1 := hF2 h0 ad e
        have h2 := (hown.lt _ e2).2
        omega
      have hnq6 : NQ w.heap.size (L ++ [(⟨q.node, q.room, q.kilos, q.service, q.frm, q.by_, A', q.n, c', q.l⟩ : Q)]) := hnq.snoc (fun h0 ad e => by have h1 := hF2 h0 ad e; have h2 := b1.size; have h3 := hbr.size; omega)
      have b23 := bel b2 b3
      have hown3 := own_below hown b23
      have hok3 := hok.below b23
      have hW3 := hW2.below b3
      have hb3 := bel hbr b23
      have hbs := hb3.size
      have hk9 : k ≤ 1000000 := by omega
      have HNX := Lib.hid (show (L ++ [(⟨q.node, q.room, q.kilos, q.service, q.frm, q.by_, A', q.n, c', q.l⟩ : Q)]).map Q.bare = ((v.take (k + 1)).map (K.req r)).map Q.bare by
        rw [take_snoc hvi, List.map_append, List.map_append, List.map_append, hLM.out, List.map_singleton, List.map_singleton, List.map_singleton, K.req_at hq]
        rfl)
      clear c0 c1 c2 c3 c4 c5 c6 ci hvi hq hW hW2 hF2 hown hok hLM hbr b2 b3 b23 hVa hBa
      go_wp2_with (first
        | (at_builtin; rw [← hw3, ← hg2]; refine app_req rfl _ _ rfl w1.heap.size _ k L rfl hown3 g2 ⟨q.node, q.room, q.kilos, q.service, q.frm, q.by_, A', q.n, c', q.l⟩ rfl hB3 hk9 hbs ?_; intro v6 w6 hown6 hgrow6 hat6)
        | fail)
      have hok6 := hok3.snoc (q := ⟨q.node, q.room, q.kilos, q.service, q.frm, q.by_, A', q.n, c', q.l⟩) hW3 hoff hgrow6 hat6
      have hb6 : Below w1.heap.size w1 w6 := below_own2 hb3 hgrow6 (fun g e => (hown3.lt g e).1)
      clear hok3 hown3 hgrow6 hat6 hB3 hw3
      go_roundw
      case rel => (go_light; exact ⟨k + 1, L ++ [(⟨q.node, q.room, q.kilos, q.service, q.frm, q.by_, A', q.n, c', q.l⟩ : Q)], by go_num, hlt, by rw [List.length_append, hLk]; rfl, hown6, hok6, hnq6, HNX.out, hb6⟩)
      case measure => (go_light; simp [intOf]; omega)
    · have hd : decide ((k : Int) < (vn : Int)) = false := by simp; omega
      have hd2 : decide (k < vn) = false := by simp; omega
      obtain ⟨c0, c1, c2, c3, c4, c5, c6⟩ := (hB1.below hbr).cells
      obtain rfl : k = vn := by omega
      go_wp2_with fail
      refine (copied_any x wr (hX.below (bel b1 hbr)) hxn).mono ?_
      rintro e w2 ⟨⟨A', c', rfl, hW2, hF2⟩, b2⟩
      obtain ⟨g2, hg2⟩ : ∃ g2, g2 = w2.heap.size := ⟨_, rfl⟩
      obtain ⟨w3, hw3⟩ : ∃ w3 : World, w3 = w2.alloc (.cells #[.int .i64 x.node, .int .i64 x.room, .int .i64 x.kilos, .int .i64 x.service, .int .i64 x.frm, .int .i64 x.by_, .slice A' x.n c'] 47) := ⟨_, rfl⟩
      have b3 : Below w2.heap.size w2 w3 := by rw [hw3]; exact (Below.refl _ _).alloc (Nat.le_refl _) _
      have hB3 : w3.heap[g2]? = some (.cells #[.int .i64 x.node, .int .i64 x.room, .int .i64 x.kilos, .int .i64 x.service, .int .i64 x.frm, .int .i64 x.by_, .slice A' x.n c'] 47 (0, 0)) := by rw [hw3, hg2]; exact heap_alloc_new _ _
      have hoff : OffRow A' x.n u7 := fun h0 ad e e2 => by
        have h1 := hF2 h0 ad e
        have h2 := (hown.lt _ e2).2
        omega
      have hnq6 : NQ w.heap.size (L ++ [(⟨x.node, x.room, x.kilos, x.service, x.frm, x.by_, A', x.n, c', x.l⟩ : Q)]) := hnq.snoc (fun h0 ad e => by have h1 := hF2 h0 ad e; have h2 := b1.size; have h3 := hbr.size; omega)
      have b23 := bel b2 b3
      have hown3 := own_below hown b23
      have hok3 := hok.below b23
      have hW3 := hW2.below b3
      have hb3 := bel hbr b23
      have hbs := hb3.size
      have hk9 : k ≤ 1000000 := by omega
      have HNX := Lib.hid (show (L ++ [(⟨x.node, x.room, x.kilos, x.service, x.frm, x.by_, A', x.n, c', x.l⟩ : Q)]).map Q.bare = (K.pick33 r v x).map Q.bare by
        unfold K.pick33
        rw [List.map_append, List.map_append, hLM.out, List.take_of_length_le (by have := HVN.out; omega)]
        rfl)
      clear c0 c1 c2 c3 c4 c5 c6 hW2 hF2 hown hok hLM hbr b2 b3 b23 hd hd2
      go_wp2_with (first
        | (at_builtin; rw [← hw3, ← hg2]; refine app_req rfl _ _ rfl w1.heap.size _ k L rfl hown3 g2 ⟨x.node, x.room, x.kilos, x.service, x.frm, x.by_, A', x.n, c', x.l⟩ rfl hB3 hk9 hbs ?_; intro v6 w6 hown6 hgrow6 hat6)
        | fail)
      have hok6 := hok3.snoc (q := ⟨x.node, x.room, x.kilos, x.service, x.frm, x.by_, A', x.n, c', x.l⟩) hW3 hoff hgrow6 hat6
      have hb6 : Below w1.heap.size w1 w6 := below_own2 hb3 hgrow6 (fun g e => (hown3.lt g e).1)
      have hcap := hown6
      obtain ⟨A9, c9, rfl, hRd, hF9⟩ := own_form hown6
      clear hok3 hown3 hgrow6 hat6 hB3 hw3
      go_wp2_with fail
      go_ret
      exact ⟨⟨A9, c9, _, rfl, ⟨by rw [List.length_append, hLk]; rfl, by rw [reqCells_flat]; exact hRd, fun q hq => (hok6 q hq).1⟩, HNX.out, own_cap33 hcap, fun ad e => Nat.le_trans b1.size (hF9 _ (by rw [e]; rfl)).1, hnq6⟩, bel b1 hb6⟩
end Go.Proofs.YtippdjmpkafifaaGreat

/-
Promises: the walks of numbers and of fits.
-/
namespace Go.Proofs.YtippdjmpkafifaaGreat
open Go.RowKit
/-- The numbers below k, and zeros. -/
def upTo (n k : Nat) : List Int := K.iota k ++ List.replicate (n - k) 0
theorem upTo_zero (n : Nat) : upTo n 0 = List.replicate n 0 := by simp [upTo, K.iota]
theorem upTo_all (n : Nat) : upTo n n = K.iota n := by simp [upTo]
theorem upTo_len {n k : Nat} (h : k ≤ n) : (upTo n k).length = n := by simp [upTo, K.iota]; omega
theorem upTo_set {n k : Nat} (h : k < n) : (upTo n k).set k (k : Int) = upTo n (k + 1) := by
  have h1 : (K.iota k).length = k := by simp [K.iota]
  unfold upTo
  rw [List.set_append_right _ _ (by omega), h1, Nat.sub_self, show n - k = (n - (k + 1)) + 1 by omega, List.replicate_succ, List.set_cons_zero]
  unfold K.iota
  rw [List.range_succ, List.map_append, List.append_assoc]
  rfl

set_option maxRecDepth 100000 in
set_option maxHeartbeats 4000000 in
theorem numbers_any (n : Nat) (w : World) (hn : n ≤ 1000) : Calls Tryz.prog 96 #[.int .i64 n] w fun e w' => (∃ A c, e = .returned (.slice A n c) ∧ Ints w' A n (K.iota n)) ∧ Below w.heap.size w w' := by
  have hmk := make_ints n (by omega)
  obtain ⟨h, hh⟩ : ∃ h, h = w.heap.size := ⟨_, rfl⟩
  obtain ⟨w1, hw1⟩ : ∃ w1 : World, w1 = w.alloc (.cells (intCells (List.replicate n 0)).toArray 3) := ⟨_, rfl⟩
  have b1 : Below w.heap.size w w1 := by rw [hw1]; exact (Below.refl _ _).alloc (Nat.le_refl _) _
  have hI1 : IBlk w1 h (upTo n 0) := by rw [hw1, hh, upTo_zero]; exact heap_alloc_new _ _
  have hwh : w.heap.size ≤ h := by omega
  go_enter Tryz.func96, Tryz.ntmps96
  go_wp2_with fail
  rw [← hw1, ← hh]
  clear hw1 hh hmk
  go_loopw [9] (fun v9 wr => ∃ k : Nat, v9 = .int .i64 k ∧ k ≤ n ∧ IBlk wr h (upTo n k) ∧ Below w.heap.size w wr) (fun v9 _ => n - (intOf v9).toNat)
  case atStart => exact ⟨0, rfl, Nat.zero_le _, hI1, b1⟩
  case round =>
    clear hI1 b1
    obtain ⟨k, rfl, hk, hI, hbr⟩ := hrel
    by_cases hlt : k < n
    · have k0 : (0 : Int) ≤ (k : Int) := by omega
      have k1 : (k : Int) < (n : Int) := by omega
      obtain ⟨x, hx⟩ : ∃ x, (upTo n k)[k]? = some x := ⟨_, List.getElem?_eq_getElem (by rw [upTo_len hk]; exact hlt)⟩
      have c0 := hI.cell hx
      have f0 := hI.free k
      have hI2 : IBlk (wr.setCell ⟨h, k, none⟩ (.int .i64 (k : Int))) h (upTo n (k + 1)) := by rw [← upTo_set hlt]; exact hI.set k k
      have hb2 : Below w.heap.size w (wr.setCell ⟨h, k, none⟩ (.int .i64 (k : Int))) := hbr.setCell (p := ⟨h, k, none⟩) hwh _
      go_wp2_with fail
      go_roundw
      case rel => (go_light; exact ⟨k + 1, by go_num, hlt, hI2, hb2⟩)
      case measure => (go_light; simp [intOf]; omega)
    · obtain rfl : k = n := by omega
      have hd : decide ((k : Int) < (k : Int)) = false := by simp
      have hd2 : decide (k < k) = false := by simp
      have hz := hI.ints
      rw [upTo_len (Nat.le_refl _), upTo_all] at hz
      go_wp2_with fail
      go_ret
      exact ⟨⟨_, _, rfl, hz⟩, hbr⟩

set_option maxRecDepth 100000 in
set_option maxHeartbeats 4000000 in
theorem fits94_any (nd : Int) (A : Option Addr) (n c : Nat) (x : Q) (w : World) (hX : Wins w x.A x.n x.l) (hxn : x.n ≤ 1000000000) :
    Calls Tryz.prog 94 #[.agg #[.int .i64 nd, .slice A n c], .agg #[.int .i64 x.node, .int .i64 x.room, .int .i64 x.kilos, .int .i64 x.service, .int .i64 x.frm, .int .i64 x.by_, .slice x.A x.n x.c]] w fun e w' => e = .returned (.bool (K.fits33 nd x)) ∧ Below w.heap.size w w' := by
  obtain ⟨g, hg⟩ : ∃ g, g = w.heap.size := ⟨_, rfl⟩
  obtain ⟨w0, hw0⟩ : ∃ w0 : World, w0 = w.alloc (.cells #[.int .i64 nd, .slice A n c] 24) := ⟨_, rfl⟩
  have b0 : Below w.heap.size w w0 := by rw [hw0]; exact (Below.refl _ _).alloc (Nat.le_refl _) _
  have z0 : w0.heap.size = g + 1 := by rw [hw0, hg]; exact World.size_alloc _ _
  have hN0 : Net w0 g nd A n c := by rw [hw0, hg]; exact Net.new _ _ _ _ _
  obtain ⟨w1, hw1⟩ : ∃ w1 : World, w1 = w0.alloc (.cells #[.int .i64 x.node, .int .i64 x.room, .int .i64 x.kilos, .int .i64 x.service, .int .i64 x.frm, .int .i64 x.by_, .slice x.A x.n x.c] 47) := ⟨_, rfl⟩
  have b1 : Below w0.heap.size w0 w1 := by rw [hw1]; exact (Below.refl _ _).alloc (Nat.le_refl _) _
  have hB1 : QBlk w1 (g + 1) x := by rw [hw1, ← z0]; exact QBlk.new _ _
  have hN1 := hN0.below b1
  have hb1 := bel b0 b1
  obtain ⟨c0, c1, c2, c3, c4, c5, c6⟩ := hB1.cells
  have CR := tright_any x w1 (hX.below hb1) hxn
  obtain ⟨z, hz⟩ : ∃ z, z = T.right x := ⟨_, rfl⟩
  rw [← hz] at CR
  have HZ := Lib.hid hz
  go_enter Tryz.func94, Tryz.ntmps94
  rw [hw1, hw0, hg] at c0 c1 c2 c3 c4 c5 c6
  go_wp2_with fail
  rw [← hw0, ← hw1]
  refine CR.mono ?_
  rintro e w2 ⟨rfl, b2⟩
  clear hz CR c0 c1 c2 c3 c4 c5 c6 hw0 hw1
  have hN2 := hN1.below b2
  have hB2 := hB1.below b2
  have p0 := hN2.c0
  have q0 := hB2.cells.1
  rw [hg] at p0 q0
  have hb2 := bel hb1 b2
  cases z
  · go_wp2_with fail
    go_ret
    exact ⟨by unfold K.fits33; rw [← HZ.out]; rfl, hb2⟩
  · go_wp2_with fail
    go_ret
    exact ⟨by unfold K.fits33; rw [← HZ.out]; rfl, hb2⟩
end Go.Proofs.YtippdjmpkafifaaGreat

/-
Promises: the walks of blocks and of find.
-/
namespace Go.Proofs.YtippdjmpkafifaaGreat
open Go.RowKit
/-- A book in a block. -/
def BkBlk (w : World) (g : Nat) (x : Cs) : Prop := w.heap[g]? = some (.cells #[.int .i64 x.nd, .slice x.A x.n x.c, .slice x.SA x.sn x.sc, .slice x.B x.m x.d] 44 (0, 0))
theorem BkBlk.below {w w' : World} {g : Nat} {x : Cs} (h : BkBlk w g x) (hb : Below w.heap.size w w') : BkBlk w' g x := blk_below hb h
theorem BkBlk.new (w : World) (x : Cs) : BkBlk (w.alloc (.cells #[.int .i64 x.nd, .slice x.A x.n x.c, .slice x.SA x.sn x.sc, .slice x.B x.m x.d] 44)) w.heap.size x := heap_alloc_new w _
/-- The cells of a book and of a request. -/
def BQ (g : Nat) (x : Cs) (q : Q) (w' : World) : Prop := (fun w' : World => w'.cell? ⟨g, 0, none⟩ = some (.int .i64 x.nd) ∧ w'.cell? ⟨g, 1, none⟩ = some (.slice x.A x.n x.c) ∧ w'.cell? ⟨g, 2, none⟩ = some (.slice x.SA x.sn x.sc) ∧ w'.cell? ⟨g, 3, none⟩ = some (.slice x.B x.m x.d) ∧
  w'.cell? ⟨g + 1, 0, none⟩ = some (.int .i64 q.node) ∧ w'.cell? ⟨g + 1, 1, none⟩ = some (.int .i64 q.room) ∧ w'.cell? ⟨g + 1, 2, none⟩ = some (.int .i64 q.kilos) ∧ w'.cell? ⟨g + 1, 3, none⟩ = some (.int .i64 q.service) ∧ w'.cell? ⟨g + 1, 4, none⟩ = some (.int .i64 q.frm) ∧ w'.cell? ⟨g + 1, 5, none⟩ = some (.int .i64 q.by_) ∧ w'.cell? ⟨g + 1, 6, none⟩ = some (.slice q.A q.n q.c)) w'
theorem BQ.mk' {w : World} {g : Nat} {x : Cs} {q : Q} (h1 : BkBlk w g x) (h2 : QBlk w (g + 1) q) : BQ g x q w :=
  ⟨blk_cell h1 0 _ rfl, blk_cell h1 1 _ rfl, blk_cell h1 2 _ rfl, blk_cell h1 3 _ rfl, h2.cells⟩
/-- What a request and a book must be for the walks. -/
structure Ok33 (w : World) (x : Cs) (q : Q) : Prop where
  cs : CsAt w x
  req : Wins w q.A q.n q.l
  m : x.m ≤ 100
  qs : ∀ p ∈ x.r, p.n ≤ 1000000
  q : q.n ≤ 1000000
theorem Ok33.below {w w' : World} {x : Cs} {q : Q} (h : Ok33 w x q) (hb : Below w.heap.size w w') : Ok33 w' x q := ⟨h.cs.below hb, h.req.below hb, h.m, h.qs, h.q⟩
theorem Ok33.len {w : World} {x : Cs} {q : Q} (h : Ok33 w x q) (v : List Int) : ∀ p ∈ K.pick33 x.r v q, p.l.length ≤ 1000000 := fun p hp => by
  unfold K.pick33 at hp
  rcases List.mem_append.1 hp with hp | hp
  · obtain ⟨i, -, rfl⟩ := List.mem_map.1 hp
    unfold K.req
    cases hi : x.r[i.toNat]? with
    | none => exact Nat.zero_le _
    | some p =>
      have hm := List.mem_of_getElem? hi
      have h1 := (h.cs.reqs.2.2 p hm).1
      have h2 := h.qs p hm
      show p.l.length ≤ _
      omega
  · rw [List.mem_singleton.1 hp]
    have h1 := h.req.1
    have h2 := h.q
    omega
/-- The case with other requests. -/
def Cs.with_ (x : Cs) (A : Option Addr) (m k : Nat) (L : List Q) : Cs := ⟨x.nd, x.A, x.n, x.c, x.l, x.SA, x.sn, x.sc, x.ss, A, m, k, L⟩
theorem Ok33.case {w w' : World} {x : Cs} {q : Q} (h : Ok33 w x q) (hb : Below w.heap.size w w') {A : Option Addr} {m k : Nat} {L : List Q} {v : List Int} (hL : Reqs w' A m L) (e : L.map Q.bare = (K.pick33 x.r v q).map Q.bare) (hm : m ≤ 1000000) : CsAt w' (x.with_ A m k L) :=
  ⟨(h.cs.below hb).net, (h.cs.below hb).shifts, hL, h.cs.b1, h.cs.b2, h.cs.b3, (show m ≤ 1000000000 by omega), fun p hp => by have := same_n hL e (h.len v) p hp; omega⟩

set_option maxRecDepth 100000 in
set_option maxHeartbeats 8000000 in
theorem blocks151_any (x : Cs) (q : Q) (V : Option Addr) (vn vc : Nat) (v : List Int) (w : World) (hx : Ok33 w x q) (hV : Ints w V vn v) (hv : ∀ i ∈ v, 0 ≤ i ∧ i < (x.r.length : Int)) (hvn : vn ≤ 1000) :
    Calls Tryz.prog 151 #[.agg #[.int .i64 x.nd, .slice x.A x.n x.c, .slice x.SA x.sn x.sc, .slice x.B x.m x.d], .slice V vn vc, .agg #[.int .i64 q.node, .int .i64 q.room, .int .i64 q.kilos, .int .i64 q.service, .int .i64 q.frm, .int .i64 q.by_, .slice q.A q.n q.c]] w fun e w' => e = .returned (.bool (K.blocks33 x.nd x.l x.ss x.r q v)) ∧ Below w.heap.size w w' := by
  obtain ⟨g, hg⟩ : ∃ g, g = w.heap.size := ⟨_, rfl⟩
  obtain ⟨w0, hw0⟩ : ∃ w0 : World, w0 = w.alloc (.cells #[.int .i64 x.nd, .slice x.A x.n x.c, .slice x.SA x.sn x.sc, .slice x.B x.m x.d] 44) := ⟨_, rfl⟩
  have b0 : Below w.heap.size w w0 := by rw [hw0]; exact (Below.refl _ _).alloc (Nat.le_refl _) _
  have z0 : w0.heap.size = g + 1 := by rw [hw0, hg]; exact World.size_alloc _ _
  have hN0 : BkBlk w0 g x := by rw [hw0, hg]; exact BkBlk.new _ _
  obtain ⟨wb, hw1⟩ : ∃ wb : World, wb = w0.alloc (.cells #[.int .i64 q.node, .int .i64 q.room, .int .i64 q.kilos, .int .i64 q.service, .int .i64 q.frm, .int .i64 q.by_, .slice q.A q.n q.c] 47) := ⟨_, rfl⟩
  have b1 : Below w0.heap.size w0 wb := by rw [hw1]; exact (Below.refl _ _).alloc (Nat.le_refl _) _
  have hB1 : QBlk wb (g + 1) q := by rw [hw1, ← z0]; exact QBlk.new _ _
  have hN1 := hN0.below b1
  have hb1 := bel b0 b1
  have hmk : ∀ w', Below wb.heap.size wb w' → BQ g x q w' := fun w' h => BQ.mk' (hN1.below h) (hB1.below h)
  have hbd : Below wb.heap.size wb wb.drew := (Below.refl _ _).drew
  have S0 := hmk _ (Below.refl _ _)
  have S0d := hmk _ hbd
  have hxb := hx.below hb1
  have hVb := hV.below hb1
  obtain ⟨pz, hpz⟩ : ∃ pz, pz = (K.plan x.nd x.l x.ss (K.pick33 x.r v q)).2 := ⟨_, rfl⟩
  have HX := Lib.hid (show K.blocks33 x.nd x.l x.ss x.r q v = (pz == 4) by unfold K.blocks33; rw [← hpz])
  have HPL := Lib.hid (show ∀ L : List Q, L.map Q.bare = (K.pick33 x.r v q).map Q.bare → (K.plan x.nd x.l x.ss L).2 = pz from fun L e => by rw [hpz, K.plan_same e rfl])
  have hm9 := hx.m
  clear hpz
  go_enter Tryz.func151, Tryz.ntmps151
  go_upto_region 1 with fail
  rw [← hw0, ← hw1]
  clear hw0 hw1 z0 hN0 b0 b1 hB1 hN1
  unfold BQ at S0 S0d hmk
  subst hg
  go_region_held3 (fun w' : World => w'.cell? ⟨w.heap.size, 0, none⟩ = some (.int .i64 x.nd) ∧ w'.cell? ⟨w.heap.size, 1, none⟩ = some (.slice x.A x.n x.c) ∧ w'.cell? ⟨w.heap.size, 2, none⟩ = some (.slice x.SA x.sn x.sc) ∧ w'.cell? ⟨w.heap.size, 3, none⟩ = some (.slice x.B x.m x.d) ∧ w'.cell? ⟨w.heap.size + 1, 0, none⟩ = some (.int .i64 q.node) ∧ w'.cell? ⟨w.heap.size + 1, 1, none⟩ = some (.int .i64 q.room) ∧ w'.cell? ⟨w.heap.size + 1, 2, none⟩ = some (.int .i64 q.kilos) ∧ w'.cell? ⟨w.heap.size + 1, 3, none⟩ = some (.int .i64 q.service) ∧ w'.cell? ⟨w.heap.size + 1, 4, none⟩ = some (.int .i64 q.frm) ∧ w'.cell? ⟨w.heap.size + 1, 5, none⟩ = some (.int .i64 q.by_) ∧ w'.cell? ⟨w.heap.size + 1, 6, none⟩ = some (.slice q.A q.n q.c))
    (first | with_reducible exact S2 | with_reducible exact S1 | with_reducible exact S0d | with_reducible exact S0 | fail)
    (first
      | (go_at_call 95; refine (with_any x.B x.m x.d x.r V vn vc v q _ (hxb.below hbd).cs.reqs (hVb.below hbd) hv (hxb.below hbd).req hx.qs hx.q hvn).mono ?_; rintro e wc ⟨⟨A1, k1, L1, rfl, hL1, hLb, hk1, -, -⟩, bc⟩; have bc2 := bel hbd bc; have S1 := hmk _ bc2)
      | (go_at_call 20; refine (plan32_any (x.with_ A1 (vn + 1) k1 L1) _ (hxb.case bc2 hL1 hLb (by omega))).mono ?_; rintro e wd ⟨⟨PA, pn, pc, pl, rfl, -, -, -⟩, bd⟩; have bd2 := bel bc2 bd; have S2 := hmk _ bd2)
      | fail)
  have hz : (K.plan (x.with_ A1 (vn + 1) k1 L1).nd (x.with_ A1 (vn + 1) k1 L1).l (x.with_ A1 (vn + 1) k1 L1).ss (x.with_ A1 (vn + 1) k1 L1).r).2 = pz := HPL.out L1 hLb
  rw [hz]
  go_wp2_with fail
  go_ret
  exact ⟨by rw [HX.out]; rfl, bel hb1 bd2⟩
end Go.Proofs.YtippdjmpkafifaaGreat

/-
Promises: the walks of slices.Clone, of roads, of shifts and of requests.
-/
namespace Go.Proofs.YtippdjmpkafifaaGreat
open Go.RowKit
theorem flat_one {α : Type} (f : α → List Value) (h : ∀ x, ∀ u ∈ f x, u.oneCell' = true) (l : List α) : ∀ u ∈ l.flatMap f, u.oneCell' = true := fun u hu => by
  obtain ⟨x, -, h2⟩ := List.mem_flatMap.1 hu
  exact h x u h2
theorem road_one (x : Ro) : ∀ u ∈ roadCells x, u.oneCell' = true := by
  intro u hu
  simp only [roadCells, List.mem_cons, List.not_mem_nil, or_false] at hu
  rcases hu with rfl | rfl | rfl | rfl <;> rfl
theorem req_one (x : Q) : ∀ u ∈ Q.cells x, u.oneCell' = true := by
  intro u hu
  simp only [Q.cells, List.mem_cons, List.not_mem_nil, or_false] at hu
  rcases hu with rfl | rfl | rfl | rfl | rfl | rfl | rfl <;> rfl

theorem eql22 (a : Option Addr) (l c : Nat) (w : World) : (binOp .eql 22 (.slice a l c) (.slice none 0 0)).run Tryz.prog w = .ok (.bool a.isNone) w := Go.run_eql_slice_nil w 22 134 a l c Tryz.underlying22
theorem clone149_info : (Tryz.prog.info? 134).map (fun i => (i.zero, i.size, i.bytes)) = some (some (.agg #[.int .i64 0, .int .i64 0, .int .i64 0, .int .i64 0]), 4, 32) := by kernel_rfl
set_option maxHeartbeats 2000000 in
theorem clone149 (A : Option Addr) (n c : Nat) (xs : List Value) (w : World) (hl : Rd w 4 A n xs) (h1 : ∀ u ∈ xs, u.oneCell' = true) (hn : n ≤ 1000000) :
    Calls Tryz.prog 149 #[.slice A n c] w fun e w' => (∃ v, e = .returned v ∧ w'.ownsRow w.heap.size 134 4 v n xs) ∧ Below w.heap.size w w' := by
  obtain ⟨i0, hi, hz0, hz1, hz2⟩ := info_parts clone149_info
  have heq := eql22
  cases A with
  | none =>
    go_enter Tryz.func149, Tryz.ntmps149
    go_wp2_with fail
    go_ret
    have h0 : n = 0 := by
      cases n with
      | zero => rfl
      | succ n => obtain ⟨ad, e, _⟩ := hl.2 (by omega); cases e
    subst h0
    have hl0 : xs = [] := List.length_eq_zero_iff.1 (by have := hl.1; omega)
    subst hl0
    exact ⟨⟨_, rfl, World.ownsRow_nil _ _ _ _⟩, Below.refl _ _⟩
  | some ad =>
    have hlit : (w.alloc (.cells #[] 134)).ownsRow w.heap.size 134 4 (.slice (some ⟨w.heap.size, 0, none⟩) 0 0) 0 [] := World.ownsRow_lit w #[] 0 (Nat.le_refl _) (by simp only [maxLen]; omega) (by simp)
    have hb0 := (Below.refl w.heap.size w).alloc (Nat.le_refl _) (.cells #[] 134)
    go_enter Tryz.func149, Tryz.ntmps149
    go_wp2_with (at_builtin; refine wp_append_rd rfl (.tmp 5) (.tmp 6) 22 rfl w.heap.size 134 i0 (.agg #[.int .i64 0, .int .i64 0, .int .i64 0, .int .i64 0]) 4 32 Tryz.underlying22 hi hz0 hz1 hz2 rfl (by decide) _ 0 _ rfl hlit (some ad) n c xs rfl (hl.below hb0) h1 (by simp only [maxLen]; omega) (by omega) (by first | (simp; done) | (simp; omega)) ?_; intro v' w4 hown4 hgrow4 hat4)
    rw [Nat.zero_add] at hown4
    have hb4 : Below w.heap.size w w4 := below_own hb0 (Nat.le_refl _) hgrow4 (fun g h => (hlit.lt g h).1)
    clear hgrow4 hat4
    go_wp2_with fail
    go_ret
    exact ⟨⟨_, rfl, hown4⟩, hb4⟩

theorem eql25 (a : Option Addr) (l c : Nat) (w : World) : (binOp .eql 25 (.slice a l c) (.slice none 0 0)).run Tryz.prog w = .ok (.bool a.isNone) w := Go.run_eql_slice_nil w 25 63 a l c Tryz.underlying25
theorem clone150_info : (Tryz.prog.info? 63).map (fun i => (i.zero, i.size, i.bytes)) = some (some (.agg #[.int .i64 0, .int .i64 0, .int .i64 0, .int .i64 0, .int .i64 0, .slice none 0 0]), 6, 64) := by kernel_rfl
set_option maxHeartbeats 2000000 in
theorem clone150 (A : Option Addr) (n c : Nat) (xs : List Value) (w : World) (hl : Rd w 6 A n xs) (h1 : ∀ u ∈ xs, u.oneCell' = true) (hn : n ≤ 1000000) :
    Calls Tryz.prog 150 #[.slice A n c] w fun e w' => (∃ v, e = .returned v ∧ w'.ownsRow w.heap.size 63 6 v n xs) ∧ Below w.heap.size w w' := by
  obtain ⟨i0, hi, hz0, hz1, hz2⟩ := info_parts clone150_info
  have heq := eql25
  cases A with
  | none =>
    go_enter Tryz.func150, Tryz.ntmps150
    go_wp2_with fail
    go_ret
    have h0 : n = 0 := by
      cases n with
      | zero => rfl
      | succ n => obtain ⟨ad, e, _⟩ := hl.2 (by omega); cases e
    subst h0
    have hl0 : xs = [] := List.length_eq_zero_iff.1 (by have := hl.1; omega)
    subst hl0
    exact ⟨⟨_, rfl, World.ownsRow_nil _ _ _ _⟩, Below.refl _ _⟩
  | some ad =>
    have hlit : (w.alloc (.cells #[] 63)).ownsRow w.heap.size 63 6 (.slice (some ⟨w.heap.size, 0, none⟩) 0 0) 0 [] := World.ownsRow_lit w #[] 0 (Nat.le_refl _) (by simp only [maxLen]; omega) (by simp)
    have hb0 := (Below.refl w.heap.size w).alloc (Nat.le_refl _) (.cells #[] 63)
    go_enter Tryz.func150, Tryz.ntmps150
    go_wp2_with (at_builtin; refine wp_append_rd rfl (.tmp 5) (.tmp 6) 25 rfl w.heap.size 63 i0 (.agg #[.int .i64 0, .int .i64 0, .int .i64 0, .int .i64 0, .int .i64 0, .slice none 0 0]) 6 64 Tryz.underlying25 hi hz0 hz1 hz2 rfl (by decide) _ 0 _ rfl hlit (some ad) n c xs rfl (hl.below hb0) h1 (by simp only [maxLen]; omega) (by omega) (by first | (simp; done) | (simp; omega)) ?_; intro v' w4 hown4 hgrow4 hat4)
    rw [Nat.zero_add] at hown4
    have hb4 : Below w.heap.size w w4 := below_own hb0 (Nat.le_refl _) hgrow4 (fun g h => (hlit.lt g h).1)
    clear hgrow4 hat4
    go_wp2_with fail
    go_ret
    exact ⟨⟨_, rfl, hown4⟩, hb4⟩

theorem clone120_info : (Tryz.prog.info? 47).map (fun i => (i.zero, i.size, i.bytes)) = some (some (.agg #[.int .i64 0, .int .i64 0, .int .i64 0, .int .i64 0, .int .i64 0, .int .i64 0, .slice none 0 0]), 7, 72) := by kernel_rfl
end Go.Proofs.YtippdjmpkafifaaGreat

/-
Promises: the walk of book.
-/
namespace Go.Proofs.YtippdjmpkafifaaGreat
open Go.RowKit
theorem Rd.sets {w : World} {size n : Nat} {A : Option Addr} {xs : List Value} (h : Rd w size A n xs) (l : List (Addr × Value)) (hl : 0 < n → ∀ ad, A = some ad → ∀ p ∈ l, p.1.block ≠ ad.block) : Rd (Sets w l) size A n xs :=
  ⟨h.1, fun hn => by
    obtain ⟨ad, e, hc⟩ := h.2 hn
    exact ⟨ad, e, fun j u hu => (World.cell?_of_block (Sets.other l w _ (by rw [add_block]; exact hl hn ad e))).trans (hc j u hu)⟩⟩
theorem own_sets {base : Nat} {e : TypeId} {size n : Nat} {v : Value} {xs : List Value} : ∀ (l : List (Addr × Value)) {w : World}, w.ownsRow base e size v n xs → (∀ p ∈ l, p.1.block < base) → (Sets w l).ownsRow base e size v n xs
  | [], _, h, _ => h
  | p :: l, _, h, hl => own_sets l (ownsRow_setCell_below h (hl p (List.mem_cons_self ..)) _) fun q hq => hl q (List.mem_cons_of_mem _ hq)
theorem shift_one (x : S) : ∀ u ∈ S.cells x, u.oneCell' = true := by
  intro u hu
  simp only [S.cells, List.mem_cons, List.not_mem_nil, or_false] at hu
  rcases hu with rfl | rfl | rfl | rfl | rfl | rfl <;> rfl
/-- Shifts whose rooms lie away from their row. -/
def SOk (w : World) (v : Value) (L : List S) : Prop := ∀ s ∈ L, Ints w s.A s.n s.l ∧ OffRow s.A s.n v
theorem SOk.below {w w' : World} {v : Value} {L : List S} (h : SOk w v L) (hb : Below w.heap.size w w') : SOk w' v L := fun q hq => ⟨(h q hq).1.below hb, (h q hq).2⟩
/-- A shift with other rooms. -/
def S.rooms (s : S) (A : Option Addr) (c : Nat) : S := ⟨s.day, s.depot, s.start, s.end_, s.tare, A, s.n, c, s.l⟩
theorem set_cells {L : List S} {k : Nat} {s : S} (hk : L[k]? = some s) (A : Option Addr) (c : Nat) : (L.flatMap S.cells).set (k * 6 + 5) (.slice A s.n c) = (L.set k (s.rooms A c)).flatMap S.cells := by
  induction L generalizing k with
  | nil => cases hk
  | cons x L ih =>
    cases k with
    | zero =>
      rw [List.getElem?_cons_zero] at hk
      injection hk with hk
      subst hk
      rfl
    | succ k =>
      rw [List.getElem?_cons_succ] at hk
      rw [List.set_cons_succ, List.flatMap_cons, List.flatMap_cons, ← ih hk, show (k + 1) * 6 + 5 = x.cells.length + (k * 6 + 5) by show _ = 6 + _; omega, List.set_append_right _ _ (by omega), Nat.add_sub_cancel_left]
theorem bare_set {L : List S} {k : Nat} {s : S} (hk : L[k]? = some s) (A : Option Addr) (c : Nat) : (L.set k (s.rooms A c)).map S.bare = L.map S.bare := by
  rw [List.map_set]
  apply List.ext_getElem?
  intro i
  rw [List.getElem?_set]
  by_cases e : k = i
  · subst e
    have hl := (List.getElem?_eq_some_iff.1 hk).1
    rw [if_pos rfl, List.length_map, if_pos hl, List.getElem?_map, hk]
    rfl
  · rw [if_neg e]

theorem Ints.sets {w : World} {A : Option Addr} {n : Nat} {l : List Int} (h : Ints w A n l) (m : List (Addr × Value)) (hl : 0 < n → ∀ ad, A = some ad → ∀ p ∈ m, p.1.block ≠ ad.block) : Ints (Sets w m) A n l := ⟨h.1, h.2.sets m hl⟩
theorem set4_blk {w : World} {g : Nat} {x0 x1 x2 x3 : Value} {t : TypeId} (h : w.heap[g]? = some (.cells #[x0, x1, x2, x3] t (0, 0))) (y0 y1 y2 y3 : Value) : (Sets w [(⟨g, 0, none⟩, y0), (⟨g, 1, none⟩, y1), (⟨g, 2, none⟩, y2), (⟨g, 3, none⟩, y3)]).heap[g]? = some (.cells #[y0, y1, y2, y3] t (0, 0)) := by
  have c0 := blk_set h 0 y0
  have c1 := blk_set c0 1 y1
  have c2 := blk_set c1 2 y2
  have c3 := blk_set c2 3 y3
  simp only [List.setIfInBounds_toArray, List.set_cons_zero, List.set_cons_succ] at c3
  exact c3
theorem set4_in {g : Nat} {y0 y1 y2 y3 : Value} {p : Addr × Value} (h : p ∈ [((⟨g, 0, none⟩ : Addr), y0), (⟨g, 1, none⟩, y1), (⟨g, 2, none⟩, y2), (⟨g, 3, none⟩, y3)]) : p.1.block = g := by
  simp only [List.mem_cons, List.not_mem_nil, or_false] at h
  rcases h with rfl | rfl | rfl | rfl <;> rfl
/-- The first rooms lie in new memory, the others are as they were. -/
def NS (b : Nat) (ss L : List S) (k : Nat) : Prop := ∀ i s, L[i]? = some s → (i < k → 0 < s.n → ∀ ad, s.A = some ad → b ≤ ad.block) ∧ (k ≤ i → ss[i]? = some s)
theorem flat_at {L : List S} {k : Nat} {s : S} (hk : L[k]? = some s) (j : Nat) (hj : j < 6) : (L.flatMap S.cells)[k * 6 + j]? = s.cells[j]? := flat_get S.cells 6 (fun _ => rfl) L k s hk j hj

set_option maxRecDepth 100000 in
set_option maxHeartbeats 16000000 in
theorem book_any (x : Cs) (A : Option Addr) (m1 d1 : Nat) (w : World) (hR : Roads w x.A x.n x.l) (hS : Shifts w x.SA x.sn x.ss) (hn : x.n ≤ 1000000) (hsn : x.sn ≤ 1000000) (hsr : ∀ s ∈ x.ss, s.n ≤ 1000000) :
    Calls Tryz.prog 97 #[.agg #[.int .i64 x.nd, .slice x.A x.n x.c, .slice x.SA x.sn x.sc, .slice x.B x.m x.d], .slice A m1 d1] w fun e w' => (∃ RA rc SA sc ss, e = .returned (.agg #[.int .i64 x.nd, .slice RA x.n rc, .slice SA x.sn sc, .slice A m1 d1]) ∧ Roads w' RA x.n x.l ∧ Shifts w' SA x.sn ss ∧ ss.map S.bare = x.ss.map S.bare ∧ (0 < x.n → ∀ ad, RA = some ad → w.heap.size ≤ ad.block) ∧ (∀ ad, SA = some ad → w.heap.size ≤ ad.block) ∧ ∀ s ∈ ss, 0 < s.n → ∀ ad, s.A = some ad → w.heap.size ≤ ad.block) ∧ Below w.heap.size w w' := by
  obtain ⟨nd, RA, n, c, l, SA, sn, sc, ss, B, m, d, r⟩ := x
  dsimp only at hR hS hn hsn hsr ⊢
  clear r
  obtain ⟨w0, hw0⟩ : ∃ w0 : World, w0 = w.alloc (.cells #[.int .i64 nd, .slice RA n c, .slice SA sn sc, .slice B m d] 44) := ⟨_, rfl⟩
  have b0 : Below w.heap.size w w0 := by rw [hw0]; exact (Below.refl _ _).alloc (Nat.le_refl _) _
  have z0 : w0.heap.size = w.heap.size + 1 := by rw [hw0]; exact World.size_alloc _ _
  have hN0 : w0.heap[w.heap.size]? = some (.cells #[.int .i64 nd, .slice RA n c, .slice SA sn sc, .slice B m d] 44 (0, 0)) := by rw [hw0]; exact heap_alloc_new _ _
  obtain ⟨wb, hw1⟩ : ∃ wb : World, wb = w0.alloc (.cells #[.int .i64 0, .slice none 0 0, .slice none 0 0, .slice none 0 0] 44) := ⟨_, rfl⟩
  have b1 : Below w0.heap.size w0 wb := by rw [hw1]; exact (Below.refl _ _).alloc (Nat.le_refl _) _
  have z1 : wb.heap.size = w.heap.size + 2 := by rw [hw1, World.size_alloc, z0]
  have hZ1 : wb.heap[w.heap.size + 1]? = some (.cells #[.int .i64 0, .slice none 0 0, .slice none 0 0, .slice none 0 0] 44 (0, 0)) := by rw [hw1, ← z0]; exact heap_alloc_new _ _
  have hN1 := blk_below b1 hN0
  have hb1 := bel b0 b1
  have hRb : Roads wb RA n l := Lst.below hR hb1
  have hSb := hS.below hb1
  have hmk : ∀ w', Below wb.heap.size wb w' → (fun w' : World => w'.cell? ⟨w.heap.size, 0, none⟩ = some (.int .i64 nd) ∧ w'.cell? ⟨w.heap.size, 1, none⟩ = some (.slice RA n c) ∧ w'.cell? ⟨w.heap.size, 2, none⟩ = some (.slice SA sn sc) ∧ w'.cell? ⟨w.heap.size, 3, none⟩ = some (.slice B m d)) w' := fun w' h => ⟨blk_cell (blk_below h hN1) 0 _ rfl, blk_cell (blk_below h hN1) 1 _ rfl, blk_cell (blk_below h hN1) 2 _ rfl, blk_cell (blk_below h hN1) 3 _ rfl⟩
  have hbd : Below wb.heap.size wb wb.drew := (Below.refl _ _).drew
  have hzd : wb.drew.heap.size = wb.heap.size := rfl
  go_enter Tryz.func97, Tryz.ntmps97
  go_upto_region 1 with fail
  rw [← hw0, ← hw1]
  clear hw0 hw1 z0 hN0 b0 b1
  have HSN := Lib.hid hS.1.1
  go_cut [10] from 7 to 18 (fun v10 we => ∃ A1 k1 A2 k2 B2, v10 = .slice A1 n k1 ∧ we.heap[w.heap.size]? = some (.cells #[.int .i64 nd, .slice A1 n k1, .slice A2 sn k2, .slice A m1 d1] 44 (0, 0)) ∧ we.heap[w.heap.size + 1]? = some (.cells #[.int .i64 0, .slice none 0 0, .slice none 0 0, .slice none 0 0] 44 (0, 0)) ∧ Roads we A1 n l ∧ we.ownsRow B2 63 6 (.slice A2 sn k2) sn (ss.flatMap S.cells) ∧ SOk we (.slice A2 sn k2) ss ∧ (0 < n → ∀ ad, A1 = some ad → wb.heap.size ≤ ad.block ∧ ad.block < B2) ∧ wb.heap.size ≤ B2 ∧ Below w.heap.size w we)
  case first =>
    obtain ⟨p0, p1, p2, p3⟩ := hmk _ hbd
    go_region_with (first
        | (go_at_call 149; refine (clone149 RA n c _ _ (hRb.below hbd).2 (flat_one _ road_one _) hn).mono ?_; rintro e wc ⟨⟨v1, rfl, hown1⟩, bc⟩; obtain ⟨A1, k1, rfl, hRd1, hF1⟩ := own_form hown1; have bc2 := bel hbd bc; obtain ⟨c0, c1, c2, c3⟩ := hmk _ bc2)
        | (go_at_call 150; refine (clone150 SA sn sc _ _ (hSb.below bc2).1.2 (flat_one _ shift_one _) hsn).mono ?_; rintro e wd ⟨⟨v2, rfl, hown2⟩, bd⟩; obtain ⟨A2, k2, rfl, -, hF2⟩ := own_form hown2; have bd2 := bel bc2 bd; have hNd := blk_below bd2 hN1; have f0 := blk_free hNd; obtain ⟨q0, q1, q2, q3⟩ := hmk _ bd2)
        | fail)
    all_goals
      obtain ⟨we, hwe⟩ : ∃ we, we = Sets wd [(⟨w.heap.size, 1, none⟩, .slice A1 n k1), (⟨w.heap.size, 2, none⟩, .slice A2 sn k2), (⟨w.heap.size, 3, none⟩, .slice A m1 d1)] := ⟨_, rfl⟩
      have hwc : wb.heap.size ≤ wc.heap.size := bc2.size
      have hNe : we.heap[w.heap.size]? = some (.cells #[.int .i64 nd, .slice A1 n k1, .slice A2 sn k2, .slice A m1 d1] 44 (0, 0)) := by
        rw [hwe]
        have e0 := blk_set hNd 1 (.slice A1 n k1)
        have e1 := blk_set e0 2 (.slice A2 sn k2)
        have e2 := blk_set e1 3 (.slice A m1 d1)
        simp only [List.setIfInBounds_toArray, List.set_cons_zero, List.set_cons_succ] at e2
        exact e2
      have hZe : we.heap[w.heap.size + 1]? = some (.cells #[.int .i64 0, .slice none 0 0, .slice none 0 0, .slice none 0 0] 44 (0, 0)) := by
        rw [hwe]
        refine (Sets.other _ wd _ (fun p hp => ?_)).trans (blk_below bd2 hZ1)
        simp only [List.mem_cons, List.not_mem_nil, or_false] at hp
        rcases hp with rfl | rfl | rfl <;> simp
      have hRe : Roads we A1 n l := by
        rw [hwe]
        refine ⟨hRb.1, (hRd1.below bd).sets _ (fun h0 ad e p hp => ?_)⟩
        have h9 := (hF1 ad.block (by rw [e]; rfl)).1
        simp only [List.mem_cons, List.not_mem_nil, or_false] at hp
        rcases hp with rfl | rfl | rfl <;> (dsimp only; omega)
      have hOe : we.ownsRow wc.heap.size 63 6 (.slice A2 sn k2) sn (ss.flatMap S.cells) := by
        rw [hwe]
        refine own_sets _ hown2 (fun p hp => ?_)
        simp only [List.mem_cons, List.not_mem_nil, or_false] at hp
        rcases hp with rfl | rfl | rfl <;> (dsimp only; omega)
      have hbe : Below w.heap.size w we := by
        rw [hwe]
        refine Sets.below _ _ _ (bel hb1 bd2) (fun p hp => ?_)
        simp only [List.mem_cons, List.not_mem_nil, or_false] at hp
        rcases hp with rfl | rfl | rfl <;> exact Nat.le_refl _
      have hSe : SOk we (.slice A2 sn k2) ss := fun s hs => by
        have h8 := (hS.2 s hs)
        refine ⟨h8.below hbe, fun h0 ad e e2 => ?_⟩
        have h9 := (hF2 _ e2).1
        have h7 := h8.lt_of h0 e
        omega
      have hF1z : 0 < n → ∀ ad, A1 = some ad → wb.heap.size ≤ ad.block ∧ ad.block < wc.heap.size := fun h0 ad e => hF1 ad.block (by rw [e]; rfl)
      simp only [Sets] at hwe
      rw [← hwe]
      clear hwe hNd f0 q0 q1 q2 q3 p0 p1 p2 p3 hown2 hown1 hRd1 hF1 c0 c1 c2 c3
      go_wp2_with fail
      go_meet
      exact ⟨A1, k1, A2, k2, wc.heap.size, rfl, hNe, hZe, hRe, hOe, hSe, hF1z, hwc, hbe⟩
  case rest =>
    obtain ⟨A1, k1, A2, k2, B2, rfl, hNe, hZe, hRe, hOe, hSe, hF1z, hwc, hbe⟩ := hcut
    have p2 := blk_cell hNe 2 _ rfl
    have hwB : w.heap.size + 2 ≤ B2 := by omega
    have HNS : NS wb.heap.size ss ss 0 := fun i s hs => ⟨fun h => absurd h (Nat.not_lt_zero _), fun _ => hs⟩
    clear hmk hbd hzd hN1 hZ1 hb1 hRb hSb
    go_wp2_with fail
    clear p2
    go_loopw [22] (fun v22 wr => ∃ (k : Nat) (L : List S), v22 = .int .i64 k ∧ k ≤ sn ∧ L.length = sn ∧ Hid (L.map S.bare = ss.map S.bare) ∧ wr.ownsRow B2 63 6 (.slice A2 sn k2) sn (L.flatMap S.cells) ∧ SOk wr (.slice A2 sn k2) L ∧ NS wb.heap.size ss L k ∧ (∀ s ∈ L, s.n ≤ 1000000) ∧ Roads wr A1 n l ∧ wr.heap[w.heap.size]? = some (.cells #[.int .i64 nd, .slice A1 n k1, .slice A2 sn k2, .slice A m1 d1] 44 (0, 0)) ∧ wr.heap[w.heap.size + 1]? = some (.cells #[.int .i64 0, .slice none 0 0, .slice none 0 0, .slice none 0 0] 44 (0, 0)) ∧ Below w.heap.size w wr) (fun v22 _ => sn - (intOf v22).toNat)
    case atStart => exact ⟨0, ss, rfl, Nat.zero_le _, HSN.out.symm, rfl, hOe, hSe, HNS, hsr, hRe, hNe, hZe, hbe⟩
    case round =>
      clear hOe hSe HNS hRe hNe hZe hbe
      obtain ⟨k, L, rfl, hk, hLl, hLb, hO, hok, hns, hln, hRr, hN, hZ, hbr⟩ := hrel
      have p0 := blk_cell hN 0 _ rfl
      have p1 := blk_cell hN 1 _ rfl
      have p2 := blk_cell hN 2 _ rfl
      have p3 := blk_cell hN 3 _ rfl
      have HLL := Lib.hid hLl
      clear hLl
      by_cases hlt : k < sn
      · obtain ⟨gs, cap, e, hg1, hg2⟩ := hO.form (by omega)
        injection e with e1 e2 e3
        subst e1 e3
        obtain ⟨s, hs⟩ : ∃ s, L[k]? = some s := ⟨_, List.getElem?_eq_getElem (by rw [HLL.out]; exact hlt)⟩
        obtain ⟨hI, hoff⟩ := hok s (List.mem_of_getElem? hs)
        have hsn6 := hln s (List.mem_of_getElem? hs)
        have k0 : (0 : Int) ≤ (k : Int) := by omega
        have k1 : (k : Int) < (sn : Int) := by omega
        have ce : ∀ (W : World), W.ownsRow B2 63 6 (.slice (some ⟨gs, 0, none⟩) sn k2) sn (L.flatMap S.cells) → ∀ j (hj : j < 6), W.cell? ⟨gs, k * 6 + j, none⟩ = s.cells[j]? := fun W hW j hj => by
          rw [hW.cellAt (k * 6 + j) (by omega), flat_at hs j hj]
        have c0 : wr.cell? ⟨gs, k * 6, none⟩ = some (.int .i64 s.day) := ce wr hO 0 (by decide)
        have c1 : wr.cell? ⟨gs, k * 6 + 1, none⟩ = some (.int .i64 s.depot) := ce wr hO 1 (by decide)
        have c2 : wr.cell? ⟨gs, k * 6 + 2, none⟩ = some (.int .i64 s.start) := ce wr hO 2 (by decide)
        have c3 : wr.cell? ⟨gs, k * 6 + 3, none⟩ = some (.int .i64 s.end_) := ce wr hO 3 (by decide)
        have c4 : wr.cell? ⟨gs, k * 6 + 4, none⟩ = some (.int .i64 s.tare) := ce wr hO 4 (by decide)
        have c5 : wr.cell? ⟨gs, k * 6 + 5, none⟩ = some (.slice s.A s.n s.c) := ce wr hO 5 (by decide)
        have HCE := Lib.hid ce
        clear ce
        obtain ⟨w5, hw5⟩ : ∃ w5 : World, w5 = wr.alloc (.cells #[.int .i64 s.day, .int .i64 s.depot, .int .i64 s.start, .int .i64 s.end_, .int .i64 s.tare, .slice s.A s.n s.c] 63) := ⟨_, rfl⟩
        obtain ⟨gx, hgx⟩ : ∃ gx, gx = wr.heap.size := ⟨_, rfl⟩
        have b5 : Below wr.heap.size wr w5 := by rw [hw5]; exact (Below.refl _ _).alloc (Nat.le_refl _) _
        have hX5 : Shf w5 gx s := by rw [hw5, hgx]; exact Shf.new _ _
        have hN5 := blk_below b5 hN
        have hO5 := own_below hO b5
        have hok5 := hok.below b5
        have hI5 := hI.below b5
        have hbr5 := bel hbr b5
        have hne1 : gs ≠ gx := by omega
        have hne2 : gs ≠ w.heap.size := by omega
        have hbd5 : Below w5.heap.size w5 w5.drew := (Below.refl _ _).drew
        have hmk : ∀ w', Below w5.heap.size w5 w' → (fun w' : World => w'.cell? ⟨w.heap.size, 2, none⟩ = some (.slice (some ⟨gs, 0, none⟩) sn k2) ∧ w'.cell? ⟨gx, 5, none⟩ = some (.slice s.A s.n s.c)) w' := fun w' h => ⟨blk_cell (blk_below h hN5) 2 _ rfl, (hX5.below h).c5⟩
        have S0 := hmk _ (Below.refl _ _)
        have S0d := hmk _ hbd5
        have hfar : ∀ (W : World) (u : Value), (fun w' : World => w'.cell? ⟨w.heap.size, 2, none⟩ = some (.slice (some ⟨gs, 0, none⟩) sn k2) ∧ w'.cell? ⟨gx, 5, none⟩ = some (.slice s.A s.n s.c)) W → (fun w' : World => w'.cell? ⟨w.heap.size, 2, none⟩ = some (.slice (some ⟨gs, 0, none⟩) sn k2) ∧ w'.cell? ⟨gx, 5, none⟩ = some (.slice s.A s.n s.c)) (W.setCell ⟨gs, k * 6 + 5, none⟩ u) := fun W u h => ⟨(World.cell?_setCell_far W _ _ u hne2).trans h.1, (World.cell?_setCell_far W _ _ u hne1).trans h.2⟩
        have hsz5 := b5.size
        go_upto_region 5 with fail
        rw [← hw5]
        subst hgx
        clear hw5 c0 c1 c2 c3 c4 c5
        go_region_held3 (fun w' : World => w'.cell? ⟨w.heap.size, 2, none⟩ = some (.slice (some ⟨gs, 0, none⟩) sn k2) ∧ w'.cell? ⟨wr.heap.size, 5, none⟩ = some (.slice s.A s.n s.c))
          (first | with_reducible exact S2 | with_reducible exact S1 | with_reducible exact S0d | with_reducible exact S0 | fail)
          (first
            | (go_at_call 109; refine (clone_own s.A s.n s.c s.l _ (hI5.below hbd5) hsn6).mono ?_; rintro e w6 ⟨⟨v5, rfl, hown5⟩, b6⟩; obtain ⟨A5, c5, rfl, hR5, hF5⟩ := own_form hown5; have b6r := bel hbd5 b6; have S1 := hmk _ b6r; have hrow := own_below hO5 b6r; have f5 := hrow.frozenAt (k * 6 + 5); have q5 : w6.cell? ⟨gs, k * 6 + 5, none⟩ = some (.slice s.A s.n s.c) := HCE.out w6 hrow 5 (by decide); have S2 := hfar w6 (.slice A5 s.n c5) S1)
            | fail)
        have hst := hrow.stored (k * 6 + 5) (.slice A5 s.n c5)
        obtain ⟨w7, hw7⟩ : ∃ w7, w7 = w6.setCell ⟨gs, k * 6 + 5, none⟩ (.slice A5 s.n c5) := ⟨_, rfl⟩
        rw [← hw7] at hst
        obtain ⟨hO7, hg7⟩ := hst
        rw [set_cells hs] at hO7
        have hb6 := bel hbr5 b6r
        have hb7 : Below w.heap.size w w7 := by rw [hw7]; exact hb6.setCell (p := ⟨gs, k * 6 + 5, none⟩) (by dsimp only; omega) _
        have hN7 := grow_blk hg7 (blk_below b6r hN5) (fun e => hne2 (by injection e with e; exact e.symm))
        have hZ7 := grow_blk hg7 (blk_below b6r (blk_below b5 hZ)) (fun e => by injection e with e; omega)
        have hR7 : Roads w7 A1 n l := ⟨hRr.1, by
          have h9 := ((Lst.below (Lst.below hRr b5) b6r).2).sets [(⟨gs, k * 6 + 5, none⟩, .slice A5 s.n c5)] (fun h0 ad e p hp => by
            rw [List.mem_singleton.1 hp]
            have := (hF1z h0 ad e).2
            dsimp only
            omega)
          simp only [Sets] at h9
          rw [← hw7] at h9
          exact h9⟩
        have hgo : ∀ t : S, Ints w6 t.A t.n t.l → OffRow t.A t.n (.slice (some ⟨gs, 0, none⟩) sn k2) → Ints w7 t.A t.n t.l := fun t h1 h2 => h1.grow hg7 (fun h0 ad e e2 => h2 h0 ad e e2.symm)
        have hA5 : 0 < s.n → ∀ ad, A5 = some ad → w5.heap.size ≤ ad.block := fun h0 ad e => (hF5 ad.block (by rw [e]; rfl)).1
        have hI6 : Ints w6 A5 s.n s.l := ⟨hI.1, hR5⟩
        have ho5 : OffRow A5 s.n (.slice (some ⟨gs, 0, none⟩) sn k2) := fun h0 ad e e2 => by
          have h1 := hA5 h0 ad e
          injection e2 with e2
          dsimp only at e2
          omega
        have hok7 : SOk w7 (.slice (some ⟨gs, 0, none⟩) sn k2) (L.set k (s.rooms A5 c5)) := fun t ht => by
          rcases List.mem_or_eq_of_mem_set ht with ht | rfl
          · obtain ⟨h1, h2⟩ := hok5 t ht
            exact ⟨hgo t (h1.below b6r) h2, h2⟩
          · exact ⟨hgo (s.rooms A5 c5) hI6 ho5, ho5⟩
        have hns7 : NS wb.heap.size ss (L.set k (s.rooms A5 c5)) (k + 1) := fun i t ht => by
          rw [List.getElem?_set] at ht
          by_cases hki : k = i
          · subst hki
            rw [if_pos rfl, if_pos (by rw [HLL.out]; exact hlt)] at ht
            injection ht with ht
            subst ht
            exact ⟨fun _ h0 ad e => (by have h1 := hA5 h0 ad e; omega), fun h => absurd h (by omega)⟩
          · rw [if_neg hki] at ht
            obtain ⟨h1, h2⟩ := hns i t ht
            exact ⟨fun h => h1 (by omega), fun h => h2 (by omega)⟩
        have hln7 : ∀ t ∈ L.set k (s.rooms A5 c5), t.n ≤ 1000000 := fun t ht => by
          rcases List.mem_or_eq_of_mem_set ht with ht | rfl
          · exact hln t ht
          · exact hsn6
        have HB7 := Lib.hid (show (L.set k (s.rooms A5 c5)).map S.bare = ss.map S.bare by rw [bare_set hs, hLb.out])
        have HL7 := Lib.hid (show (L.set k (s.rooms A5 c5)).length = sn by rw [List.length_set, HLL.out])
        rw [← hw7]
        clear hw7 hg7 hrow f5 q5 S1 S2 S0 S0d hmk hfar hown5 hR5 hF5 hA5 hI6 ho5 hgo hO5 hok5 hN5 hX5 hs hO hok hN hZ hRr hbr b6 b6r
        go_wp2_with fail
        go_roundw
        case rel => (go_light; exact ⟨k + 1, L.set k (s.rooms A5 c5), by go_num, hlt, HL7.out, HB7.out, hO7, hok7, hns7, hln7, hR7, hN7, hZ7, hb7⟩)
        case measure => (go_light; simp [intOf]; omega)
      · have d3 : decide ((k : Int) < (sn : Int)) = false := by simp; omega
        have d2 : decide (k < sn) = false := by simp; omega
        have f0 := blk_free hZ
        have z0 := blk_cell hZ 0 _ rfl
        have z1 := blk_cell hZ 1 _ rfl
        have z2 := blk_cell hZ 2 _ rfl
        have z3 := blk_cell hZ 3 _ rfl
        go_wp2_with fail
        obtain ⟨M, hM⟩ : ∃ M : List (Addr × Value), M = [(⟨w.heap.size + 1, 0, none⟩, .int .i64 nd), (⟨w.heap.size + 1, 1, none⟩, .slice A1 n k1), (⟨w.heap.size + 1, 2, none⟩, .slice A2 sn k2), (⟨w.heap.size + 1, 3, none⟩, .slice A m1 d1)] := ⟨_, rfl⟩
        have hMb : ∀ p ∈ M, p.1.block = w.heap.size + 1 := fun p hp => by rw [hM] at hp; exact set4_in hp
        obtain ⟨wz, hwz⟩ : ∃ wz, wz = Sets wr M := ⟨_, rfl⟩
        have hZz : wz.heap[w.heap.size + 1]? = some (.cells #[.int .i64 nd, .slice A1 n k1, .slice A2 sn k2, .slice A m1 d1] 44 (0, 0)) := by rw [hwz, hM]; exact set4_blk hZ _ _ _ _
        have hbz : Below w.heap.size w wz := by rw [hwz]; exact Sets.below M wr wr (Below.refl _ _) (fun p hp => by rw [hMb p hp]; omega) |> fun h => hbr.trans h
        have hRz : Roads wz A1 n l := by rw [hwz]; exact ⟨hRr.1, hRr.2.sets M (fun h0 ad e p hp => by rw [hMb p hp]; have := (hF1z h0 ad e).1; omega)⟩
        obtain ⟨A9, c9, e9, hRd, hF9⟩ := own_form hO
        injection e9 with e1 e2 e3
        subst e1
        have hnw : ∀ s ∈ L, 0 < s.n → ∀ ad, s.A = some ad → wb.heap.size ≤ ad.block := fun t ht h0 ad e => by
          obtain ⟨i, hi, e2⟩ := List.getElem_of_mem ht
          exact (hns i t (by rw [List.getElem?_eq_getElem hi, e2])).1 (by have := HLL.out; omega) h0 ad e
        have hSz : Shifts wz A2 sn L := by
          rw [hwz]
          refine ⟨⟨HLL.out.symm, hRd.sets M (fun h0 ad e p hp => by rw [hMb p hp]; have := (hF9 ad.block (by rw [e]; rfl)).1; omega)⟩, fun t ht => (hok t ht).1.sets M (fun h0 ad e p hp => by rw [hMb p hp]; have := hnw t ht h0 ad e; omega)⟩
        simp only [hM, Sets] at hwz
        rw [← hwz]
        refine bodyPost_ret_by (v := .agg #[.int .i64 nd, .slice A1 n k1, .slice A2 sn k2, .slice A m1 d1]) (results_cell_row rfl _ wz (w.heap.size + 1) 44 _ (0, 0) _ rfl hZz Tryz.underlying44 rfl (by kernel_rfl)) rfl ?_
        exact ⟨⟨A1, k1, A2, k2, L, rfl, hRz, hSz, hLb.out, fun h0 ad e => (by have := (hF1z h0 ad e).1; omega), fun ad e => (by have := (hF9 ad.block (by rw [e]; rfl)).1; omega), fun t ht h0 ad e => (by have := hnw t ht h0 ad e; omega)⟩, hbz⟩
end Go.Proofs.YtippdjmpkafifaaGreat

/-
Promises: the walk of find.
-/
namespace Go.Proofs.YtippdjmpkafifaaGreat
open Go.RowKit
namespace K
section
variable {nd : Int} {l : List Ro} {ss : List S} {r : List Q} {x : Q}
theorem find33_zero (c : List Int) (f : Nat) : find33 nd l ss r x c 0 f = if blocks33 nd l ss r x c = true then some c else none := by
  unfold find33
  rw [A.combos, List.map_singleton, List.append_nil, List.find?_singleton]
theorem find33_done (c : List Int) {n f : Nat} (h : r.length ≤ f) : find33 nd l ss r x c (n + 1) f = none := by
  unfold find33
  rw [A.combos, Nat.sub_eq_zero_of_le h]
  rfl
theorem find33_step (c : List Int) {n f : Nat} (h : f < r.length) : find33 nd l ss r x c (n + 1) f = (find33 nd l ss r x (c ++ [(f : Int)]) n (f + 1)).or (find33 nd l ss r x c (n + 1) (f + 1)) := by
  have e : (A.combos r.length (n + 1) f).map (c ++ ·) = (A.combos r.length n (f + 1)).map ((c ++ [(f : Int)]) ++ ·) ++ (A.combos r.length (n + 1) (f + 1)).map (c ++ ·) := by
    rw [A.combos, A.combos, show r.length - f = (r.length - (f + 1)) + 1 by omega, List.range'_succ, List.flatMap_cons, List.map_append, List.map_map]
    congr 1
    refine List.map_congr_left fun v _ => ?_
    show c ++ ((f : Int) :: v) = _
    rw [List.append_assoc]
    rfl
  unfold find33
  rw [e, List.find?_append]
end
end K
/-- What promise.find hands back. -/
def RetFind (B0 : Nat) (w w' : World) (o : Option (List Int)) (e : Ending) : Prop :=
  (∃ A n k b, e = .returned (.tuple #[.slice A n k, .bool b]) ∧ b = o.isSome ∧ (∀ v, o = some v → Ints w' A n v) ∧ ∀ ad, A = some ad → B0 ≤ ad.block) ∧ Below w.heap.size w w'

set_option maxRecDepth 100000 in
set_option maxHeartbeats 16000000 in
theorem find_any (x : Cs) (q : Q) (B0 : Nat) : ∀ (many frm : Nat) (C : Option Addr) (cn cc : Nat) (c : List Int) (w : World), Ok33 w x q → Ints w C cn c → (∀ i ∈ c, 0 ≤ i ∧ i < (x.r.length : Int)) → cn + many ≤ 500 → frm ≤ x.m → B0 ≤ w.heap.size → (∀ ad, C = some ad → B0 ≤ ad.block) →
    Calls Tryz.prog 98 #[.agg #[.int .i64 x.nd, .slice x.A x.n x.c, .slice x.SA x.sn x.sc, .slice x.B x.m x.d], .agg #[.int .i64 q.node, .int .i64 q.room, .int .i64 q.kilos, .int .i64 q.service, .int .i64 q.frm, .int .i64 q.by_, .slice q.A q.n q.c], .slice C cn cc, .int .i64 frm, .int .i64 many] w fun e w' => RetFind B0 w w' (K.find33 x.nd x.l x.ss x.r q c many frm) e := by
  intro many
  induction many with
  | zero =>
    intro frm C cn cc c w hx hC hc hcn hf hB0 hCf
    obtain ⟨w0, hw0⟩ : ∃ w0 : World, w0 = w.alloc (.cells #[.int .i64 x.nd, .slice x.A x.n x.c, .slice x.SA x.sn x.sc, .slice x.B x.m x.d] 44) := ⟨_, rfl⟩
    have b0 : Below w.heap.size w w0 := by rw [hw0]; exact (Below.refl _ _).alloc (Nat.le_refl _) _
    have z0 : w0.heap.size = w.heap.size + 1 := by rw [hw0]; exact World.size_alloc _ _
    have hN0 : BkBlk w0 w.heap.size x := by rw [hw0]; exact BkBlk.new _ _
    obtain ⟨wb, hw1⟩ : ∃ wb : World, wb = w0.alloc (.cells #[.int .i64 q.node, .int .i64 q.room, .int .i64 q.kilos, .int .i64 q.service, .int .i64 q.frm, .int .i64 q.by_, .slice q.A q.n q.c] 47) := ⟨_, rfl⟩
    have b1 : Below w0.heap.size w0 wb := by rw [hw1]; exact (Below.refl _ _).alloc (Nat.le_refl _) _
    have hB1 : QBlk wb (w.heap.size + 1) q := by rw [hw1, ← z0]; exact QBlk.new _ _
    have hN1 := hN0.below b1
    have hb1 := bel b0 b1
    have S0 := BQ.mk' hN1 hB1
    unfold BQ at S0
    obtain ⟨p0, p1, p2, p3, c0, c1, c2, c3, c4, c5, c6⟩ := S0
    have CB := blocks151_any x q C cn cc c wb (hx.below hb1) (hC.below hb1) hc (by omega)
    obtain ⟨z, hz⟩ : ∃ z, z = K.blocks33 x.nd x.l x.ss x.r q c := ⟨_, rfl⟩
    rw [← hz] at CB
    have HZ := Lib.hid hz
    rw [hw1, hw0] at p0 p1 p2 p3 c0 c1 c2 c3 c4 c5 c6
    clear hz
    go_enter Tryz.func98, Tryz.ntmps98
    go_wp2_with fail
    rw [← hw0, ← hw1]
    refine CB.mono ?_
    rintro e w2 ⟨rfl, b2⟩
    clear p0 p1 p2 p3 c0 c1 c2 c3 c4 c5 c6 CB
    go_wp2_with fail
    go_ret2
    refine ⟨⟨C, cn, cc, z, rfl, ?_, fun v hv => ?_, hCf⟩, bel hb1 b2⟩
    · rw [K.find33_zero, ← HZ.out]
      cases z <;> rfl
    · rw [K.find33_zero, ← HZ.out] at hv
      cases z
      · cases hv
      · injection hv with hv
        subst hv
        exact (hC.below hb1).below b2
  | succ many ih =>
    intro frm C cn cc c w hx hC hc hcn hf hB0 hCf
    obtain ⟨w0, hw0⟩ : ∃ w0 : World, w0 = w.alloc (.cells #[.int .i64 x.nd, .slice x.A x.n x.c, .slice x.SA x.sn x.sc, .slice x.B x.m x.d] 44) := ⟨_, rfl⟩
    have b0 : Below w.heap.size w w0 := by rw [hw0]; exact (Below.refl _ _).alloc (Nat.le_refl _) _
    have z0 : w0.heap.size = w.heap.size + 1 := by rw [hw0]; exact World.size_alloc _ _
    have hN0 : BkBlk w0 w.heap.size x := by rw [hw0]; exact BkBlk.new _ _
    obtain ⟨wb, hw1⟩ : ∃ wb : World, wb = w0.alloc (.cells #[.int .i64 q.node, .int .i64 q.room, .int .i64 q.kilos, .int .i64 q.service, .int .i64 q.frm, .int .i64 q.by_, .slice q.A q.n q.c] 47) := ⟨_, rfl⟩
    have b1 : Below w0.heap.size w0 wb := by rw [hw1]; exact (Below.refl _ _).alloc (Nat.le_refl _) _
    have hB1 : QBlk wb (w.heap.size + 1) q := by rw [hw1, ← z0]; exact QBlk.new _ _
    have hN1 := hN0.below b1
    have hb1 := bel b0 b1
    have HMK := Lib.hid (show ∀ w', Below wb.heap.size wb w' → (fun w' : World => w'.cell? ⟨w.heap.size, 0, none⟩ = some (.int .i64 x.nd) ∧ w'.cell? ⟨w.heap.size, 1, none⟩ = some (.slice x.A x.n x.c) ∧ w'.cell? ⟨w.heap.size, 2, none⟩ = some (.slice x.SA x.sn x.sc) ∧ w'.cell? ⟨w.heap.size, 3, none⟩ = some (.slice x.B x.m x.d) ∧ w'.cell? ⟨w.heap.size + 1, 0, none⟩ = some (.int .i64 q.node) ∧ w'.cell? ⟨w.heap.size + 1, 1, none⟩ = some (.int .i64 q.room) ∧ w'.cell? ⟨w.heap.size + 1, 2, none⟩ = some (.int .i64 q.kilos) ∧ w'.cell? ⟨w.heap.size + 1, 3, none⟩ = some (.int .i64 q.service) ∧ w'.cell? ⟨w.heap.size + 1, 4, none⟩ = some (.int .i64 q.frm) ∧ w'.cell? ⟨w.heap.size + 1, 5, none⟩ = some (.int .i64 q.by_) ∧ w'.cell? ⟨w.heap.size + 1, 6, none⟩ = some (.slice q.A q.n q.c)) w' from fun w' h => BQ.mk' (hN1.below h) (hB1.below h))
    have HRN := Lib.hid hx.cs.reqs.1
    have hm9 := hx.m
    obtain ⟨M, hM⟩ : ∃ M, M = many + 1 := ⟨_, rfl⟩
    have kM : IntKind.i64.wrap ((M : Int) - 1) = (many : Int) := by rw [IntWalk.i64_in _ (by omega)]; omega
    have hd : ((M : Int) == 0) = false := by simp; omega
    have hd2 : decide ((M : Int) = 0) = false := by simp; omega
    have hd3 : decide (M = 0) = false := by simp; omega
    rw [← hM]
    obtain ⟨o, ho⟩ : ∃ o, o = K.find33 x.nd x.l x.ss x.r q c M frm := ⟨_, rfl⟩
    have HO := Lib.hid ho
    have HM := Lib.hid hM
    have IH := Lib.hid ih
    rw [← ho]
    clear ho hM hN0 b0 z0 b1 ih
    go_enter Tryz.func98, Tryz.ntmps98
    go_wp2_with fail
    rw [← hw0, ← hw1]
    clear hw0 hw1 hd hd2 hd3
    go_loopw [12] (fun v12 wr => ∃ i : Nat, v12 = .int .i64 i ∧ i ≤ x.m ∧ Hid (o = K.find33 x.nd x.l x.ss x.r q c M i) ∧ Below wb.heap.size wb wr) (fun v12 _ => x.m - (intOf v12).toNat)
    case atStart => exact ⟨frm, rfl, hf, HO.out, Below.refl _ _⟩
    case round =>
      obtain ⟨i, rfl, hi, hoi, hbr⟩ := hrel
      by_cases hlt : i < x.m
      · have d1 : decide ((i : Int) < (x.m : Int)) = true := by simp; omega
        have d2 : decide (i < x.m) = true := by simp; omega
        have S0 := HMK.out _ hbr
        have hbrd : Below wr.heap.size wr wr.drew := (Below.refl _ _).drew
        have hal : Below wr.heap.size wr (wr.alloc (.cells #[.int .i64 (i : Int)] 3)).drew := ((Below.refl _ _).alloc (Nat.le_refl _) _).drew
        have S0d := HMK.out _ (bel hbr hbrd)
        have S0a := HMK.out _ (bel hbr hal)
        have S0b := HMK.out _ (bel hbr ((Below.refl _ _).alloc (Nat.le_refl _) (.cells #[.int .i64 (i : Int)] 3)))
        obtain ⟨i1, hi1⟩ : ∃ i1, i1 = i + 1 := ⟨_, rfl⟩
        have kI : IntKind.i64.wrap ((i : Int) + 1) = (i1 : Int) := by rw [IntWalk.i64_in _ (by omega)]; omega
        have hi6 : i1 ≤ x.m := by omega
        have HI1 := Lib.hid hi1
        have hcn9 : cn ≤ 1000000 := by omega
        have hcn6 : cn + 1 + many ≤ 500 := by omega
        have hxr := hx.below (bel hb1 hbr)
        have hB0r : B0 ≤ wr.heap.size := Nat.le_trans hB0 (bel hb1 hbr).size
        have hCr := hC.below (bel hb1 hbr)
        have hc6 : ∀ j ∈ c ++ [(i : Int)], 0 ≤ j ∧ j < (x.r.length : Int) := fun j hj => by
          rcases List.mem_append.1 hj with hj | hj
          · exact hc j hj
          · rw [List.mem_singleton.1 hj]
            have := HRN.out
            omega
        obtain ⟨o1, ho1⟩ : ∃ o1, o1 = K.find33 x.nd x.l x.ss x.r q (c ++ [(i : Int)]) many i1 := ⟨_, rfl⟩
        have HO1 := Lib.hid ho1
        have HST := Lib.hid (show o = o1.or (K.find33 x.nd x.l x.ss x.r q c M i1) by
          rw [hoi.out, ho1, HM.out, hi1]
          exact K.find33_step c (by have := HRN.out; omega))
        clear hi1 ho1 hoi
        go_upto_region 6 with fail
        go_region_held3 (fun w' : World => w'.cell? ⟨w.heap.size, 0, none⟩ = some (.int .i64 x.nd) ∧ w'.cell? ⟨w.heap.size, 1, none⟩ = some (.slice x.A x.n x.c) ∧ w'.cell? ⟨w.heap.size, 2, none⟩ = some (.slice x.SA x.sn x.sc) ∧ w'.cell? ⟨w.heap.size, 3, none⟩ = some (.slice x.B x.m x.d) ∧ w'.cell? ⟨w.heap.size + 1, 0, none⟩ = some (.int .i64 q.node) ∧ w'.cell? ⟨w.heap.size + 1, 1, none⟩ = some (.int .i64 q.room) ∧ w'.cell? ⟨w.heap.size + 1, 2, none⟩ = some (.int .i64 q.kilos) ∧ w'.cell? ⟨w.heap.size + 1, 3, none⟩ = some (.int .i64 q.service) ∧ w'.cell? ⟨w.heap.size + 1, 4, none⟩ = some (.int .i64 q.frm) ∧ w'.cell? ⟨w.heap.size + 1, 5, none⟩ = some (.int .i64 q.by_) ∧ w'.cell? ⟨w.heap.size + 1, 6, none⟩ = some (.slice q.A q.n q.c))
          (first | with_reducible exact S7 | with_reducible exact S6 | with_reducible exact S5a | with_reducible exact S5 | with_reducible exact S0a | with_reducible exact S0d | with_reducible exact S0b | with_reducible exact S0 | fail)
          (first
            | (go_at_call 109; refine (clone_own C cn cc c _ (hCr.below ?_) hcn9).mono ?_; (first | with_reducible exact hbrd | with_reducible exact hal | fail); rintro e w5 ⟨⟨v5, rfl, hown5⟩, b5⟩; (first | (have hL5 := blk_below b5 (heap_alloc_new wr (.cells #[.int .i64 (i : Int)] 3)); have b5r := bel hal b5) | have b5r := bel hbrd b5 | fail); have S5 := HMK.out _ (bel hbr b5r); have b5a : Below w5.heap.size w5 (w5.alloc (.cells #[.int .i64 (i : Int)] 3)) := (Below.refl _ _).alloc (Nat.le_refl _) _; have S5a := HMK.out _ (bel hbr (bel b5r b5a)); have hbs5 := b5.size)
            | (have h9 := hown5; clear hown5; refine step_app_two rfl (.tmp 34) (.tmp 36) rfl h9 hbs5 rfl wr.heap.size (i : Int) rfl (Below.refl _ _) hL5 hcn9 ?_; intro A6 c6 w6 hI6 hA6 hg6 hb6; have b6r := b5r.trans (hb6.mono hal.size); have hA6f : ∀ ad, A6 = some ad → B0 ≤ ad.block := fun ad e => Nat.le_trans (Nat.le_trans hB0r hal.size) (hA6 ad e); have S6 := HMK.out _ (bel hbr b6r))
            | (have h9 := hown5; clear hown5; refine step_app_two rfl (.tmp 34) (.tmp 36) rfl h9 hbs5 rfl w5.heap.size (i : Int) rfl b5a (heap_alloc_new w5 _) hcn9 ?_; intro A6 c6 w6 hI6 hA6 hg6 hb6; have b6r := (bel b5r b5a).trans (hb6.mono hbrd.size); have hA6f : ∀ ad, A6 = some ad → B0 ≤ ad.block := fun ad e => Nat.le_trans hB0r (hA6 ad e); have S6 := HMK.out _ (bel hbr b6r))
            | (go_at_call 98; refine (IH.out i1 A6 (cn + 1) c6 (c ++ [(i : Int)]) _ (hxr.below b6r) hI6 hc6 hcn6 hi6 (Nat.le_trans hB0r b6r.size) hA6f).mono ?_; rw [← HO1.out]; rintro e w7 ⟨⟨A7, n7, k7, z7, rfl, hz7, hI7, hF7⟩, b7⟩; have HF7 := Lib.hid hF7; have HZ7 := Lib.hid hz7; have HI7 := Lib.hid hI7; clear hz7 hI7 hF7; have b7r := bel b6r b7; have S7 := HMK.out _ (bel hbr b7r))
            | fail)
        all_goals
          have hb7 := bel hbr b7r
          have hz7 := HZ7.out
          have hI7 := HI7.out
          cases z7
          · have HN := Lib.hid (show o = K.find33 x.nd x.l x.ss x.r q c M i1 by
              rw [HST.out]
              cases o1 with
              | none => rfl
              | some v => cases hz7)
            clear hz7 hI7
            go_wp2_with fail
            go_roundw
            case rel => (go_light; exact ⟨i1, rfl, hi6, HN.out, hb7⟩)
            case measure => (go_light; simp [intOf]; have := HI1.out; omega)
          · obtain ⟨v, hv⟩ : ∃ v, o1 = some v := by
              cases o1 with
              | none => cases hz7
              | some v => exact ⟨v, rfl⟩
            have HN := Lib.hid (show o = some v by rw [HST.out, hv]; rfl)
            have hI8 := hI7 v hv
            clear hz7 hI7 hv
            go_wp2_with fail
            go_ret2
            exact ⟨⟨A7, n7, k7, true, rfl, by rw [HN.out]; rfl, (fun u hu => by rw [HN.out] at hu; injection hu with hu; rw [← hu]; exact hI8), HF7.out⟩, bel hb1 hb7⟩
      · have d1 : decide ((i : Int) < (x.m : Int)) = false := by simp; omega
        have d2 : decide (i < x.m) = false := by simp; omega
        have HN := Lib.hid (show o = none by rw [hoi.out, HM.out]; exact K.find33_done c (by have := HRN.out; omega))
        have S0 := HMK.out _ hbr
        obtain ⟨p0, p1, p2, p3, -⟩ := S0
        clear hoi
        go_wp2_with fail
        go_ret2
        exact ⟨⟨none, 0, 0, false, rfl, by rw [HN.out]; rfl, (fun v hv => by rw [HN.out] at hv; cases hv), (fun ad e => (by cases e))⟩, bel hb1 hbr⟩
end Go.Proofs.YtippdjmpkafifaaGreat
