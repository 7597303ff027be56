/-
Plans: the walk of PlanProves.
-/
import Derived.Test.YtippdjmpkafifaaY23S
namespace Go.Proofs.Ytippdjmpkafifaa
open Go.RowKit
section
variable {nd : Int} {l : List Ro} {ss : List S} {r : List Q}
theorem K.err_cases {ts : List (Int × K.Tr)} {bl : List (Int × List Int × List Lb)} (h : K.pcheck nd l ss r ≠ 0) : ∃ c : Int, (c = 1 ∨ c = 6) ∧ K.plan nd l ss r = ([], c) ∧ K.refute nd l ss r = ([], c) ∧ K.checks nd l ss r ts = c ∧ K.refutes nd l ss r bl = false := by
  have h0 := K.plan_err h
  rcases K.pcheck_cases (nd := nd) (l := l) (ss := ss) (r := r) with e | e | e
  · exact absurd e h
  · rw [e] at h0
    exact ⟨1, .inl rfl, h0, by rw [K.refute_other (by rw [h0]; decide) (by rw [h0]; decide), h0], by rw [K.checks_err h, e], K.refutes_err h⟩
  · rw [e] at h0
    exact ⟨6, .inr rfl, h0, by rw [K.refute_other (by rw [h0]; decide) (by rw [h0]; decide), h0], by rw [K.checks_err h, e], K.refutes_err h⟩
theorem K.yes_case (bl : List (Int × List Int × List Lb)) (h : (K.plan nd l ss r).2 = 0) : ∃ tl, K.plan nd l ss r = (tl, 0) ∧ K.refute nd l ss r = ([], 7) ∧ K.refutes nd l ss r bl = false ∧ K.refutes nd l ss r [] = false ∧ K.checks nd l ss r (tl.map fun t => ((t.1 : Int), t.2)) = 0 := by
  have hn : ∀ bl, K.refutes nd l ss r bl = false := fun bl => by
    cases hb : K.refutes nd l ss r bl
    · rfl
    · have := K.refutes_plan hb
      omega
  exact ⟨(K.plan nd l ss r).1, by rw [← h], K.refute_zero h, hn _, hn _, K.plan_checks h⟩
theorem K.no_case (ts : List (Int × K.Tr)) (hm : ss.length ≤ 4) (hn : r.length ≤ 4) (h : (K.plan nd l ss r).2 = 4) : ∃ rl, K.plan nd l ss r = ([], 4) ∧ K.refute nd l ss r = (rl, 0) ∧ (K.checks nd l ss r ts == 0) = false ∧ K.refutes nd l ss r (rl.map fun b => ((b.1 : Int), b.2)) = true := by
  obtain ⟨h1, h2⟩ := K.refute_refutes hm hn h
  refine ⟨(K.refute nd l ss r).1, (K.plan_4 h).2.1, by rw [← h1], ?_, h2⟩
  cases hc : K.checks nd l ss r ts == 0
  · rfl
  · have := K.checks_plan (beq_iff_eq.1 hc)
    omega
end

set_option maxRecDepth 100000 in
set_option maxHeartbeats 16000000 in
theorem planProves_any (x : Cs) (TA : Option Addr) (tn tc : Nat) (ts : List TV) (BA : Option Addr) (bn bc : Nat) (bl : List BV) (w : World) (hN : Roads w x.A x.n x.l) (hS : Shifts w x.SA x.sn x.ss) (hQ : Reqs w x.B x.m x.r) (hT : Tours w TA tn ts) (hB : Blks w BA bn bl) (hbc : ∀ q ∈ bl, q.vn ≤ q.vc) :
    Calls Try.prog 3 #[.agg #[.int .i64 x.nd, .slice x.A x.n x.c], .slice x.SA x.sn x.sc, .slice x.B x.m x.d, .slice TA tn tc, .slice BA bn bc] w fun e w' => e = .returned (.bool true) ∧ Below w.heap.size w w' := by
  obtain ⟨w1, hw1⟩ : ∃ w1 : World, w1 = w.alloc (.cells #[.int .i64 x.nd, .slice x.A x.n x.c] 24) := ⟨_, rfl⟩
  have hP : Net w1 w.heap.size x.nd x.A x.n x.c := by rw [hw1]; exact Net.new w x.nd x.A x.n x.c
  have hb : Below w.heap.size w w1 := by rw [hw1]; exact (Below.refl _ _).alloc (Nat.le_refl _) _
  go_enter Try.func3, Try.ntmps3
  go_wp2_with fail
  rw [← hw1]
  clear hw1
  refine (small_any _).mono ?_
  rintro e w2 ⟨rfl, b2⟩
  have hP := hP.below b2
  have hb := bel hb b2
  clear b2
  have p0 := hP.c0
  have p1 := hP.c1
  go_wp2_with fail
  refine (few9_any x _ (hS.below hb) (hQ.below hb)).mono ?_
  rintro e w3 ⟨rfl, b3⟩
  clear p0 p1
  have hP := hP.below b3
  have hb := bel hb b3
  clear b3
  have p0 := hP.c0
  have p1 := hP.c1
  cases hf : K.few32 x
  · clear hf
    go_wp2_with fail
    go_ret
    exact ⟨rfl, hb⟩
  have hx : CsAt w x := K.few32_at hf hN hS hQ
  obtain ⟨-, -, -, -, -, hs2, hm4⟩ := K.few32_parts hf hQ.1
  have hSN := hS.1.1
  have hRN := hQ.1
  clear hf
  have HF := Lib.hid (show K.pcheck x.nd x.l x.ss x.r = 0 → x.ss.length ≤ 4 ∧ x.r.length ≤ 4 from fun h => by
    have h9 := K.pcheck_ok h
    omega)
  clear hs2 hm4 hSN hRN
  go_wp2_with fail
  refine (fewTours_any TA tn tc ts _ (hT.below hb)).mono ?_
  rintro e w4 ⟨⟨z, rfl, hz⟩, b4⟩
  clear p0 p1
  have hP := hP.below b4
  have hb := bel hb b4
  clear b4
  have p0 := hP.c0
  have p1 := hP.c1
  cases z
  · clear hz
    go_wp2_with fail
    go_ret
    exact ⟨rfl, hb⟩
  have hFT : FewT tn ts := by
    obtain ⟨h1, h2⟩ := hz rfl
    exact ⟨by omega, fun y hy => by have := h2 y hy; omega⟩
  clear hz
  go_wp2_with fail
  refine (fewBlocks_any BA bn bc bl _ (hB.below hb)).mono ?_
  rintro e w5 ⟨⟨z, rfl, hz⟩, b5⟩
  clear p0 p1
  have hP := hP.below b5
  have hb := bel hb b5
  clear b5
  have p0 := hP.c0
  have p1 := hP.c1
  cases z
  · clear hz
    go_wp2_with fail
    go_ret
    exact ⟨rfl, hb⟩
  have hFB : FewB bn bl := by
    obtain ⟨h1, h2⟩ := hz rfl
    exact ⟨by omega, fun y hy => by have := h2 y hy; have := hbc y hy; omega⟩
  clear hz
  by_cases hpc : K.pcheck x.nd x.l x.ss x.r = 0
  rotate_left
  · obtain ⟨c, hc16, hp, hq, hc, hr⟩ := K.err_cases (ts := ts.map TV.pr) (bl := bl.map BV.pr) hpc
    clear hpc HF
    rcases hc16 with rfl | rfl
    all_goals
      go_wp2_with fail
      refine (plan32_any x _ (hx.below hb)).mono ?_
      rw [hp]
      rintro e w6 ⟨⟨PA, pn, pc, pl, rfl, hPT, -, hpl⟩, b6⟩
      dsimp only at hpl ⊢
      obtain rfl : pn = 0 := by have h9 := hPT.1.1; rw [List.map_eq_nil_iff.1 hpl] at h9; exact h9
      clear hp
      clear p0 p1
      have hP := hP.below b6
      have hb := bel hb b6
      have p0 := hP.c0
      have p1 := hP.c1
      go_wp2_with fail
      refine (refute32_any x _ (hx.below hb)).mono ?_
      rw [hq]
      rintro e w7 ⟨⟨RA, rn, rc, rl, rfl, hRB, -, hRF, hrl⟩, b7⟩
      dsimp only at hrl ⊢
      obtain rfl : rn = 0 := by have h9 := hRB.1.1; rw [List.map_eq_nil_iff.1 hrl] at h9; exact h9
      clear hq
      clear p0 p1
      have hP := hP.below b7
      have hb := bel hb b7
      have p0 := hP.c0
      have p1 := hP.c1
      go_wp2_with fail
      refine (checks32_any x TA tn tc ts _ (hx.below hb) (hT.below hb) hFT).mono ?_
      rw [hc]
      rintro e w8 ⟨rfl, b8⟩
      clear hc
      clear p0 p1
      have hP := hP.below b8
      have hb := bel hb b8
      have p0 := hP.c0
      have p1 := hP.c1
      go_wp2_with fail
      refine (refutes32_any x BA bn bc bl _ (hx.below hb) (hB.below hb) hFB).mono ?_
      rw [hr]
      rintro e w9 ⟨rfl, b9⟩
      clear p0 p1
      have hP := hP.below b9
      have hb := bel hb b9
      have p0 := hP.c0
      have p1 := hP.c1
      clear hr
      go_wp2_with fail
      go_ret
      exact ⟨rfl, hb⟩
  by_cases h0 : (K.plan x.nd x.l x.ss x.r).2 = 0
  · obtain ⟨tl, hp, hq, hr, hr0, hc0⟩ := K.yes_case (bl.map BV.pr) h0
    clear h0 hpc HF
    go_wp2_with fail
    refine (plan32_any x _ (hx.below hb)).mono ?_
    rw [hp]
    rintro e w6 ⟨⟨PA, pn, pc, pl, rfl, hPT, -, hpl⟩, b6⟩
    dsimp only at hpl ⊢
    clear hp
    clear p0 p1
    have hP := hP.below b6
    have hb := bel hb b6
    have p0 := hP.c0
    have p1 := hP.c1
    have hPT := hPT
    go_wp2_with fail
    refine (refute32_any x _ (hx.below hb)).mono ?_
    rw [hq]
    rintro e w7 ⟨⟨RA, rn, rc, rl, rfl, hRB, -, hRF, hrl⟩, b7⟩
    dsimp only at hrl ⊢
    obtain rfl : rn = 0 := by have h9 := hRB.1.1; rw [List.map_eq_nil_iff.1 hrl] at h9; exact h9
    clear hq
    clear p0 p1
    have hP := hP.below b7
    have hb := bel hb b7
    have p0 := hP.c0
    have p1 := hP.c1
    have hPT := hPT.below b7
    go_wp2_with fail
    refine (checks32_any x TA tn tc ts _ (hx.below hb) (hT.below hb) hFT).mono ?_
    obtain ⟨ch, hch⟩ : ∃ ch, ch = K.checks x.nd x.l x.ss x.r (ts.map TV.pr) := ⟨_, rfl⟩
    rw [← hch]
    clear hch
    rintro e w8 ⟨rfl, b8⟩
    clear p0 p1
    have hP := hP.below b8
    have hb := bel hb b8
    have p0 := hP.c0
    have p1 := hP.c1
    have hPT := hPT.below b8
    go_wp2_with fail
    refine (refutes32_any x BA bn bc bl _ (hx.below hb) (hB.below hb) hFB).mono ?_
    rw [hr]
    rintro e w9 ⟨rfl, b9⟩
    clear p0 p1
    have hP := hP.below b9
    have hb := bel hb b9
    have p0 := hP.c0
    have p1 := hP.c1
    clear hr
    have hPT := hPT.below b9
    have hFP := fewT_of hPT (by have h9 := K.checks_few hc0; rw [← hpl] at h9; rw [List.length_map] at h9; exact h9)
    go_wp2_with fail
    refine (checks32_any x PA pn pc pl _ (hx.below hb) hPT hFP).mono ?_
    rw [hpl, hc0]
    rintro e w10 ⟨rfl, b10⟩
    clear p0 p1
    have hP := hP.below b10
    have hb := bel hb b10
    have p0 := hP.c0
    have p1 := hP.c1
    have hRB := (hRB.below b8).below b9
    go_wp2_with fail
    refine (refutes32_any x RA 0 rc rl _ (hx.below hb) (hRB.below b10) hRF).mono ?_
    rw [hrl]
    try rw [List.map_nil]
    rw [hr0]
    rintro e w11 ⟨rfl, b11⟩
    go_wp2_with fail
    go_ret
    exact ⟨rfl, bel hb b11⟩
  · have h4 : (K.plan x.nd x.l x.ss x.r).2 = 4 := by
      rcases K.plan_cases hpc with ⟨g, -⟩ | ⟨d, -, g⟩
      · rw [g]
      · rw [g] at h0; exact absurd rfl h0
    obtain ⟨rl0, hp, hq, hc, hr⟩ := K.no_case (ts.map TV.pr) (HF.out hpc).1 (HF.out hpc).2 h4
    clear h0 h4 hpc HF
    go_wp2_with fail
    refine (plan32_any x _ (hx.below hb)).mono ?_
    rw [hp]
    rintro e w6 ⟨⟨PA, pn, pc, pl, rfl, hPT, -, hpl⟩, b6⟩
    dsimp only at hpl ⊢
    obtain rfl : pn = 0 := by have h9 := hPT.1.1; rw [List.map_eq_nil_iff.1 hpl] at h9; exact h9
    clear hp
    clear p0 p1
    have hP := hP.below b6
    have hb := bel hb b6
    have p0 := hP.c0
    have p1 := hP.c1
    go_wp2_with fail
    refine (refute32_any x _ (hx.below hb)).mono ?_
    rw [hq]
    rintro e w7 ⟨⟨RA, rn, rc, rl, rfl, hRB, -, hRF, hrl⟩, b7⟩
    dsimp only at hrl ⊢
    clear hq
    clear p0 p1
    have hP := hP.below b7
    have hb := bel hb b7
    have p0 := hP.c0
    have p1 := hP.c1
    go_wp2_with fail
    refine (checks32_any x TA tn tc ts _ (hx.below hb) (hT.below hb) hFT).mono ?_
    obtain ⟨ch, hch⟩ : ∃ ch, ch = K.checks x.nd x.l x.ss x.r (ts.map TV.pr) := ⟨_, rfl⟩
    rw [← hch] at hc
    rw [← hch]
    clear hch
    rintro e w8 ⟨rfl, b8⟩
    clear p0 p1
    have hP := hP.below b8
    have hb := bel hb b8
    have p0 := hP.c0
    have p1 := hP.c1
    have hRB := hRB.below b8
    go_wp2_with fail
    refine (refutes32_any x BA bn bc bl _ (hx.below hb) (hB.below hb) hFB).mono ?_
    obtain ⟨rf, hrf⟩ : ∃ rf, rf = K.refutes x.nd x.l x.ss x.r (bl.map BV.pr) := ⟨_, rfl⟩
    rw [← hrf]
    clear hrf
    rintro e w9 ⟨rfl, b9⟩
    clear p0 p1
    have hP := hP.below b9
    have hb := bel hb b9
    have p0 := hP.c0
    have p1 := hP.c1
    have hRB := hRB.below b9
    go_wp2_with fail
    refine (refutes32_any x RA rn rc rl _ (hx.below hb) hRB hRF).mono ?_
    rw [hrl, hr]
    rintro e w10 ⟨rfl, b10⟩
    go_wp2_with fail
    go_ret
    exact ⟨rfl, bel hb b10⟩
end Go.Proofs.Ytippdjmpkafifaa
