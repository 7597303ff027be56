/-
The walk of the reference's label.
-/
import Derived.Test.YtjcdpfpdjcannaaW5
namespace Go.Proofs.Ytjcdpfpdjcannaa
open Go.RowKit

/-- A number of the set and its request. -/
theorem elem_at {nd : Int} {l : List Ro} {s : S} {r : List Q} {v : List Int} (hok : K.ok31 nd l s r v = true) {i : Nat} {k : Int} (h : v[i]? = some k) :
    ∃ (d dn : Nat) (q : Q), k = (d : Int) ∧ d < r.length ∧ r[d]? = some q ∧ K.req r k = q ∧ q.node = (dn : Int) ∧ (dn : Int) < nd ∧ 0 ≤ q.service ∧ q.service ≤ 1000000 := by
  obtain ⟨-, -, -, hrq, -, hgo⟩ := K.ok31_parts hok
  obtain ⟨h0, h1, h3⟩ := K.setGo_nodes _ _ hgo _ (List.mem_of_getElem? h)
  obtain ⟨d, hd⟩ : ∃ d : Nat, k = (d : Int) := ⟨k.toNat, by omega⟩
  subst hd
  have hq : r[d]? = some (r[d]'(by omega)) := List.getElem?_eq_getElem (by omega)
  obtain ⟨hn, hs, -⟩ := K.right_req (hrq _ (List.mem_of_getElem? hq))
  rw [K.req_get hq] at h3
  exact ⟨d, (r[d]'(by omega)).node.toNat, _, rfl, by omega, hq, K.req_get hq, by omega, by omega, hs.1, hs.2⟩

set_option maxRecDepth 100000 in
set_option maxHeartbeats 16000000 in
theorem label64_any (x : C) (V : Option Addr) (vn vc : Nat) (v : List Int) (A : Option Addr) (tn tc : Nat) (ts : List Int) (m i P rest : Nat) (w : World) (hok : K.ok31 x.nd x.l x.s x.r v = true) (hx : At w x) (hV : Ints w V vn v) (hT : Ints w A tn ts)
    (hPP : P = 2 ^ i) (hrest : rest = m - P) (hPm : P ≤ m) (hm : m < 64) (hml : m < 2 ^ v.length) (hi : i < vn) (hbit : m.testBit i = true)
    (hts : ∀ j, j < vn → ∃ y, ts[rest * 6 + j]? = some y ∧ (rest.testBit j = true → y = K.lab x.nd x.l x.s x.r v rest j)) :
    Calls Try.prog 64 #[.agg #[.int .i64 x.nd, .slice x.A x.n x.c], .agg #[.int .i64 x.s.day, .int .i64 x.s.depot, .int .i64 x.s.start, .int .i64 x.s.end_, .int .i64 x.s.tare, .slice x.s.A x.s.n x.s.c], .slice x.B x.m x.d, .slice V vn vc, .slice A tn tc, .int .i64 m, .int .i64 i] w fun e w' => e = .returned (.int .i64 (K.lab x.nd x.l x.s x.r v m i)) ∧ Below w.heap.size w w' := by
  have HVN := Lib.hid hV.1
  have hv6 : vn ≤ 6 := by rw [hV.1]; exact (K.ok31_parts hok).2.2.2.2.1
  have hi8 : i < 8 := by omega
  have HW3 := Lib.hid (show IntKind.i64.wrap ((2 : Int) ^ i) = (P : Int) by rw [wrap_pow hi8, hPP]; simp)
  obtain ⟨adv, k, rfl, hk, ck⟩ := hV.at_ hi
  have hlab := K.lab_local (nd := x.nd) (l := x.l) (s := x.s) (r := x.r) (K.case31 hok) hml hk hbit
  rw [← hPP, ← hrest] at hlab
  clear hPP
  obtain ⟨d, dn, q, hkd, hd, hdq, hreq, hdn, hdn1, qs0, qs1⟩ := elem_at hok hk
  rw [hreq, hdn, ← K.refLabel_eq] at hlab
  obtain ⟨F, hF⟩ : ∃ F, F = K.locF x.nd x.l x.s x.r v rest (dn : Int) := ⟨_, rfl⟩
  have HF := Lib.hid hF
  have hFb := K.locF_bd (nd := x.nd) (l := x.l) (s := x.s) (r := x.r) (v := v) (K.case31 hok) (by obtain ⟨-, -, -, st1, en1⟩ := K.check_parts (K.ok31_parts hok).2.1; omega) rest (dn : Int)
  rw [← hF] at hlab hFb
  have HLAB := Lib.hid hlab
  subst hkd
  have hdm : d < x.m := by rw [hx.reqs.1]; exact hd
  obtain ⟨adq, q2, hqB, hgq, hwq, e0, e1, e2, e3, e4, e5, e6⟩ := hx.reqs.at_ hdm
  rw [hdq] at hgq
  injection hgq with hgq
  subst hgq
  rw [hdn] at e0
  obtain ⟨w1, hw1⟩ : ∃ w1 : World, w1 = w.alloc (.cells #[.int .i64 x.nd, .slice x.A x.n x.c] 24) := ⟨_, rfl⟩
  obtain ⟨w2, hw2⟩ : ∃ w2 : World, w2 = w1.alloc (.cells #[.int .i64 x.s.day, .int .i64 x.s.depot, .int .i64 x.s.start, .int .i64 x.s.end_, .int .i64 x.s.tare, .slice x.s.A x.s.n x.s.c] 27) := ⟨_, rfl⟩
  obtain ⟨w3, hw3⟩ : ∃ w3 : World, w3 = w2.alloc (.cells #[.int .i64 (dn : Int), .int .i64 q.room, .int .i64 q.kilos, .int .i64 q.service, .int .i64 q.frm, .int .i64 q.by_, .slice q.A q.n q.c] 41) := ⟨_, rfl⟩
  have z1 : w1.heap.size = w.heap.size + 1 := by rw [hw1]; exact World.size_alloc _ _
  have z2 : w2.heap.size = w.heap.size + 1 + 1 := by rw [hw2, World.size_alloc, z1]
  have b01 : Below w.heap.size w w1 := by rw [hw1]; exact (Below.refl _ _).alloc (Nat.le_refl _) _
  have b12 : Below w1.heap.size w1 w2 := by rw [hw2]; exact (Below.refl _ _).alloc (Nat.le_refl _) _
  have b23 : Below w2.heap.size w2 w3 := by rw [hw3]; exact (Below.refl _ _).alloc (Nat.le_refl _) _
  have hP : Net w3 w.heap.size x.nd x.A x.n x.c := by
    have h1 : Net w1 w.heap.size x.nd x.A x.n x.c := by rw [hw1]; exact Net.new _ _ _ _ _
    exact h1.below (bel b12 b23)
  have hS : Shf w3 (w.heap.size + 1) x.s := by
    have h1 : Shf w2 (w.heap.size + 1) x.s := by rw [← z1, hw2]; exact Shf.new _ _
    exact h1.below b23
  have hQ3 : w3.heap[w.heap.size + 1 + 1]? = some (.cells #[.int .i64 (dn : Int), .int .i64 q.room, .int .i64 q.kilos, .int .i64 q.service, .int .i64 q.frm, .int .i64 q.by_, .slice q.A q.n q.c] 41 (0, 0)) := by rw [← z2, hw3]; exact heap_alloc_new _ _
  have b02 := bel b01 b12
  have hb := bel b02 b23
  have ck := (b02.cell (cell_lt ck)).trans ck
  have e0 := (b02.cell (cell_lt e0)).trans e0
  have e1 := (b02.cell (cell_lt e1)).trans e1
  have e2 := (b02.cell (cell_lt e2)).trans e2
  have e3 := (b02.cell (cell_lt e3)).trans e3
  have e4 := (b02.cell (cell_lt e4)).trans e4
  have e5 := (b02.cell (cell_lt e5)).trans e5
  have e6 := (b02.cell (cell_lt e6)).trans e6
  rw [hw2, hw1] at ck e0 e1 e2 e3 e4 e5 e6
  have HOK := Lib.hid hok
  have HTS := Lib.hid hts
  have HWQ := Lib.hid hwq
  have HQN := Lib.hid (hx.b4 q (List.mem_of_getElem? hdq))
  have HQB := Lib.hid hqB
  have HPR := Lib.hid (show IntKind.i64.wrap ((m : Int) - (P : Int)) = (rest : Int) by rw [IntWalk.i64_in _ (by omega)]; omega)
  have hr64 : rest < 64 := by omega
  have kk3 : (0 : Int) ≤ (i : Int) := by omega
  have kk4 : (i : Int) < (vn : Int) := by omega
  have kk5 : (0 : Int) ≤ (d : Int) := by omega
  have kk6 : (d : Int) < (x.m : Int) := by omega
  rw [hqB]
  clear hok hts hwq hk hlab hd hdq hreq hdn hF hqB hrest hPm hml hbit hdm b01 b12 b02 z1 z2
  go_enter Try.func64, Try.ntmps64
  go_upto_region 2 with fail
  rw [← hw1, ← hw2, ← hw3]
  clear hw1 hw2 hw3 ck e0 e1 e2 e3 e4 e5 e6 kk5 kk6
  have hmk : ∀ w', Below w3.heap.size w3 w' → (fun w' : World => Below w3.heap.size w3 w' ∧ w'.cell? ⟨w.heap.size, 0, none⟩ = some (.int .i64 x.nd) ∧ w'.cell? ⟨w.heap.size, 1, none⟩ = some (.slice x.A x.n x.c) ∧ w'.cell? ⟨w.heap.size + 1, 0, none⟩ = some (.int .i64 x.s.day) ∧ w'.cell? ⟨w.heap.size + 1, 1, none⟩ = some (.int .i64 x.s.depot) ∧ w'.cell? ⟨w.heap.size + 1, 2, none⟩ = some (.int .i64 x.s.start) ∧ w'.cell? ⟨w.heap.size + 1, 3, none⟩ = some (.int .i64 x.s.end_) ∧ w'.cell? ⟨w.heap.size + 1, 4, none⟩ = some (.int .i64 x.s.tare) ∧ w'.cell? ⟨w.heap.size + 1, 5, none⟩ = some (.slice x.s.A x.s.n x.s.c) ∧ w'.cell? ⟨w.heap.size + 1 + 1, 0, none⟩ = some (.int .i64 (dn : Int)) ∧ w'.cell? ⟨w.heap.size + 1 + 1, 1, none⟩ = some (.int .i64 q.room) ∧ w'.cell? ⟨w.heap.size + 1 + 1, 2, none⟩ = some (.int .i64 q.kilos) ∧ w'.cell? ⟨w.heap.size + 1 + 1, 3, none⟩ = some (.int .i64 q.service) ∧ w'.cell? ⟨w.heap.size + 1 + 1, 4, none⟩ = some (.int .i64 q.frm) ∧ w'.cell? ⟨w.heap.size + 1 + 1, 5, none⟩ = some (.int .i64 q.by_) ∧ w'.cell? ⟨w.heap.size + 1 + 1, 6, none⟩ = some (.slice q.A q.n q.c)) w' := fun w' h => ⟨h, (hP.below h).c0, (hP.below h).c1, (hS.below h).cells.1, (hS.below h).cells.2.1, (hS.below h).cells.2.2.1, (hS.below h).cells.2.2.2.1, (hS.below h).cells.2.2.2.2.1, (hS.below h).cells.2.2.2.2.2, blk_cell (blk_below h hQ3) 0 _ rfl, blk_cell (blk_below h hQ3) 1 _ rfl, blk_cell (blk_below h hQ3) 2 _ rfl, blk_cell (blk_below h hQ3) 3 _ rfl, blk_cell (blk_below h hQ3) 4 _ rfl, blk_cell (blk_below h hQ3) 5 _ rfl, blk_cell (blk_below h hQ3) 6 _ rfl⟩
  obtain ⟨-, p0, p1, s0, s1, s2, s3, s4, s5, q0, q1, q2, q3, q4, q5, q6⟩ := hmk _ (Below.refl _ _)
  by_cases h1 : x.s.day < q.frm
  · have c1 : decide (x.s.day < q.frm) = true := decide_eq_true h1
    have HX := Lib.hid (show K.lab x.nd x.l x.s x.r v m i = -1 by rw [HLAB.out]; unfold K.refLabel; rw [if_pos (.inl h1)])
    clear hmk h1
    go_quiet (fail)
    go_wp2_with fail
    go_ret
    exact ⟨by rw [HX.out]; rfl, below_drewN hb _⟩
  have c1 : decide (x.s.day < q.frm) = false := decide_eq_false h1
  by_cases h2 : q.by_ < x.s.day
  · have c2 : decide (q.by_ < x.s.day) = true := decide_eq_true h2
    have HX := Lib.hid (show K.lab x.nd x.l x.s x.r v m i = -1 by rw [HLAB.out]; unfold K.refLabel; rw [if_pos (.inr (.inl h2))])
    clear hmk h1 h2
    go_quiet (fail)
    go_wp2_with fail
    go_ret
    exact ⟨by rw [HX.out]; rfl, below_drewN hb _⟩
  have c2 : decide (q.by_ < x.s.day) = false := decide_eq_false h2
  clear p0 p1 s0 s1 s2 s3 s4 s5 q0 q1 q2 q3 q4 q5 q6
  have S0 := hmk _ (Below.refl _ _)
  have hSd : ∀ w', (fun w' : World => Below w3.heap.size w3 w' ∧ w'.cell? ⟨w.heap.size, 0, none⟩ = some (.int .i64 x.nd) ∧ w'.cell? ⟨w.heap.size, 1, none⟩ = some (.slice x.A x.n x.c) ∧ w'.cell? ⟨w.heap.size + 1, 0, none⟩ = some (.int .i64 x.s.day) ∧ w'.cell? ⟨w.heap.size + 1, 1, none⟩ = some (.int .i64 x.s.depot) ∧ w'.cell? ⟨w.heap.size + 1, 2, none⟩ = some (.int .i64 x.s.start) ∧ w'.cell? ⟨w.heap.size + 1, 3, none⟩ = some (.int .i64 x.s.end_) ∧ w'.cell? ⟨w.heap.size + 1, 4, none⟩ = some (.int .i64 x.s.tare) ∧ w'.cell? ⟨w.heap.size + 1, 5, none⟩ = some (.slice x.s.A x.s.n x.s.c) ∧ w'.cell? ⟨w.heap.size + 1 + 1, 0, none⟩ = some (.int .i64 (dn : Int)) ∧ w'.cell? ⟨w.heap.size + 1 + 1, 1, none⟩ = some (.int .i64 q.room) ∧ w'.cell? ⟨w.heap.size + 1 + 1, 2, none⟩ = some (.int .i64 q.kilos) ∧ w'.cell? ⟨w.heap.size + 1 + 1, 3, none⟩ = some (.int .i64 q.service) ∧ w'.cell? ⟨w.heap.size + 1 + 1, 4, none⟩ = some (.int .i64 q.frm) ∧ w'.cell? ⟨w.heap.size + 1 + 1, 5, none⟩ = some (.int .i64 q.by_) ∧ w'.cell? ⟨w.heap.size + 1 + 1, 6, none⟩ = some (.slice q.A q.n q.c)) w' → (fun w' : World => Below w3.heap.size w3 w' ∧ w'.cell? ⟨w.heap.size, 0, none⟩ = some (.int .i64 x.nd) ∧ w'.cell? ⟨w.heap.size, 1, none⟩ = some (.slice x.A x.n x.c) ∧ w'.cell? ⟨w.heap.size + 1, 0, none⟩ = some (.int .i64 x.s.day) ∧ w'.cell? ⟨w.heap.size + 1, 1, none⟩ = some (.int .i64 x.s.depot) ∧ w'.cell? ⟨w.heap.size + 1, 2, none⟩ = some (.int .i64 x.s.start) ∧ w'.cell? ⟨w.heap.size + 1, 3, none⟩ = some (.int .i64 x.s.end_) ∧ w'.cell? ⟨w.heap.size + 1, 4, none⟩ = some (.int .i64 x.s.tare) ∧ w'.cell? ⟨w.heap.size + 1, 5, none⟩ = some (.slice x.s.A x.s.n x.s.c) ∧ w'.cell? ⟨w.heap.size + 1 + 1, 0, none⟩ = some (.int .i64 (dn : Int)) ∧ w'.cell? ⟨w.heap.size + 1 + 1, 1, none⟩ = some (.int .i64 q.room) ∧ w'.cell? ⟨w.heap.size + 1 + 1, 2, none⟩ = some (.int .i64 q.kilos) ∧ w'.cell? ⟨w.heap.size + 1 + 1, 3, none⟩ = some (.int .i64 q.service) ∧ w'.cell? ⟨w.heap.size + 1 + 1, 4, none⟩ = some (.int .i64 q.frm) ∧ w'.cell? ⟨w.heap.size + 1 + 1, 5, none⟩ = some (.int .i64 q.by_) ∧ w'.cell? ⟨w.heap.size + 1 + 1, 6, none⟩ = some (.slice q.A q.n q.c)) w'.drew := fun w' h => hmk _ h.1.drew
  have hVx : ∀ w', Below w3.heap.size w3 w' → Ints w' (some adv) vn v := fun w' h => (hV.below hb).below h
  have hXx : ∀ w', Below w3.heap.size w3 w' → At w' x := fun w' h => (hx.below hb).below h
  have hAr : ∀ w', Below w3.heap.size w3 w' → Ints w' x.s.A x.s.n x.s.l := fun w' h => (hXx w' h).rooms
  have hAq : ∀ w', Below w3.heap.size w3 w' → Reqs w' (some adq) x.m x.r := fun w' h => by rw [← HQB.out]; exact (hXx w' h).reqs
  have hm256 : m < 256 := by omega
  have hv8 : vn ≤ 8 := by omega
  have hpl : (K.part v m).length ≤ 1000000000 := by have h1 := K.part_len v m; rw [← HVN.out] at h1; omega
  go_region_held3 (fun w' : World => Below w3.heap.size w3 w' ∧ w'.cell? ⟨w.heap.size, 0, none⟩ = some (.int .i64 x.nd) ∧ w'.cell? ⟨w.heap.size, 1, none⟩ = some (.slice x.A x.n x.c) ∧ w'.cell? ⟨w.heap.size + 1, 0, none⟩ = some (.int .i64 x.s.day) ∧ w'.cell? ⟨w.heap.size + 1, 1, none⟩ = some (.int .i64 x.s.depot) ∧ w'.cell? ⟨w.heap.size + 1, 2, none⟩ = some (.int .i64 x.s.start) ∧ w'.cell? ⟨w.heap.size + 1, 3, none⟩ = some (.int .i64 x.s.end_) ∧ w'.cell? ⟨w.heap.size + 1, 4, none⟩ = some (.int .i64 x.s.tare) ∧ w'.cell? ⟨w.heap.size + 1, 5, none⟩ = some (.slice x.s.A x.s.n x.s.c) ∧ w'.cell? ⟨w.heap.size + 1 + 1, 0, none⟩ = some (.int .i64 (dn : Int)) ∧ w'.cell? ⟨w.heap.size + 1 + 1, 1, none⟩ = some (.int .i64 q.room) ∧ w'.cell? ⟨w.heap.size + 1 + 1, 2, none⟩ = some (.int .i64 q.kilos) ∧ w'.cell? ⟨w.heap.size + 1 + 1, 3, none⟩ = some (.int .i64 q.service) ∧ w'.cell? ⟨w.heap.size + 1 + 1, 4, none⟩ = some (.int .i64 q.frm) ∧ w'.cell? ⟨w.heap.size + 1 + 1, 5, none⟩ = some (.int .i64 q.by_) ∧ w'.cell? ⟨w.heap.size + 1 + 1, 6, none⟩ = some (.slice q.A q.n q.c))
    (first | assumption | exact S0 | exact hSd _ (by assumption))
    (first
      | (go_at_call 35; refine (part31_any (some adv) vn vc v m _ (hVx _ (And.left (by assumption))) hv8 hm256).mono ?_; rintro e wb ⟨⟨RA, rn, rc, rfl, hR⟩, bb⟩; have S1 := hmk _ (bel (And.left (by assumption)) bb); have hrn : rn ≤ 1000000000 := by (rw [hR.1]; exact hpl))
      | (go_at_call 77; refine (rfits29_any x.s (some adq) x.m x.d x.r RA rn rc (K.part v m) _ (hAr _ S1.1) hx.b2 (hAq _ S1.1) hx.b3 hx.b4 hR hrn).mono ?_; rintro e wc ⟨rfl, bc⟩; have S2 := hmk _ (bel S1.1 bc))
      | fail)
  obtain ⟨fb, hfb⟩ : ∃ fb, fb = T.fits x.s x.r (K.part v m) := ⟨_, rfl⟩
  rw [← hfb]
  have b3c := S2.1
  have HL2 := Lib.hid (show K.lab x.nd x.l x.s x.r v m i = (if fb = false then -1 else if F < 0 ∨ x.s.end_ < F then -1 else if (H.fit q.l F q.service).2 = false ∨ x.s.end_ < (H.fit q.l F q.service).1 + q.service then -1 else (H.fit q.l F q.service).1 + q.service) by
    rw [HLAB.out]; unfold K.refLabel; rw [← hfb]
    have g1 : ¬ x.s.day < q.frm := by omega
    have g2 : ¬ q.by_ < x.s.day := by omega
    simp only [g1, g2, false_or])
  clear S0 S1 S2 hR hrn hpl bb bc hfb hm256 HLAB hSd
  cases fb
  · have HX := Lib.hid (show K.lab x.nd x.l x.s x.r v m i = -1 by rw [HL2.out]; rfl)
    clear hmk
    go_wp2_with fail
    go_ret
    exact ⟨by rw [HX.out]; rfl, bel hb b3c⟩
  have hP3 := HPR.out
  have hw3 := HW3.out
  have hP4 : wrap64 ((m : Int) - (P : Int)) = (rest : Int) := by rw [← IntWalk.i64_left]; exact hP3
  have hw4 : wrap64 ((2 : Int) ^ i) = (P : Int) := by rw [← IntWalk.i64_left]; exact hw3
  go_upto_region 4 with fail
  obtain ⟨-, p0, p1, s0, s1, s2, s3, s4, s5, q0, -⟩ := hmk _ b3c
  have p0 := Beh.cell p0
  have p1 := Beh.cell p1
  have s0 := Beh.cell s0
  have s1 := Beh.cell s1
  have s2 := Beh.cell s2
  have s3 := Beh.cell s3
  have s4 := Beh.cell s4
  have s5 := Beh.cell s5
  have q0 := Beh.cell q0
  have C : ∀ j : Beh wc, Calls Try.prog 89 #[.agg #[.int .i64 x.nd, .slice x.A x.n x.c], .agg #[.int .i64 x.s.day, .int .i64 x.s.depot, .int .i64 x.s.start, .int .i64 x.s.end_, .int .i64 x.s.tare, .slice x.s.A x.s.n x.s.c], .slice (some adq) x.m x.d, .slice (some adv) vn vc, .slice A tn tc, .int .i64 rest, .int .i64 dn] j.val fun e w' => e = .returned (.int .i64 F) ∧ Below j.val.heap.size j.val w' := fun j => by
    rw [HF.out, ← HQB.out]
    exact arrival_any x (some adv) vn vc v A tn tc ts rest dn _ HOK.out (hXx _ (bel b3c j.property)) (hVx _ (bel b3c j.property)) ((hT.below hb).below (bel b3c j.property)) HTS.out hr64 hdn1
  clear hVx hAr hAq hXx
  refine reg_beh (by kernel_rfl) (by kernel_rfl) ?_
  repeat (go_big_quiet_step ((go_at_call 89; exact Beh.calls (C _))))
  refine wpQuiet_nil ?_
  rintro wd ⟨⟨_, bd⟩, rfl⟩
  have b3d : Below w3.heap.size w3 wd := bel b3c bd
  clear C bd hP3 hP4 hw3 hw4
  clear p0 p1 s0 s1 s2 s3 s4 s5 q0
  obtain ⟨-, p0, p1, s0, s1, s2, s3, s4, s5, q0, q1, q2, q3, q4, q5, q6⟩ := hmk _ b3d
  by_cases h3 : F < 0
  · have c3 : decide (F < 0) = true := decide_eq_true h3
    have HX := Lib.hid (show K.lab x.nd x.l x.s x.r v m i = -1 by rw [HL2.out, if_neg (by simp), if_pos (.inl h3)])
    clear hmk
    go_wp2_with fail
    go_ret
    exact ⟨by rw [HX.out]; rfl, bel hb b3d⟩
  have c3 : decide (F < 0) = false := decide_eq_false h3
  by_cases h4 : x.s.end_ < F
  · have c4 : decide (x.s.end_ < F) = true := decide_eq_true h4
    have HX := Lib.hid (show K.lab x.nd x.l x.s x.r v m i = -1 by rw [HL2.out, if_neg (by simp), if_pos (.inr h4)])
    clear hmk
    go_wp2_with fail
    go_ret
    exact ⟨by rw [HX.out]; rfl, bel hb b3d⟩
  have c4 : decide (x.s.end_ < F) = false := decide_eq_false h4
  have HL3 := Lib.hid (show K.lab x.nd x.l x.s x.r v m i = (if (H.fit q.l F q.service).2 = false ∨ x.s.end_ < (H.fit q.l F q.service).1 + q.service then -1 else (H.fit q.l F q.service).1 + q.service) by
    rw [HL2.out, if_neg (by simp), if_neg (by simp [h3, h4])])
  clear HL2
  go_wp2_with fail
  refine (rfit_any q.A q.n q.c q.l F q.service _ (HWQ.out.below (bel hb b3d)) HQN.out).mono ?_
  obtain ⟨FT, hFT⟩ : ∃ FT, FT = H.fit q.l F q.service := ⟨_, rfl⟩
  have hfit : FT.2 = true → 0 ≤ F ∧ F ≤ 1000000 ∧ F ≤ FT.1 ∧ FT.1 + q.service ≤ 1000000 := fun h => by
    rw [hFT] at h ⊢
    obtain ⟨-, z1, -, z2, z3⟩ := H.fit_ok h
    exact ⟨z1.1, z1.2, z2, z3⟩
  have HFIT := Lib.hid hfit
  have hl3 := HL3.out
  rw [← hFT] at hl3 ⊢
  have HL4 := Lib.hid hl3
  clear hl3 HL3 hfit hFT
  obtain ⟨B, okb⟩ := FT
  rintro e we ⟨rfl, be⟩
  have b3e := bel b3d be
  clear p0 p1 s0 s1 s2 s3 s4 s5 q0 q1 q2 q3 q4 q5 q6
  obtain ⟨-, p0, p1, s0, s1, s2, s3, s4, s5, q0, q1, q2, q3, q4, q5, q6⟩ := hmk _ b3e
  clear hmk be b3d b3c
  cases okb
  · have HX := Lib.hid (show K.lab x.nd x.l x.s x.r v m i = -1 by rw [HL4.out, if_pos (.inl rfl)])
    go_wp2_with fail
    go_ret
    exact ⟨by rw [HX.out]; rfl, bel hb b3e⟩
  have hfit := HFIT.out rfl
  dsimp only at hfit
  have hbs : IntKind.i64.wrap (B + q.service) = B + q.service := IntWalk.i64_in _ (by omega)
  have hbs2 : wrap64 (B + q.service) = B + q.service := by rw [← IntWalk.i64_left]; exact hbs
  clear hfit HFIT
  by_cases h5 : x.s.end_ < B + q.service
  · have c5 : decide (x.s.end_ < B + q.service) = true := decide_eq_true h5
    have HX := Lib.hid (show K.lab x.nd x.l x.s x.r v m i = -1 by rw [HL4.out, if_pos (.inr h5)])
    go_wp2_with fail
    go_ret
    exact ⟨by rw [HX.out]; rfl, bel hb b3e⟩
  · have c5 : decide (x.s.end_ < B + q.service) = false := decide_eq_false h5
    have HX := Lib.hid (show K.lab x.nd x.l x.s x.r v m i = B + q.service by rw [HL4.out, if_neg (by simp [h5])])
    go_wp2_with fail
    go_ret
    exact ⟨by rw [HX.out]; rfl, bel hb b3e⟩
end Go.Proofs.Ytjcdpfpdjcannaa
