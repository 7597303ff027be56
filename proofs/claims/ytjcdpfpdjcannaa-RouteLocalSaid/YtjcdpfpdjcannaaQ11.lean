/-
The walk of the law RouteLocal.
-/
import Derived.Test.YtjcdpfpdjcannaaPS
import Derived.Test.YtjcdpfpdjcannaaVG
import Derived.Deep.Light
namespace Go.Proofs.Ytjcdpfpdjcannaa
open Go.RowKit

/-- A number of the set and its request. -/
theorem elem31 {nd : Int} {l : List Ro} {s : S} {r : List Q} {v : List Int} (hok : K.ok31 nd l s r v = true) {i : Nat} {k : Int} (h : v[i]? = some k) :
    ∃ (d : Nat) (q : Q), k = (d : Int) ∧ d < r.length ∧ r[d]? = some q ∧ K.req r k = q ∧ 0 ≤ q.node ∧ q.node < nd ∧ 0 ≤ q.service ∧ q.service ≤ 1000000 := by
  obtain ⟨-, -, -, hrq, -, hgo⟩ := K.ok31_parts hok
  obtain ⟨h0, h1, -, h3⟩ := ((K.setGo_iff _ _).1 hgo).1 k (List.mem_of_getElem? h)
  obtain ⟨d, hd⟩ : ∃ d : Nat, k = (d : Int) := ⟨k.toNat, by omega⟩
  subst hd
  have hq : r[d]? = some (r[d]'(by omega)) := List.getElem?_eq_getElem (by omega)
  obtain ⟨hn, hs, -⟩ := K.right_req (hrq _ (List.mem_of_getElem? hq))
  rw [K.req_get hq] at h3
  exact ⟨d, _, rfl, by omega, hq, K.req_get hq, hn.1, h3, hs.1, hs.2⟩

set_option maxRecDepth 100000 in
set_option maxHeartbeats 16000000 in
theorem local_any (x : C) (V : Option Addr) (vn vc : Nat) (v : List Int) (w : World) (hN : Roads w x.A x.n x.l) (hS0 : Ints w x.s.A x.s.n x.s.l) (hQ : Reqs w x.B x.m x.r) (hV : Ints w V vn v) (hvc : vn ≤ vc) :
    Calls Try.prog 11 #[.agg #[.int .i64 x.nd, .slice x.A x.n x.c], .agg #[.int .i64 x.s.day, .int .i64 x.s.depot, .int .i64 x.s.start, .int .i64 x.s.end_, .int .i64 x.s.tare, .slice x.s.A x.s.n x.s.c], .slice x.B x.m x.d, .slice V vn vc] w fun e w' => e = .returned (.bool true) ∧ Below w.heap.size w w' := by
  obtain ⟨w1, hw1⟩ : ∃ w1 : World, w1 = w.alloc (.cells #[.int .i64 x.nd, .slice x.A x.n x.c] 24) := ⟨_, rfl⟩
  obtain ⟨w2, hw2⟩ : ∃ w2 : World, w2 = w1.alloc (.cells #[.int .i64 x.s.day, .int .i64 x.s.depot, .int .i64 x.s.start, .int .i64 x.s.end_, .int .i64 x.s.tare, .slice x.s.A x.s.n x.s.c] 27) := ⟨_, rfl⟩
  have z1 : w1.heap.size = w.heap.size + 1 := by rw [hw1]; exact World.size_alloc _ _
  have b01 : Below w.heap.size w w1 := by rw [hw1]; exact (Below.refl _ _).alloc (Nat.le_refl _) _
  have b12 : Below w1.heap.size w1 w2 := by rw [hw2]; exact (Below.refl _ _).alloc (Nat.le_refl _) _
  have hP : Net w2 w.heap.size x.nd x.A x.n x.c := by
    have h1 : Net w1 w.heap.size x.nd x.A x.n x.c := by rw [hw1]; exact Net.new _ _ _ _ _
    exact h1.below b12
  have hS : Shf w2 (w.heap.size + 1) x.s := by rw [← z1, hw2]; exact Shf.new _ _
  have hb := bel b01 b12
  go_enter Try.func11, Try.ntmps11
  go_wp2_with fail
  rw [← hw1, ← hw2]
  clear hw1 hw2 z1 b01 b12
  refine (sane31_any _).mono ?_
  rintro e w3 ⟨rfl, b3⟩
  have hP := hP.below b3
  have hS := hS.below b3
  have hb := bel hb b3
  clear b3
  have p0 := hP.c0
  have p1 := hP.c1
  obtain ⟨s0, s1, s2, s3, s4, s5⟩ := hS.cells
  go_wp2_with fail
  refine (few31_any x V vn vc _ (hQ.below hb)).mono ?_
  rintro e w4 ⟨rfl, b4⟩
  have hP := hP.below b4
  have hS := hS.below b4
  have hb := bel hb b4
  clear b4 p0 p1 s0 s1 s2 s3 s4 s5
  have p0 := hP.c0
  have p1 := hP.c1
  obtain ⟨s0, s1, s2, s3, s4, s5⟩ := hS.cells
  cases hf : K.few31 x.nd x.n x.s x.r vn
  · clear hf
    go_wp2_with fail
    go_ret
    exact ⟨rfl, hb⟩
  obtain ⟨hf0, hvs⟩ : K.few30 x.nd x.n x.s x.r = true ∧ K.size31 vn = true := by simpa [K.few31] using hf
  obtain ⟨hf1, hf2, hf3, hf4⟩ := K.few_parts hf0
  have hx : At w x := ⟨hN, hS0, hQ, by omega, by omega, by rw [hQ.1]; omega, fun q hq => by have := hf4 q hq; omega⟩
  have hm6 : x.m ≤ 6 := by rw [hQ.1]; exact hf3
  have hv20 : vn ≤ 20 := by simp only [K.size31, Bool.or_eq_true, Bool.and_eq_true, decide_eq_true_eq] at hvs; omega
  clear hf1 hf2 hf3 hf4 hf hf0 hvs
  go_wp2_with fail
  refine (right31_any x V vn vc v _ (hx.below hb) (hV.below hb) (by omega)).mono ?_
  rintro e w5 ⟨rfl, b5⟩
  have hP := hP.below b5
  have hS := hS.below b5
  have hb := bel hb b5
  clear b5 p0 p1 s0 s1 s2 s3 s4 s5
  have p0 := hP.c0
  have p1 := hP.c1
  obtain ⟨s0, s1, s2, s3, s4, s5⟩ := hS.cells
  cases hok : K.ok31 x.nd x.l x.s x.r v
  · clear hok
    go_wp2_with fail
    go_ret
    exact ⟨rfl, hb⟩
  have HOK := Lib.hid hok
  clear hok
  have hv6 : vn ≤ 6 := by rw [hV.1]; exact (K.ok31_parts HOK.out).2.2.2.2.1
  have HVN := Lib.hid hV.1
  have HC := Lib.hid (K.case31 HOK.out)
  obtain ⟨hne, hck, hdp, -, -, -⟩ := K.ok31_parts HOK.out
  obtain ⟨-, ⟨d0, -⟩, st0, st1, en1⟩ := K.check_parts hck
  have nd0 := K.netErr_le hne
  have HNE := Lib.hid hne
  clear hne hck
  go_wp2_with fail
  refine (labels30_any x V vn vc v _ (hx.below hb) (hV.below hb) hvc (by omega)).mono ?_
  rintro e w6 ⟨⟨KA, kn, kc, rfl, hK⟩, b6⟩
  have hkl : kn ≤ 1000 := by rw [hK.1]; exact K.labs_len _ _ _ _ _
  have hP := hP.below b6
  have hS := hS.below b6
  have hb := bel hb b6
  clear b6 p0 p1 s0 s1 s2 s3 s4 s5
  obtain ⟨N, hN⟩ : ∃ N, N = 2 ^ vn := ⟨_, rfl⟩
  have hN1 : 1 ≤ N := by rw [hN]; exact Nat.two_pow_pos vn
  have hN64 : N ≤ 64 := by rw [hN]; exact Nat.pow_le_pow_right (by omega) hv6
  have HNN := Lib.hid (show N = 2 ^ v.length by rw [hN, HVN.out])
  have HW1 := Lib.hid (show IntKind.i64.wrap ((2 : Int) ^ vn) = (N : Int) by rw [wrap_pow (by omega), hN]; simp)
  have HW2 := Lib.hid (show wrap64 ((2 : Int) ^ vn) = (N : Int) by rw [← IntWalk.i64_left]; exact HW1.out)
  have hKl := hK.1
  have HKL := Lib.hid hKl
  clear hN hKl
  go_wp2_with fail
  go_loopw [11, 12] (fun v11 v12 wr => ∃ (n m : Nat), v11 = .int .i64 n ∧ v12 = .int .i64 m ∧ 1 ≤ m ∧ m ≤ N ∧ Hid (n = K.nlab x.nd x.l x.s x.r v m 0) ∧ Below w6.heap.size w6 wr) (fun _ v12 _ => N - (intOf v12).toNat)
  case atStart => exact ⟨0, 1, rfl, rfl, by omega, by omega, K.nlab_zero.symm, Below.refl _ _⟩
  case round =>
    obtain ⟨n, m, rfl, rfl, hm1, hmN, hn, hbr⟩ := hrel
    by_cases hlt : m < N
    · have hlt' : decide ((m : Int) < (N : Int)) = true := by simp; exact hlt
      have hw1 := HW1.out
      have hw2 := HW2.out
      go_wp2_with fail
      clear hw1 hw2
      refine (part31_any V vn vc v m _ (hV.below (bel hb hbr)) (by omega) (by omega)).mono ?_
      rintro e w7 ⟨⟨QA, qn, qc, rfl, hQI⟩, b7⟩
      have hqn : qn ≤ 6 := by have h1 := K.part_len v m; rw [← HVN.out] at h1; rw [hQI.1]; omega
      have HB7 := Lib.hid (bel hbr b7)
      have HBR := Lib.hid hbr
      clear hbr b7
      go_wp2_with fail
      go_loopw [11, 14] (fun v11 v14 wi => ∃ (n i : Nat), v11 = .int .i64 n ∧ v14 = .int .i64 i ∧ i ≤ vn ∧ Hid (n = K.nlab x.nd x.l x.s x.r v m i) ∧ Below w7.heap.size w7 wi) (fun _ v14 _ => vn - (intOf v14).toNat)
      case atStart => exact ⟨n, 0, rfl, rfl, by omega, hn, Below.refl _ _⟩
      case round =>
        clear hn
        obtain ⟨n, i, rfl, rfl, hi, hn, hbi⟩ := hrel
        by_cases hlti : i < vn
        · cases hbit : m.testBit i
          · have hb1 : bits BinOp.and IntKind.i64 ((m : Int) / 2 ^ i) 1 = 0 := by rw [bit_at (by omega) (by omega), hbit]; rfl
            have HX := Lib.hid (show n = K.nlab x.nd x.l x.s x.r v m (i + 1) by rw [K.nlab_skip hbit]; exact hn.out)
            clear hbit hn
            go_wp2_with fail
            go_roundw
            case rel => exact ⟨n, i + 1, rfl, by go_num, by omega, HX.out, hbi⟩
            case measure => simp [intOf]; omega
          · have hb1 : bits BinOp.and IntKind.i64 ((m : Int) / 2 ^ i) 1 = 1 := by rw [bit_at (by omega) (by omega), hbit]; rfl
            go_upto_region 14 with fail
            clear hb1
            have hg := K.labs_nth (nd := x.nd) (l := x.l) (s := x.s) (r := x.r) HOK.out (by rw [← HNN.out]; exact hlt) (by rw [← HVN.out]; exact hlti) hbit
            rw [← hn.out] at hg
            have hnk : n < kn := by rw [HKL.out]; exact (List.getElem?_eq_some_iff.1 hg).1
            have HX := Lib.hid (show n + 1 = K.nlab x.nd x.l x.s x.r v m (i + 1) by rw [K.nlab_next hbit, ← hn.out])
            obtain ⟨adv, k, rfl, hk, ck⟩ := hV.at_ hlti
            have HLAB := Lib.hid (K.lab_local (nd := x.nd) (l := x.l) (s := x.s) (r := x.r) HC.out (by rw [← HNN.out]; exact hlt) hk hbit)
            obtain ⟨d, q, hkd, hd, hdq, hreq, qn0, qn1, qs0, qs1⟩ := elem31 HOK.out hk
            rw [hreq] at HLAB
            have hi8 : i < 8 := by omega
            obtain ⟨hre, hrb⟩ := bit_rest (by omega) (by omega) hbit
            have HRB := Lib.hid hrb
            clear hrb
            obtain ⟨P, hP2⟩ : ∃ P, P = 2 ^ i := ⟨_, rfl⟩
            have hpw : 1 ≤ P := by rw [hP2]; exact Nat.two_pow_pos i
            have HW3 := Lib.hid (show IntKind.i64.wrap ((2 : Int) ^ i) = (P : Int) by rw [wrap_pow hi8, hP2]; simp)
            have HW4 := Lib.hid (show wrap64 ((2 : Int) ^ i) = (P : Int) by rw [← IntWalk.i64_left]; exact HW3.out)
            rw [← hP2] at hre HLAB
            clear hP2
            obtain ⟨rest, hrest⟩ : ∃ rest, rest = m - P := ⟨_, rfl⟩
            rw [← hrest] at hre HLAB
            have hrm : rest < m := by omega
            have hw5 : IntKind.i64.wrap ((m : Int) - (P : Int)) = (rest : Int) := by rw [IntWalk.i64_in _ (by omega)]; omega
            have hw6 : wrap64 ((m : Int) - (P : Int)) = (rest : Int) := by rw [← IntWalk.i64_left]; exact hw5
            subst hkd
            have hdm : d < x.m := by rw [hQ.1]; exact hd
            obtain ⟨adq, q2, hqB, hgq, hwq, e0, e1, e2, e3, e4, e5, e6⟩ := hQ.at_ hdm
            rw [hdq] at hgq
            injection hgq with hgq
            subst hgq
            obtain ⟨adk, y, rfl, hgy, c0, c1, c2⟩ := Labs.at_ hK hnk
            rw [hg] at hgy
            injection hgy with hgy
            subst hgy
            obtain ⟨dn, hdn⟩ : ∃ dn : Nat, q.node = (dn : Int) := ⟨q.node.toNat, by omega⟩
            rw [hdn] at e0 HLAB qn1
            clear hdn qn0
            obtain ⟨L, hL⟩ : ∃ L, L = K.lab x.nd x.l x.s x.r v m i := ⟨_, rfl⟩
            rw [← hL] at c2 HLAB
            dsimp only at c0 c1 c2
            have h6i := bel HB7.out hbi
            have hbwi := bel hb h6i
            have f0 := (h6i.cell (cell_lt c0)).trans c0
            have f1 := (h6i.cell (cell_lt c1)).trans c1
            have f2 := (h6i.cell (cell_lt c2)).trans c2
            obtain ⟨w8, hw8⟩ : ∃ w8 : World, w8 = wr.alloc (.cells #[.int .i64 (m : Int), .int .i64 (i : Int), .int .i64 L] 62) := ⟨_, rfl⟩
            have b8 : Below wr.heap.size wr w8 := by rw [hw8]; exact (Below.refl _ _).alloc (Nat.le_refl _) _
            have hB15 : w8.heap[wr.heap.size]? = some (.cells #[.int .i64 (m : Int), .int .i64 (i : Int), .int .i64 L] 62 (0, 0)) := by rw [hw8]; exact heap_alloc_new _ _
            have z8 : w8.heap.size = wr.heap.size + 1 := by rw [hw8]; exact World.size_alloc _ _
            have hbw8 := bel hbwi b8
            have ck8 := (hbw8.cell (cell_lt ck)).trans ck
            have e08 := (hbw8.cell (cell_lt e0)).trans e0
            have e18 := (hbw8.cell (cell_lt e1)).trans e1
            have e28 := (hbw8.cell (cell_lt e2)).trans e2
            have e38 := (hbw8.cell (cell_lt e3)).trans e3
            have e48 := (hbw8.cell (cell_lt e4)).trans e4
            have e58 := (hbw8.cell (cell_lt e5)).trans e5
            have e68 := (hbw8.cell (cell_lt e6)).trans e6
            have g0 := blk_cell hB15 0 _ rfl
            have g1 := blk_cell hB15 1 _ rfl
            obtain ⟨w9, hw9⟩ : ∃ w9 : World, w9 = w8.alloc (.cells #[.int .i64 (dn : Int), .int .i64 q.room, .int .i64 q.kilos, .int .i64 q.service, .int .i64 q.frm, .int .i64 q.by_, .slice q.A q.n q.c] 41) := ⟨_, rfl⟩
            have b9 : Below w8.heap.size w8 w9 := by rw [hw9]; exact (Below.refl _ _).alloc (Nat.le_refl _) _
            have hB16 : w9.heap[wr.heap.size + 1]? = some (.cells #[.int .i64 (dn : Int), .int .i64 q.room, .int .i64 q.kilos, .int .i64 q.service, .int .i64 q.frm, .int .i64 q.by_, .slice q.A q.n q.c] 41 (0, 0)) := by rw [← z8, hw9]; exact heap_alloc_new _ _
            have hB15 := blk_below b9 hB15
            have hbw9 := bel hbw8 b9
            have h79 := bel hbi (bel b8 b9)
            have kk0 : (0 : Int) ≤ (n : Int) := by omega
            have kk1 : (n : Int) < (kn : Int) := by omega
            have kk2 : decide ((kn : Int) ≤ (n : Int)) = false := by simp; omega
            have kk2n : decide (kn ≤ n) = false := by simp; omega
            have kk2m : ¬ kn ≤ n := by omega
            have kk3 : (0 : Int) ≤ (i : Int) := by omega
            have kk4 : (i : Int) < (vn : Int) := by omega
            have kk5 : (0 : Int) ≤ (d : Int) := by omega
            have kk6 : (d : Int) < (x.m : Int) := by omega
            have hsum : IntKind.i64.wrap ((n : Int) + 1) = ((n + 1 : Nat) : Int) := by rw [IntWalk.i64_in _ (by omega)]; omega
            have hsum2 : wrap64 ((n : Int) + 1) = ((n + 1 : Nat) : Int) := by rw [← IntWalk.i64_left]; exact hsum
            have m1 : ((m : Int) != (m : Int)) = false := by simp
            have m2 : ((i : Int) != (i : Int)) = false := by simp
            have HB15 := Lib.hid hB15
            have HB16 := Lib.hid hB16
            have HWQ := Lib.hid hwq
            have HQN := Lib.hid (hx.b4 q (List.mem_of_getElem? hdq))
            have HREQ := Lib.hid hreq
            have HKV := Lib.hid hk
            rw [hw8] at ck8 e08 e18 e28 e38 e48 e58 e68 g0 g1
            have HQB := Lib.hid hqB
            rw [hqB]
            clear hbit hn hg hL hrest c0 c1 c2 ck e0 e1 e2 e3 e4 e5 e6 hB15 hB16 hwq hreq hk hd hdq
            go_upto_region 21 with fail
            rw [← hw8, ← hw9]
            clear hw8 hw9 z8 f0 f1 f2 ck8 e08 e18 e28 e38 e48 e58 e68 g0 g1
            have hw3 := HW3.out
            have hw4 := HW4.out
            go_wp2_with fail
            clear hw3 hw4 hw5 hw6
            have hmk : ∀ w', Below w9.heap.size w9 w' → (fun w' : World => Below w9.heap.size w9 w' ∧ w'.cell? ⟨w.heap.size + 1, 0, none⟩ = some (.int .i64 x.s.day) ∧ w'.cell? ⟨w.heap.size + 1, 1, none⟩ = some (.int .i64 x.s.depot) ∧ w'.cell? ⟨w.heap.size + 1, 2, none⟩ = some (.int .i64 x.s.start) ∧ w'.cell? ⟨w.heap.size + 1, 3, none⟩ = some (.int .i64 x.s.end_) ∧ w'.cell? ⟨w.heap.size + 1, 4, none⟩ = some (.int .i64 x.s.tare) ∧ w'.cell? ⟨w.heap.size + 1, 5, none⟩ = some (.slice x.s.A x.s.n x.s.c)) w' := fun w' h => ⟨h, (hS.below (bel h6i (bel (bel b8 b9) h))).cells⟩
            have S0 := hmk _ (Below.refl _ _)
            have hSd : ∀ w', (fun w' : World => Below w9.heap.size w9 w' ∧ w'.cell? ⟨w.heap.size + 1, 0, none⟩ = some (.int .i64 x.s.day) ∧ w'.cell? ⟨w.heap.size + 1, 1, none⟩ = some (.int .i64 x.s.depot) ∧ w'.cell? ⟨w.heap.size + 1, 2, none⟩ = some (.int .i64 x.s.start) ∧ w'.cell? ⟨w.heap.size + 1, 3, none⟩ = some (.int .i64 x.s.end_) ∧ w'.cell? ⟨w.heap.size + 1, 4, none⟩ = some (.int .i64 x.s.tare) ∧ w'.cell? ⟨w.heap.size + 1, 5, none⟩ = some (.slice x.s.A x.s.n x.s.c)) w' → (fun w' : World => Below w9.heap.size w9 w' ∧ w'.cell? ⟨w.heap.size + 1, 0, none⟩ = some (.int .i64 x.s.day) ∧ w'.cell? ⟨w.heap.size + 1, 1, none⟩ = some (.int .i64 x.s.depot) ∧ w'.cell? ⟨w.heap.size + 1, 2, none⟩ = some (.int .i64 x.s.start) ∧ w'.cell? ⟨w.heap.size + 1, 3, none⟩ = some (.int .i64 x.s.end_) ∧ w'.cell? ⟨w.heap.size + 1, 4, none⟩ = some (.int .i64 x.s.tare) ∧ w'.cell? ⟨w.heap.size + 1, 5, none⟩ = some (.slice x.s.A x.s.n x.s.c)) w'.drew := fun w' h => hmk _ h.1.drew
            have hVx : ∀ w', Below w9.heap.size w9 w' → Ints w' (some adv) vn v := fun w' h => (hV.below hbw9).below h
            have hAr : ∀ w', Below w9.heap.size w9 w' → Ints w' x.s.A x.s.n x.s.l := fun w' h => ((hx.below hbw9).below h).rooms
            have hAq : ∀ w', Below w9.heap.size w9 w' → Reqs w' (some adq) x.m x.r := fun w' h => by rw [← hqB]; exact ((hx.below hbw9).below h).reqs
            clear hqB
            have hr256 : rest < 256 := by omega
            have hv8 : vn ≤ 8 := by omega
            have hpl : (K.part v rest).length ≤ 1000000000 := by have h1 := K.part_len v rest; rw [← HVN.out] at h1; omega
            go_region_held3 (fun w' : World => Below w9.heap.size w9 w' ∧ w'.cell? ⟨w.heap.size + 1, 0, none⟩ = some (.int .i64 x.s.day) ∧ w'.cell? ⟨w.heap.size + 1, 1, none⟩ = some (.int .i64 x.s.depot) ∧ w'.cell? ⟨w.heap.size + 1, 2, none⟩ = some (.int .i64 x.s.start) ∧ w'.cell? ⟨w.heap.size + 1, 3, none⟩ = some (.int .i64 x.s.end_) ∧ w'.cell? ⟨w.heap.size + 1, 4, none⟩ = some (.int .i64 x.s.tare) ∧ w'.cell? ⟨w.heap.size + 1, 5, none⟩ = some (.slice x.s.A x.s.n x.s.c))
              (first | assumption | exact S0 | exact hSd _ (by assumption))
              (first
                | (go_at_call 35; refine (part31_any (some adv) vn vc v rest _ (hVx _ (And.left (by assumption))) hv8 hr256).mono ?_; rintro e wb ⟨⟨RA, rn, rc, rfl, hR⟩, bb⟩; have S1 := hmk _ (bel (And.left (by assumption)) bb); have hrn : rn ≤ 1000000000 := by (rw [hR.1]; exact hpl))
                | (go_at_call 22; refine (weight_any x.s (some adq) x.m x.d x.r RA rn rc (K.part v rest) _ (hAr _ S1.1) hx.b2 (hAq _ S1.1) hx.b3 hx.b4 hR hrn).mono ?_; rintro e wc ⟨rfl, bc⟩; have S2 := hmk _ (bel S1.1 bc))
                | fail)
            obtain ⟨wt, hwt⟩ : ∃ wt, wt = T.weight x.s x.r (K.part v rest) := ⟨_, rfl⟩
            rw [← hwt]
            have HWT := Lib.hid hwt
            have b9c := S2.1
            clear S0 S1 S2 hSd hmk hR hrn hpl hVx hAr hAq hwt bb bc hsum hsum2 kk0 kk1 kk2 kk2n kk2m kk3 kk4 kk5 kk6
            go_wp2_with fail
            go_loopw [19, 20] (fun v19 v20 wr => ∃ (j : Nat) (f : Int), v19 = .int .i64 f ∧ v20 = .int .i64 j ∧ j ≤ vn + 1 ∧ Hid (f = K.locU x.nd x.l x.s x.r v rest (dn : Int) j) ∧ Below w9.heap.size w9 wr) (fun _ v20 _ => vn + 1 - (intOf v20).toNat)
            case atStart => exact ⟨0, -1, rfl, rfl, by omega, K.locU_zero _ _, b9c⟩
            case round =>
              obtain ⟨j, f, rfl, rfl, hj, hf, hbj⟩ := hrel
              have hfb := K.locU_bd HC.out (by omega) rest (dn : Int) j
              rw [← hf.out] at hfb
              have h6j : Below w6.heap.size w6 wr := bel h6i (bel (bel b8 b9) hbj)
              by_cases hjv : j ≤ vn
              · obtain ⟨s0, s1, s2, s3, s4, s5⟩ := (hS.below h6j).cells
                by_cases hjl : j < vn
                · obtain ⟨adv2, k2, hA2, hk2, ck2⟩ := (hV.below (bel hb h6j)).at_ hjl
                  injection hA2 with hA2
                  subst hA2
                  obtain ⟨d2, q2, hkd2, hd2, hdq2, hreq2, qm0, qm1, -, -⟩ := elem31 HOK.out hk2
                  have HNX := Lib.hid (K.locU_next (nd := x.nd) (l := x.l) (s := x.s) (r := x.r) (rest := rest) (tn := (dn : Int)) hk2)
                  rw [hreq2, ← hf.out, ← HWT.out] at HNX
                  subst hkd2
                  obtain ⟨adq2, q3, hB2, hgq2, -, z0, -⟩ := (hQ.below (bel hb h6j)).at_ (show d2 < x.m by rw [hQ.1]; exact hd2)
                  rw [HQB.out] at hB2
                  injection hB2 with hB2
                  subst hB2
                  rw [hdq2] at hgq2
                  injection hgq2 with hgq2
                  subst hgq2
                  have i0 : (0 : Int) ≤ (j : Int) := by omega
                  have i1 : (j : Int) < (vn : Int) := by omega
                  have i2 : (0 : Int) ≤ (d2 : Int) := by omega
                  have i3 : (d2 : Int) < (x.m : Int) := by rw [hQ.1]; omega
                  have hlj := K.atLab_all (nd := x.nd) (l := x.l) (s := x.s) (r := x.r) HOK.out (show rest < 2 ^ v.length by rw [← HNN.out]; omega) (show j < v.length by rw [← HVN.out]; exact hjl)
                  have HLJ := Lib.hid hlj
                  have hfr : 0 ≤ q2.node ∧ q2.node < x.nd := ⟨qm0, qm1⟩
                  have hTb := K.lab_bd (nd := x.nd) (l := x.l) (s := x.s) (r := x.r) HC.out rest j
                  clear hlj hk2 hd2 hdq2 hreq2 hf
                  go_wp2_with fail
                  refine (at31_any (some adk) kn kc _ (rest : Int) (j : Int) _ (Lst.below hK h6j) (by omega)).mono ?_
                  rw [HLJ.out]
                  obtain ⟨T, hT⟩ : ∃ T, T = K.lab x.nd x.l x.s x.r v rest j := ⟨_, rfl⟩
                  rw [← hT] at hTb HNX ⊢
                  rintro e wn ⟨rfl, bwn⟩
                  have hbn := bel hbj bwn
                  have bfn := bel h6j bwn
                  clear hT ck2 z0 s0 s1 s2 s3 s4 s5
                  as_aux_lemma =>
                    have p0 := (hP.below bfn).c0
                    have p1 := (hP.below bfn).c1
                    go_wp2_with fail
                    refine (times_any x.nd x.A x.n x.c x.l q2.node wt _ (hx.below (bel hb bfn)).net hx.b1).mono ?_
                    rintro e wy ⟨⟨TA, tn, tc, rfl, hTI⟩, bwy⟩
                    have htn : tn = x.nd.toNat := by rw [hTI.1]; exact K.times_len HNE.out hfr
                    have hdt : dn < tn := by omega
                    obtain ⟨ady, y, rfl, hy, cy⟩ := hTI.at_ hdt
                    have hway : y = K.way x.nd x.l q2.node wt (dn : Int) := by unfold K.way G.at_; rw [Int.toNat_natCast, hy]; rfl
                    have hyb := K.way_bd x.nd x.l q2.node wt (dn : Int)
                    rw [← hway] at hyb HNX
                    have hbjn := bel hbn bwy
                    have g160 := blk_cell (blk_below hbjn HB16.out) 0 _ rfl
                    have j1 : decide (tn ≤ dn) = false := by simp; omega
                    have j2 : ¬ tn ≤ dn := by omega
                    have j3 : (0 : Int) ≤ (dn : Int) := by omega
                    have j4 : (dn : Int) < (tn : Int) := by omega
                    have hsm : IntKind.i64.wrap (T + y) = T + y := IntWalk.i64_in _ (by omega)
                    have hsm2 : wrap64 (T + y) = T + y := by rw [← IntWalk.i64_left]; exact hsm
                    clear hy hway hTI htn p0 p1
                    by_cases hT1 : T = -1
                    · have d1 : ¬ 0 ≤ T := by omega
                      have c1 : decide (0 ≤ T) = false := decide_eq_false d1
                      have HF := Lib.hid (show f = K.locU x.nd x.l x.s x.r v rest (dn : Int) (j + 1) by rw [HNX.out, K.noted_no2 hT1])
                      go_wp2_with fail
                      go_roundw
                      case rel => (go_light; exact ⟨j + 1, f, rfl, by go_num, Nat.succ_le_succ hjv, HF.out, hbjn⟩)
                      case measure => (go_light; simp [intOf] <;> omega)
                    have d1 : 0 ≤ T := by omega
                    have c1 : decide (0 ≤ T) = true := decide_eq_true d1
                    by_cases hy1 : y = -1
                    · have d2 : ¬ 0 ≤ y := by omega
                      have c2 : decide (0 ≤ y) = false := decide_eq_false d2
                      have HF := Lib.hid (show f = K.locU x.nd x.l x.s x.r v rest (dn : Int) (j + 1) by rw [HNX.out, K.noted_no1 hy1])
                      go_wp2_with fail
                      go_roundw
                      case rel => (go_light; exact ⟨j + 1, f, rfl, by go_num, Nat.succ_le_succ hjv, HF.out, hbjn⟩)
                      case measure => (go_light; simp [intOf] <;> omega)
                    have d2 : 0 ≤ y := by omega
                    have c2 : decide (0 ≤ y) = true := decide_eq_true d2
                    by_cases hf1 : f = -1
                    · have d3 : f < 0 := by omega
                      have c3 : decide (f < 0) = true := decide_eq_true d3
                      have HF := Lib.hid (show T + y = K.locU x.nd x.l x.s x.r v rest (dn : Int) (j + 1) by rw [HNX.out, K.noted_yes hy1 hT1 (.inl hf1)])
                      go_wp2_with fail
                      go_roundw
                      case rel => (go_light; exact ⟨j + 1, T + y, rfl, by go_num, Nat.succ_le_succ hjv, HF.out, hbjn⟩)
                      case measure => (go_light; simp [intOf] <;> omega)
                    have d3 : ¬ f < 0 := by omega
                    have c3 : decide (f < 0) = false := decide_eq_false d3
                    by_cases hlf : T + y < f
                    · have c4 : decide (T + y < f) = true := decide_eq_true hlf
                      have HF := Lib.hid (show T + y = K.locU x.nd x.l x.s x.r v rest (dn : Int) (j + 1) by rw [HNX.out, K.noted_yes hy1 hT1 (.inr hlf)])
                      go_wp2_with fail
                      go_roundw
                      case rel => (go_light; exact ⟨j + 1, T + y, rfl, by go_num, Nat.succ_le_succ hjv, HF.out, hbjn⟩)
                      case measure => (go_light; simp [intOf] <;> omega)
                    have c4 : decide (T + y < f) = false := decide_eq_false hlf
                    have HF := Lib.hid (show f = K.locU x.nd x.l x.s x.r v rest (dn : Int) (j + 1) by rw [HNX.out, K.noted_no3 hf1 hlf])
                    go_wp2_with fail
                    go_roundw
                    case rel => (go_light; exact ⟨j + 1, f, rfl, by go_num, Nat.succ_le_succ hjv, HF.out, hbjn⟩)
                    case measure => (go_light; simp [intOf] <;> omega)
                · obtain rfl : j = vn := by omega
                  have HNX := Lib.hid (K.locU_last (nd := x.nd) (l := x.l) (s := x.s) (r := x.r) (rest := rest) (tn := (dn : Int)) HVN.out)
                  rw [← hf.out, ← HWT.out] at HNX
                  have hbn := hbj
                  have bfn := h6j
                  have hfr : 0 ≤ x.s.depot ∧ x.s.depot < x.nd := ⟨d0, hdp⟩
                  by_cases hr0 : rest = 0
                  · rw [if_pos hr0] at HNX
                    have i4 : ((rest : Int) != 0) = false := by simp [hr0]
                    have i5 : (rest != 0) = false := by simp [hr0]
                    clear hf hr0
                    as_aux_lemma =>
                      have p0 := (hP.below bfn).c0
                      have p1 := (hP.below bfn).c1
                      go_wp2_with fail
                      refine (times_any x.nd x.A x.n x.c x.l x.s.depot wt _ (hx.below (bel hb bfn)).net hx.b1).mono ?_
                      rintro e wy ⟨⟨TA, tn, tc, rfl, hTI⟩, bwy⟩
                      have htn : tn = x.nd.toNat := by rw [hTI.1]; exact K.times_len HNE.out hfr
                      have hdt : dn < tn := by omega
                      obtain ⟨ady, y, rfl, hy, cy⟩ := hTI.at_ hdt
                      have hway : y = K.way x.nd x.l x.s.depot wt (dn : Int) := by unfold K.way G.at_; rw [Int.toNat_natCast, hy]; rfl
                      have hyb := K.way_bd x.nd x.l x.s.depot wt (dn : Int)
                      rw [← hway] at hyb HNX
                      have hbjn := bel hbn bwy
                      have g160 := blk_cell (blk_below hbjn HB16.out) 0 _ rfl
                      have j1 : decide (tn ≤ dn) = false := by simp; omega
                      have j2 : ¬ tn ≤ dn := by omega
                      have j3 : (0 : Int) ≤ (dn : Int) := by omega
                      have j4 : (dn : Int) < (tn : Int) := by omega
                      have hsm : IntKind.i64.wrap (x.s.start + y) = x.s.start + y := IntWalk.i64_in _ (by omega)
                      have hsm2 : wrap64 (x.s.start + y) = x.s.start + y := by rw [← IntWalk.i64_left]; exact hsm
                      clear hy hway hTI htn p0 p1
                      have hT1 : ¬ x.s.start = -1 := by omega
                      have d1 : 0 ≤ x.s.start := by omega
                      have c1 : decide (0 ≤ x.s.start) = true := decide_eq_true d1
                      by_cases hy1 : y = -1
                      · have d2 : ¬ 0 ≤ y := by omega
                        have c2 : decide (0 ≤ y) = false := decide_eq_false d2
                        have HF := Lib.hid (show f = K.locU x.nd x.l x.s x.r v rest (dn : Int) (j + 1) by rw [HNX.out, K.noted_no1 hy1])
                        go_wp2_with fail
                        go_roundw
                        case rel => (go_light; exact ⟨j + 1, f, rfl, by go_num, Nat.succ_le_succ hjv, HF.out, hbjn⟩)
                        case measure => (go_light; simp [intOf] <;> omega)
                      have d2 : 0 ≤ y := by omega
                      have c2 : decide (0 ≤ y) = true := decide_eq_true d2
                      by_cases hf1 : f = -1
                      · have d3 : f < 0 := by omega
                        have c3 : decide (f < 0) = true := decide_eq_true d3
                        have HF := Lib.hid (show x.s.start + y = K.locU x.nd x.l x.s x.r v rest (dn : Int) (j + 1) by rw [HNX.out, K.noted_yes hy1 hT1 (.inl hf1)])
                        go_wp2_with fail
                        go_roundw
                        case rel => (go_light; exact ⟨j + 1, x.s.start + y, rfl, by go_num, Nat.succ_le_succ hjv, HF.out, hbjn⟩)
                        case measure => (go_light; simp [intOf] <;> omega)
                      have d3 : ¬ f < 0 := by omega
                      have c3 : decide (f < 0) = false := decide_eq_false d3
                      by_cases hlf : x.s.start + y < f
                      · have c4 : decide (x.s.start + y < f) = true := decide_eq_true hlf
                        have HF := Lib.hid (show x.s.start + y = K.locU x.nd x.l x.s x.r v rest (dn : Int) (j + 1) by rw [HNX.out, K.noted_yes hy1 hT1 (.inr hlf)])
                        go_wp2_with fail
                        go_roundw
                        case rel => (go_light; exact ⟨j + 1, x.s.start + y, rfl, by go_num, Nat.succ_le_succ hjv, HF.out, hbjn⟩)
                        case measure => (go_light; simp [intOf] <;> omega)
                      have c4 : decide (x.s.start + y < f) = false := decide_eq_false hlf
                      have HF := Lib.hid (show f = K.locU x.nd x.l x.s x.r v rest (dn : Int) (j + 1) by rw [HNX.out, K.noted_no3 hf1 hlf])
                      go_wp2_with fail
                      go_roundw
                      case rel => (go_light; exact ⟨j + 1, f, rfl, by go_num, Nat.succ_le_succ hjv, HF.out, hbjn⟩)
                      case measure => (go_light; simp [intOf] <;> omega)
                  · rw [if_neg hr0] at HNX
                    have i4 : ((rest : Int) != 0) = true := by simp; exact hr0
                    have i5 : (rest != 0) = true := by simp; exact hr0
                    clear hf
                    as_aux_lemma =>
                      have p0 := (hP.below bfn).c0
                      have p1 := (hP.below bfn).c1
                      go_wp2_with fail
                      refine (times_any x.nd x.A x.n x.c x.l x.s.depot wt _ (hx.below (bel hb bfn)).net hx.b1).mono ?_
                      rintro e wy ⟨⟨TA, tn, tc, rfl, hTI⟩, bwy⟩
                      have htn : tn = x.nd.toNat := by rw [hTI.1]; exact K.times_len HNE.out hfr
                      have hdt : dn < tn := by omega
                      obtain ⟨ady, y, rfl, hy, cy⟩ := hTI.at_ hdt
                      have hway : y = K.way x.nd x.l x.s.depot wt (dn : Int) := by unfold K.way G.at_; rw [Int.toNat_natCast, hy]; rfl
                      have hyb := K.way_bd x.nd x.l x.s.depot wt (dn : Int)
                      rw [← hway] at hyb HNX
                      have hbjn := bel hbn bwy
                      have g160 := blk_cell (blk_below hbjn HB16.out) 0 _ rfl
                      have j1 : decide (tn ≤ dn) = false := by simp; omega
                      have j2 : ¬ tn ≤ dn := by omega
                      have j3 : (0 : Int) ≤ (dn : Int) := by omega
                      have j4 : (dn : Int) < (tn : Int) := by omega
                      have hsm : IntKind.i64.wrap ((-1) + y) = (-1) + y := IntWalk.i64_in _ (by omega)
                      have hsm2 : wrap64 ((-1) + y) = (-1) + y := by rw [← IntWalk.i64_left]; exact hsm
                      clear hy hway hTI htn p0 p1
                      have HF := Lib.hid (show f = K.locU x.nd x.l x.s x.r v rest (dn : Int) (j + 1) by rw [HNX.out, K.noted_no2 rfl])
                      go_wp2_with fail
                      go_roundw
                      case rel => (go_light; exact ⟨j + 1, f, rfl, by go_num, Nat.succ_le_succ hjv, HF.out, hbjn⟩)
                      case measure => (go_light; simp [intOf] <;> omega)
              · have HF := Lib.hid (show f = K.locF x.nd x.l x.s x.r v rest (dn : Int) by rw [hf.out, K.locU_end (by rw [← HVN.out]; omega)])
                rw [← HF.out, K.labelOf_may] at HLAB
                have g163 := blk_cell (blk_below hbj HB16.out) 3 _ rfl
                have g166 := blk_cell (blk_below hbj HB16.out) 6 _ rfl
                clear hf
                go_wp2_with fail
                refine (fit_any q.A q.n q.c q.l f q.service _ ((HWQ.out.below (bel hbw9 hbj))) HQN.out).mono ?_
                obtain ⟨FT, hFT⟩ : ∃ FT, FT = H.fit q.l f q.service := ⟨_, rfl⟩
                have hfit : FT.2 = true → 0 ≤ f ∧ f ≤ 1000000 ∧ f ≤ FT.1 ∧ FT.1 + q.service ≤ 1000000 := fun h => by
                  rw [hFT] at h ⊢
                  obtain ⟨-, z1, -, z2, z3⟩ := H.fit_ok h
                  exact ⟨z1.1, z1.2, z2, z3⟩
                obtain ⟨MB, hMB⟩ : ∃ MB, MB = K.may x.s x.r q (K.part v m) f := ⟨_, rfl⟩
                have HM := Lib.hid (show MB = (FT.2 && (decide (0 ≤ f) && (decide (f ≤ x.s.end_) && (decide (FT.1 + q.service ≤ x.s.end_) && (T.fits x.s x.r (K.part v m) && (decide (q.frm ≤ x.s.day) && decide (x.s.day ≤ q.by_))))))) by rw [hMB, hFT]; rfl)
                rw [← hFT]
                rw [← hFT, ← hMB] at HLAB
                obtain ⟨B, okb⟩ := FT
                dsimp only at hfit HM HLAB
                rintro e wf ⟨rfl, bwf⟩
                have hbf := bel hbj bwf
                have h6f := bel h6j bwf
                clear hFT hMB g163 g166
                have g153 := blk_cell (blk_below hbf HB15.out) 2 _ rfl
                have g163 := blk_cell (blk_below hbf HB16.out) 3 _ rfl
                have g164 := blk_cell (blk_below hbf HB16.out) 4 _ rfl
                have g165 := blk_cell (blk_below hbf HB16.out) 5 _ rfl
                obtain ⟨s0, s1, s2, s3, s4, s5⟩ := (hS.below h6f).cells
                have hMok : MB = true → okb = true := fun h => by
                  have h1 := HM.out
                  rw [h] at h1
                  cases okb
                  · cases h1
                  · rfl
                have hbs : okb = true → IntKind.i64.wrap (B + q.service) = B + q.service := fun h => IntWalk.i64_in _ (by have := hfit h; omega)
                have HBS := Lib.hid hbs
                have HMOK := Lib.hid hMok
                clear hbs hMok hfit
                go_upto_region 40 with fail
                go_cut [26] from 184 to 223 (fun v26 wx => v26 = .bool MB ∧ Below w9.heap.size w9 wx)
                case first =>
                  as_aux_lemma =>
                    cases okb
                    · have HMF := Lib.hid (show MB = false by rw [HM.out]; simp)
                      go_wp2_with fail
                      go_meet
                      case rel => exact ⟨by rw [HMF.out], hbf⟩
                    rw [Bool.true_and] at HM
                    have hbs1 := HBS.out rfl
                    have hbs2 : wrap64 (B + q.service) = B + q.service := by rw [← IntWalk.i64_left]; exact hbs1
                    cases hc1 : decide (0 ≤ f)
                    · have HMF := Lib.hid (show MB = false by rw [HM.out, hc1]; simp)
                      have hp1 := of_decide_eq_false hc1
                      go_wp2_with fail
                      go_meet
                      case rel => exact ⟨by rw [HMF.out], hbf⟩
                    have hp1 := of_decide_eq_true hc1
                    rw [hc1, Bool.true_and] at HM
                    cases hc2 : decide (f ≤ x.s.end_)
                    · have HMF := Lib.hid (show MB = false by rw [HM.out, hc2]; simp)
                      have hp2 := of_decide_eq_false hc2
                      go_wp2_with fail
                      go_meet
                      case rel => exact ⟨by rw [HMF.out], hbf⟩
                    have hp2 := of_decide_eq_true hc2
                    rw [hc2, Bool.true_and] at HM
                    cases hc3 : decide (B + q.service ≤ x.s.end_)
                    · have HMF := Lib.hid (show MB = false by rw [HM.out, hc3]; simp)
                      have hp3 := of_decide_eq_false hc3
                      go_wp2_with fail
                      go_meet
                      case rel => exact ⟨by rw [HMF.out], hbf⟩
                    have hp3 := of_decide_eq_true hc3
                    rw [hc3, Bool.true_and] at HM
                    go_wp2_with fail
                    refine (fits_any x.s (some adq) x.m x.d x.r QA qn qc (K.part v m) _ (hx.below (bel hb h6f)).rooms hx.b2 (by rw [← HQB.out]; exact (hx.below (bel hb h6f)).reqs) hx.b3 hx.b4 (hQI.below (bel hbi (bel (bel b8 b9) hbf))) (by omega)).mono ?_
                    rintro e wg ⟨rfl, bwg⟩
                    have hbg := bel hbf bwg
                    have h6g := bel h6f bwg
                    clear g153 g163 g164 g165 s0 s1 s2 s3 s4 s5
                    have g164 := blk_cell (blk_below hbg HB16.out) 4 _ rfl
                    have g165 := blk_cell (blk_below hbg HB16.out) 5 _ rfl
                    obtain ⟨s0, s1, s2, s3, s4, s5⟩ := (hS.below h6g).cells
                    obtain ⟨fb, hfb2⟩ : ∃ fb, fb = T.fits x.s x.r (K.part v m) := ⟨_, rfl⟩
                    rw [← hfb2] at HM ⊢
                    clear hfb2
                    cases fb
                    · have HMF := Lib.hid (show MB = false by rw [HM.out]; simp)
                      go_wp2_with fail
                      go_meet
                      case rel => exact ⟨by rw [HMF.out], hbg⟩
                    rw [Bool.true_and] at HM
                    cases hc5 : decide (q.frm ≤ x.s.day)
                    · have HMF := Lib.hid (show MB = false by rw [HM.out, hc5]; simp)
                      have hp5 := of_decide_eq_false hc5
                      go_wp2_with fail
                      go_meet
                      case rel => exact ⟨by rw [HMF.out], hbg⟩
                    have hp5 := of_decide_eq_true hc5
                    rw [hc5, Bool.true_and] at HM
                    cases hc6 : decide (x.s.day ≤ q.by_)
                    · have HMF := Lib.hid (show MB = false by rw [HM.out, hc6])
                      have hp6 := of_decide_eq_false hc6
                      go_wp2_with fail
                      go_meet
                      case rel => exact ⟨by rw [HMF.out], hbg⟩
                    have hp6 := of_decide_eq_true hc6
                    rw [hc6] at HM
                    have HMF := HM
                    go_wp2_with fail
                    go_meet
                    case rel => exact ⟨by rw [HMF.out], hbg⟩
                case rest =>
                  obtain ⟨rfl, hbx⟩ := hcut
                  clear g153 g163 g164 g165 s0 s1 s2 s3 s4 s5
                  have g153 := blk_cell (blk_below hbx HB15.out) 2 _ rfl
                  have g163 := blk_cell (blk_below hbx HB16.out) 3 _ rfl
                  as_aux_lemma =>
                    cases MB
                    · have hLe : L = -1 := by rw [HLAB.out]; rfl
                      subst hLe
                      go_wp2_with fail
                      rw [← HQB.out]
                      go_roundw
                      case rel => (go_light; exact ⟨n + 1, i + 1, by go_num, by go_num, hlti, HX.out, bel h79 hbx⟩)
                      case measure => (go_light; simp [intOf] <;> omega)
                    · have hLe : L = B + q.service := by rw [HLAB.out]; rfl
                      have hbs1 := HBS.out (HMOK.out rfl)
                      have hbs2 : wrap64 (B + q.service) = B + q.service := by rw [← IntWalk.i64_left]; exact hbs1
                      have hne2 : (B + q.service != B + q.service) = false := by simp
                      subst hLe
                      go_wp2_with fail
                      rw [← HQB.out]
                      go_roundw
                      case rel => (go_light; exact ⟨n + 1, i + 1, by go_num, by go_num, hlti, HX.out, bel h79 hbx⟩)
                      case measure => (go_light; simp [intOf] <;> omega)
        · have HX := Lib.hid (show n = K.nlab x.nd x.l x.s x.r v (m + 1) 0 by rw [← K.nlab_row, ← HVN.out, show vn = i by omega]; exact hn.out)
          clear hn
          go_wp2_with fail
          go_roundw
          case rel => exact ⟨n, m + 1, rfl, by go_num, by omega, by omega, HX.out, bel HB7.out hbi⟩
          case measure => simp [intOf]; omega
    · have hnk : ((n : Int) == (kn : Int)) = true := by
        have h1 := hn.out
        rw [show m = N by omega, HNN.out, K.nlab_end HOK.out, ← HKL.out] at h1
        simp [h1]
      clear hn
      have hw1 : decide ((m : Int) < IntKind.i64.wrap ((2 : Int) ^ vn)) = false := by rw [HW1.out]; simp; omega
      have hw2 : decide ((m : Int) < wrap64 ((2 : Int) ^ vn)) = false := by rw [HW2.out]; simp; omega
      go_wp2_with fail
      clear hw1 hw2
      go_ret
      exact ⟨rfl, bel hb hbr⟩
end Go.Proofs.Ytjcdpfpdjcannaa
