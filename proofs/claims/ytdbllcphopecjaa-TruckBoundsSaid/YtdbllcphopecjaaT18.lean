/-
The walk of truck.Weight.
-/
import Derived.Test.YtdbllcphopecjaaT17
import Derived.Lib.LazyBuf
namespace Go.Proofs.Ytdbllcphopecjaa
open Go.RowKit Go.Maps

theorem Three.other {w : World} {B : Nat} {x y z : Int} (h : Three w B x y z) {a : Addr} (ha : B ≠ a.block) (u : Value) : Three (w.setCell a u) B x y z := (Below.heap_setCell w a u B ha).trans h

theorem T.weight_take {s : S} {r : List Q} {l : List Int} (h : T.load s r l = true) : T.weight s r l = s.tare + T.sum ((T.loads r l).take 3) := by simp [T.weight, h, T.loads]

theorem T.sum_bound {l : List Int} {b : Int} (h : ∀ x ∈ l, 0 ≤ x ∧ x ≤ b) : 0 ≤ T.sum l ∧ T.sum l ≤ b * l.length := by
  induction l with
  | nil => simp [T.sum]
  | cons x l ih =>
    have h1 := h x List.mem_cons_self
    have h2 := ih fun y hy => h y (List.mem_cons_of_mem _ hy)
    have e : b * ((l.length : Int) + 1) = b * l.length + b := by rw [Int.mul_add, Int.mul_one]
    simp only [T.sum, List.length_cons]
    rw [Int.natCast_add, Int.natCast_one, e]
    omega

theorem T.take_bound {r : List Q} (h : T.allRight r) {l : List Int} {n k : Nat} (hn : n = l.length) (h9 : n ≤ 1000000000) (hk : k ≤ 3) : 0 ≤ T.sum ((T.loads r l).take k) ∧ T.sum ((T.loads r l).take k) ≤ 3000000000000000 := by
  have b := T.sum_bound (l := (T.loads r l).take k) (b := 1000000000000000) fun x hx => by
    obtain ⟨j, hj⟩ := List.mem_iff_getElem?.1 (List.mem_of_mem_take hx)
    have := T.loads_bound h hj
    omega
  have hl : ((T.loads r l).take k).length ≤ 3 := by rw [List.length_take]; simp [T.loads]; omega
  omega

theorem eql22 (a : Option Addr) (l c : Nat) (w : World) : (binOp .eql 22 (.slice a l c) (.slice none 0 0)).run Try.prog w = .ok (.bool a.isNone) w := by
  exact Go.run_eql_slice_nil w 22 3 a l c Try.underlying22

set_option maxHeartbeats 4000000 in
theorem weight_any (s : S) (B : Option Addr) (m d : Nat) (r : List Q) (A : Option Addr) (n c : Nat) (l : List Int) (w : World) (hs : Ints w s.A s.n s.l) (hsn : s.n ≤ 1000000000) (hq : Reqs w B m r) (hm : m ≤ 1000000000) (hqn : ∀ q ∈ r, q.n ≤ 1000000000) (hl : Ints w A n l) (hn : n ≤ 1000000000) :
    Calls Try.prog 23 #[.agg #[.int .i64 s.day, .int .i64 s.depot, .int .i64 s.start, .int .i64 s.end_, .int .i64 s.tare, .slice s.A s.n s.c], .slice B m d, .slice A n c] w fun e w' => e = .returned (.int .i64 (T.weight s r l)) ∧ Below w.heap.size w w' := by
  obtain ⟨dy, dp, st, en, ta, SA, sn, sc, sl⟩ := s
  simp only at hs hsn ⊢
  have b0 := (Below.refl w.heap.size w).alloc (Nat.le_refl _) (.cells #[.int .i64 dy, .int .i64 dp, .int .i64 st, .int .i64 en, .int .i64 ta, .slice SA sn sc] 24)
  have SZ := World.size_alloc w (.cells #[.int .i64 dy, .int .i64 dp, .int .i64 st, .int .i64 en, .int .i64 ta, .slice SA sn sc] 24)
  have heq := eql22
  go_enter Try.func23, Try.ntmps23
  go_wp2_with fail
  refine (loads_any ⟨dy, dp, st, en, ta, SA, sn, sc, sl⟩ B m d r A n c l _ (hs.below b0) hsn (hq.below b0) hm hqn (hl.below b0) hn).mono ?_
  rintro e w1 ⟨hb1, hok⟩
  have hP := (Shf.new w ⟨dy, dp, st, en, ta, SA, sn, sc, sl⟩).below hb1
  have hb := bel b0 hb1
  clear hb1
  rcases hok with ⟨hok, g, rfl, hg, hT⟩ | ⟨hno, rfl⟩
  · have HF := Lib.hid (T.weight_take hok)
    obtain ⟨hch, _, hri⟩ := T.load_parts hok
    have HB := Lib.hid (fun k (hk : k ≤ 3) => T.take_bound (k := k) hri hl.1 hn hk)
    have HC := (T.check_rooms hch).2.1
    simp only at HC
    have HG := Lib.hid hg
    clear hok hch hri b0 hg
    go_wp2_with fail
    go_loopw [18] (fun vi wr => ∃ k : Nat, vi = .int .i64 k ∧ k ≤ 3 ∧ Shf wr w.heap.size ⟨dy, dp, st, en, ta + T.sum ((T.loads r l).take k), SA, sn, sc, sl⟩ ∧ Three wr g (T.room r 0 l) (T.room r 1 l) (T.room r 2 l) ∧ Below w.heap.size w wr) (fun vi _ => 3 - (intOf vi).toNat)
    case atStart => exact ⟨0, rfl, by omega, by simpa [T.sum] using hP, hT, hb⟩
    case round =>
      obtain ⟨k, rfl, hk, hP, hT, hb⟩ := hrel
      have hI : Ints wr (some ⟨g, 0, none⟩) 3 (T.loads r l) := hT.ints
      obtain ⟨tk, htk⟩ : ∃ x, x = T.sum ((T.loads r l).take k) := ⟨_, rfl⟩
      have B0 := HB.out k hk
      rw [← htk] at B0 hP
      have p4 := hP.c4
      simp only at p4
      have pf := hP.free
      by_cases hlt : k < 3
      · obtain ⟨ad, x, he, hx, c0⟩ := hI.at_ hlt
        injection he with he; subst he
        have HS := Lib.hid (T.sum_next hx)
        have B1 := HB.out (k + 1) hlt
        rw [HS.out, ← htk] at B1
        rw [← htk] at HS
        rw [add_zero_block] at c0
        clear hx htk hI
        go_wp2_with fail
        go_roundw
        case rel =>
          refine ⟨k + 1, by go_num, by omega, ?_, hT.other (by have := HG.out; show g ≠ w.heap.size; omega) _, hb.setCell (Nat.le_refl _) _⟩
          have hn := hP.set4 (ta + tk + x)
          simp only at hn
          rw [HS.out, ← Int.add_assoc]
          exact hn
        case measure => simp [intOf]; omega
      · have hk3 : k = 3 := by omega
        have HX := Lib.hid (show T.weight ⟨dy, dp, st, en, ta, SA, sn, sc, sl⟩ r l = ta + tk by rw [HF.out, htk, hk3])
        clear htk HF hI
        go_wp2_with fail
        go_ret
        exact ⟨ret_i HX.out.symm, hb⟩
  · have HF := Lib.hid (show T.weight ⟨dy, dp, st, en, ta, SA, sn, sc, sl⟩ r l = -1 by simp [T.weight, hno])
    clear hno
    go_wp2_with fail
    go_ret
    exact ⟨ret_i HF.out.symm, hb⟩
end Go.Proofs.Ytdbllcphopecjaa
