/-
Routes: the contracts of planner.node and planner.begins.
-/
import Derived.Test.YtippdjmpkafifaaP4
namespace Go.Proofs.Ytippdjmpkafifaa
open Go.RowKit

theorem wrap_pow_all : ∀ k : Fin 8, IntKind.i64.wrap ((2 : Int) ^ k.val) = 2 ^ k.val := by decide +kernel
theorem wrap_pow {k : Nat} (hk : k < 8) : IntKind.i64.wrap ((2 : Int) ^ k) = 2 ^ k := wrap_pow_all ⟨k, hk⟩

/-- A place of the set: the number there, and its request. -/
structure Elem (p : PS) (i j : Nat) (q : Q) : Prop where
  set : p.l[i]? = some (j : Int)
  req : p.x.r[j]? = some q

theorem Elem.lt {w : World} {b mb : Nat} {p : PS} {i j : Nat} {q : Q} {X : Nat → Prop} (h : Elem p i j q) (hp : PAt w b mb p X) : i < p.n ∧ j < p.x.m := by
  have h1 := (List.getElem?_eq_some_iff.1 h.set).1
  have h2 := (List.getElem?_eq_some_iff.1 h.req).1
  exact ⟨by rw [hp.set.1]; exact h1, by rw [hp.at_.reqs.1]; exact h2⟩

theorem Elem.cells {w : World} {b mb : Nat} {p : PS} {i j : Nat} {q : Q} {X : Nat → Prop} (h : Elem p i j q) (hp : PAt w b mb p X) :
    ∃ ads ad, p.A = some ads ∧ p.x.B = some ad ∧ Wins w q.A q.n q.l ∧ w.cell? (ads.add i) = some (.int .i64 (j : Int)) ∧ w.cell? (ad.add (j * 7)) = some (.int .i64 q.node) ∧
      w.cell? ⟨(ad.add (j * 7)).block, (ad.add (j * 7)).off + 1, none⟩ = some (.int .i64 q.room) ∧
      w.cell? ⟨(ad.add (j * 7)).block, (ad.add (j * 7)).off + 2, none⟩ = some (.int .i64 q.kilos) ∧
      w.cell? ⟨(ad.add (j * 7)).block, (ad.add (j * 7)).off + 3, none⟩ = some (.int .i64 q.service) ∧
      w.cell? ⟨(ad.add (j * 7)).block, (ad.add (j * 7)).off + 4, none⟩ = some (.int .i64 q.frm) ∧
      w.cell? ⟨(ad.add (j * 7)).block, (ad.add (j * 7)).off + 5, none⟩ = some (.int .i64 q.by_) ∧
      w.cell? ⟨(ad.add (j * 7)).block, (ad.add (j * 7)).off + 6, none⟩ = some (.slice q.A q.n q.c) := by
  obtain ⟨hi, hj⟩ := h.lt hp
  obtain ⟨ads, y, hA, hy, cy⟩ := hp.set.at_ hi
  rw [h.set] at hy
  injection hy with hy
  subst hy
  obtain ⟨ad, q', hB, hgq, hwq, e0, e1, e2, e3, e4, e5, e6⟩ := hp.at_.reqs.at_ hj
  rw [h.req] at hgq
  injection hgq with hgq
  subst hgq
  exact ⟨ads, ad, hA, hB, hwq, cy, e0, e1, e2, e3, e4, e5, e6⟩

set_option maxRecDepth 100000 in
set_option maxHeartbeats 4000000 in
theorem node_any (b mb : Nat) (p : PS) (i j : Nat) (q : Q) (w : World) {X : Nat → Prop} (hp : PAt w b mb p X) (he : Elem p i j q) :
    Calls Try.prog 71 #[.pointer (some ⟨b, 0, none⟩), .int .i64 i] w fun e w' => e = .returned (.int .i64 q.node) ∧ Below w.heap.size w w' := by
  obtain ⟨c0, c1, c2, c3, c4, c5, c6, c7, c8, c9, c10⟩ := hp.blk.cells
  obtain ⟨hi, hj⟩ := he.lt hp
  obtain ⟨ads, ad, hA, hB, -, y, e0, -⟩ := he.cells hp
  have k0 : (0 : Int) ≤ (i : Int) := by omega
  have k1 : (i : Int) < (p.n : Int) := by omega
  have k2 : (0 : Int) ≤ (j : Int) := by omega
  have k3 : (j : Int) < (p.x.m : Int) := by omega
  rw [hA] at c9
  rw [hB] at c8
  clear hA hB
  go_enter Try.func71, Try.ntmps71
  go_wp2_with fail
  go_quiet (fail)
  go_wp2_with fail
  go_ret
  exact ⟨rfl, below_drewN (Below.refl _ _) _⟩

/-- The cells of the planner and of an element, in a world behind w. -/
def LE (w : World) (b mb : Nat) (p : PS) (i j : Nat) (q : Q) (ads ad : Addr) (w' : World) : Prop := Below w.heap.size w w' ∧ w'.cell? ⟨b, 0, none⟩ = some (.int .i64 p.x.nd) ∧ w'.cell? ⟨b, 1, none⟩ = some (.slice p.x.A p.x.n p.x.c) ∧ w'.cell? ⟨b, 2, none⟩ = some (.int .i64 p.x.s.day) ∧ w'.cell? ⟨b, 3, none⟩ = some (.int .i64 p.x.s.depot) ∧ w'.cell? ⟨b, 4, none⟩ = some (.int .i64 p.x.s.start) ∧
    w'.cell? ⟨b, 5, none⟩ = some (.int .i64 p.x.s.end_) ∧ w'.cell? ⟨b, 6, none⟩ = some (.int .i64 p.x.s.tare) ∧ w'.cell? ⟨b, 7, none⟩ = some (.slice p.x.s.A p.x.s.n p.x.s.c) ∧ w'.cell? ⟨b, 8, none⟩ = some (.slice (some ad) p.x.m p.x.d) ∧ w'.cell? ⟨b, 9, none⟩ = some (.slice (some ads) p.n p.c) ∧ w'.cell? ⟨b, 10, none⟩ = some (.map (some mb)) ∧ w'.cell? (ads.add i) = some (.int .i64 (j : Int)) ∧ w'.cell? (ad.add (j * 7)) = some (.int .i64 q.node) ∧
      w'.cell? ⟨(ad.add (j * 7)).block, (ad.add (j * 7)).off + 1, none⟩ = some (.int .i64 q.room) ∧
      w'.cell? ⟨(ad.add (j * 7)).block, (ad.add (j * 7)).off + 2, none⟩ = some (.int .i64 q.kilos) ∧
      w'.cell? ⟨(ad.add (j * 7)).block, (ad.add (j * 7)).off + 3, none⟩ = some (.int .i64 q.service) ∧
      w'.cell? ⟨(ad.add (j * 7)).block, (ad.add (j * 7)).off + 4, none⟩ = some (.int .i64 q.frm) ∧
      w'.cell? ⟨(ad.add (j * 7)).block, (ad.add (j * 7)).off + 5, none⟩ = some (.int .i64 q.by_) ∧
      w'.cell? ⟨(ad.add (j * 7)).block, (ad.add (j * 7)).off + 6, none⟩ = some (.slice q.A q.n q.c)
theorem LE.mk' {w : World} {b mb : Nat} {p : PS} {i j : Nat} {q : Q} {ads ad : Addr} {X : Nat → Prop} (hp : PAt w b mb p X) (he : Elem p i j q) (hA : p.A = some ads) (hB : p.x.B = some ad) {w' : World} (hb : Below w.heap.size w w') : LE w b mb p i j q ads ad w' := by
  have h := hp.below hb
  obtain ⟨ads', ad', hA', hB', -, hc⟩ := he.cells h
  rw [hA] at hA'; injection hA' with hA'; subst hA'
  rw [hB] at hB'; injection hB' with hB'; subst hB'
  obtain ⟨d0, d1, d2, d3, d4, d5, d6, d7, d8, d9, d10⟩ := h.blk.cells
  rw [hA] at d9
  rw [hB] at d8
  exact ⟨hb, d0, d1, d2, d3, d4, d5, d6, d7, d8, d9, d10, hc⟩

namespace K
/-- When the service of an element begins, for a truck that arrives at a minute. -/
def begins (s : S) (r : List Q) (q : Q) (all : List Int) (arr : Int) : Int × Bool :=
  if s.day < q.frm ∨ q.by_ < s.day ∨ s.end_ < arr ∨ T.fits s r all = false then (0, false)
  else ((H.fit q.l arr q.service).1, (H.fit q.l arr q.service).2 && decide ((H.fit q.l arr q.service).1 + q.service ≤ s.end_))
end K

def Beg (p : PS) (q : Q) (all : List Int) (arr : Int) (w w' : World) (e : Ending) : Prop := e = .returned (.tuple #[.int .i64 (K.begins p.x.s p.x.r q all arr).1, .bool (K.begins p.x.s p.x.r q all arr).2]) ∧ Below w.heap.size w w'
theorem beg_mk {p : PS} {q : Q} {all : List Int} {arr t : Int} {ok : Bool} {w w' : World} (h : K.begins p.x.s p.x.r q all arr = (t, ok)) (hb : Below w.heap.size w w') : Beg p q all arr w w' (.returned (.tuple #[.int .i64 t, .bool ok])) := ⟨by rw [h], hb⟩

set_option maxRecDepth 100000 in
set_option maxHeartbeats 16000000 in
theorem pbegins_any (b mb : Nat) (p : PS) (m i j : Nat) (q : Q) (arr : Int) (w : World) {X : Nat → Prop} (hp : PAt w b mb p X) (he : Elem p i j q) (hm : m < 64) (hmi : m.testBit i = false) (hm2 : m + 2 ^ i < 256) (hse : 0 ≤ q.service ∧ q.service ≤ 1000000) :
    Calls Try.prog 82 #[.pointer (some ⟨b, 0, none⟩), .int .i64 m, .int .i64 i, .int .i64 arr] w fun e w' => Beg p q (K.part p.l (m + 2 ^ i)) arr w w' e := by
  obtain ⟨hi, hj⟩ := he.lt hp
  obtain ⟨hne, hck, hdp, hrq, hl6, -⟩ := K.ok31_parts hp.ok
  have hpl : (K.part p.l (m + 2 ^ i)).length ≤ 6 := Nat.le_trans (K.part_len _ _) hl6
  have hn6 : p.n ≤ 6 := by rw [hp.set.1]; exact hl6
  obtain ⟨ads, ad, hA, hB, hwq, y, e0, e1, e2, e3, e4, e5, e6⟩ := he.cells hp
  have hqn := hp.at_.b4 q (List.mem_of_getElem? he.req)
  obtain ⟨c2, c3, c4⟩ : p.x.s.n ≤ 1000000000 ∧ p.x.m ≤ 1000000000 ∧ ∀ q ∈ p.x.r, q.n ≤ 1000000000 := ⟨hp.at_.b2, hp.at_.b3, hp.at_.b4⟩
  have k0 : (0 : Int) ≤ (i : Int) := by omega
  have k1 : (i : Int) < (p.n : Int) := by omega
  have k2 : (0 : Int) ≤ (j : Int) := by omega
  have k3 : (j : Int) < (p.x.m : Int) := by omega
  clear hne hck hdp hrq hl6
  have S0 := LE.mk' hp he hA hB (Below.refl w.heap.size w)
  have hSd : ∀ w', LE w b mb p i j q ads ad w' → LE w b mb p i j q ads ad w'.drew := fun w' h => LE.mk' hp he hA hB h.1.drew
  have hSa : ∀ w' o', LE w b mb p i j q ads ad w' → LE w b mb p i j q ads ad (w'.alloc o') := fun w' o' h => LE.mk' hp he hA hB (bel h.1 ((Below.refl _ _).alloc (Nat.le_refl _) _))
  have hSs : ∀ (w' : World) (g k : Nat) (v : Value), LE w b mb p i j q ads ad w' → w.heap.size ≤ g → LE w b mb p i j q ads ad (w'.setCell ⟨g, k, none⟩ v) := fun w' g k v h hg => LE.mk' hp he hA hB (h.1.setCell hg _)
  have HA := Lib.hid hA
  have HB := Lib.hid hB
  clear hA hB y e0 e1 e2 e3 e4 e5 e6
  go_enter Try.func82, Try.ntmps82
  go_wp2_with fail
  go_cut [10] from 13 to 25 (fun v10 wc => ∃ g, v10 = .pointer (some ⟨g, 0, none⟩) ∧ w.heap.size ≤ g ∧ QBlk wc g q ∧ Below w.heap.size w wc)
  case first =>
    go_region_held3 (fun w' => Below w.heap.size w w' ∧ w'.cell? ⟨b, 0, none⟩ = some (.int .i64 p.x.nd) ∧ w'.cell? ⟨b, 1, none⟩ = some (.slice p.x.A p.x.n p.x.c) ∧ w'.cell? ⟨b, 2, none⟩ = some (.int .i64 p.x.s.day) ∧ w'.cell? ⟨b, 3, none⟩ = some (.int .i64 p.x.s.depot) ∧ w'.cell? ⟨b, 4, none⟩ = some (.int .i64 p.x.s.start) ∧
    w'.cell? ⟨b, 5, none⟩ = some (.int .i64 p.x.s.end_) ∧ w'.cell? ⟨b, 6, none⟩ = some (.int .i64 p.x.s.tare) ∧ w'.cell? ⟨b, 7, none⟩ = some (.slice p.x.s.A p.x.s.n p.x.s.c) ∧ w'.cell? ⟨b, 8, none⟩ = some (.slice (some ad) p.x.m p.x.d) ∧ w'.cell? ⟨b, 9, none⟩ = some (.slice (some ads) p.n p.c) ∧ w'.cell? ⟨b, 10, none⟩ = some (.map (some mb)) ∧ w'.cell? (ads.add i) = some (.int .i64 (j : Int)) ∧ w'.cell? (ad.add (j * 7)) = some (.int .i64 q.node) ∧
      w'.cell? ⟨(ad.add (j * 7)).block, (ad.add (j * 7)).off + 1, none⟩ = some (.int .i64 q.room) ∧
      w'.cell? ⟨(ad.add (j * 7)).block, (ad.add (j * 7)).off + 2, none⟩ = some (.int .i64 q.kilos) ∧
      w'.cell? ⟨(ad.add (j * 7)).block, (ad.add (j * 7)).off + 3, none⟩ = some (.int .i64 q.service) ∧
      w'.cell? ⟨(ad.add (j * 7)).block, (ad.add (j * 7)).off + 4, none⟩ = some (.int .i64 q.frm) ∧
      w'.cell? ⟨(ad.add (j * 7)).block, (ad.add (j * 7)).off + 5, none⟩ = some (.int .i64 q.by_) ∧
      w'.cell? ⟨(ad.add (j * 7)).block, (ad.add (j * 7)).off + 6, none⟩ = some (.slice q.A q.n q.c))
      (first | assumption | exact S0 | exact hSd _ S0 | exact hSa _ _ (by assumption) | exact hSa _ _ S0 | exact hSd _ (hSa _ _ S0) | exact hSa _ _ (hSd _ S0))
      (fail)
    go_wp2_with fail
    go_meet
    case rel => exact ⟨_, rfl, Nat.le_refl _, heap_alloc_new _ _, bel (w1 := w.drew) (Below.refl _ _).drew ((Below.refl _ _).alloc (Nat.le_refl _) _)⟩
  case rest =>
    obtain ⟨g, rfl, hg, hQ, hb⟩ := hcut
    have hpc := hp.below hb
    have hwq := hwq.below hb
    clear S0 hSd hSa hSs
    obtain ⟨e0, e1, e2, e3, e4, e5, e6⟩ := hQ.cells
    obtain ⟨d0, d1, d2, d3, d4, d5, d6, d7, d8, d9, d10⟩ := hpc.blk.cells
    rw [HB.out] at d8
    rw [HA.out] at d9
    cases x1 : decide (p.x.s.day < q.frm)
    rotate_left
    · have HX := Lib.hid (show K.begins p.x.s p.x.r q (K.part p.l (m + 2 ^ i)) arr = (0, false) by unfold K.begins; rw [if_pos (.inl (of_decide_eq_true x1))])
      go_wp2_with fail
      go_quiet (fail)
      go_wp2_with fail
      go_ret2
      exact beg_mk HX.out (below_drewN hb _)
    cases x2 : decide (q.by_ < p.x.s.day)
    rotate_left
    · have HX := Lib.hid (show K.begins p.x.s p.x.r q (K.part p.l (m + 2 ^ i)) arr = (0, false) by unfold K.begins; rw [if_pos (.inr (.inl (of_decide_eq_true x2)))])
      go_wp2_with fail
      go_quiet (fail)
      go_wp2_with fail
      go_ret2
      exact beg_mk HX.out (below_drewN hb _)
    cases x3 : decide (p.x.s.end_ < arr)
    rotate_left
    · have HX := Lib.hid (show K.begins p.x.s p.x.r q (K.part p.l (m + 2 ^ i)) arr = (0, false) by unfold K.begins; rw [if_pos (.inr (.inr (.inl (of_decide_eq_true x3))))])
      go_wp2_with fail
      go_quiet (fail)
      go_wp2_with fail
      go_ret2
      exact beg_mk HX.out (below_drewN hb _)
    have HD := Lib.hid (show ¬ p.x.s.day < q.frm ∧ ¬ q.by_ < p.x.s.day ∧ ¬ p.x.s.end_ < arr from ⟨of_decide_eq_false x1, of_decide_eq_false x2, of_decide_eq_false x3⟩)
    obtain ⟨mm, hmm⟩ : ∃ mm, mm = m + 2 ^ i := ⟨_, rfl⟩
    have hor : bits BinOp.or IntKind.i64 (m : Int) (IntKind.i64.wrap (2 ^ i)) = (mm : Int) := by rw [wrap_pow (by omega), bit_or hm (by omega) hmi, hmm]
    rw [← hmm] at hpl hm2
    have HMM := Lib.hid hmm
    clear hmm d0 d1 d2 d3 d4 d5 d6 d7 d8 d9 d10
    have hmk : ∀ w', Below wc.heap.size wc w' → (fun w' => Below wc.heap.size wc w' ∧ w'.cell? ⟨g, 0, none⟩ = some (.int .i64 q.node) ∧ w'.cell? ⟨g, 1, none⟩ = some (.int .i64 q.room) ∧ w'.cell? ⟨g, 2, none⟩ = some (.int .i64 q.kilos) ∧ w'.cell? ⟨g, 3, none⟩ = some (.int .i64 q.service) ∧ w'.cell? ⟨g, 4, none⟩ = some (.int .i64 q.frm) ∧ w'.cell? ⟨g, 5, none⟩ = some (.int .i64 q.by_) ∧ w'.cell? ⟨g, 6, none⟩ = some (.slice q.A q.n q.c) ∧ w'.cell? ⟨b, 0, none⟩ = some (.int .i64 p.x.nd) ∧ w'.cell? ⟨b, 1, none⟩ = some (.slice p.x.A p.x.n p.x.c) ∧ w'.cell? ⟨b, 2, none⟩ = some (.int .i64 p.x.s.day) ∧ w'.cell? ⟨b, 3, none⟩ = some (.int .i64 p.x.s.depot) ∧ w'.cell? ⟨b, 4, none⟩ = some (.int .i64 p.x.s.start) ∧
    w'.cell? ⟨b, 5, none⟩ = some (.int .i64 p.x.s.end_) ∧ w'.cell? ⟨b, 6, none⟩ = some (.int .i64 p.x.s.tare) ∧ w'.cell? ⟨b, 7, none⟩ = some (.slice p.x.s.A p.x.s.n p.x.s.c) ∧ w'.cell? ⟨b, 8, none⟩ = some (.slice (some ad) p.x.m p.x.d) ∧ w'.cell? ⟨b, 9, none⟩ = some (.slice (some ads) p.n p.c) ∧ w'.cell? ⟨b, 10, none⟩ = some (.map (some mb))) w' := fun w' h => by
      have h2 := (hpc.below h).blk.cells
      obtain ⟨d0, d1, d2, d3, d4, d5, d6, d7, d8, d9, d10⟩ := h2
      rw [HB.out] at d8
      rw [HA.out] at d9
      exact ⟨h, (hQ.below h).cells.1, (hQ.below h).cells.2.1, (hQ.below h).cells.2.2.1, (hQ.below h).cells.2.2.2.1, (hQ.below h).cells.2.2.2.2.1, (hQ.below h).cells.2.2.2.2.2.1, (hQ.below h).cells.2.2.2.2.2.2, d0, d1, d2, d3, d4, d5, d6, d7, d8, d9, d10⟩
    have S0 := hmk _ (Below.refl _ _)
    have S0d := hmk _ (Below.refl wc.heap.size wc).drew
    clear e0 e1 e2 e3 e4 e5 e6
    go_wp2_with fail
    go_region_held3 (fun w' => Below wc.heap.size wc w' ∧ w'.cell? ⟨g, 0, none⟩ = some (.int .i64 q.node) ∧ w'.cell? ⟨g, 1, none⟩ = some (.int .i64 q.room) ∧ w'.cell? ⟨g, 2, none⟩ = some (.int .i64 q.kilos) ∧ w'.cell? ⟨g, 3, none⟩ = some (.int .i64 q.service) ∧ w'.cell? ⟨g, 4, none⟩ = some (.int .i64 q.frm) ∧ w'.cell? ⟨g, 5, none⟩ = some (.int .i64 q.by_) ∧ w'.cell? ⟨g, 6, none⟩ = some (.slice q.A q.n q.c) ∧ w'.cell? ⟨b, 0, none⟩ = some (.int .i64 p.x.nd) ∧ w'.cell? ⟨b, 1, none⟩ = some (.slice p.x.A p.x.n p.x.c) ∧ w'.cell? ⟨b, 2, none⟩ = some (.int .i64 p.x.s.day) ∧ w'.cell? ⟨b, 3, none⟩ = some (.int .i64 p.x.s.depot) ∧ w'.cell? ⟨b, 4, none⟩ = some (.int .i64 p.x.s.start) ∧
    w'.cell? ⟨b, 5, none⟩ = some (.int .i64 p.x.s.end_) ∧ w'.cell? ⟨b, 6, none⟩ = some (.int .i64 p.x.s.tare) ∧ w'.cell? ⟨b, 7, none⟩ = some (.slice p.x.s.A p.x.s.n p.x.s.c) ∧ w'.cell? ⟨b, 8, none⟩ = some (.slice (some ad) p.x.m p.x.d) ∧ w'.cell? ⟨b, 9, none⟩ = some (.slice (some ads) p.n p.c) ∧ w'.cell? ⟨b, 10, none⟩ = some (.map (some mb)))
      (first | assumption | exact S0 | exact S0d)
      (first
        | (go_at_call 106; refine (part_any b mb p mm wc.drew (hpc.below (Below.refl _ _).drew) hm2).mono ?_; rintro e w3 ⟨⟨A9, n9, c9, rfl, hI⟩, hbn⟩; have hb3 := bel (w1 := wc.drew) (Below.refl wc.heap.size wc).drew hbn; have S3 := hmk _ hb3)
        | (go_at_call 17; refine (fits_any p.x.s (some ad) p.x.m p.x.d p.x.r A9 n9 c9 (K.part p.l mm) w3 (hpc.below hb3).at_.rooms c2 (by rw [← HB.out]; exact (hpc.below hb3).at_.reqs) c3 c4 hI (by rw [hI.1]; omega)).mono ?_; rintro e w4 ⟨rfl, hbn2⟩; have hb4 := bel hb3 hbn2; have S4 := hmk _ hb4)
        | fail)
    have hb := bel hb hb4
    have hpc := hpc.below hb4
    have hQ := hQ.below hb4
    have hwq := hwq.below hb4
    clear S0 S0d S3 S4 hmk hb3 hb4 hbn hbn2 hI x1 x2 x3
    cases hf : T.fits p.x.s p.x.r (K.part p.l mm)
    · have HX := Lib.hid (show K.begins p.x.s p.x.r q (K.part p.l (m + 2 ^ i)) arr = (0, false) by unfold K.begins; rw [← HMM.out, if_pos (.inr (.inr (.inr hf)))])
      clear hf
      go_wp2_with fail
      go_ret2
      exact beg_mk HX.out hb
    have HF := Lib.hid (show ¬ (p.x.s.day < q.frm ∨ q.by_ < p.x.s.day ∨ p.x.s.end_ < arr ∨ T.fits p.x.s p.x.r (K.part p.l mm) = false) by
      obtain ⟨h1, h2, h3⟩ := HD.out
      rw [hf]
      simp [h1, h2, h3])
    clear hf
    obtain ⟨e0, e1, e2, e3, e4, e5, e6⟩ := hQ.cells
    go_wp2_with fail
    refine (fit_any q.A q.n q.c q.l arr q.service _ hwq hqn).mono ?_
    rintro e w5 ⟨rfl, b5⟩
    have hb := bel hb b5
    have hpc := hpc.below b5
    have hQ := hQ.below b5
    clear b5 e0 e1 e2 e3 e4 e5 e6 hwq
    have HFO := Lib.hid (fun h => H.fit_ok (l := q.l) (t := arr) (s := q.service) h)
    obtain ⟨fb, hfb⟩ : ∃ fb, fb = (H.fit q.l arr q.service).1 := ⟨_, rfl⟩
    obtain ⟨ok, hok⟩ : ∃ ok, ok = (H.fit q.l arr q.service).2 := ⟨_, rfl⟩
    rw [← hfb, ← hok]
    have HX := Lib.hid (show K.begins p.x.s p.x.r q (K.part p.l (m + 2 ^ i)) arr = (fb, ok && decide (fb + q.service ≤ p.x.s.end_)) by unfold K.begins; rw [← HMM.out, if_neg HF.out, ← hfb, ← hok])
    have HFB := Lib.hid hfb
    have HOK := Lib.hid hok
    clear hfb hok
    obtain ⟨e0, e1, e2, e3, e4, e5, e6⟩ := hQ.cells
    obtain ⟨d0, d1, d2, d3, d4, d5, d6, d7, d8, d9, d10⟩ := hpc.blk.cells
    cases ok
    · go_wp2_with fail
      go_quiet (fail)
      go_wp2_with fail
      go_ret2
      exact beg_mk HX.out (below_drewN hb _)
    · obtain ⟨-, -, -, hf1, hf2⟩ := HFO.out (by rw [← HOK.out])
      obtain ⟨-, g2, -⟩ := H.fit_ok (l := q.l) (t := arr) (s := q.service) (by rw [← HOK.out])
      rw [← HFB.out] at hf1 hf2
      have hwrap : IntKind.i64.wrap (fb + q.service) = fb + q.service := IntWalk.i64_in _ (by omega)
      go_wp2_with fail
      go_quiet (fail)
      go_wp2_with fail
      go_ret2
      exact beg_mk HX.out (below_drewN hb _)
end Go.Proofs.Ytippdjmpkafifaa
