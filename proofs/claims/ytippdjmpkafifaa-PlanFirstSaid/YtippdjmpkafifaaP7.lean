/-
Routes: the contract of planner.label.
-/
import Derived.Test.YtippdjmpkafifaaP6
namespace Go.Proofs.Ytippdjmpkafifaa
open Go.RowKit

theorem T.weight_wf {s : S} {r : List Q} {l : List Int} (hl : l.length ≤ 1000) : (Lit.int .i64 (T.weight s r l)).wf = true := by
  cases h : T.load s r l
  · rw [T.weight_no h]; exact wf_small (by decide) (by decide)
  · have := T.weight_bound h hl
    exact wf_small (by omega) (by omega)

namespace K
/-- The nodes of a set. -/
def nodes (r : List Q) (v : List Int) : List Int := v.map fun k => (req r k).node
/-- The earliest arrival by the labels of a part. -/
def firsts (nd : Int) (l : List Ro) (wt tn : Int) (z : List (Int × Int)) (f : Int) : Int := z.foldl (fun f x => noted (way nd l x.1 wt tn) f x.2) f
def first0 (nd : Int) (l : List Ro) (s : S) (wt tn : Int) (rest : Nat) : Int := if rest = 0 then noted (way nd l s.depot wt tn) (-1) s.start else -1
def arrives (nd : Int) (l : List Ro) (s : S) (r : List Q) (v : List Int) (row : List Int) (rest : Nat) (q : Q) : Int :=
  firsts nd l (T.weight s r (part v rest)) q.node ((nodes r v).zip row) (first0 nd l s (T.weight s r (part v rest)) q.node rest)
/-- The minute of a label. -/
def labelOf (s : S) (r : List Q) (q : Q) (all : List Int) (first : Int) : Int := if first = -1 then -1 else if (begins s r q all first).2 = true then (begins s r q all first).1 + q.service else -1
def label (nd : Int) (l : List Ro) (s : S) (r : List Q) (v : List Int) (row : List Int) (rest i : Nat) (q : Q) : Int := labelOf s r q (part v (rest + 2 ^ i)) (arrives nd l s r v row rest q)
theorem begins_ok {s : S} {r : List Q} {q : Q} {all : List Int} {arr : Int} (h : (begins s r q all arr).2 = true) : (s.day < q.frm ∨ q.by_ < s.day ∨ s.end_ < arr ∨ T.fits s r all = false) = False ∧ (H.fit q.l arr q.service).2 = true ∧ (begins s r q all arr).1 = (H.fit q.l arr q.service).1 ∧ 0 ≤ arr ∧ arr ≤ (begins s r q all arr).1 ∧ (begins s r q all arr).1 + q.service ≤ s.end_ ∧ (begins s r q all arr).1 + q.service ≤ 1000000 := by
  unfold begins at h ⊢
  by_cases hc : s.day < q.frm ∨ q.by_ < s.day ∨ s.end_ < arr ∨ T.fits s r all = false
  · rw [if_pos hc] at h; cases h
  · rw [if_neg hc] at h ⊢
    simp only [Bool.and_eq_true, decide_eq_true_eq] at h
    obtain ⟨-, ⟨a0, -⟩, -, g1, g2⟩ := H.fit_ok h.1
    exact ⟨eq_false hc, h.1, rfl, a0, g1, h.2, g2⟩
theorem firsts_snoc {nd : Int} {l : List Ro} {wt tn f : Int} {z : List (Int × Int)} {k : Nat} {x : Int × Int} (h : z[k]? = some x) : firsts nd l wt tn (z.take (k + 1)) f = noted (way nd l x.1 wt tn) (firsts nd l wt tn (z.take k) f) x.2 := by
  unfold firsts
  rw [take_snoc h, List.foldl_append]
  rfl
end K

theorem grow_but {w w1 w2 : World} {mb g : Nat} (h : w.grownBy w1 (some mb)) (h2 : But2 w1 w2 mb g) (hg : w.heap.size ≤ g) : w.grownBy w2 (some mb) :=
  ⟨h2.os.trans h.os, h2.tape.trans h.tape, h2.output.trans h.output, Nat.le_trans h.size h2.size, fun k hk hne => (h2.block k (Nat.lt_of_lt_of_le hk h.size) (fun e => hne (by rw [e])) (by omega)).trans (h.block k hk hne)⟩

theorem K.setGo_nodes {nd : Int} {r : List Q} : ∀ (v : List Int) (p : Int), K.setGo nd r p v = true → ∀ k ∈ v, 0 ≤ k ∧ k < (r.length : Int) ∧ (K.req r k).node < nd
  | [], _, _ => fun k hk => by cases hk
  | i :: v, p, h => fun k hk => by
    simp only [K.setGo, Bool.and_eq_true, decide_eq_true_eq] at h
    rcases List.mem_cons.1 hk with rfl | hk
    · exact ⟨h.1, h.2.1, h.2.2.2.1⟩
    · exact K.setGo_nodes v i h.2.2.2.2 k hk

/-- What holds of each element of a right planner's set. -/
theorem PAt.elem {w : World} {b mb : Nat} {p : PS} {X : Nat → Prop} (h : PAt w b mb p X) {k : Nat} (hk : k < p.n) :
    ∃ j q, Elem p k j q ∧ (0 ≤ q.node ∧ q.node < p.x.nd) ∧ (0 ≤ q.service ∧ q.service ≤ 1000000) ∧ (K.nodes p.x.r p.l)[k]? = some q.node := by
  obtain ⟨hne, hck, hdp, hrq, hl6, hgo⟩ := K.ok31_parts h.ok
  have hlt : k < p.l.length := by rw [← h.set.1]; exact hk
  have hg : p.l[k]? = some p.l[k] := List.getElem?_eq_getElem hlt
  obtain ⟨h0, h1, h2⟩ := K.setGo_nodes _ _ hgo _ (List.getElem_mem hlt)
  obtain ⟨j, hj⟩ : ∃ j : Nat, p.l[k] = (j : Int) := ⟨p.l[k].toNat, by omega⟩
  rw [hj] at hg h0 h1 h2
  obtain ⟨q, hq⟩ : ∃ q, p.x.r[j]? = some q := ⟨_, List.getElem?_eq_getElem (by omega)⟩
  obtain ⟨⟨n0, -⟩, hs, -⟩ := K.right_req (hrq q (List.mem_of_getElem? hq))
  rw [K.req_get hq] at h2
  exact ⟨j, q, ⟨hg, hq⟩, ⟨n0, h2⟩, hs, by rw [K.nodes, List.getElem?_map, hg]; simp [K.req_get hq]⟩

/-- What holds while the labels of a part are noted. -/
structure LRel (w : World) (b mb rest i : Nat) (p : PS) (X : Nat → Prop) (first : Int) (wr : World) : Prop where
  grown : w.grownBy wr (some mb)
  memo : Memo wr mb p.x.nd p.x.l (fun g => X g ∨ g = w.heap.size + 1 + 1 + 1)
  g4 : wr.heap[w.heap.size]? = some (.cells #[.pointer (some ⟨b, 0, none⟩)] 101 (0, 0))
  g7 : wr.heap[w.heap.size + 1]? = some (.cells #[.int .i64 (i : Int)] 3 (0, 0))
  g9 : wr.heap[w.heap.size + 1 + 1]? = some (.cells #[.int .i64 (rest : Int)] 3 (0, 0))
  g10 : wr.heap[w.heap.size + 1 + 1 + 1]? = some (.cells #[.int .i64 first] 3 (0, 0))

theorem LRel.pat {w wr : World} {b mb rest i : Nat} {p : PS} {X : Nat → Prop} {first : Int} (h : LRel w b mb rest i p X first wr) (hp : PAt w b mb p X) : PAt wr b mb p (fun g => X g ∨ g = w.heap.size + 1 + 1 + 1) :=
  (hp.more (Y := fun g => X g ∨ g = w.heap.size + 1 + 1 + 1) (fun g hg hy => hy.resolve_right (by omega))).keep (hp.memo.ext h.grown) h.memo
theorem LRel.below {w wr w' : World} {b mb rest i : Nat} {p : PS} {X : Nat → Prop} {first : Int} (h : LRel w b mb rest i p X first wr) (hb : Below wr.heap.size wr w') : LRel w b mb rest i p X first w' :=
  ⟨grow_below h.grown hb, h.memo.below hb, blk_below hb h.g4, blk_below hb h.g7, blk_below hb h.g9, blk_below hb h.g10⟩
theorem LRel.noted {w wr w' : World} {b mb rest i : Nat} {p : PS} {X : Nat → Prop} {first f' : Int} {e : Ending} (h : LRel w b mb rest i p X first wr) (hn : Noted wr w' mb (w.heap.size + 1 + 1 + 1) p (fun g => X g ∨ g = w.heap.size + 1 + 1 + 1) f' e) (hmb : mb < w.heap.size) : LRel w b mb rest i p X f' w' := by
  obtain ⟨-, hB, hM, hg⟩ := hn
  exact ⟨grow_but h.grown hB (by omega), hM, (hB.block _ (lt_of_block h.g4) (by omega) (by omega)).trans h.g4, (hB.block _ (lt_of_block h.g7) (by omega) (by omega)).trans h.g7, (hB.block _ (lt_of_block h.g9) (by omega) (by omega)).trans h.g9, hg⟩
theorem LRel.cells {w wr : World} {b mb rest i : Nat} {p : PS} {X : Nat → Prop} {first : Int} (h : LRel w b mb rest i p X first wr) : wr.cell? ⟨w.heap.size, 0, none⟩ = some (.pointer (some ⟨b, 0, none⟩)) ∧ wr.cell? ⟨w.heap.size + 1, 0, none⟩ = some (.int .i64 (i : Int)) ∧ wr.cell? ⟨w.heap.size + 1 + 1, 0, none⟩ = some (.int .i64 (rest : Int)) ∧ wr.cell? ⟨w.heap.size + 1 + 1 + 1, 0, none⟩ = some (.int .i64 first) :=
  ⟨blk_cell h.g4 0 _ rfl, blk_cell h.g7 0 _ rfl, blk_cell h.g9 0 _ rfl, blk_cell h.g10 0 _ rfl⟩
theorem LRel.start {w : World} {b mb : Nat} {p : PS} {X : Nat → Prop} (hp : PAt w b mb p X) (rest i : Nat) :
    LRel w b mb rest i p X (-1) ((((w.alloc (.cells #[.pointer (some ⟨b, 0, none⟩)] 101)).alloc (.cells #[.int .i64 (i : Int)] 3)).alloc (.cells #[.int .i64 (rest : Int)] 3)).alloc (.cells #[.int .i64 (-1)] 3)) := by
  have z1 := World.size_alloc w (.cells #[.pointer (some ⟨b, 0, none⟩)] 101)
  have z2 := World.size_alloc (w.alloc (.cells #[.pointer (some ⟨b, 0, none⟩)] 101)) (.cells #[.int .i64 (i : Int)] 3)
  have z3 := World.size_alloc ((w.alloc (.cells #[.pointer (some ⟨b, 0, none⟩)] 101)).alloc (.cells #[.int .i64 (i : Int)] 3)) (.cells #[.int .i64 (rest : Int)] 3)
  have hb : Below w.heap.size w ((((w.alloc (.cells #[.pointer (some ⟨b, 0, none⟩)] 101)).alloc (.cells #[.int .i64 (i : Int)] 3)).alloc (.cells #[.int .i64 (rest : Int)] 3)).alloc (.cells #[.int .i64 (-1)] 3)) :=
    bel (bel (bel ((Below.refl _ _).alloc (Nat.le_refl _) _) ((Below.refl _ _).alloc (Nat.le_refl _) _)) ((Below.refl _ _).alloc (Nat.le_refl _) _)) ((Below.refl _ _).alloc (Nat.le_refl _) _)
  refine ⟨grow_below (grow_refl w _) hb, (hp.memo.more (fun g hg hy => hy.resolve_right (by omega))).below hb, blk_alloc (blk_alloc (blk_alloc (heap_alloc_new _ _) _) _) _, blk_alloc (blk_alloc (heap_alloc_at _ _ _ z1.symm) _) _, blk_alloc (heap_alloc_at _ _ _ (by rw [z2, z1])) _, heap_alloc_at _ _ _ (by rw [z3, z2, z1])⟩

set_option maxRecDepth 100000 in
set_option maxHeartbeats 16000000 in
theorem label_any (b mb : Nat) (p : PS) (go N Nc m rest i j : Nat) (q : Q) (row : List Int) (R : Option Addr) (rn rc : Nat) (w : World) {X : Nat → Prop} (hp : PAt w b mb p X) (hX : ∀ g, X g → g < w.heap.size)
    (he : Elem p i j q) (hno : 0 ≤ q.node ∧ q.node < p.x.nd) (hse : 0 ≤ q.service ∧ q.service ≤ 1000000) (hm : m < 64) (hmi : m.testBit i = true) (hrest : rest + 2 ^ i = m) (hri : rest.testBit i = false)
    (hrow : w.cell? ⟨go, rest, none⟩ = some (.slice R rn rc)) (hN : rest < N) (hR : Ints w R rn row) (hrl : row.length = p.l.length) (hrb : ∀ t ∈ row, -1 ≤ t ∧ t ≤ 1000000) :
    Calls Try.prog 103 #[.pointer (some ⟨b, 0, none⟩), .slice (some ⟨go, 0, none⟩) N Nc, .int .i64 m, .int .i64 i] w fun e w' => e = .returned (.int .i64 (K.label p.x.nd p.x.l p.x.s p.x.r p.l row rest i q)) ∧ Went w w' b mb p X := by
  obtain ⟨hi, hj⟩ := he.lt hp
  obtain ⟨hne, hck, hdp, hrq, hl6, hgo⟩ := K.ok31_parts hp.ok
  obtain ⟨-, ⟨d0, d1⟩, st0, st1, en1⟩ := K.check_parts hck
  have hn6 : p.n ≤ 6 := by rw [hp.set.1]; exact hl6
  have hwt : (Lit.int .i64 (T.weight p.x.s p.x.r (K.part p.l rest))).wf = true := T.weight_wf (by have := K.part_len p.l rest; omega)
  have hlt := lt_of_block hp.blk
  have hand : bits BinOp.andNot IntKind.i64 (m : Int) (IntKind.i64.wrap (2 ^ i)) = (rest : Int) := by rw [wrap_pow (by omega), bit_not hm (by omega) hmi, show m - 2 ^ i = rest by omega]
  have HFI := Lib.hid (show (if rest = 0 then K.noted (K.way p.x.nd p.x.l p.x.s.depot (T.weight p.x.s p.x.r (K.part p.l rest)) q.node) (-1) p.x.s.start else -1) = K.first0 p.x.nd p.x.l p.x.s (T.weight p.x.s p.x.r (K.part p.l rest)) q.node rest from rfl)
  have hrm : rest < 64 := by have := Nat.two_pow_pos i; omega
  have hand' : bits BinOp.andNot IntKind.i64 (m : Int) (wrap64 (2 ^ i)) = (rest : Int) := by rw [← IntWalk.i64_left]; exact hand
  have hmb := hp.memo.lt
  have HRS := Lib.hid hrest
  have HDP := Lib.hid hdp
  clear hne hck hrq hgo hrest
  have hL := LRel.start hp rest i
  obtain ⟨w4, hw4⟩ : ∃ w4, w4 = ((((w.alloc (.cells #[.pointer (some ⟨b, 0, none⟩)] 101)).alloc (.cells #[.int .i64 (i : Int)] 3)).alloc (.cells #[.int .i64 (rest : Int)] 3)).alloc (.cells #[.int .i64 (-1)] 3)) := ⟨_, rfl⟩
  have k2 : (0 : Int) ≤ (rest : Int) := by omega
  have k3 : (rest : Int) < (N : Int) := by omega
  go_enter Try.func103, Try.ntmps103
  obtain ⟨z0, hz0⟩ : ∃ z0 : Bool, ((rest : Int) == 0) = z0 := ⟨_, rfl⟩
  go_upto_if 22 with fail
  rw [← hw4]
  rw [← hw4] at hL
  clear hand hand' hw4
  go_cut [10] from 23 to 34 (fun v10 wc => v10 = .pointer (some ⟨w.heap.size + 1 + 1 + 1, 0, none⟩) ∧ LRel w b mb rest i p X (K.first0 p.x.nd p.x.l p.x.s (T.weight p.x.s p.x.r (K.part p.l rest)) q.node rest) wc)
  case first =>
    obtain ⟨l0, l1, l2, l3⟩ := hL.cells
    cases z0
    rotate_left
    · have hr0 : rest = 0 := by simpa using hz0
      have HF0 := Lib.hid (show K.first0 p.x.nd p.x.l p.x.s (T.weight p.x.s p.x.r (K.part p.l rest)) q.node rest = K.noted (K.way p.x.nd p.x.l p.x.s.depot (T.weight p.x.s p.x.r (K.part p.l rest)) q.node) (-1) p.x.s.start by unfold K.first0; rw [if_pos hr0])
      clear hr0 hz0
      go_wp2_with fail
      clear l0 l1 l2 l3
      have hp4 := hL.pat hp
      have hLd := hL.below (w' := w4.drew) (Below.refl _ _).drew
      have hp4d := hLd.pat hp
      have hS : ∀ w', LRel w b mb rest i p X (-1) w' → (fun w' => w'.cell? ⟨w.heap.size, 0, none⟩ = some (.pointer (some ⟨b, 0, none⟩)) ∧ w'.cell? ⟨w.heap.size + 1, 0, none⟩ = some (.int .i64 (i : Int)) ∧ w'.cell? ⟨w.heap.size + 1 + 1, 0, none⟩ = some (.int .i64 (rest : Int)) ∧ w'.cell? ⟨b, 0, none⟩ = some (.int .i64 p.x.nd) ∧ w'.cell? ⟨b, 1, none⟩ = some (.slice p.x.A p.x.n p.x.c) ∧ w'.cell? ⟨b, 2, none⟩ = some (.int .i64 p.x.s.day) ∧ w'.cell? ⟨b, 3, none⟩ = some (.int .i64 p.x.s.depot) ∧ w'.cell? ⟨b, 4, none⟩ = some (.int .i64 p.x.s.start) ∧
    w'.cell? ⟨b, 5, none⟩ = some (.int .i64 p.x.s.end_) ∧ w'.cell? ⟨b, 6, none⟩ = some (.int .i64 p.x.s.tare) ∧ w'.cell? ⟨b, 7, none⟩ = some (.slice p.x.s.A p.x.s.n p.x.s.c) ∧ w'.cell? ⟨b, 8, none⟩ = some (.slice p.x.B p.x.m p.x.d) ∧ w'.cell? ⟨b, 9, none⟩ = some (.slice p.A p.n p.c) ∧ w'.cell? ⟨b, 10, none⟩ = some (.map (some mb))) w' := fun w' h => ⟨h.cells.1, h.cells.2.1, h.cells.2.2.1, (h.pat hp).blk.cells⟩
      have hSn : ∀ w' f, LRel w b mb rest i p X f w' → (fun w' => w'.cell? ⟨w.heap.size, 0, none⟩ = some (.pointer (some ⟨b, 0, none⟩)) ∧ w'.cell? ⟨w.heap.size + 1, 0, none⟩ = some (.int .i64 (i : Int)) ∧ w'.cell? ⟨w.heap.size + 1 + 1, 0, none⟩ = some (.int .i64 (rest : Int)) ∧ w'.cell? ⟨b, 0, none⟩ = some (.int .i64 p.x.nd) ∧ w'.cell? ⟨b, 1, none⟩ = some (.slice p.x.A p.x.n p.x.c) ∧ w'.cell? ⟨b, 2, none⟩ = some (.int .i64 p.x.s.day) ∧ w'.cell? ⟨b, 3, none⟩ = some (.int .i64 p.x.s.depot) ∧ w'.cell? ⟨b, 4, none⟩ = some (.int .i64 p.x.s.start) ∧
    w'.cell? ⟨b, 5, none⟩ = some (.int .i64 p.x.s.end_) ∧ w'.cell? ⟨b, 6, none⟩ = some (.int .i64 p.x.s.tare) ∧ w'.cell? ⟨b, 7, none⟩ = some (.slice p.x.s.A p.x.s.n p.x.s.c) ∧ w'.cell? ⟨b, 8, none⟩ = some (.slice p.x.B p.x.m p.x.d) ∧ w'.cell? ⟨b, 9, none⟩ = some (.slice p.A p.n p.c) ∧ w'.cell? ⟨b, 10, none⟩ = some (.map (some mb))) w' := fun w' f h => ⟨h.cells.1, h.cells.2.1, h.cells.2.2.1, (h.pat hp).blk.cells⟩
      have S0 := hS _ hL
      have S0d := hS _ hLd
      have hX1 : ∀ g, (X g ∨ g = w.heap.size + 1 + 1 + 1) → g < w4.heap.size := fun g hg => by
        rcases hg with hg | hg
        · exact Nat.lt_of_lt_of_le (hX g hg) hL.grown.size
        · rw [hg]; exact lt_of_block hL.g10
      go_region_held3 (fun w' => w'.cell? ⟨w.heap.size, 0, none⟩ = some (.pointer (some ⟨b, 0, none⟩)) ∧ w'.cell? ⟨w.heap.size + 1, 0, none⟩ = some (.int .i64 (i : Int)) ∧ w'.cell? ⟨w.heap.size + 1 + 1, 0, none⟩ = some (.int .i64 (rest : Int)) ∧ w'.cell? ⟨b, 0, none⟩ = some (.int .i64 p.x.nd) ∧ w'.cell? ⟨b, 1, none⟩ = some (.slice p.x.A p.x.n p.x.c) ∧ w'.cell? ⟨b, 2, none⟩ = some (.int .i64 p.x.s.day) ∧ w'.cell? ⟨b, 3, none⟩ = some (.int .i64 p.x.s.depot) ∧ w'.cell? ⟨b, 4, none⟩ = some (.int .i64 p.x.s.start) ∧
    w'.cell? ⟨b, 5, none⟩ = some (.int .i64 p.x.s.end_) ∧ w'.cell? ⟨b, 6, none⟩ = some (.int .i64 p.x.s.tare) ∧ w'.cell? ⟨b, 7, none⟩ = some (.slice p.x.s.A p.x.s.n p.x.s.c) ∧ w'.cell? ⟨b, 8, none⟩ = some (.slice p.x.B p.x.m p.x.d) ∧ w'.cell? ⟨b, 9, none⟩ = some (.slice p.A p.n p.c) ∧ w'.cell? ⟨b, 10, none⟩ = some (.map (some mb)))
        (first | assumption | exact S0 | exact S0d)
        (first
          | (go_at_call 116; refine (note_any b mb p i j q rest p.x.s.depot p.x.s.start (-1) w.heap.size (w.heap.size + 1) (w.heap.size + 1 + 1) (w.heap.size + 1 + 1 + 1) w4.drew hp4d hX1 hLd.g4 hLd.g7 hLd.g9 hLd.g10 (.inr rfl) he (by omega) ⟨d0, HDP.out⟩ hno hwt (by omega)).mono ?_; rintro e w5 hnt; have hL5 := hLd.noted hnt hmb; have S5 := hSn _ _ hL5; obtain ⟨rfl, -⟩ := hnt)
          | fail)
      go_wp2_with fail
      go_meet
      case rel => exact ⟨rfl, by rw [HF0.out]; exact hL5⟩
    · have hr0 : ¬ rest = 0 := by simpa using hz0
      have HF0 := Lib.hid (show K.first0 p.x.nd p.x.l p.x.s (T.weight p.x.s p.x.r (K.part p.l rest)) q.node rest = -1 by unfold K.first0; rw [if_neg hr0])
      clear hr0 hz0
      go_wp2_with fail
      go_meet
      case rel => exact ⟨rfl, by rw [HF0.out]; exact hL⟩
  case rest =>
    obtain ⟨rfl, hL⟩ := hcut
    clear hz0
    have hrow0 : (∀ w' first, LRel w b mb rest i p X first w' → w'.cell? ⟨go, rest, none⟩ = some (.slice R rn rc)) := fun w' first h => (hp.memo.ext h.grown).cell hrow
    have hRI : (∀ w' first, LRel w b mb rest i p X first w' → Ints w' R rn row) := fun w' first h => hR.ext (hp.memo.ext h.grown)
    have HRN := Lib.hid (show rn = p.n by rw [hR.1, hrl, ← hp.set.1])
    have hr6 : rn ≤ 6 := by rw [HRN.out]; exact hn6
    obtain ⟨l0, l1, l2, l3⟩ := hL.cells
    have r0 := hrow0 _ _ hL
    go_wp2_with fail
    go_loopw [40] (fun v40 wr => ∃ k : Nat, v40 = .int .i64 k ∧ k ≤ rn ∧ LRel w b mb rest i p X (K.firsts p.x.nd p.x.l (T.weight p.x.s p.x.r (K.part p.l rest)) q.node (((K.nodes p.x.r p.l).zip row).take k) (K.first0 p.x.nd p.x.l p.x.s (T.weight p.x.s p.x.r (K.part p.l rest)) q.node rest)) wr) (fun v40 _ => rn - (intOf v40).toNat)
    case atStart => exact ⟨0, rfl, by omega, hL⟩
    case round =>
      clear l0 l1 l2 l3 r0 hL
      obtain ⟨k, rfl, hk, hL⟩ := hrel
      have hpr := hL.pat hp
      obtain ⟨l0, l1, l2, l3⟩ := hL.cells
      by_cases hlt : k < rn
      · obtain ⟨adr, tk, hRA, htk, ctk⟩ := (hRI _ _ hL).at_ hlt
        obtain ⟨jk, qk, hek, hnk, -, hgn⟩ := hp.elem (k := k) (by rw [← HRN.out]; exact hlt)
        have HZ := Lib.hid (show ((K.nodes p.x.r p.l).zip row)[k]? = some (qk.node, tk) by rw [List.getElem?_zip_eq_some]; exact ⟨hgn, htk⟩)
        have htb := hrb tk (List.mem_of_getElem? htk)
        have k4 : (0 : Int) ≤ (k : Int) := by omega
        have k5 : (k : Int) < (rn : Int) := by omega
        clear htk hgn
        rw [hRA]
        go_wp2_with fail
        refine (node_any b mb p k jk qk wr hpr hek).mono ?_
        rintro e w5 ⟨rfl, b5⟩
        have hL5 := hL.below b5
        have hX5 : ∀ g, (X g ∨ g = w.heap.size + 1 + 1 + 1) → g < w5.heap.size := fun g hg => by
          rcases hg with hg | hg
          · exact Nat.lt_of_lt_of_le (hX g hg) hL5.grown.size
          · rw [hg]; exact lt_of_block hL5.g10
        clear l0 l1 l2 l3 ctk
        go_wp2_with fail
        refine (note_any b mb p i j q rest qk.node tk _ w.heap.size (w.heap.size + 1) (w.heap.size + 1 + 1) (w.heap.size + 1 + 1 + 1) w5 (hL5.pat hp) hX5 hL5.g4 hL5.g7 hL5.g9 hL5.g10 (.inr rfl) he (by omega) hnk hno hwt htb).mono ?_
        rintro e w6 hnt
        have hL6 := hL5.noted hnt hmb
        obtain ⟨rfl, -⟩ := hnt
        clear hL5 hX5
        go_wp2_with fail
        go_roundw
        case rel => exact ⟨k + 1, by go_num, by omega, by rw [K.firsts_snoc HZ.out]; exact hL6⟩
        case measure => simp [intOf]; omega
      · clear l0 l1 l2 l3
        have hkn : k = rn := by omega
        have hzl : ((K.nodes p.x.r p.l).zip row).take k = (K.nodes p.x.r p.l).zip row := List.take_of_length_le (by rw [List.length_zip]; have := hR.1; omega)
        rw [hzl] at hL
        obtain ⟨F, hF⟩ : ∃ F, F = K.arrives p.x.nd p.x.l p.x.s p.x.r p.l row rest q := ⟨_, rfl⟩
        have hL : LRel w b mb rest i p X F wr := by rw [hF]; exact hL
        have HF := Lib.hid (show K.label p.x.nd p.x.l p.x.s p.x.r p.l row rest i q = K.labelOf p.x.s p.x.r q (K.part p.l (rest + 2 ^ i)) F by unfold K.label; rw [hF])
        have hW : Went w wr b mb p X := ⟨hL.grown, hp.keep (hp.memo.ext hL.grown) (hL.memo.more (fun g _ hg => .inl hg))⟩
        obtain ⟨l0, l1, l2, l3⟩ := hL.cells
        clear hF hzl hkn
        cases hf1 : (F == -1)
        rotate_left
        · have HX := Lib.hid (show K.labelOf p.x.s p.x.r q (K.part p.l (rest + 2 ^ i)) F = -1 by unfold K.labelOf; rw [if_pos (show F = -1 by simpa using hf1)])
          go_wp2_with fail
          go_ret
          exact ⟨by rw [HF.out, HX.out]; rfl, hW⟩
        have HN1 := Lib.hid (show ¬ F = -1 by simpa using hf1)
        have CB := pbegins_any b mb p rest i j q F wr hpr he hrm hri (by rw [HRS.out]; omega) hse
        unfold Beg at CB
        have hok := K.begins_ok (s := p.x.s) (r := p.x.r) (q := q) (all := K.part p.l (rest + 2 ^ i)) (arr := F)
        obtain ⟨B, hB⟩ : ∃ B, B = K.begins p.x.s p.x.r q (K.part p.l (rest + 2 ^ i)) F := ⟨_, rfl⟩
        rw [← hB] at CB hok
        have HL := Lib.hid (show K.labelOf p.x.s p.x.r q (K.part p.l (rest + 2 ^ i)) F = if B.2 = true then B.1 + q.service else -1 by unfold K.labelOf; rw [if_neg HN1.out, ← hB])
        have HOK := Lib.hid hok
        obtain ⟨t, ok⟩ := B
        clear hB hok
        simp only at CB
        go_wp2_with fail
        refine CB.mono ?_
        rintro e w5 ⟨rfl, b5⟩
        have hL5 := hL.below b5
        have hW5 := hW.below b5
        have hp5 := hW5.2
        clear l0 l1 l2 l3 CB
        obtain ⟨l0, l1, l2, l3⟩ := hL5.cells
        cases ok
        · go_wp2_with fail
          go_ret
          exact ⟨by rw [HF.out, HL.out]; rfl, hW5⟩
        · obtain ⟨-, -, -, t0, t1, t2, t3⟩ := HOK.out rfl
          have hwrap : IntKind.i64.wrap (t + q.service) = t + q.service := IntWalk.i64_in _ (by omega)
          obtain ⟨c0, c1, c2, c3, c4, c5, c6, c7, c8, c9, c10⟩ := hp5.blk.cells
          obtain ⟨ads, ad, hA, hB, -, y, e0, e1, e2, e3, -⟩ := he.cells hp5
          rw [hA] at c9
          rw [hB] at c8
          have k6 : (0 : Int) ≤ (i : Int) := by omega
          have k7 : (i : Int) < (p.n : Int) := by omega
          have k8 : (0 : Int) ≤ (j : Int) := by omega
          have k9 : (j : Int) < (p.x.m : Int) := by omega
          clear hA hB
          go_wp2_with fail
          go_quiet (fail)
          go_wp2_with fail
          go_ret
          exact ⟨by rw [HF.out, HL.out]; rfl, hW5.below (below_drewN (Below.refl _ _) _)⟩
end Go.Proofs.Ytippdjmpkafifaa
