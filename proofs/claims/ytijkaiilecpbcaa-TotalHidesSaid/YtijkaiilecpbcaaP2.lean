/-
The builder's memory, and more plain laws of the levels of Build.
-/
import Derived.Test.YtijkaiilecpbcaaW14
import Derived.Test.YtijkaiilecpbcaaP1
namespace Go.Proofs.Ytijkaiilecpbcaa
open Go.RowKit

/-- The builder's state: its block, its row of items. -/
structure Bld (base bb : Nat) (w : World) (vv : Value) (V : List It) : Prop where
  blk : w.heap[bb]? = some (.cells #[vv] 53 (0, 0))
  own : w.ownsRow base 37 4 vv V.length (itemCells V)
  ne : vv.ownBlock ≠ some bb

/-- An own row of numbers, apart from the builder. -/
structure Apart (base bb : Nat) (w : World) (vv u : Value) (l : List Int) : Prop where
  own : w.ownsRow base 3 1 u l.length (intCells l)
  ne : u.ownBlock ≠ some bb
  dis : ∀ g, u.ownBlock = some g → vv.ownBlock ≠ some g

theorem own_grow {w w' : World} {r : Option Nat} (h : w.grownBy w' r) {base : Nat} {e : TypeId} {size n : Nat} {v : Value} {xs : List Value} (ho : w.ownsRow base e size v n xs) (hr : ∀ g, v.ownBlock = some g → r ≠ some g) : w'.ownsRow base e size v n xs := by
  obtain ⟨hl, h1 | ⟨g, cap, cur, hv, hbg, hh, rest⟩⟩ := ho
  · exact ⟨hl, .inl h1⟩
  · refine ⟨hl, .inr ⟨g, cap, cur, hv, hbg, ?_, rest⟩⟩
    rw [h.block g (Array.getElem?_eq_some_iff.1 hh).1 (fun e => hr g (by rw [hv]; rfl) e.symm)]
    exact hh

/-- What an append to the numbers leaves of the builder and of the numbers. -/
theorem bld_append {base bb : Nat} {w5 w6 : World} {vv u u' : Value} {V : List It} {l l' : List Int} {o : Obj} (hB : Bld base bb w5 vv V) (hU : Apart base bb w5 vv u l) (hg : (w5.alloc o).grownBy w6 u.ownBlock) (ho : w6.ownsRow base 3 1 u' l'.length (intCells l'))
    (hat : u'.ownBlock = u.ownBlock ∨ u'.ownBlock = some (w5.alloc o).heap.size) : Bld base bb w6 vv V ∧ Apart base bb w6 vv u' l' := by
  have sz := World.size_alloc w5 o
  have hbw := lt_of_block hB.blk
  refine ⟨⟨grow_blk hg (blk_alloc hB.blk o) (fun e => hU.ne e.symm), own_grow hg (hB.own.alloc o) (fun g h e => hU.dis g e h), hB.ne⟩, ⟨ho, fun e => ?_, fun g h e => ?_⟩⟩
  · rcases hat with h | h
    · exact hU.ne (h ▸ e)
    · rw [h] at e; injection e with e; omega
  · rcases hat with h' | h'
    · exact hU.dis g (h' ▸ h) e
    · rw [h'] at h; injection h with h
      have := (hB.own.lt g e).2
      omega

theorem Bld.below {base bb : Nat} {w w' : World} {vv : Value} {V : List It} (h : Bld base bb w vv V) (hb : Below w.heap.size w w') : Bld base bb w' vv V := ⟨blk_below hb h.blk, own_below h.own hb, h.ne⟩
theorem Apart.below {base bb : Nat} {w w' : World} {vv u : Value} {l : List Int} (h : Apart base bb w vv u l) (hb : Below w.heap.size w w') : Apart base bb w' vv u l := ⟨own_below h.own hb, h.ne, h.dis⟩
theorem Apart.nil (base bb : Nat) (w : World) (vv : Value) : Apart base bb w vv (.slice none 0 0) [] := ⟨World.ownsRow_nil _ _ _ _, by simp [Value.ownBlock], fun g h => by cases h⟩

/-- The builder has put an item at the end; the numbers stand. -/
theorem Apart.two {base bb : Nat} {w w' : World} {vv vv' u : Value} {l : List Int} (h : Apart base bb w vv u l) (hT : Two w w' bb vv.ownBlock) (hN : vv'.ownBlock = vv.ownBlock ∨ ∃ k, vv'.ownBlock = some k ∧ w.heap.size ≤ k) : Apart base bb w' vv' u l :=
  ⟨hT.own h.own h.ne h.dis, h.ne, fun g hg e => by
    rcases hN with h9 | ⟨k, h9, h8⟩
    · exact h.dis g hg (h9 ▸ e)
    · rw [h9] at e; injection e with e
      have := (h.own.lt g hg).2
      omega⟩

/-- The numbers u stand over an append to the numbers x. -/
theorem Apart.grow {base bb : Nat} {w w' : World} {vv u x : Value} {l : List Int} (h : Apart base bb w vv u l) (hg : w.grownBy w' x.ownBlock) (hx : ∀ g, u.ownBlock = some g → x.ownBlock ≠ some g) : Apart base bb w' vv u l :=
  ⟨own_grow hg h.own hx, h.ne, h.dis⟩

/-- The state of a level's loop: the builder, the leaves, the level, the next level. -/
structure St (base bb : Nat) (w : World) (vv : Value) (V : List It) (u : Value) (lu : List Int) (q : Value) (lq : List Int) (x : Value) (lx : List Int) : Prop where
  B : Bld base bb w vv V
  U : Apart base bb w vv u lu
  Q : Apart base bb w vv q lq
  N : Apart base bb w vv x lx
  nu : ∀ g, u.ownBlock = some g → x.ownBlock ≠ some g
  nq : ∀ g, q.ownBlock = some g → x.ownBlock ≠ some g

theorem St.below {base bb : Nat} {w w' : World} {vv : Value} {V : List It} {u : Value} {lu : List Int} {q : Value} {lq : List Int} {x : Value} {lx : List Int} (h : St base bb w vv V u lu q lq x lx) (hb : Below w.heap.size w w') : St base bb w' vv V u lu q lq x lx :=
  ⟨h.B.below hb, h.U.below hb, h.Q.below hb, h.N.below hb, h.nu, h.nq⟩

theorem St.added {base bb : Nat} {w w' : World} {vv vv' : Value} {V V' : List It} {u : Value} {lu : List Int} {q : Value} {lq : List Int} {x : Value} {lx : List Int} (h : St base bb w vv V u lu q lq x lx)
    (hb : w'.heap[bb]? = some (.cells #[vv'] 53 (0, 0))) (ho : w'.ownsRow base 37 4 vv' V'.length (itemCells V')) (hT : Two w w' bb vv.ownBlock) (hN : vv'.ownBlock = vv.ownBlock ∨ ∃ k, vv'.ownBlock = some k ∧ w.heap.size ≤ k) (hne : vv'.ownBlock ≠ some bb) : St base bb w' vv' V' u lu q lq x lx :=
  ⟨⟨hb, ho, hne⟩, h.U.two hT hN, h.Q.two hT hN, h.N.two hT hN, h.nu, h.nq⟩

theorem St.app {base bb : Nat} {w w' : World} {vv : Value} {V : List It} {u : Value} {lu : List Int} {q : Value} {lq : List Int} {x x' : Value} {lx lx' : List Int} {o : Obj} (h : St base bb w vv V u lu q lq x lx)
    (hg : (w.alloc o).grownBy w' x.ownBlock) (ho : w'.ownsRow base 3 1 x' lx'.length (intCells lx')) (hat : x'.ownBlock = x.ownBlock ∨ x'.ownBlock = some (w.alloc o).heap.size) : St base bb w' vv V u lu q lq x' lx' := by
  obtain ⟨hB, hN⟩ := bld_append h.B h.N hg ho hat
  have sz := World.size_alloc w o
  have hb : Below w.heap.size w (w.alloc o) := (Below.refl _ _).alloc (Nat.le_refl _) _
  refine ⟨hB, (h.U.below hb).grow hg h.nu, (h.Q.below hb).grow hg h.nq, hN, fun g h1 h2 => ?_, fun g h1 h2 => ?_⟩
  · rcases hat with e | e
    · exact h.nu g h1 (e ▸ h2)
    · rw [e] at h2; injection h2 with h2
      have := (h.U.own.lt g h1).2
      omega
  · rcases hat with e | e
    · exact h.nq g h1 (e ▸ h2)
    · rw [e] at h2; injection h2 with h2
      have := (h.Q.own.lt g h1).2
      omega

/-- A new level begins. -/
theorem St.start {base bb : Nat} {w : World} {vv : Value} {V : List It} {u : Value} {lu : List Int} {q : Value} {lq : List Int} (hB : Bld base bb w vv V) (hU : Apart base bb w vv u lu) (hQ : Apart base bb w vv q lq) : St base bb w vv V u lu q lq (.slice none 0 0) [] :=
  ⟨hB, hU, hQ, Apart.nil _ _ _ _, by simp [Value.ownBlock], by simp [Value.ownBlock]⟩

/-- Of what was there all stands but the block b and the rows r and s. -/
structure Same3 (w w' : World) (b : Nat) (r s : Option Nat) : Prop where
  os : w'.os = w.os
  tape : w'.tape = w.tape
  output : w'.output = w.output
  size : w.heap.size ≤ w'.heap.size
  block : ∀ k, k < w.heap.size → k ≠ b → some k ≠ r → some k ≠ s → w'.heap[k]? = w.heap[k]?

theorem Same3.refl (w : World) (b : Nat) (r s : Option Nat) : Same3 w w b r s := ⟨rfl, rfl, rfl, Nat.le_refl _, fun _ _ _ _ _ => rfl⟩
theorem Same3.below {w w1 w2 : World} {b : Nat} {r s : Option Nat} (h : Same3 w w1 b r s) (hb : Below w1.heap.size w1 w2) : Same3 w w2 b r s :=
  ⟨hb.os.trans h.os, hb.tape.trans h.tape, hb.output.trans h.output, Nat.le_trans h.size hb.size, fun k hk h1 h2 h3 => (hb.block k (Nat.lt_of_lt_of_le hk h.size)).trans (h.block k hk h1 h2 h3)⟩
theorem Same3.low {B : Nat} {a w w' : World} {b : Nat} {r s : Option Nat} (h : Same3 w w' b r s) (hb : Below B a w) (hB : B ≤ w.heap.size) (h1 : B ≤ b) (h2 : ∀ k, r = some k → B ≤ k) (h3 : ∀ k, s = some k → B ≤ k) : Below B a w' :=
  hb.trans ⟨h.os, h.tape, h.output, h.size, fun k hk => h.block k (by omega) (by omega) (fun e => by have := h2 k e.symm; omega) (fun e => by have := h3 k e.symm; omega)⟩

namespace K
def blinds : List Ln → Int
  | [] => 0
  | x :: l => x.bl + blinds l
/-- A level's numbers name items, whose amounts are bounded together. -/
structure Ok (V : List It) (lv : List Int) (X Y : Int) : Prop where
  fine : K.fine V lv
  v : K.sumv V lv ≤ X
  b : K.sumb V lv ≤ Y
end K

theorem K.blinds_bound {l : List Ln} (h : ∀ x ∈ l, K.right x = true) : 0 ≤ K.blinds l ∧ K.blinds l ≤ 1099511627776 * l.length := by
  induction l with
  | nil => simp [K.blinds]
  | cons x l ih =>
    have h1 := K.right_cents (h x List.mem_cons_self)
    have h2 := ih fun y hy => h y (List.mem_cons_of_mem _ hy)
    simp only [K.blinds, List.length_cons]
    omega

theorem K.leaves_sums (v : List It) : ∀ (l l0 : List Ln), K.sumv (v ++ (l0 ++ l).map K.leafIt) ((List.range' l0.length l.length).map fun i => ((v.length + i : Nat) : Int)) = K.cents l ∧ K.sumb (v ++ (l0 ++ l).map K.leafIt) ((List.range' l0.length l.length).map fun i => ((v.length + i : Nat) : Int)) = K.blinds l := by
  intro l
  induction l with
  | nil => intro l0; exact ⟨rfl, rfl⟩
  | cons x l ih =>
    intro l0
    have h := ih (l0 ++ [x])
    rw [List.length_append, List.append_assoc, List.cons_append, List.nil_append] at h
    have hx : (l0 ++ x :: l)[l0.length]? = some x := by simp
    have hg := K.leaf_get v (l0 ++ x :: l) l0.length x hx
    simp only [List.length_cons, List.range'_succ, List.map_cons, K.sumv, K.sumb, K.cents, K.blinds]
    rw [hg]
    simp only [List.length_cons, List.length_nil, Nat.zero_add] at h
    rw [h.1, h.2]
    exact ⟨rfl, rfl⟩

theorem K.leaves_sum (v : List It) (l : List Ln) : K.sumv (v ++ l.map K.leafIt) (K.idx v.length l) = K.cents l ∧ K.sumb (v ++ l.map K.leafIt) (K.idx v.length l) = K.blinds l := by
  have h := K.leaves_sums v l []
  rw [List.nil_append, List.length_nil] at h
  unfold K.idx
  rw [List.range_eq_range']
  exact h

theorem K.leaves_fine {v : List It} {l : List Ln} (h : ∀ x ∈ l, K.right x = true) : K.fine (v ++ l.map K.leafIt) (K.idx v.length l) := by
  intro i hi
  obtain ⟨j, hj, rfl⟩ := List.mem_map.1 hi
  rw [List.mem_range] at hj
  have hx : l[j]? = some (l[j]'hj) := List.getElem?_eq_getElem hj
  have := K.right_cents (h _ (List.getElem_mem hj))
  rw [K.leaf_get v l j _ hx]
  exact ⟨⟨by omega, by rw [List.length_append, List.length_map]; omega⟩, this.1, this.2.2.1⟩

theorem K.drop_two {lv : List Int} {t : Nat} {a b : Int} (ha : lv[2 * t]? = some a) (hb : lv[2 * t + 1]? = some b) : lv.drop (2 * t) = a :: b :: lv.drop (2 * (t + 1)) := by
  obtain ⟨h1, e1⟩ := List.getElem?_eq_some_iff.1 ha
  obtain ⟨h2, e2⟩ := List.getElem?_eq_some_iff.1 hb
  rw [List.drop_eq_getElem_cons h1, e1, List.drop_eq_getElem_cons h2, e2, show 2 * (t + 1) = 2 * t + 1 + 1 by omega]

theorem K.Ok.two {V : List It} {a b : Int} {r : List Int} {X Y : Int} (h : K.Ok V (a :: b :: r) X Y) :
    (0 ≤ a ∧ a < V.length) ∧ (0 ≤ b ∧ b < V.length) ∧ (0 ≤ (K.get V a).val ∧ 0 ≤ (K.get V b).val ∧ (K.get V a).val + (K.get V b).val ≤ X) ∧ (0 ≤ (K.get V a).bl ∧ 0 ≤ (K.get V b).bl ∧ (K.get V a).bl + (K.get V b).bl ≤ Y) ∧ ∀ x, K.Ok (V ++ [x]) r X Y := by
  have ha := h.fine a List.mem_cons_self
  have hb := h.fine b (List.mem_cons_of_mem _ List.mem_cons_self)
  have hr : K.fine V r := fun i hi => h.fine i (List.mem_cons_of_mem _ (List.mem_cons_of_mem _ hi))
  have h1 := K.sumv_mem hr
  have h2 := K.sumb_mem hr
  have hv := h.v
  have hbl := h.b
  simp only [K.sumv, K.sumb] at hv hbl
  refine ⟨ha.1, hb.1, ⟨ha.2.1, hb.2.1, by omega⟩, ⟨ha.2.2, hb.2.2, by omega⟩, fun x => ⟨K.fine_app hr, by rw [K.sumv_app hr]; omega, by rw [K.sumb_app hr]; omega⟩⟩

theorem K.levels_step {f : Nat} {V : List It} {lv : List Int} (h : 1 < lv.length) (hf : lv.length ≤ f + 1) : K.levels (f + 1) V lv = K.levels f (K.pairUp V lv).1 (K.pairUp V lv).2 := by
  have := hf
  simp only [K.levels]
  rw [if_neg (by omega)]

theorem K.levels_end (f : Nat) (V : List It) (z : Int) : K.levels f V [z] = (V, z) := by
  cases f <;> simp [K.levels]

theorem K.pair_even {V V' : List It} {lv nx : List Int} {t : Nat} (h : K.pairUp V lv = ((K.pairUp V' (lv.drop (2 * t))).1, nx ++ (K.pairUp V' (lv.drop (2 * t))).2)) (hl : lv.length ≤ 2 * t) : K.pairUp V lv = (V', nx) := by
  rw [h, List.drop_eq_nil_iff.2 hl]
  simp [K.pairUp]

theorem K.pair_odd {V V' : List It} {lv nx : List Int} {t : Nat} {z : Int} (h : K.pairUp V lv = ((K.pairUp V' (lv.drop (2 * t))).1, nx ++ (K.pairUp V' (lv.drop (2 * t))).2)) (hl : lv.length = 2 * t + 1) (hz : lv[2 * t]? = some z) : K.pairUp V lv = (V', nx ++ [z]) := by
  obtain ⟨h1, e1⟩ := List.getElem?_eq_some_iff.1 hz
  rw [h, List.drop_eq_getElem_cons h1, e1, List.drop_eq_nil_iff.2 (by omega)]
  simp [K.pairUp]

/-- One level is done: what holds of the next. -/
theorem K.level_up {V V' : List It} {lv nl : List Int} {X Y : Int} {f c : Nat} {r : List It × Int} (hp : K.pairUp V lv = (V', nl)) (hok : K.Ok V lv X Y) (h1 : 1 < lv.length) (hr : r = K.levels f V lv) (hf : lv.length ≤ f) (hc : V.length + lv.length = c) :
    K.Ok V' nl X Y ∧ (∃ g, r = K.levels g V' nl ∧ nl.length ≤ g) ∧ V'.length + nl.length = c ∧ nl.length < lv.length ∧ 0 < nl.length := by
  obtain ⟨g1, g2, g3, _, g5, g6, g7⟩ := K.pair_fine lv.length lv V (Nat.le_refl _) hok.fine
  rw [hp] at g1 g2 g3 g5 g6 g7
  obtain ⟨g, rfl⟩ : ∃ g, f = g + 1 := ⟨f - 1, by omega⟩
  refine ⟨⟨g1, by rw [g2]; exact hok.v, by rw [g3]; exact hok.b⟩, ⟨g, by rw [hr, K.levels_step h1 hf, hp], by simp only at g6; omega⟩, by rw [← hc]; exact g5, by simp only at g6; omega, by simp only at g7; omega⟩

theorem K.even_no {n t : Nat} (h : n = 2 * t) : ((n : Int) % 2 == 1) = false := by
  rw [beq_eq_false_iff_ne]; omega
theorem K.odd_yes {n t : Nat} (h : n = 2 * t + 1) : ((n : Int) % 2 == 1) = true := by
  rw [beq_iff_eq]; omega
theorem own_low {w : World} {a b : Nat} {e : TypeId} {size n : Nat} {v : Value} {xs : List Value} (h : w.ownsRow b e size v n xs) (hab : a ≤ b) : w.ownsRow a e size v n xs := by
  obtain ⟨hl, h1 | ⟨g, cap, cur, hv, hbg, rest⟩⟩ := h
  · exact ⟨hl, .inl h1⟩
  · exact ⟨hl, .inr ⟨g, cap, cur, hv, Nat.le_trans hab hbg, rest⟩⟩

/-- A row made after the builder's is apart from it. -/
theorem Apart.fresh {base bb : Nat} {w w' : World} {vv q : Value} {V : List It} {l : List Int} (hB : Bld base bb w vv V) (hq : w'.ownsRow w.heap.size 3 1 q l.length (intCells l)) (hbase : base ≤ w.heap.size) : Apart base bb w' vv q l :=
  ⟨own_low hq hbase, fun e => by have := (hq.lt bb e).1; have := lt_of_block hB.blk; omega, fun g h e => by have := (hq.lt g h).1; have := (hB.own.lt g e).2; omega⟩

theorem own_ints_at {w : World} {base : Nat} {A : Option Addr} {n c : Nat} {l : List Int} (h : w.ownsRow base 3 1 (.slice A n c) l.length (intCells l)) : Ints w A l.length l := by
  obtain ⟨A', c', e, hr, _⟩ := own_form h
  injection e with e1 e2 e3
  subst e1
  exact ⟨rfl, hr⟩

theorem own_len {w : World} {base : Nat} {e : TypeId} {size n : Nat} {v : Value} {xs : List Value} (h : w.ownsRow base e size v n xs) : ∃ A c, v = .slice A n c := by
  obtain ⟨A', c', e, _⟩ := own_form h
  exact ⟨A', c', e⟩

def vlen : Value → Nat
  | .slice _ n _ => n
  | _ => 0

theorem K.get_at {V : List It} {i : Nat} {x : It} (h : V[i]? = some x) : K.get V (i : Int) = x := by
  unfold K.get
  rw [Int.toNat_natCast, h]; rfl

/-- The address of the next number, in the walk's spelling. -/
theorem add_pos (a : Addr) (i : Nat) : a.add (i + 1) = ⟨a.block, a.off + (i + 1), none⟩ := by unfold Addr.add; rw [if_neg (by omega)]

theorem Same3.cell {w w' : World} {b : Nat} {r s : Option Nat} (h : Same3 w w' b r s) {a : Addr} {x : Value} (hc : w.cell? a = some x) (h1 : a.block ≠ b) (h2 : some a.block ≠ r) (h3 : some a.block ≠ s) : w'.cell? a = some x := by
  rw [World.cell?_of_block (h.block _ (cell_lt hc) h1 h2 h3)]; exact hc
theorem Same3.two {w w1 w2 : World} {b : Nat} {r s : Option Nat} (h : Same3 w w1 b r s) (hT : Two w1 w2 b r) : Same3 w w2 b r s :=
  ⟨hT.os.trans h.os, hT.tape.trans h.tape, hT.output.trans h.output, Nat.le_trans h.size hT.size, fun k hk h1 h2 h3 => (hT.block k (Nat.lt_of_lt_of_le hk h.size) h1 h2).trans (h.block k hk h1 h2 h3)⟩
theorem Same3.grow {w w1 w2 : World} {b : Nat} {r s : Option Nat} (h : Same3 w w1 b r s) (hg : w1.grownBy w2 s) : Same3 w w2 b r s :=
  ⟨hg.os.trans h.os, hg.tape.trans h.tape, hg.output.trans h.output, Nat.le_trans h.size hg.size, fun k hk h1 h2 h3 => (hg.block k (Nat.lt_of_lt_of_le hk h.size) h3).trans (h.block k hk h1 h2 h3)⟩
end Go.Proofs.Ytijkaiilecpbcaa
