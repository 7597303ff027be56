/-
Routes: words for the walk of planner.try.
-/
import Derived.Test.YtippdjmpkafifaaPM
namespace Go.Proofs.Ytippdjmpkafifaa
open Go.RowKit

/-- What a call of the search leaves. -/
def Sought (w w' : World) (mb gb gf : Nat) (p : PS) (X : Nat → Prop) (best : Option K.Tr) (e : Ending) : Prop :=
  e = .returned (.tuple #[]) ∧ But3 w w' mb gb gf ∧ Memo w' mb p.x.nd p.x.l X ∧ BestAt w' gb gf best

/-- What stands in memory while the search goes on: a world from ahead of the search's own variables, the ways that are known, the best tour so far. -/
structure SAt (wp w : World) (mb gb gf : Nat) (p : PS) (X : Nat → Prop) (best : Option K.Tr) : Prop where
  ext : Ext wp w
  memo : Memo w mb p.x.nd p.x.l X
  best : BestAt w gb gf best
theorem SAt.pat {wp w : World} {b mb gb gf : Nat} {p : PS} {X : Nat → Prop} {best : Option K.Tr} (h : SAt wp w mb gb gf p X best) (hp : PAt wp b mb p X) : PAt w b mb p X := hp.keep h.ext h.memo
theorem SAt.below {wp w w' : World} {mb gb gf : Nat} {p : PS} {X : Nat → Prop} {best : Option K.Tr} (h : SAt wp w mb gb gf p X best) (hb : Below w.heap.size w w') : SAt wp w' mb gb gf p X best :=
  ⟨h.ext.trans (Ext.below hb), h.memo.below hb, h.best.ext (Ext.below hb)⟩
theorem SAt.went {wp w w' : World} {b mb gb gf : Nat} {p : PS} {X : Nat → Prop} {best : Option K.Tr} (h : SAt wp w mb gb gf p X best) (hp : PAt wp b mb p X) (hW : Went w w' b mb p X) : SAt wp w' mb gb gf p X best :=
  have hx := hW.ext (h.pat hp)
  ⟨h.ext.trans hx, hW.2.memo, h.best.ext hx⟩
theorem SAt.but {wp w w' : World} {b mb gb gf : Nat} {p : PS} {X : Nat → Prop} {best best' : Option K.Tr} (h : SAt wp w mb gb gf p X best) (hp : PAt wp b mb p X) (hgb : wp.heap.size ≤ gb) (hgf : wp.heap.size ≤ gf)
    (hB : But3 w w' mb gb gf) (hM : Memo w' mb p.x.nd p.x.l X) (hT : BestAt w' gb gf best') : SAt wp w' mb gb gf p X best' :=
  ⟨⟨Nat.le_trans h.ext.size hB.size, fun g cs t z e => by
    have h1 := h.ext.cells g cs t z e
    have h2 := (Array.getElem?_eq_some_iff.1 e).1
    refine (hB.block g (Array.getElem?_eq_some_iff.1 h1).1 (fun e2 => ?_) (by omega) (by omega)).trans h1
    obtain ⟨es, clock, hm, -⟩ := hp.memo
    rw [e2, hm] at e
    cases e⟩, hM, hT⟩

/-- A state of the search: its two lists in memory, its numbers in their bounds. -/
structure StAt (w : World) (p : PS) (gb gf : Nat) (st : K.St) (SA : Option Addr) (sn : Nat) (TA : Option Addr) (tn : Nat) : Prop where
  stops : Ints w SA sn st.stops
  times : Ints w TA tn st.times
  s1 : ∀ ad, SA = some ad → ad.block ≠ gb ∧ ad.block ≠ gf
  t1 : ∀ ad, TA = some ad → ad.block ≠ gb ∧ ad.block ≠ gf
  bits : st.bits < 2 ^ p.n
  len : st.stops.length ≤ st.bits
  len2 : st.times.length = st.stops.length
  a0 : 0 ≤ st.a ∧ st.a < p.x.nd
  t0 : 0 ≤ st.t ∧ st.t ≤ 1000000
theorem Ints.but {w w' : World} {mb gb gf : Nat} {nd : Int} {lr : List Ro} {X : Nat → Prop} {A : Option Addr} {n : Nat} {l : List Int} (h : Ints w A n l) (hM : Memo w mb nd lr X) (hB : But3 w w' mb gb gf) (hA : ∀ ad, A = some ad → ad.block ≠ gb ∧ ad.block ≠ gf) : Ints w' A n l :=
  ⟨h.1, h.2.1, fun hn => by
    obtain ⟨ad, e, hc⟩ := h.2.2 hn
    refine ⟨ad, e, fun j u hu => ?_⟩
    have h1 := hc j u hu
    have h2 := cell_lt h1
    rw [add_block] at h2
    refine (World.cell?_of_block (by
      rw [add_block]
      refine hB.block _ h2 (fun e2 => ?_) (hA ad e).1 (hA ad e).2
      obtain ⟨es, clock, hm, -⟩ := hM
      rw [← e2] at hm
      simp only [World.cell?, add_block, hm] at h1
      cases h1)).trans h1⟩
theorem StAt.but {w w' : World} {p : PS} {mb gb gf : Nat} {nd : Int} {lr : List Ro} {X : Nat → Prop} {st : K.St} {SA TA : Option Addr} {sn tn : Nat} (h : StAt w p gb gf st SA sn TA tn) (hM : Memo w mb nd lr X) (hB : But3 w w' mb gb gf) : StAt w' p gb gf st SA sn TA tn :=
  ⟨h.stops.but hM hB h.s1, h.times.but hM hB h.t1, h.s1, h.t1, h.bits, h.len, h.len2, h.a0, h.t0⟩
theorem StAt.ext {w w' : World} {p : PS} {gb gf : Nat} {st : K.St} {SA TA : Option Addr} {sn tn : Nat} (h : StAt w p gb gf st SA sn TA tn) (hB : Ext w w') : StAt w' p gb gf st SA sn TA tn :=
  ⟨h.stops.ext hB, h.times.ext hB, h.s1, h.t1, h.bits, h.len, h.len2, h.a0, h.t0⟩
/-- The state's block. -/
def StBlk (w : World) (H : Nat) (st : K.St) (SA : Option Addr) (sn sc : Nat) (TA : Option Addr) (tn tc : Nat) : Prop :=
  w.heap[H]? = some (.cells #[.int .i64 (st.bits : Int), .int .i64 st.a, .int .i64 st.t, .slice SA sn sc, .slice TA tn tc] 106 (0, 0))
theorem StBlk.cells {w : World} {H : Nat} {st : K.St} {SA TA : Option Addr} {sn sc tn tc : Nat} (h : StBlk w H st SA sn sc TA tn tc) :
    w.cell? ⟨H, 0, none⟩ = some (.int .i64 (st.bits : Int)) ∧ w.cell? ⟨H, 1, none⟩ = some (.int .i64 st.a) ∧ w.cell? ⟨H, 2, none⟩ = some (.int .i64 st.t) ∧ w.cell? ⟨H, 3, none⟩ = some (.slice SA sn sc) ∧ w.cell? ⟨H, 4, none⟩ = some (.slice TA tn tc) :=
  ⟨blk_cell h 0 _ rfl, blk_cell h 1 _ rfl, blk_cell h 2 _ rfl, blk_cell h 3 _ rfl, blk_cell h 4 _ rfl⟩

theorem blk_other {w : World} {g : Nat} {o : Obj} (h : w.heap[g]? = some o) {g' i : Nat} (v : Value) (hne : g ≠ g') : (w.setCell ⟨g', i, none⟩ v).heap[g]? = some o :=
  (Below.heap_setCell w _ v g hne).trans h

/-- A better tour is written down. -/
theorem SAt.stored {wp w : World} {b mb gb gf : Nat} {p : PS} {X : Nat → Prop} {best : Option K.Tr} (h : SAt wp w mb gb gf p X best) (hp : PAt wp b mb p X) (hgb : wp.heap.size ≤ gb) (hgf : wp.heap.size ≤ gf) (hXb : X gb) (hXf : X gf)
    (S T : List Int) (en : Int) {A A' : Option Addr} {n c n' c' : Nat} (hA : Ints w A n S) (hA' : Ints w A' n' T) (h1 : ∀ ad, A = some ad → gb < ad.block ∧ gf < ad.block) (h2 : ∀ ad, A' = some ad → gb < ad.block ∧ gf < ad.block) :
    But3 w (((((w.setCell ⟨gb, 0, none⟩ (.int .i64 0)).setCell ⟨gb, 1, none⟩ (.slice A n c)).setCell ⟨gb, 2, none⟩ (.slice A' n' c')).setCell ⟨gb, 3, none⟩ (.int .i64 en)).setCell ⟨gf, 0, none⟩ (.bool true)) mb gb gf ∧
    Memo (((((w.setCell ⟨gb, 0, none⟩ (.int .i64 0)).setCell ⟨gb, 1, none⟩ (.slice A n c)).setCell ⟨gb, 2, none⟩ (.slice A' n' c')).setCell ⟨gb, 3, none⟩ (.int .i64 en)).setCell ⟨gf, 0, none⟩ (.bool true)) mb p.x.nd p.x.l X ∧
    BestAt (((((w.setCell ⟨gb, 0, none⟩ (.int .i64 0)).setCell ⟨gb, 1, none⟩ (.slice A n c)).setCell ⟨gb, 2, none⟩ (.slice A' n' c')).setCell ⟨gb, 3, none⟩ (.int .i64 en)).setCell ⟨gf, 0, none⟩ (.bool true)) gb gf (some ⟨S, T, en⟩) := by
  have hmb := hp.memo.lt
  obtain ⟨A0, n0, c0, A1, n1, c1, e0, hT, -⟩ := h.best.blk
  have hne := h.best.ne
  refine ⟨((((((But3.refl w mb gb gf).set (.inl rfl) _ _).set (.inl rfl) _ _).set (.inl rfl) _ _).set (.inl rfl) _ _).set (.inr rfl) _ _),
    (((((h.memo.set hXb (by omega) _ _).set hXb (by omega) _ _).set hXb (by omega) _ _).set hXb (by omega) _ _).set hXf (by omega) _ _), ?_, A, n, c, A', n', c', en, ?_, ?_⟩
  · have hf : (((w.setCell ⟨gb, 0, none⟩ (.int .i64 0)).setCell ⟨gb, 1, none⟩ (.slice A n c)).setCell ⟨gb, 2, none⟩ (.slice A' n' c')).setCell ⟨gb, 3, none⟩ (.int .i64 en) |>.heap[gf]? = some (.cells #[.bool best.isSome] 4 (0, 0)) :=
      blk_other (blk_other (blk_other (blk_other h.best.found _ (Ne.symm hne)) _ (Ne.symm hne)) _ (Ne.symm hne)) _ (Ne.symm hne)
    exact blk_set hf 0 _
  · exact blk_other (blk_set (blk_set (blk_set (blk_set hT 0 _) 1 _) 2 _) 3 _) _ hne
  · rintro b ⟨⟩
    exact ⟨((((hA.set _ fun ad e => Nat.ne_of_gt (h1 ad e).1).set _ fun ad e => Nat.ne_of_gt (h1 ad e).1).set _ fun ad e => Nat.ne_of_gt (h1 ad e).1).set _ fun ad e => Nat.ne_of_gt (h1 ad e).1).set _ fun ad e => Nat.ne_of_gt (h1 ad e).2,
      ((((hA'.set _ fun ad e => Nat.ne_of_gt (h2 ad e).1).set _ fun ad e => Nat.ne_of_gt (h2 ad e).1).set _ fun ad e => Nat.ne_of_gt (h2 ad e).1).set _ fun ad e => Nat.ne_of_gt (h2 ad e).1).set _ fun ad e => Nat.ne_of_gt (h2 ad e).2, rfl, h1, h2⟩

/-- An append of one number, as a step of a region that draws. -/
theorem step_app_one {ops : Array Oper} {o : Oper} {a : Act} {w : World} {K : Act → World → Prop} {Q : Exit → Act → World → Prop} {E : Prop} (hgd : o.guard = none) (s x : Operand)
    (ho : o.op = .call { callee := .builtin .append, args := #[s, x], argTypes := #[41, 41] })
    (base : Nat) (v : Value) (n : Nat) (l : List Int) (hs : a.eval s = v) (hown : w.ownsRow base 3 1 v n (intCells l)) (g : Nat) (p : Int) (hx : a.eval x = .slice (some ⟨g, 0, none⟩) 1 1)
    (hg : w.heap[g]? = some (.cells #[.int .i64 p] 3 (0, 0))) (hn : n ≤ 1000000) (hbase : base ≤ w.heap.size)
    (h : ∀ A c w', Ints w' A (n + 1) (l ++ [p]) → (∀ ad, A = some ad → base ≤ ad.block) → w.grownBy w' v.ownBlock → Below base w w' → K (a.put o.dst (.slice A (n + 1) c)) w') :
    if Region.wanted o (yielded ops a.tmps) = true then Oper.wp Try.prog o a w K Q else E := by
  obtain ⟨i0, hi, hz0, hz1, hz2⟩ := info_parts Try.info3
  have hl : n = l.length := by
    have := hown.1
    simpa [intCells] using this.symm
  refine step_append_rd hgd s x 41 ho base 3 i0 (.int .i64 0) 1 8 Try.underlying41 hi hz0 hz1 hz2 rfl (by decide) v n (intCells l) hs hown (some ⟨g, 0, none⟩) 1 1 [.int .i64 p] hx ⟨rfl, fun _ => ⟨_, rfl, fun j u hu => by rw [add_zero_block]; exact blk_cell hg j u (by simpa using hu)⟩⟩ (fun u hu => by simp at hu; subst hu; rfl) (by simp only [maxLen]; omega) (by omega) hbase ?_
  intro v' w' h2 h3 h4
  obtain ⟨A, c, rfl, hR, hlt⟩ := own_form h2
  refine h A c w' ⟨by rw [List.length_append, ← hl]; rfl, by rw [intCells_app]; exact hR⟩ (fun ad e => ?_) h3 ((Below.refl base w).grown h3 hbase (fun k e => (hown.lt k e).1))
  subst e
  obtain ⟨ad0, e0, hc⟩ := hR.2 (by omega)
  injection e0 with e0
  subst e0
  rcases h2.2 with ⟨e, -⟩ | ⟨g', cap, cur, e, hb, -⟩
  · cases e
  · injection e with e
    injection e with e
    subst e
    exact hb

theorem ownsRow_below {w w' : World} {base : Nat} {e : TypeId} {size n : Nat} {v : Value} {xs : List Value} (h : w.ownsRow base e size v n xs) (hb : Below w.heap.size w w') : w'.ownsRow base e size v n xs := by
  obtain ⟨hl, h1 | ⟨g, cap, cur, h1, h2, h3, h4⟩⟩ := h
  · exact ⟨hl, .inl h1⟩
  · exact ⟨hl, .inr ⟨g, cap, cur, h1, h2, blk_below hb h3, h4⟩⟩

/-- The same, for a row that was made in an earlier world. -/
theorem step_app_two {ops : Array Oper} {o : Oper} {a : Act} {w w2 : World} {K : Act → World → Prop} {Q : Exit → Act → World → Prop} {E : Prop} (hgd : o.guard = none) (s x : Operand)
    (ho : o.op = .call { callee := .builtin .append, args := #[s, x], argTypes := #[41, 41] })
    {base : Nat} {v : Value} {n : Nat} {l : List Int} (hown : w2.ownsRow base 3 1 v n (intCells l)) (hbase : base ≤ w2.heap.size) (hs : a.eval s = v) (g : Nat) (p : Int) (hx : a.eval x = .slice (some ⟨g, 0, none⟩) 1 1)
    (hw : Below w2.heap.size w2 w) (hg : w.heap[g]? = some (.cells #[.int .i64 p] 3 (0, 0))) (hn : n ≤ 1000000)
    (h : ∀ A c w', Ints w' A (n + 1) (l ++ [p]) → (∀ ad, A = some ad → base ≤ ad.block) → w.grownBy w' v.ownBlock → Below base w w' → K (a.put o.dst (.slice A (n + 1) c)) w') :
    if Region.wanted o (yielded ops a.tmps) = true then Oper.wp Try.prog o a w K Q else E :=
  step_app_one hgd s x ho base v n l hs (ownsRow_below hown hw) g p hx hg hn (Nat.le_trans hbase hw.size) h

theorem bits_next_all : ∀ n : Fin 7, ∀ m : Fin 64, ∀ k : Fin 6, m.val < 2 ^ n.val → k.val < n.val → m.val.testBit k.val = false → m.val + 2 ^ k.val < 2 ^ n.val := by decide +kernel
/-- One more element of a part. -/
theorem bits_next {m i n : Nat} (hn : n ≤ 6) (hm : m < 2 ^ n) (hi : i < n) (hb : m.testBit i = false) : m + 2 ^ i < 2 ^ n :=
  bits_next_all ⟨n, by omega⟩ ⟨m, Nat.lt_of_lt_of_le hm (Nat.pow_le_pow_right (by omega) hn)⟩ ⟨i, by omega⟩ hm hi hb

theorem below_at {w W w' : World} (hb : Below w.heap.size w W) (_ : Below W.heap.size W w') : w.heap.size ≤ W.heap.size := hb.size
theorem lit_at {W w' : World} {g : Nat} {o : Obj} (_ : Below W.heap.size W w') (h : W.heap[g]? = some o) : W.heap[g]? = some o := h
theorem drew_fact {w : World} {g : Nat} {o : Obj} (h : w.heap[g]? = some o) : w.drew.heap[g]? = some o := h
theorem ints_at {W w' : World} {A : Option Addr} {n : Nat} {l : List Int} (_ : Below W.heap.size W w') (h : Ints W A n l) : ∀ w'', Below W.heap.size W w'' → Ints w'' A n l := fun _ hb => h.below hb

namespace K
theorem go_none {rec : St → Option Tr → Option Tr} {nd : Int} {l : List Ro} {s : S} {r : List Q} {v : List Int} {st : St} {best : Option Tr} {k : Nat} {i : Int} (h : v[k]? = some i) (ho : onward nd l s r v st k i = none) :
    seek.go rec nd l s r v st best k (v.drop k) = seek.go rec nd l s r v st best (k + 1) (v.drop (k + 1)) := by
  rw [drop_of_some h, seek.go, ho]
theorem go_some {rec : St → Option Tr → Option Tr} {nd : Int} {l : List Ro} {s : S} {r : List Q} {v : List Int} {st st' : St} {best : Option Tr} {k : Nat} {i : Int} (h : v[k]? = some i) (ho : onward nd l s r v st k i = some st') :
    seek.go rec nd l s r v st best k (v.drop k) = seek.go rec nd l s r v st (rec st' best) (k + 1) (v.drop (k + 1)) := by
  rw [drop_of_some h, seek.go, ho]
end K
end Go.Proofs.Ytippdjmpkafifaa
