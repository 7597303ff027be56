import Derived.Test.YtippdjmpkafifaaGreatAQ4
import Derived.Laws.ResultCell
/-
Routes: right cases, as the statements ask for them.
-/
namespace Go.Proofs.YtippdjmpkafifaaGreat
open Go.RowKit

namespace K
/-- Numbers in order, behind p. -/
def ordGo (n : Int) : Int → List Int → Bool
  | _, [] => true
  | p, k :: rest => decide (0 ≤ k) && (decide (k < n) && (decide (p < k) && ordGo n k rest))
def set31 (l : List Int) (n : Int) : Bool := ordGo n (-1) l && decide (l.length ≤ 6)
theorem ordGo_sorted {n : Int} : ∀ (l : List Int) (p : Int), ordGo n p l = true → (∀ x ∈ l, 0 ≤ x ∧ x < n) ∧ (∀ x ∈ l, p < x) ∧ l.Nodup
  | [], _, _ => ⟨by simp, by simp, List.nodup_nil⟩
  | i :: l, p, h => by
    simp only [ordGo, Bool.and_eq_true, decide_eq_true_eq] at h
    obtain ⟨h1, h2, h3⟩ := ordGo_sorted l i h.2.2.2
    refine ⟨fun x hx => ?_, fun x hx => ?_, List.nodup_cons.2 ⟨fun hi => by have := h2 i hi; omega, h3⟩⟩
    · rcases List.mem_cons.1 hx with rfl | hx
      · exact ⟨h.1, h.2.1⟩
      · exact h1 x hx
    · rcases List.mem_cons.1 hx with rfl | hx
      · exact h.2.2.1
      · have := h2 x hx; have := h.2.2.1; omega
theorem setGo_ord {nd : Int} {r : List Q} : ∀ (l : List Int) (p : Int), setGo nd r p l = (ordGo (r.length : Int) p l && l.all fun i => decide ((req r i).node < nd))
  | [], _ => rfl
  | i :: l, p => by
    simp only [setGo, ordGo, List.all_cons, setGo_ord l i]
    cases decide (0 ≤ i) <;> cases decide (i < (r.length : Int)) <;> cases decide (p < i) <;> cases decide ((req r i).node < nd) <;> simp
/-- A right case is a right round over a set in order. -/
theorem ok31_eq (nd : Int) (l : List Ro) (s : S) (r : List Q) (v : List Int) : ok31 nd l s r v = (set31 v (r.length : Int) && right nd l s r v) := by
  unfold ok31 set31 right
  rw [setGo_ord]
  cases h1 : ordGo (r.length : Int) (-1) v
  · simp
  · obtain ⟨a, -, c⟩ := ordGo_sorted _ _ h1
    have hs : T.isSet (r.length : Int) v = true := T.isSet_iff.2 ⟨a, c⟩
    unfold T.load
    rw [hs]
    cases (netErr nd l == 0) <;> cases (T.check s == 0) <;> cases decide (s.depot < nd) <;> cases (r.any fun q => !T.right q) <;> cases decide (v.length ≤ 6) <;> simp
end K

end Go.Proofs.YtippdjmpkafifaaGreat

/-
Routes: small cases; and orders of a set.
-/
namespace Go.Proofs.YtippdjmpkafifaaGreat
open Go.RowKit

namespace K
def size31 (n : Nat) : Bool := decide (n ≤ 4) || (decide (6 < n) && decide (n ≤ 20))
def few31 (nd : Int) (n : Nat) (s : S) (r : List Q) (vn : Nat) : Bool := few30 nd n s r && size31 vn
/-- Whether an order has exactly the elements of a set. -/
def inSet (o v : List Int) : Bool := (o.length == v.length) && (T.isSet 1000 o && v.all fun x => o.any (· == x))
end K

end Go.Proofs.YtippdjmpkafifaaGreat

/-
Routes: the search for the best tour, in plain terms.
-/
namespace Go.Proofs.YtippdjmpkafifaaGreat
open Go.RowKit

namespace K
/-- A truck on its way: what it has served, where and when it is, the stops and their minutes. -/
structure St where
  bits : Nat
  a : Int
  t : Int
  stops : List Int
  times : List Int
/-- Whether the best tour so far ends at this minute or earlier. -/
def late (best : Option Tr) (t : Int) : Bool := match best with | none => false | some b => decide (b.end_ ≤ t)
/-- Whether a tour that ends at this minute is better. -/
def better (best : Option Tr) (e : Int) : Bool := match best with | none => true | some b => decide (e < b.end_)
/-- The way back, if the tour ends earlier than the best one so far. -/
def home (nd : Int) (l : List Ro) (s : S) (r : List Q) (v : List Int) (st : St) (best : Option Tr) : Option Tr :=
  if way nd l st.a (T.weight s r (part v st.bits)) s.depot ≠ -1 ∧ st.t + way nd l st.a (T.weight s r (part v st.bits)) s.depot ≤ s.end_ ∧ better best (st.t + way nd l st.a (T.weight s r (part v st.bits)) s.depot) = true
  then some ⟨st.stops, st.times, st.t + way nd l st.a (T.weight s r (part v st.bits)) s.depot⟩ else best
/-- The state behind one more request. -/
def onward (nd : Int) (l : List Ro) (s : S) (r : List Q) (v : List Int) (st : St) (i : Nat) (k : Int) : Option St :=
  if st.bits.testBit i = true then none
  else if way nd l st.a (T.weight s r (part v st.bits)) (req r k).node = -1 then none
  else if (begins s r (req r k) (part v (st.bits + 2 ^ i)) (st.t + way nd l st.a (T.weight s r (part v st.bits)) (req r k).node)).2 = false then none
  else some ⟨st.bits + 2 ^ i, (req r k).node, (begins s r (req r k) (part v (st.bits + 2 ^ i)) (st.t + way nd l st.a (T.weight s r (part v st.bits)) (req r k).node)).1 + (req r k).service,
    st.stops ++ [k], st.times ++ [(begins s r (req r k) (part v (st.bits + 2 ^ i)) (st.t + way nd l st.a (T.weight s r (part v st.bits)) (req r k).node)).1]⟩
/-- The search, 'fuel' requests deep. -/
def seek (nd : Int) (l : List Ro) (s : S) (r : List Q) (v : List Int) : Nat → St → Option Tr → Option Tr
  | 0, _, best => best
  | f + 1, st, best =>
    if late best st.t = true then best
    else if st.bits = 2 ^ v.length - 1 then home nd l s r v st best
    else go (seek nd l s r v f) nd l s r v st best 0 v
where
  /-- All elements from place i on. -/
  go (rec : St → Option Tr → Option Tr) (nd : Int) (l : List Ro) (s : S) (r : List Q) (v : List Int) (st : St) (best : Option Tr) (i : Nat) : List Int → Option Tr
    | [] => best
    | k :: rest => match onward nd l s r v st i k with
      | none => go rec nd l s r v st best (i + 1) rest
      | some st' => go rec nd l s r v st (rec st' best) (i + 1) rest
/-- The best tour. -/
def best (nd : Int) (l : List Ro) (s : S) (r : List Q) (v : List Int) : Option Tr := seek nd l s r v (2 ^ v.length) ⟨0, s.depot, s.start, [], []⟩ none
end K
end Go.Proofs.YtippdjmpkafifaaGreat

/-
Routes: small blocks.
-/
namespace Go.Proofs.YtippdjmpkafifaaGreat
open Go.RowKit

end Go.Proofs.YtippdjmpkafifaaGreat

/-
Routes: what the search for the best tour leaves in memory.
-/
namespace Go.Proofs.YtippdjmpkafifaaGreat
open Go.RowKit

/-- w' is w, but for the blocks mb, gb and gf, and for new ones. -/
structure But3 (w w' : World) (mb gb gf : Nat) : Prop where
  os : w'.os = w.os
  tape : w'.tape = w.tape
  output : w'.output = w.output
  size : w.heap.size ≤ w'.heap.size
  block : ∀ k, k < w.heap.size → k ≠ mb → k ≠ gb → k ≠ gf → w'.heap[k]? = w.heap[k]?
theorem But3.of {w w' : World} {mb gb gf : Nat} (h : w.grownBy w' (some mb)) : But3 w w' mb gb gf := ⟨h.os, h.tape, h.output, h.size, fun k hk hne _ _ => h.block k hk (fun e => hne (by injection e))⟩
theorem But3.refl (w : World) (mb gb gf : Nat) : But3 w w mb gb gf := ⟨rfl, rfl, rfl, Nat.le_refl _, fun _ _ _ _ _ => rfl⟩
theorem But3.trans {w w1 w2 : World} {mb gb gf : Nat} (h : But3 w w1 mb gb gf) (h2 : But3 w1 w2 mb gb gf) : But3 w w2 mb gb gf :=
  ⟨h2.os.trans h.os, h2.tape.trans h.tape, h2.output.trans h.output, Nat.le_trans h.size h2.size, fun k hk a b c => (h2.block k (Nat.lt_of_lt_of_le hk h.size) a b c).trans (h.block k hk a b c)⟩
theorem But3.below {w w1 w2 : World} {mb gb gf : Nat} (h : But3 w w1 mb gb gf) (h2 : Below w1.heap.size w1 w2) : But3 w w2 mb gb gf :=
  h.trans ⟨h2.os, h2.tape, h2.output, h2.size, fun k hk _ _ _ => h2.block k hk⟩
theorem But3.set {w w' : World} {mb gb gf g : Nat} (h : But3 w w' mb gb gf) (hg : g = gb ∨ g = gf) (i : Nat) (v : Value) : But3 w (w'.setCell ⟨g, i, none⟩ v) mb gb gf :=
  ⟨h.os, h.tape, h.output, by rw [World.size_setCell]; exact h.size, fun k hk a b c => (Below.heap_setCell w' _ _ k (by rcases hg with rfl | rfl <;> assumption)).trans (h.block k hk a b c)⟩

/-- The best tour so far, in two variables of the caller. -/
structure BestAt (w : World) (gb gf : Nat) (best : Option K.Tr) : Prop where
  found : w.heap[gf]? = some (.cells #[.bool best.isSome] 4 (0, 0))
  blk : ∃ A n c A' n' c' e, TBlk w gb 0 (.slice A n c) (.slice A' n' c') e ∧ ∀ b, best = some b → Ints w A n b.stops ∧ Ints w A' n' b.times ∧ e = b.end_ ∧ (∀ ad, A = some ad → gb < ad.block ∧ gf < ad.block) ∧ ∀ ad, A' = some ad → gb < ad.block ∧ gf < ad.block
theorem BestAt.ext {w w' : World} {gb gf : Nat} {best : Option K.Tr} (h : BestAt w gb gf best) (hx : Ext w w') : BestAt w' gb gf best := by
  obtain ⟨A, n, c, A', n', c', e, hT, hb⟩ := h.blk
  exact ⟨hx.cells _ _ _ _ h.found, A, n, c, A', n', c', e, hx.cells _ _ _ _ hT, fun b e => by
    obtain ⟨h1, h2, h3⟩ := hb b e
    exact ⟨h1.ext hx, h2.ext hx, h3⟩⟩
theorem BestAt.ne {w : World} {gb gf : Nat} {best : Option K.Tr} (h : BestAt w gb gf best) : gb ≠ gf := fun e => by
  obtain ⟨A, n, c, A', n', c', e', hT, -⟩ := h.blk
  have h1 := h.found
  rw [← e] at h1
  have h2 := hT.symm.trans h1
  injection h2 with h2
  injection h2 with h2
  simp at h2
end Go.Proofs.YtippdjmpkafifaaGreat

/-
Routes: words for the walk of planner.try.
-/
namespace Go.Proofs.YtippdjmpkafifaaGreat
open Go.RowKit

/-- What a call of the search leaves. -/
def Sought (w w' : World) (mb gb gf : Nat) (p : PS) (X : Nat → Prop) (best : Option K.Tr) (e : Ending) : Prop :=
  e = .returned (.tuple #[]) ∧ But3 w w' mb gb gf ∧ Memo w' mb p.x.nd p.x.l X ∧ BestAt w' gb gf best

/-- What stands in memory while the search goes on: a world from ahead of the search's own variables, the ways that are known, the best tour so far. -/
structure SAt (wp w : World) (mb gb gf : Nat) (p : PS) (X : Nat → Prop) (best : Option K.Tr) : Prop where
  ext : Ext wp w
  memo : Memo w mb p.x.nd p.x.l X
  best : BestAt w gb gf best
theorem SAt.pat {wp w : World} {b mb gb gf : Nat} {p : PS} {X : Nat → Prop} {best : Option K.Tr} (h : SAt wp w mb gb gf p X best) (hp : PAt wp b mb p X) : PAt w b mb p X := hp.keep h.ext h.memo
theorem SAt.below {wp w w' : World} {mb gb gf : Nat} {p : PS} {X : Nat → Prop} {best : Option K.Tr} (h : SAt wp w mb gb gf p X best) (hb : Below w.heap.size w w') : SAt wp w' mb gb gf p X best :=
  ⟨h.ext.trans (Ext.below hb), h.memo.below hb, h.best.ext (Ext.below hb)⟩
theorem SAt.went {wp w w' : World} {b mb gb gf : Nat} {p : PS} {X : Nat → Prop} {best : Option K.Tr} (h : SAt wp w mb gb gf p X best) (hp : PAt wp b mb p X) (hW : Went w w' b mb p X) : SAt wp w' mb gb gf p X best :=
  have hx := hW.ext (h.pat hp)
  ⟨h.ext.trans hx, hW.2.memo, h.best.ext hx⟩
theorem SAt.but {wp w w' : World} {b mb gb gf : Nat} {p : PS} {X : Nat → Prop} {best best' : Option K.Tr} (h : SAt wp w mb gb gf p X best) (hp : PAt wp b mb p X) (hgb : wp.heap.size ≤ gb) (hgf : wp.heap.size ≤ gf)
    (hB : But3 w w' mb gb gf) (hM : Memo w' mb p.x.nd p.x.l X) (hT : BestAt w' gb gf best') : SAt wp w' mb gb gf p X best' :=
  ⟨⟨Nat.le_trans h.ext.size hB.size, fun g cs t z e => by
    have h1 := h.ext.cells g cs t z e
    have h2 := (Array.getElem?_eq_some_iff.1 e).1
    refine (hB.block g (Array.getElem?_eq_some_iff.1 h1).1 (fun e2 => ?_) (by omega) (by omega)).trans h1
    obtain ⟨es, clock, hm, -⟩ := hp.memo
    rw [e2, hm] at e
    cases e⟩, hM, hT⟩

/-- A state of the search: its two lists in memory, its numbers in their bounds. -/
structure StAt (w : World) (p : PS) (gb gf : Nat) (st : K.St) (SA : Option Addr) (sn : Nat) (TA : Option Addr) (tn : Nat) : Prop where
  stops : Ints w SA sn st.stops
  times : Ints w TA tn st.times
  s1 : ∀ ad, SA = some ad → ad.block ≠ gb ∧ ad.block ≠ gf
  t1 : ∀ ad, TA = some ad → ad.block ≠ gb ∧ ad.block ≠ gf
  bits : st.bits < 2 ^ p.n
  len : st.stops.length ≤ st.bits
  len2 : st.times.length = st.stops.length
  a0 : 0 ≤ st.a ∧ st.a < p.x.nd
  t0 : 0 ≤ st.t ∧ st.t ≤ 1000000
theorem Ints.but {w w' : World} {mb gb gf : Nat} {nd : Int} {lr : List Ro} {X : Nat → Prop} {A : Option Addr} {n : Nat} {l : List Int} (h : Ints w A n l) (hM : Memo w mb nd lr X) (hB : But3 w w' mb gb gf) (hA : ∀ ad, A = some ad → ad.block ≠ gb ∧ ad.block ≠ gf) : Ints w' A n l :=
  ⟨h.1, h.2.1, fun hn => by
    obtain ⟨ad, e, hc⟩ := h.2.2 hn
    refine ⟨ad, e, fun j u hu => ?_⟩
    have h1 := hc j u hu
    have h2 := cell_lt h1
    rw [add_block] at h2
    refine (World.cell?_of_block (by
      rw [add_block]
      refine hB.block _ h2 (fun e2 => ?_) (hA ad e).1 (hA ad e).2
      obtain ⟨es, clock, hm, -⟩ := hM
      rw [← e2] at hm
      simp only [World.cell?, add_block, hm] at h1
      cases h1)).trans h1⟩
theorem StAt.but {w w' : World} {p : PS} {mb gb gf : Nat} {nd : Int} {lr : List Ro} {X : Nat → Prop} {st : K.St} {SA TA : Option Addr} {sn tn : Nat} (h : StAt w p gb gf st SA sn TA tn) (hM : Memo w mb nd lr X) (hB : But3 w w' mb gb gf) : StAt w' p gb gf st SA sn TA tn :=
  ⟨h.stops.but hM hB h.s1, h.times.but hM hB h.t1, h.s1, h.t1, h.bits, h.len, h.len2, h.a0, h.t0⟩
theorem StAt.ext {w w' : World} {p : PS} {gb gf : Nat} {st : K.St} {SA TA : Option Addr} {sn tn : Nat} (h : StAt w p gb gf st SA sn TA tn) (hB : Ext w w') : StAt w' p gb gf st SA sn TA tn :=
  ⟨h.stops.ext hB, h.times.ext hB, h.s1, h.t1, h.bits, h.len, h.len2, h.a0, h.t0⟩
/-- The state's block. -/
def StBlk (w : World) (H : Nat) (st : K.St) (SA : Option Addr) (sn sc : Nat) (TA : Option Addr) (tn tc : Nat) : Prop :=
  w.heap[H]? = some (.cells #[.int .i64 (st.bits : Int), .int .i64 st.a, .int .i64 st.t, .slice SA sn sc, .slice TA tn tc] 208 (0, 0))
theorem StBlk.cells {w : World} {H : Nat} {st : K.St} {SA TA : Option Addr} {sn sc tn tc : Nat} (h : StBlk w H st SA sn sc TA tn tc) :
    w.cell? ⟨H, 0, none⟩ = some (.int .i64 (st.bits : Int)) ∧ w.cell? ⟨H, 1, none⟩ = some (.int .i64 st.a) ∧ w.cell? ⟨H, 2, none⟩ = some (.int .i64 st.t) ∧ w.cell? ⟨H, 3, none⟩ = some (.slice SA sn sc) ∧ w.cell? ⟨H, 4, none⟩ = some (.slice TA tn tc) :=
  ⟨blk_cell h 0 _ rfl, blk_cell h 1 _ rfl, blk_cell h 2 _ rfl, blk_cell h 3 _ rfl, blk_cell h 4 _ rfl⟩

theorem blk_other {w : World} {g : Nat} {o : Obj} (h : w.heap[g]? = some o) {g' i : Nat} (v : Value) (hne : g ≠ g') : (w.setCell ⟨g', i, none⟩ v).heap[g]? = some o :=
  (Below.heap_setCell w _ v g hne).trans h

/-- A better tour is written down. -/
theorem SAt.stored {wp w : World} {b mb gb gf : Nat} {p : PS} {X : Nat → Prop} {best : Option K.Tr} (h : SAt wp w mb gb gf p X best) (hp : PAt wp b mb p X) (hgb : wp.heap.size ≤ gb) (hgf : wp.heap.size ≤ gf) (hXb : X gb) (hXf : X gf)
    (S T : List Int) (en : Int) {A A' : Option Addr} {n c n' c' : Nat} (hA : Ints w A n S) (hA' : Ints w A' n' T) (h1 : ∀ ad, A = some ad → gb < ad.block ∧ gf < ad.block) (h2 : ∀ ad, A' = some ad → gb < ad.block ∧ gf < ad.block) :
    But3 w (((((w.setCell ⟨gb, 0, none⟩ (.int .i64 0)).setCell ⟨gb, 1, none⟩ (.slice A n c)).setCell ⟨gb, 2, none⟩ (.slice A' n' c')).setCell ⟨gb, 3, none⟩ (.int .i64 en)).setCell ⟨gf, 0, none⟩ (.bool true)) mb gb gf ∧
    Memo (((((w.setCell ⟨gb, 0, none⟩ (.int .i64 0)).setCell ⟨gb, 1, none⟩ (.slice A n c)).setCell ⟨gb, 2, none⟩ (.slice A' n' c')).setCell ⟨gb, 3, none⟩ (.int .i64 en)).setCell ⟨gf, 0, none⟩ (.bool true)) mb p.x.nd p.x.l X ∧
    BestAt (((((w.setCell ⟨gb, 0, none⟩ (.int .i64 0)).setCell ⟨gb, 1, none⟩ (.slice A n c)).setCell ⟨gb, 2, none⟩ (.slice A' n' c')).setCell ⟨gb, 3, none⟩ (.int .i64 en)).setCell ⟨gf, 0, none⟩ (.bool true)) gb gf (some ⟨S, T, en⟩) := by
  have hmb := hp.memo.lt
  obtain ⟨A0, n0, c0, A1, n1, c1, e0, hT, -⟩ := h.best.blk
  have hne := h.best.ne
  refine ⟨((((((But3.refl w mb gb gf).set (.inl rfl) _ _).set (.inl rfl) _ _).set (.inl rfl) _ _).set (.inl rfl) _ _).set (.inr rfl) _ _),
    (((((h.memo.set hXb (by omega) _ _).set hXb (by omega) _ _).set hXb (by omega) _ _).set hXb (by omega) _ _).set hXf (by omega) _ _), ?_, A, n, c, A', n', c', en, ?_, ?_⟩
  · have hf : (((w.setCell ⟨gb, 0, none⟩ (.int .i64 0)).setCell ⟨gb, 1, none⟩ (.slice A n c)).setCell ⟨gb, 2, none⟩ (.slice A' n' c')).setCell ⟨gb, 3, none⟩ (.int .i64 en) |>.heap[gf]? = some (.cells #[.bool best.isSome] 4 (0, 0)) :=
      blk_other (blk_other (blk_other (blk_other h.best.found _ (Ne.symm hne)) _ (Ne.symm hne)) _ (Ne.symm hne)) _ (Ne.symm hne)
    exact blk_set hf 0 _
  · exact blk_other (blk_set (blk_set (blk_set (blk_set hT 0 _) 1 _) 2 _) 3 _) _ hne
  · rintro b ⟨⟩
    exact ⟨((((hA.set _ fun ad e => Nat.ne_of_gt (h1 ad e).1).set _ fun ad e => Nat.ne_of_gt (h1 ad e).1).set _ fun ad e => Nat.ne_of_gt (h1 ad e).1).set _ fun ad e => Nat.ne_of_gt (h1 ad e).1).set _ fun ad e => Nat.ne_of_gt (h1 ad e).2,
      ((((hA'.set _ fun ad e => Nat.ne_of_gt (h2 ad e).1).set _ fun ad e => Nat.ne_of_gt (h2 ad e).1).set _ fun ad e => Nat.ne_of_gt (h2 ad e).1).set _ fun ad e => Nat.ne_of_gt (h2 ad e).1).set _ fun ad e => Nat.ne_of_gt (h2 ad e).2, rfl, h1, h2⟩

/-- An append of one number, as a step of a region that draws. -/
theorem step_app_one {ops : Array Oper} {o : Oper} {a : Act} {w : World} {K : Act → World → Prop} {Q : Exit → Act → World → Prop} {E : Prop} (hgd : o.guard = none) (s x : Operand)
    (ho : o.op = .call { callee := .builtin .append, args := #[s, x], argTypes := #[48, 48] })
    (base : Nat) (v : Value) (n : Nat) (l : List Int) (hs : a.eval s = v) (hown : w.ownsRow base 3 1 v n (intCells l)) (g : Nat) (p : Int) (hx : a.eval x = .slice (some ⟨g, 0, none⟩) 1 1)
    (hg : w.heap[g]? = some (.cells #[.int .i64 p] 3 (0, 0))) (hn : n ≤ 1000000) (hbase : base ≤ w.heap.size)
    (h : ∀ A c w', Ints w' A (n + 1) (l ++ [p]) → (∀ ad, A = some ad → base ≤ ad.block) → w.grownBy w' v.ownBlock → Below base w w' → K (a.put o.dst (.slice A (n + 1) c)) w') :
    if Region.wanted o (yielded ops a.tmps) = true then Oper.wp Tryz.prog o a w K Q else E := by
  obtain ⟨i0, hi, hz0, hz1, hz2⟩ := info_parts Tryz.info3
  have hl : n = l.length := by
    have := hown.1
    simpa [intCells] using this.symm
  refine step_append_rd hgd s x 48 ho base 3 i0 (.int .i64 0) 1 8 Tryz.underlying48 hi hz0 hz1 hz2 rfl (by decide) v n (intCells l) hs hown (some ⟨g, 0, none⟩) 1 1 [.int .i64 p] hx ⟨rfl, fun _ => ⟨_, rfl, fun j u hu => by rw [add_zero_block]; exact blk_cell hg j u (by simpa using hu)⟩⟩ (fun u hu => by simp at hu; subst hu; rfl) (by simp only [maxLen]; omega) (by omega) hbase ?_
  intro v' w' h2 h3 h4
  obtain ⟨A, c, rfl, hR, hlt⟩ := own_form h2
  refine h A c w' ⟨by rw [List.length_append, ← hl]; rfl, by rw [intCells_app]; exact hR⟩ (fun ad e => ?_) h3 ((Below.refl base w).grown h3 hbase (fun k e => (hown.lt k e).1))
  subst e
  obtain ⟨ad0, e0, hc⟩ := hR.2 (by omega)
  injection e0 with e0
  subst e0
  rcases h2.2 with ⟨e, -⟩ | ⟨g', cap, cur, e, hb, -⟩
  · cases e
  · injection e with e
    injection e with e
    subst e
    exact hb

theorem ownsRow_below {w w' : World} {base : Nat} {e : TypeId} {size n : Nat} {v : Value} {xs : List Value} (h : w.ownsRow base e size v n xs) (hb : Below w.heap.size w w') : w'.ownsRow base e size v n xs := by
  obtain ⟨hl, h1 | ⟨g, cap, cur, h1, h2, h3, h4⟩⟩ := h
  · exact ⟨hl, .inl h1⟩
  · exact ⟨hl, .inr ⟨g, cap, cur, h1, h2, blk_below hb h3, h4⟩⟩

/-- The same, for a row that was made in an earlier world. -/
theorem step_app_two {ops : Array Oper} {o : Oper} {a : Act} {w w2 : World} {K : Act → World → Prop} {Q : Exit → Act → World → Prop} {E : Prop} (hgd : o.guard = none) (s x : Operand)
    (ho : o.op = .call { callee := .builtin .append, args := #[s, x], argTypes := #[48, 48] })
    {base : Nat} {v : Value} {n : Nat} {l : List Int} (hown : w2.ownsRow base 3 1 v n (intCells l)) (hbase : base ≤ w2.heap.size) (hs : a.eval s = v) (g : Nat) (p : Int) (hx : a.eval x = .slice (some ⟨g, 0, none⟩) 1 1)
    (hw : Below w2.heap.size w2 w) (hg : w.heap[g]? = some (.cells #[.int .i64 p] 3 (0, 0))) (hn : n ≤ 1000000)
    (h : ∀ A c w', Ints w' A (n + 1) (l ++ [p]) → (∀ ad, A = some ad → base ≤ ad.block) → w.grownBy w' v.ownBlock → Below base w w' → K (a.put o.dst (.slice A (n + 1) c)) w') :
    if Region.wanted o (yielded ops a.tmps) = true then Oper.wp Tryz.prog o a w K Q else E :=
  step_app_one hgd s x ho base v n l hs (ownsRow_below hown hw) g p hx hg hn (Nat.le_trans hbase hw.size) h

theorem bits_next_all : ∀ n : Fin 7, ∀ m : Fin 64, ∀ k : Fin 6, m.val < 2 ^ n.val → k.val < n.val → m.val.testBit k.val = false → m.val + 2 ^ k.val < 2 ^ n.val := by decide +kernel
/-- One more element of a part. -/
theorem bits_next {m i n : Nat} (hn : n ≤ 6) (hm : m < 2 ^ n) (hi : i < n) (hb : m.testBit i = false) : m + 2 ^ i < 2 ^ n :=
  bits_next_all ⟨n, by omega⟩ ⟨m, Nat.lt_of_lt_of_le hm (Nat.pow_le_pow_right (by omega) hn)⟩ ⟨i, by omega⟩ hm hi hb

theorem below_at {w W w' : World} (hb : Below w.heap.size w W) (_ : Below W.heap.size W w') : w.heap.size ≤ W.heap.size := hb.size
theorem lit_at {W w' : World} {g : Nat} {o : Obj} (_ : Below W.heap.size W w') (h : W.heap[g]? = some o) : W.heap[g]? = some o := h
theorem drew_fact {w : World} {g : Nat} {o : Obj} (h : w.heap[g]? = some o) : w.drew.heap[g]? = some o := h
theorem ints_at {W w' : World} {A : Option Addr} {n : Nat} {l : List Int} (_ : Below W.heap.size W w') (h : Ints W A n l) : ∀ w'', Below W.heap.size W w'' → Ints w'' A n l := fun _ hb => h.below hb

namespace K
theorem go_none {rec : St → Option Tr → Option Tr} {nd : Int} {l : List Ro} {s : S} {r : List Q} {v : List Int} {st : St} {best : Option Tr} {k : Nat} {i : Int} (h : v[k]? = some i) (ho : onward nd l s r v st k i = none) :
    seek.go rec nd l s r v st best k (v.drop k) = seek.go rec nd l s r v st best (k + 1) (v.drop (k + 1)) := by
  rw [drop_of_some h, seek.go, ho]
theorem go_some {rec : St → Option Tr → Option Tr} {nd : Int} {l : List Ro} {s : S} {r : List Q} {v : List Int} {st st' : St} {best : Option Tr} {k : Nat} {i : Int} (h : v[k]? = some i) (ho : onward nd l s r v st k i = some st') :
    seek.go rec nd l s r v st best k (v.drop k) = seek.go rec nd l s r v st (rec st' best) (k + 1) (v.drop (k + 1)) := by
  rw [drop_of_some h, seek.go, ho]
end K
end Go.Proofs.YtippdjmpkafifaaGreat

/-
Routes: the walk of planner.try.
-/
namespace Go.Proofs.YtippdjmpkafifaaGreat
open Go.RowKit

set_option maxRecDepth 100000 in
set_option maxHeartbeats 64000000 in
theorem try_any (b mb gb gf : Nat) (p : PS) {X : Nat → Prop} (wp : World) (hpp : PAt wp b mb p X) (hgb : wp.heap.size ≤ gb) (hgf : wp.heap.size ≤ gf) (hXb : X gb) (hXf : X gf) : ∀ (f : Nat) (st : K.St) (best : Option K.Tr) (SA : Option Addr) (sn sc : Nat) (TA : Option Addr) (tn tc : Nat) (w : World), SAt wp w mb gb gf p X best → (∀ g, X g → g < w.heap.size) →
    StAt w p gb gf st SA sn TA tn → 2 ^ p.n ≤ st.bits + f →
    Calls Tryz.prog 173 #[.pointer (some ⟨b, 0, none⟩), .agg #[.int .i64 (st.bits : Int), .int .i64 st.a, .int .i64 st.t, .slice SA sn sc, .slice TA tn tc], .pointer (some ⟨gb, 0, none⟩), .pointer (some ⟨gf, 0, none⟩)] w
      fun e w' => Sought w w' mb gb gf p X (K.seek p.x.nd p.x.l p.x.s p.x.r p.l f st best) e := by
  intro f
  induction f with
  | zero => intro st best SA sn sc TA tn tc w hW hX hS hf; exact absurd hS.bits (by omega)
  | succ f ih =>
    intro st best SA sn sc TA tn tc w hW hX hS hf
    have IH := Lib.hid ih
    clear ih
    have hp := hW.pat hpp
    have hHm : w.heap.size ≠ mb := fun e => by have h1 := hpp.memo.lt; have h2 := hW.ext.size; omega
    have hHb : w.heap.size ≠ gb := fun e => by have := hX gb hXb; omega
    have hHf : w.heap.size ≠ gf := fun e => by have := hX gf hXf; omega
    obtain ⟨w1, hw1⟩ : ∃ w1, w1 = w.alloc (.cells #[.int .i64 (st.bits : Int), .int .i64 st.a, .int .i64 st.t, .slice SA sn sc, .slice TA tn tc] 208) := ⟨_, rfl⟩
    have b1 : Below w.heap.size w w1 := by rw [hw1]; exact (Below.refl _ _).alloc (Nat.le_refl _) _
    have hG : StBlk w1 w.heap.size st SA sn sc TA tn tc := by rw [hw1]; exact heap_alloc_new _ _
    have hW1 := hW.below b1
    obtain ⟨A0, n0, c0, A1, n1, c1, e0, hT, hTb⟩ := hW1.best.blk
    obtain ⟨g0, g1, g2, g3, g4⟩ := hG.cells
    have f0 := blk_cell hW1.best.found 0 (.bool best.isSome) rfl
    have u3 := hT.cells.2.2.2
    cases hl : K.late best st.t
    rotate_left
    · have HX := Lib.hid (show K.seek p.x.nd p.x.l p.x.s p.x.r p.l (f + 1) st best = best by rw [K.seek, if_pos hl])
      obtain ⟨bt, hbt, hle⟩ : ∃ bt, best = some bt ∧ bt.end_ ≤ st.t := by
        cases best with
        | none => simp [K.late] at hl
        | some bt => exact ⟨bt, rfl, by simpa [K.late] using hl⟩
      have he0 : e0 = bt.end_ := (hTb bt hbt).2.2.1
      have q1 : decide (e0 ≤ st.t) = true := by simp; omega
      have q2 : best.isSome = true := by rw [hbt]; rfl
      have hq : e0 ≤ st.t := by omega
      rw [q2] at f0
      clear hl hbt hTb he0
      rw [hw1] at g0 g1 g2 g3 g4 f0 u3
      go_enter Tryz.func173, Tryz.ntmps173
      go_wp2_with fail
      rw [← hw1] at g0 g1 g2 g3 g4 f0 u3 ⊢
      have F0 := Beh.cell f0
      have G2 := Beh.cell g2
      have U3 := Beh.cell u3
      refine reg_beh (by kernel_rfl) (by kernel_rfl) ?_
      repeat (go_big_quiet_step (fail))
      refine wpQuiet_nil ?_
      rintro w5 ⟨⟨_, b45⟩, rfl⟩
      have b5 := bel b1 b45
      have hfin : Sought w w5 mb gb gf p X best (.returned (.tuple #[])) := ⟨rfl, (But3.refl w _ _ _).below b5, hW.memo.below b5, hW.best.ext (Ext.below b5)⟩
      go_wp2_with fail
      first | refine bodyPost_ret (results_none rfl _ _ _) rfl ?_ | refine bodyPost_end (results_none rfl _ _ _) rfl ?_
      rw [HX.out]
      exact hfin
    · rw [hw1] at g0 g1 g2 g3 g4 f0 u3
      go_enter Tryz.func173, Tryz.ntmps173
      go_wp2_with fail
      rw [← hw1] at g0 g1 g2 g3 g4 f0 u3 ⊢
      go_cut [27] from 16 to 27 (fun v27 wc => v27 = .bool false ∧ Below w1.heap.size w1 wc)
      case first =>
        have F0 := Beh.cell f0
        have G2 := Beh.cell g2
        have U3 := Beh.cell u3
        obtain ⟨z, hz⟩ : ∃ z, z = best.isSome := ⟨_, rfl⟩
        have hzq : z = true → decide (e0 ≤ st.t) = false := fun h => by
          cases best with
          | none => rw [h] at hz; cases hz
          | some bt =>
            have h1 := (hTb bt rfl).2.2.1
            have h2 : decide (bt.end_ ≤ st.t) = false := hl
            rw [h1]; exact h2
        rw [← hz] at F0
        clear hz f0 g2 u3 hl hTb
        cases z
        · clear hzq
          refine reg_beh (by kernel_rfl) (by kernel_rfl) ?_
          repeat (go_big_quiet_step (fail))
          refine wpQuiet_nil ?_
          rintro w5 ⟨⟨_, b45⟩, rfl⟩
          go_wp2_with fail
          go_meet
          case rel => exact ⟨rfl, b45⟩
        · have hq := hzq rfl
          clear hzq
          refine reg_beh (by kernel_rfl) (by kernel_rfl) ?_
          repeat (go_big_quiet_step (fail))
          refine wpQuiet_nil ?_
          rintro w5 ⟨⟨_, b45⟩, rfl⟩
          go_wp2_with fail
          go_meet
          case rel => exact ⟨rfl, b45⟩
      case rest =>
        obtain ⟨rfl, hbc⟩ := hcut
        clear g0 g1 g2 g3 g4 f0 u3 hw1
        have hb := bel b1 hbc
        have hG := StBlk.cells (blk_below hbc hG : StBlk wc w.heap.size st SA sn sc TA tn tc)
        have hGc : StBlk wc w.heap.size st SA sn sc TA tn tc := blk_below hbc (by assumption)
        have hWc := hW.below hb
        have hpc := hWc.pat hpp
        have HL := Lib.hid hl
        have hn6 : p.n ≤ 6 := by have := (K.ok31_parts hp.ok).2.2.2.2.1; have := hp.set.1; omega
        obtain ⟨N, hN⟩ : ∃ N, N = 2 ^ p.n := ⟨_, rfl⟩
        have hN1 : 1 ≤ N := by rw [hN]; exact Nat.two_pow_pos _
        have hN64 : N ≤ 64 := by rw [hN]; exact Nat.pow_le_pow_right (by omega) hn6
        have hw1 : IntKind.i64.wrap ((2 : Int) ^ p.n) = (N : Int) := by rw [wrap_pow (by omega), hN]; simp
        have hw2 : wrap64 ((2 : Int) ^ p.n) = (N : Int) := by rw [← IntWalk.i64_left]; exact hw1
        have HN := Lib.hid hN
        have hbits : st.bits < N := by rw [hN]; exact hS.bits
        have hf : N ≤ st.bits + (f + 1) := by rw [hN]; exact hf
        have hslen := hS.len
        have hsl : sn ≤ 64 := by rw [hS.stops.1]; omega
        have htl : tn ≤ 64 := by rw [hS.times.1, hS.len2]; omega
        clear hslen
        obtain ⟨hst0, hst1⟩ := hS.t0
        clear hN hl hTb hT hW1 hbc
        obtain ⟨al, hal⟩ : ∃ al, al = N - 1 := ⟨_, rfl⟩
        have hw3 : IntKind.i64.wrap ((N : Int) - 1) = (al : Int) := by rw [IntWalk.i64_in _ (by omega)]; omega
        have hw4 : wrap64 ((N : Int) - 1) = (al : Int) := by rw [← IntWalk.i64_left]; exact hw3
        have HAL := Lib.hid hal
        clear hal
        have G0 := Beh.cell hGc.cells.1
        have G9 := Beh.cell hpc.blk.cells.2.2.2.2.2.2.2.2.2.1
        obtain ⟨z, hz⟩ : ∃ z : Bool, ((st.bits : Int) == (al : Int)) = z := ⟨_, rfl⟩
        go_wp2_with fail
        refine reg_beh (by kernel_rfl) (by kernel_rfl) ?_
        repeat (go_big_quiet_step (fail))
        refine wpQuiet_nil ?_
        rintro w5 ⟨⟨_, b45⟩, rfl⟩
        have HZ := Lib.hid hz
        have hb := bel hb b45
        have hGc : StBlk w5 w.heap.size st SA sn sc TA tn tc := blk_below b45 hGc
        have hWc := hWc.below b45
        have hpc := hpc.below b45
        have hX5 : ∀ g, X g → g < w5.heap.size := fun g hg => Nat.lt_of_lt_of_le (hX g hg) hb.size
        have hwt : (Lit.int .i64 (T.weight p.x.s p.x.r (K.part p.l st.bits))).wf = true := T.weight_wf (by have := K.part_len p.l st.bits; have := (K.ok31_parts hp.ok).2.2.2.2.1; omega)
        have hB5 := (But3.refl w mb gb gf).below hb
        have hS5 := hS.ext (Ext.below hb)
        clear hz G0 G9 b45 hG hb hp hW
        cases z
        · have HS := Lib.hid (show K.seek p.x.nd p.x.l p.x.s p.x.r p.l (f + 1) st best = K.seek.go (K.seek p.x.nd p.x.l p.x.s p.x.r p.l f) p.x.nd p.x.l p.x.s p.x.r p.l st best 0 p.l by
            rw [K.seek, if_neg (by rw [HL.out]; simp), if_neg (by have h1 : ¬ (st.bits : Int) = (al : Int) := (by simpa using HZ.out); rw [← hpc.set.1, ← HN.out, ← HAL.out]; omega)])
          have c9 := hpc.blk.cells.2.2.2.2.2.2.2.2.2.1
          clear HZ HL hw1 hw2 hw3 hw4
          go_wp2_with fail
          go_loopw [102] (fun v102 wr => ∃ (k : Nat) (bk : Option K.Tr), v102 = .int .i64 k ∧ k ≤ p.n ∧ SAt wp wr mb gb gf p X bk ∧ But3 w wr mb gb gf ∧ StBlk wr w.heap.size st SA sn sc TA tn tc ∧ StAt wr p gb gf st SA sn TA tn ∧
            Hid (K.seek p.x.nd p.x.l p.x.s p.x.r p.l (f + 1) st best = K.seek.go (K.seek p.x.nd p.x.l p.x.s p.x.r p.l f) p.x.nd p.x.l p.x.s p.x.r p.l st bk k (p.l.drop k))) (fun v102 _ => p.n - (intOf v102).toNat)
          case atStart => exact ⟨0, best, rfl, by omega, hWc, hB5, hGc, hS5, HS⟩
          case round =>
            clear c9 HS hWc hB5 hGc hS5 hpc hX5
            obtain ⟨k, bk, rfl, hk, hWr, hBr, hGr, hSr, hgo⟩ := hrel
            have hXr : ∀ g, X g → g < wr.heap.size := fun g hg => Nat.lt_of_lt_of_le (hX g hg) hBr.size
            have hpr := hWr.pat hpp
            by_cases hlt : k < p.n
            · obtain ⟨j, q, hel, hno, hse, -⟩ := hpr.elem hlt
              obtain ⟨ads, ad, hA, hB, -, y0, e0, e1, e2, e3, -⟩ := hel.cells hpr
              have k0 : (0 : Int) ≤ (k : Int) := by omega
              have k1 : (k : Int) < (p.n : Int) := by omega
              have hpw := Nat.two_pow_pos k
              obtain ⟨l0, l1, l2, l3, l4⟩ := hGr.cells
              have HA := Lib.hid hA
              have HB := Lib.hid hB
              rw [hA]
              clear hA hB e0 e1 e2 e3
              cases hbit : st.bits.testBit k
              rotate_left
              · have hb1 : bits BinOp.and IntKind.i64 ((st.bits : Int) / 2 ^ k) 1 = 1 := by rw [bit_at (by omega) (by omega), hbit]; rfl
                have HG := Lib.hid (hgo.out.trans (K.go_none hel.set (by unfold K.onward; rw [if_pos hbit])))
                clear hbit
                go_wp2_with fail
                go_roundw
                case rel => exact ⟨k + 1, bk, by go_num, by omega, hWr, hBr, hGr, hSr, HG⟩
                case measure => simp [intOf]; omega
              · have hb1 : bits BinOp.and IntKind.i64 ((st.bits : Int) / 2 ^ k) 1 = 0 := by rw [bit_at (by omega) (by omega), hbit]; rfl
                have HBIT := Lib.hid hbit
                clear hbit
                obtain ⟨dn, hdn⟩ : ∃ dn : Nat, q.node = (dn : Int) := ⟨q.node.toNat, by omega⟩
                have HDN := Lib.hid hdn
                clear hdn
                have hWd := hWr.below (w' := wr.drew) (Below.refl _ _).drew
                have hpd := hWd.pat hpp
                have CN := node_any b mb p k j q wr.drew hpd hel
                have hS3 : ∀ w', Ext wr w' → (w'.cell? ⟨w.heap.size, 0, none⟩ = some (.int .i64 (st.bits : Int)) ∧ w'.cell? ⟨w.heap.size, 1, none⟩ = some (.int .i64 st.a)) := fun w' h => ⟨h.cell hGr.cells.1, h.cell hGr.cells.2.1⟩
                have S0 := hS3 wr (Ext.refl _)
                have S0d := hS3 wr.drew (Ext.below (Below.refl wr.heap.size wr).drew)
                have hwt2 := hwt
                have ha0 := hS.a0
                have hbd : Below wr.heap.size wr wr.drew := (Below.refl _ _).drew
                clear l1 l2 l3 l4
                go_wp2_with fail
                go_region_held3 (fun w' => (w'.cell? ⟨w.heap.size, 0, none⟩ = some (.int .i64 (st.bits : Int)) ∧ w'.cell? ⟨w.heap.size, 1, none⟩ = some (.int .i64 st.a)))
                  (first | assumption | exact S0 | exact S0d)
                  (first
                    | (go_at_call 142; refine CN.mono ?_; rintro e w6 ⟨rfl, b6⟩; have hb6 := bel hbd b6; have hW6 := hWr.below hb6; have S6 := hS3 w6 (Ext.below hb6))
                    | (go_at_call 141; refine (wayd_any b mb p st.a dn st.bits w6 (hW6.pat hpp) (fun g hg => Nat.lt_of_lt_of_le (hXr g hg) hb6.size) (by omega) ha0 HDN.out hno.2 hwt).mono ?_; rintro e w7 ⟨rfl, hWe⟩; have hx7 := (Ext.below hb6).trans (hWe.ext (hW6.pat hpp)); have S7 := hS3 w7 hx7)
                    | fail)
                have hW7 := hW6.went hpp hWe
                have hB7 := (hBr.below hb6).trans (But3.of hWe.1)
                have hG7 : StBlk w7 w.heap.size st SA sn sc TA tn tc := hx7.cells _ _ _ _ hGr
                have hS7 := hSr.ext hx7
                have hX7 : ∀ g, X g → g < w7.heap.size := fun g hg => Nat.lt_of_lt_of_le (hX g hg) hB7.size
                obtain ⟨hy0, hy1⟩ := K.way_bd p.x.nd p.x.l st.a (T.weight p.x.s p.x.r (K.part p.l st.bits)) q.node
                obtain ⟨y, hy⟩ : ∃ y, y = K.way p.x.nd p.x.l st.a (T.weight p.x.s p.x.r (K.part p.l st.bits)) q.node := ⟨_, rfl⟩
                have hon : K.onward p.x.nd p.x.l p.x.s p.x.r p.l st k (j : Int) = (if y = -1 then none else if (K.begins p.x.s p.x.r q (K.part p.l (st.bits + 2 ^ k)) (st.t + y)).2 = false then none
                    else some ⟨st.bits + 2 ^ k, q.node, (K.begins p.x.s p.x.r q (K.part p.l (st.bits + 2 ^ k)) (st.t + y)).1 + q.service, st.stops ++ [(j : Int)], st.times ++ [(K.begins p.x.s p.x.r q (K.part p.l (st.bits + 2 ^ k)) (st.t + y)).1]⟩) := by
                  unfold K.onward
                  rw [K.req_get hel.req, if_neg (by rw [HBIT.out]; simp), ← hy]
                rw [← hy] at hy0 hy1 ⊢
                have HON := Lib.hid hon
                clear hy hon CN S0 S0d S6 S7 hS3 hW6 hb6 b6 hx7 hWd hpd hbd hWe hwt2 hb1 l0 hWr hBr hGr hSr hXr hpr
                cases q0 : (y != -1)
                · have HG := Lib.hid (hgo.out.trans (K.go_none hel.set (by rw [HON.out, if_pos (by simpa using q0)])))
                  clear q0
                  go_wp2_with fail
                  go_roundw
                  case rel => exact ⟨k + 1, bk, by go_num, by omega, hW7, hB7, hG7, hS7, HG⟩
                  case measure => simp [intOf]; omega
                · have hyn : ¬ y = -1 := by simpa using q0
                  have hwr : IntKind.i64.wrap (st.t + y) = st.t + y := IntWalk.i64_in _ (by omega)
                  have hlt2 : st.bits + 2 ^ k < N := by rw [HN.out]; exact bits_next hn6 (by rw [← HN.out]; exact hbits) hlt HBIT.out
                  obtain ⟨l0, l1, l2, l3, l4⟩ := hG7.cells
                  have CB := pbegins_any b mb p st.bits k j q (st.t + y) w7 (hW7.pat hpp) hel (by omega) HBIT.out (by omega) hse
                  unfold Beg at CB
                  have hok := K.begins_ok (s := p.x.s) (r := p.x.r) (q := q) (all := K.part p.l (st.bits + 2 ^ k)) (arr := st.t + y)
                  obtain ⟨B, hBE⟩ : ∃ B, B = K.begins p.x.s p.x.r q (K.part p.l (st.bits + 2 ^ k)) (st.t + y) := ⟨_, rfl⟩
                  rw [← hBE] at CB hok
                  have HON2 := Lib.hid (show K.onward p.x.nd p.x.l p.x.s p.x.r p.l st k (j : Int) = (if B.2 = false then none else some ⟨st.bits + 2 ^ k, q.node, B.1 + q.service, st.stops ++ [(j : Int)], st.times ++ [B.1]⟩) by rw [HON.out, if_neg hyn, ← hBE])
                  have HOK := Lib.hid hok
                  obtain ⟨t, ok⟩ := B
                  clear hBE hok HON q0
                  simp only at CB
                  go_wp2_with fail
                  refine CB.mono ?_
                  rintro e w8 ⟨rfl, b8⟩
                  have hW8 := hW7.below b8
                  have hB8 := hB7.below b8
                  have hG8 : StBlk w8 w.heap.size st SA sn sc TA tn tc := blk_below b8 hG7
                  have hS8 := hS7.ext (Ext.below b8)
                  have hX8 : ∀ g, X g → g < w8.heap.size := fun g hg => Nat.lt_of_lt_of_le (hX g hg) hB8.size
                  clear l0 l1 l2 l3 l4 CB hW7 hB7 hG7 hS7 hX7 b8
                  cases ok
                  · have HG := Lib.hid (hgo.out.trans (K.go_none hel.set (by rw [HON2.out]; rfl)))
                    go_wp2_with fail
                    go_roundw
                    case rel => exact ⟨k + 1, bk, by go_num, by omega, hW8, hB8, hG8, hS8, HG⟩
                    case measure => simp [intOf]; omega
                  · obtain ⟨-, -, -, t0, t1, t2, t3⟩ := HOK.out rfl
                    obtain ⟨mm, hmm⟩ : ∃ mm, mm = st.bits + 2 ^ k := ⟨_, rfl⟩
                    have hor : bits BinOp.or IntKind.i64 (st.bits : Int) (IntKind.i64.wrap (2 ^ k)) = (mm : Int) := by rw [wrap_pow (by omega), bit_or (by omega) (by omega) HBIT.out, hmm]
                    have hor' : bits BinOp.or IntKind.i64 (st.bits : Int) (wrap64 (2 ^ k)) = (mm : Int) := by rw [← IntWalk.i64_left]; exact hor
                    have hwr2 : IntKind.i64.wrap (t + q.service) = t + q.service := IntWalk.i64_in _ (by omega)
                    obtain ⟨best', hbest'⟩ : ∃ best', best' = K.seek p.x.nd p.x.l p.x.s p.x.r p.l f ⟨mm, q.node, t + q.service, st.stops ++ [(j : Int)], st.times ++ [t]⟩ bk := ⟨_, rfl⟩
                    have HG := Lib.hid (show K.seek p.x.nd p.x.l p.x.s p.x.r p.l (f + 1) st best = K.seek.go (K.seek p.x.nd p.x.l p.x.s p.x.r p.l f) p.x.nd p.x.l p.x.s p.x.r p.l st best' (k + 1) (p.l.drop (k + 1)) by
                      rw [hgo.out, K.go_some hel.set HON2.out, hbest', hmm])
                    have CT : ∀ (A3 : Option Addr) (c3 : Nat) (A5 : Option Addr) (c5 : Nat) (w5 : World), Below w8.heap.size w8 w5 → Ints w5 A3 (sn + 1) (st.stops ++ [(j : Int)]) → Ints w5 A5 (tn + 1) (st.times ++ [t]) → (∀ ad, A3 = some ad → w8.heap.size ≤ ad.block) → (∀ ad, A5 = some ad → w8.heap.size ≤ ad.block) →
                        Calls Tryz.prog 173 #[.pointer (some ⟨b, 0, none⟩), .agg #[.int .i64 (mm : Int), .int .i64 q.node, .int .i64 (t + q.service), .slice A3 (sn + 1) c3, .slice A5 (tn + 1) c5], .pointer (some ⟨gb, 0, none⟩), .pointer (some ⟨gf, 0, none⟩)] w5
                          fun e w' => Sought w5 w' mb gb gf p X best' e := fun A3 c3 A5 c5 w5 h1 h2 h3 h4 h5 => by
                      rw [hbest']
                      have hgbl := hX8 gb hXb
                      have hgfl := hX8 gf hXf
                      refine IH.out ⟨mm, q.node, t + q.service, st.stops ++ [(j : Int)], st.times ++ [t]⟩ bk A3 (sn + 1) c3 A5 (tn + 1) c5 w5 (hW8.below h1) (fun g hg => Nat.lt_of_lt_of_le (hX8 g hg) h1.size) ⟨h2, h3, fun ad e => by have := h4 ad e; omega, fun ad e => by have := h5 ad e; omega, by show mm < 2 ^ p.n; rw [← HN.out]; omega, ?_, ?_, hno, ⟨by show 0 ≤ t + q.service; omega, by show t + q.service ≤ 1000000; omega⟩⟩ (by show 2 ^ p.n ≤ mm + f; rw [← HN.out]; omega)
                      · have := hS.len
                        simp only [List.length_append, List.length_cons, List.length_nil]
                        omega
                      · have := hS.len2
                        simp only [List.length_append, List.length_cons, List.length_nil]
                        omega
                    have hAl : ∀ w' o', Below w8.heap.size w8 w' → Below w8.heap.size w8 (w'.alloc o') := fun w' o' h => bel h ((Below.refl _ _).alloc (Nat.le_refl _) _)
                    have hbd : Below w8.heap.size w8 w8.drew := (Below.refl _ _).drew
                    have hmk0 : ∀ (w' : World) (bk' : Option K.Tr), SAt wp w' mb gb gf p X bk' → StBlk w' w.heap.size st SA sn sc TA tn tc → (fun (w' : World) => w'.cell? ⟨w.heap.size, 0, none⟩ = some (.int .i64 (st.bits : Int)) ∧ w'.cell? ⟨w.heap.size, 3, none⟩ = some (.slice SA sn sc) ∧ w'.cell? ⟨w.heap.size, 4, none⟩ = some (.slice TA tn tc) ∧ w'.cell? ⟨b, 8, none⟩ = some (.slice (some ad) p.x.m p.x.d) ∧ w'.cell? ⟨(ad.add (j * 7)).block, (ad.add (j * 7)).off + 3, none⟩ = some (.int .i64 q.service)) w' := fun w' bk' h1 h2 => by
                      obtain ⟨ads', ad', -, hB', -, -, -, -, -, e3, -⟩ := hel.cells (h1.pat hpp)
                      rw [HB.out] at hB'
                      injection hB' with hB'
                      subst hB'
                      have d8 := (h1.pat hpp).blk.cells.2.2.2.2.2.2.2.2.1
                      rw [HB.out] at d8
                      exact ⟨h2.cells.1, h2.cells.2.2.2.1, h2.cells.2.2.2.2, d8, e3⟩
                    have hmk : ∀ w', Below w8.heap.size w8 w' → (fun (w' : World) => w'.cell? ⟨w.heap.size, 0, none⟩ = some (.int .i64 (st.bits : Int)) ∧ w'.cell? ⟨w.heap.size, 3, none⟩ = some (.slice SA sn sc) ∧ w'.cell? ⟨w.heap.size, 4, none⟩ = some (.slice TA tn tc) ∧ w'.cell? ⟨b, 8, none⟩ = some (.slice (some ad) p.x.m p.x.d) ∧ w'.cell? ⟨(ad.add (j * 7)).block, (ad.add (j * 7)).off + 3, none⟩ = some (.int .i64 q.service)) w' := fun w' h => hmk0 w' bk (hW8.below h) (blk_below h hG8)
                    have hSo : ∀ w' w'', Below w8.heap.size w8 w' → But3 w' w'' mb gb gf → Memo w'' mb p.x.nd p.x.l X → BestAt w'' gb gf best' → SAt wp w'' mb gb gf p X best' ∧ But3 w w'' mb gb gf ∧ StBlk w'' w.heap.size st SA sn sc TA tn tc ∧ StAt w'' p gb gf st SA sn TA tn := fun w' w'' h h1 h2 h3 =>
                      ⟨(hW8.below h).but hpp hgb hgf h1 h2 h3, (hB8.below h).trans h1, (h1.block _ (lt_of_block (blk_below h hG8)) hHm hHb hHf).trans (blk_below h hG8), (hS8.ext (Ext.below h)).but (hW8.below h).memo h1⟩
                    have hmk2 : ∀ w' w'', Below w8.heap.size w8 w' → But3 w' w'' mb gb gf → Memo w'' mb p.x.nd p.x.l X → BestAt w'' gb gf best' → (fun (w' : World) => w'.cell? ⟨w.heap.size, 0, none⟩ = some (.int .i64 (st.bits : Int)) ∧ w'.cell? ⟨w.heap.size, 3, none⟩ = some (.slice SA sn sc) ∧ w'.cell? ⟨w.heap.size, 4, none⟩ = some (.slice TA tn tc) ∧ w'.cell? ⟨b, 8, none⟩ = some (.slice (some ad) p.x.m p.x.d) ∧ w'.cell? ⟨(ad.add (j * 7)).block, (ad.add (j * 7)).off + 3, none⟩ = some (.int .i64 q.service)) w'' := fun w' w'' h h1 h2 h3 => hmk0 w'' best' (hSo w' w'' h h1 h2 h3).1 (hSo w' w'' h h1 h2 h3).2.2.1
                    have hSa : ∀ (w' : World) (o' : Obj), (fun (w' : World) => w'.cell? ⟨w.heap.size, 0, none⟩ = some (.int .i64 (st.bits : Int)) ∧ w'.cell? ⟨w.heap.size, 3, none⟩ = some (.slice SA sn sc) ∧ w'.cell? ⟨w.heap.size, 4, none⟩ = some (.slice TA tn tc) ∧ w'.cell? ⟨b, 8, none⟩ = some (.slice (some ad) p.x.m p.x.d) ∧ w'.cell? ⟨(ad.add (j * 7)).block, (ad.add (j * 7)).off + 3, none⟩ = some (.int .i64 q.service)) w' → (fun (w' : World) => w'.cell? ⟨w.heap.size, 0, none⟩ = some (.int .i64 (st.bits : Int)) ∧ w'.cell? ⟨w.heap.size, 3, none⟩ = some (.slice SA sn sc) ∧ w'.cell? ⟨w.heap.size, 4, none⟩ = some (.slice TA tn tc) ∧ w'.cell? ⟨b, 8, none⟩ = some (.slice (some ad) p.x.m p.x.d) ∧ w'.cell? ⟨(ad.add (j * 7)).block, (ad.add (j * 7)).off + 3, none⟩ = some (.int .i64 q.service)) (w'.alloc o') := fun w' o' h => by
                      have hx : Ext w' (w'.alloc o') := Ext.below ((Below.refl _ _).alloc (Nat.le_refl _) _)
                      exact ⟨hx.cell h.1, hx.cell h.2.1, hx.cell h.2.2.1, hx.cell h.2.2.2.1, hx.cell h.2.2.2.2⟩
                    have hSd : ∀ (w' : World), (fun (w' : World) => w'.cell? ⟨w.heap.size, 0, none⟩ = some (.int .i64 (st.bits : Int)) ∧ w'.cell? ⟨w.heap.size, 3, none⟩ = some (.slice SA sn sc) ∧ w'.cell? ⟨w.heap.size, 4, none⟩ = some (.slice TA tn tc) ∧ w'.cell? ⟨b, 8, none⟩ = some (.slice (some ad) p.x.m p.x.d) ∧ w'.cell? ⟨(ad.add (j * 7)).block, (ad.add (j * 7)).off + 3, none⟩ = some (.int .i64 q.service)) w' → (fun (w' : World) => w'.cell? ⟨w.heap.size, 0, none⟩ = some (.int .i64 (st.bits : Int)) ∧ w'.cell? ⟨w.heap.size, 3, none⟩ = some (.slice SA sn sc) ∧ w'.cell? ⟨w.heap.size, 4, none⟩ = some (.slice TA tn tc) ∧ w'.cell? ⟨b, 8, none⟩ = some (.slice (some ad) p.x.m p.x.d) ∧ w'.cell? ⟨(ad.add (j * 7)).block, (ad.add (j * 7)).off + 3, none⟩ = some (.int .i64 q.service)) w'.drew := fun w' h => h
                    have hb0 : Below w8.heap.size w8 w8 := Below.refl _ _
                    have hDr : ∀ w', Below w8.heap.size w8 w' → Below w8.heap.size w8 w'.drew := fun w' h => h.drew
                    have S0 := hmk _ (Below.refl _ _)
                    have S0d := hmk _ hbd
                    have k2 : (0 : Int) ≤ (j : Int) := by omega
                    have k3 : (j : Int) < (p.x.m : Int) := by have := (hel.lt (hW8.pat hpp)).2; omega
                    have hsn6 : sn ≤ 1000000 := by omega
                    have htn6 : tn ≤ 1000000 := by omega
                    clear hmm hbest' IH hgo HON2 HOK HA hno hse hwt hwr
                    go_wp2_with fail
                    go_region_held3 (fun (w' : World) => w'.cell? ⟨w.heap.size, 0, none⟩ = some (.int .i64 (st.bits : Int)) ∧ w'.cell? ⟨w.heap.size, 3, none⟩ = some (.slice SA sn sc) ∧ w'.cell? ⟨w.heap.size, 4, none⟩ = some (.slice TA tn tc) ∧ w'.cell? ⟨b, 8, none⟩ = some (.slice (some ad) p.x.m p.x.d) ∧ w'.cell? ⟨(ad.add (j * 7)).block, (ad.add (j * 7)).off + 3, none⟩ = some (.int .i64 q.service))
                      (first | with_reducible exact S6 | with_reducible exact S5 | with_reducible exact S4 | with_reducible exact S3 | with_reducible exact S2 | with_reducible exact S1 | with_reducible exact S0d | with_reducible exact S0 | with_reducible exact hSd _ (hSa _ _ S0) | with_reducible exact hSd _ (hSa _ _ (hSa _ _ S0)) | with_reducible exact hSa _ _ S1 | with_reducible exact hSa _ _ (hSa _ _ S1) | with_reducible exact hSa _ _ S2 | with_reducible exact hSa _ _ (hSa _ _ S2) | with_reducible exact hSa _ _ S3 | with_reducible exact hSa _ _ S4 | fail)
                      (first
                        | (go_at_call 142; refine (node_any b mb p k j q _ ((hW8.below ?_).pat hpp) hel).mono ?_; (first | with_reducible exact hbd | with_reducible exact hDr _ (hAl _ _ hb0) | with_reducible exact hDr _ (hAl _ _ (hAl _ _ hb0))); rintro e w1 ⟨rfl, hbn1⟩; have hb1 : Below w8.heap.size w8 w1 := bel (by (first | with_reducible exact hbd | with_reducible exact hDr _ (hAl _ _ hb0) | with_reducible exact hDr _ (hAl _ _ (hAl _ _ hb0)))) hbn1; have S1 := hmk _ hb1; (first | (with_reducible (have hL1 := blk_below hbn1 (drew_fact (heap_alloc_at _ (.cells #[.int .i64 (j : Int)] 3) _ (World.size_alloc _ _).symm)))) | (with_reducible (have hL1 := blk_below hbn1 (drew_fact (heap_alloc_new _ (.cells #[.int .i64 (j : Int)] 3))))) | (with_reducible (have hL1 := blk_below hbn1 (drew_fact (blk_alloc (heap_alloc_new _ (.cells #[.int .i64 (j : Int)] 3)) (.cells #[.int .i64 t] 3))))) | skip); (first | (with_reducible (have hL2 := blk_below hbn1 (drew_fact (heap_alloc_at _ (.cells #[.int .i64 t] 3) _ (World.size_alloc _ _).symm)))) | (with_reducible (have hL2 := blk_below hbn1 (drew_fact (heap_alloc_new _ (.cells #[.int .i64 t] 3))))) | (with_reducible (have hL2 := blk_below hbn1 (drew_fact (blk_alloc (heap_alloc_new _ (.cells #[.int .i64 t] 3)) (.cells #[.int .i64 (j : Int)] 3))))) | skip))
                        | (go_at_call_of 109 SA; refine (clone_own SA sn sc st.stops _ (hS8.stops.below ?_) hsn6).mono ?_; (first | with_reducible exact hb1 | with_reducible exact hAl _ _ hb1 | with_reducible exact hAl _ _ (hAl _ _ hb1)); rintro e w2 ⟨⟨v2, rfl, hown2⟩, hbn2⟩; have hb2 : Below w8.heap.size w8 w2 := bel (by (first | with_reducible exact hb1 | with_reducible exact hAl _ _ hb1 | with_reducible exact hAl _ _ (hAl _ _ hb1))) hbn2; have hs2 := below_at (w := w8) (by (first | with_reducible exact hb1 | with_reducible exact hAl _ _ hb1 | with_reducible exact hAl _ _ (hAl _ _ hb1))) hbn2; have S2 := hmk _ hb2; have hC2 := hown2.lt; (first | (with_reducible (have hLW := lit_at hbn2 hL2; have hL2 := blk_below hbn2 hLW)) | (with_reducible (have hLW := lit_at hbn2 (blk_alloc hL2 _); have hL2 := blk_below hbn2 hLW)) | (with_reducible (have hLW := lit_at hbn2 (heap_alloc_at _ (.cells #[.int .i64 t] 3) _ (World.size_alloc _ _).symm); have hL2 := blk_below hbn2 hLW)) | (with_reducible (have hLW := lit_at hbn2 (heap_alloc_new _ (.cells #[.int .i64 t] 3)); have hL2 := blk_below hbn2 hLW)) | (with_reducible (have hLW := lit_at hbn2 (blk_alloc (heap_alloc_new _ (.cells #[.int .i64 t] 3)) (.cells #[.int .i64 (j : Int)] 3)); have hL2 := blk_below hbn2 hLW)) | skip); (first | (with_reducible (have hL1 := blk_below hbn2 hL1)) | (with_reducible (have hL1 := blk_below hbn2 (blk_alloc hL1 _))) | (with_reducible (have hL1 := blk_below hbn2 (heap_alloc_at _ (.cells #[.int .i64 (j : Int)] 3) _ (World.size_alloc _ _).symm))) | (with_reducible (have hL1 := blk_below hbn2 (heap_alloc_new _ (.cells #[.int .i64 (j : Int)] 3)))) | (with_reducible (have hL1 := blk_below hbn2 (blk_alloc (heap_alloc_new _ (.cells #[.int .i64 (j : Int)] 3)) (.cells #[.int .i64 t] 3)))) | skip))
                        | (have hown9 := hown2; clear hown2; refine step_app_two rfl (.tmp 161) (.tmp 163) rfl hown9 hbn2.size rfl _ (j : Int) rfl ?_ ?_ hsn6 ?_; (first | with_reducible exact Below.refl _ _ | with_reducible exact ((Below.refl _ _).alloc (Nat.le_refl _) _) | with_reducible exact bel ((Below.refl _ _).alloc (Nat.le_refl _) _) ((Below.refl _ _).alloc (Nat.le_refl _) _)); (first | with_reducible exact hL1 | with_reducible exact (blk_alloc hL1 _) | with_reducible exact (heap_alloc_at _ (.cells #[.int .i64 (j : Int)] 3) _ (World.size_alloc _ _).symm) | with_reducible exact (heap_alloc_new _ (.cells #[.int .i64 (j : Int)] 3)) | with_reducible exact (blk_alloc (heap_alloc_new _ (.cells #[.int .i64 (j : Int)] 3)) (.cells #[.int .i64 t] 3))); intro A3 c3 w3 hI3 hA3 hgr3 hbb3; have hb3 : Below w8.heap.size w8 w3 := Below.trans (by (first | with_reducible exact hb2 | with_reducible exact hAl _ _ hb2 | with_reducible exact hAl _ _ (hAl _ _ hb2))) (hbb3.mono hs2); have S3 := hmk _ hb3; (first | (with_reducible (have hL2 := (hbb3.block _ (lt_of_block hLW)).trans hL2)) | (with_reducible (have hL2 := (hbb3.block _ (lt_of_block hLW)).trans (blk_alloc hL2 _))) | (have hL2 := grow_blk hgr3 (heap_alloc_at _ (.cells #[.int .i64 t] 3) _ (World.size_alloc _ _).symm) (fun e => by have h9 := (hC2 _ e.symm).2; first | omega | (simp only [World.size_alloc] at h9; omega))) | (have hL2 := grow_blk hgr3 (heap_alloc_new _ (.cells #[.int .i64 t] 3)) (fun e => by have h9 := (hC2 _ e.symm).2; first | omega | (simp only [World.size_alloc] at h9; omega))) | (have hL2 := grow_blk hgr3 (blk_alloc (heap_alloc_new _ (.cells #[.int .i64 t] 3)) (.cells #[.int .i64 (j : Int)] 3)) (fun e => by have h9 := (hC2 _ e.symm).2; first | omega | (simp only [World.size_alloc] at h9; omega))) | skip))
                        | (go_at_call_of 109 TA; refine (clone_own TA tn tc st.times _ (hS8.times.below ?_) htn6).mono ?_; (first | with_reducible exact hb3 | with_reducible exact hAl _ _ hb3 | with_reducible exact hAl _ _ (hAl _ _ hb3)); rintro e w4 ⟨⟨v4, rfl, hown4⟩, hbn4⟩; have hb4 : Below w8.heap.size w8 w4 := bel (by (first | with_reducible exact hb3 | with_reducible exact hAl _ _ hb3 | with_reducible exact hAl _ _ (hAl _ _ hb3))) hbn4; have hs4 := below_at (w := w8) (by (first | with_reducible exact hb3 | with_reducible exact hAl _ _ hb3 | with_reducible exact hAl _ _ (hAl _ _ hb3))) hbn4; have S4 := hmk _ hb4; have hI4 := ints_at hbn4 (by (first | with_reducible exact hI3 | with_reducible exact hI3.below ((Below.refl _ _).alloc (Nat.le_refl _) _))); (first | (with_reducible (have hL2 := blk_below hbn4 hL2)) | (with_reducible (have hL2 := blk_below hbn4 (blk_alloc hL2 _))) | (with_reducible (have hL2 := blk_below hbn4 (heap_alloc_at _ (.cells #[.int .i64 t] 3) _ (World.size_alloc _ _).symm))) | (with_reducible (have hL2 := blk_below hbn4 (heap_alloc_new _ (.cells #[.int .i64 t] 3)))) | (with_reducible (have hL2 := blk_below hbn4 (blk_alloc (heap_alloc_new _ (.cells #[.int .i64 t] 3)) (.cells #[.int .i64 (j : Int)] 3)))) | skip))
                        | (have hown9 := hown4; clear hown4; refine step_app_two rfl (.tmp 167) (.tmp 169) rfl hown9 hbn4.size rfl _ t rfl ?_ ?_ htn6 ?_; (first | with_reducible exact Below.refl _ _ | with_reducible exact ((Below.refl _ _).alloc (Nat.le_refl _) _) | with_reducible exact bel ((Below.refl _ _).alloc (Nat.le_refl _) _) ((Below.refl _ _).alloc (Nat.le_refl _) _)); (first | with_reducible exact hL2 | with_reducible exact (blk_alloc hL2 _) | with_reducible exact (heap_alloc_at _ (.cells #[.int .i64 t] 3) _ (World.size_alloc _ _).symm) | with_reducible exact (heap_alloc_new _ (.cells #[.int .i64 t] 3)) | with_reducible exact (blk_alloc (heap_alloc_new _ (.cells #[.int .i64 t] 3)) (.cells #[.int .i64 (j : Int)] 3))); intro A5 c5 w5 hI5 hA5 hgr5 hbb5; have hb5 : Below w8.heap.size w8 w5 := Below.trans (by (first | with_reducible exact hb4 | with_reducible exact hAl _ _ hb4 | with_reducible exact hAl _ _ (hAl _ _ hb4))) (hbb5.mono hs4); have S5 := hmk _ hb5; have hI6 := hI4 _ (Below.trans (by (first | with_reducible exact hbn4 | with_reducible exact bel hbn4 ((Below.refl _ _).alloc (Nat.le_refl _) _))) hbb5))
                        | (go_at_call 173; refine (CT A3 c3 A5 c5 w5 hb5 hI6 hI5 (fun ad e => Nat.le_trans hs2 (hA3 ad e)) (fun ad e => Nat.le_trans hs4 (hA5 ad e))).mono ?_; rintro e w6 ⟨rfl, hB6, hM6, hT6⟩; have hb5k := hb5; have S6 := hmk2 _ _ hb5 hB6 hM6 hT6)
                        | fail)
                    all_goals (
                      obtain ⟨hW9, hB9, hG9, hS9⟩ := hSo _ _ hb5 hB6 hM6 hT6
                      clear S0 S0d hSa hSd hDr hb0 hmk hmk0 hmk2 hSo hAl CT
                      go_wp2_with fail
                      go_roundw
                      case rel => exact ⟨k + 1, best', by go_num, by omega, hW9, hB9, hG9, hS9, HG⟩
                      case measure => simp [intOf]; omega)
            · have HF := Lib.hid (show K.seek p.x.nd p.x.l p.x.s p.x.r p.l (f + 1) st best = bk by
                rw [hgo.out, List.drop_of_length_le (by rw [← hpr.set.1]; omega)]; rfl)
              go_wp2_with fail
              first | refine bodyPost_ret (results_none rfl _ _ _) rfl ?_ | refine bodyPost_end (results_none rfl _ _ _) rfl ?_
              rw [HF.out]
              exact ⟨rfl, hBr, hWr.memo, hWr.best⟩
        · obtain ⟨dn, hdn⟩ : ∃ dn : Nat, p.x.s.depot = (dn : Int) := ⟨p.x.s.depot.toNat, by have := (K.check_parts (K.ok31_parts hpc.ok).2.1).2.1; omega⟩
          have HDN := Lib.hid hdn
          clear hdn
          have hdp := (K.ok31_parts hpc.ok).2.2.1
          have hS3 : ∀ w', Ext w5 w' → (w'.cell? ⟨w.heap.size, 0, none⟩ = some (.int .i64 (st.bits : Int)) ∧ w'.cell? ⟨w.heap.size, 1, none⟩ = some (.int .i64 st.a) ∧ w'.cell? ⟨b, 3, none⟩ = some (.int .i64 p.x.s.depot)) := fun w' h => ⟨h.cell hGc.cells.1, h.cell hGc.cells.2.1, h.cell hpc.blk.cells.2.2.2.1⟩
          have S0 := hS3 w5 (Ext.refl _)
          have S0d := hS3 w5.drew (Ext.below (Below.refl w5.heap.size w5).drew)
          have hWd := hWc.below (w' := w5.drew) (Below.refl _ _).drew
          have hpd := hWd.pat hpp
          have CW := wayd_any b mb p st.a dn st.bits w5.drew hpd hX5 (by omega) hS.a0 HDN.out hdp hwt
          go_wp2_with fail
          go_region_held3 (fun w' => (w'.cell? ⟨w.heap.size, 0, none⟩ = some (.int .i64 (st.bits : Int)) ∧ w'.cell? ⟨w.heap.size, 1, none⟩ = some (.int .i64 st.a) ∧ w'.cell? ⟨b, 3, none⟩ = some (.int .i64 p.x.s.depot)))
            (first | assumption | exact S0 | exact S0d)
            (first
              | (go_at_call 141; refine CW.mono ?_; rintro e w6 ⟨rfl, hW⟩; have hx6 := (Ext.below (w' := w5.drew) (Below.refl w5.heap.size w5).drew).trans (hW.ext hpd); have S6 := hS3 _ hx6)
              | fail)
          obtain ⟨hy0, hy1⟩ := K.way_bd p.x.nd p.x.l st.a (T.weight p.x.s p.x.r (K.part p.l st.bits)) p.x.s.depot
          have HS := Lib.hid (show K.seek p.x.nd p.x.l p.x.s p.x.r p.l (f + 1) st best = K.home p.x.nd p.x.l p.x.s p.x.r p.l st best by
            rw [K.seek, if_neg (by rw [HL.out]; simp), if_pos (by have h1 : (st.bits : Int) = (al : Int) := (by simpa using HZ.out); rw [← hpc.set.1, ← HN.out, ← HAL.out]; omega)])
          obtain ⟨y, hy⟩ : ∃ y, y = K.way p.x.nd p.x.l st.a (T.weight p.x.s p.x.r (K.part p.l st.bits)) p.x.s.depot := ⟨_, rfl⟩
          have HH := Lib.hid (show K.home p.x.nd p.x.l p.x.s p.x.r p.l st best = if y ≠ -1 ∧ st.t + y ≤ p.x.s.end_ ∧ K.better best (st.t + y) = true then some ⟨st.stops, st.times, st.t + y⟩ else best by unfold K.home; rw [← hy])
          rw [← hy] at hy0 hy1 ⊢
          have hW6 := hWd.went hpp hW
          have hB6 : But3 w w6 mb gb gf := (hB5.below (Below.refl _ _).drew).trans (But3.of hW.1)
          have hG6 : StBlk w6 w.heap.size st SA sn sc TA tn tc := hx6.cells _ _ _ _ hGc
          have hS6 := hS5.ext hx6
          have hX6 : ∀ g, X g → g < w6.heap.size := fun g hg => Nat.lt_of_lt_of_le (hX g hg) hB6.size
          clear hy CW S0 S0d S6 hS3 hx6 hW hWd hpd hGc hWc hpc hX5 hB5 hS5 HDN hdp hwt HZ HL hw1 hw2 hw3 hw4
          have hp6 := hW6.pat hpp
          obtain ⟨A0, n0, c0, A1, n1, c1, e0, hT, hTb⟩ := hW6.best.blk
          obtain ⟨hm, hhm⟩ : ∃ hm : Bool, hm = decide (y ≠ -1 ∧ st.t + y ≤ p.x.s.end_ ∧ K.better best (st.t + y) = true) := ⟨_, rfl⟩
          have hwr : IntKind.i64.wrap (st.t + y) = st.t + y := IntWalk.i64_in _ (by omega)
          obtain ⟨z8, hz8⟩ : ∃ z8, (y != -1) = z8 := ⟨_, rfl⟩
          rw [hz8]
          go_wp2_with fail
          go_cut [81] from 52 to 81 (fun v81 wc => v81 = .bool hm ∧ Below w6.heap.size w6 wc)
          case first =>
            have F0 := Beh.cell (blk_cell hW6.best.found 0 (.bool best.isSome) rfl)
            have G2 := Beh.cell hG6.cells.2.2.1
            have U3 := Beh.cell hT.cells.2.2.2
            have P5 := Beh.cell hp6.blk.cells.2.2.2.2.2.1
            cases z8
            · have hy : y = -1 := by simpa using hz8
              clear hy0 hy1 hz8
              refine reg_beh (by kernel_rfl) (by kernel_rfl) ?_
              repeat (go_big_quiet_step (fail))
              refine wpQuiet_nil ?_
              rintro w5 ⟨⟨_, b45⟩, rfl⟩
              go_wp2_with fail
              go_meet
              case rel => exact ⟨by rw [hhm]; simp [hy], b45⟩
            cases q1 : decide (st.t + y ≤ p.x.s.end_)
            · have hq1 : ¬ st.t + y ≤ p.x.s.end_ := of_decide_eq_false q1
              refine reg_beh (by kernel_rfl) (by kernel_rfl) ?_
              repeat (go_big_quiet_step (fail))
              refine wpQuiet_nil ?_
              rintro w5 ⟨⟨_, b45⟩, rfl⟩
              go_wp2_with fail
              go_meet
              case rel => exact ⟨by rw [hhm]; simp; omega, b45⟩
            have hq0 : y ≠ -1 := by simpa using hz8
            clear hz8
            have hq1 : st.t + y ≤ p.x.s.end_ := of_decide_eq_true q1
            obtain ⟨z, hz⟩ : ∃ z, z = best.isSome := ⟨_, rfl⟩
            rw [← hz] at F0
            cases z
            · have hbn : K.better best (st.t + y) = true := by
                cases best with
                | none => rfl
                | some bt => cases hz
              clear hz
              refine reg_beh (by kernel_rfl) (by kernel_rfl) ?_
              repeat (go_big_quiet_step (fail))
              refine wpQuiet_nil ?_
              rintro w5 ⟨⟨_, b45⟩, rfl⟩
              go_wp2_with fail
              go_meet
              case rel => exact ⟨by rw [hhm]; simp [hq0, hq1, hbn], b45⟩
            · have hbn : K.better best (st.t + y) = decide (st.t + y < e0) := by
                cases best with
                | none => cases hz
                | some bt => rw [(hTb bt rfl).2.2.1]; rfl
              obtain ⟨q3, hq3⟩ : ∃ q3, q3 = decide (st.t + y < e0) := ⟨_, rfl⟩
              rw [← hq3] at hbn
              clear hz
              have hq3' := hq3.symm
              clear hq3
              refine reg_beh (by kernel_rfl) (by kernel_rfl) ?_
              repeat (go_big_quiet_step (fail))
              refine wpQuiet_nil ?_
              rintro w5 ⟨⟨_, b45⟩, rfl⟩
              go_wp2_with fail
              go_meet
              case rel => exact ⟨by rw [hhm]; simp [hq0, hq1, hbn], b45⟩
          case rest =>
            obtain ⟨rfl, hbc⟩ := hcut
            have hW7 := hW6.below hbc
            have hB7 := hB6.below hbc
            have hG7 : StBlk wc w.heap.size st SA sn sc TA tn tc := blk_below hbc hG6
            have hS7 := hS6.ext (Ext.below hbc)
            have hX7 : ∀ g, X g → g < wc.heap.size := fun g hg => Nat.lt_of_lt_of_le (hX g hg) hB7.size
            have HHM := Lib.hid hhm
            clear hT hTb hhm hp6 hX6 hS6 hG6 hB6 hW6 hbc hz8
            cases hm
            · have HF := Lib.hid (show K.seek p.x.nd p.x.l p.x.s p.x.r p.l (f + 1) st best = best by rw [HS.out, HH.out, if_neg (of_decide_eq_false HHM.out.symm)])
              go_wp2_with fail
              first | refine bodyPost_ret (results_none rfl _ _ _) rfl ?_ | refine bodyPost_end (results_none rfl _ _ _) rfl ?_
              rw [HF.out]
              exact ⟨rfl, hB7, hW7.memo, hW7.best⟩
            · have HF := Lib.hid (show K.seek p.x.nd p.x.l p.x.s p.x.r p.l (f + 1) st best = some ⟨st.stops, st.times, st.t + y⟩ by rw [HS.out, HH.out, if_pos (of_decide_eq_true HHM.out.symm)])
              have hHb : gb ≠ w.heap.size := fun e => by have := hX gb hXb; omega
              have hHf : gf ≠ w.heap.size := fun e => by have := hX gf hXf; omega
              have hne := hW7.best.ne
              have hne1 : (gb = gf) = False := eq_false hne
              have hne2 : (gf = gb) = False := eq_false (Ne.symm hne)
              have hmk : ∀ w', StBlk w' w.heap.size st SA sn sc TA tn tc → (fun w' => w'.cell? ⟨w.heap.size, 2, none⟩ = some (.int .i64 st.t) ∧ w'.cell? ⟨w.heap.size, 3, none⟩ = some (.slice SA sn sc) ∧ w'.cell? ⟨w.heap.size, 4, none⟩ = some (.slice TA tn tc)) w' := fun w' h => ⟨h.cells.2.2.1, h.cells.2.2.2.1, h.cells.2.2.2.2⟩
              have hbd : Below wc.heap.size wc wc.drew := (Below.refl _ _).drew
              have S0 := hmk _ hG7
              have S0d := hmk _ (blk_below hbd hG7)
              have hId := hS7.stops.below hbd
              have hJd := hS7.times.below hbd
              have hSs : ∀ (w' : World) (g i : Nat) (v : Value), g ≠ w.heap.size → (fun w' => w'.cell? ⟨w.heap.size, 2, none⟩ = some (.int .i64 st.t) ∧ w'.cell? ⟨w.heap.size, 3, none⟩ = some (.slice SA sn sc) ∧ w'.cell? ⟨w.heap.size, 4, none⟩ = some (.slice TA tn tc)) w' → (fun w' => w'.cell? ⟨w.heap.size, 2, none⟩ = some (.int .i64 st.t) ∧ w'.cell? ⟨w.heap.size, 3, none⟩ = some (.slice SA sn sc) ∧ w'.cell? ⟨w.heap.size, 4, none⟩ = some (.slice TA tn tc)) (w'.setCell ⟨g, i, none⟩ v) := fun w' g i v hg h => by
                refine ⟨?_, ?_, ?_⟩
                · exact (World.cell?_of_block (Below.heap_setCell w' _ v _ (Ne.symm hg))).trans h.1
                · exact (World.cell?_of_block (Below.heap_setCell w' _ v _ (Ne.symm hg))).trans h.2.1
                · exact (World.cell?_of_block (Below.heap_setCell w' _ v _ (Ne.symm hg))).trans h.2.2
              go_wp2_with fail
              go_region_held3 (fun w' => w'.cell? ⟨w.heap.size, 2, none⟩ = some (.int .i64 st.t) ∧ w'.cell? ⟨w.heap.size, 3, none⟩ = some (.slice SA sn sc) ∧ w'.cell? ⟨w.heap.size, 4, none⟩ = some (.slice TA tn tc))
                (first | with_reducible exact S9f | with_reducible exact S9g | with_reducible exact S9 | with_reducible exact S8 | with_reducible exact S0d | with_reducible exact S0 | fail)
                (first
                  | (go_at_call_of 109 SA; refine (clone_own SA sn sc st.stops _ hId (by omega)).mono ?_; rintro e w8 ⟨⟨v8, rfl, hown8⟩, hb8⟩; have hb8' := bel hbd hb8; have S8 := hmk _ (blk_below hb8' hG7); have hJ8 := hJd.below hb8; obtain ⟨A8, c8, rfl, hR8, hlt8⟩ := own_form hown8)
                  | (go_at_call_of 109 TA; refine (clone_own TA tn tc st.times _ hJ8 (by omega)).mono ?_; rintro e w9 ⟨⟨v9, rfl, hown9⟩, hb9⟩; have hb9' := bel hb8' hb9; have S9 := hmk _ (blk_below hb9' hG7); obtain ⟨A9, c9, rfl, hR9, hlt9⟩ := own_form hown9; have S9g := hSs _ gb 3 (.int .i64 (st.t + y)) hHb (hSs _ gb 2 (.slice A9 tn c9) hHb (hSs _ gb 1 (.slice A8 sn c8) hHb (hSs _ gb 0 (.int .i64 0) hHb S9))); have S9f := hSs _ gf 0 (.bool true) hHf S9g; have hW9 := hW7.below hb9'; obtain ⟨B0, m0, d0, B1, m1, d1, e1, hT9, -⟩ := hW9.best.blk; obtain ⟨u0, u1, u2, u3⟩ := hT9.cells; have uf := blk_free hT9; have f0 := blk_cell hW9.best.found 0 (.bool best.isSome) rfl; have ff := blk_free hW9.best.found)
                  | fail)
              have hX7b := hX7 gb hXb
              have hX7f := hX7 gf hXf
              have hs8 : ∀ ad, A8 = some ad → gb < ad.block ∧ gf < ad.block := fun ad e => by
                have h1 := hlt8 ad.block (by rw [e]; rfl)
                have h4 := hbd.size
                omega
              have hs9 : ∀ ad, A9 = some ad → gb < ad.block ∧ gf < ad.block := fun ad e => by
                have h1 := hlt9 ad.block (by rw [e]; rfl)
                have h4 := hb8'.size
                omega
              obtain ⟨hB9, hM9, hT9⟩ := hW9.stored hpp hgb hgf hXb hXf st.stops st.times (st.t + y) (c := c8) (c' := c9) ⟨hS7.stops.1, hR8.below hb9⟩ ⟨hS7.times.1, hR9⟩ hs8 hs9
              have hfin : Sought w _ mb gb gf p X (some ⟨st.stops, st.times, st.t + y⟩) (.returned (.tuple #[])) := ⟨rfl, (hB7.below hb9').trans hB9, hM9, hT9⟩
              clear hSs S0 S0d S8 S9 S9f S9g u0 u1 u2 u3 f0
              go_wp2_with fail
              first | refine bodyPost_ret (results_none rfl _ _ _) rfl ?_ | refine bodyPost_end (results_none rfl _ _ _) rfl ?_
              rw [HF.out]
              exact hfin
end Go.Proofs.YtippdjmpkafifaaGreat

/-
Routes: the contract of route.Best.
-/
namespace Go.Proofs.YtippdjmpkafifaaGreat
open Go.RowKit

namespace K
/-- What route.Best hands back: a tour, and an error. -/
def bestOut (nd : Int) (l : List Ro) (s : S) (r : List Q) (v : List Int) : Tr × Int :=
  if ok31 nd l s r v = true then (match best nd l s r v with | some t => (t, 0) | none => (Tr.zero, 4)) else (Tr.zero, 1)
theorem bestOut_no {nd : Int} {l : List Ro} {s : S} {r : List Q} {v : List Int} (h : ok31 nd l s r v = false) : bestOut nd l s r v = (Tr.zero, 1) := by unfold bestOut; rw [h]; rfl
theorem bestOut_none {nd : Int} {l : List Ro} {s : S} {r : List Q} {v : List Int} (h : ok31 nd l s r v = true) (h2 : best nd l s r v = none) : bestOut nd l s r v = (Tr.zero, 4) := by unfold bestOut; rw [if_pos h, h2]
theorem bestOut_some {nd : Int} {l : List Ro} {s : S} {r : List Q} {v : List Int} {t : Tr} (h : ok31 nd l s r v = true) (h2 : best nd l s r v = some t) : bestOut nd l s r v = (t, 0) := by unfold bestOut; rw [if_pos h, h2]
end K

/-- A tour and an error are handed back. -/
def RetBest (w w' : World) (y : K.Tr × Int) (e : Ending) : Prop :=
  (∃ A n c A' n' c', e = .returned (.tuple #[.agg #[.int .i64 0, .slice A n c, .slice A' n' c', .int .i64 y.1.end_], .int .i64 y.2]) ∧ Ints w' A n y.1.stops ∧ Ints w' A' n' y.1.times ∧ (∀ ad, A = some ad → w.heap.size ≤ ad.block) ∧ ∀ ad, A' = some ad → w.heap.size ≤ ad.block) ∧ Below w.heap.size w w'
theorem retBest_zero {w w' : World} {er : Int} {y : K.Tr × Int} (h : y = (K.Tr.zero, er)) (hb : Below w.heap.size w w') : RetBest w w' y (.returned (.tuple #[.agg #[.int .i64 0, .slice none 0 0, .slice none 0 0, .int .i64 0], .int .i64 er])) := by
  subst h
  exact ⟨⟨none, 0, 0, none, 0, 0, rfl, ints_nil _, ints_nil _, fun ad e => (nomatch e), fun ad e => (nomatch e)⟩, hb⟩

theorem But3.below_of {w w1 w2 : World} {mb gb gf : Nat} (h : Below w.heap.size w w1) (h2 : But3 w1 w2 mb gb gf) (h3 : w.heap.size ≤ mb) (h4 : w.heap.size ≤ gb) (h5 : w.heap.size ≤ gf) : Below w.heap.size w w2 :=
  ⟨h2.os.trans h.os, h2.tape.trans h.tape, h2.output.trans h.output, Nat.le_trans h.size h2.size, fun k hk => (h2.block k (Nat.lt_of_lt_of_le hk h.size) (by omega) (by omega) (by omega)).trans (h.block k hk)⟩

set_option maxRecDepth 100000 in
set_option maxHeartbeats 16000000 in
theorem best_any (x : C) (V : Option Addr) (vn vc : Nat) (v : List Int) (w : World) (hx : At w x) (hV : Ints w V vn v) (hvc : vn ≤ vc) (hvn : vn ≤ 1000000000) :
    Calls Tryz.prog 125 #[.agg #[.int .i64 x.nd, .slice x.A x.n x.c], .agg #[.int .i64 x.s.day, .int .i64 x.s.depot, .int .i64 x.s.start, .int .i64 x.s.end_, .int .i64 x.s.tare, .slice x.s.A x.s.n x.s.c], .slice x.B x.m x.d, .slice V vn vc] w fun e w' => RetBest w w' (K.bestOut x.nd x.l x.s x.r v) e := by
  obtain ⟨w0, hw0⟩ : ∃ w0 : World, w0 = ((w.alloc (.cells #[.int .i64 x.nd, .slice x.A x.n x.c] 24)).alloc (.cells #[.int .i64 x.s.day, .int .i64 x.s.depot, .int .i64 x.s.start, .int .i64 x.s.end_, .int .i64 x.s.tare, .slice x.s.A x.s.n x.s.c] 63)).alloc (.cells #[.int .i64 0, .slice none 0 0, .slice none 0 0, .int .i64 0] 80) := ⟨_, rfl⟩
  have b0 : Below w.heap.size w w0 := by rw [hw0]; exact bel (bel ((Below.refl _ _).alloc (Nat.le_refl _) _) ((Below.refl _ _).alloc (Nat.le_refl _) _)) ((Below.refl _ _).alloc (Nat.le_refl _) _)
  have z1 := World.size_alloc w (.cells #[.int .i64 x.nd, .slice x.A x.n x.c] 24)
  have z2 := World.size_alloc (w.alloc (.cells #[.int .i64 x.nd, .slice x.A x.n x.c] 24)) (.cells #[.int .i64 x.s.day, .int .i64 x.s.depot, .int .i64 x.s.start, .int .i64 x.s.end_, .int .i64 x.s.tare, .slice x.s.A x.s.n x.s.c] 63)
  have hR : TrBlk w0 (w.heap.size + 1 + 1) (.slice none 0 0) (.slice none 0 0) 0 := by rw [hw0]; exact heap_alloc_at _ _ _ (by rw [z2, z1])
  have hS : Shf w0 (w.heap.size + 1) x.s := by
    have h := (Shf.new (w.alloc (.cells #[.int .i64 x.nd, .slice x.A x.n x.c] 24)) x.s).below ((Below.refl _ _).alloc (Nat.le_refl _) (.cells #[.int .i64 0, .slice none 0 0, .slice none 0 0, .int .i64 0] 80))
    rw [z1] at h
    rw [hw0]; exact h
  have hN : Net w0 w.heap.size x.nd x.A x.n x.c := by
    rw [hw0]
    exact (Net.new w x.nd x.A x.n x.c).below (bel ((Below.refl _ _).alloc (Nat.le_refl _) _) ((Below.refl _ _).alloc (Nat.le_refl _) _))
  have p0 := hN.c0
  have p1 := hN.c1
  obtain ⟨s0, s1, s2, s3, s4, s5⟩ := hS.cells
  rw [hw0] at p0 p1 s0 s1 s2 s3 s4 s5
  go_enter Tryz.func125, Tryz.ntmps125
  go_wp2_with fail
  rw [← hw0]
  refine (planned_any x V vn vc v _ (hx.below b0) (hV.below b0) hvc hvn).mono ?_
  rintro e w1 ⟨hret, b1⟩
  have hb := bel b0 b1
  have hsz := b0.size
  have hR0 := lt_of_block hR
  have hR1 := hR.below b1 hR0
  have hS1 := hS.below b1
  clear p0 p1 s0 s1 s2 s3 s4 s5 hw0 z1 z2 hR hS hN
  rcases hret with ⟨hok, rfl⟩ | ⟨b, mb, rfl, hbb, hbm, hP⟩
  · have HX := Lib.hid (K.bestOut_no hok)
    clear hok
    obtain ⟨r0, r1, r2, r3⟩ := hR1.cells
    have f0 := hR1.free 0
    have f1 := hR1.free 1
    have f2 := hR1.free 2
    have f3 := hR1.free 3
    go_wp2_with fail
    refine bodyPost_ret_by (v := .tuple #[.agg #[.int .i64 0, .slice none 0 0, .slice none 0 0, .int .i64 0], .int .i64 1]) ?_ rfl ?_
    · obtain ⟨z0, z1, z2, z3⟩ := (hR1.set (.slice none 0 0) (.slice none 0 0) 0).cells
      rw [results_cell_tmp rfl]
      simp [go_sem, z0, z1, z2, z3]
    · exact retBest_zero HX.out (below_set4 hb (by omega) _ _ _ _)
  · obtain ⟨gb, hgb⟩ : ∃ gb, gb = w1.heap.size := ⟨_, rfl⟩
    obtain ⟨gf, hgf⟩ : ∃ gf, gf = w1.heap.size + 1 := ⟨_, rfl⟩
    have hpp := hP (fun g => g = gb ∨ g = gf)
    clear hP
    have hok : K.ok31 x.nd x.l x.s x.r v = true := hpp.ok
    obtain ⟨hne, hck, hdp, hrq, hl6, hgo⟩ := K.ok31_parts hok
    obtain ⟨-, ⟨d0, d1⟩, st0, st1, en1⟩ := K.check_parts hck
    obtain ⟨w2, hw2⟩ : ∃ w2, w2 = (w1.alloc (.cells #[.int .i64 0, .slice none 0 0, .slice none 0 0, .int .i64 0] 80)).alloc (.cells #[.bool false] 4) := ⟨_, rfl⟩
    have hza := World.size_alloc w1 (.cells #[.int .i64 0, .slice none 0 0, .slice none 0 0, .int .i64 0] 80)
    have b12 : Below w1.heap.size w1 w2 := by rw [hw2]; exact bel ((Below.refl _ _).alloc (Nat.le_refl _) _) ((Below.refl _ _).alloc (Nat.le_refl _) _)
    have hB2 : BestAt w2 gb gf none := ⟨by rw [hw2, hgf]; exact heap_alloc_at _ _ _ hza.symm, none, 0, 0, none, 0, 0, 0, by rw [hw2, hgb]; exact blk_alloc (heap_alloc_new _ _) _, fun b e => (nomatch e)⟩
    have hz2 : w2.heap.size = w1.heap.size + 1 + 1 := by rw [hw2, World.size_alloc, hza]
    have hSA : SAt w1 w2 mb gb gf ⟨x, V, vn, vc, v⟩ (fun g => g = gb ∨ g = gf) none := ⟨Ext.below b12, hpp.memo.below b12, hB2⟩
    have CT : Calls Tryz.prog 173 #[.pointer (some ⟨b, 0, none⟩), .agg #[.int .i64 0, .int .i64 x.s.depot, .int .i64 x.s.start, .slice none 0 0, .slice none 0 0], .pointer (some ⟨gb, 0, none⟩), .pointer (some ⟨gf, 0, none⟩)] w2
        fun e w' => Sought w2 w' mb gb gf ⟨x, V, vn, vc, v⟩ (fun g => g = gb ∨ g = gf) (K.best x.nd x.l x.s x.r v) e :=
      try_any b mb gb gf ⟨x, V, vn, vc, v⟩ w1 hpp (by omega) (by omega) (.inl rfl) (.inr rfl) (2 ^ v.length) ⟨0, x.s.depot, x.s.start, [], []⟩ none none 0 0 none 0 0 w2 hSA (fun g hg => by omega)
        ⟨ints_nil _, ints_nil _, fun ad e => (nomatch e), fun ad e => (nomatch e), Nat.two_pow_pos _, Nat.le_refl _, rfl, ⟨d0, hdp⟩, ⟨st0, by show x.s.start ≤ 1000000; omega⟩⟩ (by
          have h9 : (⟨x, V, vn, vc, v⟩ : PS).n = v.length := hV.1
          rw [h9]; exact Nat.le_add_left _ _)
    have hR2 := hR1.below b12 (lt_of_block hR1)
    have hS2 := hS1.below b12
    obtain ⟨s0, s1, s2, s3, s4, s5⟩ := hS2.cells
    have HOK := Lib.hid hok
    have hRl := lt_of_block hR1
    have hgbl : w.heap.size + 1 + 1 < gb := by omega
    clear hok hne hck hdp hrq hl6 hgo d0 d1 st0 st1 en1 hB2 hza hR1 hS1
    rw [hw2, hgb, hgf] at CT
    rw [hw2] at s0 s1 s2 s3 s4 s5
    go_wp2_with fail
    refine CT.mono ?_
    rw [← hw2, ← hgf, ← hgb]
    rintro e w3 ⟨rfl, hB3, hM3, hT3⟩
    have hR3 : TrBlk w3 (w.heap.size + 1 + 1) (.slice none 0 0) (.slice none 0 0) 0 := (hB3.block _ (by omega) (by omega) (by omega) (by omega)).trans hR2
    have hb3 : Below w.heap.size w w3 := But3.below_of (bel hb b12) hB3 (by omega) (by omega) (by omega)
    clear CT s0 s1 s2 s3 s4 s5 hS2 hR2 hw2 hgb hgf hSA hpp
    obtain ⟨A0, n0, c0, A1, n1, c1, e0, hT, hTb⟩ := hT3.blk
    have ff := blk_cell hT3.found 0 _ rfl
    obtain ⟨r0, r1, r2, r3⟩ := hR3.cells
    have f0 := hR3.free 0
    have f1 := hR3.free 1
    have f2 := hR3.free 2
    have f3 := hR3.free 3
    cases hbst : K.best x.nd x.l x.s x.r v with
    | none =>
      have HX := Lib.hid (K.bestOut_none HOK.out hbst)
      rw [hbst] at ff
      clear hTb hbst
      go_wp2_with fail
      refine bodyPost_ret_by (v := .tuple #[.agg #[.int .i64 0, .slice none 0 0, .slice none 0 0, .int .i64 0], .int .i64 4]) ?_ rfl ?_
      · obtain ⟨z0, z1, z2, z3⟩ := (hR3.set (.slice none 0 0) (.slice none 0 0) 0).cells
        rw [results_cell_tmp rfl]
        simp [go_sem, z0, z1, z2, z3]
      · exact retBest_zero HX.out (below_set4 hb3 (by omega) _ _ _ _)
    | some bt =>
      have HX := Lib.hid (K.bestOut_some HOK.out hbst)
      obtain ⟨hI, hJ, he, hA, hA'⟩ := hTb bt hbst
      subst he
      rw [hbst] at ff
      clear hTb hbst
      obtain ⟨t0, t1, t2, t3⟩ := hT.cells
      go_wp2_with fail
      refine bodyPost_ret_by (v := .tuple #[.agg #[.int .i64 0, .slice A0 n0 c0, .slice A1 n1 c1, .int .i64 bt.end_], .int .i64 0]) ?_ rfl ?_
      · obtain ⟨z0, z1, z2, z3⟩ := (hR3.set (.slice A0 n0 c0) (.slice A1 n1 c1) bt.end_).cells
        rw [results_cell_tmp rfl]
        simp [go_sem, z0, z1, z2, z3]
      · rw [HX.out]
        have hne1 : ∀ ad, A0 = some ad → ad.block ≠ w.heap.size + 1 + 1 := fun ad e => by have := hA ad e; omega
        have hne2 : ∀ ad, A1 = some ad → ad.block ≠ w.heap.size + 1 + 1 := fun ad e => by have := hA' ad e; omega
        exact ⟨⟨A0, n0, c0, A1, n1, c1, rfl, (((hI.set _ hne1).set _ hne1).set _ hne1).set _ hne1, (((hJ.set _ hne2).set _ hne2).set _ hne2).set _ hne2, fun ad e => (by have := hA ad e; omega), fun ad e => (by have := hA' ad e; omega)⟩, below_set4 hb3 (by omega) _ _ _ _⟩
end Go.Proofs.YtippdjmpkafifaaGreat

/-
Plain laws of the search for the best tour: its end is the least of all orders; a label is the least of all orders of its part.
Plain laws of labels: a label is the least minute of all orders of its part that end with its element.
Plain laws of labels and tours: the labels of all requests prove that there is no tour exactly if there is none.
Plain laws: a part of a right set is right.
Plain laws: loads and weights do not hang on the order of the requests.
Plain laws: a step of the search is a leg of a round.
Plain laws: a state that the search can reach is a round driven so far.
Plain laws: a tour of the search is a round over an order of the set.
Plain laws: a leg of a round is a step of the search.
Plain laws: a round that can be driven so far is a state that the search can reach.
Plain laws: a round over an order of the set that can be driven is a tour of the search.
Plain laws: a tour of a set gives one of each part, that ends no later.
Plain laws: an order of some requests of the set that can be served ends not earlier than its label says.
Plain laws: of the tours that end as early the search returns the first one.
-/
namespace Go.Proofs.YtippdjmpkafifaaGreat
open Go.RowKit
namespace K

/-- What the laws want of a case. -/
structure Case31 (nd : Int) (l : List Ro) (s : S) (r : List Q) (v : List Int) : Prop where
  len : v.length ≤ 6
  ok : ∀ i ∈ v, 0 ≤ (req r i).service ∧ (req r i).service ≤ 1000000 ∧ H.right (req r i).l = true
  start : 0 ≤ s.start
  end_ : s.end_ ≤ 1000000
theorem case31 {nd : Int} {l : List Ro} {s : S} {r : List Q} {v : List Int} (h : ok31 nd l s r v = true) : Case31 nd l s r v := by
  obtain ⟨-, hck, -, hrq, hl6, hgo⟩ := ok31_parts h
  obtain ⟨-, -, st0, st1, en1⟩ := check_parts hck
  refine ⟨hl6, fun i hi => ?_, st0, en1⟩
  obtain ⟨h0, h1, -⟩ := setGo_nodes _ _ hgo _ hi
  obtain ⟨q, hq⟩ : ∃ q, r[i.toNat]? = some q := ⟨_, List.getElem?_eq_getElem (by omega)⟩
  have hi2 : i = (i.toNat : Int) := by omega
  rw [hi2, req_get hq]
  obtain ⟨-, hs, hr⟩ := right_req (hrq q (List.mem_of_getElem? hq))
  exact ⟨hs.1, hs.2, hr⟩

section
variable {nd : Int} {l : List Ro} {s : S} {r : List Q} {v : List Int}

/-- A step: one more request. -/
def Step (nd : Int) (l : List Ro) (s : S) (r : List Q) (v : List Int) (a b : St) : Prop := ∃ i k, v[i]? = some k ∧ onward nd l s r v a i k = some b
/-- A state from which the truck comes home in time, and the tour that it has driven. -/
def Home (nd : Int) (l : List Ro) (s : S) (r : List Q) (v : List Int) (c : St) (t : Tr) : Prop :=
  c.bits = 2 ^ v.length - 1 ∧ way nd l c.a (T.weight s r (part v c.bits)) s.depot ≠ -1 ∧ c.t + way nd l c.a (T.weight s r (part v c.bits)) s.depot ≤ s.end_ ∧
    t = ⟨c.stops, c.times, c.t + way nd l c.a (T.weight s r (part v c.bits)) s.depot⟩
/-- The tours that go on from a state. -/
inductive Ends (nd : Int) (l : List Ro) (s : S) (r : List Q) (v : List Int) : St → Tr → Prop
  | home {c : St} {t : Tr} (h : Home nd l s r v c t) : Ends nd l s r v c t
  | step {a b : St} {t : Tr} (h : Step nd l s r v a b) (h2 : Ends nd l s r v b t) : Ends nd l s r v a t

theorem onward_some {st st' : St} {i : Nat} {k : Int} (h : onward nd l s r v st i k = some st') :
    st.bits.testBit i = false ∧ way nd l st.a (T.weight s r (part v st.bits)) (req r k).node ≠ -1 ∧
    (begins s r (req r k) (part v (st.bits + 2 ^ i)) (st.t + way nd l st.a (T.weight s r (part v st.bits)) (req r k).node)).2 = true ∧
    st' = ⟨st.bits + 2 ^ i, (req r k).node, (begins s r (req r k) (part v (st.bits + 2 ^ i)) (st.t + way nd l st.a (T.weight s r (part v st.bits)) (req r k).node)).1 + (req r k).service,
      st.stops ++ [k], st.times ++ [(begins s r (req r k) (part v (st.bits + 2 ^ i)) (st.t + way nd l st.a (T.weight s r (part v st.bits)) (req r k).node)).1]⟩ := by
  unfold onward at h
  split at h
  · cases h
  · rename_i h1
    split at h
    · cases h
    · rename_i h2
      split at h
      · cases h
      · rename_i h3
        injection h with h
        exact ⟨by simpa using h1, h2, by simpa using h3, h.symm⟩

theorem step_time (hc : Case31 nd l s r v) {a b : St} (h : Step nd l s r v a b) : a.t ≤ b.t := by
  obtain ⟨i, k, hk, ho⟩ := h
  obtain ⟨-, h2, h3, rfl⟩ := onward_some ho
  have h4 := begins_ok h3
  have h5 := way_bd nd l a.a (T.weight s r (part v a.bits)) (req r k).node
  have h6 := (hc.ok k (List.mem_of_getElem? hk)).1
  show a.t ≤ _ + _
  omega
theorem ends_time (hc : Case31 nd l s r v) {a : St} {t : Tr} (h : Ends nd l s r v a t) : a.t ≤ t.end_ := by
  induction h with
  | home h =>
    obtain ⟨-, h2, -, rfl⟩ := h
    have h5 := way_bd nd l ‹St›.a (T.weight s r (part v ‹St›.bits)) s.depot
    show _ ≤ _ + _
    omega
  | step h h2 ih => exact Int.le_trans (step_time hc h) ih

theorem full_no_step {a b : St} (h : a.bits = 2 ^ v.length - 1) : ¬ Step nd l s r v a b := by
  rintro ⟨i, k, hk, ho⟩
  obtain ⟨h1, -⟩ := onward_some ho
  have hi := (List.getElem?_eq_some_iff.1 hk).1
  rw [h, Nat.testBit_two_pow_sub_one] at h1
  simp [hi] at h1
theorem step_bits (hc : Case31 nd l s r v) {a b : St} (h : Step nd l s r v a b) (ha : a.bits < 2 ^ v.length) : b.bits < 2 ^ v.length ∧ a.bits < b.bits := by
  obtain ⟨i, k, hk, ho⟩ := h
  obtain ⟨h1, -, -, rfl⟩ := onward_some ho
  have hi := (List.getElem?_eq_some_iff.1 hk).1
  have := Nat.two_pow_pos i
  exact ⟨bits_next hc.len ha hi h1, by show a.bits < a.bits + 2 ^ i; omega⟩

/-- What the search hands back, of the tours in P. -/
structure Sees (P : Tr → Prop) (best R : Option Tr) : Prop where
  sound : ∀ t, R = some t → best = some t ∨ P t
  keeps : ∀ b, best = some b → ∃ t, R = some t ∧ t.end_ ≤ b.end_
  least : ∀ t, P t → ∃ t', R = some t' ∧ t'.end_ ≤ t.end_

theorem go_sees {rec : St → Option Tr → Option Tr} {st : St} (hrec : ∀ st' b, Step nd l s r v st st' → Sees (Ends nd l s r v st') b (rec st' b)) : ∀ (rest : List Int) (i : Nat) (best : Option Tr), v.drop i = rest →
    Sees (fun t => ∃ j k st', i ≤ j ∧ v[j]? = some k ∧ onward nd l s r v st j k = some st' ∧ Ends nd l s r v st' t) best (seek.go rec nd l s r v st best i rest) := by
  intro rest
  induction rest with
  | nil =>
    intro i best hd
    refine ⟨fun t h => .inl h, fun b h => ⟨b, h, Int.le_refl _⟩, ?_⟩
    rintro t ⟨j, k, st', hj, hk, -⟩
    have h1 := (List.getElem?_eq_some_iff.1 hk).1
    have h2 : v.length ≤ i := by simpa using hd
    omega
  | cons k rest ih =>
    intro i best hd
    have hk : v[i]? = some k := by
      have h1 : (v.drop i)[0]? = some k := by rw [hd]; rfl
      simpa using h1
    have hd2 : v.drop (i + 1) = rest := by
      have h1 : (v.drop i).drop 1 = rest := by rw [hd]; rfl
      simpa [List.drop_drop] using h1
    unfold seek.go
    cases ho : onward nd l s r v st i k with
    | none =>
      obtain ⟨a1, a2, a3⟩ := ih (i + 1) best hd2
      refine ⟨fun t h => (a1 t h).imp id ?_, a2, ?_⟩
      · rintro ⟨j, k', st', hj, h⟩
        exact ⟨j, k', st', by omega, h⟩
      · rintro t ⟨j, k', st', hj, hk', ho', he⟩
        refine a3 t ⟨j, k', st', ?_, hk', ho', he⟩
        rcases Nat.eq_or_lt_of_le hj with rfl | hj
        · rw [hk] at hk'; injection hk' with hk'; subst hk'; rw [ho] at ho'; cases ho'
        · omega
    | some st1 =>
      obtain ⟨b1, b2, b3⟩ := hrec st1 best ⟨i, k, hk, ho⟩
      obtain ⟨a1, a2, a3⟩ := ih (i + 1) (rec st1 best) hd2
      refine ⟨fun t h => ?_, fun b h => ?_, ?_⟩
      · rcases a1 t h with h | ⟨j, k', st', hj, h⟩
        · exact (b1 t h).imp id fun h => ⟨i, k, st1, Nat.le_refl _, hk, ho, h⟩
        · exact .inr ⟨j, k', st', by omega, h⟩
      · obtain ⟨t, h1, h2⟩ := b2 b h
        obtain ⟨t', h3, h4⟩ := a2 t h1
        exact ⟨t', h3, by omega⟩
      · rintro t ⟨j, k', st', hj, hk', ho', he⟩
        rcases Nat.eq_or_lt_of_le hj with rfl | hj
        · rw [hk] at hk'; injection hk' with hk'; subst hk'; rw [ho] at ho'; injection ho' with ho'; subst ho'
          obtain ⟨t1, h1, h2⟩ := b3 t he
          obtain ⟨t', h3, h4⟩ := a2 t1 h1
          exact ⟨t', h3, by omega⟩
        · exact a3 t ⟨j, k', st', by omega, hk', ho', he⟩

theorem seek_sees (hc : Case31 nd l s r v) : ∀ (f : Nat) (st : St) (best : Option Tr), st.bits < 2 ^ v.length → 2 ^ v.length ≤ st.bits + f → Sees (Ends nd l s r v st) best (seek nd l s r v f st best) := by
  intro f
  induction f with
  | zero => intro st best h1 h2; omega
  | succ f ih =>
    intro st best hb hf
    unfold seek
    split
    · rename_i hl
      obtain ⟨b, rfl, hle⟩ : ∃ b, best = some b ∧ b.end_ ≤ st.t := by
        cases best with
        | none => simp [late] at hl
        | some b => exact ⟨b, rfl, by simpa [late] using hl⟩
      exact ⟨fun t h => .inl h, fun b' h => ⟨b', h, Int.le_refl _⟩, fun t h => ⟨b, rfl, Int.le_trans hle (ends_time hc h)⟩⟩
    · split
      · rename_i hl hfull
        have hends : ∀ t, Ends nd l s r v st t → Home nd l s r v st t := fun t h => by
          cases h with
          | home h => exact h
          | step h h2 => exact absurd h (full_no_step hfull)
        unfold home
        split
        · rename_i h
          obtain ⟨h1, h2, h3⟩ := h
          refine ⟨fun t ht => .inr (.home ⟨hfull, h1, h2, ?_⟩), fun b hb => ⟨_, rfl, ?_⟩, fun t ht => ⟨_, rfl, ?_⟩⟩
          · injection ht with ht; exact ht.symm
          · subst hb
            simp only [better, decide_eq_true_eq] at h3
            show _ + _ ≤ _
            omega
          · obtain ⟨-, -, -, rfl⟩ := hends t ht
            exact Int.le_refl _
        · rename_i h
          refine ⟨fun t h => .inl h, fun b h => ⟨b, h, Int.le_refl _⟩, fun t ht => ?_⟩
          obtain ⟨-, h1, h2, rfl⟩ := hends t ht
          cases best with
          | none => exact absurd ⟨h1, h2, rfl⟩ h
          | some b =>
            refine ⟨b, rfl, ?_⟩
            have h3 : ¬ better (some b) (st.t + way nd l st.a (T.weight s r (part v st.bits)) s.depot) = true := fun h4 => h ⟨h1, h2, h4⟩
            simp only [better, decide_eq_true_eq] at h3
            show b.end_ ≤ _ + _
            omega
      · rename_i hl hfull
        have hg := go_sees (nd := nd) (l := l) (s := s) (r := r) (v := v) (rec := seek nd l s r v f) (st := st) (fun st' b h => ih st' b (step_bits hc h hb).1 (by have := (step_bits hc h hb).2; omega)) v 0 best rfl
        refine ⟨fun t h => (hg.sound t h).imp id ?_, hg.keeps, fun t h => ?_⟩
        · rintro ⟨j, k, st', -, hk, ho, he⟩
          exact .step ⟨j, k, hk, ho⟩ he
        · cases h with
          | home h => exact absurd h.1 hfull
          | step h h2 =>
            obtain ⟨j, k, hk, ho⟩ := h
            exact hg.least t ⟨j, k, _, Nat.zero_le _, hk, ho, h2⟩

def St.first (s : S) : St := ⟨0, s.depot, s.start, [], []⟩
/-- The best tour is one, and none ends earlier. -/
theorem best_sees (hc : Case31 nd l s r v) : Sees (Ends nd l s r v (St.first s)) none (best nd l s r v) :=
  seek_sees hc _ _ _ (Nat.two_pow_pos _) (Nat.le_add_left _ _)
theorem best_none (hc : Case31 nd l s r v) : best nd l s r v = none ↔ ∀ t, ¬ Ends nd l s r v (St.first s) t := by
  have h := best_sees hc
  constructor
  · intro hn t ht
    obtain ⟨t', h1, -⟩ := h.least t ht
    rw [hn] at h1; cases h1
  · intro hn
    cases hb : best nd l s r v with
    | none => rfl
    | some t =>
      rcases h.sound t hb with h1 | h1
      · cases h1
      · exact absurd h1 (hn t)
end
end K
end Go.Proofs.YtippdjmpkafifaaGreat
namespace Go.Proofs.YtippdjmpkafifaaGreat
open Go.RowKit
namespace K
section
variable {nd : Int} {l : List Ro} {s : S} {r : List Q} {v : List Int}

/-- Who arrives earlier begins no later. -/
theorem begins_mono {q : Q} {all : List Int} {x y : Int} (hr : H.right q.l = true) (hs : 0 ≤ q.service ∧ q.service ≤ 1000000) (h0 : 0 ≤ x) (hx : x ≤ y) (hok : (begins s r q all y).2 = true) :
    (begins s r q all x).2 = true ∧ (begins s r q all x).1 ≤ (begins s r q all y).1 := by
  obtain ⟨hc, hf, he, hy0, hy1, hy2, hy3⟩ := begins_ok hok
  have hcx : ¬ (s.day < q.frm ∨ q.by_ < s.day ∨ s.end_ < x ∨ T.fits s r all = false) := by
    rintro (h | h | h | h)
    · exact (hc ▸ (.inl h) : False)
    · exact (hc ▸ (.inr (.inl h)) : False)
    · exact (hc ▸ (.inr (.inr (.inl (by omega)))) : False)
    · exact (hc ▸ (.inr (.inr (.inr h))) : False)
  obtain ⟨g1, g2⟩ := (H.first_two hr (t := x) (o := y) (s := q.service) ⟨h0, by omega⟩ hs ⟨hx, by omega⟩).1 hf
  unfold begins
  rw [if_neg hcx]
  have he2 : (if s.day < q.frm ∨ q.by_ < s.day ∨ s.end_ < y ∨ T.fits s r all = false then ((0 : Int), false) else ((H.fit q.l y q.service).1, (H.fit q.l y q.service).2 && decide ((H.fit q.l y q.service).1 + q.service ≤ s.end_))).1 = (H.fit q.l y q.service).1 := he
  rw [he2]
  rw [he] at hy2
  simp only [Bool.and_eq_true, decide_eq_true_eq]
  exact ⟨⟨g1, by omega⟩, g2⟩

/-- What the earliest arrival is the least of. -/
def Cand (nd : Int) (l : List Ro) (wt tn : Int) (z : List (Int × Int)) (f x : Int) : Prop := (f ≠ -1 ∧ x = f) ∨ ∃ p ∈ z, p.2 ≠ -1 ∧ way nd l p.1 wt tn ≠ -1 ∧ x = p.2 + way nd l p.1 wt tn
theorem noted_cases (y f t : Int) : (y ≠ -1 ∧ t ≠ -1 ∧ noted y f t = t + y ∧ (f = -1 ∨ t + y < f)) ∨ (noted y f t = f ∧ (y ≠ -1 → t ≠ -1 → f ≠ -1 ∧ f ≤ t + y)) := by
  by_cases h : y ≠ -1 ∧ t ≠ -1 ∧ (f = -1 ∨ t + y < f)
  · exact .inl ⟨h.1, h.2.1, by unfold noted; rw [if_pos h], h.2.2⟩
  · refine .inr ⟨by unfold noted; rw [if_neg h], fun h1 h2 => ?_⟩
    have h3 : ¬ (f = -1 ∨ t + y < f) := fun h3 => h ⟨h1, h2, h3⟩
    omega
theorem firsts_least {wt tn : Int} : ∀ (z : List (Int × Int)) (f : Int), -1 ≤ f → (∀ p ∈ z, -1 ≤ p.2) →
    (firsts nd l wt tn z f ≠ -1 → Cand nd l wt tn z f (firsts nd l wt tn z f)) ∧ (∀ x, Cand nd l wt tn z f x → firsts nd l wt tn z f ≠ -1 ∧ firsts nd l wt tn z f ≤ x) := by
  intro z
  induction z with
  | nil =>
    intro f hf _
    refine ⟨fun h => .inl ⟨h, rfl⟩, ?_⟩
    rintro x (⟨h, rfl⟩ | ⟨p, hp, -⟩)
    · exact ⟨h, Int.le_refl _⟩
    · cases hp
  | cons p z ih =>
    intro f hf hz
    have hw := way_bd nd l p.1 wt tn
    have hp2 := hz p (List.mem_cons_self ..)
    have hstep : firsts nd l wt tn (p :: z) f = firsts nd l wt tn z (noted (way nd l p.1 wt tn) f p.2) := rfl
    rw [hstep]
    rcases noted_cases (way nd l p.1 wt tn) f p.2 with ⟨h1, h2, he, h3⟩ | ⟨he, h3⟩
    · rw [he]
      obtain ⟨a1, a2⟩ := ih (p.2 + way nd l p.1 wt tn) (by omega) (fun q hq => hz q (List.mem_cons_of_mem _ hq))
      refine ⟨fun h => ?_, ?_⟩
      · rcases a1 h with ⟨-, e⟩ | ⟨q, hq, h⟩
        · exact .inr ⟨p, List.mem_cons_self .., h2, h1, e⟩
        · exact .inr ⟨q, List.mem_cons_of_mem _ hq, h⟩
      · rintro x (⟨hf1, rfl⟩ | ⟨q, hq, g1, g2, rfl⟩)
        · have := a2 (p.2 + way nd l p.1 wt tn) (.inl ⟨by omega, rfl⟩)
          omega
        · rcases List.mem_cons.1 hq with rfl | hq
          · exact a2 _ (.inl ⟨by omega, rfl⟩)
          · exact a2 _ (.inr ⟨q, hq, g1, g2, rfl⟩)
    · rw [he]
      obtain ⟨a1, a2⟩ := ih f hf (fun q hq => hz q (List.mem_cons_of_mem _ hq))
      refine ⟨fun h => ?_, ?_⟩
      · rcases a1 h with h | ⟨q, hq, h⟩
        · exact .inl h
        · exact .inr ⟨q, List.mem_cons_of_mem _ hq, h⟩
      · rintro x (h | ⟨q, hq, g1, g2, rfl⟩)
        · exact a2 _ (.inl h)
        · rcases List.mem_cons.1 hq with rfl | hq
          · obtain ⟨f1, f2⟩ := h3 g2 g1
            have := a2 f (.inl ⟨f1, rfl⟩)
            omega
          · exact a2 _ (.inr ⟨q, hq, g1, g2, rfl⟩)

theorem bit_set_all : ∀ m : Fin 64, ∀ i : Fin 6, m.val.testBit i.val = false → (m.val + 2 ^ i.val).testBit i.val = true := by decide +kernel
theorem bit_set {m i : Nat} (hm : m < 64) (hi : i < 6) (h : m.testBit i = false) : (m + 2 ^ i).testBit i = true := bit_set_all ⟨m, hm⟩ ⟨i, hi⟩ h

/-- The label of a part and an element. -/
def lab (nd : Int) (l : List Ro) (s : S) (r : List Q) (v : List Int) (m i : Nat) : Int := ((rowOf nd l s r v (table nd l s r v m) m)[i]?).getD (-1)
theorem lab_bd (hc : Case31 nd l s r v) (m i : Nat) : -1 ≤ lab nd l s r v m i ∧ lab nd l s r v m i ≤ 1000000 := by
  unfold lab
  cases h : (rowOf nd l s r v (table nd l s r v m) m)[i]? with
  | none => exact ⟨Int.le_refl _, by decide⟩
  | some x => exact rowOf_bd (fun k hk => (hc.ok k hk).1) x (List.mem_of_getElem? h)

/-- The states that can be reached, and the element served last. -/
inductive Hits (nd : Int) (l : List Ro) (s : S) (r : List Q) (v : List Int) : Option Nat → St → Prop
  | first : Hits nd l s r v none (St.first s)
  | step {o : Option Nat} {a b : St} {i : Nat} {k : Int} (h : Hits nd l s r v o a) (hk : v[i]? = some k) (ho : onward nd l s r v a i k = some b) : Hits nd l s r v (some i) b

theorem arrives_least (hc : Case31 nd l s r v) (rest : Nat) (q : Q) :
    (arrives nd l s r v (rowOf nd l s r v (table nd l s r v rest) rest) rest q ≠ -1 → (rest = 0 ∧ way nd l s.depot (T.weight s r (part v rest)) q.node ≠ -1 ∧ arrives nd l s r v (rowOf nd l s r v (table nd l s r v rest) rest) rest q = s.start + way nd l s.depot (T.weight s r (part v rest)) q.node) ∨
      ∃ j k, v[j]? = some k ∧ lab nd l s r v rest j ≠ -1 ∧ way nd l (req r k).node (T.weight s r (part v rest)) q.node ≠ -1 ∧ arrives nd l s r v (rowOf nd l s r v (table nd l s r v rest) rest) rest q = lab nd l s r v rest j + way nd l (req r k).node (T.weight s r (part v rest)) q.node) ∧
    (rest = 0 → way nd l s.depot (T.weight s r (part v rest)) q.node ≠ -1 → arrives nd l s r v (rowOf nd l s r v (table nd l s r v rest) rest) rest q ≠ -1 ∧ arrives nd l s r v (rowOf nd l s r v (table nd l s r v rest) rest) rest q ≤ s.start + way nd l s.depot (T.weight s r (part v rest)) q.node) ∧
    (∀ j k, v[j]? = some k → lab nd l s r v rest j ≠ -1 → way nd l (req r k).node (T.weight s r (part v rest)) q.node ≠ -1 →
      arrives nd l s r v (rowOf nd l s r v (table nd l s r v rest) rest) rest q ≠ -1 ∧ arrives nd l s r v (rowOf nd l s r v (table nd l s r v rest) rest) rest q ≤ lab nd l s r v rest j + way nd l (req r k).node (T.weight s r (part v rest)) q.node) := by
  have hz : ∀ j k, v[j]? = some k → ((nodes r v).zip (rowOf nd l s r v (table nd l s r v rest) rest))[j]? = some ((req r k).node, lab nd l s r v rest j) := fun j k hk => by
    rw [List.getElem?_zip_eq_some]
    refine ⟨by rw [nodes, List.getElem?_map, hk]; rfl, ?_⟩
    have hj := (List.getElem?_eq_some_iff.1 hk).1
    unfold lab
    rw [List.getElem?_eq_getElem (by rw [rowOf_len]; exact hj), Option.getD_some]
  have hzb : ∀ p ∈ (nodes r v).zip (rowOf nd l s r v (table nd l s r v rest) rest), ∃ j k, v[j]? = some k ∧ p = ((req r k).node, lab nd l s r v rest j) := fun p hp => by
    obtain ⟨j, hj⟩ := List.mem_iff_getElem?.1 hp
    have hjl : j < v.length := by
      have := (List.getElem?_eq_some_iff.1 hj).1
      rw [List.length_zip, nodes, List.length_map] at this
      omega
    have h2 := hz j _ (List.getElem?_eq_getElem hjl)
    rw [hj] at h2
    injection h2 with h2
    exact ⟨j, _, List.getElem?_eq_getElem hjl, h2⟩
  have hw0 := way_bd nd l s.depot (T.weight s r (part v rest)) q.node
  have hst := hc.start
  have hf0 : (first0 nd l s (T.weight s r (part v rest)) q.node rest = -1 ∧ ¬ (rest = 0 ∧ way nd l s.depot (T.weight s r (part v rest)) q.node ≠ -1)) ∨
      (rest = 0 ∧ way nd l s.depot (T.weight s r (part v rest)) q.node ≠ -1 ∧ first0 nd l s (T.weight s r (part v rest)) q.node rest = s.start + way nd l s.depot (T.weight s r (part v rest)) q.node) := by
    unfold first0
    by_cases h0 : rest = 0
    · rw [if_pos h0]
      by_cases hw : way nd l s.depot (T.weight s r (part v rest)) q.node = -1
      · exact .inl ⟨by rw [noted_no1 hw], fun h => h.2 hw⟩
      · exact .inr ⟨h0, hw, noted_yes hw (by omega) (.inl rfl)⟩
    · rw [if_neg h0]
      exact .inl ⟨rfl, fun h => h0 h.1⟩
  obtain ⟨a1, a2⟩ := firsts_least (nd := nd) (l := l) (wt := T.weight s r (part v rest)) (tn := q.node) ((nodes r v).zip (rowOf nd l s r v (table nd l s r v rest) rest)) (first0 nd l s (T.weight s r (part v rest)) q.node rest) (by rcases hf0 with h | h <;> omega) (fun p hp => by
    obtain ⟨j, k, -, rfl⟩ := hzb p hp
    exact (lab_bd hc rest j).1)
  have he : arrives nd l s r v (rowOf nd l s r v (table nd l s r v rest) rest) rest q = firsts nd l (T.weight s r (part v rest)) q.node ((nodes r v).zip (rowOf nd l s r v (table nd l s r v rest) rest)) (first0 nd l s (T.weight s r (part v rest)) q.node rest) := rfl
  rw [he]
  refine ⟨fun h => ?_, fun h0 hw => ?_, fun j k hk hl hw => a2 _ (.inr ⟨_, List.mem_of_getElem? (hz j k hk), hl, hw, rfl⟩)⟩
  · rcases a1 h with ⟨h1, e⟩ | ⟨p, hp, h1, h2, e⟩
    · rcases hf0 with ⟨h2, -⟩ | ⟨g1, g2, g3⟩
      · exact absurd h2 h1
      · exact .inl ⟨g1, g2, by rw [e, g3]⟩
    · obtain ⟨j, k, hk, rfl⟩ := hzb p hp
      exact .inr ⟨j, k, hk, h1, h2, e⟩
  · rcases hf0 with ⟨-, h2⟩ | ⟨g1, g2, g3⟩
    · exact absurd ⟨h0, hw⟩ h2
    · exact a2 _ (.inl ⟨by omega, g3.symm⟩)

theorem hits_inv (hc : Case31 nd l s r v) {o : Option Nat} {c : St} (h : Hits nd l s r v o c) : c.bits < 2 ^ v.length ∧ (o = none → c = St.first s) ∧ ∀ i, o = some i → c.bits.testBit i = true ∧ ∃ k, v[i]? = some k ∧ c.a = (req r k).node := by
  induction h with
  | first => exact ⟨Nat.two_pow_pos _, fun _ => rfl, fun i e => (nomatch e)⟩
  | step h hk ho ih =>
    rename_i o a b i k
    have hb := step_bits hc ⟨i, k, hk, ho⟩ ih.1
    obtain ⟨h1, -, -, e⟩ := onward_some ho
    refine ⟨hb.1, fun e => (nomatch e), fun j e2 => ?_⟩
    injection e2 with e2
    subst e2
    refine ⟨?_, k, hk, by rw [e]⟩
    have hil := (List.getElem?_eq_some_iff.1 hk).1
    have hl6 := hc.len
    have h64 : a.bits < 64 := Nat.lt_of_lt_of_le ih.1 (Nat.pow_le_pow_right (by omega) hl6)
    rw [e]
    exact bit_set h64 (by omega) h1

/-- A label is the least minute of the states that it speaks of, and one of these. -/
theorem lab_least (hc : Case31 nd l s r v) : ∀ (m : Nat), m < 2 ^ v.length → ∀ (i : Nat) (k : Int), v[i]? = some k →
    (∀ c, Hits nd l s r v (some i) c → c.bits = m → lab nd l s r v m i ≠ -1 ∧ lab nd l s r v m i ≤ c.t) ∧ (lab nd l s r v m i ≠ -1 → ∃ c, Hits nd l s r v (some i) c ∧ c.bits = m ∧ c.t = lab nd l s r v m i) := by
  intro m
  induction m using Nat.strongRecOn with
  | ind m ih =>
  intro hm i k hk
  have hil := (List.getElem?_eq_some_iff.1 hk).1
  have hl6 := hc.len
  have hm64 : m < 64 := Nat.lt_of_lt_of_le hm (Nat.pow_le_pow_right (by omega) hl6)
  obtain ⟨hs0, hs1, hr⟩ := hc.ok k (List.mem_of_getElem? hk)
  have hst := hc.start
  have hlab : lab nd l s r v m i = if m.testBit i = true then label nd l s r v (((table nd l s r v m)[m - 2 ^ i]?).getD []) (m - 2 ^ i) i (req r k) else -1 := by
    unfold lab
    rw [rowOf_at hk, Option.getD_some]
  have hpw := Nat.two_pow_pos i
  cases hbit : m.testBit i
  · rw [hbit] at hlab
    refine ⟨fun c h he => ?_, fun h => absurd (by simpa using hlab) h⟩
    have := ((hits_inv hc h).2.2 i rfl).1
    rw [he, hbit] at this
    cases this
  · rw [hbit, if_pos rfl] at hlab
    obtain ⟨hre, hrb⟩ := bit_rest hm64 (by omega) hbit
    obtain ⟨rest, hrest⟩ : ∃ rest, rest = m - 2 ^ i := ⟨_, rfl⟩
    rw [← hrest] at hlab hre hrb
    have hrm : rest < m := by omega
    rw [table_at hrm, Option.getD_some] at hlab
    obtain ⟨F, hF⟩ : ∃ F, F = arrives nd l s r v (rowOf nd l s r v (table nd l s r v rest) rest) rest (req r k) := ⟨_, rfl⟩
    have hlab2 : lab nd l s r v m i = if F = -1 then -1 else if (begins s r (req r k) (part v m) F).2 = true then (begins s r (req r k) (part v m) F).1 + (req r k).service else -1 := by
      rw [hlab, label, ← hF, hre]; rfl
    obtain ⟨f1, f2, f3⟩ := arrives_least hc rest (req r k)
    rw [← hF] at f1 f2 f3
    have hF0 : F ≠ -1 → 0 ≤ F := fun h => by
      rcases f1 h with ⟨-, h2, e⟩ | ⟨j, kj, hj, h1, h2, e⟩
      · have := way_bd nd l s.depot (T.weight s r (part v rest)) (req r k).node
        omega
      · have := way_bd nd l (req r kj).node (T.weight s r (part v rest)) (req r k).node
        have := lab_bd hc rest j
        omega
    have ihr := ih rest hrm (by omega)
    clear hlab
    refine ⟨fun c h he => ?_, fun h => ?_⟩
    · cases h with
      | step h hk2 ho =>
        rename_i o a k2
        rw [hk] at hk2; injection hk2 with hk2; subst hk2
        obtain ⟨h1, h2, h3, e⟩ := onward_some ho
        have hab : a.bits = rest := by rw [e] at he; have he : a.bits + 2 ^ i = m := he; omega
        have hcand : F ≠ -1 ∧ F ≤ a.t + way nd l a.a (T.weight s r (part v a.bits)) (req r k).node := by
          cases o with
          | none =>
            have ha := (hits_inv hc h).2.1 rfl
            subst ha
            have hr0 : rest = 0 := hab.symm
            exact f2 hr0 (by rw [← hab]; exact h2) |>.imp id (fun h => by rw [hab]; exact h)
          | some j =>
            obtain ⟨-, kj, hkj, haj⟩ := (hits_inv hc h).2.2 j rfl
            obtain ⟨g1, g2⟩ := (ihr j kj hkj).1 a h hab
            rw [haj, hab] at h2 ⊢
            obtain ⟨g3, g4⟩ := f3 j kj hkj g1 h2
            exact ⟨g3, by omega⟩
        have hrm2 : a.bits + 2 ^ i = m := by omega
        rw [hrm2] at h3 e
        obtain ⟨b1, b2⟩ := begins_mono (s := s) (r := r) (all := part v m) hr ⟨hs0, hs1⟩ (hF0 hcand.1) hcand.2 h3
        rw [hlab2, if_neg hcand.1, if_pos b1, e]
        obtain ⟨-, -, -, y0, y1, -, -⟩ := begins_ok b1
        refine ⟨by omega, ?_⟩
        show _ ≤ _ + _
        omega
    · rw [hlab2] at h ⊢
      by_cases hF1 : F = -1
      · rw [if_pos hF1] at h; exact absurd rfl h
      rw [if_neg hF1] at h ⊢
      by_cases hb : (begins s r (req r k) (part v m) F).2 = true
      rotate_left
      · rw [if_neg hb] at h; exact absurd rfl h
      rw [if_pos hb]
      have mk : ∀ (o : Option Nat) (a : St), Hits nd l s r v o a → a.bits = rest → way nd l a.a (T.weight s r (part v rest)) (req r k).node ≠ -1 → F = a.t + way nd l a.a (T.weight s r (part v rest)) (req r k).node →
          ∃ c, Hits nd l s r v (some i) c ∧ c.bits = m ∧ c.t = (begins s r (req r k) (part v m) F).1 + (req r k).service := fun o a ha hab hw hFe => by
        refine ⟨_, .step ha hk (b := ⟨m, (req r k).node, (begins s r (req r k) (part v m) F).1 + (req r k).service, a.stops ++ [k], a.times ++ [(begins s r (req r k) (part v m) F).1]⟩) ?_, rfl, rfl⟩
        unfold onward
        rw [hab, hre, if_neg (by rw [hrb]; simp), if_neg hw, ← hFe, if_neg (by rw [hb]; simp)]
      rcases f1 hF1 with ⟨h0, h2, e⟩ | ⟨j, kj, hj, h1, h2, e⟩
      · exact mk none _ .first h0.symm h2 e
      · obtain ⟨c, c1, c2, c3⟩ := (ihr j kj hj).2 h1
        obtain ⟨-, kj2, hkj2, haj⟩ := (hits_inv hc c1).2.2 j rfl
        rw [hj] at hkj2; injection hkj2 with hkj2; subst hkj2
        exact mk (some j) c c1 c2 (by rw [haj]; exact h2) (by rw [haj, c3]; exact e)
end
end K
end Go.Proofs.YtippdjmpkafifaaGreat
namespace Go.Proofs.YtippdjmpkafifaaGreat
open Go.RowKit
namespace K
section
variable {nd : Int} {l : List Ro} {s : S} {r : List Q} {v : List Int}

theorem hits_ends {o : Option Nat} {c : St} {t : Tr} (h : Hits nd l s r v o c) (h2 : Ends nd l s r v c t) : Ends nd l s r v (St.first s) t := by
  induction h with
  | first => exact h2
  | step h hk ho ih => exact ih (.step ⟨_, _, hk, ho⟩ h2)
theorem ends_hits {a : St} {t : Tr} (h : Ends nd l s r v a t) : ∀ o, Hits nd l s r v o a → ∃ o' c, Hits nd l s r v o' c ∧ Home nd l s r v c t := by
  induction h with
  | home h => exact fun o ho => ⟨o, _, ho, h⟩
  | step h h2 ih =>
    obtain ⟨i, k, hk, ho⟩ := h
    exact fun o hh => ih _ (.step hh hk ho)

theorem rowLabs_mem {m : Nat} {row : List Int} {k : Nat} : ∀ {i : Nat}, k < i → m.testBit k = true → (⟨m, k, (row[k]?).getD (-1)⟩ : Lb) ∈ rowLabs m row i
  | 0, h, _ => by omega
  | i + 1, h, hb => by
    rw [rowLabs]
    by_cases hki : k = i
    · subst hki
      rw [if_pos hb]
      exact List.mem_append.2 (.inr (List.mem_singleton.2 rfl))
    · exact List.mem_append.2 (.inl (rowLabs_mem (by omega) hb))
theorem tabLabs_mem {n : Nat} {t : List (List Int)} {x : Lb} {m : Nat} : ∀ {M : Nat}, m < M → x ∈ rowLabs m ((t[m]?).getD []) n → x ∈ tabLabs n t M
  | 0, h, _ => by omega
  | M + 1, h, hx => by
    rw [tabLabs]
    by_cases hmM : m = M
    · subst hmM
      exact List.mem_append.2 (.inr hx)
    · exact List.mem_append.2 (.inl (tabLabs_mem (by omega) hx))
theorem labs_mem (h : ok31 nd l s r v = true) {m i : Nat} (hm : m < 2 ^ v.length) (hi : i < v.length) (hb : m.testBit i = true) : (⟨m, i, lab nd l s r v m i⟩ : Lb) ∈ labs nd l s r v := by
  unfold labs
  rw [if_pos h]
  refine tabLabs_mem hm ?_
  rw [table_at hm, Option.getD_some]
  exact rowLabs_mem hi hb
theorem mem_labs (h : ok31 nd l s r v = true) {x : Lb} (hx : x ∈ labs nd l s r v) : ∃ m i : Nat, m < 2 ^ v.length ∧ i < v.length ∧ m.testBit i = true ∧ x = ⟨m, i, lab nd l s r v m i⟩ := by
  unfold labs at hx
  rw [if_pos h] at hx
  obtain ⟨m, hm, hx⟩ := mem_tabLabs hx
  rw [table_at hm, Option.getD_some] at hx
  obtain ⟨i, hi, hb, rfl⟩ := mem_rowLabs hx
  exact ⟨m, i, hm, hi, hb, rfl⟩

theorem opens_ends (h : ok31 nd l s r v = true) (hv : v ≠ []) : (labs nd l s r v).any (opensAt nd l s r v (2 ^ v.length - 1)) = true ↔ ∃ t, Ends nd l s r v (St.first s) t := by
  have hc := case31 h
  have hl : 1 ≤ v.length := by cases v with | nil => exact absurd rfl hv | cons a b => simp
  have hp : 2 ≤ 2 ^ v.length := Nat.le_trans (by decide) (Nat.pow_le_pow_right (n := 2) (by omega) hl)
  rw [List.any_eq_true]
  constructor
  · rintro ⟨x, hx, ho⟩
    obtain ⟨m, i, hm, hi, hb, rfl⟩ := mem_labs h hx
    simp only [opensAt, opens, Bool.and_eq_true, beq_iff_eq, bne_iff_ne, decide_eq_true_eq, Int.toNat_natCast] at ho
    obtain ⟨h1, h2, h3, h4⟩ := ho
    have hmE : m = 2 ^ v.length - 1 := by omega
    have hk := List.getElem?_eq_getElem hi
    rw [hk, Option.getD_some] at h3 h4
    obtain ⟨c, c1, c2, c3⟩ := (lab_least hc m hm i _ hk).2 h2
    obtain ⟨-, k2, hk2, hca⟩ := (hits_inv hc c1).2.2 i rfl
    rw [hk] at hk2; injection hk2 with hk2; subst hk2
    have hcb : c.bits = 2 ^ v.length - 1 := by rw [c2, hmE]
    exact ⟨_, hits_ends c1 (.home ⟨hcb, by rw [hca, hcb]; exact h3, by rw [hca, hcb, c3]; exact h4, rfl⟩)⟩
  · rintro ⟨t, ht⟩
    obtain ⟨o, c, c1, hH⟩ := ends_hits ht none .first
    obtain ⟨g1, g2, g3, -⟩ := hH
    cases o with
    | none =>
      have := (hits_inv hc c1).2.1 rfl
      subst this
      have g1 : 0 = 2 ^ v.length - 1 := g1
      omega
    | some i =>
      obtain ⟨hb, k, hk, hca⟩ := (hits_inv hc c1).2.2 i rfl
      have hi := (List.getElem?_eq_some_iff.1 hk).1
      have hm := (hits_inv hc c1).1
      obtain ⟨a1, a2⟩ := (lab_least hc c.bits hm i k hk).1 c c1 rfl
      refine ⟨_, labs_mem h hm hi hb, ?_⟩
      simp only [opensAt, opens, Bool.and_eq_true, beq_iff_eq, bne_iff_ne, decide_eq_true_eq, Int.toNat_natCast]
      rw [hk, Option.getD_some, ← g1, ← hca]
      exact ⟨rfl, a1, g2, by omega⟩

/-- The law of RouteProves. -/
theorem proves_law (h : ok31 nd l s r v = true) (hv : v ≠ []) : blocks nd l s r v (labs nd l s r v) = (best nd l s r v).isNone := by
  have hl : (v.length == 0) = false := by cases v with | nil => exact absurd rfl hv | cons a b => simp
  have h1 : blocks nd l s r v (labs nd l s r v) = !((labs nd l s r v).any (opensAt nd l s r v (2 ^ v.length - 1))) := by
    unfold blocks
    rw [h, hl, decide_eq_true rfl]
    simp
  rw [h1]
  have h2 := opens_ends h hv
  have h3 := best_none (case31 h)
  cases hb : best nd l s r v with
  | none =>
    have h4 := h3.1 hb
    cases ha : (labs nd l s r v).any (opensAt nd l s r v (2 ^ v.length - 1)) with
    | false => rfl
    | true =>
      obtain ⟨t, ht⟩ := h2.1 ha
      exact absurd ht (h4 t)
  | some t =>
    cases ha : (labs nd l s r v).any (opensAt nd l s r v (2 ^ v.length - 1)) with
    | true => rfl
    | false =>
      have h4 : best nd l s r v = none := h3.2 (fun t ht => by
        have := h2.2 ⟨t, ht⟩
        rw [ha] at this; cases this)
      rw [hb] at h4; cases h4
end
end K
end Go.Proofs.YtippdjmpkafifaaGreat
namespace Go.Proofs.YtippdjmpkafifaaGreat
open Go.RowKit
namespace K
/-- A set in order: its numbers are in their bounds, behind p, and each one is less than those behind it. -/
theorem setGo_iff {nd : Int} {r : List Q} : ∀ (v : List Int) (p : Int), setGo nd r p v = true ↔ (∀ k ∈ v, 0 ≤ k ∧ k < (r.length : Int) ∧ p < k ∧ (req r k).node < nd) ∧ v.Pairwise (· < ·)
  | [], p => by simp [setGo]
  | i :: v, p => by
    simp only [setGo, Bool.and_eq_true, decide_eq_true_eq, setGo_iff v i, List.pairwise_cons]
    constructor
    · rintro ⟨h1, h2, h3, h4, h5, h6⟩
      refine ⟨fun k hk => ?_, fun k hk => (h5 k hk).2.2.1, h6⟩
      rcases List.mem_cons.1 hk with rfl | hk
      · exact ⟨h1, h2, h3, h4⟩
      · obtain ⟨a, b, c, d⟩ := h5 k hk
        exact ⟨a, b, by omega, d⟩
    · rintro ⟨h1, h2, h3⟩
      obtain ⟨a, b, c, d⟩ := h1 i (List.mem_cons_self ..)
      refine ⟨a, b, c, d, fun k hk => ?_, h3⟩
      obtain ⟨e1, e2, e3, e4⟩ := h1 k (List.mem_cons_of_mem _ hk)
      exact ⟨e1, e2, h2 k hk, e4⟩
theorem ok31_sub {nd : Int} {l : List Ro} {s : S} {r : List Q} {v v' : List Int} (h : ok31 nd l s r v = true) (hs : v'.Sublist v) : ok31 nd l s r v' = true := by
  unfold ok31 at h ⊢
  simp only [Bool.and_eq_true, beq_iff_eq, decide_eq_true_eq] at h ⊢
  obtain ⟨h1, h2, h3, h4, h5, h6⟩ := h
  obtain ⟨g1, g2⟩ := (setGo_iff v (-1)).1 h6
  exact ⟨h1, h2, h3, h4, Nat.le_trans hs.length_le h5, (setGo_iff v' (-1)).2 ⟨fun k hk => g1 k (hs.subset hk), g2.sublist hs⟩⟩
/-- A part of a right set is right. -/
theorem ok31_part {nd : Int} {l : List Ro} {s : S} {r : List Q} {v : List Int} (m : Nat) (h : ok31 nd l s r v = true) : ok31 nd l s r (part v m) = true := ok31_sub h (part_sub v m)
end K
end Go.Proofs.YtippdjmpkafifaaGreat
namespace Go.Proofs.YtippdjmpkafifaaGreat
open Go.RowKit

theorem T.room_perm {r : List Q} {j : Int} {a b : List Int} (h : a.Perm b) : T.room r j a = T.room r j b := by
  induction h with
  | nil => rfl
  | cons x _ ih => simp [T.room, ih]
  | swap x y l => simp [T.room]; omega
  | trans _ _ ih1 ih2 => exact ih1.trans ih2
theorem T.load_perm {s : S} {r : List Q} {a b : List Int} (h : a.Perm b) : T.load s r a = T.load s r b := by
  have h1 : T.isSet (r.length : Int) a = T.isSet (r.length : Int) b := by
    rw [Bool.eq_iff_iff, T.isSet_iff, T.isSet_iff]
    exact ⟨fun ⟨g1, g2⟩ => ⟨fun x hx => g1 x (h.mem_iff.2 hx), h.nodup_iff.1 g2⟩, fun ⟨g1, g2⟩ => ⟨fun x hx => g1 x (h.mem_iff.1 hx), h.nodup_iff.2 g2⟩⟩
  unfold T.load
  rw [h1]
theorem T.loads_perm {r : List Q} {a b : List Int} (h : a.Perm b) : T.loads r a = T.loads r b := by
  unfold T.loads
  rw [T.room_perm h, T.room_perm h, T.room_perm h]
theorem T.weight_perm {s : S} {r : List Q} {a b : List Int} (h : a.Perm b) : T.weight s r a = T.weight s r b := by
  unfold T.weight
  rw [T.load_perm h, T.loads_perm h]
theorem T.fits_perm {s : S} {r : List Q} {a b : List Int} (h : a.Perm b) : T.fits s r a = T.fits s r b := by
  unfold T.fits
  rw [T.load_perm h, T.loads_perm h]

namespace K
/-- One more element of a part. -/
theorem part_add : ∀ (v : List Int) (m i : Nat) (k : Int), v[i]? = some k → m.testBit i = false → (part v (m + 2 ^ i)).Perm (part v m ++ [k])
  | [], _, _, _, h, _ => by simp at h
  | x :: r, m, 0, k, h, hb => by
    simp at h
    subst h
    rw [Nat.testBit_zero] at hb
    have h0 : m % 2 = 0 := by simpa using hb
    have h1 : (m + 2 ^ 0).testBit 0 = true := by rw [Nat.testBit_zero]; simp; omega
    have h2 : m.testBit 0 = false := by rw [Nat.testBit_zero]; exact hb
    have h3 : (m + 2 ^ 0) / 2 = m / 2 := by simp; omega
    simp only [part, h1, h2, h3, if_true, Bool.false_eq_true, if_false]
    exact (List.perm_append_singleton x _).symm
  | x :: r, m, i + 1, k, h, hb => by
    have hk : r[i]? = some k := by simpa using h
    have hb2 : (m / 2).testBit i = false := by rw [← Nat.testBit_succ]; exact hb
    have hp := part_add r (m / 2) i k hk hb2
    have hpw : 2 ^ (i + 1) = 2 * 2 ^ i := by rw [Nat.pow_succ]; omega
    have h1 : (m + 2 ^ (i + 1)).testBit 0 = m.testBit 0 := by rw [Nat.testBit_zero, Nat.testBit_zero, hpw]; simp
    have h3 : (m + 2 ^ (i + 1)) / 2 = m / 2 + 2 ^ i := by rw [hpw]; omega
    simp only [part, h1, h3]
    split
    · exact hp.cons x
    · exact hp

section
variable {nd : Int} {l : List Ro} {s : S} {r : List Q} {v : List Int}
/-- The stops of a state that can be reached are those of its part. -/
theorem hits_stops {o : Option Nat} {c : St} (h : Hits nd l s r v o c) : c.stops.Perm (part v c.bits) := by
  induction h with
  | first =>
    have h0 : ∀ v : List Int, part v 0 = [] := fun v => by
      induction v with
      | nil => rfl
      | cons x r ih => simp [part, ih]
    show ([] : List Int).Perm (part v 0)
    rw [h0]
  | step h hk ho ih =>
    obtain ⟨h1, -, -, e⟩ := onward_some ho
    rw [e]
    exact (ih.append_right _).trans (part_add _ _ _ _ hk h1).symm
end
end K
end Go.Proofs.YtippdjmpkafifaaGreat
namespace Go.Proofs.YtippdjmpkafifaaGreat
open Go.RowKit
namespace K
section
variable {nd : Int} {l : List Ro} {s : S} {r : List Q} {v : List Int}

/-- A step of the search is a leg of a round. -/
theorem leg_of_onward {c c' : St} {i : Nat} {k : Int} (hp : c.stops.Perm (part v c.bits)) (hk : v[i]? = some k) (ho : onward nd l s r v c i k = some c') :
    (leg nd l s r c.stops k c.a c.t).2 = 0 ∧ c'.a = (req r k).node ∧ c'.t = (leg nd l s r c.stops k c.a c.t).1 + (req r k).service ∧ c'.stops = c.stops ++ [k] ∧ c'.times = c.times ++ [(leg nd l s r c.stops k c.a c.t).1] := by
  obtain ⟨h1, h2, h3, e⟩ := onward_some ho
  have hw : T.weight s r c.stops = T.weight s r (part v c.bits) := T.weight_perm hp
  have hf : T.fits s r (c.stops ++ [k]) = T.fits s r (part v (c.bits + 2 ^ i)) := T.fits_perm ((hp.append_right [k]).trans (part_add _ _ _ _ hk h1).symm)
  obtain ⟨hc, hft, he, -, -, hend, -⟩ := begins_ok h3
  have g1 : ¬ s.day < (req r k).frm := fun h => hc ▸ (.inl h)
  have g2 : ¬ (req r k).by_ < s.day := fun h => hc ▸ (.inr (.inl h))
  have g3 : ¬ s.end_ < c.t + way nd l c.a (T.weight s r (part v c.bits)) (req r k).node := fun h => hc ▸ (.inr (.inr (.inl h)))
  have g4 : ¬ T.fits s r (part v (c.bits + 2 ^ i)) = false := fun h => hc ▸ (.inr (.inr (.inr h)))
  have hr : reach nd l s r c.stops c.a c.t (req r k).node = (c.t + way nd l c.a (T.weight s r (part v c.bits)) (req r k).node, 0) := by
    unfold reach
    rw [hw, if_neg h2, if_neg g3]
  have hl : leg nd l s r c.stops k c.a c.t = ((begins s r (req r k) (part v (c.bits + 2 ^ i)) (c.t + way nd l c.a (T.weight s r (part v c.bits)) (req r k).node)).1, 0) := by
    unfold leg
    rw [if_neg (fun h => h.elim g1 g2), if_neg (by rw [hf]; exact g4), hr]
    dsimp only
    rw [if_neg (by simp), if_neg (by rw [hft]; simp), if_neg (by rw [he] at hend; omega), he]
  rw [hl, e]
  exact ⟨rfl, rfl, rfl, rfl, rfl⟩
end
end K
end Go.Proofs.YtippdjmpkafifaaGreat
namespace Go.Proofs.YtippdjmpkafifaaGreat
open Go.RowKit
namespace K
section
variable {nd : Int} {l : List Ro} {s : S} {r : List Q} {v : List Int}

theorem legs_snoc {k : Int} : ∀ (o served : List Int) (a t : Int), (legs nd l s r served a t o).e = 0 → (leg nd l s r (served ++ o) k (legs nd l s r served a t o).a (legs nd l s r served a t o).t).2 = 0 →
    legs nd l s r served a t (o ++ [k]) = ⟨(legs nd l s r served a t o).times ++ [(leg nd l s r (served ++ o) k (legs nd l s r served a t o).a (legs nd l s r served a t o).t).1], (req r k).node, (leg nd l s r (served ++ o) k (legs nd l s r served a t o).a (legs nd l s r served a t o).t).1 + (req r k).service, 0⟩
  | [], served, a, t, _, h2 => by
    simp only [List.append_nil, legs] at h2
    simp [legs, h2]
  | i :: o, served, a, t, h1, h2 => by
    by_cases h : (leg nd l s r served i a t).2 = 0
    · have e1 : legs nd l s r served a t (i :: o) = ⟨(leg nd l s r served i a t).1 :: (legs nd l s r (served ++ [i]) (req r i).node ((leg nd l s r served i a t).1 + (req r i).service) o).times, (legs nd l s r (served ++ [i]) (req r i).node ((leg nd l s r served i a t).1 + (req r i).service) o).a, (legs nd l s r (served ++ [i]) (req r i).node ((leg nd l s r served i a t).1 + (req r i).service) o).t, (legs nd l s r (served ++ [i]) (req r i).node ((leg nd l s r served i a t).1 + (req r i).service) o).e⟩ := by
        conv => lhs; unfold legs
        rw [if_neg (by rw [h]; simp)]
      rw [e1] at h1 h2 ⊢
      dsimp only at h1 h2 ⊢
      have hsv : served ++ i :: o = (served ++ [i]) ++ o := by simp
      rw [hsv] at h2 ⊢
      have ih := legs_snoc (k := k) o (served ++ [i]) (req r i).node ((leg nd l s r served i a t).1 + (req r i).service) h1 h2
      rw [List.cons_append]
      conv => lhs; unfold legs
      rw [if_neg (by rw [h]; simp), ih]
      rfl
    · have e1 : (legs nd l s r served a t (i :: o)).e = (leg nd l s r served i a t).2 := by
        conv => lhs; unfold legs
        rw [if_pos h]
      rw [e1] at h1
      exact absurd h1 h

/-- A state that can be reached is a round driven so far. -/
theorem hits_legs {o : Option Nat} {c : St} (h : Hits nd l s r v o c) : legs nd l s r [] s.depot s.start c.stops = ⟨c.times, c.a, c.t, 0⟩ := by
  induction h with
  | first => rfl
  | step h hk ho ih =>
    obtain ⟨g1, g2, g3, g4, g5⟩ := leg_of_onward (hits_stops h) hk ho
    rw [g4, legs_snoc _ _ _ _ (by rw [ih]) (by rw [ih]; exact g1), ih, g2, g3, g5]
    rfl
end
end K
end Go.Proofs.YtippdjmpkafifaaGreat
namespace Go.Proofs.YtippdjmpkafifaaGreat
open Go.RowKit
namespace K
theorem part_full : ∀ v : List Int, part v (2 ^ v.length - 1) = v
  | [] => rfl
  | x :: r => by
    have h1 : (2 ^ (r.length + 1) - 1).testBit 0 = true := by rw [Nat.testBit_two_pow_sub_one]; simp
    have hpw : 2 ^ (r.length + 1) = 2 * 2 ^ r.length := by rw [Nat.pow_succ]; omega
    have h2 : (2 ^ (r.length + 1) - 1) / 2 = 2 ^ r.length - 1 := by have := Nat.two_pow_pos r.length; omega
    simp only [part, List.length_cons, h1, h2, if_true, part_full r]
theorem right_perm {nd : Int} {l : List Ro} {s : S} {r : List Q} {a b : List Int} (h : a.Perm b) (hr : right nd l s r a = true) : right nd l s r b = true := by
  unfold right at hr ⊢
  rw [← T.load_perm h]
  simp only [Bool.and_eq_true, List.all_eq_true] at hr ⊢
  exact ⟨hr.1, hr.2.1, hr.2.2.1, fun x hx => hr.2.2.2 x (h.mem_iff.2 hx)⟩
section
variable {nd : Int} {l : List Ro} {s : S} {r : List Q} {v : List Int}

/-- A tour of the search is a round over an order of the set. -/
theorem home_run (hok : ok31 nd l s r v = true) {o : Option Nat} {c : St} {t : Tr} (h : Hits nd l s r v o c) (hH : Home nd l s r v c t) :
    t.stops.Perm v ∧ run nd l s r t.stops = ⟨t, 0, t.stops.length⟩ := by
  obtain ⟨h1, h2, h3, rfl⟩ := hH
  have hp : c.stops.Perm v := by
    have := hits_stops h
    rw [h1, part_full] at this
    exact this
  refine ⟨hp, ?_⟩
  have hr : right nd l s r c.stops = true := by
    rw [ok31_eq] at hok
    simp only [Bool.and_eq_true] at hok
    exact right_perm hp.symm hok.2
  have hw : T.weight s r c.stops = T.weight s r (part v c.bits) := T.weight_perm (hits_stops h)
  have hl := hits_legs h
  have hre : reach nd l s r c.stops c.a c.t s.depot = (c.t + way nd l c.a (T.weight s r (part v c.bits)) s.depot, 0) := by
    unfold reach
    rw [hw, if_neg h2, if_neg (by omega)]
  show run nd l s r c.stops = _
  unfold run
  rw [hr, hl]
  dsimp only
  rw [hre, if_neg (by simp), if_neg (by simp), if_neg (by simp)]
end
end K
end Go.Proofs.YtippdjmpkafifaaGreat
namespace Go.Proofs.YtippdjmpkafifaaGreat
open Go.RowKit
namespace K
section
variable {nd : Int} {l : List Ro} {s : S} {r : List Q} {v : List Int}

/-- A leg of a round is a step of the search. -/
theorem onward_of_leg {c : St} {i : Nat} {k : Int} (hp : c.stops.Perm (part v c.bits)) (hk : v[i]? = some k) (hb : c.bits.testBit i = false) (hl : (leg nd l s r c.stops k c.a c.t).2 = 0) : ∃ c', onward nd l s r v c i k = some c' := by
  obtain ⟨l1, l2, l3, l4, l5, l6, l7⟩ := leg_ok hl
  obtain ⟨r1, -, r3, r4⟩ := reach_ok l4
  have hw : T.weight s r c.stops = T.weight s r (part v c.bits) := T.weight_perm hp
  have hf : T.fits s r (c.stops ++ [k]) = T.fits s r (part v (c.bits + 2 ^ i)) := T.fits_perm ((hp.append_right [k]).trans (part_add _ _ _ _ hk hb).symm)
  rw [r3] at l5 l6 r4
  rw [hw] at r1 l5 l6 r4
  rw [hf] at l3
  have hbg : (begins s r (req r k) (part v (c.bits + 2 ^ i)) (c.t + way nd l c.a (T.weight s r (part v c.bits)) (req r k).node)).2 = true := by
    unfold begins
    rw [if_neg (by rintro (h | h | h | h) <;> first | omega | (rw [l3] at h; cases h))]
    simp only [Bool.and_eq_true, decide_eq_true_eq]
    exact ⟨l5, by omega⟩
  unfold onward
  rw [if_neg (by rw [hb]; simp), if_neg r1, if_neg (by rw [hbg]; simp)]
  exact ⟨_, rfl⟩
end
end K
end Go.Proofs.YtippdjmpkafifaaGreat
namespace Go.Proofs.YtippdjmpkafifaaGreat
open Go.RowKit
namespace K
section
variable {nd : Int} {l : List Ro} {s : S} {r : List Q} {v : List Int}

theorem legs_snoc_inv {k : Int} : ∀ (o served : List Int) (a t : Int), (legs nd l s r served a t (o ++ [k])).e = 0 →
    (legs nd l s r served a t o).e = 0 ∧ (leg nd l s r (served ++ o) k (legs nd l s r served a t o).a (legs nd l s r served a t o).t).2 = 0
  | [], served, a, t, h => by
    by_cases h2 : (leg nd l s r served k a t).2 = 0
    · simp only [List.append_nil, legs]
      exact ⟨trivial, h2⟩
    · simp [legs, h2] at h
  | i :: o, served, a, t, h => by
    rw [List.cons_append] at h
    by_cases h2 : (leg nd l s r served i a t).2 = 0
    · have e1 : ∀ o', legs nd l s r served a t (i :: o') = ⟨(leg nd l s r served i a t).1 :: (legs nd l s r (served ++ [i]) (req r i).node ((leg nd l s r served i a t).1 + (req r i).service) o').times, (legs nd l s r (served ++ [i]) (req r i).node ((leg nd l s r served i a t).1 + (req r i).service) o').a, (legs nd l s r (served ++ [i]) (req r i).node ((leg nd l s r served i a t).1 + (req r i).service) o').t, (legs nd l s r (served ++ [i]) (req r i).node ((leg nd l s r served i a t).1 + (req r i).service) o').e⟩ := fun o' => by
        conv => lhs; unfold legs
        rw [if_neg (by rw [h2]; simp)]
      rw [e1] at h ⊢
      dsimp only at h ⊢
      have ih := legs_snoc_inv (k := k) o (served ++ [i]) (req r i).node ((leg nd l s r served i a t).1 + (req r i).service) h
      rw [show served ++ i :: o = (served ++ [i]) ++ o by simp]
      exact ih
    · have e1 : (legs nd l s r served a t (i :: (o ++ [k]))).e = (leg nd l s r served i a t).2 := by
        conv => lhs; unfold legs
        rw [if_pos h2]
      rw [e1] at h
      exact absurd h h2

theorem part_mem : ∀ (v : List Int) (m i : Nat) (k : Int), v[i]? = some k → m.testBit i = true → k ∈ part v m
  | [], _, _, _, h, _ => by simp at h
  | x :: r, m, 0, k, h, hb => by
    simp at h
    subst h
    simp only [part, hb, if_true]
    exact List.mem_cons_self ..
  | x :: r, m, i + 1, k, h, hb => by
    have hk : r[i]? = some k := by simpa using h
    have hb2 : (m / 2).testBit i = true := by rw [← Nat.testBit_succ]; exact hb
    have ih := part_mem r (m / 2) i k hk hb2
    simp only [part]
    split
    · exact List.mem_cons_of_mem _ ih
    · exact ih

/-- A round that can be driven so far is a state that the search can reach. -/
theorem legs_hits : ∀ (n : Nat) (o : List Int), o.length = n → o.Nodup → (∀ x ∈ o, x ∈ v) → (legs nd l s r [] s.depot s.start o).e = 0 → ∃ q c, Hits nd l s r v q c ∧ c.stops = o := by
  intro n
  induction n with
  | zero =>
    intro o hn _ _ _
    have : o = [] := List.length_eq_zero_iff.1 hn
    subst this
    exact ⟨none, _, .first, rfl⟩
  | succ n ih =>
    intro o hn hd hm he
    obtain ⟨o', k, rfl⟩ : ∃ o' k, o = o' ++ [k] := by
      rcases List.eq_nil_or_concat o with rfl | ⟨o', k, h⟩
      · simp at hn
      · exact ⟨o', k, by simpa using h⟩
    obtain ⟨h1, h2⟩ := legs_snoc_inv o' [] _ _ he
    rw [List.nil_append] at h2
    rw [List.nodup_append] at hd
    obtain ⟨d1, -, d2⟩ := hd
    obtain ⟨q, c, hc, hs⟩ := ih o' (by simpa using hn) d1 (fun x hx => hm x (List.mem_append.2 (.inl hx))) h1
    obtain ⟨i, hi⟩ := List.mem_iff_getElem?.1 (hm k (List.mem_append.2 (.inr (List.mem_singleton.2 rfl))))
    have hp := hits_stops hc
    have hlg := hits_legs hc
    rw [hs] at hlg
    rw [hlg] at h2
    have hb : c.bits.testBit i = false := by
      cases hb : c.bits.testBit i with
      | false => rfl
      | true =>
        have h3 := hp.mem_iff.2 (part_mem v c.bits i k hi hb)
        rw [hs] at h3
        exact absurd rfl (d2 k h3 k (List.mem_singleton.2 rfl))
    obtain ⟨c', ho⟩ := onward_of_leg hp hi hb (by rw [hs]; exact h2)
    exact ⟨_, c', .step hc hi ho, by rw [(leg_of_onward hp hi ho).2.2.2.1, hs]⟩
end
end K
end Go.Proofs.YtippdjmpkafifaaGreat
namespace Go.Proofs.YtippdjmpkafifaaGreat
open Go.RowKit
namespace K
theorem part_all : ∀ (v : List Int) (m : Nat), m < 2 ^ v.length → (part v m).length = v.length → m = 2 ^ v.length - 1
  | [], m, h, _ => by simp at h; subst h; rfl
  | x :: r, m, h, hl => by
    have hpw : 2 ^ (r.length + 1) = 2 * 2 ^ r.length := by rw [Nat.pow_succ]; omega
    rw [List.length_cons, hpw] at h
    rw [List.length_cons, hpw]
    have hp := Nat.two_pow_pos r.length
    cases hb : m.testBit 0 with
    | true =>
      simp only [part, hb, if_true, List.length_cons] at hl
      have ih := part_all r (m / 2) (by omega) (by omega)
      rw [Nat.testBit_zero] at hb
      have : m % 2 = 1 := by simpa using hb
      omega
    | false =>
      simp only [part, hb, Bool.false_eq_true, if_false, List.length_cons] at hl
      have := part_len r (m / 2)
      omega
section
variable {nd : Int} {l : List Ro} {s : S} {r : List Q} {v : List Int}

/-- A round over an order of the set that can be driven is a tour of the search. -/
theorem run_home (hok : ok31 nd l s r v = true) {o : List Int} (hp : o.Perm v) (he : (run nd l s r o).e = 0) : ∃ q c, Hits nd l s r v q c ∧ Home nd l s r v c (run nd l s r o).tour ∧ c.stops = o := by
  have hc := case31 hok
  obtain ⟨h1, h2, h3, h4⟩ := run_ok he
  have hnd : v.Nodup := by
    rw [ok31_eq] at hok
    simp only [Bool.and_eq_true] at hok
    exact (T.isSet_iff.1 (T.load_parts (right_parts hok.2).2.1).2.1).2
  obtain ⟨q, c, hh, hs⟩ := legs_hits (nd := nd) (l := l) (s := s) (r := r) (v := v) o.length o rfl (hp.nodup_iff.2 hnd) (fun x hx => hp.mem_iff.1 hx) h2
  have hlg := hits_legs hh
  rw [hs] at hlg
  have hps := hits_stops hh
  rw [hs] at hps
  have hbits : c.bits = 2 ^ v.length - 1 := part_all v c.bits (hits_inv hc hh).1 (by rw [← hps.length_eq, hp.length_eq])
  have hw : T.weight s r o = T.weight s r (part v c.bits) := T.weight_perm hps
  have hb : back nd l s r o = reach nd l s r o c.a c.t s.depot := by unfold back all; rw [hlg]
  rw [hb] at h3
  obtain ⟨r1, -, r3, r4⟩ := reach_ok h3
  rw [r3] at r4
  rw [hw] at r1 r3 r4
  refine ⟨q, c, hh, ⟨hbits, r1, r4, ?_⟩, hs⟩
  rw [h4, hb, r3, hs]
  unfold all
  rw [hlg]
end
end K
end Go.Proofs.YtippdjmpkafifaaGreat
namespace Go.Proofs.YtippdjmpkafifaaGreat
open Go.RowKit
namespace K
section
variable {nd : Int} {l : List Ro} {s : S} {r : List Q} {v : List Int}

theorem run_sub {o' o : List Int} (h : o'.Sublist o) : ∀ pre : List Int, (run nd l s r (pre ++ o)).e = 0 → (run nd l s r (pre ++ o')).e = 0 ∧ (run nd l s r (pre ++ o')).tour.end_ ≤ (run nd l s r (pre ++ o)).tour.end_ := by
  induction h with
  | slnil => exact fun pre h => ⟨h, Int.le_refl _⟩
  | cons a _ ih =>
    intro pre h
    obtain ⟨⟨h1, h2⟩, -⟩ := skips h
    obtain ⟨h3, h4⟩ := ih pre h1
    exact ⟨h3, Int.le_trans h4 h2⟩
  | cons_cons a _ ih =>
    intro pre h
    have h2 := ih (pre ++ [a])
    simp only [List.append_assoc, List.singleton_append] at h2
    exact h2 h

/-- The law of RouteLess. -/
theorem less_law (hok : ok31 nd l s r v = true) (m : Nat) {t : Tr} (hb : best nd l s r v = some t) : ∃ u, best nd l s r (part v m) = some u ∧ u.end_ ≤ t.end_ := by
  have hc := case31 hok
  have hok2 := ok31_part m hok
  have hE : Ends nd l s r v (St.first s) t := by
    rcases (best_sees hc).sound t hb with h | h
    · cases h
    · exact h
  obtain ⟨q, c, hh, hH⟩ := ends_hits hE none .first
  obtain ⟨hp, hr⟩ := home_run hok hh hH
  have hnd : v.Nodup := by
    have h := hok
    rw [ok31_eq] at h
    simp only [Bool.and_eq_true] at h
    exact (T.isSet_iff.1 (T.load_parts (right_parts h.2).2.1).2.1).2
  have hsub := part_sub v m
  have hpf : (t.stops.filter fun x => decide (x ∈ part v m)).Perm (part v m) := by
    have h1 := hp.filter fun x => decide (x ∈ part v m)
    refine h1.trans ?_
    refine (List.perm_ext_iff_of_nodup (hnd.filter _) (hnd.sublist hsub)).2 fun x => ?_
    rw [List.mem_filter]
    constructor
    · rintro ⟨-, h⟩; exact of_decide_eq_true h
    · intro h; exact ⟨hsub.subset h, decide_eq_true h⟩
  obtain ⟨g1, g2⟩ := run_sub (nd := nd) (l := l) (s := s) (r := r) (List.filter_sublist (p := fun x => decide (x ∈ part v m)) (l := t.stops)) [] (by rw [List.nil_append, hr])
  rw [List.nil_append, List.nil_append, hr] at g2
  rw [List.nil_append] at g1
  obtain ⟨q2, c2, hh2, hH2, -⟩ := run_home hok2 hpf g1
  obtain ⟨u, hu, hle⟩ := (best_sees (case31 hok2)).least _ (hits_ends hh2 (.home hH2))
  exact ⟨u, hu, Int.le_trans hle g2⟩
end
end K
end Go.Proofs.YtippdjmpkafifaaGreat
namespace Go.Proofs.YtippdjmpkafifaaGreat
open Go.RowKit
namespace K
/-- The place of an element: p, unless it is found from place i on. -/
def placeGo (x : Int) : List Int → Nat → Int → Int
  | [], _, p => p
  | y :: l, i, p => placeGo x l (i + 1) (if y = x then (i : Int) else p)
def place (v : List Int) (x : Int) : Int := placeGo x v 0 (-1)
/-- The bits of the places of an order, and the place of its last element; none if an element has no place. -/
def bitsGo (v : List Int) : List Int → Int → Int → Option (Int × Int)
  | [], b, p => some (b, p)
  | x :: o, b, _ => if place v x < 0 then none else bitsGo v o (b + 2 ^ (place v x).toNat) (place v x)

section
variable {nd : Int} {l : List Ro} {s : S} {r : List Q} {v : List Int}

theorem hits_times (hc : Case31 nd l s r v) {q : Option Nat} {c : St} (h : Hits nd l s r v q c) : c.times.length = c.stops.length ∧ (c.stops ≠ [] → ∃ i k y, q = some i ∧ c.stops[c.stops.length - 1]? = some k ∧ c.times[c.stops.length - 1]? = some y ∧ c.t = y + (req r k).service ∧ v[i]? = some k ∧ 0 ≤ y ∧ y ≤ 1000000) := by
  induction h with
  | first => exact ⟨rfl, fun h => absurd rfl h⟩
  | step h hk ho ih =>
    rename_i o a b i k
    obtain ⟨-, -, h3, e⟩ := onward_some ho
    obtain ⟨b1, b2, b3, b4, b5, b6, b7⟩ := begins_ok h3
    have hsv := (hc.ok k (List.mem_of_getElem? hk)).1
    rw [e]
    dsimp only
    refine ⟨by simp [ih.1], fun _ => ⟨i, k, _, rfl, by simp, by simp [← ih.1], rfl, hk, ?_, ?_⟩⟩
    · omega
    · omega

end
end K
end Go.Proofs.YtippdjmpkafifaaGreat
namespace Go.Proofs.YtippdjmpkafifaaGreat
open Go.RowKit
namespace K
/-- Whether a list is not behind another one. -/
def lexle : List Int → List Int → Bool
  | [], _ => true
  | _ :: _, [] => false
  | a :: x, b :: y => if a = b then lexle x y else decide (a < b)
theorem lexle_refl : ∀ l : List Int, lexle l l = true
  | [] => rfl
  | a :: x => by simp [lexle, lexle_refl x]
theorem lexle_less {a b : Int} (h : a < b) (x y : List Int) : ∀ p : List Int, lexle (p ++ a :: x) (p ++ b :: y) = true
  | [] => by simp [lexle, h]; omega
  | c :: p => by simp [lexle, lexle_less h x y p]
section
variable {nd : Int} {l : List Ro} {s : S} {r : List Q} {v : List Int}

theorem step_stops {a b : St} {i : Nat} {k : Int} (h : onward nd l s r v a i k = some b) : b.stops = a.stops ++ [k] := by
  obtain ⟨-, -, -, e⟩ := onward_some h
  rw [e]
theorem ends_stops {a : St} {t : Tr} (h : Ends nd l s r v a t) : ∃ x, t.stops = a.stops ++ x := by
  induction h with
  | home h => obtain ⟨-, -, -, rfl⟩ := h; exact ⟨[], by simp⟩
  | step h h2 ih =>
    obtain ⟨i, k, -, ho⟩ := h
    obtain ⟨x, hx⟩ := ih
    exact ⟨k :: x, by rw [hx, step_stops ho]; simp⟩

/-- What the search hands back, of the tours in P: the first one of those that end earliest. -/
structure First (P : Tr → Prop) (best R : Option Tr) : Prop where
  sound : ∀ t, R = some t → best = some t ∨ P t
  keeps : ∀ b, best = some b → ∃ t, R = some t ∧ (t = b ∨ t.end_ < b.end_)
  least : ∀ t, P t → ∃ t', R = some t' ∧ t'.end_ ≤ t.end_ ∧ (t'.end_ = t.end_ → best = some t' ∨ lexle t'.stops t.stops = true)

theorem go_first (hs : v.Pairwise (· < ·)) {rec : St → Option Tr → Option Tr} {st : St} (hrec : ∀ st' b, Step nd l s r v st st' → First (Ends nd l s r v st') b (rec st' b)) : ∀ (rest : List Int) (i : Nat) (best : Option Tr), v.drop i = rest →
    First (fun t => ∃ j k st', i ≤ j ∧ v[j]? = some k ∧ onward nd l s r v st j k = some st' ∧ Ends nd l s r v st' t) best (seek.go rec nd l s r v st best i rest) := by
  intro rest
  induction rest with
  | nil =>
    intro i best hd
    refine ⟨fun t h => .inl h, fun b h => ⟨b, h, .inl rfl⟩, ?_⟩
    rintro t ⟨j, k, st', hj, hk, -⟩
    have h1 := (List.getElem?_eq_some_iff.1 hk).1
    have h2 : v.length ≤ i := by simpa using hd
    omega
  | cons k rest ih =>
    intro i best hd
    have hk : v[i]? = some k := by
      have h1 : (v.drop i)[0]? = some k := by rw [hd]; rfl
      simpa using h1
    have hd2 : v.drop (i + 1) = rest := by
      have h1 : (v.drop i).drop 1 = rest := by rw [hd]; rfl
      simpa [List.drop_drop] using h1
    unfold seek.go
    cases ho : onward nd l s r v st i k with
    | none =>
      obtain ⟨a1, a2, a3⟩ := ih (i + 1) best hd2
      refine ⟨fun t h => (a1 t h).imp id ?_, a2, ?_⟩
      · rintro ⟨j, k', st', hj, h⟩
        exact ⟨j, k', st', by omega, h⟩
      · rintro t ⟨j, k', st', hj, hk', ho', he⟩
        refine a3 t ⟨j, k', st', ?_, hk', ho', he⟩
        rcases Nat.eq_or_lt_of_le hj with rfl | hj
        · rw [hk] at hk'; injection hk' with hk'; subst hk'; rw [ho] at ho'; cases ho'
        · omega
    | some st1 =>
      obtain ⟨b1, b2, b3⟩ := hrec st1 best ⟨i, k, hk, ho⟩
      obtain ⟨a1, a2, a3⟩ := ih (i + 1) (rec st1 best) hd2
      refine ⟨fun t h => ?_, fun b h => ?_, ?_⟩
      · rcases a1 t h with h | ⟨j, k', st', hj, h⟩
        · exact (b1 t h).imp id fun h => ⟨i, k, st1, Nat.le_refl _, hk, ho, h⟩
        · exact .inr ⟨j, k', st', by omega, h⟩
      · obtain ⟨t, h1, h2⟩ := b2 b h
        obtain ⟨t', h3, h4⟩ := a2 t h1
        refine ⟨t', h3, ?_⟩
        rcases h4 with rfl | h4
        · exact h2
        · rcases h2 with rfl | h2
          · exact .inr h4
          · exact .inr (by omega)
      · rintro t ⟨j, k', st', hj, hk', ho', he⟩
        rcases Nat.eq_or_lt_of_le hj with rfl | hj
        · rw [hk] at hk'; injection hk' with hk'; subst hk'; rw [ho] at ho'; injection ho' with ho'; subst ho'
          obtain ⟨t1, h1, h2, h5⟩ := b3 t he
          obtain ⟨t', h3, h4⟩ := a2 t1 h1
          refine ⟨t', h3, ?_, fun heq => ?_⟩
          · rcases h4 with rfl | h4 <;> omega
          · rcases h4 with rfl | h4
            · exact h5 heq
            · omega
        · obtain ⟨t', h3, h4, h5⟩ := a3 t ⟨j, k', st', by omega, hk', ho', he⟩
          refine ⟨t', h3, h4, fun heq => ?_⟩
          rcases h5 heq with h6 | h6
          · rcases b1 t' h6 with h7 | h7
            · exact .inl h7
            · refine .inr ?_
              obtain ⟨x, hx⟩ := ends_stops h7
              obtain ⟨y, hy⟩ := ends_stops he
              rw [hx, hy, step_stops ho, step_stops ho']
              have hlt : k < k' := by
                obtain ⟨q1, e1⟩ := List.getElem?_eq_some_iff.1 hk
                obtain ⟨q2, e2⟩ := List.getElem?_eq_some_iff.1 hk'
                rw [← e1, ← e2]
                exact (List.pairwise_iff_getElem.1 hs) i j q1 q2 hj
              simpa using lexle_less hlt x y st.stops
          · exact .inr h6

theorem seek_first (hc : Case31 nd l s r v) (hs : v.Pairwise (· < ·)) : ∀ (f : Nat) (st : St) (best : Option Tr), st.bits < 2 ^ v.length → 2 ^ v.length ≤ st.bits + f → First (Ends nd l s r v st) best (seek nd l s r v f st best) := by
  intro f
  induction f with
  | zero => intro st best h1 h2; omega
  | succ f ih =>
    intro st best hb hf
    unfold seek
    split
    · rename_i hl
      obtain ⟨b, rfl, hle⟩ : ∃ b, best = some b ∧ b.end_ ≤ st.t := by
        cases best with
        | none => simp [late] at hl
        | some b => exact ⟨b, rfl, by simpa [late] using hl⟩
      exact ⟨fun t h => .inl h, fun b' h => ⟨b', h, .inl rfl⟩, fun t h => ⟨b, rfl, Int.le_trans hle (ends_time hc h), fun _ => .inl rfl⟩⟩
    · split
      · rename_i hl hfull
        have hends : ∀ t, Ends nd l s r v st t → Home nd l s r v st t := fun t h => by
          cases h with
          | home h => exact h
          | step h h2 => exact absurd h (full_no_step hfull)
        unfold home
        split
        · rename_i h
          obtain ⟨h1, h2, h3⟩ := h
          refine ⟨fun t ht => .inr (.home ⟨hfull, h1, h2, ?_⟩), fun b hb => ⟨_, rfl, ?_⟩, fun t ht => ⟨_, rfl, ?_⟩⟩
          · injection ht with ht; exact ht.symm
          · subst hb
            simp only [better, decide_eq_true_eq] at h3
            refine .inr ?_
            show _ + _ < _
            omega
          · obtain ⟨-, -, -, rfl⟩ := hends t ht
            exact ⟨Int.le_refl _, fun _ => .inr (lexle_refl _)⟩
        · rename_i h
          refine ⟨fun t h => .inl h, fun b h => ⟨b, h, .inl rfl⟩, fun t ht => ?_⟩
          obtain ⟨-, h1, h2, rfl⟩ := hends t ht
          cases best with
          | none => exact absurd ⟨h1, h2, rfl⟩ h
          | some b =>
            refine ⟨b, rfl, ?_, fun _ => .inl rfl⟩
            have h3 : ¬ better (some b) (st.t + way nd l st.a (T.weight s r (part v st.bits)) s.depot) = true := fun h4 => h ⟨h1, h2, h4⟩
            simp only [better, decide_eq_true_eq] at h3
            show b.end_ ≤ _ + _
            omega
      · rename_i hl hfull
        have hg := go_first (nd := nd) (l := l) (s := s) (r := r) (v := v) hs (rec := seek nd l s r v f) (st := st) (fun st' b h => ih st' b (step_bits hc h hb).1 (by have := (step_bits hc h hb).2; omega)) v 0 best rfl
        refine ⟨fun t h => (hg.sound t h).imp id ?_, hg.keeps, fun t h => ?_⟩
        · rintro ⟨j, k, st', -, hk, ho, he⟩
          exact .step ⟨j, k, hk, ho⟩ he
        · cases h with
          | home h => exact absurd h.1 hfull
          | step h h2 =>
            obtain ⟨j, k, hk, ho⟩ := h
            exact hg.least t ⟨j, k, _, Nat.zero_le _, hk, ho, h2⟩

theorem set_sorted (h : ok31 nd l s r v = true) : v.Pairwise (· < ·) := ((setGo_iff _ _).1 (ok31_parts h).2.2.2.2.2).2

/-- The law of RouteBest: a better tour than an order that can be served. -/
theorem best_law (hok : ok31 nd l s r v = true) {o : List Int} (hp : o.Perm v) (he : (run nd l s r o).e = 0) :
    ∃ t, best nd l s r v = some t ∧ t.end_ ≤ (run nd l s r o).tour.end_ ∧ (t.end_ = (run nd l s r o).tour.end_ → lexle t.stops o = true) := by
  have hc := case31 hok
  obtain ⟨q, c, hh, hH, hst⟩ := run_home hok hp he
  obtain ⟨t, h1, h2, h3⟩ := (seek_first hc (set_sorted hok) _ _ none (Nat.two_pow_pos _) (Nat.le_add_left _ _) : First _ none (best nd l s r v)).least _ (hits_ends hh (.home hH))
  refine ⟨t, h1, h2, fun h4 => ?_⟩
  rcases h3 h4 with h5 | h5
  · cases h5
  · obtain ⟨-, -, -, e⟩ := hH
    rw [e] at h5
    rw [← hst]
    exact h5
theorem best_tour (hok : ok31 nd l s r v = true) {t : Tr} (h : best nd l s r v = some t) : t.stops.Perm v ∧ run nd l s r t.stops = ⟨t, 0, t.stops.length⟩ ∧ t.times.length = t.stops.length := by
  have hE : Ends nd l s r v (St.first s) t := by
    rcases (best_sees (case31 hok)).sound t h with h | h
    · cases h
    · exact h
  obtain ⟨q, c, hh, hH⟩ := ends_hits hE none .first
  obtain ⟨h1, h2⟩ := home_run hok hh hH
  refine ⟨h1, h2, ?_⟩
  obtain ⟨-, -, -, e⟩ := hH
  rw [e]
  exact (hits_times (case31 hok) hh).1
end
end K
end Go.Proofs.YtippdjmpkafifaaGreat

/-
Plain laws of tours: each service of a tour is the earliest one.
-/
namespace Go.Proofs.YtippdjmpkafifaaGreat
open Go.RowKit
namespace K
/-- k requests are served: the truck is at a, at t; ts: all times. -/
def Upto (nd : Int) (l : List Ro) (s : S) (r : List Q) (o ts : List Int) (k : Nat) (a t : Int) : Prop :=
  all nd l s r o = ⟨ts.take k ++ (legs nd l s r (o.take k) a t (o.drop k)).times, (legs nd l s r (o.take k) a t (o.drop k)).a, (legs nd l s r (o.take k) a t (o.drop k)).t, (legs nd l s r (o.take k) a t (o.drop k)).e⟩ ∧ (0 ≤ a ∧ a < nd) ∧ 0 ≤ t ∧ t ≤ s.end_

/-- What holds of the next service. -/
structure Next (nd : Int) (l : List Ro) (s : S) (r : List Q) (o ts : List Int) (k : Nat) (a t i y : Int) : Prop where
  leg : (leg nd l s r (o.take k) i a t).2 = 0
  time : (K.leg nd l s r (o.take k) i a t).1 = y
  next : Upto nd l s r o ts (k + 1) (req r i).node (y + (req r i).service)
  way : 0 ≤ way nd l a (T.weight s r (o.take k)) (req r i).node ∧ t + K.way nd l a (T.weight s r (o.take k)) (req r i).node ≤ y
  fit : H.fit (req r i).l y (req r i).service = (y, true)
  bound : 0 ≤ y ∧ y + (req r i).service ≤ s.end_ ∧ 0 ≤ (req r i).service
  least : ∀ b, (H.fit (req r i).l b (req r i).service).2 = true → (H.fit (req r i).l b (req r i).service).1 = b → t + K.way nd l a (T.weight s r (o.take k)) (req r i).node ≤ b → y ≤ b

theorem next {nd : Int} {l : List Ro} {s : S} {r : List Q} {o : List Int} (h : (run nd l s r o).e = 0) {k : Nat} {a t i y : Int} (hu : Upto nd l s r o (run nd l s r o).tour.times k a t) (hi : o[k]? = some i) (hy : (run nd l s r o).tour.times[k]? = some y) : Next nd l s r o (run nd l s r o).tour.times k a t i y := by
  obtain ⟨h1, h2, h3, h4⟩ := run_ok h
  obtain ⟨ts, hts⟩ : ∃ ts, ts = (run nd l s r o).tour.times := ⟨_, rfl⟩
  rw [← hts] at hu hy ⊢
  have hta : ts = (all nd l s r o).times := by rw [hts, h4]
  obtain ⟨u1, u2, u3, u4⟩ := hu
  have hleg : (leg nd l s r (o.take k) i a t).2 = 0 := by
    by_cases e : (leg nd l s r (o.take k) i a t).2 = 0
    · exact e
    · rw [legs_no hi e] at u1
      rw [u1] at h2
      exact absurd h2 e
  have hok := legs_ok hi hleg
  rw [hok] at u1
  have hkl : (ts.take k).length = k := by
    have := (List.getElem?_eq_some_iff.1 hy).1
    rw [List.length_take]; omega
  have htime : (leg nd l s r (o.take k) i a t).1 = y := by
    have e : ts[k]? = some (leg nd l s r (o.take k) i a t).1 := by
      conv => lhs; rw [hta, u1]
      simp only
      rw [List.getElem?_append_right (by omega), hkl, Nat.sub_self]; rfl
    rw [hy] at e
    injection e with e; exact e.symm
  have hf := fine_right h1 i (List.mem_of_getElem? hi)
  obtain ⟨-, -, l3, l4, l5, l6, l7⟩ := leg_ok hleg
  obtain ⟨r1, r2, r3, r4⟩ := reach_ok l4
  obtain ⟨f1, f2, f3, f4, f5⟩ := H.fit_ok l5
  rw [l6] at htime l7
  rw [htime] at f4 f5 l7
  have hfit : H.fit (req r i).l y (req r i).service = (y, true) := by
    have h2' := (H.first_two f1 (t := (reach nd l s r (o.take k) a t (req r i).node).1) (o := y) (by omega) f3 (by omega)).2 l5 (by rw [htime]; omega)
    rw [htime] at h2'
    exact Prod.ext h2'.2 h2'.1
  refine ⟨hleg, by rw [l6]; exact htime, ⟨?_, hf.1, by omega, l7⟩, ⟨r2, by omega⟩, hfit, ⟨by omega, l7, hf.2⟩, ?_⟩
  · rw [u1, take_snoc hy, l6, htime]
    simp
  · intro b hb1 hb2 hb3
    obtain ⟨g1, g2, g3, g4, g5⟩ := H.fit_ok hb1
    have := ((H.first_two f1 (t := (reach nd l s r (o.take k) a t (req r i).node).1) (o := b) (by omega) f3 (by omega)).1 hb1).2
    rw [htime, hb2] at this
    exact this

/-- The way back. -/
theorem last {nd : Int} {l : List Ro} {s : S} {r : List Q} {o : List Int} (h : (run nd l s r o).e = 0) {a t : Int} (hu : Upto nd l s r o (run nd l s r o).tour.times o.length a t) :
    0 ≤ way nd l a (T.weight s r o) s.depot ∧ (run nd l s r o).tour.end_ = t + way nd l a (T.weight s r o) s.depot ∧ (run nd l s r o).tour.end_ ≤ s.end_ := by
  obtain ⟨h1, h2, h3, h4⟩ := run_ok h
  obtain ⟨u1, -⟩ := hu
  rw [List.take_length, List.drop_length] at u1
  have ea : (all nd l s r o).a = a := by rw [u1]; rfl
  have et : (all nd l s r o).t = t := by rw [u1]; rfl
  unfold back at h3
  rw [ea, et] at h3
  obtain ⟨r1, r2, r3, r4⟩ := reach_ok h3
  have e : (run nd l s r o).tour.end_ = (reach nd l s r o a t s.depot).1 := by
    rw [h4]; unfold back; rw [ea, et]
  rw [e]
  exact ⟨r2, r3, r4⟩
end K
end Go.Proofs.YtippdjmpkafifaaGreat
