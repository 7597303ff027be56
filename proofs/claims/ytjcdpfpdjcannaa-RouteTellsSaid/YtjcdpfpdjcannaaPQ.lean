/-
Routes: the walk of the example.
-/
import Derived.Test.YtjcdpfpdjcannaaPP
import Derived.BigRegion
namespace Go.Proofs.Ytjcdpfpdjcannaa
open Go.RowKit

def K.exL31 : List Ro := [⟨0, 1, 10, -1⟩, ⟨1, 2, 10, -1⟩, ⟨2, 0, 10, -1⟩, ⟨1, 0, 10, -1⟩, ⟨0, 2, 10, -1⟩]
def K.exS31 (A : Option Addr) (c : Nat) : S := ⟨0, 0, 0, 50, 1000, A, 1, c, [1000]⟩
def K.exR31 (A : Option Addr) (c : Nat) (A' : Option Addr) (c' : Nat) : List Q := [⟨1, 0, 100, 5, 0, 0, none, 0, 0, []⟩, ⟨2, 0, 100, 5, 0, 0, A, 1, c, [(0, 20)]⟩, ⟨1, 0, 100, 5, 0, 0, A', 1, c', [(40, 60)]⟩]
theorem K.ex31_cells : ∀ i : Fin 5, ∃ x, K.exL31[i.val]? = some x ∧ x.mins = 10 ∧ x.lim = -1 ∧ (#[Value.int .i64 0, .int .i64 1, .int .i64 1, .int .i64 2, .int .i64 2, .int .i64 0, .int .i64 1, .int .i64 0, .int .i64 0, .int .i64 2] : Array Value)[i.val * 2]? = some (.int .i64 x.fr) ∧
    (#[Value.int .i64 0, .int .i64 1, .int .i64 1, .int .i64 2, .int .i64 2, .int .i64 0, .int .i64 1, .int .i64 0, .int .i64 0, .int .i64 2] : Array Value)[i.val * 2 + 1]? = some (.int .i64 x.tt) := fun i => by
  obtain ⟨i, hi⟩ := i
  rcases (show i = 0 ∨ i = 1 ∨ i = 2 ∨ i = 3 ∨ i = 4 by omega) with rfl | rfl | rfl | rfl | rfl <;> exact ⟨_, rfl, rfl, rfl, rfl, rfl⟩
theorem Try.info108 : (Try.prog.info? 108).map (fun i => (i.zero, i.size, i.bytes)) = some (some (.agg #[.int .i64 0, .int .i64 0, .int .i64 0, .int .i64 0]), 4, 32) := by kernel_rfl

/-- What holds ahead of each round: w4 is the world in which the loop began. -/
structure ExRel (w4 : World) (g : Nat) (i : Nat) (A : Option Addr) (c : Nat) (wr : World) : Prop where
  net : wr.heap[g]? = some (.cells #[.int .i64 3, .slice A i c] 24 (0, 0))
  own : wr.ownsRow w4.heap.size 108 4 (.slice A i c) i ((K.exL31.take i).flatMap roadCells)
  grown : w4.grownBy wr (some g)

theorem sets_two {w8 : World} {b : Nat} (h0 : w8.heap[b]? = some (.cells #[.int .i64 0, .slice none 0 0] 24 (0, 0))) (h1 : w8.heap[b + 1]? = some (.cells #[.int .i64 0, .int .i64 0, .int .i64 0, .int .i64 0, .int .i64 0, .slice none 0 0] 27 (0, 0))) (v0 v1 u0 u1 u2 u3 u4 u5 : Value) :
    (Sets w8 [(⟨b, 0, none⟩, v0), (⟨b, 1, none⟩, v1), (⟨b + 1, 0, none⟩, u0), (⟨b + 1, 1, none⟩, u1), (⟨b + 1, 2, none⟩, u2), (⟨b + 1, 3, none⟩, u3), (⟨b + 1, 4, none⟩, u4), (⟨b + 1, 5, none⟩, u5)]).heap[b]? = some (.cells #[v0, v1] 24 (0, 0)) ∧
    (Sets w8 [(⟨b, 0, none⟩, v0), (⟨b, 1, none⟩, v1), (⟨b + 1, 0, none⟩, u0), (⟨b + 1, 1, none⟩, u1), (⟨b + 1, 2, none⟩, u2), (⟨b + 1, 3, none⟩, u3), (⟨b + 1, 4, none⟩, u4), (⟨b + 1, 5, none⟩, u5)]).heap[b + 1]? = some (.cells #[u0, u1, u2, u3, u4, u5] 27 (0, 0)) := by
  have a1 := blk_set (blk_set h0 0 v0) 1 v1
  obtain ⟨wa, hwa⟩ : ∃ wa : World, wa = (w8.setCell ⟨b, 0, none⟩ v0).setCell ⟨b, 1, none⟩ v1 := ⟨_, rfl⟩
  have b1 : wa.heap[b + 1]? = some (.cells #[.int .i64 0, .int .i64 0, .int .i64 0, .int .i64 0, .int .i64 0, .slice none 0 0] 27 (0, 0)) := by
    rw [hwa]
    exact blk_other (blk_other h1 _ (by omega)) _ (by omega)
  simp only [Sets]
  rw [← hwa] at a1 ⊢
  clear hwa
  refine ⟨?_, ?_⟩
  · exact blk_other (blk_other (blk_other (blk_other (blk_other (blk_other a1 _ (by omega)) _ (by omega)) _ (by omega)) _ (by omega)) _ (by omega)) _ (by omega)
  · exact blk_set (blk_set (blk_set (blk_set (blk_set (blk_set b1 0 _) 1 _) 2 _) 3 _) 4 _) 5 _

/-- The example. -/
def IsEx31 (x : C) : Prop := ∃ A c A2 c2 A3 c3 A4 c4 B d, x = ⟨3, A, 5, c, K.exL31, K.exS31 A2 c2, B, 3, d, K.exR31 A3 c3 A4 c4⟩

theorem ownsRow_of {w w' : World} {base : Nat} {e : TypeId} {size n : Nat} {v : Value} {xs : List Value} (h : w.ownsRow base e size v n xs) (hk : ∀ g o, w.heap[g]? = some o → base ≤ g → w'.heap[g]? = some o) : w'.ownsRow base e size v n xs := by
  obtain ⟨hl, h1 | ⟨g, cap, cur, h1, h2, h3, h4⟩⟩ := h
  · exact ⟨hl, .inl h1⟩
  · exact ⟨hl, .inr ⟨g, cap, cur, h1, h2, hk _ _ h3 h2, h4⟩⟩

theorem ex31_fin {w W : World} {A : Option Addr} {c base ga gb g1 g2 : Nat} (hr : W.ownsRow base 108 4 (.slice A 5 c) 5 ((K.exL31.take 5).flatMap roadCells)) (h1 : W.heap[g1]? = some (.cells #[.int .i64 1000] 3 (0, 0))) (ha : W.heap[ga]? = some (.cells #[.int .i64 0, .int .i64 20] 85 (0, 0))) (hb' : W.heap[gb]? = some (.cells #[.int .i64 40, .int .i64 60] 85 (0, 0)))
    (h2 : W.heap[g2]? = some (.cells #[.int .i64 1, .int .i64 0, .int .i64 100, .int .i64 5, .int .i64 0, .int .i64 0, .slice none 0 0, .int .i64 2, .int .i64 0, .int .i64 100, .int .i64 5, .int .i64 0, .int .i64 0, .slice (some ⟨ga, 0, none⟩) 1 1, .int .i64 1, .int .i64 0, .int .i64 100, .int .i64 5, .int .i64 0, .int .i64 0, .slice (some ⟨gb, 0, none⟩) 1 1] 41 (0, 0))) (hb : Below w.heap.size w W) :
    ∃ x, IsEx31 x ∧ At W.drew x ∧ Ending.returned (.tuple #[.agg #[.int .i64 3, .slice A 5 c], .agg #[.int .i64 0, .int .i64 0, .int .i64 0, .int .i64 50, .int .i64 1000, .slice (some ⟨g1, 0, none⟩) 1 1], .slice (some ⟨g2, 0, none⟩) 3 3]) =
      .returned (.tuple #[.agg #[.int .i64 x.nd, .slice x.A x.n x.c], .agg #[.int .i64 x.s.day, .int .i64 x.s.depot, .int .i64 x.s.start, .int .i64 x.s.end_, .int .i64 x.s.tare, .slice x.s.A x.s.n x.s.c], .slice x.B x.m x.d]) ∧ Below w.heap.size w W.drew := by
  obtain ⟨A', c', e, hRd, -⟩ := own_form hr
  injection e with e1 e2 e3
  subst e1
  refine ⟨⟨3, A, 5, c, K.exL31, K.exS31 (some ⟨g1, 0, none⟩) 1, some ⟨g2, 0, none⟩, 3, 3, K.exR31 (some ⟨ga, 0, none⟩) 1 (some ⟨gb, 0, none⟩) 1⟩, ⟨_, _, _, _, _, _, _, _, _, _, rfl⟩, ?_, rfl, hb.drew⟩
  refine At.below ⟨⟨rfl, hRd⟩, ⟨rfl, Rd.of_block h1 1 1 rfl⟩, ⟨rfl, Rd.of_block (cs := (reqCells (K.exR31 (some ⟨ga, 0, none⟩) 1 (some ⟨gb, 0, none⟩) 1)).toArray) h2 7 3 rfl, fun q hq => ?_⟩, show 5 ≤ 1000000000 by decide, show 1 ≤ 1000000000 by decide, show 3 ≤ 1000000000 by decide, fun q hq => ?_⟩ (Below.refl _ _).drew
  · simp only [K.exR31, List.mem_cons, List.not_mem_nil, or_false] at hq
    rcases hq with rfl | rfl | rfl
    · exact ⟨rfl, rfl, fun h => absurd h (by show ¬ 0 < 0; omega)⟩
    · exact ⟨rfl, Rd.of_block ha 2 1 rfl⟩
    · exact ⟨rfl, Rd.of_block hb' 2 1 rfl⟩
  · simp only [K.exR31, List.mem_cons, List.not_mem_nil, or_false] at hq
    rcases hq with rfl | rfl | rfl <;> simp

set_option maxRecDepth 100000 in
set_option maxHeartbeats 4000000 in
theorem example31_any (w : World) :
    Calls Try.prog 59 #[] w fun e w' => ∃ x, IsEx31 x ∧ At w' x ∧ e = .returned (.tuple #[.agg #[.int .i64 x.nd, .slice x.A x.n x.c], .agg #[.int .i64 x.s.day, .int .i64 x.s.depot, .int .i64 x.s.start, .int .i64 x.s.end_, .int .i64 x.s.tare, .slice x.s.A x.s.n x.s.c], .slice x.B x.m x.d]) ∧ Below w.heap.size w w' := by
  go_enter Try.func59, Try.ntmps59
  go_wp2_with fail
  obtain ⟨l4, hl4⟩ : ∃ l4 : List Obj, l4 = [.cells #[.int .i64 0, .slice none 0 0] 24, .cells #[.int .i64 0, .int .i64 0, .int .i64 0, .int .i64 0, .int .i64 0, .slice none 0 0] 27, .cells #[.int .i64 3, .slice none 0 0] 24,
    .cells #[.int .i64 0, .int .i64 1, .int .i64 1, .int .i64 2, .int .i64 2, .int .i64 0, .int .i64 1, .int .i64 0, .int .i64 0, .int .i64 2] 113] := ⟨_, rfl⟩
  obtain ⟨w4, hw4⟩ : ∃ w4 : World, w4 = Als w l4 := ⟨_, rfl⟩
  have hb := Als.below l4 w
  have g := Als.get l4 w
  have hsz := Als.size l4 w
  rw [← hw4] at hb g hsz
  have e0 := g 0 _ (by rw [hl4]; rfl)
  have e1 := g 1 _ (by rw [hl4]; rfl)
  have e2 := g 2 _ (by rw [hl4]; rfl)
  have e3 := g 3 _ (by rw [hl4]; rfl)
  have hL : l4.length = 4 := by rw [hl4]; rfl
  rw [hL] at hsz
  rw [hl4] at hw4
  simp only [Als] at hw4
  rw [← hw4]
  clear hw4 g hL hl4
  have HSZ := Lib.hid hsz
  have hrel0 : ExRel w4 (w.heap.size + 1 + 1) 0 none 0 w4 := ⟨e2, World.ownsRow_nil _ _ _ _, grow_refl _ _⟩
  obtain ⟨i0, hi, hz0, hz1, hz2⟩ := info_parts Try.info108
  go_loopw [5] (fun v5 wr => ∃ (i : Nat) (A : Option Addr) (c : Nat), v5 = .int .i64 i ∧ i ≤ 5 ∧ ExRel w4 (w.heap.size + 1 + 1) i A c wr) (fun v5 _ => 5 - (intOf v5).toNat)
  case atStart => exact ⟨0, none, 0, rfl, by omega, hrel0⟩
  case round =>
    clear hrel0 e2
    obtain ⟨i, A, c, rfl, hi5, hR⟩ := hrel
    by_cases hlt : i < 5
    · obtain ⟨x, hx, hmi, hli, hc1, hc2⟩ := K.ex31_cells ⟨i, hlt⟩
      have k0 : (0 : Int) ≤ (i : Int) := by omega
      have k1 : (i : Int) < 5 := by omega
      have e3r : wr.heap[w.heap.size + 1 + 1 + 1]? = some (.cells #[.int .i64 0, .int .i64 1, .int .i64 1, .int .i64 2, .int .i64 2, .int .i64 0, .int .i64 1, .int .i64 0, .int .i64 0, .int .i64 2] 113 (0, 0)) := grow_blk hR.grown e3 (fun e => by injection e with e; omega)
      have q1 := blk_cell e3r (i * 2) _ hc1
      have q2 := blk_cell e3r (i * 2 + 1) _ hc2
      have r1 := blk_cell hR.net 1 _ rfl
      have hrc : roadCells x = [.int .i64 x.fr, .int .i64 x.tt, .int .i64 10, .int .i64 (-1)] := by unfold roadCells; rw [hmi, hli]
      obtain ⟨O, hO⟩ : ∃ O : Obj, O = .cells #[.int .i64 x.fr, .int .i64 x.tt, .int .i64 10, .int .i64 (-1)] 108 := ⟨_, rfl⟩
      have hbW : Below wr.heap.size wr (wr.alloc O).drew := ((Below.refl wr.heap.size wr).alloc (Nat.le_refl _) O).drew
      have hownW := own_below hR.own hbW
      have hRdW : Rd (wr.alloc O).drew 4 (some ⟨wr.heap.size, 0, none⟩) 1 (roadCells x) := by rw [hrc, hO]; exact Rd.of_block (heap_alloc_new _ _) 4 1 rfl
      have hnW := blk_below hbW hR.net
      have hbs : w4.heap.size ≤ (wr.alloc O).drew.heap.size := Nat.le_trans hR.grown.size hbW.size
      have hlt3 : ∀ g, (Value.slice A i c).ownBlock = some g → w4.heap.size ≤ g := fun g e => (hR.own.lt g e).1
      have hgW := grow_below hR.grown hbW
      have hcap := hR.own.1
      have hgv : (Value.slice A i c).ownBlock = some (w.heap.size + 1 + 1) ∨ (Value.slice A i c).ownBlock = none ∨ ∃ g, (Value.slice A i c).ownBlock = some g ∧ w4.heap.size ≤ g := by
        cases A with
        | none => exact .inr (.inl rfl)
        | some ad => exact .inr (.inr ⟨_, rfl, hlt3 _ rfl⟩)
      have r2 : (wr.alloc O).cell? ⟨w.heap.size + 1 + 1, 1, none⟩ = some (.slice A i c) := blk_cell (blk_below ((Below.refl wr.heap.size wr).alloc (Nat.le_refl _) O) hR.net) 1 _ rfl
      rw [hO] at hownW hRdW hbs r2
      have HRC := Lib.hid hrc
      have HO := Lib.hid hO
      clear hrc hO hmi hli
      go_wp2_with fail
      go_region_law (refine step_append_rd rfl (.tmp 23) (.tmp 35) 22 rfl w4.heap.size 108 i0 (.agg #[.int .i64 0, .int .i64 0, .int .i64 0, .int .i64 0]) 4 32 Try.underlying22 hi hz0 hz1 hz2 rfl (by decide) (.slice A i c) i ((K.exL31.take i).flatMap roadCells) rfl hownW (some ⟨wr.heap.size, 0, none⟩) 1 1 (roadCells x) rfl hRdW (fun u hu => by rw [HRC.out] at hu; simp at hu; rcases hu with rfl | rfl | rfl | rfl <;> rfl) (by simp only [maxLen]; omega) (by omega) hbs ?_; intro v1 w1 hown1 hgrow1 hat1; obtain ⟨A9, c9, rfl, -⟩ := own_form hown1; clear hat1; rw [← HO.out] at hgrow1; have hnet1 := grow_blk hgrow1 hnW (fun e => by have := hlt3 _ e.symm; have := HSZ.out; omega); have u1 := blk_cell hnet1 1 _ rfl; have uf := blk_free hnet1)
      all_goals go_wp2_with fail
      all_goals
        have hX : ExRel w4 (w.heap.size + 1 + 1) (i + 1) A9 c9 (w1.setCell ⟨w.heap.size + 1 + 1, 1, none⟩ (.slice A9 (i + 1) c9)) := by
          refine ⟨blk_set hnet1 1 _, ?_, ?_⟩
          · rw [take_snoc hx, List.flatMap_append, show [x].flatMap roadCells = roadCells x by simp]
            exact ownsRow_setCell_below hown1 (show w.heap.size + 1 + 1 < w4.heap.size by have := HSZ.out; omega) _
          · exact grow_set (grow_step hgW hgrow1 hgv) _ _ _ rfl
        go_roundw
        case rel => exact ⟨i + 1, A9, c9, by go_num, by omega, hX⟩
        case measure => simp [intOf]; omega
    · have hi5' : i = 5 := by omega
      subst hi5'
      have n0 := blk_cell hR.net 0 _ rfl
      have n1 := blk_cell hR.net 1 _ rfl
      go_wp2_with fail
      obtain ⟨l5, hl5⟩ : ∃ l5 : List Obj, l5 = [(.cells #[.int .i64 1, .int .i64 0, .int .i64 100, .int .i64 5, .int .i64 0, .int .i64 0, .slice none 0 0] 41), (.cells #[.int .i64 2, .int .i64 0, .int .i64 100, .int .i64 5, .int .i64 0, .int .i64 0, .slice (some ⟨wr.heap.size + 1 + 1, 0, none⟩) 1 1] 41), (.cells #[.int .i64 0, .int .i64 20] 85), (.cells #[.int .i64 1, .int .i64 0, .int .i64 100, .int .i64 5, .int .i64 0, .int .i64 0, .slice (some ⟨wr.heap.size + 1 + 1 + 1 + 1, 0, none⟩) 1 1] 41), (.cells #[.int .i64 40, .int .i64 60] 85)] := ⟨_, rfl⟩
      obtain ⟨w9, hw9⟩ : ∃ w9 : World, w9 = Als wr l5 := ⟨_, rfl⟩
      have hb9 := Als.below l5 wr
      have g := Als.get l5 wr
      have hsz9 := Als.size l5 wr
      rw [← hw9] at hb9 g hsz9
      have d0 := g 0 _ (by rw [hl5]; rfl)
      have d1 := g 1 _ (by rw [hl5]; rfl)
      have d2 := g 2 _ (by rw [hl5]; rfl)
      have d3 := g 3 _ (by rw [hl5]; rfl)
      have d4 := g 4 _ (by rw [hl5]; rfl)
      have hL : l5.length = 5 := by rw [hl5]; rfl
      rw [hL] at hsz9
      rw [hl5] at hw9
      simp only [Als] at hw9
      rw [← hw9]
      clear hw9 g hL hl5 n0 n1
      have dn := blk_below hb9 hR.net
      have dh := blk_below hb9 (grow_blk hR.grown e0 (fun e => by injection e with e; omega))
      have di := blk_below hb9 (grow_blk hR.grown e1 (fun e => by injection e with e; omega))
      have hRo := own_below hR.own hb9
      have hgr := grow_below hR.grown hb9
      have hHl : w.heap.size + 4 ≤ wr.heap.size := by have := hR.grown.size; omega
      have hB0 : But3 w9 w9 w.heap.size w.heap.size (w.heap.size + 1) := But3.refl _ _ _ _
      have hSet : ∀ (w' : World) (g i : Nat) (v : Value), But3 w9 w' w.heap.size w.heap.size (w.heap.size + 1) → (g = w.heap.size ∨ g = w.heap.size + 1) → But3 w9 (w'.setCell ⟨g, i, none⟩ v) w.heap.size w.heap.size (w.heap.size + 1) := fun w' g i v h hg => h.set hg i v
      have hAlc : ∀ (w' : World) (o : Obj), But3 w9 w' w.heap.size w.heap.size (w.heap.size + 1) → But3 w9 (w'.alloc o) w.heap.size w.heap.size (w.heap.size + 1) := fun w' o h => h.below ((Below.refl _ _).alloc (Nat.le_refl _) _)
      have hDrw : ∀ (w' : World), But3 w9 w' w.heap.size w.heap.size (w.heap.size + 1) → But3 w9 w'.drew w.heap.size w.heap.size (w.heap.size + 1) := fun w' h => h.below (Below.refl _ _).drew
      have hk9 : ∀ (w' : World) (g : Nat) (o : Obj), But3 w9 w' w.heap.size w.heap.size (w.heap.size + 1) → w9.heap[g]? = some o → w.heap.size + 2 ≤ g → w'.heap[g]? = some o := fun w' g o h hg hl => (h.block g (Array.getElem?_eq_some_iff.1 hg).1 (by omega) (by omega) (by omega)).trans hg
      have hmk : ∀ w', But3 w9 w' w.heap.size w.heap.size (w.heap.size + 1) → (fun (w' : World) => w'.cell? ⟨w.heap.size + 1 + 1, 0, none⟩ = some (.int .i64 3) ∧ w'.cell? ⟨w.heap.size + 1 + 1, 1, none⟩ = some (.slice A 5 c) ∧ w'.cell? ⟨wr.heap.size, 0, none⟩ = some (.int .i64 1) ∧ w'.cell? ⟨wr.heap.size, 1, none⟩ = some (.int .i64 0) ∧ w'.cell? ⟨wr.heap.size, 2, none⟩ = some (.int .i64 100) ∧ w'.cell? ⟨wr.heap.size, 3, none⟩ = some (.int .i64 5) ∧ w'.cell? ⟨wr.heap.size, 4, none⟩ = some (.int .i64 0) ∧ w'.cell? ⟨wr.heap.size, 5, none⟩ = some (.int .i64 0) ∧ w'.cell? ⟨wr.heap.size, 6, none⟩ = some (.slice none 0 0) ∧ w'.cell? ⟨wr.heap.size + 1, 0, none⟩ = some (.int .i64 2) ∧ w'.cell? ⟨wr.heap.size + 1, 1, none⟩ = some (.int .i64 0) ∧ w'.cell? ⟨wr.heap.size + 1, 2, none⟩ = some (.int .i64 100) ∧ w'.cell? ⟨wr.heap.size + 1, 3, none⟩ = some (.int .i64 5) ∧ w'.cell? ⟨wr.heap.size + 1, 4, none⟩ = some (.int .i64 0) ∧ w'.cell? ⟨wr.heap.size + 1, 5, none⟩ = some (.int .i64 0) ∧ w'.cell? ⟨wr.heap.size + 1, 6, none⟩ = some (.slice (some ⟨wr.heap.size + 1 + 1, 0, none⟩) 1 1) ∧ w'.cell? ⟨wr.heap.size + 1 + 1 + 1, 0, none⟩ = some (.int .i64 1) ∧ w'.cell? ⟨wr.heap.size + 1 + 1 + 1, 1, none⟩ = some (.int .i64 0) ∧ w'.cell? ⟨wr.heap.size + 1 + 1 + 1, 2, none⟩ = some (.int .i64 100) ∧ w'.cell? ⟨wr.heap.size + 1 + 1 + 1, 3, none⟩ = some (.int .i64 5) ∧ w'.cell? ⟨wr.heap.size + 1 + 1 + 1, 4, none⟩ = some (.int .i64 0) ∧ w'.cell? ⟨wr.heap.size + 1 + 1 + 1, 5, none⟩ = some (.int .i64 0) ∧ w'.cell? ⟨wr.heap.size + 1 + 1 + 1, 6, none⟩ = some (.slice (some ⟨wr.heap.size + 1 + 1 + 1 + 1, 0, none⟩) 1 1)) w' := fun w' h => by
        have x0 := hk9 w' _ _ h dn (by omega)
        have x1 := hk9 w' _ _ h d0 (by omega)
        have x2 := hk9 w' _ _ h d1 (by omega)
        have x3 := hk9 w' _ _ h d3 (by omega)
        exact ⟨blk_cell x0 0 _ rfl, blk_cell x0 1 _ rfl, blk_cell x1 0 _ rfl, blk_cell x1 1 _ rfl, blk_cell x1 2 _ rfl, blk_cell x1 3 _ rfl, blk_cell x1 4 _ rfl, blk_cell x1 5 _ rfl, blk_cell x1 6 _ rfl, blk_cell x2 0 _ rfl, blk_cell x2 1 _ rfl, blk_cell x2 2 _ rfl, blk_cell x2 3 _ rfl, blk_cell x2 4 _ rfl, blk_cell x2 5 _ rfl, blk_cell x2 6 _ rfl, blk_cell x3 0 _ rfl, blk_cell x3 1 _ rfl, blk_cell x3 2 _ rfl, blk_cell x3 3 _ rfl, blk_cell x3 4 _ rfl, blk_cell x3 5 _ rfl, blk_cell x3 6 _ rfl⟩
      have yw0 : w9.heap[w.heap.size]? = some (.cells #[.int .i64 0, .slice none 0 0] 24 (0, 0)) := dh
      have yw1 : w9.heap[w.heap.size + 1]? = some (.cells #[.int .i64 0, .int .i64 0, .int .i64 0, .int .i64 0, .int .i64 0, .slice none 0 0] 27 (0, 0)) := di
      have pw0 := blk_cell yw0 0 _ rfl
      have pw1 := blk_cell yw0 1 _ rfl
      have fw0 := blk_free yw0
      have qw0 := blk_cell yw1 0 _ rfl
      have qw1 := blk_cell yw1 1 _ rfl
      have qw2 := blk_cell yw1 2 _ rfl
      have qw3 := blk_cell yw1 3 _ rfl
      have qw4 := blk_cell yw1 4 _ rfl
      have qw5 := blk_cell yw1 5 _ rfl
      have fw1 := blk_free yw1
      have yc0 : (w9.alloc (.cells #[.int .i64 1000] 3)).heap[w.heap.size]? = some (.cells #[.int .i64 0, .slice none 0 0] 24 (0, 0)) := blk_alloc dh _
      have yc1 : (w9.alloc (.cells #[.int .i64 1000] 3)).heap[w.heap.size + 1]? = some (.cells #[.int .i64 0, .int .i64 0, .int .i64 0, .int .i64 0, .int .i64 0, .slice none 0 0] 27 (0, 0)) := blk_alloc di _
      have pc0 := blk_cell yc0 0 _ rfl
      have pc1 := blk_cell yc0 1 _ rfl
      have fc0 := blk_free yc0
      have qc0 := blk_cell yc1 0 _ rfl
      have qc1 := blk_cell yc1 1 _ rfl
      have qc2 := blk_cell yc1 2 _ rfl
      have qc3 := blk_cell yc1 3 _ rfl
      have qc4 := blk_cell yc1 4 _ rfl
      have qc5 := blk_cell yc1 5 _ rfl
      have fc1 := blk_free yc1
      have ye0 : (w9.alloc (.cells #[.int .i64 1, .int .i64 0, .int .i64 100, .int .i64 5, .int .i64 0, .int .i64 0, .slice none 0 0, .int .i64 2, .int .i64 0, .int .i64 100, .int .i64 5, .int .i64 0, .int .i64 0, .slice (some ⟨wr.heap.size + 1 + 1, 0, none⟩) 1 1, .int .i64 1, .int .i64 0, .int .i64 100, .int .i64 5, .int .i64 0, .int .i64 0, .slice (some ⟨wr.heap.size + 1 + 1 + 1 + 1, 0, none⟩) 1 1] 41)).heap[w.heap.size]? = some (.cells #[.int .i64 0, .slice none 0 0] 24 (0, 0)) := blk_alloc dh _
      have ye1 : (w9.alloc (.cells #[.int .i64 1, .int .i64 0, .int .i64 100, .int .i64 5, .int .i64 0, .int .i64 0, .slice none 0 0, .int .i64 2, .int .i64 0, .int .i64 100, .int .i64 5, .int .i64 0, .int .i64 0, .slice (some ⟨wr.heap.size + 1 + 1, 0, none⟩) 1 1, .int .i64 1, .int .i64 0, .int .i64 100, .int .i64 5, .int .i64 0, .int .i64 0, .slice (some ⟨wr.heap.size + 1 + 1 + 1 + 1, 0, none⟩) 1 1] 41)).heap[w.heap.size + 1]? = some (.cells #[.int .i64 0, .int .i64 0, .int .i64 0, .int .i64 0, .int .i64 0, .slice none 0 0] 27 (0, 0)) := blk_alloc di _
      have pe0 := blk_cell ye0 0 _ rfl
      have pe1 := blk_cell ye0 1 _ rfl
      have fe0 := blk_free ye0
      have qe0 := blk_cell ye1 0 _ rfl
      have qe1 := blk_cell ye1 1 _ rfl
      have qe2 := blk_cell ye1 2 _ rfl
      have qe3 := blk_cell ye1 3 _ rfl
      have qe4 := blk_cell ye1 4 _ rfl
      have qe5 := blk_cell ye1 5 _ rfl
      have fe1 := blk_free ye1
      have ya0 : ((w9.alloc (.cells #[.int .i64 1000] 3)).alloc (.cells #[.int .i64 1, .int .i64 0, .int .i64 100, .int .i64 5, .int .i64 0, .int .i64 0, .slice none 0 0, .int .i64 2, .int .i64 0, .int .i64 100, .int .i64 5, .int .i64 0, .int .i64 0, .slice (some ⟨wr.heap.size + 1 + 1, 0, none⟩) 1 1, .int .i64 1, .int .i64 0, .int .i64 100, .int .i64 5, .int .i64 0, .int .i64 0, .slice (some ⟨wr.heap.size + 1 + 1 + 1 + 1, 0, none⟩) 1 1] 41)).heap[w.heap.size]? = some (.cells #[.int .i64 0, .slice none 0 0] 24 (0, 0)) := blk_alloc yc0 _
      have ya1 : ((w9.alloc (.cells #[.int .i64 1000] 3)).alloc (.cells #[.int .i64 1, .int .i64 0, .int .i64 100, .int .i64 5, .int .i64 0, .int .i64 0, .slice none 0 0, .int .i64 2, .int .i64 0, .int .i64 100, .int .i64 5, .int .i64 0, .int .i64 0, .slice (some ⟨wr.heap.size + 1 + 1, 0, none⟩) 1 1, .int .i64 1, .int .i64 0, .int .i64 100, .int .i64 5, .int .i64 0, .int .i64 0, .slice (some ⟨wr.heap.size + 1 + 1 + 1 + 1, 0, none⟩) 1 1] 41)).heap[w.heap.size + 1]? = some (.cells #[.int .i64 0, .int .i64 0, .int .i64 0, .int .i64 0, .int .i64 0, .slice none 0 0] 27 (0, 0)) := blk_alloc yc1 _
      have pa0 := blk_cell ya0 0 _ rfl
      have pa1 := blk_cell ya0 1 _ rfl
      have fa0 := blk_free ya0
      have qa0 := blk_cell ya1 0 _ rfl
      have qa1 := blk_cell ya1 1 _ rfl
      have qa2 := blk_cell ya1 2 _ rfl
      have qa3 := blk_cell ya1 3 _ rfl
      have qa4 := blk_cell ya1 4 _ rfl
      have qa5 := blk_cell ya1 5 _ rfl
      have fa1 := blk_free ya1
      have yb0 : ((w9.alloc (.cells #[.int .i64 1, .int .i64 0, .int .i64 100, .int .i64 5, .int .i64 0, .int .i64 0, .slice none 0 0, .int .i64 2, .int .i64 0, .int .i64 100, .int .i64 5, .int .i64 0, .int .i64 0, .slice (some ⟨wr.heap.size + 1 + 1, 0, none⟩) 1 1, .int .i64 1, .int .i64 0, .int .i64 100, .int .i64 5, .int .i64 0, .int .i64 0, .slice (some ⟨wr.heap.size + 1 + 1 + 1 + 1, 0, none⟩) 1 1] 41)).alloc (.cells #[.int .i64 1000] 3)).heap[w.heap.size]? = some (.cells #[.int .i64 0, .slice none 0 0] 24 (0, 0)) := blk_alloc ye0 _
      have yb1 : ((w9.alloc (.cells #[.int .i64 1, .int .i64 0, .int .i64 100, .int .i64 5, .int .i64 0, .int .i64 0, .slice none 0 0, .int .i64 2, .int .i64 0, .int .i64 100, .int .i64 5, .int .i64 0, .int .i64 0, .slice (some ⟨wr.heap.size + 1 + 1, 0, none⟩) 1 1, .int .i64 1, .int .i64 0, .int .i64 100, .int .i64 5, .int .i64 0, .int .i64 0, .slice (some ⟨wr.heap.size + 1 + 1 + 1 + 1, 0, none⟩) 1 1] 41)).alloc (.cells #[.int .i64 1000] 3)).heap[w.heap.size + 1]? = some (.cells #[.int .i64 0, .int .i64 0, .int .i64 0, .int .i64 0, .int .i64 0, .slice none 0 0] 27 (0, 0)) := blk_alloc ye1 _
      have pb0 := blk_cell yb0 0 _ rfl
      have pb1 := blk_cell yb0 1 _ rfl
      have fb0 := blk_free yb0
      have qb0 := blk_cell yb1 0 _ rfl
      have qb1 := blk_cell yb1 1 _ rfl
      have qb2 := blk_cell yb1 2 _ rfl
      have qb3 := blk_cell yb1 3 _ rfl
      have qb4 := blk_cell yb1 4 _ rfl
      have qb5 := blk_cell yb1 5 _ rfl
      have fb1 := blk_free yb1
      have yg1 : (((w9.setCell ⟨w.heap.size, 0, none⟩ (.int .i64 3)).setCell ⟨w.heap.size, 1, none⟩ (.slice A 5 c)).alloc (.cells #[.int .i64 1000] 3)).heap[w.heap.size + 1]? = some (.cells #[.int .i64 0, .int .i64 0, .int .i64 0, .int .i64 0, .int .i64 0, .slice none 0 0] 27 (0, 0)) := blk_alloc (blk_other (blk_other di _ (by omega)) _ (by omega)) _
      have qg0 := blk_cell yg1 0 _ rfl
      have qg1 := blk_cell yg1 1 _ rfl
      have qg2 := blk_cell yg1 2 _ rfl
      have qg3 := blk_cell yg1 3 _ rfl
      have qg4 := blk_cell yg1 4 _ rfl
      have qg5 := blk_cell yg1 5 _ rfl
      have fg1 := blk_free yg1
      have yh1 : (((w9.setCell ⟨w.heap.size, 0, none⟩ (.int .i64 3)).setCell ⟨w.heap.size, 1, none⟩ (.slice A 5 c)).alloc (.cells #[.int .i64 1, .int .i64 0, .int .i64 100, .int .i64 5, .int .i64 0, .int .i64 0, .slice none 0 0, .int .i64 2, .int .i64 0, .int .i64 100, .int .i64 5, .int .i64 0, .int .i64 0, .slice (some ⟨wr.heap.size + 1 + 1, 0, none⟩) 1 1, .int .i64 1, .int .i64 0, .int .i64 100, .int .i64 5, .int .i64 0, .int .i64 0, .slice (some ⟨wr.heap.size + 1 + 1 + 1 + 1, 0, none⟩) 1 1] 41)).heap[w.heap.size + 1]? = some (.cells #[.int .i64 0, .int .i64 0, .int .i64 0, .int .i64 0, .int .i64 0, .slice none 0 0] 27 (0, 0)) := blk_alloc (blk_other (blk_other di _ (by omega)) _ (by omega)) _
      have qh0 := blk_cell yh1 0 _ rfl
      have qh1 := blk_cell yh1 1 _ rfl
      have qh2 := blk_cell yh1 2 _ rfl
      have qh3 := blk_cell yh1 3 _ rfl
      have qh4 := blk_cell yh1 4 _ rfl
      have qh5 := blk_cell yh1 5 _ rfl
      have fh1 := blk_free yh1
      have yi1 : ((((w9.setCell ⟨w.heap.size, 0, none⟩ (.int .i64 3)).setCell ⟨w.heap.size, 1, none⟩ (.slice A 5 c)).alloc (.cells #[.int .i64 1000] 3)).alloc (.cells #[.int .i64 1, .int .i64 0, .int .i64 100, .int .i64 5, .int .i64 0, .int .i64 0, .slice none 0 0, .int .i64 2, .int .i64 0, .int .i64 100, .int .i64 5, .int .i64 0, .int .i64 0, .slice (some ⟨wr.heap.size + 1 + 1, 0, none⟩) 1 1, .int .i64 1, .int .i64 0, .int .i64 100, .int .i64 5, .int .i64 0, .int .i64 0, .slice (some ⟨wr.heap.size + 1 + 1 + 1 + 1, 0, none⟩) 1 1] 41)).heap[w.heap.size + 1]? = some (.cells #[.int .i64 0, .int .i64 0, .int .i64 0, .int .i64 0, .int .i64 0, .slice none 0 0] 27 (0, 0)) := blk_alloc yg1 _
      have qi0 := blk_cell yi1 0 _ rfl
      have qi1 := blk_cell yi1 1 _ rfl
      have qi2 := blk_cell yi1 2 _ rfl
      have qi3 := blk_cell yi1 3 _ rfl
      have qi4 := blk_cell yi1 4 _ rfl
      have qi5 := blk_cell yi1 5 _ rfl
      have fi1 := blk_free yi1
      have yj1 : ((((w9.setCell ⟨w.heap.size, 0, none⟩ (.int .i64 3)).setCell ⟨w.heap.size, 1, none⟩ (.slice A 5 c)).alloc (.cells #[.int .i64 1, .int .i64 0, .int .i64 100, .int .i64 5, .int .i64 0, .int .i64 0, .slice none 0 0, .int .i64 2, .int .i64 0, .int .i64 100, .int .i64 5, .int .i64 0, .int .i64 0, .slice (some ⟨wr.heap.size + 1 + 1, 0, none⟩) 1 1, .int .i64 1, .int .i64 0, .int .i64 100, .int .i64 5, .int .i64 0, .int .i64 0, .slice (some ⟨wr.heap.size + 1 + 1 + 1 + 1, 0, none⟩) 1 1] 41)).alloc (.cells #[.int .i64 1000] 3)).heap[w.heap.size + 1]? = some (.cells #[.int .i64 0, .int .i64 0, .int .i64 0, .int .i64 0, .int .i64 0, .slice none 0 0] 27 (0, 0)) := blk_alloc yh1 _
      have qj0 := blk_cell yj1 0 _ rfl
      have qj1 := blk_cell yj1 1 _ rfl
      have qj2 := blk_cell yj1 2 _ rfl
      have qj3 := blk_cell yj1 3 _ rfl
      have qj4 := blk_cell yj1 4 _ rfl
      have qj5 := blk_cell yj1 5 _ rfl
      have fj1 := blk_free yj1
      have yk1 : ((((w9.alloc (.cells #[.int .i64 1000] 3)).setCell ⟨w.heap.size, 0, none⟩ (.int .i64 3)).setCell ⟨w.heap.size, 1, none⟩ (.slice A 5 c)).alloc (.cells #[.int .i64 1, .int .i64 0, .int .i64 100, .int .i64 5, .int .i64 0, .int .i64 0, .slice none 0 0, .int .i64 2, .int .i64 0, .int .i64 100, .int .i64 5, .int .i64 0, .int .i64 0, .slice (some ⟨wr.heap.size + 1 + 1, 0, none⟩) 1 1, .int .i64 1, .int .i64 0, .int .i64 100, .int .i64 5, .int .i64 0, .int .i64 0, .slice (some ⟨wr.heap.size + 1 + 1 + 1 + 1, 0, none⟩) 1 1] 41)).heap[w.heap.size + 1]? = some (.cells #[.int .i64 0, .int .i64 0, .int .i64 0, .int .i64 0, .int .i64 0, .slice none 0 0] 27 (0, 0)) := blk_alloc (blk_other (blk_other yc1 _ (by omega)) _ (by omega)) _
      have qk0 := blk_cell yk1 0 _ rfl
      have qk1 := blk_cell yk1 1 _ rfl
      have qk2 := blk_cell yk1 2 _ rfl
      have qk3 := blk_cell yk1 3 _ rfl
      have qk4 := blk_cell yk1 4 _ rfl
      have qk5 := blk_cell yk1 5 _ rfl
      have fk1 := blk_free yk1
      have yl1 : ((((w9.alloc (.cells #[.int .i64 1, .int .i64 0, .int .i64 100, .int .i64 5, .int .i64 0, .int .i64 0, .slice none 0 0, .int .i64 2, .int .i64 0, .int .i64 100, .int .i64 5, .int .i64 0, .int .i64 0, .slice (some ⟨wr.heap.size + 1 + 1, 0, none⟩) 1 1, .int .i64 1, .int .i64 0, .int .i64 100, .int .i64 5, .int .i64 0, .int .i64 0, .slice (some ⟨wr.heap.size + 1 + 1 + 1 + 1, 0, none⟩) 1 1] 41)).setCell ⟨w.heap.size, 0, none⟩ (.int .i64 3)).setCell ⟨w.heap.size, 1, none⟩ (.slice A 5 c)).alloc (.cells #[.int .i64 1000] 3)).heap[w.heap.size + 1]? = some (.cells #[.int .i64 0, .int .i64 0, .int .i64 0, .int .i64 0, .int .i64 0, .slice none 0 0] 27 (0, 0)) := blk_alloc (blk_other (blk_other ye1 _ (by omega)) _ (by omega)) _
      have ql0 := blk_cell yl1 0 _ rfl
      have ql1 := blk_cell yl1 1 _ rfl
      have ql2 := blk_cell yl1 2 _ rfl
      have ql3 := blk_cell yl1 3 _ rfl
      have ql4 := blk_cell yl1 4 _ rfl
      have ql5 := blk_cell yl1 5 _ rfl
      have fl1 := blk_free yl1
      go_wp2_with fail
      go_region_held3 (fun (w' : World) => w'.cell? ⟨w.heap.size + 1 + 1, 0, none⟩ = some (.int .i64 3) ∧ w'.cell? ⟨w.heap.size + 1 + 1, 1, none⟩ = some (.slice A 5 c) ∧ w'.cell? ⟨wr.heap.size, 0, none⟩ = some (.int .i64 1) ∧ w'.cell? ⟨wr.heap.size, 1, none⟩ = some (.int .i64 0) ∧ w'.cell? ⟨wr.heap.size, 2, none⟩ = some (.int .i64 100) ∧ w'.cell? ⟨wr.heap.size, 3, none⟩ = some (.int .i64 5) ∧ w'.cell? ⟨wr.heap.size, 4, none⟩ = some (.int .i64 0) ∧ w'.cell? ⟨wr.heap.size, 5, none⟩ = some (.int .i64 0) ∧ w'.cell? ⟨wr.heap.size, 6, none⟩ = some (.slice none 0 0) ∧ w'.cell? ⟨wr.heap.size + 1, 0, none⟩ = some (.int .i64 2) ∧ w'.cell? ⟨wr.heap.size + 1, 1, none⟩ = some (.int .i64 0) ∧ w'.cell? ⟨wr.heap.size + 1, 2, none⟩ = some (.int .i64 100) ∧ w'.cell? ⟨wr.heap.size + 1, 3, none⟩ = some (.int .i64 5) ∧ w'.cell? ⟨wr.heap.size + 1, 4, none⟩ = some (.int .i64 0) ∧ w'.cell? ⟨wr.heap.size + 1, 5, none⟩ = some (.int .i64 0) ∧ w'.cell? ⟨wr.heap.size + 1, 6, none⟩ = some (.slice (some ⟨wr.heap.size + 1 + 1, 0, none⟩) 1 1) ∧ w'.cell? ⟨wr.heap.size + 1 + 1 + 1, 0, none⟩ = some (.int .i64 1) ∧ w'.cell? ⟨wr.heap.size + 1 + 1 + 1, 1, none⟩ = some (.int .i64 0) ∧ w'.cell? ⟨wr.heap.size + 1 + 1 + 1, 2, none⟩ = some (.int .i64 100) ∧ w'.cell? ⟨wr.heap.size + 1 + 1 + 1, 3, none⟩ = some (.int .i64 5) ∧ w'.cell? ⟨wr.heap.size + 1 + 1 + 1, 4, none⟩ = some (.int .i64 0) ∧ w'.cell? ⟨wr.heap.size + 1 + 1 + 1, 5, none⟩ = some (.int .i64 0) ∧ w'.cell? ⟨wr.heap.size + 1 + 1 + 1, 6, none⟩ = some (.slice (some ⟨wr.heap.size + 1 + 1 + 1 + 1, 0, none⟩) 1 1))
        ((refine hmk _ ?_; repeat (first | with_reducible exact hB0 | with_reducible refine hSet _ _ _ _ ?_ (.inl rfl) | with_reducible refine hSet _ _ _ _ ?_ (.inr rfl) | with_reducible refine hAlc _ _ ?_ | with_reducible refine hDrw _ ?_ | fail)))
        (fail)
      all_goals go_wp2_with fail
      · obtain ⟨WF, hWF⟩ : ∃ WF : World, WF = ((((((((((w9.alloc (.cells #[.int .i64 1000] 3)).alloc (.cells #[.int .i64 1, .int .i64 0, .int .i64 100, .int .i64 5, .int .i64 0, .int .i64 0, .slice none 0 0, .int .i64 2, .int .i64 0, .int .i64 100, .int .i64 5, .int .i64 0, .int .i64 0, .slice (some ⟨wr.heap.size + 1 + 1, 0, none⟩) 1 1, .int .i64 1, .int .i64 0, .int .i64 100, .int .i64 5, .int .i64 0, .int .i64 0, .slice (some ⟨wr.heap.size + 1 + 1 + 1 + 1, 0, none⟩) 1 1] 41)).setCell ⟨w.heap.size, 0, none⟩ (.int .i64 3)).setCell ⟨w.heap.size, 1, none⟩ (.slice A 5 c)).setCell ⟨w.heap.size + 1, 0, none⟩ (.int .i64 0)).setCell ⟨w.heap.size + 1, 1, none⟩ (.int .i64 0)).setCell ⟨w.heap.size + 1, 2, none⟩ (.int .i64 0)).setCell ⟨w.heap.size + 1, 3, none⟩ (.int .i64 50)).setCell ⟨w.heap.size + 1, 4, none⟩ (.int .i64 1000)).setCell ⟨w.heap.size + 1, 5, none⟩ (.slice (some ⟨wr.heap.size + 5, 0, none⟩) 1 1)) := ⟨_, rfl⟩
        have z0 : WF.heap[w.heap.size]? = some (.cells #[.int .i64 3, .slice A 5 c] 24 (0, 0)) := by rw [hWF]; exact (blk_other (blk_other (blk_other (blk_other (blk_other (blk_other (blk_set (blk_set (blk_alloc (blk_alloc dh _) _) 0 _) 1 _) _ (by omega)) _ (by omega)) _ (by omega)) _ (by omega)) _ (by omega)) _ (by omega))
        have z1 : WF.heap[w.heap.size + 1]? = some (.cells #[.int .i64 0, .int .i64 0, .int .i64 0, .int .i64 50, .int .i64 1000, .slice (some ⟨wr.heap.size + 5, 0, none⟩) 1 1] 27 (0, 0)) := by rw [hWF]; exact (blk_set (blk_set (blk_set (blk_set (blk_set (blk_set (blk_other (blk_other (blk_alloc (blk_alloc di _) _) _ (by omega)) _ (by omega)) 0 _) 1 _) 2 _) 3 _) 4 _) 5 _)
        have z2 : WF.heap[wr.heap.size + 5]? = some (.cells #[.int .i64 1000] 3 (0, 0)) := by rw [hWF]; exact (blk_other (blk_other (blk_other (blk_other (blk_other (blk_other (blk_other (blk_other (blk_alloc (heap_alloc_at _ (.cells #[.int .i64 1000] 3) (wr.heap.size + 5) (by first | omega | (simp only [World.size_alloc]; omega) | (simp only [World.size_setCell]; omega) | (simp only [World.size_setCell, World.size_alloc]; omega))) _) _ (by omega)) _ (by omega)) _ (by omega)) _ (by omega)) _ (by omega)) _ (by omega)) _ (by omega)) _ (by omega))
        have z3 : WF.heap[wr.heap.size + 5 + 1]? = some (.cells #[.int .i64 1, .int .i64 0, .int .i64 100, .int .i64 5, .int .i64 0, .int .i64 0, .slice none 0 0, .int .i64 2, .int .i64 0, .int .i64 100, .int .i64 5, .int .i64 0, .int .i64 0, .slice (some ⟨wr.heap.size + 1 + 1, 0, none⟩) 1 1, .int .i64 1, .int .i64 0, .int .i64 100, .int .i64 5, .int .i64 0, .int .i64 0, .slice (some ⟨wr.heap.size + 1 + 1 + 1 + 1, 0, none⟩) 1 1] 41 (0, 0)) := by rw [hWF]; exact (blk_other (blk_other (blk_other (blk_other (blk_other (blk_other (blk_other (blk_other (heap_alloc_at _ (.cells #[.int .i64 1, .int .i64 0, .int .i64 100, .int .i64 5, .int .i64 0, .int .i64 0, .slice none 0 0, .int .i64 2, .int .i64 0, .int .i64 100, .int .i64 5, .int .i64 0, .int .i64 0, .slice (some ⟨wr.heap.size + 1 + 1, 0, none⟩) 1 1, .int .i64 1, .int .i64 0, .int .i64 100, .int .i64 5, .int .i64 0, .int .i64 0, .slice (some ⟨wr.heap.size + 1 + 1 + 1 + 1, 0, none⟩) 1 1] 41) (wr.heap.size + 5 + 1) (by first | omega | (simp only [World.size_alloc]; omega) | (simp only [World.size_setCell]; omega) | (simp only [World.size_setCell, World.size_alloc]; omega))) _ (by omega)) _ (by omega)) _ (by omega)) _ (by omega)) _ (by omega)) _ (by omega)) _ (by omega)) _ (by omega))
        have hBF : But3 w9 WF w.heap.size w.heap.size (w.heap.size + 1) := by rw [hWF]; exact (hSet _ _ _ _ (hSet _ _ _ _ (hSet _ _ _ _ (hSet _ _ _ _ (hSet _ _ _ _ (hSet _ _ _ _ (hSet _ _ _ _ (hSet _ _ _ _ (hAlc _ _ (hAlc _ _ (But3.refl w9 w.heap.size w.heap.size (w.heap.size + 1)))) (.inl rfl)) (.inl rfl)) (.inr rfl)) (.inr rfl)) (.inr rfl)) (.inr rfl)) (.inr rfl)) (.inr rfl))
        rw [← hWF]
        clear hWF
        clear pw0 pw1 qw0 qw1 qw2 qw3 qw4 qw5 fw0 fw1 pc0 pc1 qc0 qc1 qc2 qc3 qc4 qc5 fc0 fc1 pe0 pe1 qe0 qe1 qe2 qe3 qe4 qe5 fe0 fe1 pa0 pa1 qa0 qa1 qa2 qa3 qa4 qa5 fa0 fa1 pb0 pb1 qb0 qb1 qb2 qb3 qb4 qb5 fb0 fb1 qg0 qg1 qg2 qg3 qg4 qg5 fg1 qh0 qh1 qh2 qh3 qh4 qh5 fh1 qi0 qi1 qi2 qi3 qi4 qi5 fi1 qj0 qj1 qj2 qj3 qj4 qj5 fj1 qk0 qk1 qk2 qk3 qk4 qk5 fk1 ql0 ql1 ql2 ql3 ql4 ql5 fl1
        refine bodyPost_ret_by (v := .tuple #[.agg #[.int .i64 3, .slice A 5 c], .agg #[.int .i64 0, .int .i64 0, .int .i64 0, .int .i64 50, .int .i64 1000, .slice (some ⟨wr.heap.size + 5, 0, none⟩) 1 1], .slice (some ⟨wr.heap.size + 5 + 1, 0, none⟩) 3 3]) ?_ rfl ?_
        · have c0 : WF.drew.cell? ⟨w.heap.size, 0, none⟩ = some (.int .i64 3) := blk_cell z0 0 _ rfl
          have c1 : WF.drew.cell? ⟨w.heap.size, 1, none⟩ = some (.slice A 5 c) := blk_cell z0 1 _ rfl
          have b0 : WF.drew.cell? ⟨w.heap.size + 1, 0, none⟩ = some (.int .i64 0) := blk_cell z1 0 _ rfl
          have b1 : WF.drew.cell? ⟨w.heap.size + 1, 1, none⟩ = some (.int .i64 0) := blk_cell z1 1 _ rfl
          have b2 : WF.drew.cell? ⟨w.heap.size + 1, 2, none⟩ = some (.int .i64 0) := blk_cell z1 2 _ rfl
          have b3 : WF.drew.cell? ⟨w.heap.size + 1, 3, none⟩ = some (.int .i64 50) := blk_cell z1 3 _ rfl
          have b4 : WF.drew.cell? ⟨w.heap.size + 1, 4, none⟩ = some (.int .i64 1000) := blk_cell z1 4 _ rfl
          have b5 : WF.drew.cell? ⟨w.heap.size + 1, 5, none⟩ = some (.slice (some ⟨wr.heap.size + 5, 0, none⟩) 1 1) := blk_cell z1 5 _ rfl
          rw [results_cells2_tmp rfl]
          simp [go_sem, c0, c1, b0, b1, b2, b3, b4, b5]
        · exact ex31_fin (ownsRow_of hRo (fun g o hg hl => hk9 _ _ _ hBF hg (by omega))) z2 (hk9 _ _ _ hBF d2 (by omega)) (hk9 _ _ _ hBF d4 (by omega)) z3 (But3.below_of (hb.grown hgr hb.size (fun k e => by injection e with e; omega)) hBF (Nat.le_refl _) (Nat.le_refl _) (by omega))
      · obtain ⟨WF, hWF⟩ : ∃ WF : World, WF = ((((((((((w9.alloc (.cells #[.int .i64 1000] 3)).setCell ⟨w.heap.size, 0, none⟩ (.int .i64 3)).setCell ⟨w.heap.size, 1, none⟩ (.slice A 5 c)).alloc (.cells #[.int .i64 1, .int .i64 0, .int .i64 100, .int .i64 5, .int .i64 0, .int .i64 0, .slice none 0 0, .int .i64 2, .int .i64 0, .int .i64 100, .int .i64 5, .int .i64 0, .int .i64 0, .slice (some ⟨wr.heap.size + 1 + 1, 0, none⟩) 1 1, .int .i64 1, .int .i64 0, .int .i64 100, .int .i64 5, .int .i64 0, .int .i64 0, .slice (some ⟨wr.heap.size + 1 + 1 + 1 + 1, 0, none⟩) 1 1] 41)).setCell ⟨w.heap.size + 1, 0, none⟩ (.int .i64 0)).setCell ⟨w.heap.size + 1, 1, none⟩ (.int .i64 0)).setCell ⟨w.heap.size + 1, 2, none⟩ (.int .i64 0)).setCell ⟨w.heap.size + 1, 3, none⟩ (.int .i64 50)).setCell ⟨w.heap.size + 1, 4, none⟩ (.int .i64 1000)).setCell ⟨w.heap.size + 1, 5, none⟩ (.slice (some ⟨wr.heap.size + 5, 0, none⟩) 1 1)) := ⟨_, rfl⟩
        have z0 : WF.heap[w.heap.size]? = some (.cells #[.int .i64 3, .slice A 5 c] 24 (0, 0)) := by rw [hWF]; exact (blk_other (blk_other (blk_other (blk_other (blk_other (blk_other (blk_alloc (blk_set (blk_set (blk_alloc dh _) 0 _) 1 _) _) _ (by omega)) _ (by omega)) _ (by omega)) _ (by omega)) _ (by omega)) _ (by omega))
        have z1 : WF.heap[w.heap.size + 1]? = some (.cells #[.int .i64 0, .int .i64 0, .int .i64 0, .int .i64 50, .int .i64 1000, .slice (some ⟨wr.heap.size + 5, 0, none⟩) 1 1] 27 (0, 0)) := by rw [hWF]; exact (blk_set (blk_set (blk_set (blk_set (blk_set (blk_set (blk_alloc (blk_other (blk_other (blk_alloc di _) _ (by omega)) _ (by omega)) _) 0 _) 1 _) 2 _) 3 _) 4 _) 5 _)
        have z2 : WF.heap[wr.heap.size + 5]? = some (.cells #[.int .i64 1000] 3 (0, 0)) := by rw [hWF]; exact (blk_other (blk_other (blk_other (blk_other (blk_other (blk_other (blk_alloc (blk_other (blk_other (heap_alloc_at _ (.cells #[.int .i64 1000] 3) (wr.heap.size + 5) (by first | omega | (simp only [World.size_alloc]; omega) | (simp only [World.size_setCell]; omega) | (simp only [World.size_setCell, World.size_alloc]; omega))) _ (by omega)) _ (by omega)) _) _ (by omega)) _ (by omega)) _ (by omega)) _ (by omega)) _ (by omega)) _ (by omega))
        have z3 : WF.heap[wr.heap.size + 5 + 1]? = some (.cells #[.int .i64 1, .int .i64 0, .int .i64 100, .int .i64 5, .int .i64 0, .int .i64 0, .slice none 0 0, .int .i64 2, .int .i64 0, .int .i64 100, .int .i64 5, .int .i64 0, .int .i64 0, .slice (some ⟨wr.heap.size + 1 + 1, 0, none⟩) 1 1, .int .i64 1, .int .i64 0, .int .i64 100, .int .i64 5, .int .i64 0, .int .i64 0, .slice (some ⟨wr.heap.size + 1 + 1 + 1 + 1, 0, none⟩) 1 1] 41 (0, 0)) := by rw [hWF]; exact (blk_other (blk_other (blk_other (blk_other (blk_other (blk_other (heap_alloc_at _ (.cells #[.int .i64 1, .int .i64 0, .int .i64 100, .int .i64 5, .int .i64 0, .int .i64 0, .slice none 0 0, .int .i64 2, .int .i64 0, .int .i64 100, .int .i64 5, .int .i64 0, .int .i64 0, .slice (some ⟨wr.heap.size + 1 + 1, 0, none⟩) 1 1, .int .i64 1, .int .i64 0, .int .i64 100, .int .i64 5, .int .i64 0, .int .i64 0, .slice (some ⟨wr.heap.size + 1 + 1 + 1 + 1, 0, none⟩) 1 1] 41) (wr.heap.size + 5 + 1) (by first | omega | (simp only [World.size_alloc]; omega) | (simp only [World.size_setCell]; omega) | (simp only [World.size_setCell, World.size_alloc]; omega))) _ (by omega)) _ (by omega)) _ (by omega)) _ (by omega)) _ (by omega)) _ (by omega))
        have hBF : But3 w9 WF w.heap.size w.heap.size (w.heap.size + 1) := by rw [hWF]; exact (hSet _ _ _ _ (hSet _ _ _ _ (hSet _ _ _ _ (hSet _ _ _ _ (hSet _ _ _ _ (hSet _ _ _ _ (hAlc _ _ (hSet _ _ _ _ (hSet _ _ _ _ (hAlc _ _ (But3.refl w9 w.heap.size w.heap.size (w.heap.size + 1))) (.inl rfl)) (.inl rfl))) (.inr rfl)) (.inr rfl)) (.inr rfl)) (.inr rfl)) (.inr rfl)) (.inr rfl))
        rw [← hWF]
        clear hWF
        clear pw0 pw1 qw0 qw1 qw2 qw3 qw4 qw5 fw0 fw1 pc0 pc1 qc0 qc1 qc2 qc3 qc4 qc5 fc0 fc1 pe0 pe1 qe0 qe1 qe2 qe3 qe4 qe5 fe0 fe1 pa0 pa1 qa0 qa1 qa2 qa3 qa4 qa5 fa0 fa1 pb0 pb1 qb0 qb1 qb2 qb3 qb4 qb5 fb0 fb1 qg0 qg1 qg2 qg3 qg4 qg5 fg1 qh0 qh1 qh2 qh3 qh4 qh5 fh1 qi0 qi1 qi2 qi3 qi4 qi5 fi1 qj0 qj1 qj2 qj3 qj4 qj5 fj1 qk0 qk1 qk2 qk3 qk4 qk5 fk1 ql0 ql1 ql2 ql3 ql4 ql5 fl1
        refine bodyPost_ret_by (v := .tuple #[.agg #[.int .i64 3, .slice A 5 c], .agg #[.int .i64 0, .int .i64 0, .int .i64 0, .int .i64 50, .int .i64 1000, .slice (some ⟨wr.heap.size + 5, 0, none⟩) 1 1], .slice (some ⟨wr.heap.size + 5 + 1, 0, none⟩) 3 3]) ?_ rfl ?_
        · have c0 : WF.drew.cell? ⟨w.heap.size, 0, none⟩ = some (.int .i64 3) := blk_cell z0 0 _ rfl
          have c1 : WF.drew.cell? ⟨w.heap.size, 1, none⟩ = some (.slice A 5 c) := blk_cell z0 1 _ rfl
          have b0 : WF.drew.cell? ⟨w.heap.size + 1, 0, none⟩ = some (.int .i64 0) := blk_cell z1 0 _ rfl
          have b1 : WF.drew.cell? ⟨w.heap.size + 1, 1, none⟩ = some (.int .i64 0) := blk_cell z1 1 _ rfl
          have b2 : WF.drew.cell? ⟨w.heap.size + 1, 2, none⟩ = some (.int .i64 0) := blk_cell z1 2 _ rfl
          have b3 : WF.drew.cell? ⟨w.heap.size + 1, 3, none⟩ = some (.int .i64 50) := blk_cell z1 3 _ rfl
          have b4 : WF.drew.cell? ⟨w.heap.size + 1, 4, none⟩ = some (.int .i64 1000) := blk_cell z1 4 _ rfl
          have b5 : WF.drew.cell? ⟨w.heap.size + 1, 5, none⟩ = some (.slice (some ⟨wr.heap.size + 5, 0, none⟩) 1 1) := blk_cell z1 5 _ rfl
          rw [results_cells2_tmp rfl]
          simp [go_sem, c0, c1, b0, b1, b2, b3, b4, b5]
        · exact ex31_fin (ownsRow_of hRo (fun g o hg hl => hk9 _ _ _ hBF hg (by omega))) z2 (hk9 _ _ _ hBF d2 (by omega)) (hk9 _ _ _ hBF d4 (by omega)) z3 (But3.below_of (hb.grown hgr hb.size (fun k e => by injection e with e; omega)) hBF (Nat.le_refl _) (Nat.le_refl _) (by omega))
      · obtain ⟨WF, hWF⟩ : ∃ WF : World, WF = ((((((((((w9.alloc (.cells #[.int .i64 1000] 3)).setCell ⟨w.heap.size, 0, none⟩ (.int .i64 3)).setCell ⟨w.heap.size, 1, none⟩ (.slice A 5 c)).setCell ⟨w.heap.size + 1, 0, none⟩ (.int .i64 0)).setCell ⟨w.heap.size + 1, 1, none⟩ (.int .i64 0)).setCell ⟨w.heap.size + 1, 2, none⟩ (.int .i64 0)).setCell ⟨w.heap.size + 1, 3, none⟩ (.int .i64 50)).setCell ⟨w.heap.size + 1, 4, none⟩ (.int .i64 1000)).setCell ⟨w.heap.size + 1, 5, none⟩ (.slice (some ⟨wr.heap.size + 5, 0, none⟩) 1 1)).alloc (.cells #[.int .i64 1, .int .i64 0, .int .i64 100, .int .i64 5, .int .i64 0, .int .i64 0, .slice none 0 0, .int .i64 2, .int .i64 0, .int .i64 100, .int .i64 5, .int .i64 0, .int .i64 0, .slice (some ⟨wr.heap.size + 1 + 1, 0, none⟩) 1 1, .int .i64 1, .int .i64 0, .int .i64 100, .int .i64 5, .int .i64 0, .int .i64 0, .slice (some ⟨wr.heap.size + 1 + 1 + 1 + 1, 0, none⟩) 1 1] 41)) := ⟨_, rfl⟩
        have z0 : WF.heap[w.heap.size]? = some (.cells #[.int .i64 3, .slice A 5 c] 24 (0, 0)) := by rw [hWF]; exact (blk_alloc (blk_other (blk_other (blk_other (blk_other (blk_other (blk_other (blk_set (blk_set (blk_alloc dh _) 0 _) 1 _) _ (by omega)) _ (by omega)) _ (by omega)) _ (by omega)) _ (by omega)) _ (by omega)) _)
        have z1 : WF.heap[w.heap.size + 1]? = some (.cells #[.int .i64 0, .int .i64 0, .int .i64 0, .int .i64 50, .int .i64 1000, .slice (some ⟨wr.heap.size + 5, 0, none⟩) 1 1] 27 (0, 0)) := by rw [hWF]; exact (blk_alloc (blk_set (blk_set (blk_set (blk_set (blk_set (blk_set (blk_other (blk_other (blk_alloc di _) _ (by omega)) _ (by omega)) 0 _) 1 _) 2 _) 3 _) 4 _) 5 _) _)
        have z2 : WF.heap[wr.heap.size + 5]? = some (.cells #[.int .i64 1000] 3 (0, 0)) := by rw [hWF]; exact (blk_alloc (blk_other (blk_other (blk_other (blk_other (blk_other (blk_other (blk_other (blk_other (heap_alloc_at _ (.cells #[.int .i64 1000] 3) (wr.heap.size + 5) (by first | omega | (simp only [World.size_alloc]; omega) | (simp only [World.size_setCell]; omega) | (simp only [World.size_setCell, World.size_alloc]; omega))) _ (by omega)) _ (by omega)) _ (by omega)) _ (by omega)) _ (by omega)) _ (by omega)) _ (by omega)) _ (by omega)) _)
        have z3 : WF.heap[wr.heap.size + 5 + 1]? = some (.cells #[.int .i64 1, .int .i64 0, .int .i64 100, .int .i64 5, .int .i64 0, .int .i64 0, .slice none 0 0, .int .i64 2, .int .i64 0, .int .i64 100, .int .i64 5, .int .i64 0, .int .i64 0, .slice (some ⟨wr.heap.size + 1 + 1, 0, none⟩) 1 1, .int .i64 1, .int .i64 0, .int .i64 100, .int .i64 5, .int .i64 0, .int .i64 0, .slice (some ⟨wr.heap.size + 1 + 1 + 1 + 1, 0, none⟩) 1 1] 41 (0, 0)) := by rw [hWF]; exact (heap_alloc_at _ (.cells #[.int .i64 1, .int .i64 0, .int .i64 100, .int .i64 5, .int .i64 0, .int .i64 0, .slice none 0 0, .int .i64 2, .int .i64 0, .int .i64 100, .int .i64 5, .int .i64 0, .int .i64 0, .slice (some ⟨wr.heap.size + 1 + 1, 0, none⟩) 1 1, .int .i64 1, .int .i64 0, .int .i64 100, .int .i64 5, .int .i64 0, .int .i64 0, .slice (some ⟨wr.heap.size + 1 + 1 + 1 + 1, 0, none⟩) 1 1] 41) (wr.heap.size + 5 + 1) (by first | omega | (simp only [World.size_alloc]; omega) | (simp only [World.size_setCell]; omega) | (simp only [World.size_setCell, World.size_alloc]; omega)))
        have hBF : But3 w9 WF w.heap.size w.heap.size (w.heap.size + 1) := by rw [hWF]; exact (hAlc _ _ (hSet _ _ _ _ (hSet _ _ _ _ (hSet _ _ _ _ (hSet _ _ _ _ (hSet _ _ _ _ (hSet _ _ _ _ (hSet _ _ _ _ (hSet _ _ _ _ (hAlc _ _ (But3.refl w9 w.heap.size w.heap.size (w.heap.size + 1))) (.inl rfl)) (.inl rfl)) (.inr rfl)) (.inr rfl)) (.inr rfl)) (.inr rfl)) (.inr rfl)) (.inr rfl)))
        rw [← hWF]
        clear hWF
        clear pw0 pw1 qw0 qw1 qw2 qw3 qw4 qw5 fw0 fw1 pc0 pc1 qc0 qc1 qc2 qc3 qc4 qc5 fc0 fc1 pe0 pe1 qe0 qe1 qe2 qe3 qe4 qe5 fe0 fe1 pa0 pa1 qa0 qa1 qa2 qa3 qa4 qa5 fa0 fa1 pb0 pb1 qb0 qb1 qb2 qb3 qb4 qb5 fb0 fb1 qg0 qg1 qg2 qg3 qg4 qg5 fg1 qh0 qh1 qh2 qh3 qh4 qh5 fh1 qi0 qi1 qi2 qi3 qi4 qi5 fi1 qj0 qj1 qj2 qj3 qj4 qj5 fj1 qk0 qk1 qk2 qk3 qk4 qk5 fk1 ql0 ql1 ql2 ql3 ql4 ql5 fl1
        refine bodyPost_ret_by (v := .tuple #[.agg #[.int .i64 3, .slice A 5 c], .agg #[.int .i64 0, .int .i64 0, .int .i64 0, .int .i64 50, .int .i64 1000, .slice (some ⟨wr.heap.size + 5, 0, none⟩) 1 1], .slice (some ⟨wr.heap.size + 5 + 1, 0, none⟩) 3 3]) ?_ rfl ?_
        · have c0 : WF.drew.cell? ⟨w.heap.size, 0, none⟩ = some (.int .i64 3) := blk_cell z0 0 _ rfl
          have c1 : WF.drew.cell? ⟨w.heap.size, 1, none⟩ = some (.slice A 5 c) := blk_cell z0 1 _ rfl
          have b0 : WF.drew.cell? ⟨w.heap.size + 1, 0, none⟩ = some (.int .i64 0) := blk_cell z1 0 _ rfl
          have b1 : WF.drew.cell? ⟨w.heap.size + 1, 1, none⟩ = some (.int .i64 0) := blk_cell z1 1 _ rfl
          have b2 : WF.drew.cell? ⟨w.heap.size + 1, 2, none⟩ = some (.int .i64 0) := blk_cell z1 2 _ rfl
          have b3 : WF.drew.cell? ⟨w.heap.size + 1, 3, none⟩ = some (.int .i64 50) := blk_cell z1 3 _ rfl
          have b4 : WF.drew.cell? ⟨w.heap.size + 1, 4, none⟩ = some (.int .i64 1000) := blk_cell z1 4 _ rfl
          have b5 : WF.drew.cell? ⟨w.heap.size + 1, 5, none⟩ = some (.slice (some ⟨wr.heap.size + 5, 0, none⟩) 1 1) := blk_cell z1 5 _ rfl
          rw [results_cells2_tmp rfl]
          simp [go_sem, c0, c1, b0, b1, b2, b3, b4, b5]
        · exact ex31_fin (ownsRow_of hRo (fun g o hg hl => hk9 _ _ _ hBF hg (by omega))) z2 (hk9 _ _ _ hBF d2 (by omega)) (hk9 _ _ _ hBF d4 (by omega)) z3 (But3.below_of (hb.grown hgr hb.size (fun k e => by injection e with e; omega)) hBF (Nat.le_refl _) (Nat.le_refl _) (by omega))
      · obtain ⟨WF, hWF⟩ : ∃ WF : World, WF = ((((((((((w9.alloc (.cells #[.int .i64 1, .int .i64 0, .int .i64 100, .int .i64 5, .int .i64 0, .int .i64 0, .slice none 0 0, .int .i64 2, .int .i64 0, .int .i64 100, .int .i64 5, .int .i64 0, .int .i64 0, .slice (some ⟨wr.heap.size + 1 + 1, 0, none⟩) 1 1, .int .i64 1, .int .i64 0, .int .i64 100, .int .i64 5, .int .i64 0, .int .i64 0, .slice (some ⟨wr.heap.size + 1 + 1 + 1 + 1, 0, none⟩) 1 1] 41)).alloc (.cells #[.int .i64 1000] 3)).setCell ⟨w.heap.size, 0, none⟩ (.int .i64 3)).setCell ⟨w.heap.size, 1, none⟩ (.slice A 5 c)).setCell ⟨w.heap.size + 1, 0, none⟩ (.int .i64 0)).setCell ⟨w.heap.size + 1, 1, none⟩ (.int .i64 0)).setCell ⟨w.heap.size + 1, 2, none⟩ (.int .i64 0)).setCell ⟨w.heap.size + 1, 3, none⟩ (.int .i64 50)).setCell ⟨w.heap.size + 1, 4, none⟩ (.int .i64 1000)).setCell ⟨w.heap.size + 1, 5, none⟩ (.slice (some ⟨wr.heap.size + 5 + 1, 0, none⟩) 1 1)) := ⟨_, rfl⟩
        have z0 : WF.heap[w.heap.size]? = some (.cells #[.int .i64 3, .slice A 5 c] 24 (0, 0)) := by rw [hWF]; exact (blk_other (blk_other (blk_other (blk_other (blk_other (blk_other (blk_set (blk_set (blk_alloc (blk_alloc dh _) _) 0 _) 1 _) _ (by omega)) _ (by omega)) _ (by omega)) _ (by omega)) _ (by omega)) _ (by omega))
        have z1 : WF.heap[w.heap.size + 1]? = some (.cells #[.int .i64 0, .int .i64 0, .int .i64 0, .int .i64 50, .int .i64 1000, .slice (some ⟨wr.heap.size + 5 + 1, 0, none⟩) 1 1] 27 (0, 0)) := by rw [hWF]; exact (blk_set (blk_set (blk_set (blk_set (blk_set (blk_set (blk_other (blk_other (blk_alloc (blk_alloc di _) _) _ (by omega)) _ (by omega)) 0 _) 1 _) 2 _) 3 _) 4 _) 5 _)
        have z2 : WF.heap[wr.heap.size + 5 + 1]? = some (.cells #[.int .i64 1000] 3 (0, 0)) := by rw [hWF]; exact (blk_other (blk_other (blk_other (blk_other (blk_other (blk_other (blk_other (blk_other (heap_alloc_at _ (.cells #[.int .i64 1000] 3) (wr.heap.size + 5 + 1) (by first | omega | (simp only [World.size_alloc]; omega) | (simp only [World.size_setCell]; omega) | (simp only [World.size_setCell, World.size_alloc]; omega))) _ (by omega)) _ (by omega)) _ (by omega)) _ (by omega)) _ (by omega)) _ (by omega)) _ (by omega)) _ (by omega))
        have z3 : WF.heap[wr.heap.size + 5]? = some (.cells #[.int .i64 1, .int .i64 0, .int .i64 100, .int .i64 5, .int .i64 0, .int .i64 0, .slice none 0 0, .int .i64 2, .int .i64 0, .int .i64 100, .int .i64 5, .int .i64 0, .int .i64 0, .slice (some ⟨wr.heap.size + 1 + 1, 0, none⟩) 1 1, .int .i64 1, .int .i64 0, .int .i64 100, .int .i64 5, .int .i64 0, .int .i64 0, .slice (some ⟨wr.heap.size + 1 + 1 + 1 + 1, 0, none⟩) 1 1] 41 (0, 0)) := by rw [hWF]; exact (blk_other (blk_other (blk_other (blk_other (blk_other (blk_other (blk_other (blk_other (blk_alloc (heap_alloc_at _ (.cells #[.int .i64 1, .int .i64 0, .int .i64 100, .int .i64 5, .int .i64 0, .int .i64 0, .slice none 0 0, .int .i64 2, .int .i64 0, .int .i64 100, .int .i64 5, .int .i64 0, .int .i64 0, .slice (some ⟨wr.heap.size + 1 + 1, 0, none⟩) 1 1, .int .i64 1, .int .i64 0, .int .i64 100, .int .i64 5, .int .i64 0, .int .i64 0, .slice (some ⟨wr.heap.size + 1 + 1 + 1 + 1, 0, none⟩) 1 1] 41) (wr.heap.size + 5) (by first | omega | (simp only [World.size_alloc]; omega) | (simp only [World.size_setCell]; omega) | (simp only [World.size_setCell, World.size_alloc]; omega))) _) _ (by omega)) _ (by omega)) _ (by omega)) _ (by omega)) _ (by omega)) _ (by omega)) _ (by omega)) _ (by omega))
        have hBF : But3 w9 WF w.heap.size w.heap.size (w.heap.size + 1) := by rw [hWF]; exact (hSet _ _ _ _ (hSet _ _ _ _ (hSet _ _ _ _ (hSet _ _ _ _ (hSet _ _ _ _ (hSet _ _ _ _ (hSet _ _ _ _ (hSet _ _ _ _ (hAlc _ _ (hAlc _ _ (But3.refl w9 w.heap.size w.heap.size (w.heap.size + 1)))) (.inl rfl)) (.inl rfl)) (.inr rfl)) (.inr rfl)) (.inr rfl)) (.inr rfl)) (.inr rfl)) (.inr rfl))
        rw [← hWF]
        clear hWF
        clear pw0 pw1 qw0 qw1 qw2 qw3 qw4 qw5 fw0 fw1 pc0 pc1 qc0 qc1 qc2 qc3 qc4 qc5 fc0 fc1 pe0 pe1 qe0 qe1 qe2 qe3 qe4 qe5 fe0 fe1 pa0 pa1 qa0 qa1 qa2 qa3 qa4 qa5 fa0 fa1 pb0 pb1 qb0 qb1 qb2 qb3 qb4 qb5 fb0 fb1 qg0 qg1 qg2 qg3 qg4 qg5 fg1 qh0 qh1 qh2 qh3 qh4 qh5 fh1 qi0 qi1 qi2 qi3 qi4 qi5 fi1 qj0 qj1 qj2 qj3 qj4 qj5 fj1 qk0 qk1 qk2 qk3 qk4 qk5 fk1 ql0 ql1 ql2 ql3 ql4 ql5 fl1
        refine bodyPost_ret_by (v := .tuple #[.agg #[.int .i64 3, .slice A 5 c], .agg #[.int .i64 0, .int .i64 0, .int .i64 0, .int .i64 50, .int .i64 1000, .slice (some ⟨wr.heap.size + 5 + 1, 0, none⟩) 1 1], .slice (some ⟨wr.heap.size + 5, 0, none⟩) 3 3]) ?_ rfl ?_
        · have c0 : WF.drew.cell? ⟨w.heap.size, 0, none⟩ = some (.int .i64 3) := blk_cell z0 0 _ rfl
          have c1 : WF.drew.cell? ⟨w.heap.size, 1, none⟩ = some (.slice A 5 c) := blk_cell z0 1 _ rfl
          have b0 : WF.drew.cell? ⟨w.heap.size + 1, 0, none⟩ = some (.int .i64 0) := blk_cell z1 0 _ rfl
          have b1 : WF.drew.cell? ⟨w.heap.size + 1, 1, none⟩ = some (.int .i64 0) := blk_cell z1 1 _ rfl
          have b2 : WF.drew.cell? ⟨w.heap.size + 1, 2, none⟩ = some (.int .i64 0) := blk_cell z1 2 _ rfl
          have b3 : WF.drew.cell? ⟨w.heap.size + 1, 3, none⟩ = some (.int .i64 50) := blk_cell z1 3 _ rfl
          have b4 : WF.drew.cell? ⟨w.heap.size + 1, 4, none⟩ = some (.int .i64 1000) := blk_cell z1 4 _ rfl
          have b5 : WF.drew.cell? ⟨w.heap.size + 1, 5, none⟩ = some (.slice (some ⟨wr.heap.size + 5 + 1, 0, none⟩) 1 1) := blk_cell z1 5 _ rfl
          rw [results_cells2_tmp rfl]
          simp [go_sem, c0, c1, b0, b1, b2, b3, b4, b5]
        · exact ex31_fin (ownsRow_of hRo (fun g o hg hl => hk9 _ _ _ hBF hg (by omega))) z2 (hk9 _ _ _ hBF d2 (by omega)) (hk9 _ _ _ hBF d4 (by omega)) z3 (But3.below_of (hb.grown hgr hb.size (fun k e => by injection e with e; omega)) hBF (Nat.le_refl _) (Nat.le_refl _) (by omega))
      · obtain ⟨WF, hWF⟩ : ∃ WF : World, WF = ((((((((((w9.alloc (.cells #[.int .i64 1, .int .i64 0, .int .i64 100, .int .i64 5, .int .i64 0, .int .i64 0, .slice none 0 0, .int .i64 2, .int .i64 0, .int .i64 100, .int .i64 5, .int .i64 0, .int .i64 0, .slice (some ⟨wr.heap.size + 1 + 1, 0, none⟩) 1 1, .int .i64 1, .int .i64 0, .int .i64 100, .int .i64 5, .int .i64 0, .int .i64 0, .slice (some ⟨wr.heap.size + 1 + 1 + 1 + 1, 0, none⟩) 1 1] 41)).setCell ⟨w.heap.size, 0, none⟩ (.int .i64 3)).setCell ⟨w.heap.size, 1, none⟩ (.slice A 5 c)).alloc (.cells #[.int .i64 1000] 3)).setCell ⟨w.heap.size + 1, 0, none⟩ (.int .i64 0)).setCell ⟨w.heap.size + 1, 1, none⟩ (.int .i64 0)).setCell ⟨w.heap.size + 1, 2, none⟩ (.int .i64 0)).setCell ⟨w.heap.size + 1, 3, none⟩ (.int .i64 50)).setCell ⟨w.heap.size + 1, 4, none⟩ (.int .i64 1000)).setCell ⟨w.heap.size + 1, 5, none⟩ (.slice (some ⟨wr.heap.size + 5 + 1, 0, none⟩) 1 1)) := ⟨_, rfl⟩
        have z0 : WF.heap[w.heap.size]? = some (.cells #[.int .i64 3, .slice A 5 c] 24 (0, 0)) := by rw [hWF]; exact (blk_other (blk_other (blk_other (blk_other (blk_other (blk_other (blk_alloc (blk_set (blk_set (blk_alloc dh _) 0 _) 1 _) _) _ (by omega)) _ (by omega)) _ (by omega)) _ (by omega)) _ (by omega)) _ (by omega))
        have z1 : WF.heap[w.heap.size + 1]? = some (.cells #[.int .i64 0, .int .i64 0, .int .i64 0, .int .i64 50, .int .i64 1000, .slice (some ⟨wr.heap.size + 5 + 1, 0, none⟩) 1 1] 27 (0, 0)) := by rw [hWF]; exact (blk_set (blk_set (blk_set (blk_set (blk_set (blk_set (blk_alloc (blk_other (blk_other (blk_alloc di _) _ (by omega)) _ (by omega)) _) 0 _) 1 _) 2 _) 3 _) 4 _) 5 _)
        have z2 : WF.heap[wr.heap.size + 5 + 1]? = some (.cells #[.int .i64 1000] 3 (0, 0)) := by rw [hWF]; exact (blk_other (blk_other (blk_other (blk_other (blk_other (blk_other (heap_alloc_at _ (.cells #[.int .i64 1000] 3) (wr.heap.size + 5 + 1) (by first | omega | (simp only [World.size_alloc]; omega) | (simp only [World.size_setCell]; omega) | (simp only [World.size_setCell, World.size_alloc]; omega))) _ (by omega)) _ (by omega)) _ (by omega)) _ (by omega)) _ (by omega)) _ (by omega))
        have z3 : WF.heap[wr.heap.size + 5]? = some (.cells #[.int .i64 1, .int .i64 0, .int .i64 100, .int .i64 5, .int .i64 0, .int .i64 0, .slice none 0 0, .int .i64 2, .int .i64 0, .int .i64 100, .int .i64 5, .int .i64 0, .int .i64 0, .slice (some ⟨wr.heap.size + 1 + 1, 0, none⟩) 1 1, .int .i64 1, .int .i64 0, .int .i64 100, .int .i64 5, .int .i64 0, .int .i64 0, .slice (some ⟨wr.heap.size + 1 + 1 + 1 + 1, 0, none⟩) 1 1] 41 (0, 0)) := by rw [hWF]; exact (blk_other (blk_other (blk_other (blk_other (blk_other (blk_other (blk_alloc (blk_other (blk_other (heap_alloc_at _ (.cells #[.int .i64 1, .int .i64 0, .int .i64 100, .int .i64 5, .int .i64 0, .int .i64 0, .slice none 0 0, .int .i64 2, .int .i64 0, .int .i64 100, .int .i64 5, .int .i64 0, .int .i64 0, .slice (some ⟨wr.heap.size + 1 + 1, 0, none⟩) 1 1, .int .i64 1, .int .i64 0, .int .i64 100, .int .i64 5, .int .i64 0, .int .i64 0, .slice (some ⟨wr.heap.size + 1 + 1 + 1 + 1, 0, none⟩) 1 1] 41) (wr.heap.size + 5) (by first | omega | (simp only [World.size_alloc]; omega) | (simp only [World.size_setCell]; omega) | (simp only [World.size_setCell, World.size_alloc]; omega))) _ (by omega)) _ (by omega)) _) _ (by omega)) _ (by omega)) _ (by omega)) _ (by omega)) _ (by omega)) _ (by omega))
        have hBF : But3 w9 WF w.heap.size w.heap.size (w.heap.size + 1) := by rw [hWF]; exact (hSet _ _ _ _ (hSet _ _ _ _ (hSet _ _ _ _ (hSet _ _ _ _ (hSet _ _ _ _ (hSet _ _ _ _ (hAlc _ _ (hSet _ _ _ _ (hSet _ _ _ _ (hAlc _ _ (But3.refl w9 w.heap.size w.heap.size (w.heap.size + 1))) (.inl rfl)) (.inl rfl))) (.inr rfl)) (.inr rfl)) (.inr rfl)) (.inr rfl)) (.inr rfl)) (.inr rfl))
        rw [← hWF]
        clear hWF
        clear pw0 pw1 qw0 qw1 qw2 qw3 qw4 qw5 fw0 fw1 pc0 pc1 qc0 qc1 qc2 qc3 qc4 qc5 fc0 fc1 pe0 pe1 qe0 qe1 qe2 qe3 qe4 qe5 fe0 fe1 pa0 pa1 qa0 qa1 qa2 qa3 qa4 qa5 fa0 fa1 pb0 pb1 qb0 qb1 qb2 qb3 qb4 qb5 fb0 fb1 qg0 qg1 qg2 qg3 qg4 qg5 fg1 qh0 qh1 qh2 qh3 qh4 qh5 fh1 qi0 qi1 qi2 qi3 qi4 qi5 fi1 qj0 qj1 qj2 qj3 qj4 qj5 fj1 qk0 qk1 qk2 qk3 qk4 qk5 fk1 ql0 ql1 ql2 ql3 ql4 ql5 fl1
        refine bodyPost_ret_by (v := .tuple #[.agg #[.int .i64 3, .slice A 5 c], .agg #[.int .i64 0, .int .i64 0, .int .i64 0, .int .i64 50, .int .i64 1000, .slice (some ⟨wr.heap.size + 5 + 1, 0, none⟩) 1 1], .slice (some ⟨wr.heap.size + 5, 0, none⟩) 3 3]) ?_ rfl ?_
        · have c0 : WF.drew.cell? ⟨w.heap.size, 0, none⟩ = some (.int .i64 3) := blk_cell z0 0 _ rfl
          have c1 : WF.drew.cell? ⟨w.heap.size, 1, none⟩ = some (.slice A 5 c) := blk_cell z0 1 _ rfl
          have b0 : WF.drew.cell? ⟨w.heap.size + 1, 0, none⟩ = some (.int .i64 0) := blk_cell z1 0 _ rfl
          have b1 : WF.drew.cell? ⟨w.heap.size + 1, 1, none⟩ = some (.int .i64 0) := blk_cell z1 1 _ rfl
          have b2 : WF.drew.cell? ⟨w.heap.size + 1, 2, none⟩ = some (.int .i64 0) := blk_cell z1 2 _ rfl
          have b3 : WF.drew.cell? ⟨w.heap.size + 1, 3, none⟩ = some (.int .i64 50) := blk_cell z1 3 _ rfl
          have b4 : WF.drew.cell? ⟨w.heap.size + 1, 4, none⟩ = some (.int .i64 1000) := blk_cell z1 4 _ rfl
          have b5 : WF.drew.cell? ⟨w.heap.size + 1, 5, none⟩ = some (.slice (some ⟨wr.heap.size + 5 + 1, 0, none⟩) 1 1) := blk_cell z1 5 _ rfl
          rw [results_cells2_tmp rfl]
          simp [go_sem, c0, c1, b0, b1, b2, b3, b4, b5]
        · exact ex31_fin (ownsRow_of hRo (fun g o hg hl => hk9 _ _ _ hBF hg (by omega))) z2 (hk9 _ _ _ hBF d2 (by omega)) (hk9 _ _ _ hBF d4 (by omega)) z3 (But3.below_of (hb.grown hgr hb.size (fun k e => by injection e with e; omega)) hBF (Nat.le_refl _) (Nat.le_refl _) (by omega))
      · obtain ⟨WF, hWF⟩ : ∃ WF : World, WF = ((((((((((w9.setCell ⟨w.heap.size, 0, none⟩ (.int .i64 3)).setCell ⟨w.heap.size, 1, none⟩ (.slice A 5 c)).alloc (.cells #[.int .i64 1000] 3)).alloc (.cells #[.int .i64 1, .int .i64 0, .int .i64 100, .int .i64 5, .int .i64 0, .int .i64 0, .slice none 0 0, .int .i64 2, .int .i64 0, .int .i64 100, .int .i64 5, .int .i64 0, .int .i64 0, .slice (some ⟨wr.heap.size + 1 + 1, 0, none⟩) 1 1, .int .i64 1, .int .i64 0, .int .i64 100, .int .i64 5, .int .i64 0, .int .i64 0, .slice (some ⟨wr.heap.size + 1 + 1 + 1 + 1, 0, none⟩) 1 1] 41)).setCell ⟨w.heap.size + 1, 0, none⟩ (.int .i64 0)).setCell ⟨w.heap.size + 1, 1, none⟩ (.int .i64 0)).setCell ⟨w.heap.size + 1, 2, none⟩ (.int .i64 0)).setCell ⟨w.heap.size + 1, 3, none⟩ (.int .i64 50)).setCell ⟨w.heap.size + 1, 4, none⟩ (.int .i64 1000)).setCell ⟨w.heap.size + 1, 5, none⟩ (.slice (some ⟨wr.heap.size + 5, 0, none⟩) 1 1)) := ⟨_, rfl⟩
        have z0 : WF.heap[w.heap.size]? = some (.cells #[.int .i64 3, .slice A 5 c] 24 (0, 0)) := by rw [hWF]; exact (blk_other (blk_other (blk_other (blk_other (blk_other (blk_other (blk_alloc (blk_alloc (blk_set (blk_set dh 0 _) 1 _) _) _) _ (by omega)) _ (by omega)) _ (by omega)) _ (by omega)) _ (by omega)) _ (by omega))
        have z1 : WF.heap[w.heap.size + 1]? = some (.cells #[.int .i64 0, .int .i64 0, .int .i64 0, .int .i64 50, .int .i64 1000, .slice (some ⟨wr.heap.size + 5, 0, none⟩) 1 1] 27 (0, 0)) := by rw [hWF]; exact (blk_set (blk_set (blk_set (blk_set (blk_set (blk_set (blk_alloc (blk_alloc (blk_other (blk_other di _ (by omega)) _ (by omega)) _) _) 0 _) 1 _) 2 _) 3 _) 4 _) 5 _)
        have z2 : WF.heap[wr.heap.size + 5]? = some (.cells #[.int .i64 1000] 3 (0, 0)) := by rw [hWF]; exact (blk_other (blk_other (blk_other (blk_other (blk_other (blk_other (blk_alloc (heap_alloc_at _ (.cells #[.int .i64 1000] 3) (wr.heap.size + 5) (by first | omega | (simp only [World.size_alloc]; omega) | (simp only [World.size_setCell]; omega) | (simp only [World.size_setCell, World.size_alloc]; omega))) _) _ (by omega)) _ (by omega)) _ (by omega)) _ (by omega)) _ (by omega)) _ (by omega))
        have z3 : WF.heap[wr.heap.size + 5 + 1]? = some (.cells #[.int .i64 1, .int .i64 0, .int .i64 100, .int .i64 5, .int .i64 0, .int .i64 0, .slice none 0 0, .int .i64 2, .int .i64 0, .int .i64 100, .int .i64 5, .int .i64 0, .int .i64 0, .slice (some ⟨wr.heap.size + 1 + 1, 0, none⟩) 1 1, .int .i64 1, .int .i64 0, .int .i64 100, .int .i64 5, .int .i64 0, .int .i64 0, .slice (some ⟨wr.heap.size + 1 + 1 + 1 + 1, 0, none⟩) 1 1] 41 (0, 0)) := by rw [hWF]; exact (blk_other (blk_other (blk_other (blk_other (blk_other (blk_other (heap_alloc_at _ (.cells #[.int .i64 1, .int .i64 0, .int .i64 100, .int .i64 5, .int .i64 0, .int .i64 0, .slice none 0 0, .int .i64 2, .int .i64 0, .int .i64 100, .int .i64 5, .int .i64 0, .int .i64 0, .slice (some ⟨wr.heap.size + 1 + 1, 0, none⟩) 1 1, .int .i64 1, .int .i64 0, .int .i64 100, .int .i64 5, .int .i64 0, .int .i64 0, .slice (some ⟨wr.heap.size + 1 + 1 + 1 + 1, 0, none⟩) 1 1] 41) (wr.heap.size + 5 + 1) (by first | omega | (simp only [World.size_alloc]; omega) | (simp only [World.size_setCell]; omega) | (simp only [World.size_setCell, World.size_alloc]; omega))) _ (by omega)) _ (by omega)) _ (by omega)) _ (by omega)) _ (by omega)) _ (by omega))
        have hBF : But3 w9 WF w.heap.size w.heap.size (w.heap.size + 1) := by rw [hWF]; exact (hSet _ _ _ _ (hSet _ _ _ _ (hSet _ _ _ _ (hSet _ _ _ _ (hSet _ _ _ _ (hSet _ _ _ _ (hAlc _ _ (hAlc _ _ (hSet _ _ _ _ (hSet _ _ _ _ (But3.refl w9 w.heap.size w.heap.size (w.heap.size + 1)) (.inl rfl)) (.inl rfl)))) (.inr rfl)) (.inr rfl)) (.inr rfl)) (.inr rfl)) (.inr rfl)) (.inr rfl))
        rw [← hWF]
        clear hWF
        clear pw0 pw1 qw0 qw1 qw2 qw3 qw4 qw5 fw0 fw1 pc0 pc1 qc0 qc1 qc2 qc3 qc4 qc5 fc0 fc1 pe0 pe1 qe0 qe1 qe2 qe3 qe4 qe5 fe0 fe1 pa0 pa1 qa0 qa1 qa2 qa3 qa4 qa5 fa0 fa1 pb0 pb1 qb0 qb1 qb2 qb3 qb4 qb5 fb0 fb1 qg0 qg1 qg2 qg3 qg4 qg5 fg1 qh0 qh1 qh2 qh3 qh4 qh5 fh1 qi0 qi1 qi2 qi3 qi4 qi5 fi1 qj0 qj1 qj2 qj3 qj4 qj5 fj1 qk0 qk1 qk2 qk3 qk4 qk5 fk1 ql0 ql1 ql2 ql3 ql4 ql5 fl1
        refine bodyPost_ret_by (v := .tuple #[.agg #[.int .i64 3, .slice A 5 c], .agg #[.int .i64 0, .int .i64 0, .int .i64 0, .int .i64 50, .int .i64 1000, .slice (some ⟨wr.heap.size + 5, 0, none⟩) 1 1], .slice (some ⟨wr.heap.size + 5 + 1, 0, none⟩) 3 3]) ?_ rfl ?_
        · have c0 : WF.drew.cell? ⟨w.heap.size, 0, none⟩ = some (.int .i64 3) := blk_cell z0 0 _ rfl
          have c1 : WF.drew.cell? ⟨w.heap.size, 1, none⟩ = some (.slice A 5 c) := blk_cell z0 1 _ rfl
          have b0 : WF.drew.cell? ⟨w.heap.size + 1, 0, none⟩ = some (.int .i64 0) := blk_cell z1 0 _ rfl
          have b1 : WF.drew.cell? ⟨w.heap.size + 1, 1, none⟩ = some (.int .i64 0) := blk_cell z1 1 _ rfl
          have b2 : WF.drew.cell? ⟨w.heap.size + 1, 2, none⟩ = some (.int .i64 0) := blk_cell z1 2 _ rfl
          have b3 : WF.drew.cell? ⟨w.heap.size + 1, 3, none⟩ = some (.int .i64 50) := blk_cell z1 3 _ rfl
          have b4 : WF.drew.cell? ⟨w.heap.size + 1, 4, none⟩ = some (.int .i64 1000) := blk_cell z1 4 _ rfl
          have b5 : WF.drew.cell? ⟨w.heap.size + 1, 5, none⟩ = some (.slice (some ⟨wr.heap.size + 5, 0, none⟩) 1 1) := blk_cell z1 5 _ rfl
          rw [results_cells2_tmp rfl]
          simp [go_sem, c0, c1, b0, b1, b2, b3, b4, b5]
        · exact ex31_fin (ownsRow_of hRo (fun g o hg hl => hk9 _ _ _ hBF hg (by omega))) z2 (hk9 _ _ _ hBF d2 (by omega)) (hk9 _ _ _ hBF d4 (by omega)) z3 (But3.below_of (hb.grown hgr hb.size (fun k e => by injection e with e; omega)) hBF (Nat.le_refl _) (Nat.le_refl _) (by omega))
      · obtain ⟨WF, hWF⟩ : ∃ WF : World, WF = ((((((((((w9.setCell ⟨w.heap.size, 0, none⟩ (.int .i64 3)).setCell ⟨w.heap.size, 1, none⟩ (.slice A 5 c)).alloc (.cells #[.int .i64 1000] 3)).setCell ⟨w.heap.size + 1, 0, none⟩ (.int .i64 0)).setCell ⟨w.heap.size + 1, 1, none⟩ (.int .i64 0)).setCell ⟨w.heap.size + 1, 2, none⟩ (.int .i64 0)).setCell ⟨w.heap.size + 1, 3, none⟩ (.int .i64 50)).setCell ⟨w.heap.size + 1, 4, none⟩ (.int .i64 1000)).setCell ⟨w.heap.size + 1, 5, none⟩ (.slice (some ⟨wr.heap.size + 5, 0, none⟩) 1 1)).alloc (.cells #[.int .i64 1, .int .i64 0, .int .i64 100, .int .i64 5, .int .i64 0, .int .i64 0, .slice none 0 0, .int .i64 2, .int .i64 0, .int .i64 100, .int .i64 5, .int .i64 0, .int .i64 0, .slice (some ⟨wr.heap.size + 1 + 1, 0, none⟩) 1 1, .int .i64 1, .int .i64 0, .int .i64 100, .int .i64 5, .int .i64 0, .int .i64 0, .slice (some ⟨wr.heap.size + 1 + 1 + 1 + 1, 0, none⟩) 1 1] 41)) := ⟨_, rfl⟩
        have z0 : WF.heap[w.heap.size]? = some (.cells #[.int .i64 3, .slice A 5 c] 24 (0, 0)) := by rw [hWF]; exact (blk_alloc (blk_other (blk_other (blk_other (blk_other (blk_other (blk_other (blk_alloc (blk_set (blk_set dh 0 _) 1 _) _) _ (by omega)) _ (by omega)) _ (by omega)) _ (by omega)) _ (by omega)) _ (by omega)) _)
        have z1 : WF.heap[w.heap.size + 1]? = some (.cells #[.int .i64 0, .int .i64 0, .int .i64 0, .int .i64 50, .int .i64 1000, .slice (some ⟨wr.heap.size + 5, 0, none⟩) 1 1] 27 (0, 0)) := by rw [hWF]; exact (blk_alloc (blk_set (blk_set (blk_set (blk_set (blk_set (blk_set (blk_alloc (blk_other (blk_other di _ (by omega)) _ (by omega)) _) 0 _) 1 _) 2 _) 3 _) 4 _) 5 _) _)
        have z2 : WF.heap[wr.heap.size + 5]? = some (.cells #[.int .i64 1000] 3 (0, 0)) := by rw [hWF]; exact (blk_alloc (blk_other (blk_other (blk_other (blk_other (blk_other (blk_other (heap_alloc_at _ (.cells #[.int .i64 1000] 3) (wr.heap.size + 5) (by first | omega | (simp only [World.size_alloc]; omega) | (simp only [World.size_setCell]; omega) | (simp only [World.size_setCell, World.size_alloc]; omega))) _ (by omega)) _ (by omega)) _ (by omega)) _ (by omega)) _ (by omega)) _ (by omega)) _)
        have z3 : WF.heap[wr.heap.size + 5 + 1]? = some (.cells #[.int .i64 1, .int .i64 0, .int .i64 100, .int .i64 5, .int .i64 0, .int .i64 0, .slice none 0 0, .int .i64 2, .int .i64 0, .int .i64 100, .int .i64 5, .int .i64 0, .int .i64 0, .slice (some ⟨wr.heap.size + 1 + 1, 0, none⟩) 1 1, .int .i64 1, .int .i64 0, .int .i64 100, .int .i64 5, .int .i64 0, .int .i64 0, .slice (some ⟨wr.heap.size + 1 + 1 + 1 + 1, 0, none⟩) 1 1] 41 (0, 0)) := by rw [hWF]; exact (heap_alloc_at _ (.cells #[.int .i64 1, .int .i64 0, .int .i64 100, .int .i64 5, .int .i64 0, .int .i64 0, .slice none 0 0, .int .i64 2, .int .i64 0, .int .i64 100, .int .i64 5, .int .i64 0, .int .i64 0, .slice (some ⟨wr.heap.size + 1 + 1, 0, none⟩) 1 1, .int .i64 1, .int .i64 0, .int .i64 100, .int .i64 5, .int .i64 0, .int .i64 0, .slice (some ⟨wr.heap.size + 1 + 1 + 1 + 1, 0, none⟩) 1 1] 41) (wr.heap.size + 5 + 1) (by first | omega | (simp only [World.size_alloc]; omega) | (simp only [World.size_setCell]; omega) | (simp only [World.size_setCell, World.size_alloc]; omega)))
        have hBF : But3 w9 WF w.heap.size w.heap.size (w.heap.size + 1) := by rw [hWF]; exact (hAlc _ _ (hSet _ _ _ _ (hSet _ _ _ _ (hSet _ _ _ _ (hSet _ _ _ _ (hSet _ _ _ _ (hSet _ _ _ _ (hAlc _ _ (hSet _ _ _ _ (hSet _ _ _ _ (But3.refl w9 w.heap.size w.heap.size (w.heap.size + 1)) (.inl rfl)) (.inl rfl))) (.inr rfl)) (.inr rfl)) (.inr rfl)) (.inr rfl)) (.inr rfl)) (.inr rfl)))
        rw [← hWF]
        clear hWF
        clear pw0 pw1 qw0 qw1 qw2 qw3 qw4 qw5 fw0 fw1 pc0 pc1 qc0 qc1 qc2 qc3 qc4 qc5 fc0 fc1 pe0 pe1 qe0 qe1 qe2 qe3 qe4 qe5 fe0 fe1 pa0 pa1 qa0 qa1 qa2 qa3 qa4 qa5 fa0 fa1 pb0 pb1 qb0 qb1 qb2 qb3 qb4 qb5 fb0 fb1 qg0 qg1 qg2 qg3 qg4 qg5 fg1 qh0 qh1 qh2 qh3 qh4 qh5 fh1 qi0 qi1 qi2 qi3 qi4 qi5 fi1 qj0 qj1 qj2 qj3 qj4 qj5 fj1 qk0 qk1 qk2 qk3 qk4 qk5 fk1 ql0 ql1 ql2 ql3 ql4 ql5 fl1
        refine bodyPost_ret_by (v := .tuple #[.agg #[.int .i64 3, .slice A 5 c], .agg #[.int .i64 0, .int .i64 0, .int .i64 0, .int .i64 50, .int .i64 1000, .slice (some ⟨wr.heap.size + 5, 0, none⟩) 1 1], .slice (some ⟨wr.heap.size + 5 + 1, 0, none⟩) 3 3]) ?_ rfl ?_
        · have c0 : WF.drew.cell? ⟨w.heap.size, 0, none⟩ = some (.int .i64 3) := blk_cell z0 0 _ rfl
          have c1 : WF.drew.cell? ⟨w.heap.size, 1, none⟩ = some (.slice A 5 c) := blk_cell z0 1 _ rfl
          have b0 : WF.drew.cell? ⟨w.heap.size + 1, 0, none⟩ = some (.int .i64 0) := blk_cell z1 0 _ rfl
          have b1 : WF.drew.cell? ⟨w.heap.size + 1, 1, none⟩ = some (.int .i64 0) := blk_cell z1 1 _ rfl
          have b2 : WF.drew.cell? ⟨w.heap.size + 1, 2, none⟩ = some (.int .i64 0) := blk_cell z1 2 _ rfl
          have b3 : WF.drew.cell? ⟨w.heap.size + 1, 3, none⟩ = some (.int .i64 50) := blk_cell z1 3 _ rfl
          have b4 : WF.drew.cell? ⟨w.heap.size + 1, 4, none⟩ = some (.int .i64 1000) := blk_cell z1 4 _ rfl
          have b5 : WF.drew.cell? ⟨w.heap.size + 1, 5, none⟩ = some (.slice (some ⟨wr.heap.size + 5, 0, none⟩) 1 1) := blk_cell z1 5 _ rfl
          rw [results_cells2_tmp rfl]
          simp [go_sem, c0, c1, b0, b1, b2, b3, b4, b5]
        · exact ex31_fin (ownsRow_of hRo (fun g o hg hl => hk9 _ _ _ hBF hg (by omega))) z2 (hk9 _ _ _ hBF d2 (by omega)) (hk9 _ _ _ hBF d4 (by omega)) z3 (But3.below_of (hb.grown hgr hb.size (fun k e => by injection e with e; omega)) hBF (Nat.le_refl _) (Nat.le_refl _) (by omega))
      · obtain ⟨WF, hWF⟩ : ∃ WF : World, WF = ((((((((((w9.setCell ⟨w.heap.size, 0, none⟩ (.int .i64 3)).setCell ⟨w.heap.size, 1, none⟩ (.slice A 5 c)).alloc (.cells #[.int .i64 1, .int .i64 0, .int .i64 100, .int .i64 5, .int .i64 0, .int .i64 0, .slice none 0 0, .int .i64 2, .int .i64 0, .int .i64 100, .int .i64 5, .int .i64 0, .int .i64 0, .slice (some ⟨wr.heap.size + 1 + 1, 0, none⟩) 1 1, .int .i64 1, .int .i64 0, .int .i64 100, .int .i64 5, .int .i64 0, .int .i64 0, .slice (some ⟨wr.heap.size + 1 + 1 + 1 + 1, 0, none⟩) 1 1] 41)).alloc (.cells #[.int .i64 1000] 3)).setCell ⟨w.heap.size + 1, 0, none⟩ (.int .i64 0)).setCell ⟨w.heap.size + 1, 1, none⟩ (.int .i64 0)).setCell ⟨w.heap.size + 1, 2, none⟩ (.int .i64 0)).setCell ⟨w.heap.size + 1, 3, none⟩ (.int .i64 50)).setCell ⟨w.heap.size + 1, 4, none⟩ (.int .i64 1000)).setCell ⟨w.heap.size + 1, 5, none⟩ (.slice (some ⟨wr.heap.size + 5 + 1, 0, none⟩) 1 1)) := ⟨_, rfl⟩
        have z0 : WF.heap[w.heap.size]? = some (.cells #[.int .i64 3, .slice A 5 c] 24 (0, 0)) := by rw [hWF]; exact (blk_other (blk_other (blk_other (blk_other (blk_other (blk_other (blk_alloc (blk_alloc (blk_set (blk_set dh 0 _) 1 _) _) _) _ (by omega)) _ (by omega)) _ (by omega)) _ (by omega)) _ (by omega)) _ (by omega))
        have z1 : WF.heap[w.heap.size + 1]? = some (.cells #[.int .i64 0, .int .i64 0, .int .i64 0, .int .i64 50, .int .i64 1000, .slice (some ⟨wr.heap.size + 5 + 1, 0, none⟩) 1 1] 27 (0, 0)) := by rw [hWF]; exact (blk_set (blk_set (blk_set (blk_set (blk_set (blk_set (blk_alloc (blk_alloc (blk_other (blk_other di _ (by omega)) _ (by omega)) _) _) 0 _) 1 _) 2 _) 3 _) 4 _) 5 _)
        have z2 : WF.heap[wr.heap.size + 5 + 1]? = some (.cells #[.int .i64 1000] 3 (0, 0)) := by rw [hWF]; exact (blk_other (blk_other (blk_other (blk_other (blk_other (blk_other (heap_alloc_at _ (.cells #[.int .i64 1000] 3) (wr.heap.size + 5 + 1) (by first | omega | (simp only [World.size_alloc]; omega) | (simp only [World.size_setCell]; omega) | (simp only [World.size_setCell, World.size_alloc]; omega))) _ (by omega)) _ (by omega)) _ (by omega)) _ (by omega)) _ (by omega)) _ (by omega))
        have z3 : WF.heap[wr.heap.size + 5]? = some (.cells #[.int .i64 1, .int .i64 0, .int .i64 100, .int .i64 5, .int .i64 0, .int .i64 0, .slice none 0 0, .int .i64 2, .int .i64 0, .int .i64 100, .int .i64 5, .int .i64 0, .int .i64 0, .slice (some ⟨wr.heap.size + 1 + 1, 0, none⟩) 1 1, .int .i64 1, .int .i64 0, .int .i64 100, .int .i64 5, .int .i64 0, .int .i64 0, .slice (some ⟨wr.heap.size + 1 + 1 + 1 + 1, 0, none⟩) 1 1] 41 (0, 0)) := by rw [hWF]; exact (blk_other (blk_other (blk_other (blk_other (blk_other (blk_other (blk_alloc (heap_alloc_at _ (.cells #[.int .i64 1, .int .i64 0, .int .i64 100, .int .i64 5, .int .i64 0, .int .i64 0, .slice none 0 0, .int .i64 2, .int .i64 0, .int .i64 100, .int .i64 5, .int .i64 0, .int .i64 0, .slice (some ⟨wr.heap.size + 1 + 1, 0, none⟩) 1 1, .int .i64 1, .int .i64 0, .int .i64 100, .int .i64 5, .int .i64 0, .int .i64 0, .slice (some ⟨wr.heap.size + 1 + 1 + 1 + 1, 0, none⟩) 1 1] 41) (wr.heap.size + 5) (by first | omega | (simp only [World.size_alloc]; omega) | (simp only [World.size_setCell]; omega) | (simp only [World.size_setCell, World.size_alloc]; omega))) _) _ (by omega)) _ (by omega)) _ (by omega)) _ (by omega)) _ (by omega)) _ (by omega))
        have hBF : But3 w9 WF w.heap.size w.heap.size (w.heap.size + 1) := by rw [hWF]; exact (hSet _ _ _ _ (hSet _ _ _ _ (hSet _ _ _ _ (hSet _ _ _ _ (hSet _ _ _ _ (hSet _ _ _ _ (hAlc _ _ (hAlc _ _ (hSet _ _ _ _ (hSet _ _ _ _ (But3.refl w9 w.heap.size w.heap.size (w.heap.size + 1)) (.inl rfl)) (.inl rfl)))) (.inr rfl)) (.inr rfl)) (.inr rfl)) (.inr rfl)) (.inr rfl)) (.inr rfl))
        rw [← hWF]
        clear hWF
        clear pw0 pw1 qw0 qw1 qw2 qw3 qw4 qw5 fw0 fw1 pc0 pc1 qc0 qc1 qc2 qc3 qc4 qc5 fc0 fc1 pe0 pe1 qe0 qe1 qe2 qe3 qe4 qe5 fe0 fe1 pa0 pa1 qa0 qa1 qa2 qa3 qa4 qa5 fa0 fa1 pb0 pb1 qb0 qb1 qb2 qb3 qb4 qb5 fb0 fb1 qg0 qg1 qg2 qg3 qg4 qg5 fg1 qh0 qh1 qh2 qh3 qh4 qh5 fh1 qi0 qi1 qi2 qi3 qi4 qi5 fi1 qj0 qj1 qj2 qj3 qj4 qj5 fj1 qk0 qk1 qk2 qk3 qk4 qk5 fk1 ql0 ql1 ql2 ql3 ql4 ql5 fl1
        refine bodyPost_ret_by (v := .tuple #[.agg #[.int .i64 3, .slice A 5 c], .agg #[.int .i64 0, .int .i64 0, .int .i64 0, .int .i64 50, .int .i64 1000, .slice (some ⟨wr.heap.size + 5 + 1, 0, none⟩) 1 1], .slice (some ⟨wr.heap.size + 5, 0, none⟩) 3 3]) ?_ rfl ?_
        · have c0 : WF.drew.cell? ⟨w.heap.size, 0, none⟩ = some (.int .i64 3) := blk_cell z0 0 _ rfl
          have c1 : WF.drew.cell? ⟨w.heap.size, 1, none⟩ = some (.slice A 5 c) := blk_cell z0 1 _ rfl
          have b0 : WF.drew.cell? ⟨w.heap.size + 1, 0, none⟩ = some (.int .i64 0) := blk_cell z1 0 _ rfl
          have b1 : WF.drew.cell? ⟨w.heap.size + 1, 1, none⟩ = some (.int .i64 0) := blk_cell z1 1 _ rfl
          have b2 : WF.drew.cell? ⟨w.heap.size + 1, 2, none⟩ = some (.int .i64 0) := blk_cell z1 2 _ rfl
          have b3 : WF.drew.cell? ⟨w.heap.size + 1, 3, none⟩ = some (.int .i64 50) := blk_cell z1 3 _ rfl
          have b4 : WF.drew.cell? ⟨w.heap.size + 1, 4, none⟩ = some (.int .i64 1000) := blk_cell z1 4 _ rfl
          have b5 : WF.drew.cell? ⟨w.heap.size + 1, 5, none⟩ = some (.slice (some ⟨wr.heap.size + 5 + 1, 0, none⟩) 1 1) := blk_cell z1 5 _ rfl
          rw [results_cells2_tmp rfl]
          simp [go_sem, c0, c1, b0, b1, b2, b3, b4, b5]
        · exact ex31_fin (ownsRow_of hRo (fun g o hg hl => hk9 _ _ _ hBF hg (by omega))) z2 (hk9 _ _ _ hBF d2 (by omega)) (hk9 _ _ _ hBF d4 (by omega)) z3 (But3.below_of (hb.grown hgr hb.size (fun k e => by injection e with e; omega)) hBF (Nat.le_refl _) (Nat.le_refl _) (by omega))
end Go.Proofs.Ytjcdpfpdjcannaa
