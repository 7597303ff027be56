/-
Routes: the walk of planner.labels.
-/
import Derived.Test.YtippdjmpkafifaaPA
namespace Go.Proofs.Ytippdjmpkafifaa
open Go.RowKit

/-- What planner.labels hands back. -/
def RetTab (w w' : World) (mb : Nat) (p : PS) (N : Nat) (rows : List (List Int)) (e : Ending) : Prop :=
  ∃ go gs, e = .returned (.slice (some ⟨go, 0, none⟩) N N) ∧ LTab w mb go p N gs rows w'

set_option maxRecDepth 100000 in
set_option maxHeartbeats 16000000 in
theorem labels_any (b mb : Nat) (p : PS) (N : Nat) (w : World) {X : Nat → Prop} (hp : PAt w b mb p X) (hN : N = 2 ^ p.n) :
    Calls Try.prog 65 #[.pointer (some ⟨b, 0, none⟩)] w fun e w' => RetTab w w' mb p N (K.table p.x.nd p.x.l p.x.s p.x.r p.l N) e := by
  obtain ⟨c0, c1, c2, c3, c4, c5, c6, c7, c8, c9, c10⟩ := hp.blk.cells
  obtain ⟨hne, hck, hdp, hrq, hl6, hgo⟩ := K.ok31_parts hp.ok
  have hset := hp.set
  have HLN := Lib.hid hset.1
  have hn6 : p.n ≤ 6 := by rw [hset.1]; exact hl6
  have hN64 : N ≤ 64 := by rw [hN]; exact Nat.pow_le_pow_right (by omega) hn6
  have hw1 : IntKind.i64.wrap ((2 : Int) ^ p.n) = (N : Int) := by rw [wrap_pow (by omega), hN]; simp
  have hw2 : wrap64 ((2 : Int) ^ p.n) = (N : Int) := by rw [← IntWalk.i64_left]; exact hw1
  have hmk := fun w' => make_rows N (by omega) w'
  have hmb := hp.memo.lt
  have HN := Lib.hid hN
  obtain ⟨go, hgoE⟩ : ∃ go, go = w.heap.size := ⟨_, rfl⟩
  have hsrv : ∀ i ∈ p.l, 0 ≤ (K.req p.x.r i).service := fun i hi => by
    obtain ⟨k, hk⟩ := List.mem_iff_getElem?.1 hi
    have hkn : k < p.n := by rw [hset.1]; exact (List.getElem?_eq_some_iff.1 hk).1
    obtain ⟨j, q, hel, -, hse, -⟩ := hp.elem hkn
    have h1 := hel.set
    rw [hk] at h1
    injection h1 with h1
    rw [h1, K.req_get hel.req]
    exact hse.1
  have HSRV := Lib.hid hsrv
  have hrel0 : LTab w mb go p N [] [] (w.alloc (.cells (List.replicate N (Value.slice none 0 0)).toArray 41)) := by
    have hb : Below w.heap.size w (w.alloc (.cells (List.replicate N (Value.slice none 0 0)).toArray 41)) := (Below.refl _ _).alloc (Nat.le_refl _) _
    exact ⟨grow_below (grow_refl w _) hb, (hp.memo.more (Y := fun g => g = go ∨ g ∈ []) (fun g hg hy => by simp at hy; omega)).below hb, by rw [hgoE]; exact heap_alloc_new _ _, rfl, fun m g row h1 _ => by simp at h1, fun g hg => by simp at hg, by omega⟩
  have HGO := Lib.hid hgoE
  clear hne hck hdp hrq hl6 hgo hsrv hN hgoE
  go_enter Try.func65, Try.ntmps65
  go_wp2_with fail
  rw [← HGO.out]
  go_loopw [17] (fun v17 wr => ∃ (M : Nat) (gs : List Nat), v17 = .int .i64 M ∧ M ≤ N ∧ LTab w mb go p N gs (K.table p.x.nd p.x.l p.x.s p.x.r p.l M) wr) (fun v17 _ => N - (intOf v17).toNat)
  case atStart => exact ⟨0, [], rfl, by omega, hrel0⟩
  case round =>
    clear hrel0 c0 c1 c2 c3 c4 c5 c6 c7 c8 c9 c10 hmk hw1 hw2
    obtain ⟨M, gs, rfl, hM, hT⟩ := hrel
    have hgl : gs.length = M := by rw [hT.len, K.table_len]
    by_cases hlt : M < N
    · have HGL := Lib.hid hgl
      have k0 : (0 : Int) ≤ (M : Int) := by omega
      have k1 : (M : Int) < (N : Int) := by omega
      have ha : Below wr.heap.size wr (wr.alloc (.cells #[.int .i64 (-1)] 3)) := (Below.refl _ _).alloc (Nat.le_refl _) _
      have hsz := ha.size
      clear hgl
      go_wp2_with fail
      refine (repeat_any wr.heap.size p.n hn6 _ (heap_alloc_new wr (.cells #[.int .i64 (-1)] 3))).mono ?_
      rintro e w2 ⟨⟨g1, rfl, hg1, hI1⟩, hb2⟩
      have hbw := bel ha hb2
      have hT2 := hT.below hbw
      have f1 : w2.cell? ⟨go, M, none⟩ = some (.slice none 0 0) := by
        have h9 := tab_next (n := p.n) (N := N) (gs := gs) (by rw [HGL.out]; exact hlt)
        rw [HGL.out] at h9
        exact blk_cell hT2.outb M _ (by simpa using h9)
      have f2 := blk_free hT2.outb M
      have hT3 := hT.push hbw (Nat.le_trans hsz hg1) hI1 (by rw [HGL.out]; exact hlt) hmb
      rw [HGL.out] at hT3
      have hgne : g1 ∉ gs := fun hg => by have := hT.lt g1 (.inr hg); omega
      obtain ⟨row, hrow⟩ : ∃ row, row = K.rowOf p.x.nd p.x.l p.x.s p.x.r p.l (K.table p.x.nd p.x.l p.x.s p.x.r p.l M) M := ⟨_, rfl⟩
      have HROW := Lib.hid hrow
      have hrl : row.length = p.n := by rw [hrow, K.rowOf_len, HLN.out]
      have HRL := Lib.hid hrl
      have hT3 : LTab w mb go p N (gs ++ [g1]) (K.table p.x.nd p.x.l p.x.s p.x.r p.l M ++ [K.upto row 0]) (w2.setCell ⟨go, M, none⟩ (.slice (some ⟨g1, 0, none⟩) p.n p.n)) := by rw [K.upto_zero, hrl]; exact hT3
      clear hrow hrl hT2 hI1 ha hsz hg1
      go_wp2_with fail
      clear f1 f2
      obtain ⟨w3, hw3⟩ : ∃ w3, w3 = w2.setCell ⟨go, M, none⟩ (.slice (some ⟨g1, 0, none⟩) p.n p.n) := ⟨_, rfl⟩
      rw [← hw3] at hT3 ⊢
      clear hw3
      go_loopw [27] (fun v27 wr => ∃ i : Nat, v27 = .int .i64 i ∧ i ≤ p.n ∧ LTab w mb go p N (gs ++ [g1]) (K.table p.x.nd p.x.l p.x.s p.x.r p.l M ++ [K.upto row i]) wr) (fun v27 _ => p.n - (intOf v27).toNat)
      case atStart => exact ⟨0, rfl, by omega, hT3⟩
      case round =>
        clear hT3
        obtain ⟨i, rfl, hi, hTi⟩ := hrel
        by_cases hlti : i < p.n
        · obtain ⟨j, q, hel, hno, hse, -⟩ := hp.elem hlti
          have k2 : (0 : Int) ≤ (i : Int) := by omega
          have k3 : (i : Int) < (p.n : Int) := by omega
          have hri := K.rowOf_at (nd := p.x.nd) (l := p.x.l) (s := p.x.s) (r := p.x.r) (t := K.table p.x.nd p.x.l p.x.s p.x.r p.l M) (m := M) hel.set
          rw [← HROW.out, K.req_get hel.req] at hri
          cases hbit : M.testBit i
          · have hb1 : bits BinOp.and IntKind.i64 ((M : Int) / 2 ^ i) 1 = 0 := by rw [bit_at (by omega) (by omega), hbit]; rfl
            rw [hbit] at hri
            have HU := Lib.hid (show K.upto row i = K.upto row (i + 1) from K.upto_skip (by simpa using hri))
            clear hbit hri
            go_wp2_with fail
            go_roundw
            case rel => exact ⟨i + 1, by go_num, by omega, by rw [← HU.out]; exact hTi⟩
            case measure => simp [intOf]; omega
          · have hb1 : bits BinOp.and IntKind.i64 ((M : Int) / 2 ^ i) 1 = 1 := by rw [bit_at (by omega) (by omega), hbit]; rfl
            rw [hbit, if_pos rfl] at hri
            obtain ⟨hre, hrb⟩ := bit_rest (by omega) (by omega) hbit
            have hpw := Nat.two_pow_pos i
            obtain ⟨rest, hrest⟩ : ∃ rest, rest = M - 2 ^ i := ⟨_, rfl⟩
            rw [← hrest] at hri hre hrb
            have hrM : rest < M := by omega
            obtain ⟨rr, hrr⟩ : ∃ rr, (K.table p.x.nd p.x.l p.x.s p.x.r p.l M)[rest]? = some rr := ⟨_, K.table_at hrM⟩
            have hrrE : rr = K.rowOf p.x.nd p.x.l p.x.s p.x.r p.l (K.table p.x.nd p.x.l p.x.s p.x.r p.l rest) rest := by
              have h9 := K.table_at (nd := p.x.nd) (l := p.x.l) (s := p.x.s) (r := p.x.r) (v := p.l) hrM
              rw [hrr] at h9
              injection h9
            rw [hrr, Option.getD_some] at hri
            obtain ⟨g0, hg0⟩ : ∃ g0, gs[rest]? = some g0 := ⟨_, List.getElem?_eq_getElem (by rw [HGL.out]; exact hrM)⟩
            have hrrl : rr.length = p.l.length := by rw [hrrE, K.rowOf_len]
            have hrrb : ∀ t ∈ rr, -1 ≤ t ∧ t ≤ 1000000 := by rw [hrrE]; exact K.rowOf_bd HSRV.out
            obtain ⟨x, hx⟩ : ∃ x, x = K.label p.x.nd p.x.l p.x.s p.x.r p.l rr rest i q := ⟨_, rfl⟩
            rw [← hx] at hri
            have HU := Lib.hid (K.upto_next hri)
            have hTd := hTi.below (w' := wr.drew) (Below.refl _ _).drew
            have hpd := hTd.pat hp
            have hg0' : (gs ++ [g1])[rest]? = some g0 := by rw [List.getElem?_append_left (by rw [HGL.out]; exact hrM)]; exact hg0
            have hc0 : wr.drew.cell? ⟨go, rest, none⟩ = some (.slice (some ⟨g0, 0, none⟩) p.n p.n) := blk_cell hTd.outb rest _ (by simpa using tab_at (n := p.n) (N := N) hg0')
            have hI0 : Ints wr.drew (some ⟨g0, 0, none⟩) p.n rr := by
              have h9 := (hTd.row rest g0 rr hg0' (by rw [List.getElem?_append_left (by rw [K.table_len]; exact hrM)]; exact hrr)).ints
              rw [hrrl, ← HLN.out] at h9
              exact h9
            have hgM : (gs ++ [g1])[M]? = some g1 := by rw [List.getElem?_append_right (by rw [HGL.out]; omega), HGL.out, Nat.sub_self]; rfl
            have hSc : ∀ w' rows, LTab w mb go p N (gs ++ [g1]) rows w' → w'.cell? ⟨go, M, none⟩ = some (.slice (some ⟨g1, 0, none⟩) p.n p.n) := fun w' rows h => blk_cell h.outb M _ (by simpa using tab_at (n := p.n) (N := N) hgM)
            have S0 := hSc _ _ hTi
            have S0d := hSc _ _ hTd
            have CL := label_any b mb p go N N M rest i j q rr (some ⟨g0, 0, none⟩) p.n p.n wr.drew hpd hTd.lt hel hno hse (by omega) hbit hre hrb hc0 (by omega) hI0 hrrl hrrb
            rw [← hx] at CL
            have HI5 := Lib.hid (fun (w5 : World) (h5 : LTab w mb go p N (gs ++ [g1]) (K.table p.x.nd p.x.l p.x.s p.x.r p.l M ++ [K.upto row i]) w5) => h5.row M g1 (K.upto row i) hgM (by rw [List.getElem?_append_right (by rw [K.table_len]; omega), K.table_len, Nat.sub_self]; rfl))
            have hil : i < (K.upto row i).length := by rw [K.upto_len (by rw [HRL.out]; omega), HRL.out]; exact hlti
            obtain ⟨y, hy⟩ : ∃ y, (K.upto row i)[i]? = some y := ⟨_, List.getElem?_eq_getElem hil⟩
            have HYI := Lib.hid hy
            clear hy hil
            clear hbit hrr hrrE hx hri hrest hg0 hg0' hgM hc0 hI0 hre hrb
            go_wp2_with fail
            go_region_held3 (fun w' => w'.cell? ⟨go, M, none⟩ = some (.slice (some ⟨g1, 0, none⟩) p.n p.n))
              (first | assumption | exact S0 | exact S0d)
              (first
                | (go_at_call 103; refine CL.mono ?_; rintro e w5 ⟨rfl, hW5⟩; have hT5 := hTd.went hW5; have S5 := hSc _ _ hT5; have f1 := (HI5.out w5 hT5).cell HYI.out; have f2 := (HI5.out w5 hT5).free i; have hT6 := hT5.store (i := i) x hgne hmb; have S6 := hSc _ _ hT6)
                | fail)
            rw [HU.out] at hT6
            clear S0 S0d S5 S6 f1 f2 hT5 hTd hTi CL hSc hpd
            go_wp2_with fail
            go_roundw
            case rel => exact ⟨i + 1, by go_num, by omega, hT6⟩
            case measure => simp [intOf]; omega
        · have hpi : i = p.n := by omega
          have hT9 : LTab w mb go p N (gs ++ [g1]) (K.table p.x.nd p.x.l p.x.s p.x.r p.l (M + 1)) wr := by
            rw [hpi, ← HRL.out, K.upto_full] at hTi
            rw [K.table, ← HROW.out]
            exact hTi
          clear hTi hpi
          go_wp2_with fail
          go_roundw
          case rel => exact ⟨M + 1, gs ++ [g1], by go_num, by omega, hT9⟩
          case measure => simp [intOf]; omega
    · have HMN := Lib.hid (show M = N by omega)
      rw [HMN.out] at hT
      go_wp2_with fail
      go_ret
      exact ⟨go, gs, rfl, hT⟩
end Go.Proofs.Ytippdjmpkafifaa
