/-
Routes: the contract of route.Labels.
-/
import Derived.Test.YtippdjmpkafifaaPB
namespace Go.Proofs.Ytippdjmpkafifaa
open Go.RowKit

/-- A label. -/
structure Lb where
  set : Int
  last : Int
  time : Int
def labCells (x : Lb) : List Value := [.int .i64 x.set, .int .i64 x.last, .int .i64 x.time]
abbrev Labs (w : World) (A : Option Addr) (n : Nat) (l : List Lb) : Prop := Lst labCells 3 w A n l
theorem Labs.at_ {w : World} {A : Option Addr} {n k : Nat} {l : List Lb} (h : Labs w A n l) (hk : k < n) :
    ∃ ad x, A = some ad ∧ l[k]? = some x ∧ w.cell? (ad.add (k * 3)) = some (.int .i64 x.set) ∧ w.cell? ⟨(ad.add (k * 3)).block, (ad.add (k * 3)).off + 1, none⟩ = some (.int .i64 x.last) ∧
      w.cell? ⟨(ad.add (k * 3)).block, (ad.add (k * 3)).off + 2, none⟩ = some (.int .i64 x.time) := by
  obtain ⟨ad, x, hA, hl, hc⟩ := Lst.get (f := labCells) (s := 3) (fun _ => rfl) h hk
  refine ⟨ad, x, hA, hl, hc 0 _ (by omega) rfl, ?_, ?_⟩ <;> rw [← add_next _ _ _ (by omega)]
  · exact hc 1 _ (by omega) rfl
  · exact hc 2 _ (by omega) rfl
theorem Try.info137 : (Try.prog.info? 137).map (fun i => (i.zero, i.size, i.bytes)) = some (some (.agg #[.int .i64 0, .int .i64 0, .int .i64 0]), 3, 24) := by kernel_rfl

theorem app_lab {ops : Array Oper} {rest : List Oper} {o : Oper} {a : Act} {Q : Exit → Act → World → Prop} {w : World} (hgd : o.guard = none) (s x : Operand)
    (ho : o.op = .call { callee := .builtin .append, args := #[s, x], argTypes := #[70, 70] })
    (base : Nat) (v : Value) (n : Nat) (l : List Lb) (hs : a.eval s = v) (hown : w.ownsRow base 137 3 v n (l.flatMap labCells)) (g : Nat) (p q r : Int) (hx : a.eval x = .slice (some ⟨g, 0, none⟩) 1 1)
    (hg : w.heap[g]? = some (.cells #[.int .i64 p, .int .i64 q, .int .i64 r] 137 (0, 0))) (hn : n ≤ 1000000) (hbase : base ≤ w.heap.size)
    (h : ∀ v' w', w'.ownsRow base 137 3 v' (n + 1) ((l ++ [(⟨p, q, r⟩ : Lb)]).flatMap labCells) → w.grownBy w' v.ownBlock → (v'.ownBlock = v.ownBlock ∨ v'.ownBlock = some w.heap.size) → wpList Try.prog ops Q rest (a.put o.dst v') w') :
    wpList Try.prog ops Q (o :: rest) a w := by
  obtain ⟨i0, hi, hz0, hz1, hz2⟩ := info_parts Try.info137
  refine wpList_append_own_at w hgd s x 70 ho base 137 i0 (.agg #[.int .i64 0, .int .i64 0, .int .i64 0]) 3 24 Try.underlying70 hi hz0 hz1 hz2 rfl (by decide) v n (l.flatMap labCells) hs hown ⟨g, 0, none⟩ 1 1 [.int .i64 p, .int .i64 q, .int .i64 r] hx rfl ?_ ?_ ?_ ?_ hbase ?_
  · intro j u hu
    rw [add_zero_block]
    exact blk_cell hg j u (by simpa using hu)
  · intro u hu
    simp at hu
    rcases hu with rfl | rfl | rfl <;> rfl
  · simp only [maxLen]; omega
  · omega
  · intro v' w' h2 h3 _ h5
    exact h v' w' (by rw [List.flatMap_append]; exact h2) h3 h5

namespace K
/-- The labels of a part, up to place i. -/
def rowLabs (m : Nat) (row : List Int) : Nat → List Lb
  | 0 => []
  | i + 1 => rowLabs m row i ++ if m.testBit i = true then [⟨m, i, (row[i]?).getD (-1)⟩] else []
/-- The labels of the first M parts of n elements. -/
def tabLabs (n : Nat) (t : List (List Int)) : Nat → List Lb
  | 0 => []
  | M + 1 => tabLabs n t M ++ rowLabs M ((t[M]?).getD []) n
/-- All labels of a case. -/
def labs (nd : Int) (l : List Ro) (s : S) (r : List Q) (v : List Int) : List Lb := if ok31 nd l s r v = true then tabLabs v.length (table nd l s r v (2 ^ v.length)) (2 ^ v.length) else []
theorem rowLabs_len (m : Nat) (row : List Int) : ∀ i, (rowLabs m row i).length ≤ i
  | 0 => Nat.le_refl _
  | i + 1 => by have := rowLabs_len m row i; simp only [rowLabs, List.length_append]; split <;> simp <;> omega
theorem tabLabs_len (n : Nat) (t : List (List Int)) : ∀ M, (tabLabs n t M).length ≤ M * n
  | 0 => by simp [tabLabs]
  | M + 1 => by
    have h1 := tabLabs_len n t M
    have h2 := rowLabs_len M ((t[M]?).getD []) n
    simp only [tabLabs, List.length_append, Nat.add_mul]
    omega
end K

/-- Labels are handed back. -/
def RetLabs (w w' : World) (l : List Lb) (e : Ending) : Prop := (∃ A n c, e = .returned (.slice A n c) ∧ Labs w' A n l) ∧ Below w.heap.size w w'

set_option maxRecDepth 100000 in
set_option maxHeartbeats 16000000 in
theorem labels30_any (x : C) (V : Option Addr) (vn vc : Nat) (v : List Int) (w : World) (hx : At w x) (hV : Ints w V vn v) (hvc : vn ≤ vc) (hvn : vn ≤ 1000000000) :
    Calls Try.prog 39 #[.agg #[.int .i64 x.nd, .slice x.A x.n x.c], .agg #[.int .i64 x.s.day, .int .i64 x.s.depot, .int .i64 x.s.start, .int .i64 x.s.end_, .int .i64 x.s.tare, .slice x.s.A x.s.n x.s.c], .slice x.B x.m x.d, .slice V vn vc] w fun e w' => RetLabs w w' (K.labs x.nd x.l x.s x.r v) e := by
  obtain ⟨w0, hw0⟩ : ∃ w0 : World, w0 = (w.alloc (.cells #[.int .i64 x.nd, .slice x.A x.n x.c] 24)).alloc (.cells #[.int .i64 x.s.day, .int .i64 x.s.depot, .int .i64 x.s.start, .int .i64 x.s.end_, .int .i64 x.s.tare, .slice x.s.A x.s.n x.s.c] 43) := ⟨_, rfl⟩
  have b0 : Below w.heap.size w w0 := by rw [hw0]; exact bel ((Below.refl _ _).alloc (Nat.le_refl _) _) ((Below.refl _ _).alloc (Nat.le_refl _) _)
  go_enter Try.func39, Try.ntmps39
  go_wp2_with fail
  rw [← hw0]
  clear hw0
  refine (planned_any x V vn vc v _ (hx.below b0) (hV.below b0) hvc hvn).mono ?_
  rintro e w1 ⟨hret, b1⟩
  have hb := bel b0 b1
  have hsz := b0.size
  rcases hret with ⟨hok, rfl⟩ | ⟨b, mb, rfl, hbb, hbm, hP⟩
  · have HX := Lib.hid (show K.labs x.nd x.l x.s x.r v = [] by simp [K.labs, hok])
    clear hok
    go_wp2_with fail
    go_ret
    exact ⟨⟨none, 0, 0, rfl, by rw [HX.out]; exact ⟨rfl, rfl, fun h => absurd h (by omega)⟩⟩, hb⟩
  · have hp := hP (fun _ => False)
    clear hP
    have hLN := hV.1
    have hv6 := (K.ok31_parts hp.ok).2.2.2.2.1
    dsimp only at hv6
    obtain ⟨N, hN⟩ : ∃ N, N = 2 ^ vn := ⟨_, rfl⟩
    have hN64 : N ≤ 64 := by rw [hN]; exact Nat.pow_le_pow_right (by omega) (show vn ≤ 6 by omega)
    have HX := Lib.hid (show K.labs x.nd x.l x.s x.r v = K.tabLabs vn (K.table x.nd x.l x.s x.r v N) N by unfold K.labs; rw [if_pos hp.ok, hN, hLN])
    have hv6' : vn ≤ 6 := by omega
    have HLN := Lib.hid hLN
    have CL := labels_any b mb ⟨x, V, vn, vc, v⟩ N w1 hp hN
    clear hN hLN hv6
    go_wp2_with fail
    refine CL.mono ?_
    rintro e w2 ⟨go, gs, rfl, hT⟩
    have hb2 : Below w.heap.size w w2 := below_own2 hb hT.grown (fun g e => by injection e with e; omega)
    have hTl : ∀ M, M < N → ∃ g row, gs[M]? = some g ∧ (K.table x.nd x.l x.s x.r v N)[M]? = some row ∧ row.length = vn ∧ IBlk w2 g row ∧ w2.cell? ⟨go, M, none⟩ = some (.slice (some ⟨g, 0, none⟩) vn vn) := fun M hM => by
      have hgl : gs.length = N := by rw [hT.len, K.table_len]
      obtain ⟨g, hg⟩ : ∃ g, gs[M]? = some g := ⟨_, List.getElem?_eq_getElem (by omega)⟩
      have hr := K.table_at (nd := x.nd) (l := x.l) (s := x.s) (r := x.r) (v := v) hM
      exact ⟨g, _, hg, hr, by rw [K.rowOf_len, HLN.out], hT.row M g _ hg hr, blk_cell hT.outb M _ (by simpa using tab_at (n := vn) (N := N) hg)⟩
    clear hT CL hp b1 b0
    go_wp2_with fail
    go_loopw [11, 29] (fun v11 v29 wr => ∃ M : Nat, v29 = .int .i64 M ∧ M ≤ N ∧ wr.ownsRow w2.heap.size 137 3 v11 (K.tabLabs vn (K.table x.nd x.l x.s x.r v N) M).length ((K.tabLabs vn (K.table x.nd x.l x.s x.r v N) M).flatMap labCells) ∧ Below w2.heap.size w2 wr) (fun _ v29 _ => N - (intOf v29).toNat)
    case atStart => exact ⟨0, rfl, by omega, World.ownsRow_nil _ _ _ _, Below.refl _ _⟩
    case round =>
      obtain ⟨M, rfl, hM, hown, hbr⟩ := hrel
      by_cases hlt : M < N
      · obtain ⟨g, row, -, htr, hrl, hI, hc⟩ := hTl M hlt
        have HM1 := Lib.hid (show K.tabLabs vn (K.table x.nd x.l x.s x.r v N) (M + 1) = K.tabLabs vn (K.table x.nd x.l x.s x.r v N) M ++ K.rowLabs M row vn by rw [K.tabLabs, htr]; rfl)
        have hlen := K.tabLabs_len vn (K.table x.nd x.l x.s x.r v N) M
        have hlen2 : M * vn ≤ 64 * 6 := Nat.mul_le_mul (by omega) hv6'
        have hcr := (hbr.cell (cell_lt hc)).trans hc
        have k0 : (0 : Int) ≤ (M : Int) := by omega
        have k1 : (M : Int) < (N : Int) := by omega
        have HRL := Lib.hid hrl
        obtain ⟨L0, hL0⟩ : ∃ L0, L0 = K.tabLabs vn (K.table x.nd x.l x.s x.r v N) M := ⟨_, rfl⟩
        rw [← hL0] at hown hlen
        have HL0 := Lib.hid hL0
        clear htr hc hrl hL0
        go_wp2_with fail
        go_loopw [11, 36] (fun v11 v36 wi => ∃ i : Nat, v36 = .int .i64 i ∧ i ≤ vn ∧ wi.ownsRow w2.heap.size 137 3 v11 (L0 ++ K.rowLabs M row i).length ((L0 ++ K.rowLabs M row i).flatMap labCells) ∧ Below w2.heap.size w2 wi) (fun _ v36 _ => vn - (intOf v36).toNat)
        case atStart => exact ⟨0, rfl, by omega, by rw [K.rowLabs, List.append_nil]; exact hown, hbr⟩
        case round =>
          clear hown hcr hbr
          obtain ⟨i, rfl, hi, hown, hbr⟩ := hrel
          by_cases hlti : i < vn
          · obtain ⟨y, hy⟩ : ∃ y, row[i]? = some y := ⟨_, List.getElem?_eq_getElem (by rw [HRL.out]; exact hlti)⟩
            have cy := (hbr.cell (cell_lt (hI.cell hy))).trans (hI.cell hy)
            have k2 : (0 : Int) ≤ (i : Int) := by omega
            have k3 : (i : Int) < (vn : Int) := by omega
            have hlr := K.rowLabs_len M row i
            cases hbit : M.testBit i
            · have hb1 : bits BinOp.and IntKind.i64 ((M : Int) / 2 ^ i) 1 = 0 := by rw [bit_at (by omega) (by omega), hbit]; rfl
              have HU := Lib.hid (show K.rowLabs M row (i + 1) = K.rowLabs M row i by rw [K.rowLabs, hbit]; simp)
              clear hbit hy
              go_wp2_with fail
              go_roundw
              case rel => exact ⟨i + 1, by go_num, by omega, by rw [HU.out]; exact hown, hbr⟩
              case measure => simp [intOf]; omega
            · have hb1 : bits BinOp.and IntKind.i64 ((M : Int) / 2 ^ i) 1 = 1 := by rw [bit_at (by omega) (by omega), hbit]; rfl
              have HU := Lib.hid (show L0 ++ K.rowLabs M row (i + 1) = (L0 ++ K.rowLabs M row i) ++ [⟨M, i, y⟩] by rw [K.rowLabs, hbit, if_pos rfl, hy, Option.getD_some, List.append_assoc])
              have ha : Below wr.heap.size wr (wr.alloc (.cells #[.int .i64 (M : Int), .int .i64 (i : Int), .int .i64 y] 137)) := (Below.refl _ _).alloc (Nat.le_refl _) _
              have hown2 := own_below hown ha
              have hs2 : w2.heap.size ≤ (wr.alloc (.cells #[.int .i64 (M : Int), .int .i64 (i : Int), .int .i64 y] 137)).heap.size := Nat.le_trans hbr.size ha.size
              have hln : (L0 ++ K.rowLabs M row i).length ≤ 1000000 := by rw [List.length_append]; omega
              clear hbit hy
              go_wp2_with (at_builtin; refine app_lab rfl (.tmp 46) (.tmp 51) rfl w2.heap.size u11 (L0 ++ K.rowLabs M row i).length (L0 ++ K.rowLabs M row i) rfl hown2 wr.heap.size M i y rfl (heap_alloc_at _ _ _ rfl) hln hs2 ?_; intro tv' w6 hown6 hgrow6 hat6)
              have b6 := below_own2 (bel hbr ha) hgrow6 (fun g e => (hown.lt g e).1)
              have HS := Lib.hid (show (L0 ++ K.rowLabs M row i).length + 1 = (L0 ++ K.rowLabs M row (i + 1)).length by rw [HU.out, List.length_append (bs := [_])]; rfl)
              rw [← HU.out, HS.out] at hown6
              clear hgrow6 hat6 hown2 hown
              go_roundw
              case rel => exact ⟨i + 1, by go_num, by omega, hown6, b6⟩
              case measure => simp [intOf]; omega
          · have hin : i = vn := by omega
            rw [hin] at hown
            have HM2 := Lib.hid HM1.out
            rw [HL0.out, ← HM2.out] at hown
            clear hin
            go_wp2_with fail
            go_roundw
            case rel => exact ⟨M + 1, by go_num, by omega, hown, hbr⟩
            case measure => simp [intOf]; omega
      · have hMN : M = N := by omega
        rw [hMN] at hown
        obtain ⟨A9, c9, rfl, hRd, -⟩ := own_form hown
        clear hMN
        go_wp2_with fail
        go_ret
        exact ⟨⟨_, _, _, rfl, by rw [HX.out]; exact ⟨rfl, hRd⟩⟩, bel hb2 hbr⟩
end Go.Proofs.Ytippdjmpkafifaa
