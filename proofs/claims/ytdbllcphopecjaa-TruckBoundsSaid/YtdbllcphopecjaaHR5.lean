/-
The walk of the reference's Both.
-/
import Derived.Test.YtdbllcphopecjaaH5
import Derived.Test.YtdbllcphopecjaaHR4
import Derived.StillTailTactics
import Derived.BigRegion
import Derived.RegionTactic
import Derived.Deep.DeepCutAuto
namespace Go.Proofs.Ytdbllcphopecjaa
open Go.RowKit

theorem run_append_of_nil {P : Program} (w : World) (base : Nat) (t ty e : TypeId) (i : TypeInfo) (size : Nat) (ht : P.underlying t = some (.slice e)) (hi : P.info? e = some i)
    (v : Value) (n : Nat) (xs : List Value) (hown : w.ownsRow base e size v n xs) (c : Nat) : (Builtin.append_ #[t, t] ty #[v, .slice none 0 c]).run P w = .ok v w := by
  rcases hown.2 with ⟨rfl, rfl⟩ | ⟨g, cap, cur, rfl, _, _, hnc, _⟩
  · simp [Builtin.append_, run_underlying ht, sizeOf, typeInfo, hi, Builtin.lenOf, Builtin.firstCells]
  · simp [Builtin.append_, run_underlying ht, sizeOf, typeInfo, hi, Builtin.lenOf, Builtin.firstCells, hnc, storeCells]

theorem run_append_rd {P : Program} (w : World) (base : Nat) (t ty e : TypeId) (i : TypeInfo) (z : Value) (size bytes : Nat) (ht : P.underlying t = some (.slice e)) (hi : P.info? e = some i) (hz : i.zero = some z)
    (hsize : i.size = size) (hby : i.bytes = bytes) (hzs : z.cells.size = size) (hsz : 0 < size)
    (v : Value) (n : Nat) (xs : List Value) (hown : w.ownsRow base e size v n xs)
    (A : Option Addr) (m c : Nat) (news : List Value) (hr : Rd w size A m news) (h1 : ∀ u ∈ news, u.oneCell' = true)
    (h63 : n + m ≤ maxLen) (hbytes : (n + m) * bytes ≤ 140737488355328) (hbase : base ≤ w.heap.size) :
    ∃ v' w', (Builtin.append_ #[t, t] ty #[v, .slice A m c]).run P w = .ok v' w' ∧ w'.ownsRow base e size v' (n + m) (xs ++ news) ∧ w.grownBy w' v.ownBlock ∧
      (v'.ownBlock = v.ownBlock ∨ v'.ownBlock = some w.heap.size) := by
  rcases A with _ | ad
  · have hm : m = 0 := by
      rcases Nat.eq_zero_or_pos m with h0 | h0
      · exact h0
      · obtain ⟨ad, h, _⟩ := hr.2 h0
        cases h
    subst hm
    have hn : news = [] := List.eq_nil_of_length_eq_zero (by simpa using hr.1)
    subst hn
    exact ⟨v, w, run_append_of_nil w base t ty e i size ht hi v n xs hown c, by simpa using hown, World.grownBy.refl w _, .inl rfl⟩
  · have hcells : ∀ j u, news[j]? = some u → w.cell? (ad.add j) = some u := by
      intro j u hu
      rcases Nat.eq_zero_or_pos m with h0 | h0
      · subst h0
        have hn : news = [] := List.eq_nil_of_length_eq_zero (by simpa using hr.1)
        subst hn
        simp at hu
      · obtain ⟨ad', h, hc⟩ := hr.2 h0
        injection h with h
        subst h
        exact hc j u hu
    obtain ⟨v', w', hrun, h2, h3, _, h5⟩ := run_append_own_at (P := P) w base t ty e i z size bytes ht hi hz hsize hby hzs hsz v n xs hown ad m c news hr.1 hcells h1 h63 hbytes hbase
    exact ⟨v', w', hrun, h2, h3, h5⟩

theorem wp_append_rd {P : Program} {w : World} {ops : Array Oper} {rest : List Oper} {o : Oper} {a : Act} {Q : Exit → Act → World → Prop} (hgd : o.guard = none) (s x : Operand) (t : TypeId)
    (ho : o.op = .call { callee := .builtin .append, args := #[s, x], argTypes := #[t, t] })
    (base : Nat) (e : TypeId) (i : TypeInfo) (z : Value) (size bytes : Nat) (ht : P.underlying t = some (.slice e)) (hi : P.info? e = some i) (hz : i.zero = some z)
    (hsize : i.size = size) (hby : i.bytes = bytes) (hzs : z.cells.size = size) (hsz : 0 < size)
    (v : Value) (n : Nat) (xs : List Value) (hs : a.eval s = v) (hown : w.ownsRow base e size v n xs)
    (A : Option Addr) (m c : Nat) (news : List Value) (hx : a.eval x = .slice A m c) (hr : Rd w size A m news) (h1 : ∀ u ∈ news, u.oneCell' = true)
    (h63 : n + m ≤ maxLen) (hbytes : (n + m) * bytes ≤ 140737488355328) (hbase : base ≤ w.heap.size)
    (h : ∀ v' w', w'.ownsRow base e size v' (n + m) (xs ++ news) → w.grownBy w' v.ownBlock → (v'.ownBlock = v.ownBlock ∨ v'.ownBlock = some w.heap.size) → wpList P ops Q rest (a.put o.dst v') w') : wpList P ops Q (o :: rest) a w := by
  refine wpList_plain hgd fun K hK => ?_
  obtain ⟨v', w', hrun, h2, h3, h4⟩ := run_append_rd (P := P) w base t o.type e i z size bytes ht hi hz hsize hby hzs hsz v n xs hown A m c news hr h1 h63 hbytes hbase
  unfold Oper.wp execOp
  simp only [ho, resolve, invoke, builtin, Sem.run_bind, Sem.run_pure, Result.andThen_ok, List.map_toArray, List.map_cons, List.map_nil, hs, hx, hrun]
  exact hK _ _ (h v' w' h2 h3 h4)

theorem winCells_one (l : List (Int × Int)) : ∀ u ∈ winCells l, u.oneCell' = true := by
  induction l with
  | nil => intro u hu; cases hu
  | cons p l ih =>
    intro u hu
    simp only [winCells, List.mem_cons] at hu
    rcases hu with rfl | rfl | hu
    · rfl
    · rfl
    · exact ih u hu

theorem reg_end (w : World) {o c o' c' : Int} (h1 : o = o') (h2 : c = c') :
    ∃ g, Value.pointer (some ⟨w.heap.size, 0, none⟩) = Value.pointer (some ⟨g, 0, none⟩) ∧ (w.alloc (.cells #[.int .i64 o, .int .i64 c] 56)).drew.heap[g]? = some (.cells #[.int .i64 o', .int .i64 c'] 56 (0, 0)) ∧
      Below w.heap.size w (w.alloc (.cells #[.int .i64 o, .int .i64 c] 56)).drew := by
  subst h1 h2
  exact ⟨_, rfl, heap_alloc_new w _, ((Below.refl _ _).alloc (Nat.le_refl _) _).drew⟩

theorem own_plus0 {w : World} {base : Nat} {v : Value} {l b : List (Int × Int)} {x : Int × Int} (h : w.ownsRow base 56 2 v l.length (winCells l)) : w.ownsRow base 56 2 v (l ++ ink x b 0).length (winCells (l ++ ink x b 0)) := by
  have : ink x b 0 = [] := rfl
  rw [this, List.append_nil]
  exact h

set_option maxRecDepth 100000 in
set_option maxHeartbeats 4000000 in
theorem rboth_loops (A B : Option Addr) (n m c d : Nat) (la lb : List (Int × Int)) (w : World) (hla : Wins w A n la) (hlb : Wins w B m lb) (hra : H.right la = true) (hrb : H.right lb = true) (hn0 : ¬ n = 0) (hm0 : ¬ m = 0) :
    Calls Try.prog 34 #[.slice A n c, .slice B m d] w fun e w' => (∃ A' n' c', e = .returned (.tuple #[.slice A' n' c', .bool (H.both la lb).2]) ∧ Wins w' A' n' (H.both la lb).1) ∧ Below w.heap.size w w' := by
  have hn : n ≤ 6 := by have := (H.right_bd hra).1; rw [hla.1]; exact this
  have hm : m ≤ 6 := by have := (H.right_bd hrb).1; rw [hlb.1]; exact this
  have HFIN := Lib.hid (show H.both la lb = if (outk la lb la.length).length < 1 ∨ 6 < (outk la lb la.length).length then ([], false) else (outk la lb la.length, true) by
    rw [H.both_eq]
    unfold H.rboth outk
    rw [if_pos (by simp [hra, hrb]), if_neg (by rw [← hla.1]; exact hn0), if_neg (by rw [← hlb.1]; exact hm0), List.take_length])
  have HR := Lib.hid hra; have HS := Lib.hid hrb
  have z1 := beq0_no n hn0
  have z2 := beq0_no m hm0
  clear hra hrb hn0 hm0
  go_enter Try.func34, Try.ntmps34
  go_wp2_with fail
  refine (rright_any A n c la _ hla (by omega)).mono ?_; rw [HR.out]; rintro e w1 ⟨rfl, hb1⟩
  go_wp2_with fail
  refine (rright_any B m d lb _ (hlb.below hb1) (by omega)).mono ?_; rw [HS.out]; rintro e w2 ⟨rfl, hb2⟩
  have hb := bel hb1 hb2
  have ha2 := hla.below hb
  have hb2' := hlb.below hb
  clear hb1 hb2
  go_wp2_with fail
  go_loopw [6, 7] (fun vo vi wr => ∃ k : Nat, vi = .int .i64 k ∧ k ≤ n ∧ wr.ownsRow w2.heap.size 56 2 vo (outk la lb k).length (winCells (outk la lb k)) ∧ Below w2.heap.size w2 wr) (fun _ vi _ => n - (intOf vi).toNat)
  case atStart => exact ⟨0, rfl, by omega, World.ownsRow_lit w2 #[] 0 (Nat.le_refl _) (by simp [maxLen]) rfl, (Below.refl _ _).alloc (Nat.le_refl _) _⟩
  case round =>
    obtain ⟨wo, rfl⟩ : ∃ wo : World, wo = wr := ⟨_, rfl⟩
    obtain ⟨k, rfl, hk, hown, hbr⟩ := hrel
    by_cases hlt : k < n
    · obtain ⟨ad, xo, xc, rfl, hg, cx0, cx1⟩ := (ha2.below hbr).at_ hlt
      have HG := Lib.hid hg
      clear hg
      have hol := outk_le la lb k
      have hol2 : k * lb.length ≤ 36 := Nat.mul_le_mul (by omega : k ≤ 6) (show lb.length ≤ 6 by rw [← hlb.1]; exact hm)
      have hol3 : (outk la lb k).length ≤ 36 := by omega
      have hown0 := own_plus0 (x := (xo, xc)) (b := lb) hown
      clear hol hol2 hown
      go_wp2_with fail
      go_loopw [6, 8] (fun vo vj wi => ∃ j : Nat, vj = .int .i64 j ∧ j ≤ m ∧ wi.ownsRow w2.heap.size 56 2 vo (outk la lb k ++ ink (xo, xc) lb j).length (winCells (outk la lb k ++ ink (xo, xc) lb j)) ∧ Below w2.heap.size w2 wi) (fun _ vj _ => m - (intOf vj).toNat)
      case atStart => exact ⟨0, rfl, by omega, hown0, hbr⟩
      case round =>
        obtain ⟨wi, rfl⟩ : ∃ wi : World, wi = wr := ⟨_, rfl⟩
        obtain ⟨j, rfl, hj, hown, hbi⟩ := hrel
        by_cases hlt2 : j < m
        · obtain ⟨ad2, yo, yc, rfl, hg2, cy0, cy1⟩ := (hb2'.below hbi).at_ hlt2
          obtain ⟨ad1, xo', xc', e1, hg1, cz0, cz1⟩ := (ha2.below hbi).at_ hlt
          injection e1 with e1
          subst e1
          have e2 := HG.out
          rw [hg1] at e2
          injection e2 with e2
          injection e2 with e2 e3
          subst e2 e3
          have HG2 := Lib.hid hg2
          have hil := ink_le (xo', xc') lb j
          have hcnt : (outk la lb k ++ ink (xo', xc') lb j).length ≤ 100 := by rw [List.length_append, ] ; rw [← hlb.1] at hil; omega
          have hbase : w2.heap.size ≤ wi.heap.size := hbi.size
          clear hil hg1 hg2 cx0 cx1
          have q1 := cell_lt cz0
          have q2 := cell_lt cy0
          go_upto_region 14 with fail
          go_cut [9] (fun s9 wx => ∃ g : Nat, s9 = .pointer (some ⟨g, 0, none⟩) ∧ wx.heap[g]? = some (.cells #[.int .i64 (max xo' yo), .int .i64 (min xc' yc)] 56 (0, 0)) ∧ Below wi.heap.size wi wx)
          case first =>
            by_cases hxy : xo' < yo <;> by_cases hcc : yc < xc'
            all_goals
              go_region
              go_wp2_with fail
              go_meet
              exact reg_end _ (by omega) (by omega)
          case rest =>
            obtain ⟨g, rfl, hg, hbx⟩ := hcut
            obtain ⟨o, ho⟩ : ∃ o, o = max xo' yo := ⟨_, rfl⟩
            obtain ⟨e, he⟩ : ∃ e, e = min xc' yc := ⟨_, rfl⟩
            rw [← ho, ← he] at hg
            have HO := Lib.hid ho; have HE := Lib.hid he
            have k0 := blk_cell hg 0 _ rfl
            have k1 := blk_cell hg 1 _ rfl
            have hown2 := own_below hown hbx
            have hbc := hbi.trans (hbx.mono hbase)
            have hszc : w2.heap.size ≤ wc.heap.size := hbc.size
            have hgc := cell_lt k0
            clear ho he hg hown cz0 cz1 cy0 cy1 q1 q2 hbx
            by_cases hoc : o ≤ e
            · go_wp2_with (at_builtin; refine app_win rfl (.tmp 71) (.tmp 73) rfl w2.heap.size _ _ _ rfl (hown2.alloc _) wc.heap.size o e rfl (heap_alloc_at _ _ _ rfl) (by omega) (by simp; omega) ?_; intro v' w4 hown4 hgrow4 hat4)
              go_roundw
              case rel => exact ⟨j + 1, by go_num, by omega, by rw [ink_yes HG2.out (o := o) (c := e) HO.out.symm HE.out.symm hoc, ← List.append_assoc]; rw [List.length_append]; exact hown4, below_own (hbc.alloc hszc _) (Nat.le_refl _) hgrow4 (fun g' h' => (hown2.lt g' h').1)⟩
              case measure => simp [intOf]; omega
            · go_wp2
              go_roundw
              case rel => exact ⟨j + 1, by go_num, by omega, by rw [ink_no HG2.out (o := o) (c := e) HO.out.symm HE.out.symm hoc]; exact hown2, hbc⟩
              case measure => simp [intOf]; omega
        · obtain rfl : j = m := by omega
          have HO := Lib.hid (outk_next HG.out (b := lb) (j := j) (by rw [← hlb.1]; exact Nat.le_refl _))
          go_wp2
          go_roundw
          case rel => exact ⟨k + 1, by go_num, by omega, by rw [HO.out]; exact hown, hbi⟩
          case measure => simp [intOf]; omega
    · obtain rfl : k = n := by omega
      have HF := HFIN.out
      rw [← hla.1] at HF
      obtain ⟨A0, c0, rfl, hrd0, hblk0⟩ := own_form hown
      have hw0 : Wins wo A0 (outk la lb k).length (outk la lb k) := ⟨rfl, hrd0⟩
      have HF2 := Lib.hid HF
      have hfb := hb.trans (hbr.mono hb.size)
      have hol := outk_le la lb k
      have hol2 : k * lb.length ≤ 36 := Nat.mul_le_mul (by omega : k ≤ 6) (show lb.length ≤ 6 by rw [← hlb.1]; exact hm)
      have hol3 : (outk la lb k).length ≤ 36 := by omega
      clear HF hol hol2 hrd0 hblk0 hown HFIN
      by_cases y1 : (outk la lb k).length < 1
      · have HZ := Lib.hid y1
        have y2 : ((outk la lb k).length : Int) < 1 := by omega
        go_wp2
        go_ret2
        exact ⟨⟨none, 0, 0, by rw [HF2.out, if_pos (.inl HZ.out)]; rfl, by rw [HF2.out, if_pos (.inl HZ.out)]; exact wins_nil _⟩, hfb⟩
      · have y2 : decide (((outk la lb k).length : Int) < 1) = false := by rw [decide_eq_false_iff_not]; omega
        by_cases y3 : 6 < (outk la lb k).length
        · have y4 : (6 : Int) < ((outk la lb k).length : Int) := by omega
          have HZ := Lib.hid y3
          go_wp2
          go_ret2
          exact ⟨⟨none, 0, 0, by rw [HF2.out, if_pos (.inr HZ.out)]; rfl, by rw [HF2.out, if_pos (.inr HZ.out)]; exact wins_nil _⟩, hfb⟩
        · have HZ := Lib.hid (show ¬ ((outk la lb k).length < 1 ∨ 6 < (outk la lb k).length) from fun h => h.elim y1 y3)
          have y4 := gt_no _ 6 y3
          clear y1
          go_wp2
          go_ret2
          exact ⟨⟨A0, _, c0, by rw [HF2.out, if_neg HZ.out]; rfl, by rw [HF2.out, if_neg HZ.out]; exact hw0⟩, hfb⟩
end Go.Proofs.Ytdbllcphopecjaa
