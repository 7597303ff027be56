/-
The walk of TotalWhole.
-/
import Derived.Test.YtijkaiilecpbcaaW18
import Derived.Test.YtijkaiilecpbcaaP5
import Derived.Test.YtijkaiilecpbcaaW5
namespace Go.Proofs.Ytijkaiilecpbcaa
open Go.RowKit

theorem K.blinds_snoc (l : List Ln) (x : Ln) : K.blinds (l ++ [x]) = K.blinds l + x.bl := by
  induction l with
  | nil => simp [K.blinds]
  | cons y l ih => simp [K.blinds, ih]; omega

theorem K.tail_len' {l : List It} {bs : List Bool} {leaf : Nat} : ∀ (f k : Nat), (K.tailOf l bs leaf f k).length ≤ f := by
  intro f
  induction f with
  | zero => intro k; simp [K.tailOf]
  | succ f ih =>
    intro k
    simp only [K.tailOf]
    split
    · simp
    · split
      · simp only [List.length_cons]
        exact Nat.succ_le_succ (ih _)
      · simp
theorem K.path_len' (l : List It) (root leaf : Int) : (K.path l root leaf).length ≤ l.length + 1 := by
  unfold K.path
  split
  · rename_i h
    simp only [Bool.and_eq_true] at h
    have := K.has_iff.1 h.2.1
    have := K.tail_len' (l := l) (bs := K.near l leaf.toNat) (leaf := leaf.toNat) (root.toNat + 1) root.toNat
    simp only [List.length_cons]
    omega
  · simp

/-- Of what was there all stands, and two cells. -/
def VAt2 (wr : World) (g : Nat) (u : Value) (a : Addr) (x : Value) (w' : World) : Prop := Below wr.heap.size wr w' ∧ w'.cell? ⟨g, 0, none⟩ = some u ∧ w'.cell? a = some x
theorem VAt2.next {wr : World} {g : Nat} {u : Value} {a : Addr} {x : Value} {w' w'' : World} (h : VAt2 wr g u a x w') (hb : Below w'.heap.size w' w'') : VAt2 wr g u a x w'' := ⟨bel h.1 hb, (hb.cell (cell_lt h.2.1)).trans h.2.1, (hb.cell (cell_lt h.2.2)).trans h.2.2⟩
theorem VAt2.drew {wr : World} {g : Nat} {u : Value} {a : Addr} {x : Value} {w' : World} (h : VAt2 wr g u a x w') : VAt2 wr g u a x w'.drew := ⟨h.1.drew, h.2⟩

set_option maxRecDepth 100000 in
set_option maxHeartbeats 32000000 in
theorem whole_walk (A : Option Addr) (n c : Nat) (v : List It) (B : Option Addr) (m d : Nat) (l : List Ln) (cc bb : Int) (w : World) (hv : Items w A n v) (hl : Lines w B m l) :
    Calls Try.prog 3 #[.agg #[.slice A n c], .slice B m d, .int .i64 cc, .int .i64 bb] w fun e w' => e = .returned (.bool true) ∧ Below w.heap.size w w' := by
  have b0 := (Below.refl w.heap.size w).alloc (Nat.le_refl _) (.cells #[.slice A n c] 24)
  have hP0 := vbox w A n c
  go_enter Try.func3, Try.ntmps3
  go_wp2_with fail
  refine (sane_any _).mono ?_
  rintro e w1 ⟨rfl, b1⟩
  have hb := bel b0 b1
  have hP := blk_below b1 hP0
  have p0 := blk_cell hP 0 _ rfl
  clear b0 b1 hP0
  cases hf : (decide (n ≤ 100) && decide (0 ≤ 10))
  · have HF := Lib.hid hf
    clear hf
    go_wp2_with fail
    refine (few_any A n c none 0 0 100 _).mono ?_; rw [HF.out]; rintro e w2 ⟨rfl, b2⟩
    go_wp2_with fail
    go_ret
    exact ⟨rfl, bel hb b2⟩
  have HF := Lib.hid hf
  simp only [Bool.and_eq_true, decide_eq_true_eq] at hf
  obtain ⟨hn, _⟩ := hf
  by_cases hm : m ≤ 64
  rotate_left
  · have g1 : decide ((64 : Int) < (m : Int)) = true := by simp; omega
    go_wp2_with fail
    refine (few_any A n c none 0 0 100 _).mono ?_; rw [HF.out]; rintro e w2 ⟨rfl, b2⟩
    go_wp2_with fail
    go_ret
    exact ⟨rfl, bel hb b2⟩
  have g1 : decide ((64 : Int) < (m : Int)) = false := by simp; omega
  go_wp2_with fail
  refine (few_any A n c none 0 0 100 _).mono ?_; rw [HF.out]; rintro e w2 ⟨rfl, b2⟩
  have hb := bel hb b2
  have hP := blk_below b2 hP
  clear b2 p0
  have p0 := blk_cell hP 0 _ rfl
  go_wp2_with fail
  refine (build_any A n c v B m d l _ (hv.below hb) (by omega) (hl.below hb) (by omega)).mono ?_
  rintro e w3 ⟨⟨A', n', c', B', m', d', rfl, hA, hL⟩, b3⟩
  have hb := bel hb b3
  have hP := blk_below b3 hP
  clear b3 p0
  have hb4 := hb.alloc (by have := hb.size; omega) (.cells #[.slice A' n' c'] 24)
  have hP4 := blk_alloc hP (.cells #[.slice A' n' c'] 24)
  have hQ4 : (w3.alloc (.cells #[.slice A' n' c'] 24)).heap[w3.heap.size]? = some (.cells #[.slice A' n' c'] 24 (0, 0)) := heap_alloc_new w3 _
  have b34 : Below w3.heap.size w3 (w3.alloc (.cells #[.slice A' n' c'] 24)) := (Below.refl _ _).alloc (Nat.le_refl _) _
  have q4 := blk_cell hQ4 0 _ rfl
  by_cases he : (K.build v l).err = 0
  rotate_left
  · obtain ⟨e1, e2, e3⟩ := K.build_bad he
    rw [e1] at hA
    rw [e3] at hL
    rw [e2]
    have z1 : n' = 0 := hA.1
    have z2 : m' = 0 := hL.1
    subst z1 z2
    obtain ⟨er, her⟩ : ∃ er, er = (K.build v l).err := ⟨_, rfl⟩
    rw [← her] at he ⊢
    have t0 : (er != 0) = true := by simp [bne]; exact he
    clear her he hA hL
    go_wp2_with fail
    go_ret
    exact ⟨rfl, hb4⟩
  obtain ⟨root, r1, r2, hT⟩ := K.build_ok he
  rw [r1, he]
  rw [r2] at hL
  obtain ⟨V, hV⟩ : ∃ V, V = (K.build v l).items := ⟨_, rfl⟩
  rw [← hV] at hA hT
  have hm' : m' = m := by rw [hL.1, K.idx_len, hl.1]
  subst hm'
  have hlen := hT.len
  rw [← hA.1, ← hv.1, ← hl.1] at hlen
  have hnV := hA.1
  have hA4 := hA.below b34
  have hL4 := hL.below b34
  have HT := Lib.hid hT
  have HLN := Lib.hid hlen
  have hn' : n' ≤ 1000 := by omega
  have hm0 : 0 < m' := by rw [hl.1]; exact hT.pos
  clear r1 r2 he hV hA hL hlen hnV hT
  go_wp2_with fail
  obtain ⟨w4, hw4⟩ : ∃ w4, w4 = w3.alloc (.cells #[.slice A' n' c'] 24) := ⟨_, rfl⟩
  rw [← hw4] at hb4 hP4 hQ4 b34 q4 hA4 hL4 ⊢
  clear hw4 q4 hb hP
  go_loopw [14, 15, 16] (fun vs vb vi wr => ∃ k : Nat, vs = .int .i64 (K.cents (l.take k)) ∧ vb = .int .i64 (K.blinds (l.take k)) ∧ vi = .int .i64 k ∧ k ≤ m' ∧ wr = w4) (fun _ _ vi _ => m' - (intOf vi).toNat)
  case atStart => exact ⟨0, rfl, rfl, rfl, by omega, rfl⟩
  case round =>
    obtain ⟨k, rfl, rfl, rfl, hk, rfl⟩ := hrel
    by_cases hlt : k < m'
    · obtain ⟨adl, x, rfl, hx, c0, c1, c2⟩ := Lines.at_ (hl.below hb4) hlt
      have hrt : ∀ y ∈ l.take k, K.right y = true := fun y hy => HT.out.right y (List.mem_of_mem_take hy)
      have hcb := K.cents_bound hrt
      have hbb := K.blinds_bound hrt
      have hll : (l.take k).length ≤ 64 := by rw [List.length_take, ← hl.1]; omega
      have hxr := K.right_cents (HT.out.right x (List.mem_of_getElem? hx))
      obtain ⟨sk, hsk⟩ : ∃ s, s = K.cents (l.take k) := ⟨_, rfl⟩
      obtain ⟨tk, htk⟩ : ∃ s, s = K.blinds (l.take k) := ⟨_, rfl⟩
      have HS := Lib.hid (show K.cents (l.take (k + 1)) = sk + x.cents by rw [take_snoc hx, K.cents_snoc, hsk])
      have HB := Lib.hid (show K.blinds (l.take (k + 1)) = tk + x.bl by rw [take_snoc hx, K.blinds_snoc, htk])
      rw [← hsk] at hcb ⊢
      rw [← htk] at hbb ⊢
      have s0 : 0 ≤ sk := hcb.1
      have s1 : sk ≤ 1125899906842624 * 64 := by omega
      have t0 : 0 ≤ tk := hbb.1
      have t1 : tk ≤ 1099511627776 * 64 := by omega
      clear hcb hbb hll hrt hsk htk hx
      go_wp2_with fail
      go_roundw
      case rel => exact ⟨k + 1, by rw [HS.out], by rw [HB.out], by go_num, by omega, by simp⟩
      case measure => simp [intOf]; omega
    have hkm : k = m' := by omega
    subst hkm
    have etl : l.take k = l := List.take_of_length_le (by rw [← hl.1]; exact Nat.le_refl _)
    rw [etl]
    clear etl hlt
    have hop : K.opens V (root : Int) (K.cents l) (K.blinds l) = true := by
      obtain ⟨t, ht, t1, t2⟩ := HT.out.top
      have hk := (List.getElem?_eq_some_iff.1 ht).1
      simp only [K.opens, Int.toNat_natCast, ht, HT.out.sound, Bool.true_and, t1, t2]
      rw [K.has_iff.2 ⟨by omega, by omega⟩]
      simp
    have hcs := HT.out.cents
    have hbs := HT.out.blinds
    obtain ⟨S, hS⟩ : ∃ s, s = K.cents l := ⟨_, rfl⟩
    obtain ⟨T, hTT⟩ : ∃ s, s = K.blinds l := ⟨_, rfl⟩
    rw [← hS, ← hTT] at hop ⊢
    rw [← hS] at hcs
    rw [← hTT] at hbs
    have HOP := Lib.hid hop
    have HSE := Lib.hid hS
    have HTE := Lib.hid hTT
    have HSO := Lib.hid HT.out.sound
    have eq9 : ((n' : Int) != (n : Int) + 2 * (k : Int) - 1) = false := by have := HLN.out; simp [bne]; omega
    have q4 := blk_cell hQ4 0 _ rfl
    clear hop hS hTT
    go_wp2_with fail
    refine (sound_any A' n' c' V _ hA4 (by omega)).mono ?_; rw [HSO.out]; rintro e w5 ⟨rfl, b5⟩
    have hQ5 := blk_below b5 hQ4
    have hP5 := blk_below b5 hP4
    clear q4
    have q5 := blk_cell hQ5 0 _ rfl
    have hb5 := bel hb4 b5
    go_wp2_with fail
    refine (opens_any A' n' c' V root S T _ (hA4.below b5) (by omega)).mono ?_; rw [HOP.out]; rintro e w6 ⟨rfl, b6⟩
    have hQ6 := blk_below b6 hQ5
    have hP6 := blk_below b6 hP5
    have q6 := blk_cell hQ6 0 _ rfl
    have p6 := blk_cell hP6 0 _ rfl
    have hb6 := bel hb5 b6
    have hA6 := (hA4.below b5).below b6
    have hL6 := (hL4.below b5).below b6
    clear q5 hQ5 hP5 hb5 b5 b6 hA4 hL4 hQ4 hP4 hb4 b34
    go_wp2_with fail
    go_loopw [17] (fun vi wr => ∃ j : Nat, vi = .int .i64 j ∧ j ≤ n ∧ Below w6.heap.size w6 wr) (fun vi _ => n - (intOf vi).toNat)
    case atStart => exact ⟨0, rfl, by omega, Below.refl _ _⟩
    case round =>
      obtain ⟨j, rfl, hj, hbr⟩ := hrel
      have hb7 := bel hb6 hbr
      have hPr := blk_below hbr hP6
      have hQr := blk_below hbr hQ6
      have pr : wr.cell? ⟨w.heap.size, 0, none⟩ = some (.slice A n c) := blk_cell hPr 0 _ rfl
      clear q6 p6
      by_cases hjn : j < n
      · obtain ⟨ad, x, rfl, hx, x0, x1, x2, x3⟩ := Items.at_ (hv.below hb7) hjn
        obtain ⟨av, y, rfl, hy, y0, y1, y2, y3⟩ := Items.at_ (hA6.below hbr) (show j < n' by have := HLN.out; omega)
        have hxy : y = x := by
          obtain ⟨W, hW⟩ := HT.out.keep
          have hjv := (List.getElem?_eq_some_iff.1 hx).1
          rw [hW, List.getElem?_append_left hjv, hx] at hy
          injection hy with hy; exact hy.symm
        subst hxy
        have qr := blk_cell hQr 0 _ rfl
        have i0 : (0 : Int) ≤ (j : Int) := by omega
        have i1 : (j : Int) < (n : Int) := by omega
        have i2 : (j : Int) < (n' : Int) := by have := HLN.out; omega
        have i3 : j < n' := by omega
        clear hx hy hPr hQr
        go_wp2_with fail
        go_quiet (fail)
        go_wp2_with fail
        go_roundw
        case rel => exact ⟨j + 1, by go_num, by omega, below_drewN hbr _⟩
        case measure => simp [intOf]; omega
      have hA7 := hA6.below hbr
      have hL7 := hL6.below hbr
      clear hPr hbr hP6 hQ6 hA6 hL6 hb6
      go_wp2_with fail
      clear pr hjn
      go_loopw [18] (fun vi wq => ∃ i : Nat, vi = .int .i64 i ∧ i ≤ k ∧ Below wr.heap.size wr wq) (fun vi _ => k - (intOf vi).toNat)
      case atStart => exact ⟨0, rfl, by omega, Below.refl _ _⟩
      case round =>
        obtain ⟨i, rfl, hi, hbq⟩ := hrel
        by_cases hik : i < k
        rotate_left
        · go_wp2_with fail
          go_ret
          exact ⟨rfl, bel hb7 hbq⟩
        have hb8 := bel hb7 hbq
        have hQ8 := blk_below hbq hQr
        have q8 := blk_cell hQ8 0 _ rfl
        have hA8 := hA7.below hbq
        obtain ⟨adL, li, rfl, hli, ci⟩ := (hL7.below hbq).at_ hik
        obtain ⟨adl, x, rfl, hx, x0, x1, x2⟩ := Lines.at_ (hl.below hb8) hik
        have hlx : li = ((n + i : Nat) : Int) := by
          have h1 := K.idx_at v.length l (show i < l.length by rw [← hl.1]; exact hik)
          rw [hli, ← hv.1] at h1
          injection h1
        subst hlx
        have hck := HT.out.path hx
        rw [← hv.1, ← HSE.out, ← HTE.out] at hck
        have HCK := Lib.hid hck
        have i0 : (0 : Int) ≤ (i : Int) := by omega
        have i1 : (i : Int) < (k : Int) := by omega
        have S0 : VAt2 wr w3.heap.size (.slice A' n' c') (adL.add i) (.int .i64 ((n + i : Nat) : Int)) wr := ⟨Below.refl _ _, q8, ci⟩
        have hA9 : ∀ w', VAt2 wr w3.heap.size (.slice A' n' c') (adL.add i) (.int .i64 ((n + i : Nat) : Int)) w' → Items w' A' n' V := fun w' h => hA8.below h.1
        obtain ⟨li, hli'⟩ : ∃ li : Int, li = ((n + i : Nat) : Int) := ⟨_, rfl⟩
        rw [← hli'] at S0 hA9 HCK ci
        clear hli hck hli'
        go_wp2_with fail
        clear q8
        go_region_held3 (fun w' => Below wr.heap.size wr w' ∧ w'.cell? ⟨w3.heap.size, 0, none⟩ = some (.slice A' n' c') ∧ w'.cell? (adL.add i) = some (.int .i64 li))
          (first | assumption | exact S0 | exact VAt2.drew (by assumption) | exact VAt2.next (by assumption) (by assumption))
          (first | (go_at_call 12; refine (path_any A' n' c' V root li _ (hA9 _ ?_) (by omega)).mono ?_; assumption; rintro e w9 ⟨⟨Ap, mp, dp, rfl, hPt⟩, hbn⟩) | fail)
        have hH : VAt2 wr w3.heap.size (.slice A' n' c') (adL.add i) (.int .i64 li) w9 := by assumption
        have b89 := hH.1
        have y0 := (b89.cell (cell_lt x0)).trans x0
        have y1 := (b89.cell (cell_lt x1)).trans x1
        have y2 := (b89.cell (cell_lt x2)).trans x2
        have hb9 := bel hb8 b89
        obtain ⟨PP, hPP⟩ : ∃ p, p = K.path V root li := ⟨_, rfl⟩
        rw [← hPP] at hPt HCK
        have hA10 := hA9 _ hH
        have hmp : mp ≤ 1000000000000 := by have := hPt.1; rw [hPP] at this; have := K.path_len' V root li; have := hA10.1; omega
        have hcx := HT.out.right x (List.mem_of_getElem? hx)
        clear S0 hA9 hH ci hPP hbn x0 x1 x2 hx
        have bA : Below w9.heap.size w9 (w9.alloc (.cells #[.int .i64 x.hh, .int .i64 cc, .int .i64 x.bl] 33)) := (Below.refl _ _).alloc (Nat.le_refl _) _
        have bB : Below w9.heap.size w9 ((w9.alloc (.cells #[.int .i64 x.hh, .int .i64 cc, .int .i64 x.bl] 33)).alloc (.cells #[.int .i64 x.hh, .int .i64 x.cents, .int .i64 bb] 33)) := bA.alloc bA.size _
        have z0 := (bA.cell (cell_lt y0)).trans y0
        have z1 := (bA.cell (cell_lt y1)).trans y1
        have z2 := (bA.cell (cell_lt y2)).trans y2
        have hC20 : ((w9.alloc (.cells #[.int .i64 x.hh, .int .i64 cc, .int .i64 x.bl] 33)).alloc (.cells #[.int .i64 x.hh, .int .i64 x.cents, .int .i64 bb] 33)).heap[w9.heap.size]? = some (.cells #[.int .i64 x.hh, .int .i64 cc, .int .i64 x.bl] 33 (0, 0)) := blk_alloc (heap_alloc_new w9 _) _
        have hC21 : ((w9.alloc (.cells #[.int .i64 x.hh, .int .i64 cc, .int .i64 x.bl] 33)).alloc (.cells #[.int .i64 x.hh, .int .i64 x.cents, .int .i64 bb] 33)).heap[w9.heap.size + 1]? = some (.cells #[.int .i64 x.hh, .int .i64 x.cents, .int .i64 bb] 33 (0, 0)) := heap_alloc_at _ _ _ (by rw [World.size_alloc])
        go_wp2_with fail
        obtain ⟨wb, hwb⟩ : ∃ wb, wb = (w9.alloc (.cells #[.int .i64 x.hh, .int .i64 cc, .int .i64 x.bl] 33)).alloc (.cells #[.int .i64 x.hh, .int .i64 x.cents, .int .i64 bb] 33) := ⟨_, rfl⟩
        rw [← hwb] at bB hC20 hC21 ⊢
        clear hwb z0 z1 z2 bA
        have x0 := (bB.cell (cell_lt y0)).trans y0
        have x1 := (bB.cell (cell_lt y1)).trans y1
        have x2 := (bB.cell (cell_lt y2)).trans y2
        have b8b := bel b89 bB
        have hQb := blk_below b8b hQ8
        have hAb := hA10.below bB
        have hPb := hPt.below bB
        have qb : wb.cell? ⟨w3.heap.size, 0, none⟩ = some (.slice A' n' c') := blk_cell hQb 0 _ rfl
        have v0 : wb.cell? ⟨w9.heap.size, 0, none⟩ = some (.int .i64 x.hh) := blk_cell hC20 0 _ rfl
        have v1 : wb.cell? ⟨w9.heap.size, 1, none⟩ = some (.int .i64 cc) := blk_cell hC20 1 _ rfl
        have v2 : wb.cell? ⟨w9.heap.size, 2, none⟩ = some (.int .i64 x.bl) := blk_cell hC20 2 _ rfl
        have u0 : wb.cell? ⟨w9.heap.size + 1, 0, none⟩ = some (.int .i64 x.hh) := blk_cell hC21 0 _ rfl
        have u1 : wb.cell? ⟨w9.heap.size + 1, 1, none⟩ = some (.int .i64 x.cents) := blk_cell hC21 1 _ rfl
        have u2 : wb.cell? ⟨w9.heap.size + 1, 2, none⟩ = some (.int .i64 bb) := blk_cell hC21 2 _ rfl
        clear y0 y1 y2 b89 bB hC20 hC21 hPt hA10 hb9
        have D1 := fun i : Beh wb => check_any A' n' c' V Ap mp dp PP S T x i.val (hAb.below i.property) (by omega) (hPb.below i.property) hmp
        rw [HCK.out.1] at D1
        have d0 := Beh.cell x0
        have d1 := Beh.cell x1
        have d2 := Beh.cell x2
        have d3 := Beh.cell qb
        have d4 := Beh.cell v0
        have d5 := Beh.cell v1
        have d6 := Beh.cell v2
        have d7 := Beh.cell u0
        have d8 := Beh.cell u1
        have d9 := Beh.cell u2
        clear v0 v1 v2 u0 u1 u2 qb
        have D2 := fun i : Beh wb => check_any A' n' c' V Ap mp dp PP S T ⟨x.hh, cc, x.bl⟩ i.val (hAb.below i.property) (by omega) (hPb.below i.property) hmp
        have D3 := fun i : Beh wb => check_any A' n' c' V Ap mp dp PP S T ⟨x.hh, x.cents, bb⟩ i.val (hAb.below i.property) (by omega) (hPb.below i.property) hmp
        cases t1 : (cc == x.cents)
        · have t1n : (cc != x.cents) = true := by simp only [bne, t1]; rfl
          rw [HCK.out.2.1 cc (by simpa using t1)] at D2
          clear t1
          cases t2 : (bb == x.bl)
          · have t2n : (bb != x.bl) = true := by simp only [bne, t2]; rfl
            rw [HCK.out.2.2.1 bb (by simpa using t2)] at D3
            clear t2
            go_wp2_with fail
            refine reg_beh (by kernel_rfl) (by kernel_rfl) ?_
            repeat (go_big_quiet_step ((first | (go_at_call_of 13 (Value.agg #[.int .i64 x.hh, .int .i64 x.cents, .int .i64 x.bl]); exact Beh.calls (D1 _)) | (go_at_call_of 13 (Value.agg #[.int .i64 x.hh, .int .i64 cc, .int .i64 x.bl]); exact Beh.calls (D2 _)) | (go_at_call_of 13 (Value.agg #[.int .i64 x.hh, .int .i64 x.cents, .int .i64 bb]); exact Beh.calls (D3 _)))))
            refine wpQuiet_nil ?_
            rintro wc ⟨⟨_, bc⟩, rfl⟩
            have b8c := bel b8b bc
            have qc : wc.cell? ⟨w3.heap.size, 0, none⟩ = some (.slice A' n' c') := blk_cell (blk_below bc hQb) 0 _ rfl
            have x0c := (bc.cell (cell_lt x0)).trans x0
            have x1c := (bc.cell (cell_lt x1)).trans x1
            have x2c := (bc.cell (cell_lt x2)).trans x2
            have hAc := hAb.below bc
            have hPc := hPb.below bc
            have E4 := fun i : Beh wc => check_any A' n' c' V Ap mp dp PP cc T x i.val (hAc.below i.property) (by omega) (hPc.below i.property) hmp
            have E5 := fun i : Beh wc => check_any A' n' c' V Ap mp dp PP S bb x i.val (hAc.below i.property) (by omega) (hPc.below i.property) hmp
            clear d0 d1 d2 d3 d4 d5 d6 d7 d8 d9 D1 D2 D3 x0 x1 x2 bc
            have d0 := Beh.cell x0c
            have d1 := Beh.cell x1c
            have d2 := Beh.cell x2c
            have d3 := Beh.cell qc
            clear x0c x1c x2c qc
            cases t3 : (cc == S)
            · have t3n : (cc != S) = true := by simp only [bne, t3]; rfl
              rw [HCK.out.2.2.2.1 cc (by simpa using t3)] at E4
              clear t3
              cases t4 : (bb == T)
              · have t4n : (bb != T) = true := by simp only [bne, t4]; rfl
                rw [HCK.out.2.2.2.2 bb (by simpa using t4)] at E5
                clear t4
                go_wp2_with fail
                refine reg_beh (by kernel_rfl) (by kernel_rfl) ?_
                repeat (go_big_quiet_step ((first | (go_at_call_of 13 (Value.int IntKind.i64 cc); exact Beh.calls (E4 _)) | (go_at_call_of 13 (Value.int IntKind.i64 bb); exact Beh.calls (E5 _)))))
                refine wpQuiet_nil ?_
                rintro wd ⟨⟨_, bd⟩, rfl⟩
                go_wp2_with fail
                go_roundw
                case rel => exact ⟨i + 1, by go_num, by omega, bel hbq (bel b8c bd)⟩
                case measure => simp [intOf]; omega
              · have t4n : (bb != T) = false := by simp only [bne, t4]; rfl
                clear t4
                go_wp2_with fail
                refine reg_beh (by kernel_rfl) (by kernel_rfl) ?_
                repeat (go_big_quiet_step ((first | (go_at_call_of 13 (Value.int IntKind.i64 cc); exact Beh.calls (E4 _)) | (go_at_call_of 13 (Value.int IntKind.i64 bb); exact Beh.calls (E5 _)))))
                refine wpQuiet_nil ?_
                rintro wd ⟨⟨_, bd⟩, rfl⟩
                go_wp2_with fail
                go_roundw
                case rel => exact ⟨i + 1, by go_num, by omega, bel hbq (bel b8c bd)⟩
                case measure => simp [intOf]; omega
            · have t3n : (cc != S) = false := by simp only [bne, t3]; rfl
              clear t3
              cases t4 : (bb == T)
              · have t4n : (bb != T) = true := by simp only [bne, t4]; rfl
                rw [HCK.out.2.2.2.2 bb (by simpa using t4)] at E5
                clear t4
                go_wp2_with fail
                refine reg_beh (by kernel_rfl) (by kernel_rfl) ?_
                repeat (go_big_quiet_step ((first | (go_at_call_of 13 (Value.int IntKind.i64 cc); exact Beh.calls (E4 _)) | (go_at_call_of 13 (Value.int IntKind.i64 bb); exact Beh.calls (E5 _)))))
                refine wpQuiet_nil ?_
                rintro wd ⟨⟨_, bd⟩, rfl⟩
                go_wp2_with fail
                go_roundw
                case rel => exact ⟨i + 1, by go_num, by omega, bel hbq (bel b8c bd)⟩
                case measure => simp [intOf]; omega
              · have t4n : (bb != T) = false := by simp only [bne, t4]; rfl
                clear t4
                go_wp2_with fail
                refine reg_beh (by kernel_rfl) (by kernel_rfl) ?_
                repeat (go_big_quiet_step ((first | (go_at_call_of 13 (Value.int IntKind.i64 cc); exact Beh.calls (E4 _)) | (go_at_call_of 13 (Value.int IntKind.i64 bb); exact Beh.calls (E5 _)))))
                refine wpQuiet_nil ?_
                rintro wd ⟨⟨_, bd⟩, rfl⟩
                go_wp2_with fail
                go_roundw
                case rel => exact ⟨i + 1, by go_num, by omega, bel hbq (bel b8c bd)⟩
                case measure => simp [intOf]; omega
          · have t2n : (bb != x.bl) = false := by simp only [bne, t2]; rfl
            clear t2
            go_wp2_with fail
            refine reg_beh (by kernel_rfl) (by kernel_rfl) ?_
            repeat (go_big_quiet_step ((first | (go_at_call_of 13 (Value.agg #[.int .i64 x.hh, .int .i64 x.cents, .int .i64 x.bl]); exact Beh.calls (D1 _)) | (go_at_call_of 13 (Value.agg #[.int .i64 x.hh, .int .i64 cc, .int .i64 x.bl]); exact Beh.calls (D2 _)) | (go_at_call_of 13 (Value.agg #[.int .i64 x.hh, .int .i64 x.cents, .int .i64 bb]); exact Beh.calls (D3 _)))))
            refine wpQuiet_nil ?_
            rintro wc ⟨⟨_, bc⟩, rfl⟩
            have b8c := bel b8b bc
            have qc : wc.cell? ⟨w3.heap.size, 0, none⟩ = some (.slice A' n' c') := blk_cell (blk_below bc hQb) 0 _ rfl
            have x0c := (bc.cell (cell_lt x0)).trans x0
            have x1c := (bc.cell (cell_lt x1)).trans x1
            have x2c := (bc.cell (cell_lt x2)).trans x2
            have hAc := hAb.below bc
            have hPc := hPb.below bc
            have E4 := fun i : Beh wc => check_any A' n' c' V Ap mp dp PP cc T x i.val (hAc.below i.property) (by omega) (hPc.below i.property) hmp
            have E5 := fun i : Beh wc => check_any A' n' c' V Ap mp dp PP S bb x i.val (hAc.below i.property) (by omega) (hPc.below i.property) hmp
            clear d0 d1 d2 d3 d4 d5 d6 d7 d8 d9 D1 D2 D3 x0 x1 x2 bc
            have d0 := Beh.cell x0c
            have d1 := Beh.cell x1c
            have d2 := Beh.cell x2c
            have d3 := Beh.cell qc
            clear x0c x1c x2c qc
            cases t3 : (cc == S)
            · have t3n : (cc != S) = true := by simp only [bne, t3]; rfl
              rw [HCK.out.2.2.2.1 cc (by simpa using t3)] at E4
              clear t3
              cases t4 : (bb == T)
              · have t4n : (bb != T) = true := by simp only [bne, t4]; rfl
                rw [HCK.out.2.2.2.2 bb (by simpa using t4)] at E5
                clear t4
                go_wp2_with fail
                refine reg_beh (by kernel_rfl) (by kernel_rfl) ?_
                repeat (go_big_quiet_step ((first | (go_at_call_of 13 (Value.int IntKind.i64 cc); exact Beh.calls (E4 _)) | (go_at_call_of 13 (Value.int IntKind.i64 bb); exact Beh.calls (E5 _)))))
                refine wpQuiet_nil ?_
                rintro wd ⟨⟨_, bd⟩, rfl⟩
                go_wp2_with fail
                go_roundw
                case rel => exact ⟨i + 1, by go_num, by omega, bel hbq (bel b8c bd)⟩
                case measure => simp [intOf]; omega
              · have t4n : (bb != T) = false := by simp only [bne, t4]; rfl
                clear t4
                go_wp2_with fail
                refine reg_beh (by kernel_rfl) (by kernel_rfl) ?_
                repeat (go_big_quiet_step ((first | (go_at_call_of 13 (Value.int IntKind.i64 cc); exact Beh.calls (E4 _)) | (go_at_call_of 13 (Value.int IntKind.i64 bb); exact Beh.calls (E5 _)))))
                refine wpQuiet_nil ?_
                rintro wd ⟨⟨_, bd⟩, rfl⟩
                go_wp2_with fail
                go_roundw
                case rel => exact ⟨i + 1, by go_num, by omega, bel hbq (bel b8c bd)⟩
                case measure => simp [intOf]; omega
            · have t3n : (cc != S) = false := by simp only [bne, t3]; rfl
              clear t3
              cases t4 : (bb == T)
              · have t4n : (bb != T) = true := by simp only [bne, t4]; rfl
                rw [HCK.out.2.2.2.2 bb (by simpa using t4)] at E5
                clear t4
                go_wp2_with fail
                refine reg_beh (by kernel_rfl) (by kernel_rfl) ?_
                repeat (go_big_quiet_step ((first | (go_at_call_of 13 (Value.int IntKind.i64 cc); exact Beh.calls (E4 _)) | (go_at_call_of 13 (Value.int IntKind.i64 bb); exact Beh.calls (E5 _)))))
                refine wpQuiet_nil ?_
                rintro wd ⟨⟨_, bd⟩, rfl⟩
                go_wp2_with fail
                go_roundw
                case rel => exact ⟨i + 1, by go_num, by omega, bel hbq (bel b8c bd)⟩
                case measure => simp [intOf]; omega
              · have t4n : (bb != T) = false := by simp only [bne, t4]; rfl
                clear t4
                go_wp2_with fail
                refine reg_beh (by kernel_rfl) (by kernel_rfl) ?_
                repeat (go_big_quiet_step ((first | (go_at_call_of 13 (Value.int IntKind.i64 cc); exact Beh.calls (E4 _)) | (go_at_call_of 13 (Value.int IntKind.i64 bb); exact Beh.calls (E5 _)))))
                refine wpQuiet_nil ?_
                rintro wd ⟨⟨_, bd⟩, rfl⟩
                go_wp2_with fail
                go_roundw
                case rel => exact ⟨i + 1, by go_num, by omega, bel hbq (bel b8c bd)⟩
                case measure => simp [intOf]; omega
        · have t1n : (cc != x.cents) = false := by simp only [bne, t1]; rfl
          clear t1
          cases t2 : (bb == x.bl)
          · have t2n : (bb != x.bl) = true := by simp only [bne, t2]; rfl
            rw [HCK.out.2.2.1 bb (by simpa using t2)] at D3
            clear t2
            go_wp2_with fail
            refine reg_beh (by kernel_rfl) (by kernel_rfl) ?_
            repeat (go_big_quiet_step ((first | (go_at_call_of 13 (Value.agg #[.int .i64 x.hh, .int .i64 x.cents, .int .i64 x.bl]); exact Beh.calls (D1 _)) | (go_at_call_of 13 (Value.agg #[.int .i64 x.hh, .int .i64 cc, .int .i64 x.bl]); exact Beh.calls (D2 _)) | (go_at_call_of 13 (Value.agg #[.int .i64 x.hh, .int .i64 x.cents, .int .i64 bb]); exact Beh.calls (D3 _)))))
            refine wpQuiet_nil ?_
            rintro wc ⟨⟨_, bc⟩, rfl⟩
            have b8c := bel b8b bc
            have qc : wc.cell? ⟨w3.heap.size, 0, none⟩ = some (.slice A' n' c') := blk_cell (blk_below bc hQb) 0 _ rfl
            have x0c := (bc.cell (cell_lt x0)).trans x0
            have x1c := (bc.cell (cell_lt x1)).trans x1
            have x2c := (bc.cell (cell_lt x2)).trans x2
            have hAc := hAb.below bc
            have hPc := hPb.below bc
            have E4 := fun i : Beh wc => check_any A' n' c' V Ap mp dp PP cc T x i.val (hAc.below i.property) (by omega) (hPc.below i.property) hmp
            have E5 := fun i : Beh wc => check_any A' n' c' V Ap mp dp PP S bb x i.val (hAc.below i.property) (by omega) (hPc.below i.property) hmp
            clear d0 d1 d2 d3 d4 d5 d6 d7 d8 d9 D1 D2 D3 x0 x1 x2 bc
            have d0 := Beh.cell x0c
            have d1 := Beh.cell x1c
            have d2 := Beh.cell x2c
            have d3 := Beh.cell qc
            clear x0c x1c x2c qc
            cases t3 : (cc == S)
            · have t3n : (cc != S) = true := by simp only [bne, t3]; rfl
              rw [HCK.out.2.2.2.1 cc (by simpa using t3)] at E4
              clear t3
              cases t4 : (bb == T)
              · have t4n : (bb != T) = true := by simp only [bne, t4]; rfl
                rw [HCK.out.2.2.2.2 bb (by simpa using t4)] at E5
                clear t4
                go_wp2_with fail
                refine reg_beh (by kernel_rfl) (by kernel_rfl) ?_
                repeat (go_big_quiet_step ((first | (go_at_call_of 13 (Value.int IntKind.i64 cc); exact Beh.calls (E4 _)) | (go_at_call_of 13 (Value.int IntKind.i64 bb); exact Beh.calls (E5 _)))))
                refine wpQuiet_nil ?_
                rintro wd ⟨⟨_, bd⟩, rfl⟩
                go_wp2_with fail
                go_roundw
                case rel => exact ⟨i + 1, by go_num, by omega, bel hbq (bel b8c bd)⟩
                case measure => simp [intOf]; omega
              · have t4n : (bb != T) = false := by simp only [bne, t4]; rfl
                clear t4
                go_wp2_with fail
                refine reg_beh (by kernel_rfl) (by kernel_rfl) ?_
                repeat (go_big_quiet_step ((first | (go_at_call_of 13 (Value.int IntKind.i64 cc); exact Beh.calls (E4 _)) | (go_at_call_of 13 (Value.int IntKind.i64 bb); exact Beh.calls (E5 _)))))
                refine wpQuiet_nil ?_
                rintro wd ⟨⟨_, bd⟩, rfl⟩
                go_wp2_with fail
                go_roundw
                case rel => exact ⟨i + 1, by go_num, by omega, bel hbq (bel b8c bd)⟩
                case measure => simp [intOf]; omega
            · have t3n : (cc != S) = false := by simp only [bne, t3]; rfl
              clear t3
              cases t4 : (bb == T)
              · have t4n : (bb != T) = true := by simp only [bne, t4]; rfl
                rw [HCK.out.2.2.2.2 bb (by simpa using t4)] at E5
                clear t4
                go_wp2_with fail
                refine reg_beh (by kernel_rfl) (by kernel_rfl) ?_
                repeat (go_big_quiet_step ((first | (go_at_call_of 13 (Value.int IntKind.i64 cc); exact Beh.calls (E4 _)) | (go_at_call_of 13 (Value.int IntKind.i64 bb); exact Beh.calls (E5 _)))))
                refine wpQuiet_nil ?_
                rintro wd ⟨⟨_, bd⟩, rfl⟩
                go_wp2_with fail
                go_roundw
                case rel => exact ⟨i + 1, by go_num, by omega, bel hbq (bel b8c bd)⟩
                case measure => simp [intOf]; omega
              · have t4n : (bb != T) = false := by simp only [bne, t4]; rfl
                clear t4
                go_wp2_with fail
                refine reg_beh (by kernel_rfl) (by kernel_rfl) ?_
                repeat (go_big_quiet_step ((first | (go_at_call_of 13 (Value.int IntKind.i64 cc); exact Beh.calls (E4 _)) | (go_at_call_of 13 (Value.int IntKind.i64 bb); exact Beh.calls (E5 _)))))
                refine wpQuiet_nil ?_
                rintro wd ⟨⟨_, bd⟩, rfl⟩
                go_wp2_with fail
                go_roundw
                case rel => exact ⟨i + 1, by go_num, by omega, bel hbq (bel b8c bd)⟩
                case measure => simp [intOf]; omega
          · have t2n : (bb != x.bl) = false := by simp only [bne, t2]; rfl
            clear t2
            go_wp2_with fail
            refine reg_beh (by kernel_rfl) (by kernel_rfl) ?_
            repeat (go_big_quiet_step ((first | (go_at_call_of 13 (Value.agg #[.int .i64 x.hh, .int .i64 x.cents, .int .i64 x.bl]); exact Beh.calls (D1 _)) | (go_at_call_of 13 (Value.agg #[.int .i64 x.hh, .int .i64 cc, .int .i64 x.bl]); exact Beh.calls (D2 _)) | (go_at_call_of 13 (Value.agg #[.int .i64 x.hh, .int .i64 x.cents, .int .i64 bb]); exact Beh.calls (D3 _)))))
            refine wpQuiet_nil ?_
            rintro wc ⟨⟨_, bc⟩, rfl⟩
            have b8c := bel b8b bc
            have qc : wc.cell? ⟨w3.heap.size, 0, none⟩ = some (.slice A' n' c') := blk_cell (blk_below bc hQb) 0 _ rfl
            have x0c := (bc.cell (cell_lt x0)).trans x0
            have x1c := (bc.cell (cell_lt x1)).trans x1
            have x2c := (bc.cell (cell_lt x2)).trans x2
            have hAc := hAb.below bc
            have hPc := hPb.below bc
            have E4 := fun i : Beh wc => check_any A' n' c' V Ap mp dp PP cc T x i.val (hAc.below i.property) (by omega) (hPc.below i.property) hmp
            have E5 := fun i : Beh wc => check_any A' n' c' V Ap mp dp PP S bb x i.val (hAc.below i.property) (by omega) (hPc.below i.property) hmp
            clear d0 d1 d2 d3 d4 d5 d6 d7 d8 d9 D1 D2 D3 x0 x1 x2 bc
            have d0 := Beh.cell x0c
            have d1 := Beh.cell x1c
            have d2 := Beh.cell x2c
            have d3 := Beh.cell qc
            clear x0c x1c x2c qc
            cases t3 : (cc == S)
            · have t3n : (cc != S) = true := by simp only [bne, t3]; rfl
              rw [HCK.out.2.2.2.1 cc (by simpa using t3)] at E4
              clear t3
              cases t4 : (bb == T)
              · have t4n : (bb != T) = true := by simp only [bne, t4]; rfl
                rw [HCK.out.2.2.2.2 bb (by simpa using t4)] at E5
                clear t4
                go_wp2_with fail
                refine reg_beh (by kernel_rfl) (by kernel_rfl) ?_
                repeat (go_big_quiet_step ((first | (go_at_call_of 13 (Value.int IntKind.i64 cc); exact Beh.calls (E4 _)) | (go_at_call_of 13 (Value.int IntKind.i64 bb); exact Beh.calls (E5 _)))))
                refine wpQuiet_nil ?_
                rintro wd ⟨⟨_, bd⟩, rfl⟩
                go_wp2_with fail
                go_roundw
                case rel => exact ⟨i + 1, by go_num, by omega, bel hbq (bel b8c bd)⟩
                case measure => simp [intOf]; omega
              · have t4n : (bb != T) = false := by simp only [bne, t4]; rfl
                clear t4
                go_wp2_with fail
                refine reg_beh (by kernel_rfl) (by kernel_rfl) ?_
                repeat (go_big_quiet_step ((first | (go_at_call_of 13 (Value.int IntKind.i64 cc); exact Beh.calls (E4 _)) | (go_at_call_of 13 (Value.int IntKind.i64 bb); exact Beh.calls (E5 _)))))
                refine wpQuiet_nil ?_
                rintro wd ⟨⟨_, bd⟩, rfl⟩
                go_wp2_with fail
                go_roundw
                case rel => exact ⟨i + 1, by go_num, by omega, bel hbq (bel b8c bd)⟩
                case measure => simp [intOf]; omega
            · have t3n : (cc != S) = false := by simp only [bne, t3]; rfl
              clear t3
              cases t4 : (bb == T)
              · have t4n : (bb != T) = true := by simp only [bne, t4]; rfl
                rw [HCK.out.2.2.2.2 bb (by simpa using t4)] at E5
                clear t4
                go_wp2_with fail
                refine reg_beh (by kernel_rfl) (by kernel_rfl) ?_
                repeat (go_big_quiet_step ((first | (go_at_call_of 13 (Value.int IntKind.i64 cc); exact Beh.calls (E4 _)) | (go_at_call_of 13 (Value.int IntKind.i64 bb); exact Beh.calls (E5 _)))))
                refine wpQuiet_nil ?_
                rintro wd ⟨⟨_, bd⟩, rfl⟩
                go_wp2_with fail
                go_roundw
                case rel => exact ⟨i + 1, by go_num, by omega, bel hbq (bel b8c bd)⟩
                case measure => simp [intOf]; omega
              · have t4n : (bb != T) = false := by simp only [bne, t4]; rfl
                clear t4
                go_wp2_with fail
                refine reg_beh (by kernel_rfl) (by kernel_rfl) ?_
                repeat (go_big_quiet_step ((first | (go_at_call_of 13 (Value.int IntKind.i64 cc); exact Beh.calls (E4 _)) | (go_at_call_of 13 (Value.int IntKind.i64 bb); exact Beh.calls (E5 _)))))
                refine wpQuiet_nil ?_
                rintro wd ⟨⟨_, bd⟩, rfl⟩
                go_wp2_with fail
                go_roundw
                case rel => exact ⟨i + 1, by go_num, by omega, bel hbq (bel b8c bd)⟩
                case measure => simp [intOf]; omega
end Go.Proofs.Ytijkaiilecpbcaa
