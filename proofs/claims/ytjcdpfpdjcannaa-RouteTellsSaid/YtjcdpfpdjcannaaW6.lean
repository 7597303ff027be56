/-
The walk of the reference's next order.
-/
import Derived.Test.YtjcdpfpdjcannaaBW
import Derived.Test.YtjcdpfpdjcannaaL5
import Derived.Deep.Light
namespace Go.Proofs.Ytjcdpfpdjcannaa
open Go.RowKit

/-- A list of numbers in a block of its own, that can be written. -/
def OI (w : World) (ad : Addr) (n c : Nat) (l : List Int) : Prop :=
  n = l.length ∧ n ≤ c ∧ ∃ g cur, ad = ⟨g, 0, none⟩ ∧ w.heap[g]? = some (.cells cur 3 (0, 0)) ∧ cur.toList.take n = intCells l
theorem OI.ints {w : World} {ad : Addr} {n c : Nat} {l : List Int} (h : OI w ad n c l) : Ints w (some ad) n l := by
  obtain ⟨h1, h2, g, cur, rfl, h3, h4⟩ := h
  refine ⟨h1, by simp [intCells, h1], fun _ => ⟨_, rfl, fun j u hu => ?_⟩⟩
  rw [add_zero_block, cell_of_row w g j cur 3 (0, 0) h3]
  rw [← h4, List.getElem?_take] at hu
  split at hu
  · simpa using hu
  · cases hu
theorem OI.cell {w : World} {ad : Addr} {n c k : Nat} {l : List Int} {x : Int} (h : OI w ad n c l) (hk : l[k]? = some x) : w.cell? (ad.add k) = some (.int .i64 x) := by
  obtain ⟨ad', y, e, hy, hc⟩ := h.ints.at_ (k := k) (by rw [h.1]; exact (List.getElem?_eq_some_iff.1 hk).1)
  injection e with e
  subst e
  rw [hk] at hy
  injection hy with hy
  rw [hy]; exact hc
theorem OI.free {w : World} {ad : Addr} {n c : Nat} {l : List Int} (h : OI w ad n c l) (k : Nat) : w.frozen? (ad.add k) = false := by
  obtain ⟨h1, h2, g, cur, rfl, h3, h4⟩ := h
  rw [add_zero_block]
  exact blk_free h3 k
theorem OI.set {w : World} {ad : Addr} {n c : Nat} {l : List Int} (h : OI w ad n c l) (k : Nat) (x : Int) : OI (w.setCell (ad.add k) (.int .i64 x)) ad n c (l.set k x) := by
  obtain ⟨h1, h2, g, cur, rfl, h3, h4⟩ := h
  refine ⟨by rw [List.length_set]; exact h1, h2, g, _, rfl, by rw [add_zero_block]; exact blk_set h3 k _, ?_⟩
  rw [Array.toList_setIfInBounds, List.take_set, h4]
  simp [intCells, List.map_set]
theorem OI.below {w w' : World} {ad : Addr} {n c : Nat} {l : List Int} (h : OI w ad n c l) (hb : Below w.heap.size w w') : OI w' ad n c l := by
  obtain ⟨h1, h2, g, cur, e, h3, h4⟩ := h
  exact ⟨h1, h2, g, cur, e, blk_below hb h3, h4⟩
theorem OI.grown {w w' : World} {r : Option Nat} {ad : Addr} {n c : Nat} {l : List Int} (h : OI w ad n c l) (hg : w.grownBy w' r) (hne : some ad.block ≠ r) : OI w' ad n c l := by
  obtain ⟨h1, h2, g, cur, rfl, h3, h4⟩ := h
  exact ⟨h1, h2, g, cur, rfl, (hg.block g (Array.getElem?_eq_some_iff.1 h3).1 hne).trans h3, h4⟩
theorem OI.lt {w : World} {ad : Addr} {n c : Nat} {l : List Int} (h : OI w ad n c l) : ad.block < w.heap.size := by
  obtain ⟨h1, h2, g, cur, rfl, h3, h4⟩ := h
  exact (Array.getElem?_eq_some_iff.1 h3).1
theorem Ints.put {w : World} {A : Option Addr} {n m c k : Nat} {l o : List Int} {ad : Addr} (h : Ints w A n l) (u : Value) (hO : OI w ad m c o) (hA : ∀ ad', A = some ad' → ad'.block ≠ ad.block) : Ints (w.setCell (ad.add k) u) A n l := by
  obtain ⟨h1, h2, g, cur, rfl, h3, h4⟩ := hO
  rw [add_zero_block]
  exact h.set u hA
theorem own_oi {w : World} {base : Nat} {v : Value} {n : Nat} {l : List Int} (h : w.ownsRow base 3 1 v n (intCells l)) (hn : n = l.length) :
    ∃ A c, v = .slice A n c ∧ Ints w A n l ∧ n ≤ c ∧ (0 < n → ∃ ad, A = some ad ∧ OI w ad n c l ∧ base ≤ ad.block) := by
  obtain ⟨A, c, e, hI⟩ := own_ints h hn
  obtain ⟨hl, ⟨rfl, rfl⟩ | ⟨g, cap, cur, rfl, hb, hh, hnc, _, hsz, ht⟩⟩ := h
  · exact ⟨A, c, e, hI, Nat.zero_le _, fun h0 => absurd h0 (by omega)⟩
  · injection e with e1 e2 e3
    subst e1 e3
    refine ⟨_, _, rfl, hI, hnc, fun h0 => ?_⟩
    exact ⟨_, rfl, ⟨hn, hnc, g, cur, rfl, hh, by rw [← ht, Nat.mul_one]⟩, hb⟩

namespace K
/-- Where the reference's first search stands: at z, or past the beginning. -/
def Seeks (v : List Int) (z : Int) : Prop := (z < 0 ∧ nextI v (v.length - 1) = none) ∨ ∃ p : Nat, z = p ∧ p + 1 < v.length ∧ nextI v (v.length - 1) = nextI v (p + 1)
theorem seeks_of {v : List Int} : ∀ (j : Nat), j < v.length → nextI v (v.length - 1) = nextI v j → Seeks v ((j : Int) - 1)
  | 0, _, h => .inl ⟨by omega, h⟩
  | j + 1, h1, h => .inr ⟨j, by omega, h1, h⟩
theorem seeks_start (v : List Int) : Seeks v ((v.length : Int) - 2) := by
  rcases Nat.eq_zero_or_pos v.length with h | h
  · exact .inl ⟨by omega, by rw [h]; rfl⟩
  · have := seeks_of (v := v) (v.length - 1) (by omega) rfl
    rwa [show (((v.length - 1 : Nat) : Int) - 1) = (v.length : Int) - 2 by omega] at this
theorem nextI_step {v : List Int} {p : Nat} {x y : Int} (h1 : v[p]? = some x) (h2 : v[p + 1]? = some y) : nextI v (p + 1) = if y < x then nextI v p else some p := by
  rw [nextI, h1, h2]; rfl
theorem nextK_step {v : List Int} {x y : Int} {k : Nat} (h : v[k]? = some y) : nextK v x (k + 1) = if y < x then nextK v x k else k := by
  rw [nextK, h]; rfl
/-- The part that is turned round, up to place j. -/
def half (D : List Int) (j : Nat) : List Int := D.reverse.take j ++ D.drop j
theorem half_zero (D : List Int) : half D 0 = D := by simp [half]
theorem half_full (D : List Int) : half D D.length = D.reverse := by unfold half; rw [List.take_of_length_le (by simp), List.drop_eq_nil_of_le (Nat.le_refl _), List.append_nil]
theorem half_next {P D : List Int} {j : Nat} {x : Int} (h : D[D.length - 1 - j]? = some x) (hj : j < D.length) : (P ++ half D j).set (P.length + j) x = P ++ half D (j + 1) := by
  have hr : D.reverse[j]? = some x := by rw [List.getElem?_reverse hj]; exact h
  rw [List.set_append_right _ _ (by omega), show P.length + j - P.length = j by omega]
  congr 1
  unfold half
  have hl : (D.reverse.take j).length = j := by simp; omega
  rw [List.set_append_right _ _ (by omega), take_snoc hr, List.drop_eq_getElem_cons hj, hl, Nat.sub_self, List.set_cons_zero, List.append_assoc]
  rfl
end K

/-- What next hands back. -/
def RetNext (w w' : World) (o : Option (List Int)) (e : Ending) : Prop :=
  ((o = none ∧ e = .returned (.tuple #[.slice none 0 0, .bool false])) ∨ (∃ l A n c, o = some l ∧ n ≤ c ∧ e = .returned (.tuple #[.slice A n c, .bool true]) ∧ Ints w' A n l ∧ ∀ ad, A = some ad → w.heap.size ≤ ad.block)) ∧ Below w.heap.size w w'

set_option maxRecDepth 100000 in
set_option maxHeartbeats 16000000 in
theorem next_any (V : Option Addr) (vn vc : Nat) (v : List Int) (w : World) (hV : Ints w V vn v) (hn : vn ≤ 1000000000) :
    Calls Try.prog 62 #[.slice V vn vc] w fun e w' => RetNext w w' (K.next v) e := by
  obtain ⟨i0, hi, hz0, hz1, hz2⟩ := info_parts Try.info3
  have hlit : (w.alloc (.cells #[] 3)).ownsRow w.heap.size 3 1 (.slice (some ⟨w.heap.size, 0, none⟩) 0 0) 0 [] := own_lit (heap_alloc_new w (.cells #[] 3)) (Nat.le_refl _)
  have ba : Below w.heap.size w (w.alloc (.cells #[] 3)) := (Below.refl _ _).alloc (Nat.le_refl _) _
  have HLN := Lib.hid hV.1
  obtain ⟨z0, hz⟩ : ∃ z0, z0 = (vn : Int) - 2 := ⟨_, rfl⟩
  have HSK := Lib.hid (show K.Seeks v z0 by have h := K.seeks_start v; rw [← HLN.out, ← hz] at h; exact h)
  have kz : IntKind.i64.wrap ((vn : Int) - 2) = z0 := by rw [IntWalk.i64_in _ (by omega)]; omega
  have hz1' : z0 < (vn : Int) := by omega
  clear hz
  go_enter Try.func62, Try.ntmps62
  go_wp2_with (at_builtin; refine wp_append_rd rfl (.tmp 10) (.tmp 11) 25 rfl w.heap.size 3 i0 (.int .i64 0) 1 8 Try.underlying25 hi hz0 hz1 hz2 rfl (by decide) (.slice (some ⟨w.heap.size, 0, none⟩) 0 0) 0 [] rfl hlit V vn vc (intCells v) rfl (hV.below ba).2 (intCells_one v) (by simp only [maxLen]; omega) (by omega) (by first | (simp; done) | (simp; omega)) ?_; intro v' w1 hown1 hgrow1 hat1; rw [Nat.zero_add, List.nil_append] at hown1; obtain ⟨A, c, rfl, hI, -, hO⟩ := own_oi hown1 HLN.out; have hb1 : Below w.heap.size w w1 := below_own2 ba hgrow1 (lit_block (Nat.le_refl _)); clear hown1 hgrow1 hat1 hlit ba)
  go_loopw [5] (fun v5 wr => ∃ z : Int, v5 = .int .i64 z ∧ z < vn ∧ Hid (K.Seeks v z) ∧ Below w1.heap.size w1 wr) (fun v5 _ => (intOf v5 + 1).toNat)
  case atStart => exact ⟨z0, rfl, hz1', HSK.out, Below.refl _ _⟩
  case round =>
    clear kz
    obtain ⟨z, rfl, hzn, hsk, hbr⟩ := hrel
    rcases hsk.out with ⟨hneg, hnone⟩ | ⟨p, hp, hp1, hseek⟩
    · have c1 : decide (0 ≤ z) = false := by simp; omega
      have c2 : decide (z < 0) = true := by simp; omega
      have HNX := Lib.hid (show K.next v = none by unfold K.next; rw [hnone])
      clear hsk hnone
      go_wp2_with fail
      go_quiet (fail)
      go_wp2_with fail
      go_ret2
      exact ⟨.inl ⟨HNX.out, rfl⟩, below_drewN (bel hb1 hbr) _⟩
    · subst hp
      rw [← HLN.out] at hp1 hseek
      obtain ⟨ad, rfl, hOI, hbase⟩ := hO (by omega)
      clear hO
      obtain ⟨q, hq⟩ : ∃ q : Nat, q = p + 1 := ⟨_, rfl⟩
      have hpl : p < vn := by omega
      have hql : q < vn := by omega
      have HOI := Lib.hid hOI
      obtain ⟨ad1, x, ea, hx, cp⟩ := (hI.below hbr).at_ hpl
      injection ea with ea
      subst ea
      obtain ⟨ad1, y, ea, hy, cq⟩ := (hI.below hbr).at_ hql
      injection ea with ea
      subst ea
      have hst := K.nextI_step hx (by rw [← hq]; exact hy)
      have k1 : decide ((0 : Int) ≤ (p : Int)) = true := by simp
      have k2 : decide ((p : Int) < 0) = false := by simp
      have k3 : IntKind.i64.wrap ((p : Int) + 1) = (q : Int) := by rw [IntWalk.i64_in _ (by omega)]; omega
      have k4 : (0 : Int) ≤ (p : Int) := by omega
      have k5 : (p : Int) < (vn : Int) := by omega
      have k6 : (0 : Int) ≤ (q : Int) := by omega
      have k7 : (q : Int) < (vn : Int) := by omega
      have HX := Lib.hid hx
      have HSE := Lib.hid hseek
      have HQ := Lib.hid hq
      clear hx hy hseek hsk hq hOI hp1
      by_cases hlt : y < x
      · have c1 : decide (y < x) = true := decide_eq_true hlt
        obtain ⟨zz, hzz⟩ : ∃ zz, zz = (p : Int) - 1 := ⟨_, rfl⟩
        have k8 : IntKind.i64.wrap ((p : Int) - 1) = zz := by rw [IntWalk.i64_in _ (by omega)]; omega
        have HN := Lib.hid (show K.Seeks v zz by rw [hzz]; exact K.seeks_of p (by rw [← HLN.out]; exact hpl) (by rw [← HLN.out, HSE.out, hst, if_pos hlt]))
        have hzv : zz < (vn : Int) := by omega
        have hmz : (zz + 1).toNat < ((p : Int) + 1).toNat := by omega
        clear hst hzz
        go_wp2_with fail
        go_quiet (fail)
        go_wp2_with fail
        go_roundw
        case rel => exact ⟨zz, rfl, hzv, HN.out, below_drewN hbr _⟩
        case measure => exact hmz
      · have c1 : decide (y < x) = false := decide_eq_false hlt
        have HI := Lib.hid (show K.nextI v (v.length - 1) = some p by rw [← HLN.out, HSE.out, hst, if_neg hlt])
        have HXY := Lib.hid hlt
        clear hst hlt
        obtain ⟨k0, hk0⟩ : ∃ k0 : Nat, k0 = vn - 1 := ⟨_, rfl⟩
        have k8 : IntKind.i64.wrap ((vn : Int) - 1) = (k0 : Int) := by rw [IntWalk.i64_in _ (by omega)]; omega
        have hk1 : k0 + 1 = vn := by omega
        have HK1 := Lib.hid hk1
        have hk2 : k0 < vn := by omega
        have hk3 : p ≤ k0 := by omega
        clear hk0 hk1
        go_wp2_with fail
        go_quiet (fail)
        obtain ⟨w2, hnew⟩ : ∃ w2 : World, w2 = wr.drewN nq := ⟨_, rfl⟩
        rw [← hnew]
        have hb2 : Below w1.heap.size w1 w2 := by rw [hnew]; exact below_drewN hbr _
        clear hnew hbr cp cq k1 c1
        go_wp2_with fail
        clear k2 k8
        go_loopw [6] (fun v6 ws => ∃ k : Nat, v6 = .int .i64 k ∧ p ≤ k ∧ k < vn ∧ Hid (K.nextK v x vn = K.nextK v x (k + 1)) ∧ Below w2.heap.size w2 ws) (fun v6 _ => (intOf v6).toNat)
        case atStart => exact ⟨k0, rfl, hk3, hk2, by rw [HK1.out]; exact rfl, Below.refl _ _⟩
        case round =>
          clear hk2 hk3
          obtain ⟨k, rfl, hpk, hkn, hnk, hbs⟩ := hrel
          have hb2s := bel hb2 hbs
          obtain ⟨ad1, u, ea, hu, cu⟩ := (hI.below hb2s).at_ hkn
          injection ea with ea
          subst ea
          obtain ⟨ad1, x1, ea, hx1, cp⟩ := (hI.below hb2s).at_ hpl
          rw [HX.out] at hx1
          injection hx1 with hx1
          subst hx1
          injection ea with ea
          subst ea
          have hst := K.nextK_step (x := x) hu
          have j1 : (0 : Int) ≤ (k : Int) := by omega
          have j2 : (k : Int) < (vn : Int) := by omega
          by_cases hux : u < x
          · have c1 : decide (u < x) = true := decide_eq_true hux
            have hne : k ≠ p := by
              intro e
              rw [e, HX.out] at hu
              injection hu with hu
              omega
            obtain ⟨kk, hkk⟩ : ∃ kk : Nat, k = kk + 1 := ⟨k - 1, by omega⟩
            have j3 : IntKind.i64.wrap ((k : Int) - 1) = (kk : Int) := by rw [IntWalk.i64_in _ (by omega)]; omega
            have HN := Lib.hid (show K.nextK v x vn = K.nextK v x (kk + 1) by rw [hnk.out, hst, if_pos hux, hkk])
            have g1 : p ≤ kk := by omega
            have g2 : kk < vn := by omega
            have g3 : kk < k := by omega
            clear hu hnk hst hkk hne
            go_wp2_with fail
            go_quiet (fail)
            go_wp2_with fail
            go_roundw
            case rel => exact ⟨kk, rfl, g1, g2, HN.out, below_drewN hbs _⟩
            case measure => simp [intOf]; exact g3
          · have c1 : decide (u < x) = false := decide_eq_false hux
            have HNK := Lib.hid (show K.nextK v x vn = k by rw [hnk.out, hst, if_neg hux])
            have HU := Lib.hid hu
            clear hnk hst hu hux
            go_wp2_with fail
            go_quiet (fail)
            obtain ⟨w3, hnew⟩ : ∃ w3 : World, w3 = wr.drewN nq := ⟨_, rfl⟩
            rw [← hnew]
            have hb3 : Below w1.heap.size w1 w3 := by rw [hnew]; exact below_drewN hb2s _
            clear hnew hbs hb2s cu cp c1
            have O3 := HOI.out.below hb3
            have cp := O3.cell HX.out
            have cu := O3.cell HU.out
            have fp := O3.free p
            obtain ⟨w4, hw4⟩ : ∃ w4 : World, w4 = w3.setCell (ad.add p) (.int .i64 u) := ⟨_, rfl⟩
            have O4 : OI w4 ad vn c (v.set p u) := by rw [hw4]; exact O3.set p u
            obtain ⟨u4, hu4⟩ : ∃ u4, (v.set p u)[k]? = some u4 := ⟨_, List.getElem?_eq_getElem (by rw [List.length_set, ← HLN.out]; exact hkn)⟩
            have cu4 := O4.cell hu4
            have fu4 := O4.free k
            obtain ⟨w5, hw5⟩ : ∃ w5 : World, w5 = w4.setCell (ad.add k) (.int .i64 x) := ⟨_, rfl⟩
            obtain ⟨S, hS⟩ : ∃ S, S = (v.set p u).set k x := ⟨_, rfl⟩
            have O5 : OI w5 ad vn c S := by rw [hw5, hS]; exact O4.set k x
            have z5 : w5.heap.size = w3.heap.size := by rw [hw5, hw4]; simp
            have hb5 : Below w.heap.size w w5 := by
              rw [hw5, hw4]
              exact ((bel hb1 hb3).setCell (by rw [add_block]; exact hbase) _).setCell (by rw [add_block]; exact hbase) _
            have hSl : S.length = vn := by rw [hS, List.length_set, List.length_set, HLN.out]
            have HT := Lib.hid (show K.next v = some (S.take q ++ (S.drop q).reverse) by
              unfold K.next
              rw [HI.out]
              show some (K.turned v p (K.nextK v ((v[p]?).getD 0) v.length)) = _
              rw [HX.out, Option.getD_some, ← HLN.out, HNK.out]
              unfold K.turned
              rw [HX.out, HU.out, Option.getD_some, Option.getD_some, ← hS, HQ.out])
            have hblk5 := O5.lt
            have hlit5 : (w5.alloc (.cells #[] 3)).ownsRow w5.heap.size 3 1 (.slice (some ⟨w5.heap.size, 0, none⟩) 0 0) 0 [] := own_lit (heap_alloc_new w5 (.cells #[] 3)) (Nat.le_refl _)
            have ba5 : Below w5.heap.size w5 (w5.alloc (.cells #[] 3)) := (Below.refl _ _).alloc (Nat.le_refl _) _
            have hID := (Ints.drop (O5.ints) rfl (k := q) (by omega)).below ba5
            obtain ⟨mm, hmm⟩ : ∃ mm : Nat, mm = vn - q := ⟨_, rfl⟩
            have hqc : q ≤ c := by have := O5.2.1; omega
            have hnc : vn ≤ c := O5.2.1
            have k8 : (q : Int) ≤ (vn : Int) := by omega
            have k9 : (vn : Int) ≤ (c : Int) := by omega
            have hmq : q + mm = vn := by omega
            have HMQ := Lib.hid hmq
            have hDl : mm = (S.drop q).length := by rw [List.length_drop, hSl]; omega
            have HDL := Lib.hid hDl
            have HSL := Lib.hid hSl
            have hmm1 : mm ≤ 1000000000 := by omega
            clear hDl hSl hmq
            rw [hw4] at cu4 fu4
            go_upto_region 13 with fail
            rw [← hw4, ← hw5]
            clear hw4 hw5 cu4 fu4 cp cu fp O3 O4 z5
            go_wp2_with (at_builtin; refine wp_append_rd rfl (.tmp 64) (.tmp 68) 25 rfl w5.heap.size 3 i0 (.int .i64 0) 1 8 Try.underlying25 hi hz0 hz1 hz2 rfl (by decide) (.slice (some ⟨w5.heap.size, 0, none⟩) 0 0) 0 [] rfl hlit5 (some (ad.add q)) (vn - q) _ (intCells (S.drop q)) rfl hID.2 (intCells_one _) (by simp only [maxLen]; omega) (by omega) (by first | (simp; done) | (simp; omega)) ?_; intro v' w6 hown6 hgrow6 hat6; rw [Nat.zero_add, List.nil_append, ← hmm] at hown6; obtain ⟨R, rc, rfl, hR⟩ := own_ints hown6 HDL.out; have hRb := (fun ad' (e : R = some ad') => (hown6.lt ad'.block (by rw [e]; rfl)).1); have hb6 : Below w5.heap.size w5 w6 := below_own2 ba5 hgrow6 (lit_block (Nat.le_refl _)); have O6 := O5.below hb6; have hbw6 := bel hb5 hb6; clear hown6 hgrow6 hat6 hlit5 ba5 hID k8 k9; try (rw [← hmm]); clear hmm)
            go_loopw [9] (fun v9 ws => ∃ j : Nat, v9 = .int .i64 j ∧ j ≤ mm ∧ OI ws ad vn c (S.take q ++ K.half (S.drop q) j) ∧ Ints ws R mm (S.drop q) ∧ Below w.heap.size w ws) (fun v9 _ => mm - (intOf v9).toNat)
            case atStart => exact ⟨0, rfl, by omega, by rw [K.half_zero, List.take_append_drop]; exact O6, hR, hbw6⟩
            case round =>
              clear O6 hR hbw6 hb6
              obtain ⟨j, rfl, hj, hOj, hRj, hbj⟩ := hrel
              by_cases hlt : j < mm
              · obtain ⟨zz, hzz⟩ : ∃ zz : Nat, zz = q + j := ⟨_, rfl⟩
                obtain ⟨m1, hm1⟩ : ∃ m1 : Nat, mm = m1 + 1 := ⟨mm - 1, by omega⟩
                obtain ⟨yy, hyy⟩ : ∃ yy : Nat, yy = m1 - j := ⟨_, rfl⟩
                have hmq := HMQ.out
                have hym : yy < mm := by omega
                have hzv : zz < vn := by omega
                obtain ⟨adr, e, hAR, he, ce⟩ := hRj.at_ hym
                obtain ⟨old, hold⟩ : ∃ old, (S.take q ++ K.half (S.drop q) j)[zz]? = some old := ⟨_, List.getElem?_eq_getElem (by rw [← hOj.1]; exact hzv)⟩
                have cz := hOj.cell hold
                have fz := hOj.free zz
                have hPl : (S.take q).length = q := by rw [List.length_take, HSL.out]; omega
                have HNX : (S.take q ++ K.half (S.drop q) j).set zz e = S.take q ++ K.half (S.drop q) (j + 1) := by
                  rw [hzz]
                  have h := K.half_next (P := S.take q) (D := S.drop q) (j := j) (x := e) (by rw [← HDL.out, hm1, show m1 + 1 - 1 - j = yy by omega]; exact he) (by rw [← HDL.out]; exact hlt)
                  rwa [hPl] at h
                have hOn := hOj.set zz e
                rw [HNX] at hOn
                have hRn := hRj.put (.int .i64 e) (k := zz) hOj (fun ad' e' => by have := hRb ad' e'; omega)
                have hbn : Below w.heap.size w (wr.setCell (ad.add zz) (.int .i64 e)) := hbj.setCell (by rw [add_block]; exact hbase) _
                have j1 : IntKind.i64.wrap ((q : Int) + (j : Int)) = (zz : Int) := by rw [IntWalk.i64_in _ (by omega)]; omega
                have j2 : IntKind.i64.wrap ((mm : Int) - 1) = (m1 : Int) := by rw [IntWalk.i64_in _ (by omega)]; omega
                have j3 : IntKind.i64.wrap ((m1 : Int) - (j : Int)) = (yy : Int) := by rw [IntWalk.i64_in _ (by omega)]; omega
                have j4 : (0 : Int) ≤ (yy : Int) := by omega
                have j5 : (yy : Int) < (mm : Int) := by omega
                have j6 : (0 : Int) ≤ (zz : Int) := by omega
                have j7 : (zz : Int) < (vn : Int) := by omega
                subst hAR
                clear hold hPl HNX he hzz hm1 hyy hym hzv hmq
                go_wp2_with fail
                go_roundw
                case rel => exact ⟨j + 1, by go_num, hlt, hOn, hRn, hbn⟩
                case measure => simp [intOf]; omega
              · have HE := Lib.hid (show S.take q ++ K.half (S.drop q) j = S.take q ++ (S.drop q).reverse by rw [show j = mm by omega, HDL.out, K.half_full])
                go_wp2_with fail
                go_ret2
                exact ⟨.inr ⟨_, some ad, vn, c, HT.out, hnc, rfl, by rw [← HE.out]; exact hOj.ints, fun ad' e => by injection e with e; rw [← e]; exact hbase⟩, hbj⟩
end Go.Proofs.Ytjcdpfpdjcannaa
