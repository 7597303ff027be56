/-
The walk of TotalHides.
-/
import Derived.Test.YtijkaiilecpbcaaW18
import Derived.Test.YtijkaiilecpbcaaP6
import Derived.Test.YtijkaiilecpbcaaW6
namespace Go.Proofs.Ytijkaiilecpbcaa
open Go.RowKit

theorem K.blinds_snoc (l : List Ln) (x : Ln) : K.blinds (l ++ [x]) = K.blinds l + x.bl := by
  induction l with
  | nil => simp [K.blinds]
  | cons y l ih => simp [K.blinds, ih]; omega

theorem K.tail_len' {l : List It} {bs : List Bool} {leaf : Nat} : ∀ (f k : Nat), (K.tailOf l bs leaf f k).length ≤ f := by
  intro f
  induction f with
  | zero => intro k; simp [K.tailOf]
  | succ f ih =>
    intro k
    simp only [K.tailOf]
    split
    · simp
    · split
      · simp only [List.length_cons]
        exact Nat.succ_le_succ (ih _)
      · simp
theorem K.path_len' (l : List It) (root leaf : Int) : (K.path l root leaf).length ≤ l.length + 1 := by
  unfold K.path
  split
  · rename_i h
    simp only [Bool.and_eq_true] at h
    have := K.has_iff.1 h.2.1
    have := K.tail_len' (l := l) (bs := K.near l leaf.toNat) (leaf := leaf.toNat) (root.toNat + 1) root.toNat
    simp only [List.length_cons]
    omega
  · simp

/-- Of what was there all stands, and two cells. -/
def VAt2 (wr : World) (g : Nat) (u : Value) (a : Addr) (x : Value) (w' : World) : Prop := Below wr.heap.size wr w' ∧ w'.cell? ⟨g, 0, none⟩ = some u ∧ w'.cell? a = some x
theorem VAt2.next {wr : World} {g : Nat} {u : Value} {a : Addr} {x : Value} {w' w'' : World} (h : VAt2 wr g u a x w') (hb : Below w'.heap.size w' w'') : VAt2 wr g u a x w'' := ⟨bel h.1 hb, (hb.cell (cell_lt h.2.1)).trans h.2.1, (hb.cell (cell_lt h.2.2)).trans h.2.2⟩
theorem VAt2.drew {wr : World} {g : Nat} {u : Value} {a : Addr} {x : Value} {w' : World} (h : VAt2 wr g u a x w') : VAt2 wr g u a x w'.drew := ⟨h.1.drew, h.2⟩

/-- Of what was there all stands, and three cells. -/
def VAt3 (wr : World) (g : Nat) (u : Value) (g' : Nat) (u' : Value) (a : Addr) (x : Value) (w' : World) : Prop := Below wr.heap.size wr w' ∧ w'.cell? ⟨g, 0, none⟩ = some u ∧ w'.cell? ⟨g', 0, none⟩ = some u' ∧ w'.cell? a = some x
theorem VAt3.next {wr : World} {g : Nat} {u : Value} {g' : Nat} {u' : Value} {a : Addr} {x : Value} {w' w'' : World} (h : VAt3 wr g u g' u' a x w') (hb : Below w'.heap.size w' w'') : VAt3 wr g u g' u' a x w'' := ⟨bel h.1 hb, (hb.cell (cell_lt h.2.1)).trans h.2.1, (hb.cell (cell_lt h.2.2.1)).trans h.2.2.1, (hb.cell (cell_lt h.2.2.2)).trans h.2.2.2⟩
theorem VAt3.drew {wr : World} {g : Nat} {u : Value} {g' : Nat} {u' : Value} {a : Addr} {x : Value} {w' : World} (h : VAt3 wr g u g' u' a x w') : VAt3 wr g u g' u' a x w'.drew := ⟨h.1.drew, h.2⟩

theorem ints_yes (A B : Option Addr) (n m c d : Nat) (l : List Int) (w : World) (hn : n ≤ 1000000) (hla : Ints w A n l) (hlb : Ints w B m l) :
    Calls Try.prog 16 #[.slice A n c, .slice B m d] w fun e w' => e = .returned (.bool true) ∧ Below w.heap.size w w' := by
  have hm : m = n := by rw [hla.1, hlb.1]
  have h := sameInts_any A B n m c d l l w hla hlb (by omega) (by omega)
  rw [show decide (l = l) = true by simp] at h
  exact h
theorem items_yes (A B : Option Addr) (n m c d : Nat) (l : List It) (w : World) (hn : n ≤ 1000000) (hla : Items w A n l) (hlb : Items w B m l) :
    Calls Try.prog 15 #[.slice A n c, .slice B m d] w fun e w' => e = .returned (.bool true) ∧ Below w.heap.size w w' := by
  have hm : m = n := by rw [hla.1, hlb.1]
  have h := same_any A B n m c d l l w hla hlb (by omega) (by omega)
  rw [show decide (l = l) = true by simp] at h
  exact h
theorem K.view_le (l : List It) (p : List Int) : (K.view l p).length ≤ p.length := by
  unfold K.view
  split
  · rw [K.view_len]; exact Nat.le_refl _
  · simp

set_option maxRecDepth 100000 in
set_option maxHeartbeats 32000000 in
theorem hides_walk (A : Option Addr) (n c : Nat) (v : List It) (B : Option Addr) (m d : Nat) (a : List Ln) (C : Option Addr) (o f : Nat) (b : List Ln) (at_ : Int) (w : World) (hv : Items w A n v) (ha : Lines w B m a) (hb' : Lines w C o b) :
    Calls Try.prog 6 #[.agg #[.slice A n c], .slice B m d, .slice C o f, .int .i64 at_] w fun e w' => e = .returned (.bool true) ∧ Below w.heap.size w w' := by
  have b0 := (Below.refl w.heap.size w).alloc (Nat.le_refl _) (.cells #[.slice A n c] 24)
  have hP0 := vbox w A n c
  go_enter Try.func6, Try.ntmps6
  go_wp2_with fail
  refine (sane_any _).mono ?_
  rintro e w1 ⟨rfl, b1⟩
  have hb := bel b0 b1
  have hP := blk_below b1 hP0
  have p0 := blk_cell hP 0 _ rfl
  clear b0 b1 hP0
  cases hf : (decide (n ≤ 60) && decide (0 ≤ 10))
  · have HF := Lib.hid hf
    clear hf
    go_wp2_with fail
    refine (few_any A n c none 0 0 60 _).mono ?_; rw [HF.out]; rintro e w2 ⟨rfl, b2⟩
    go_wp2_with fail
    go_ret
    exact ⟨rfl, bel hb b2⟩
  have HF := Lib.hid hf
  simp only [Bool.and_eq_true, decide_eq_true_eq] at hf
  obtain ⟨hn, _⟩ := hf
  by_cases hm : m ≤ 20
  rotate_left
  · have g1 : decide ((20 : Int) < (m : Int)) = true := by simp; omega
    go_wp2_with fail
    refine (few_any A n c none 0 0 60 _).mono ?_; rw [HF.out]; rintro e w2 ⟨rfl, b2⟩
    go_wp2_with fail
    go_ret
    exact ⟨rfl, bel hb b2⟩
  have g1 : decide ((20 : Int) < (m : Int)) = false := by simp; omega
  by_cases hmo : m = o
  rotate_left
  · have g2 : ((m : Int) != (o : Int)) = true := by simp [bne]; omega
    have g2n : (m != o) = true := by simp [bne]; omega
    go_wp2_with fail
    refine (few_any A n c none 0 0 60 _).mono ?_; rw [HF.out]; rintro e w2 ⟨rfl, b2⟩
    go_wp2_with fail
    go_ret
    exact ⟨rfl, bel hb b2⟩
  subst hmo
  by_cases h0 : 0 ≤ at_
  rotate_left
  · have g3 : decide (at_ < 0) = true := by simpa using h0
    go_wp2_with fail
    refine (few_any A n c none 0 0 60 _).mono ?_; rw [HF.out]; rintro e w2 ⟨rfl, b2⟩
    go_wp2_with fail
    go_ret
    exact ⟨rfl, bel hb b2⟩
  have g3 : decide (at_ < 0) = false := by simpa using h0
  by_cases h1 : at_ < m
  rotate_left
  · have g4 : decide ((m : Int) ≤ at_) = true := by simpa using h1
    go_wp2_with fail
    refine (few_any A n c none 0 0 60 _).mono ?_; rw [HF.out]; rintro e w2 ⟨rfl, b2⟩
    go_wp2_with fail
    go_ret
    exact ⟨rfl, bel hb b2⟩
  have g4 : decide ((m : Int) ≤ at_) = false := by simpa using h1
  obtain ⟨i, rfl⟩ : ∃ j : Nat, at_ = j := ⟨at_.toNat, by omega⟩
  have hi : i < m := by omega
  have g5 : decide (m ≤ i) = false := by simp; omega
  go_wp2_with fail
  refine (few_any A n c none 0 0 60 _).mono ?_; rw [HF.out]; rintro e w2 ⟨rfl, b2⟩
  have hb := bel hb b2
  have hP := blk_below b2 hP
  clear b2 p0
  have p0 := blk_cell hP 0 _ rfl
  go_wp2_with fail
  refine (build_any A n c v B m d a _ (hv.below hb) (by omega) (ha.below hb) (by omega)).mono ?_
  rintro e w3 ⟨⟨A', n', c', B', m', d', rfl, hA, hL⟩, b3⟩
  have hb := bel hb b3
  have hP := blk_below b3 hP
  clear b3 p0
  have hb4 := hb.alloc (by have := hb.size; omega) (.cells #[.slice A' n' c'] 24)
  have hP4 := blk_alloc hP (.cells #[.slice A' n' c'] 24)
  have hQ4 : (w3.alloc (.cells #[.slice A' n' c'] 24)).heap[w3.heap.size]? = some (.cells #[.slice A' n' c'] 24 (0, 0)) := heap_alloc_new w3 _
  have b34 : Below w3.heap.size w3 (w3.alloc (.cells #[.slice A' n' c'] 24)) := (Below.refl _ _).alloc (Nat.le_refl _) _
  have hA4 := hA.below b34
  have hL4 := hL.below b34
  have p4 := blk_cell hP4 0 _ rfl
  clear hA hL hP hb
  go_wp2_with fail
  obtain ⟨w4, hw4⟩ : ∃ w4, w4 = w3.alloc (.cells #[.slice A' n' c'] 24) := ⟨_, rfl⟩
  rw [← hw4] at hb4 hP4 hQ4 b34 hA4 hL4 ⊢
  clear hw4 p4
  refine (build_any A n c v C m f b _ (hv.below hb4) (by omega) (hb'.below hb4) (by omega)).mono ?_
  rintro e w5 ⟨⟨A5, n5, c5, B5, m5, d5, rfl, hA5, hL5⟩, b5⟩
  have hb5 := bel hb4 b5
  have hQ5 := blk_below b5 hQ4
  have hA4 := hA4.below b5
  have hL4 := hL4.below b5
  clear b34 hP4
  have hb6 := hb5.alloc (by have := hb5.size; omega) (.cells #[.slice A5 n5 c5] 24)
  have hQ6 := blk_alloc hQ5 (.cells #[.slice A5 n5 c5] 24)
  have hR6 : (w5.alloc (.cells #[.slice A5 n5 c5] 24)).heap[w5.heap.size]? = some (.cells #[.slice A5 n5 c5] 24 (0, 0)) := heap_alloc_new w5 _
  have b56 : Below w5.heap.size w5 (w5.alloc (.cells #[.slice A5 n5 c5] 24)) := (Below.refl _ _).alloc (Nat.le_refl _) _
  have hA6 := hA4.below b56
  have hL6 := hL4.below b56
  have hU6 := hA5.below b56
  have hM6 := hL5.below b56
  clear hA4 hL4 hA5 hL5 hQ4 hQ5 hb4 b5
  go_wp2_with fail
  obtain ⟨w6, hw6⟩ : ∃ w6, w6 = w5.alloc (.cells #[.slice A5 n5 c5] 24) := ⟨_, rfl⟩
  rw [← hw6] at hb6 hQ6 hR6 b56 hA6 hL6 hU6 hM6 ⊢
  clear hw6 b56 hb5
  obtain ⟨ea, hea⟩ : ∃ er, er = (K.build v a).err := ⟨_, rfl⟩
  obtain ⟨eb, heb⟩ : ∃ er, er = (K.build v b).err := ⟨_, rfl⟩
  rw [← hea, ← heb]
  cases t1 : (ea == 0)
  · have t1n : (ea != 0) = true := by simp only [bne, t1]; rfl
    clear t1 hea heb
    go_quiet (fail)
    go_wp2_with fail
    go_ret
    exact ⟨rfl, below_drewN hb6 _⟩
  have za : ea = 0 := by simpa using t1
  subst za
  clear t1
  cases t2 : (eb == 0)
  · have t2n : (eb != 0) = true := by simp only [bne, t2]; rfl
    clear t2 hea heb
    go_quiet (fail)
    go_wp2_with fail
    go_ret
    exact ⟨rfl, below_drewN hb6 _⟩
  have zb : eb = 0 := by simpa using t2
  subst zb
  clear t2
  obtain ⟨adA, x, rfl, hx, x0, x1, x2⟩ := Lines.at_ (ha.below hb6) hi
  obtain ⟨adB, y, rfl, hy, y0, y1, y2⟩ := Lines.at_ (hb'.below hb6) hi
  have i0 : (0 : Int) ≤ (i : Int) := by omega
  have i1 : (i : Int) < (m : Int) := by omega
  cases s1 : (x.hh == y.hh)
  · clear hx hy hea heb
    go_quiet (fail)
    go_wp2_with fail
    go_ret
    exact ⟨rfl, below_drewN hb6 _⟩
  cases s2 : (x.cents == y.cents)
  · clear hx hy hea heb
    go_quiet (fail)
    go_wp2_with fail
    go_ret
    exact ⟨rfl, below_drewN hb6 _⟩
  cases s3 : (x.bl == y.bl)
  · clear hx hy hea heb
    go_quiet (fail)
    go_wp2_with fail
    go_ret
    exact ⟨rfl, below_drewN hb6 _⟩
  have hxy : y = x := by
    have h1 : x.hh = y.hh := by simpa using s1
    have h2 : x.cents = y.cents := by simpa using s2
    have h3 : x.bl = y.bl := by simpa using s3
    cases x; cases y; simp_all
  subst hxy
  clear s1 s2 s3
  have hll : a.length = b.length := by rw [← ha.1, ← hb'.1]
  obtain ⟨root, r1, r2, ta⟩ := K.build_ok hea.symm
  obtain ⟨root', r1', r2', tb⟩ := K.build_ok heb.symm
  obtain ⟨hsh, hrr⟩ := K.build_shape hll hea.symm heb.symm
  rw [r1, r1'] at hrr
  have hrr' : root = root' := by omega
  subst hrr'
  rw [r1, r1']
  rw [r2] at hL6
  rw [r2', ← K.idx_shape v.length hll] at hM6
  obtain ⟨V, hV⟩ : ∃ V, V = (K.build v a).items := ⟨_, rfl⟩
  obtain ⟨U, hU⟩ : ∃ V, V = (K.build v b).items := ⟨_, rfl⟩
  rw [← hV] at hA6 ta hsh
  rw [← hU] at hU6 tb hsh
  have hmm : m' = m := by rw [hL6.1, K.idx_len, ha.1]
  have hmm5 : m5 = m := by rw [hM6.1, K.idx_len, ha.1]
  subst hmm
  subst hmm5
  have hn' : n' ≤ 1000 := by have := ta.len; rw [← hA6.1, ← hv.1, ← ha.1] at this; omega
  have hn5 : n5 ≤ 1000 := by have := tb.len; rw [← hU6.1, ← hv.1, ← hb'.1] at this; omega
  have HH := Lib.hid (fun (h1 : K.cents a = K.cents b) (h2 : K.blinds a = K.blinds b) => K.hides ta tb hsh hx hy h1 h2)
  have HTA := Lib.hid ta
  have HTB := Lib.hid tb
  have HX := Lib.hid hx
  clear r1 r2 r1' r2' hV hU hx hy hea heb hrr ta tb hsh
  go_quiet (fail)
  go_wp2_with fail
  obtain ⟨w7, hw7⟩ : ∃ w7, w7 = w6.drewN nq := ⟨_, rfl⟩
  have b67 : Below w6.heap.size w6 w7 := by rw [hw7]; exact below_drewN (Below.refl _ _) _
  rw [← hw7]
  clear hw7 x0 x1 x2 y0 y1 y2
  have hb7 := bel hb6 b67
  have hQ7 := blk_below b67 hQ6
  have hR7 := blk_below b67 hR6
  have hA7 := hA6.below b67
  have hU7 := hU6.below b67
  have hL7 := hL6.below b67
  have hM7 := hM6.below b67
  clear hb6 b67 hQ6 hR6 hA6 hU6 hL6 hM6
  go_loopw [18, 19, 20] (fun vs vb vi wr => ∃ k : Nat, vs = .int .i64 (K.cents (a.take k) - K.cents (b.take k)) ∧ vb = .int .i64 (K.blinds (a.take k) - K.blinds (b.take k)) ∧ vi = .int .i64 k ∧ k ≤ m5 ∧ Below w7.heap.size w7 wr) (fun _ _ vi _ => m5 - (intOf vi).toNat)
  case atStart => exact ⟨0, rfl, rfl, rfl, by omega, Below.refl _ _⟩
  case round =>
    obtain ⟨k, rfl, rfl, rfl, hk, hbr⟩ := hrel
    have hb8 := bel hb7 hbr
    by_cases hlt : k < m5
    · obtain ⟨adA9, p, e9, hp, c0, c1, c2⟩ := Lines.at_ (ha.below hb8) hlt
      injection e9 with e9; subst e9
      obtain ⟨adB9, q, e9, hq, d0, d1, d2⟩ := Lines.at_ (hb'.below hb8) hlt
      injection e9 with e9; subst e9
      have hra : ∀ y ∈ a.take k, K.right y = true := fun y hy => HTA.out.right y (List.mem_of_mem_take hy)
      have hrb : ∀ y ∈ b.take k, K.right y = true := fun y hy => HTB.out.right y (List.mem_of_mem_take hy)
      have hca := K.cents_bound hra
      have hba := K.blinds_bound hra
      have hcb := K.cents_bound hrb
      have hbb := K.blinds_bound hrb
      have hla : (a.take k).length ≤ 64 := by rw [List.length_take, ← ha.1]; omega
      have hlb : (b.take k).length ≤ 64 := by rw [List.length_take, ← hb'.1]; omega
      have hpr := K.right_cents (HTA.out.right p (List.mem_of_getElem? hp))
      have hqr := K.right_cents (HTB.out.right q (List.mem_of_getElem? hq))
      obtain ⟨sk, hsk⟩ : ∃ s, s = K.cents (a.take k) - K.cents (b.take k) := ⟨_, rfl⟩
      obtain ⟨tk, htk⟩ : ∃ s, s = K.blinds (a.take k) - K.blinds (b.take k) := ⟨_, rfl⟩
      have HS := Lib.hid (show K.cents (a.take (k + 1)) - K.cents (b.take (k + 1)) = sk + p.cents - q.cents by rw [take_snoc hp, take_snoc hq, K.cents_snoc, K.cents_snoc, hsk]; omega)
      have HB := Lib.hid (show K.blinds (a.take (k + 1)) - K.blinds (b.take (k + 1)) = tk + p.bl - q.bl by rw [take_snoc hp, take_snoc hq, K.blinds_snoc, K.blinds_snoc, htk]; omega)
      have s0 : -(1125899906842624 * 64) ≤ sk := by omega
      have s1 : sk ≤ 1125899906842624 * 64 := by omega
      have t0 : -(1099511627776 * 64) ≤ tk := by omega
      have t1 : tk ≤ 1099511627776 * 64 := by omega
      rw [← hsk, ← htk]
      have f1 : IntKind.i64.wrap (sk + p.cents) = sk + p.cents := IntWalk.i64_in _ (by omega)
      have f2 : IntKind.i64.wrap (sk + p.cents - q.cents) = sk + p.cents - q.cents := IntWalk.i64_in _ (by omega)
      have f3 : IntKind.i64.wrap (tk + p.bl) = tk + p.bl := IntWalk.i64_in _ (by omega)
      have f4 : IntKind.i64.wrap (tk + p.bl - q.bl) = tk + p.bl - q.bl := IntWalk.i64_in _ (by omega)
      have k0 : (0 : Int) ≤ (k : Int) := by omega
      have k1 : (k : Int) < (m5 : Int) := by omega
      clear hra hrb hca hba hcb hbb hla hlb hsk htk hp hq
      go_wp2_with fail
      go_quiet (fail)
      go_wp2_with fail
      go_quiet (fail)
      go_wp2_with fail
      go_roundw
      case rel => exact ⟨k + 1, by rw [HS.out], by rw [HB.out], by go_num, by omega, below_drewN hbr _⟩
      case measure => simp [intOf]; omega
    have hkm : k = m5 := by omega
    subst hkm
    rw [show a.take k = a from List.take_of_length_le (by rw [← ha.1]; exact Nat.le_refl _), show b.take k = b from List.take_of_length_le (by rw [← hb'.1]; exact Nat.le_refl _)]
    have hQ8 := blk_below hbr hQ7
    have hR8 := blk_below hbr hR7
    have hA8 := hA7.below hbr
    have hU8 := hU7.below hbr
    have hL8 := hL7.below hbr
    have hM8 := hM7.below hbr
    obtain ⟨adL, li, rfl, hli, cl⟩ := hL8.at_ hi
    obtain ⟨adM, mi, rfl, hmi, cm⟩ := hM8.at_ hi
    rw [hli] at hmi
    injection hmi with hmi
    subst hmi
    have hlx : li = ((v.length + i : Nat) : Int) := by
      have h1 := K.idx_at v.length a (show i < a.length by rw [← ha.1]; exact hi)
      rw [hli] at h1
      injection h1
    obtain ⟨S, hS⟩ : ∃ s, s = K.cents a - K.cents b := ⟨_, rfl⟩
    obtain ⟨T, hT⟩ : ∃ s, s = K.blinds a - K.blinds b := ⟨_, rfl⟩
    rw [← hS, ← hT]
    clear hli hQ7 hR7 hA7 hU7 hL7 hM7 hbr hb7
    go_wp2_with fail
    go_quiet (fail)
    cases t1 : (S == 0)
    · have t1n : (S != 0) = true := by simp only [bne, t1]; rfl
      clear t1 hS hT hlx
      go_wp2_with fail
      go_ret
      exact ⟨rfl, below_drewN hb8 _⟩
    cases t2 : (T == 0)
    · have t1n : (S != 0) = false := by simp only [bne, t1]; rfl
      have t2n : (T != 0) = true := by simp only [bne, t2]; rfl
      clear t1 t2 hS hT hlx
      go_wp2_with fail
      go_ret
      exact ⟨rfl, below_drewN hb8 _⟩
    have t1n : (S != 0) = false := by simp only [bne, t1]; rfl
    have t2n : (T != 0) = false := by simp only [bne, t2]; rfl
    obtain ⟨hp1, hp2, hp3⟩ := HH.out (by have : S = 0 := by simpa using t1
                                         omega) (by have : T = 0 := by simpa using t2
                                                    omega)
    rw [← hlx] at hp1 hp2 hp3
    clear t1 t2 hS hT hlx
    go_wp2_with fail
    obtain ⟨w9, hw9⟩ : ∃ w9, w9 = wr.drewN nq := ⟨_, rfl⟩
    have b89 : Below wr.heap.size wr w9 := by rw [hw9]; exact below_drewN (Below.refl _ _) _
    rw [← hw9]
    clear hw9
    have hb9 := bel hb8 b89
    have hA9 := hA8.below b89
    have hU9 := hU8.below b89
    have q9 : w9.cell? ⟨w3.heap.size, 0, none⟩ = some (.slice A' n' c') := blk_cell (blk_below b89 hQ8) 0 _ rfl
    have r9 : w9.cell? ⟨w5.heap.size, 0, none⟩ = some (.slice A5 n5 c5) := blk_cell (blk_below b89 hR8) 0 _ rfl
    have l9 : w9.cell? (adL.add i) = some (.int .i64 li) := (b89.cell (cell_lt cl)).trans cl
    have S0 : VAt3 w9 w3.heap.size (.slice A' n' c') w5.heap.size (.slice A5 n5 c5) (adL.add i) (.int .i64 li) w9 := ⟨Below.refl _ _, q9, r9, l9⟩
    have hAx : ∀ w', VAt3 w9 w3.heap.size (.slice A' n' c') w5.heap.size (.slice A5 n5 c5) (adL.add i) (.int .i64 li) w' → Items w' A' n' V := fun w' h => hA9.below h.1
    clear q9 r9 l9 cl cm hA8 hU8 hL8 hM8 hQ8 hR8 b89
    go_region_held3 (fun w' => Below w9.heap.size w9 w' ∧ w'.cell? ⟨w3.heap.size, 0, none⟩ = some (.slice A' n' c') ∧ w'.cell? ⟨w5.heap.size, 0, none⟩ = some (.slice A5 n5 c5) ∧ w'.cell? (adL.add i) = some (.int .i64 li))
      (first | assumption | exact S0 | exact VAt3.drew (by assumption) | exact VAt3.next (by assumption) (by assumption))
      (first | (go_at_call 12; refine (path_any A' n' c' V root li _ (hAx _ ?_) (by omega)).mono ?_; assumption; rintro e w10 ⟨⟨Ap, mp, dp, rfl, hPt⟩, hbn⟩) | fail)
    have hH : VAt3 w9 w3.heap.size (.slice A' n' c') w5.heap.size (.slice A5 n5 c5) (adL.add i) (.int .i64 li) w10 := by assumption
    have hb10 := bel hb9 hH.1
    have hA10 := hA9.below hH.1
    have hU10 := hU9.below hH.1
    have S1 : VAt3 w10 w3.heap.size (.slice A' n' c') w5.heap.size (.slice A5 n5 c5) (adL.add i) (.int .i64 li) w10 := ⟨Below.refl _ _, hH.2⟩
    have hlen := K.path_len' V root li
    obtain ⟨PP, hPP⟩ : ∃ p, p = K.path V root li := ⟨_, rfl⟩
    rw [← hPP] at hPt hp1 hp2 hp3 hlen
    have hmp : mp ≤ 100000 := by have := hPt.1; have := hA10.1; omega
    have hm0 : 0 < mp := by rw [hPt.1]; exact List.length_pos_iff.2 hp2
    have q1' : decide ((0 : Int) < (mp : Int)) = true := by simp; omega
    have q2' : decide (0 < mp) = true := by simp; omega
    have hAy : ∀ w', VAt3 w10 w3.heap.size (.slice A' n' c') w5.heap.size (.slice A5 n5 c5) (adL.add i) (.int .i64 li) w' → Items w' A' n' V := fun w' h => hA10.below h.1
    have hUy : ∀ w', VAt3 w10 w3.heap.size (.slice A' n' c') w5.heap.size (.slice A5 n5 c5) (adL.add i) (.int .i64 li) w' → Items w' A5 n5 U := fun w' h => hU10.below h.1
    have hPy : ∀ w', VAt3 w10 w3.heap.size (.slice A' n' c') w5.heap.size (.slice A5 n5 c5) (adL.add i) (.int .i64 li) w' → Ints w' Ap mp PP := fun w' h => hPt.below h.1
    clear S0 hAx hH hbn hPP hp2 hlen hb9 hA9 hU9
    go_wp2_with fail
    go_region_held3 (fun w' => Below w10.heap.size w10 w' ∧ w'.cell? ⟨w3.heap.size, 0, none⟩ = some (.slice A' n' c') ∧ w'.cell? ⟨w5.heap.size, 0, none⟩ = some (.slice A5 n5 c5) ∧ w'.cell? (adL.add i) = some (.int .i64 li))
      (first | assumption | exact S1 | exact VAt3.drew (by assumption) | exact VAt3.next (by assumption) (by assumption))
      (first | (go_at_call_of 14 A'; refine (view_any A' n' c' V Ap mp dp PP _ (hAy _ ?_) (by omega) (hPy _ ?_) hmp).mono ?_; assumption; assumption; rintro e w11 ⟨⟨Av, nv, cv, rfl, hV1⟩, hbn1⟩; have hnv : nv ≤ 1000000 := by have h8 := hV1.1; have h7 := K.view_le V PP; have h6 := hPt.1; omega) | (go_at_call 14; refine (view_any A5 n5 c5 U Ap mp dp PP _ (hUy _ ?_) (by omega) (hPy _ ?_) hmp).mono ?_; assumption; assumption; rintro e w12 ⟨⟨Aw, nw, cw, rfl, hV2⟩, hbn2⟩; rw [← hp3] at hV2; have hV1b := hV1.below hbn2) | (go_at_call 15; refine (items_yes Av Aw nv nw cv cw (K.view V PP) _ hnv hV1b hV2).mono ?_; rintro e w13 ⟨rfl, hbn3⟩) | (go_at_call 12; refine (path_any A5 n5 c5 U root li _ (hUy _ ?_) (by omega)).mono ?_; assumption; rintro e w14 ⟨⟨Ar, nr, cr, rfl, hP2⟩, hbn4⟩; rw [← hp1] at hP2) | (go_at_call 16; refine (ints_yes Ap Ar mp nr dp cr PP _ (by omega) (hPy _ ?_) hP2).mono ?_; assumption; rintro e w15 ⟨rfl, hbn5⟩) | fail)
    have hF : VAt3 w10 w3.heap.size (.slice A' n' c') w5.heap.size (.slice A5 n5 c5) (adL.add i) (.int .i64 li) w15 := by assumption
    go_wp2_with fail
    go_ret
    exact ⟨rfl, bel hb10 hF.1⟩
end Go.Proofs.Ytijkaiilecpbcaa
