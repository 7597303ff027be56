/-
The walk of reach.
-/
import Derived.Test.YtijkaiilecpbcaaW8
import Derived.Test.YtijkaiilecpbcaaW5
namespace Go.Proofs.Ytijkaiilecpbcaa
open Go.RowKit
namespace K
def nearOf (bs : List Bool) (x : It) : Bool := !leafy x && (bs.getD x.lt.toNat false || bs.getD x.rt.toNat false)
def nearStep (l : List It) (bs : List Bool) (i : Nat) : List Bool := match l[i]? with
  | some x => bs.set i (nearOf bs x)
  | none => bs
def nearUp (l : List It) (leaf : Nat) : Nat → List Bool
  | 0 => (List.replicate l.length false).set leaf true
  | k + 1 => nearStep l (nearUp l leaf k) (leaf + 1 + k)
def near (l : List It) (leaf : Nat) : List Bool := nearUp l leaf (l.length - (leaf + 1))
end K

theorem K.near_len (l : List It) (leaf k : Nat) : (K.nearUp l leaf k).length = l.length := by
  induction k with
  | zero => simp [K.nearUp]
  | succ k ih =>
    simp only [K.nearUp, K.nearStep]
    split <;> simp [ih]

theorem K.near_next {l : List It} {leaf k : Nat} {x : It} (h : l[leaf + 1 + k]? = some x) : K.nearUp l leaf (k + 1) = (K.nearUp l leaf k).set (leaf + 1 + k) (K.nearOf (K.nearUp l leaf k) x) := by
  simp only [K.nearUp, K.nearStep, h]

theorem K.soundFrom_at {l : List It} : ∀ (r : List It) (i : Nat), K.soundFrom l i r = true → ∀ (k : Nat) (x : It), r[k]? = some x → K.okAt l (i + k) x = true := by
  intro r
  induction r with
  | nil => intro i _ k x h; simp at h
  | cons y r ih =>
    intro i h k x hx
    simp only [K.soundFrom, Bool.and_eq_true] at h
    cases k with
    | zero => simp at hx; subst hx; exact h.1
    | succ k =>
      have := ih (i + 1) h.2 k x (by simpa using hx)
      rwa [show i + 1 + k = i + (k + 1) by omega] at this

theorem K.sound_at {l : List It} (h : K.sound l = true) {k : Nat} {x : It} (hx : l[k]? = some x) : K.okAt l k x = true := by
  simp only [K.sound, Bool.and_eq_true] at h
  have := K.soundFrom_at l 0 h.1 k x hx
  rwa [Nat.zero_add] at this

theorem K.sound_parts {l : List It} (h : K.sound l = true) {k : Nat} {x : It} (hx : l[k]? = some x) (hlf : K.leafy x = false) : (0 ≤ x.lt ∧ x.lt < k) ∧ (0 ≤ x.rt ∧ x.rt < k) := by
  have := K.sound_at h hx
  simp only [K.okAt, hlf, Bool.and_eq_true, Bool.false_eq_true, if_false] at this
  exact ⟨K.has_iff.1 this.2.2.1, K.has_iff.1 this.2.2.2.1⟩

theorem rep_set (n i : Nat) : (Array.replicate n (Value.bool false)).setIfInBounds i (.bool true) = (((List.replicate n false).set i true).map Value.bool).toArray := by
  apply Array.ext'
  simp [List.map_set]

set_option maxRecDepth 100000 in
set_option maxHeartbeats 4000000 in
theorem reach_any (A : Option Addr) (n c : Nat) (l : List It) (leaf : Nat) (w : World) (hl : Items w A n l) (hn : n ≤ 1000000) (hso : K.sound l = true) (hlf : leaf < n) :
    Calls Try.prog 27 #[.agg #[.slice A n c], .int .i64 leaf] w fun e w' => ∃ g, e = .returned (.slice (some ⟨g, 0, none⟩) n n) ∧ w.heap.size ≤ g ∧ Bk w' g (K.near l leaf) ∧ Below w.heap.size w w' := by
  have hmk := make_bools n hn
  have b0 := (Below.refl w.heap.size w).alloc (Nat.le_refl _) (.cells #[.slice A n c] 24)
  have hP0 := vbox w A n c
  have sz := World.size_alloc w (.cells #[.slice A n c] 24)
  have HSO := Lib.hid hso
  clear hso
  go_enter Try.func27, Try.ntmps27
  have hB : Bk ((w.alloc (.cells #[.slice A n c] 24)).alloc (.cells ((List.replicate n false).map Value.bool).toArray 4)) (w.heap.size + 1) (List.replicate n false) := heap_alloc_at _ _ _ sz.symm
  have c0 := hB.at_ (i := leaf) (by simpa using hlf)
  have f0 := hB.free leaf
  have i0 : (0 : Int) ≤ (leaf : Int) := by omega
  have i1 : (leaf : Int) < (n : Int) := by omega
  go_wp2_with fail
  have hB1 : Bk ((w.alloc (.cells #[.slice A n c] 24)).alloc (.cells ((Array.replicate n (Value.bool false)).setIfInBounds leaf (.bool true)) 4)) (w.heap.size + 1) (K.nearUp l leaf 0) := by
    unfold Bk K.nearUp
    rw [heap_alloc_at _ _ _ sz.symm, ← hl.1, rep_set]
  have hP1 : ((w.alloc (.cells #[.slice A n c] 24)).alloc (.cells ((Array.replicate n (Value.bool false)).setIfInBounds leaf (.bool true)) 4)).heap[w.heap.size]? = some (.cells #[.slice A n c] 24 (0, 0)) := blk_alloc hP0 _
  have hb1 : Below w.heap.size w ((w.alloc (.cells #[.slice A n c] 24)).alloc (.cells ((Array.replicate n (Value.bool false)).setIfInBounds leaf (.bool true)) 4)) := b0.alloc b0.size _
  clear hB c0 f0 hP0 b0 hmk
  go_loopw [6] (fun vi wr => ∃ idx k : Nat, idx = leaf + 1 + k ∧ vi = .int .i64 idx ∧ idx ≤ n ∧ Bk wr (w.heap.size + 1) (K.nearUp l leaf k) ∧ wr.heap[w.heap.size]? = some (.cells #[.slice A n c] 24 (0, 0)) ∧ Below w.heap.size w wr) (fun vi _ => n - (intOf vi).toNat)
  case atStart => exact ⟨leaf + 1, 0, rfl, by go_num, by omega, hB1, hP1, hb1⟩
  case round =>
    obtain ⟨idx, k, hidx, rfl, hin, hB, hP, hb⟩ := hrel
    clear hB1 hP1 hb1
    have p0 : wr.cell? ⟨w.heap.size, 0, none⟩ = some (.slice A n c) := blk_cell hP 0 _ rfl
    by_cases hlt : idx < n
    · obtain ⟨ad, x, rfl, hx, c0, c1, c2, c3⟩ := Items.at_ (hl.below hb) hlt
      have HN := Lib.hid (K.near_next (k := k) (by rw [← hidx]; exact hx))
      have HX := Lib.hid hx
      have hlen : (K.nearUp l leaf k).length = n := by rw [K.near_len]; exact hl.1.symm
      have HIX := Lib.hid hidx
      have hX0 := (MapKept.heap_alloc wr (.cells #[.int .i64 x.val, .int .i64 x.bl, .int .i64 x.lt, .int .i64 x.rt] 37)).1
      have ba := (Below.refl wr.heap.size wr).alloc (Nat.le_refl _) (.cells #[.int .i64 x.val, .int .i64 x.bl, .int .i64 x.lt, .int .i64 x.rt] 37)
      clear hx hidx
      generalize hbs : K.nearUp l leaf k = bs at *
      have HBS := Lib.hid hbs
      clear hbs
      go_wp2_with fail
      refine (leaf_any x _).mono ?_
      rintro e w2 ⟨rfl, b2⟩
      have bw := bel ba b2
      have hX1 := blk_below b2 hX0
      have hB := hB.below bw
      have hP := blk_below bw hP
      have hb := bel hb bw
      clear ba b2 hX0 p0 c0 c1 c2 c3
      have z2 : w2.cell? ⟨wr.heap.size, 2, none⟩ = some (.int .i64 x.lt) := blk_cell hX1 2 _ rfl
      have z3 : w2.cell? ⟨wr.heap.size, 3, none⟩ = some (.int .i64 x.rt) := blk_cell hX1 3 _ rfl
      have p0 : w2.cell? ⟨w.heap.size, 0, none⟩ = some (.slice (some ad) n c) := blk_cell hP 0 _ rfl
      have y0 := hB.at_ (i := idx) (by omega)
      have fy := hB.free
      cases hlf : K.leafy x
      · obtain ⟨⟨l0, l1⟩, r0, r1⟩ := K.sound_parts HSO.out HX.out hlf
        obtain ⟨i, hi⟩ : ∃ i : Nat, x.lt = i := ⟨x.lt.toNat, by omega⟩
        obtain ⟨j, hj⟩ : ∃ j : Nat, x.rt = j := ⟨x.rt.toNat, by omega⟩
        have ci := hB.at_ (i := i) (by omega)
        have cj := hB.at_ (i := j) (by omega)
        have HV := Lib.hid (show K.nearOf bs x = (bs.getD i false || bs.getD j false) by simp [K.nearOf, hlf, hi, hj])
        have ii : i < n := by omega
        have jj : j < n := by omega
        generalize bs.getD i false = bi at *
        generalize bs.getD j false = bj at *
        cases bi
        all_goals
          go_wp2_with fail
          go_roundw
          case rel => exact ⟨idx + 1, k + 1, by rw [HIX.out]; omega, by go_num, by omega, by rw [HN.out, HV.out, ← HIX.out]; exact hB.set idx _, (Below.heap_setCell _ _ _ _ (by simp)).trans hP, hb.setCell (by simp) _⟩
          case measure => simp [intOf]; omega
      · have HV := Lib.hid (show K.nearOf bs x = false by simp [K.nearOf, hlf])
        go_wp2_with fail
        go_roundw
        case rel => exact ⟨idx + 1, k + 1, by rw [HIX.out]; omega, by go_num, by omega, by rw [HN.out, HV.out, ← HIX.out]; exact hB.set idx _, (Below.heap_setCell _ _ _ _ (by simp)).trans hP, hb.setCell (by simp) _⟩
        case measure => simp [intOf]; omega
    · have hend : K.near l leaf = K.nearUp l leaf k := by unfold K.near; rw [← hl.1, show n - (leaf + 1) = k by omega]
      rw [← hend] at hB
      clear hend
      go_wp2_with fail
      go_ret
      exact ⟨_, rfl, by omega, hB, hb⟩
end Go.Proofs.Ytijkaiilecpbcaa
