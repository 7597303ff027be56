/-
The walk of total.View.
-/
import Derived.Test.YtijkaiilecpbcaaW11
import Derived.Test.YtijkaiilecpbcaaW7
namespace Go.Proofs.Ytijkaiilecpbcaa
open Go.RowKit
namespace K
def veil (m i : Nat) (x : It) : It := if 0 < i ∧ i + 1 < m then ⟨-1, -1, x.lt, x.rt⟩ else x
def viewAt (l : List It) (m i : Nat) (a : Int) : It := match l[a.toNat]? with
  | some x => veil m i x
  | none => ⟨0, 0, 0, 0⟩
def viewFrom (l : List It) (m : Nat) : Nat → List Int → List It
  | _, [] => []
  | i, a :: r => viewAt l m i a :: viewFrom l m (i + 1) r
def view (l : List It) (p : List Int) : List It := if walks l p then viewFrom l p.length 0 p else []
def zeroIt : It := ⟨0, 0, 0, 0⟩
end K

theorem K.view_snoc (l : List It) (m : Nat) (a : Int) : ∀ (p : List Int) (i : Nat), K.viewFrom l m i (p ++ [a]) = K.viewFrom l m i p ++ [K.viewAt l m (i + p.length) a] := by
  intro p
  induction p with
  | nil => intro i; simp [K.viewFrom]
  | cons y p ih =>
    intro i
    simp only [List.cons_append, K.viewFrom, ih, List.length_cons]
    rw [show i + 1 + p.length = i + (p.length + 1) by omega]

theorem K.view_len (l : List It) (m : Nat) : ∀ (p : List Int) (i : Nat), (K.viewFrom l m i p).length = p.length := by
  intro p
  induction p with
  | nil => intro i; rfl
  | cons y p ih => intro i; simp [K.viewFrom, ih]

/-- The block g is a row of items. -/
def Bi (w : World) (g : Nat) (L : List It) : Prop := w.heap[g]? = some (.cells (itemCells L).toArray 37 (0, 0))
theorem Bi.below {w w' : World} {g : Nat} {L : List It} (h : Bi w g L) (hb : Below w.heap.size w w') : Bi w' g L := blk_below hb h
theorem Bi.free {w : World} {g : Nat} {L : List It} (h : Bi w g L) (i : Nat) : w.frozen? ⟨g, i, none⟩ = false := by
  unfold Bi at h
  simp [World.frozen?, h]
theorem Bi.items {w : World} {g : Nat} {L : List It} (h : Bi w g L) : Items w (some ⟨g, 0, none⟩) L.length L :=
  ⟨rfl, Rd.of_block h 4 L.length (by simpa using flat_len It.cells 4 (fun _ => rfl) L)⟩
theorem Bi.at_ {w : World} {g : Nat} {L : List It} (h : Bi w g L) {k : Nat} {x : It} (hx : L[k]? = some x) (j : Nat) (hj : j < 4) (u : Value) (hu : x.cells[j]? = some u) : w.cell? ⟨g, k * 4 + j, none⟩ = some u := by
  refine blk_cell h _ _ ?_
  have := flat_get It.cells 4 (fun _ => rfl) L k x hx j hj
  rw [hu] at this
  simpa using this

theorem zero_cells (n : Nat) : itemCells (List.replicate n K.zeroIt) = List.replicate (n * 4) (Value.int .i64 0) := by
  induction n with
  | zero => rfl
  | succ n ih =>
    rw [List.replicate_succ, itemCells, List.flatMap_cons, ← itemCells, ih, show (n + 1) * 4 = n * 4 + 1 + 1 + 1 + 1 by omega]
    rfl

theorem made_items (n : Nat) : madeCells #[Value.int .i64 0, .int .i64 0, .int .i64 0, .int .i64 0] (n * 4) = (itemCells (List.replicate n K.zeroIt)).toArray := by
  rw [zero_cells]
  refine Array.ext (by simp [madeCells]) fun i h1 h2 => ?_
  simp only [madeCells, Array.getElem_map, Array.getElem_range, List.getElem_toArray, List.getElem_replicate]
  have : i % 4 < 4 := Nat.mod_lt _ (by omega)
  show (#[Value.int .i64 0, .int .i64 0, .int .i64 0, .int .i64 0] : Array Value)[i % 4]! = _
  generalize i % 4 = r at this
  rcases r with _ | _ | _ | _ | r <;> first | rfl | omega

theorem make_items (n : Nat) (hn : n ≤ 1000000) (w : World) : (Instr.makeSlice 22 (.int .i64 n) (.int .i64 n)).run Try.prog w = .ok (.slice (some ⟨w.heap.size, 0, none⟩) n n) (w.alloc (.cells (itemCells (List.replicate n K.zeroIt)).toArray 37)) := by
  obtain ⟨i0, hi, hz0, hz1, hz2⟩ := info_parts Try.info37
  have h := run_make (P := Try.prog) w 22 37 i0 _ Try.underlying22 hi hz0 .i64 .i64 n n (by omega) (Int.le_refl _) (by rw [hz2]; omega) (by omega)
  rw [hz1, Int.toNat_natCast] at h
  rw [← made_items]
  exact h

theorem blk_set {w : World} {g : Nat} {cs : Array Value} {t : TypeId} (h : w.heap[g]? = some (.cells cs t (0, 0))) (i : Nat) (v : Value) : (w.setCell ⟨g, i, none⟩ v).heap[g]? = some (.cells (cs.setIfInBounds i v) t (0, 0)) := by
  have hlt := lt_of_block h
  have h' : w.heap[g] = .cells cs t (0, 0) := by simpa [Array.getElem?_eq_getElem hlt] using h
  show (w.heap.modify g _)[g]? = _
  rw [Array.getElem?_eq_getElem (by simpa using hlt), Array.getElem_modify_self, h']
  rfl

theorem cells_put (x : It) : ∀ (L : List It) (k : Nat), k < L.length → ((((itemCells L).set (k * 4) (.int .i64 x.val)).set (k * 4 + 1) (.int .i64 x.bl)).set (k * 4 + 2) (.int .i64 x.lt)).set (k * 4 + 3) (.int .i64 x.rt) = itemCells (L.set k x) := by
  intro L
  induction L with
  | nil => intro k hk; simp at hk
  | cons y L ih =>
    intro k hk
    cases k with
    | zero => simp [itemCells, It.cells]
    | succ k =>
      have h := ih k (by simpa using hk)
      rw [show (k + 1) * 4 = k * 4 + 1 + 1 + 1 + 1 by omega]
      simp only [itemCells, List.flatMap_cons, It.cells, List.cons_append, List.nil_append, List.set_cons_succ] at h ⊢
      rw [h]

theorem cells_veil (a b : Int) : ∀ (L : List It) (k : Nat) (x : It), L[k]? = some x → ((itemCells L).set (k * 4) (.int .i64 a)).set (k * 4 + 1) (.int .i64 b) = itemCells (L.set k ⟨a, b, x.lt, x.rt⟩) := by
  intro L
  induction L with
  | nil => intro k x hk; simp at hk
  | cons y L ih =>
    intro k x hk
    cases k with
    | zero => simp at hk; subst hk; simp [itemCells, It.cells]
    | succ k =>
      have h := ih k x (by simpa using hk)
      rw [show (k + 1) * 4 = k * 4 + 1 + 1 + 1 + 1 by omega]
      simp only [itemCells, List.flatMap_cons, It.cells, List.cons_append, List.nil_append, List.set_cons_succ] at h ⊢
      rw [h]

theorem Bi.put {w : World} {g : Nat} {L : List It} (h : Bi w g L) {k : Nat} (hk : k < L.length) (x : It) :
    Bi ((((w.setCell ⟨g, k * 4, none⟩ (.int .i64 x.val)).setCell ⟨g, k * 4 + 1, none⟩ (.int .i64 x.bl)).setCell ⟨g, k * 4 + 2, none⟩ (.int .i64 x.lt)).setCell ⟨g, k * 4 + 3, none⟩ (.int .i64 x.rt)) g (L.set k x) := by
  unfold Bi
  rw [blk_set (blk_set (blk_set (blk_set h _ _) _ _) _ _) _ _, ← cells_put x L k hk]
  simp
theorem Bi.veil {w : World} {g : Nat} {L : List It} (h : Bi w g L) {k : Nat} {x : It} (hk : L[k]? = some x) (a b : Int) :
    Bi ((w.setCell ⟨g, k * 4, none⟩ (.int .i64 a)).setCell ⟨g, k * 4 + 1, none⟩ (.int .i64 b)) g (L.set k ⟨a, b, x.lt, x.rt⟩) := by
  unfold Bi
  rw [blk_set (blk_set h _ _) _ _, ← cells_veil a b L k x hk]
  simp

theorem fill_next {α : Type} (A : List α) (r : Nat) (z y : α) (k : Nat) (hk : k = A.length) (hr : 0 < r) : (A ++ List.replicate r z).set k y = (A ++ [y]) ++ List.replicate (r - 1) z := by
  subst hk
  obtain ⟨r', rfl⟩ : ∃ r', r = r' + 1 := ⟨r - 1, by omega⟩
  rw [List.set_append_right _ _ (Nat.le_refl _), Nat.sub_self, List.replicate_succ, List.set_cons_zero, Nat.add_sub_cancel]
  simp

set_option maxRecDepth 100000 in
set_option maxHeartbeats 8000000 in
theorem view_any (A : Option Addr) (n c : Nat) (l : List It) (B : Option Addr) (m d : Nat) (p : List Int) (w : World) (hl : Items w A n l) (hn : n ≤ 100000) (hp : Ints w B m p) (hm : m ≤ 100000) :
    Calls Try.prog 14 #[.agg #[.slice A n c], .slice B m d] w fun e w' => (∃ A' n' c', e = .returned (.slice A' n' c') ∧ Items w' A' n' (K.view l p)) ∧ Below w.heap.size w w' := by
  have b0 := (Below.refl w.heap.size w).alloc (Nat.le_refl _) (.cells #[.slice A n c] 24)
  have hP0 := vbox w A n c
  have hmk := make_items m (by omega)
  cases h1 : K.walks l p
  · have HX := Lib.hid (show K.view l p = [] by simp [K.view, h1])
    have H1 := Lib.hid h1
    clear h1
    go_enter Try.func14, Try.ntmps14
    go_wp2_with fail
    refine (walks_any A n c l B m d p _ (hl.below b0) (by omega) (hp.below b0) (by omega)).mono ?_; rw [H1.out]; rintro e w1 ⟨rfl, b1⟩
    go_wp2_with fail
    go_ret
    exact ⟨⟨_, _, _, rfl, by rw [HX.out]; exact items_nil _⟩, bel b0 b1⟩
  have H1 := Lib.hid h1
  have HV := Lib.hid (show K.view l p = K.viewFrom l m 0 p by simp [K.view, h1, ← hp.1])
  have HM := Lib.hid (K.walk_mem p none (K.walks_parts h1).2.2)
  clear h1
  go_enter Try.func14, Try.ntmps14
  go_wp2_with fail
  refine (walks_any A n c l B m d p _ (hl.below b0) (by omega) (hp.below b0) (by omega)).mono ?_; rw [H1.out]; rintro e w1 ⟨rfl, b1⟩
  have hP1 := blk_below b1 hP0
  have hb := bel b0 b1
  clear b0 b1 hP0
  go_wp2_with fail
  go_loopw [17] (fun vi wr => ∃ k : Nat, vi = .int .i64 k ∧ k ≤ m ∧ Bi wr w1.heap.size (K.viewFrom l m 0 (p.take k) ++ List.replicate (m - k) K.zeroIt) ∧ Below w1.heap.size w1 wr) (fun vi _ => m - (intOf vi).toNat)
  case atStart => exact ⟨0, rfl, by omega, (MapKept.heap_alloc w1 _).1, (Below.refl _ _).alloc (Nat.le_refl _) _⟩
  case round =>
    obtain ⟨k, rfl, hk, hB, hbr⟩ := hrel
    have hbw := bel hb hbr
    have hP := blk_below hbr hP1
    have p0 : wr.cell? ⟨w.heap.size, 0, none⟩ = some (.slice A n c) := blk_cell hP 0 _ rfl
    by_cases hlt : k < m
    · obtain ⟨adp, a, rfl, ha, ca⟩ := (hp.below hbw).at_ hlt
      have hha := HM.out a (List.mem_of_getElem? ha)
      rw [← hl.1] at hha
      obtain ⟨a0, a1⟩ := K.has_iff.1 hha
      obtain ⟨i, rfl⟩ : ∃ i : Nat, a = i := ⟨a.toNat, by omega⟩
      have hin : i < n := by omega
      obtain ⟨ad, x, rfl, hx, c0, c1, c2, c3⟩ := Items.at_ (hl.below hbw) hin
      have HA := Lib.hid ha
      have HX := Lib.hid hx
      have hLk : (K.viewFrom l m 0 (p.take k) ++ List.replicate (m - k) K.zeroIt)[k]? = some K.zeroIt := by
        rw [List.getElem?_append_right (by rw [K.view_len, List.length_take]; omega), K.view_len, List.length_take, ← hp.1, Nat.min_eq_left hk, Nat.sub_self]
        exact List.getElem?_replicate_of_lt (by omega)
      have o0 : wr.cell? ⟨w1.heap.size, k * 4, none⟩ = some (.int .i64 0) := hB.at_ hLk 0 (by omega) _ rfl
      have o1 := hB.at_ hLk 1 (by omega) _ rfl
      have o2 := hB.at_ hLk 2 (by omega) _ rfl
      have o3 := hB.at_ hLk 3 (by omega) _ rfl
      have fr := hB.free
      have hkL : k < (K.viewFrom l m 0 (p.take k) ++ List.replicate (m - k) K.zeroIt).length := (List.getElem?_eq_some_iff.1 hLk).1
      have EQ := Lib.hid (show K.viewFrom l m 0 (p.take (k + 1)) ++ List.replicate (m - (k + 1)) K.zeroIt = (K.viewFrom l m 0 (p.take k) ++ List.replicate (m - k) K.zeroIt).set k (K.veil m k x) by
        have hlen : k = (K.viewFrom l m 0 (p.take k)).length := by rw [K.view_len, List.length_take, ← hp.1]; omega
        rw [fill_next _ _ _ _ _ hlen (by omega), take_snoc ha, K.view_snoc, show m - k - 1 = m - (k + 1) by omega, List.length_take, ← hp.1, Nat.min_eq_left hk, Nat.zero_add]
        congr 2
        simp only [K.viewAt, Int.toNat_natCast, hx])
      have hk1 : w1.heap.size ≤ w1.heap.size := Nat.le_refl _
      clear ha hx hha
      by_cases hk0 : 0 < k ∧ k + 1 < m
      · obtain ⟨g1, g2⟩ := hk0
        have h8 : decide (0 < k) = true := by simpa using g1
        have h9 : decide ((k : Int) < (m : Int) - 1) = true := by simp; omega
        have HVE := Lib.hid (show K.veil m k x = ⟨-1, -1, x.lt, x.rt⟩ by unfold K.veil; rw [if_pos ⟨g1, g2⟩])
        go_wp2_with fail
        go_roundw
        case rel =>
          refine ⟨k + 1, by go_num, by omega, ?_, ?_⟩
          · rw [EQ.out, HVE.out]
            have hb1 := hB.put hkL x
            have hb2 := hb1.veil (k := k) (x := x) (by rw [List.getElem?_set_self hkL]) (-1) (-1)
            rw [List.set_set] at hb2
            exact hb2
          · exact (((((hbr.setCell (Nat.le_refl _) _).setCell (Nat.le_refl _) _).setCell (Nat.le_refl _) _).setCell (Nat.le_refl _) _).setCell (Nat.le_refl _) _).setCell (Nat.le_refl _) _
        case measure => simp [intOf]; omega
      · have HVE := Lib.hid (show K.veil m k x = x by unfold K.veil; rw [if_neg hk0])
        by_cases h0 : 0 < k
        · have h8 : decide (0 < k) = true := by simpa using h0
          have h9 : decide ((k : Int) < (m : Int) - 1) = false := by simp; omega
          clear hk0 h0
          go_wp2_with fail
          go_roundw
          case rel =>
            refine ⟨k + 1, by go_num, by omega, ?_, ?_⟩
            · rw [EQ.out, HVE.out]
              exact hB.put hkL x
            · exact (((hbr.setCell (Nat.le_refl _) _).setCell (Nat.le_refl _) _).setCell (Nat.le_refl _) _).setCell (Nat.le_refl _) _
          case measure => simp [intOf]; omega
        · have h8 : decide (0 < k) = false := by simpa using h0
          clear hk0 h0
          go_wp2_with fail
          go_roundw
          case rel =>
            refine ⟨k + 1, by go_num, by omega, ?_, ?_⟩
            · rw [EQ.out, HVE.out]
              exact hB.put hkL x
            · exact (((hbr.setCell (Nat.le_refl _) _).setCell (Nat.le_refl _) _).setCell (Nat.le_refl _) _).setCell (Nat.le_refl _) _
          case measure => simp [intOf]; omega
    · have hkm : k = m := by omega
      subst hkm
      rw [Nat.sub_self, List.replicate_zero, List.append_nil, List.take_of_length_le (by rw [← hp.1]; exact Nat.le_refl _)] at hB
      have hI := hB.items
      rw [K.view_len, ← hp.1] at hI
      go_wp2_with fail
      go_ret
      exact ⟨⟨_, _, _, rfl, by rw [HV.out]; exact hI⟩, hbw⟩
end Go.Proofs.Ytijkaiilecpbcaa
