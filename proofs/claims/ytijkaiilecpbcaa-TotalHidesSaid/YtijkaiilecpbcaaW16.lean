/-
The walk of total.Build, where it refuses.
-/
import Derived.Test.YtijkaiilecpbcaaW15
namespace Go.Proofs.Ytijkaiilecpbcaa
open Go.RowKit

theorem results_cell_tmp3 {fn : Func} {p u v t : Tmp} {ty : TypeId} (h : fn.results = #[.cell p ty, .tmp u, .tmp v, .tmp t]) (tmps : Array Value) (P : Program) (w : World) :
    (results fn tmps).run P w =
      ((asAddr (tmps.getD p undef)).run P w).andThen fun a w₁ => ((loadVar ty a).run P w₁).andThen fun x w₂ => .ok (.tuple #[x, tmps.getD u undef, tmps.getD v undef, tmps.getD t undef]) w₂ := by
  simp only [results, h]
  simp [Sem.run_bind, Result.andThen]

/-- What Build hands back. -/
def BuiltAt (b : K.Built) (e : Ending) (w' : World) : Prop := ∃ A' n' c' B' m' d', e = .returned (.tuple #[.agg #[.slice A' n' c'], .int .i64 b.root, .slice B' m' d', .int .i64 b.err]) ∧ Items w' A' n' b.items ∧ Ints w' B' m' b.leaves

theorem built_no {b : K.Built} {x : Int} (h : b = ⟨[], -1, [], x⟩) (w' : World) : BuiltAt b (.returned (.tuple #[.agg #[.slice none 0 0], .int .i64 (-1), .slice none 0 0, .int .i64 x])) w' := by
  subst h
  exact ⟨_, _, _, _, _, _, rfl, items_nil _, ints_nil _⟩

set_option maxRecDepth 100000 in
set_option maxHeartbeats 8000000 in
theorem build_no (A : Option Addr) (n c : Nat) (v : List It) (B : Option Addr) (m d : Nat) (l : List Ln) (w : World) (hv : Items w A n v) (hn : n ≤ 100000) (hl : Lines w B m l) (hm : m ≤ 100000)
    (h : (!K.sound v || l.isEmpty || l.any fun x => !K.right x) = true ∨ (64 < m ∨ 1001 < n + 2 * m)) :
    Calls Try.prog 9 #[.agg #[.slice A n c], .slice B m d] w fun e w' => BuiltAt (K.build v l) e w' ∧ Below w.heap.size w w' := by
  have b0 := ((Below.refl w.heap.size w).alloc (Nat.le_refl _) (.cells #[.slice A n c] 24)).alloc (by simp) (.cells #[.slice none 0 0] 24)
  have hP0 := blk_alloc (vbox w A n c) (.cells #[.slice none 0 0] 24)
  have sz := World.size_alloc w (.cells #[.slice A n c] 24)
  have hO0 : ((w.alloc (.cells #[.slice A n c] 24)).alloc (.cells #[.slice none 0 0] 24)).heap[w.heap.size + 1]? = some (.cells #[.slice none 0 0] 24 (0, 0)) := heap_alloc_at _ _ _ sz.symm
  cases h1 : K.sound v
  · have HX := Lib.hid (show K.build v l = ⟨[], -1, [], 1⟩ by unfold K.build; rw [h1]; rfl)
    have H1 := Lib.hid h1
    clear h h1
    go_enter Try.func9, Try.ntmps9
    go_wp2_with fail
    refine (sound_any A n c v _ (hv.below b0) (by omega)).mono ?_; rw [H1.out]; rintro e w1 ⟨rfl, b1⟩
    have hO9 := blk_below b1 hO0
    have o0 : w1.cell? ⟨w.heap.size + 1, 0, none⟩ = some (.slice none 0 0) := blk_cell hO9 0 _ rfl
    have of : w1.frozen? ⟨w.heap.size + 1, 0, none⟩ = false := by simp [World.frozen?, hO9]
    go_wp2_with fail
    refine bodyPost_ret_by (v := .tuple #[.agg #[.slice none 0 0], .int .i64 (-1), .slice none 0 0, .int .i64 1]) ?_ rfl ?_
    · have z : (w1.setCell ⟨w.heap.size + 1, 0, none⟩ (.slice none 0 0)).cell? ⟨w.heap.size + 1, 0, none⟩ = some (.slice none 0 0) := blk_cell (blk_set hO9 0 _) 0 _ rfl
      rw [results_cell_tmp3 rfl]
      simp [go_sem, z]
    · exact ⟨built_no HX.out _, (bel b0 b1).setCell (by simp) _⟩
  have H1 := Lib.hid h1
  by_cases hm0 : m = 0
  · have HX := Lib.hid (show K.build v l = ⟨[], -1, [], 1⟩ by
      have : l = [] := List.length_eq_zero_iff.1 (by rw [← hl.1]; exact hm0)
      subst this; unfold K.build; rw [h1]; rfl)
    have e0 : ((m : Int) == 0) = true := by simp [hm0]
    clear h h1 hm0
    go_enter Try.func9, Try.ntmps9
    go_wp2_with fail
    refine (sound_any A n c v _ (hv.below b0) (by omega)).mono ?_; rw [H1.out]; rintro e w1 ⟨rfl, b1⟩
    have hO9 := blk_below b1 hO0
    have o0 : w1.cell? ⟨w.heap.size + 1, 0, none⟩ = some (.slice none 0 0) := blk_cell hO9 0 _ rfl
    have of : w1.frozen? ⟨w.heap.size + 1, 0, none⟩ = false := by simp [World.frozen?, hO9]
    go_wp2_with fail
    refine bodyPost_ret_by (v := .tuple #[.agg #[.slice none 0 0], .int .i64 (-1), .slice none 0 0, .int .i64 1]) ?_ rfl ?_
    · have z : (w1.setCell ⟨w.heap.size + 1, 0, none⟩ (.slice none 0 0)).cell? ⟨w.heap.size + 1, 0, none⟩ = some (.slice none 0 0) := blk_cell (blk_set hO9 0 _) 0 _ rfl
      rw [results_cell_tmp3 rfl]
      simp [go_sem, z]
    · exact ⟨built_no HX.out _, (bel b0 b1).setCell (by simp) _⟩
  have e0 : ((m : Int) == 0) = false := by simp; omega
  have hne : l.isEmpty = false := by
    cases l with
    | nil => exact absurd hl.1 hm0
    | cons a l => rfl
  cases h2 : (l.any fun x => !K.right x)
  rotate_left
  · have HX := Lib.hid (show K.build v l = ⟨[], -1, [], 1⟩ by unfold K.build; rw [h2]; simp)
    have H2 := Lib.hid h2
    clear h h1 h2 hm0 hne
    go_enter Try.func9, Try.ntmps9
    go_wp2_with fail
    refine (sound_any A n c v _ (hv.below b0) (by omega)).mono ?_; rw [H1.out]; rintro e w1 ⟨rfl, b1⟩
    go_wp2_with fail
    refine (contains_any B m d l _ ((hl.below b0).below b1) (by omega)).mono ?_; rw [H2.out]; rintro e w2 ⟨rfl, b2⟩
    have b3 := b1.trans (b2.mono b1.size)
    have hO9 := blk_below b3 hO0
    have o0 : w2.cell? ⟨w.heap.size + 1, 0, none⟩ = some (.slice none 0 0) := blk_cell hO9 0 _ rfl
    have of : w2.frozen? ⟨w.heap.size + 1, 0, none⟩ = false := by simp [World.frozen?, hO9]
    go_wp2_with fail
    refine bodyPost_ret_by (v := .tuple #[.agg #[.slice none 0 0], .int .i64 (-1), .slice none 0 0, .int .i64 1]) ?_ rfl ?_
    · have z : (w2.setCell ⟨w.heap.size + 1, 0, none⟩ (.slice none 0 0)).cell? ⟨w.heap.size + 1, 0, none⟩ = some (.slice none 0 0) := blk_cell (blk_set hO9 0 _) 0 _ rfl
      rw [results_cell_tmp3 rfl]
      simp [go_sem, z]
    · exact ⟨built_no HX.out _, (bel b0 b3).setCell (by simp) _⟩
  have h3 : 64 < m ∨ 1001 < n + 2 * m := by
    rcases h with h | h
    · rw [h1, h2, hne] at h; simp at h
    · exact h
  have H2 := Lib.hid h2
  have HX := Lib.hid (show K.build v l = ⟨[], -1, [], 6⟩ by
    unfold K.build
    rw [h1, h2, hne, if_neg (by simp), if_pos (by rw [← hl.1, ← hv.1]; exact h3)])
  have hP9 := hP0
  clear h h1 h2 hm0 hne
  by_cases h64 : 64 < m
  · go_enter Try.func9, Try.ntmps9
    go_wp2_with fail
    refine (sound_any A n c v _ (hv.below b0) (by omega)).mono ?_; rw [H1.out]; rintro e w1 ⟨rfl, b1⟩
    go_wp2_with fail
    refine (contains_any B m d l _ ((hl.below b0).below b1) (by omega)).mono ?_; rw [H2.out]; rintro e w2 ⟨rfl, b2⟩
    have b3 := b1.trans (b2.mono b1.size)
    have hO9 := blk_below b3 hO0
    have o0 : w2.cell? ⟨w.heap.size + 1, 0, none⟩ = some (.slice none 0 0) := blk_cell hO9 0 _ rfl
    have of : w2.frozen? ⟨w.heap.size + 1, 0, none⟩ = false := by simp [World.frozen?, hO9]
    go_wp2_with fail
    refine bodyPost_ret_by (v := .tuple #[.agg #[.slice none 0 0], .int .i64 (-1), .slice none 0 0, .int .i64 6]) ?_ rfl ?_
    · have z : (w2.setCell ⟨w.heap.size + 1, 0, none⟩ (.slice none 0 0)).cell? ⟨w.heap.size + 1, 0, none⟩ = some (.slice none 0 0) := blk_cell (blk_set hO9 0 _) 0 _ rfl
      rw [results_cell_tmp3 rfl]
      simp [go_sem, z]
    · exact ⟨built_no HX.out _, (bel b0 b3).setCell (by simp) _⟩
  · have hbig : decide ((1000 : Int) < (n : Int) + 2 * (m : Int) - 1) = true := by simp; omega
    go_enter Try.func9, Try.ntmps9
    go_wp2_with fail
    refine (sound_any A n c v _ (hv.below b0) (by omega)).mono ?_; rw [H1.out]; rintro e w1 ⟨rfl, b1⟩
    go_wp2_with fail
    refine (contains_any B m d l _ ((hl.below b0).below b1) (by omega)).mono ?_; rw [H2.out]; rintro e w2 ⟨rfl, b2⟩
    have b3 := b1.trans (b2.mono b1.size)
    have p0 : w2.cell? ⟨w.heap.size, 0, none⟩ = some (.slice A n c) := blk_cell (blk_below b3 hP9) 0 _ rfl
    have hO9 := blk_below b3 hO0
    have o0 : w2.cell? ⟨w.heap.size + 1, 0, none⟩ = some (.slice none 0 0) := blk_cell hO9 0 _ rfl
    have of : w2.frozen? ⟨w.heap.size + 1, 0, none⟩ = false := by simp [World.frozen?, hO9]
    go_wp2_with fail
    refine bodyPost_ret_by (v := .tuple #[.agg #[.slice none 0 0], .int .i64 (-1), .slice none 0 0, .int .i64 6]) ?_ rfl ?_
    · have z : (w2.setCell ⟨w.heap.size + 1, 0, none⟩ (.slice none 0 0)).cell? ⟨w.heap.size + 1, 0, none⟩ = some (.slice none 0 0) := blk_cell (blk_set hO9 0 _) 0 _ rfl
      rw [results_cell_tmp3 rfl]
      simp [go_sem, z]
    · exact ⟨built_no HX.out _, (bel b0 b3).setCell (by simp) _⟩
end Go.Proofs.Ytijkaiilecpbcaa
