/-
What fits, what it weighs: as functions; a shift in a block.
-/
import Derived.Test.YtdbllcphopecjaaT14
namespace Go.Proofs.Ytdbllcphopecjaa
open Go.RowKit
namespace T
def fitFrom (rooms : List Int) : Nat → List Int → Bool
  | _, [] => true
  | i, x :: l => decide (x ≤ (rooms[i]?).getD 0) && fitFrom rooms (i + 1) l
def fits (s : S) (r : List Q) (l : List Int) : Bool := load s r l && fitFrom s.l 0 (loads r l)
def sum : List Int → Int
  | [] => 0
  | x :: l => x + sum l
def weight (s : S) (r : List Q) (l : List Int) : Int := if load s r l then s.tare + sum (loads r l) else -1
end T

theorem T.fit_drop {rooms l : List Int} {k : Nat} {x : Int} (h : l[k]? = some x) : T.fitFrom rooms k (l.drop k) = (decide (x ≤ (rooms[k]?).getD 0) && T.fitFrom rooms (k + 1) (l.drop (k + 1))) := by
  obtain ⟨hk, e⟩ := List.getElem?_eq_some_iff.1 h
  rw [List.drop_eq_getElem_cons hk, e]
  rfl

theorem T.sum_next {l : List Int} {k : Nat} {x : Int} (h : l[k]? = some x) : T.sum (l.take (k + 1)) = T.sum (l.take k) + x := by
  obtain ⟨hk, e⟩ := List.getElem?_eq_some_iff.1 h
  rw [List.take_succ_eq_append_getElem hk, e]
  have : ∀ (a : List Int) (y : Int), T.sum (a ++ [y]) = T.sum a + y := by
    intro a y
    induction a with
    | nil => simp [T.sum]
    | cons z a ih => simp [T.sum, ih]; omega
  exact this _ _

/-- The block b holds this shift. -/
def Shf (w : World) (b : Nat) (s : S) : Prop := w.heap[b]? = some (.cells #[.int .i64 s.day, .int .i64 s.depot, .int .i64 s.start, .int .i64 s.end_, .int .i64 s.tare, .slice s.A s.n s.c] 24 (0, 0))
theorem Shf.new (w : World) (s : S) : Shf (w.alloc (.cells #[.int .i64 s.day, .int .i64 s.depot, .int .i64 s.start, .int .i64 s.end_, .int .i64 s.tare, .slice s.A s.n s.c] 24)) w.heap.size s := (MapKept.heap_alloc w _).1
theorem Shf.below {w w' : World} {b : Nat} {s : S} (h : Shf w b s) (hb : Below w.heap.size w w') : Shf w' b s := blk_below hb h
theorem Shf.c4 {w : World} {b : Nat} {s : S} (h : Shf w b s) : w.cell? ⟨b, 4, none⟩ = some (.int .i64 s.tare) := blk_cell h 4 _ rfl
theorem Shf.c5 {w : World} {b : Nat} {s : S} (h : Shf w b s) : w.cell? ⟨b, 5, none⟩ = some (.slice s.A s.n s.c) := blk_cell h 5 _ rfl
theorem Shf.free {w : World} {b : Nat} {s : S} (h : Shf w b s) (i : Nat) : w.frozen? ⟨b, i, none⟩ = false := by
  unfold Shf at h
  simp [World.frozen?, h]
theorem Shf.set4 {w : World} {b : Nat} {s : S} (h : Shf w b s) (u : Int) : Shf (w.setCell ⟨b, 4, none⟩ (.int .i64 u)) b { s with tare := u } := by
  have hlt := lt_of_block h
  have h' : w.heap[b] = .cells #[.int .i64 s.day, .int .i64 s.depot, .int .i64 s.start, .int .i64 s.end_, .int .i64 s.tare, .slice s.A s.n s.c] 24 (0, 0) := by simpa [Shf, Array.getElem?_eq_getElem hlt] using h
  show (w.heap.modify b _)[b]? = _
  rw [Array.getElem?_eq_getElem (by simpa using hlt), Array.getElem_modify_self, h']
  rfl

theorem T.loads_bound {r : List Q} (h : T.allRight r) {l : List Int} {k : Nat} {x : Int} (hx : (T.loads r l)[k]? = some x) : 0 ≤ x ∧ x ≤ 1000000 * l.length := by
  have b := fun j => T.room_bound h j l
  have b0 := b 0
  have b1 := b 1
  have b2 := b 2
  unfold T.loads at hx
  rcases k with _ | _ | _ | k <;> simp at hx <;> subst hx <;> assumption

theorem T.check_rooms {s : S} (h : T.check s = 0) : s.l.length ≤ 3 ∧ (0 ≤ s.tare ∧ s.tare ≤ 1000000) ∧ ∀ x ∈ s.l, 0 ≤ x ∧ x ≤ 1000000 := by
  unfold T.check at h
  split at h
  · simp at h
  split at h
  · simp at h
  split at h
  · simp at h
  split at h
  · simp at h
  · rename_i h1 h2 h3 h4
    have h5 : ∀ x ∈ s.tare :: s.l, T.btw x 0 1000000 = true := fun x hx => by
      have := List.any_eq_false.1 (by simpa [T.heavy] using h4 : (s.tare :: s.l).any (fun x => !T.btw x 0 1000000) = false) x hx
      simpa using this
    refine ⟨by omega, T.btw_iff.1 (h5 _ List.mem_cons_self), fun x hx => T.btw_iff.1 (h5 _ (List.mem_cons_of_mem _ hx))⟩
end Go.Proofs.Ytdbllcphopecjaa
