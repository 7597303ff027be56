/-
What the requests of a set load, as a function; its bounds.
-/
import Derived.Test.YtdbllcphopecjaaT8
namespace Go.Proofs.Ytdbllcphopecjaa
open Go.RowKit
namespace T
/-- What request i loads into room j. -/
def kilo (r : List Q) (j i : Int) : Int := match r[i.toNat]? with
  | some q => if q.room = j then q.kilos else 0
  | none => 0
def room (r : List Q) (j : Int) : List Int → Int
  | [] => 0
  | i :: l => kilo r j i + room r j l
def loads (r : List Q) (l : List Int) : List Int := [room r 0 l, room r 1 l, room r 2 l]
end T

theorem T.room_app (r : List Q) (j : Int) (a b : List Int) : T.room r j (a ++ b) = T.room r j a + T.room r j b := by
  induction a with
  | nil => simp [T.room]
  | cons x a ih => simp [T.room, ih]; omega

theorem T.room_next {r : List Q} {j : Int} {l : List Int} {k : Nat} {x : Int} (h : l[k]? = some x) : T.room r j (l.take (k + 1)) = T.room r j (l.take k) + T.kilo r j x := by
  obtain ⟨hk, e⟩ := List.getElem?_eq_some_iff.1 h
  rw [List.take_succ_eq_append_getElem hk, e, T.room_app]
  simp [T.room]

theorem T.btw_iff {n lo hi : Int} : T.btw n lo hi = true ↔ lo ≤ n ∧ n ≤ hi := by simp [T.btw]

theorem T.right_room {q : Q} (h : T.right q = true) : (q.room = 0 ∨ q.room = 1 ∨ q.room = 2) ∧ 1 ≤ q.kilos ∧ q.kilos ≤ 1000000 := by
  simp [T.right, T.btw] at h
  omega

def T.allRight (r : List Q) : Prop := ∀ q ∈ r, T.right q = true

theorem T.kilo_bound {r : List Q} (h : T.allRight r) (j i : Int) : 0 ≤ T.kilo r j i ∧ T.kilo r j i ≤ 1000000 := by
  unfold T.kilo
  cases hq : r[i.toNat]? with
  | none => simp
  | some q =>
    have := (T.right_room (h q (List.mem_of_getElem? hq))).2
    simp only
    split <;> omega

theorem T.room_bound {r : List Q} (h : T.allRight r) (j : Int) (l : List Int) : 0 ≤ T.room r j l ∧ T.room r j l ≤ 1000000 * l.length := by
  induction l with
  | nil => simp [T.room]
  | cons x l ih =>
    have := T.kilo_bound h j x
    simp only [T.room, List.length_cons]
    omega

theorem T.kilo_self {r : List Q} {i : Int} {q : Q} (h : r[i.toNat]? = some q) (j : Int) : T.kilo r j i = if q.room = j then q.kilos else 0 := by
  unfold T.kilo; rw [h]

theorem T.isSetFrom_mem {n : Int} {b l : List Int} (h : T.isSetFrom n b l = true) : ∀ x ∈ l, 0 ≤ x ∧ x < n := by
  induction l generalizing b with
  | nil => intro x hx; simp at hx
  | cons y l ih =>
    simp [T.isSetFrom] at h
    intro x hx
    rcases List.mem_cons.1 hx with rfl | hx
    · exact ⟨h.1, h.2.1⟩
    · exact ih h.2.2.2 x hx

theorem T.load_parts {s : S} {r : List Q} {l : List Int} (h : T.load s r l = true) : T.check s = 0 ∧ T.isSet r.length l = true ∧ T.allRight r := by
  simp [T.load] at h
  exact ⟨h.1, h.2.1, h.2.2⟩

theorem T.load_mk {s : S} {r : List Q} {l : List Int} (h1 : T.check s = 0) (h2 : T.isSet r.length l = true) (h3 : T.allRight r) : T.load s r l = true := by
  simp [T.load, h1, h2]
  exact h3

/-- A block of three numbers. -/
def Three (w : World) (B : Nat) (x y z : Int) : Prop := w.heap[B]? = some (.cells #[.int .i64 x, .int .i64 y, .int .i64 z] 3 (0, 0))

theorem Three.below {w w' : World} {B : Nat} {x y z : Int} (h : Three w B x y z) (hb : Below w.heap.size w w') : Three w' B x y z := blk_below hb h
theorem Three.lt {w : World} {B : Nat} {x y z : Int} (h : Three w B x y z) : B < w.heap.size := lt_of_block h
theorem Three.c0 {w : World} {B : Nat} {x y z : Int} (h : Three w B x y z) : w.cell? ⟨B, 0, none⟩ = some (.int .i64 x) := blk_cell h 0 _ rfl
theorem Three.c1 {w : World} {B : Nat} {x y z : Int} (h : Three w B x y z) : w.cell? ⟨B, 1, none⟩ = some (.int .i64 y) := blk_cell h 1 _ rfl
theorem Three.c2 {w : World} {B : Nat} {x y z : Int} (h : Three w B x y z) : w.cell? ⟨B, 2, none⟩ = some (.int .i64 z) := blk_cell h 2 _ rfl
theorem Three.free {w : World} {B : Nat} {x y z : Int} (h : Three w B x y z) (i : Nat) : w.frozen? ⟨B, i, none⟩ = false := by
  unfold Three at h
  simp [World.frozen?, h]

theorem Three.set {w : World} {B : Nat} {x y z : Int} (h : Three w B x y z) (i : Nat) (v : Value) : (w.setCell ⟨B, i, none⟩ v).heap[B]? = some (.cells (#[Value.int .i64 x, .int .i64 y, .int .i64 z].setIfInBounds i v) 3 (0, 0)) := by
  have hlt := h.lt
  have h' : w.heap[B] = .cells #[.int .i64 x, .int .i64 y, .int .i64 z] 3 (0, 0) := by simpa [Three, Array.getElem?_eq_getElem hlt] using h
  show (w.heap.modify B _)[B]? = _
  rw [Array.getElem?_eq_getElem (by simpa using hlt), Array.getElem_modify_self, h']
  rfl
theorem Three.set0 {w : World} {B : Nat} {x y z : Int} (h : Three w B x y z) (u : Int) : Three (w.setCell ⟨B, 0, none⟩ (.int .i64 u)) B u y z := h.set 0 _
theorem Three.set1 {w : World} {B : Nat} {x y z : Int} (h : Three w B x y z) (u : Int) : Three (w.setCell ⟨B, 1, none⟩ (.int .i64 u)) B x u z := h.set 1 _
theorem Three.set2 {w : World} {B : Nat} {x y z : Int} (h : Three w B x y z) (u : Int) : Three (w.setCell ⟨B, 2, none⟩ (.int .i64 u)) B x y u := h.set 2 _
theorem Three.ints {w : World} {B : Nat} {x y z : Int} (h : Three w B x y z) : Ints w (some ⟨B, 0, none⟩) 3 [x, y, z] := ⟨rfl, Rd.of_block h 1 3 rfl⟩
end Go.Proofs.Ytdbllcphopecjaa
