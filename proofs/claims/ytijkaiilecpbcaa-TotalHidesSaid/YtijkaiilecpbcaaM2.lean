/-
Words for memory: items of a vault, lines.
-/
import Derived.Test.YtijkaiilecpbcaaM1
namespace Go.Proofs.Ytijkaiilecpbcaa
open Go.RowKit

theorem flat_len {α : Type} (f : α → List Value) (s : Nat) (hs : ∀ x, (f x).length = s) (l : List α) : (l.flatMap f).length = l.length * s := by
  induction l with
  | nil => simp
  | cons x l ih => rw [List.flatMap_cons, List.length_append, ih, hs, List.length_cons, Nat.add_mul]; omega

theorem flat_get {α : Type} (f : α → List Value) (s : Nat) (hs : ∀ x, (f x).length = s) (l : List α) : ∀ (k : Nat) (x : α), l[k]? = some x → ∀ j, j < s → (l.flatMap f)[k * s + j]? = (f x)[j]? := by
  induction l with
  | nil => intro k x h; simp at h
  | cons y l ih =>
    intro k x h j hj
    rw [List.flatMap_cons]
    cases k with
    | zero =>
      simp at h; subst h
      rw [Nat.zero_mul, Nat.zero_add, List.getElem?_append_left (by rw [hs]; exact hj)]
    | succ k =>
      have h1 := ih k x (by simpa using h) j hj
      rw [List.getElem?_append_right (by rw [hs, Nat.add_mul]; omega), hs, show (k + 1) * s + j - s = k * s + j by rw [Nat.add_mul]; omega]
      exact h1

/-- The slice value '.slice A n c' reads as the list l, each element by its cells. -/
def Lst {α : Type} (f : α → List Value) (s : Nat) (w : World) (A : Option Addr) (n : Nat) (l : List α) : Prop := n = l.length ∧ Rd w s A n (l.flatMap f)

theorem Lst.below {α : Type} {f : α → List Value} {s : Nat} {w w' : World} {A : Option Addr} {n : Nat} {l : List α} (h : Lst f s w A n l) (hb : Below w.heap.size w w') : Lst f s w' A n l := ⟨h.1, h.2.below hb⟩

theorem Lst.get {α : Type} {f : α → List Value} {s : Nat} (hs : ∀ x, (f x).length = s) {w : World} {A : Option Addr} {n k : Nat} {l : List α} (h : Lst f s w A n l) (hk : k < n) :
    ∃ ad x, A = some ad ∧ l[k]? = some x ∧ ∀ j u, j < s → (f x)[j]? = some u → w.cell? (ad.add (k * s + j)) = some u := by
  obtain ⟨e, hr⟩ := h
  obtain ⟨ad, hA, hc⟩ := hr.at_ hk
  have hl : l[k]? = some (l[k]'(by omega)) := List.getElem?_eq_getElem (by omega)
  refine ⟨ad, _, hA, hl, fun j u hj hu => ?_⟩
  obtain ⟨v, a, b⟩ := hc j hj
  rw [flat_get f s hs l k _ hl j hj, hu] at a
  injection a with a
  subst a; exact b

/-- An item. -/
structure It where
  val : Int
  bl : Int
  lt : Int
  rt : Int

def It.cells (x : It) : List Value := [.int .i64 x.val, .int .i64 x.bl, .int .i64 x.lt, .int .i64 x.rt]
abbrev itemCells (l : List It) : List Value := l.flatMap It.cells
abbrev Items (w : World) (A : Option Addr) (n : Nat) (l : List It) : Prop := Lst It.cells 4 w A n l

theorem Items.at_ {w : World} {A : Option Addr} {n k : Nat} {l : List It} (h : Items w A n l) (hk : k < n) :
    ∃ ad x, A = some ad ∧ l[k]? = some x ∧ w.cell? (ad.add (k * 4)) = some (.int .i64 x.val) ∧
      w.cell? ⟨(ad.add (k * 4)).block, (ad.add (k * 4)).off + 1, none⟩ = some (.int .i64 x.bl) ∧
      w.cell? ⟨(ad.add (k * 4)).block, (ad.add (k * 4)).off + 2, none⟩ = some (.int .i64 x.lt) ∧
      w.cell? ⟨(ad.add (k * 4)).block, (ad.add (k * 4)).off + 3, none⟩ = some (.int .i64 x.rt) := by
  obtain ⟨ad, x, hA, hl, hc⟩ := Lst.get (f := It.cells) (s := 4) (fun _ => rfl) h hk
  refine ⟨ad, x, hA, hl, hc 0 _ (by omega) rfl, ?_, ?_, ?_⟩
  · rw [← add_next _ _ _ (by omega)]; exact hc 1 _ (by omega) rfl
  · rw [← add_next _ _ _ (by omega)]; exact hc 2 _ (by omega) rfl
  · rw [← add_next _ _ _ (by omega)]; exact hc 3 _ (by omega) rfl

/-- A line. -/
structure Ln where
  hh : Int
  cents : Int
  bl : Int

def Ln.cells (x : Ln) : List Value := [.int .i64 x.hh, .int .i64 x.cents, .int .i64 x.bl]
abbrev Lines (w : World) (A : Option Addr) (n : Nat) (l : List Ln) : Prop := Lst Ln.cells 3 w A n l

theorem Lines.at_ {w : World} {A : Option Addr} {n k : Nat} {l : List Ln} (h : Lines w A n l) (hk : k < n) :
    ∃ ad x, A = some ad ∧ l[k]? = some x ∧ w.cell? (ad.add (k * 3)) = some (.int .i64 x.hh) ∧
      w.cell? ⟨(ad.add (k * 3)).block, (ad.add (k * 3)).off + 1, none⟩ = some (.int .i64 x.cents) ∧
      w.cell? ⟨(ad.add (k * 3)).block, (ad.add (k * 3)).off + 2, none⟩ = some (.int .i64 x.bl) := by
  obtain ⟨ad, x, hA, hl, hc⟩ := Lst.get (f := Ln.cells) (s := 3) (fun _ => rfl) h hk
  refine ⟨ad, x, hA, hl, hc 0 _ (by omega) rfl, ?_, ?_⟩
  · rw [← add_next _ _ _ (by omega)]; exact hc 1 _ (by omega) rfl
  · rw [← add_next _ _ _ (by omega)]; exact hc 2 _ (by omega) rfl

theorem items_nil (w : World) : Items w none 0 [] := ⟨rfl, rfl, fun h => absurd h (by omega)⟩
theorem lines_nil (w : World) : Lines w none 0 [] := ⟨rfl, rfl, fun h => absurd h (by omega)⟩
end Go.Proofs.Ytijkaiilecpbcaa
