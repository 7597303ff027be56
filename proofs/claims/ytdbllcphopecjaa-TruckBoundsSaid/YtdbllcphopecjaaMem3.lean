/-
Words for memory: numbers, requests.
-/
import Derived.Test.YtdbllcphopecjaaMem2
namespace Go.Proofs.Ytdbllcphopecjaa
open Go.RowKit

/-- The cells of numbers. -/
def intCells (l : List Int) : List Value := l.map (Value.int .i64)

/-- The slice value '.slice A n c' reads as the numbers l. -/
def Ints (w : World) (A : Option Addr) (n : Nat) (l : List Int) : Prop := n = l.length ∧ Rd w 1 A n (intCells l)

theorem Ints.below {w w' : World} {A : Option Addr} {n : Nat} {l : List Int} (h : Ints w A n l) (hb : Below w.heap.size w w') : Ints w' A n l := ⟨h.1, h.2.below hb⟩

theorem Ints.at_ {w : World} {A : Option Addr} {n k : Nat} {l : List Int} (h : Ints w A n l) (hk : k < n) :
    ∃ ad x, A = some ad ∧ l[k]? = some x ∧ w.cell? (ad.add k) = some (.int .i64 x) := by
  obtain ⟨e, hr⟩ := h
  obtain ⟨ad, hA, hc⟩ := hr.at_ hk
  have hl : l[k]? = some (l[k]'(by omega)) := List.getElem?_eq_getElem (by omega)
  obtain ⟨u0, a0, b0⟩ := hc 0 (by omega)
  rw [Nat.add_zero, Nat.mul_one] at a0 b0
  unfold intCells at a0
  rw [List.getElem?_map, hl] at a0
  simp at a0
  subst a0
  exact ⟨ad, _, hA, hl, b0⟩

/-- A request, as the program holds it. -/
structure Q where
  node : Int
  room : Int
  kilos : Int
  service : Int
  frm : Int
  by_ : Int
  A : Option Addr
  n : Nat
  c : Nat
  l : List (Int × Int)

def Q.cells (q : Q) : List Value := [.int .i64 q.node, .int .i64 q.room, .int .i64 q.kilos, .int .i64 q.service, .int .i64 q.frm, .int .i64 q.by_, .slice q.A q.n q.c]

def reqCells : List Q → List Value
  | [] => []
  | q :: l => .int .i64 q.node :: .int .i64 q.room :: .int .i64 q.kilos :: .int .i64 q.service :: .int .i64 q.frm :: .int .i64 q.by_ :: .slice q.A q.n q.c :: reqCells l

theorem reqCells_len (l : List Q) : (reqCells l).length = l.length * 7 := by
  induction l with
  | nil => rfl
  | cons p l ih => simp [reqCells, ih]; omega

theorem reqCells_get (l : List Q) : ∀ (k : Nat) (q : Q), l[k]? = some q → ∀ j, j < 7 → (reqCells l)[k * 7 + j]? = q.cells[j]? := by
  induction l with
  | nil => intro k p h; simp at h
  | cons q0 l ih =>
    intro k q h j hj
    cases k with
    | zero =>
      simp at h; subst h
      rcases j with _ | _ | _ | _ | _ | _ | _ | j <;> first | rfl | omega
    | succ k =>
      have := ih k q (by simpa using h) j hj
      rw [show (k + 1) * 7 + j = k * 7 + j + 1 + 1 + 1 + 1 + 1 + 1 + 1 by omega]
      simpa [reqCells] using this

/-- The slice value '.slice A n c' reads as the requests l. -/
def Reqs (w : World) (A : Option Addr) (n : Nat) (l : List Q) : Prop := n = l.length ∧ Rd w 7 A n (reqCells l) ∧ ∀ q ∈ l, Wins w q.A q.n q.l

theorem Reqs.below {w w' : World} {A : Option Addr} {n : Nat} {l : List Q} (h : Reqs w A n l) (hb : Below w.heap.size w w') : Reqs w' A n l := ⟨h.1, h.2.1.below hb, fun q hq => (h.2.2 q hq).below hb⟩

theorem Reqs.at_ {w : World} {A : Option Addr} {n k : Nat} {l : List Q} (h : Reqs w A n l) (hk : k < n) :
    ∃ ad q, A = some ad ∧ l[k]? = some q ∧ Wins w q.A q.n q.l ∧ w.cell? (ad.add (k * 7)) = some (.int .i64 q.node) ∧
      w.cell? ⟨(ad.add (k * 7)).block, (ad.add (k * 7)).off + 1, none⟩ = some (.int .i64 q.room) ∧
      w.cell? ⟨(ad.add (k * 7)).block, (ad.add (k * 7)).off + 2, none⟩ = some (.int .i64 q.kilos) ∧
      w.cell? ⟨(ad.add (k * 7)).block, (ad.add (k * 7)).off + 3, none⟩ = some (.int .i64 q.service) ∧
      w.cell? ⟨(ad.add (k * 7)).block, (ad.add (k * 7)).off + 4, none⟩ = some (.int .i64 q.frm) ∧
      w.cell? ⟨(ad.add (k * 7)).block, (ad.add (k * 7)).off + 5, none⟩ = some (.int .i64 q.by_) ∧
      w.cell? ⟨(ad.add (k * 7)).block, (ad.add (k * 7)).off + 6, none⟩ = some (.slice q.A q.n q.c) := by
  obtain ⟨e, hr, hq⟩ := h
  obtain ⟨ad, hA, hc⟩ := hr.at_ hk
  have hl : l[k]? = some (l[k]'(by omega)) := List.getElem?_eq_getElem (by omega)
  have g := reqCells_get l k _ hl
  refine ⟨ad, _, hA, hl, hq _ (List.getElem_mem _), ?_⟩
  have key : ∀ j, j < 7 → ∀ u, (l[k]'(by omega)).cells[j]? = some u → w.cell? (ad.add (k * 7 + j)) = some u := by
    intro j hj u hu
    obtain ⟨v, a, b⟩ := hc j hj
    rw [g j hj, hu] at a
    injection a with a
    subst a; exact b
  refine ⟨by simpa using key 0 (by omega) _ rfl, ?_, ?_, ?_, ?_, ?_, ?_⟩
  · rw [← add_next _ _ _ (by omega)]; exact key 1 (by omega) _ rfl
  · rw [← add_next _ _ _ (by omega)]; exact key 2 (by omega) _ rfl
  · rw [← add_next _ _ _ (by omega)]; exact key 3 (by omega) _ rfl
  · rw [← add_next _ _ _ (by omega)]; exact key 4 (by omega) _ rfl
  · rw [← add_next _ _ _ (by omega)]; exact key 5 (by omega) _ rfl
  · rw [← add_next _ _ _ (by omega)]; exact key 6 (by omega) _ rfl

/-- A request as a value. -/
def Q.val (q : Q) : Value := .agg #[.int .i64 q.node, .int .i64 q.room, .int .i64 q.kilos, .int .i64 q.service, .int .i64 q.frm, .int .i64 q.by_, .slice q.A q.n q.c]

/-- A shift, as the program holds it; l: its rooms. -/
structure S where
  day : Int
  depot : Int
  start : Int
  end_ : Int
  tare : Int
  A : Option Addr
  n : Nat
  c : Nat
  l : List Int
end Go.Proofs.Ytdbllcphopecjaa
