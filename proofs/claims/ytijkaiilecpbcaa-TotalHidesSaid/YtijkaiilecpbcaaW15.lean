/-
Build, as a function; the example.
-/
import Derived.Test.YtijkaiilecpbcaaW14
namespace Go.Proofs.Ytijkaiilecpbcaa
open Go.RowKit
namespace K
def leafIt (x : Ln) : It := ⟨x.cents, x.bl, -1, -1⟩
def get (V : List It) (i : Int) : It := (V[i.toNat]?).getD ⟨0, 0, 0, 0⟩
def sumIt (V : List It) (a b : Int) : It := ⟨(get V a).val + (get V b).val, (get V a).bl + (get V b).bl, a, b⟩
/-- A level's pairs, put at the end; the next level. -/
def pairUp : List It → List Int → List It × List Int
  | V, a :: b :: r => ((pairUp (V ++ [sumIt V a b]) r).1, (V.length : Int) :: (pairUp (V ++ [sumIt V a b]) r).2)
  | V, [a] => (V, [a])
  | V, [] => (V, [])
def levels : Nat → List It → List Int → List It × Int
  | 0, V, lv => (V, lv.headD 0)
  | f + 1, V, lv => if lv.length ≤ 1 then (V, lv.headD 0) else levels f (pairUp V lv).1 (pairUp V lv).2
def cents : List Ln → Int
  | [] => 0
  | x :: l => x.cents + cents l
def idx (n : Nat) (l : List Ln) : List Int := (List.range l.length).map fun i => ((n + i : Nat) : Int)
structure Built where
  items : List It
  root : Int
  leaves : List Int
  err : Int
def build (v : List It) (l : List Ln) : Built :=
  if (!sound v || l.isEmpty || l.any fun x => !right x) = true then ⟨[], -1, [], 1⟩
  else if 64 < l.length ∨ 1001 < v.length + 2 * l.length then ⟨[], -1, [], 6⟩
  else if 1125899906842624 < cents l then ⟨[], -1, [], 3⟩
  else ⟨(levels l.length (v ++ l.map leafIt) (idx v.length l)).1, (levels l.length (v ++ l.map leafIt) (idx v.length l)).2, idx v.length l, 0⟩
end K

def K.ex : List Ln := [⟨4, 30, 7⟩, ⟨5, 20, 8⟩, ⟨6, 10, 9⟩]
def K.exItems : List It := [⟨30, 7, -1, -1⟩, ⟨20, 8, -1, -1⟩, ⟨10, 9, -1, -1⟩, ⟨50, 15, 0, 1⟩, ⟨60, 24, 3, 2⟩]
theorem K.ex_build : K.build [] K.ex = ⟨K.exItems, 4, [0, 1, 2], 0⟩ := by kernel_rfl

theorem K.cents_snoc (l : List Ln) (x : Ln) : K.cents (l ++ [x]) = K.cents l + x.cents := by
  induction l with
  | nil => simp [K.cents]
  | cons y l ih => simp [K.cents, ih]; omega
theorem K.right_cents {x : Ln} (h : K.right x = true) : 0 ≤ x.cents ∧ x.cents ≤ 1125899906842624 ∧ 0 ≤ x.bl ∧ x.bl ≤ 1099511627776 := by
  simp [K.right, K.btw] at h
  omega
theorem K.cents_bound {l : List Ln} (h : ∀ x ∈ l, K.right x = true) : 0 ≤ K.cents l ∧ K.cents l ≤ 1125899906842624 * l.length := by
  induction l with
  | nil => simp [K.cents]
  | cons x l ih =>
    have h1 := K.right_cents (h x List.mem_cons_self)
    have h2 := ih fun y hy => h y (List.mem_cons_of_mem _ hy)
    simp only [K.cents, List.length_cons]
    omega
theorem K.idx_snoc (n : Nat) (l : List Ln) (x : Ln) : K.idx n (l ++ [x]) = K.idx n l ++ [((n + l.length : Nat) : Int)] := by
  simp [K.idx, List.range_succ]
theorem K.idx_len (n : Nat) (l : List Ln) : (K.idx n l).length = l.length := by simp [K.idx]

set_option maxHeartbeats 400000 in
theorem example_any (w : World) : Calls Try.prog 17 #[] w fun e w' => (∃ A c, e = .returned (.slice A 3 c) ∧ Lines w' A 3 K.ex) ∧ Below w.heap.size w w' := by
  go_enter Try.func17, Try.ntmps17
  go_wp2
  go_ret
  exact ⟨⟨_, _, rfl, rfl, Rd.of_block (t := 33) (cs := (K.ex.flatMap Ln.cells).toArray) (heap_alloc_at _ _ _ (by simp)) 3 3 rfl⟩, (Below.refl _ _).alloc (Nat.le_refl _) _⟩

set_option maxHeartbeats 400000 in
theorem items_any (w : World) : Calls Try.prog 18 #[] w fun e w' => (∃ A c, e = .returned (.slice A 5 c) ∧ Items w' A 5 K.exItems) ∧ Below w.heap.size w w' := by
  go_enter Try.func18, Try.ntmps18
  go_wp2
  go_ret
  exact ⟨⟨_, _, rfl, rfl, Rd.of_block (t := 37) (cs := (itemCells K.exItems).toArray) (heap_alloc_at _ _ _ (by simp)) 4 5 rfl⟩, (Below.refl _ _).alloc (Nat.le_refl _) _⟩
end Go.Proofs.Ytijkaiilecpbcaa
