/-
Routes: the table of all labels, in plain terms.
-/
import Derived.Test.YtippdjmpkafifaaP8
namespace Go.Proofs.Ytippdjmpkafifaa
open Go.RowKit

namespace K
/-- The row of a part, by the rows of smaller parts. -/
def rowOf (nd : Int) (l : List Ro) (s : S) (r : List Q) (v : List Int) (t : List (List Int)) (m : Nat) : List Int :=
  (List.range v.length).map fun i => if m.testBit i = true then label nd l s r v ((t[m - 2 ^ i]?).getD []) (m - 2 ^ i) i (req r ((v[i]?).getD 0)) else -1
/-- The rows of the first M parts. -/
def table (nd : Int) (l : List Ro) (s : S) (r : List Q) (v : List Int) : Nat → List (List Int)
  | 0 => []
  | M + 1 => table nd l s r v M ++ [rowOf nd l s r v (table nd l s r v M) M]
theorem table_len (nd : Int) (l : List Ro) (s : S) (r : List Q) (v : List Int) : ∀ M, (table nd l s r v M).length = M
  | 0 => rfl
  | M + 1 => by simp [table, table_len nd l s r v M]
theorem table_le {nd : Int} {l : List Ro} {s : S} {r : List Q} {v : List Int} {m M : Nat} (h : m ≤ M) {k : Nat} (hk : k < m) : (table nd l s r v M)[k]? = (table nd l s r v m)[k]? := by
  induction M with
  | zero => rw [show m = 0 by omega]
  | succ M ih =>
    by_cases e : m = M + 1
    · rw [e]
    · rw [table, List.getElem?_append_left (by rw [table_len]; omega)]
      exact ih (by omega)
theorem table_at {nd : Int} {l : List Ro} {s : S} {r : List Q} {v : List Int} {m M : Nat} (h : m < M) : (table nd l s r v M)[m]? = some (rowOf nd l s r v (table nd l s r v m) m) := by
  rw [table_le (m := m + 1) (by omega) (by omega), table, List.getElem?_append_right (by rw [table_len]; omega), table_len]
  simp
theorem rowOf_len (nd : Int) (l : List Ro) (s : S) (r : List Q) (v : List Int) (t : List (List Int)) (m : Nat) : (rowOf nd l s r v t m).length = v.length := by simp [rowOf]
theorem rowOf_at {nd : Int} {l : List Ro} {s : S} {r : List Q} {v : List Int} {t : List (List Int)} {m i : Nat} {j : Int} (hi : v[i]? = some j) :
    (rowOf nd l s r v t m)[i]? = some (if m.testBit i = true then label nd l s r v ((t[m - 2 ^ i]?).getD []) (m - 2 ^ i) i (req r j) else -1) := by
  obtain ⟨hk, e⟩ := List.getElem?_eq_some_iff.1 hi
  subst e
  simp [rowOf, hk]
theorem label_bd {nd : Int} {l : List Ro} {s : S} {r : List Q} {v row : List Int} {rest i : Nat} {q : Q} (hq : 0 ≤ q.service) : -1 ≤ label nd l s r v row rest i q ∧ label nd l s r v row rest i q ≤ 1000000 := by
  unfold label labelOf
  split
  · decide
  · split
    · rename_i h
      obtain ⟨-, -, -, h1, h2, -, h3⟩ := begins_ok h
      omega
    · decide
theorem rowOf_bd {nd : Int} {l : List Ro} {s : S} {r : List Q} {v : List Int} {t : List (List Int)} {m : Nat} (hq : ∀ i ∈ v, 0 ≤ (req r i).service) : ∀ x ∈ rowOf nd l s r v t m, -1 ≤ x ∧ x ≤ 1000000 := by
  intro x hx
  obtain ⟨i, hi⟩ := List.mem_iff_getElem?.1 hx
  have hil : i < v.length := by
    have := (List.getElem?_eq_some_iff.1 hi).1
    rwa [rowOf_len] at this
  rw [rowOf_at (List.getElem?_eq_getElem hil)] at hi
  injection hi with hi
  subst hi
  split
  · exact label_bd (hq _ (List.getElem_mem hil))
  · decide
/-- A row that is filled up to place i. -/
def upto (row : List Int) (i : Nat) : List Int := row.take i ++ List.replicate (row.length - i) (-1)
theorem upto_zero (row : List Int) : upto row 0 = List.replicate row.length (-1) := by simp [upto]
theorem upto_full (row : List Int) : upto row row.length = row := by simp [upto]
theorem upto_len {row : List Int} {i : Nat} (h : i ≤ row.length) : (upto row i).length = row.length := by simp [upto]; omega
theorem upto_next {row : List Int} {i : Nat} {x : Int} (h : row[i]? = some x) : (upto row i).set i x = upto row (i + 1) := by
  have hi := (List.getElem?_eq_some_iff.1 h).1
  apply List.ext_getElem?
  intro k
  rw [List.getElem?_set]
  unfold upto
  rw [take_snoc h]
  by_cases hk : i = k
  · subst hk
    rw [if_pos rfl, if_pos (by simp; omega), List.getElem?_append_left (by simp; omega), List.getElem?_append_right (by simp; omega), show i - (row.take i).length = 0 by simp; omega]
    rfl
  · rw [if_neg hk]
    rcases Nat.lt_or_gt_of_ne hk with h1 | h1
    · rw [List.getElem?_append_right (by simp; omega), List.getElem?_append_right (by simp; omega), List.getElem?_replicate, List.getElem?_replicate]
      simp only [List.length_take, List.length_append, List.length_singleton]
      have e1 : min i row.length = i := by omega
      rw [e1]
      by_cases h2 : k < row.length
      · rw [if_pos (by omega), if_pos (by omega)]
      · rw [if_neg (by omega), if_neg (by omega)]
    · rw [List.getElem?_append_left (by simp; omega), List.append_assoc, List.getElem?_append_left (by simp; omega)]
theorem upto_skip {row : List Int} {i : Nat} (h : row[i]? = some (-1)) : upto row i = upto row (i + 1) := by
  rw [← upto_next h]
  have hi := (List.getElem?_eq_some_iff.1 h).1
  apply List.ext_getElem?
  intro k
  rw [List.getElem?_set]
  by_cases hk : i = k
  · subst hk
    rw [if_pos rfl, if_pos (by rw [upto_len (by omega)]; omega)]
    unfold upto
    rw [List.getElem?_append_right (by simp; omega), List.getElem?_replicate, if_pos (by simp; omega)]
  · rw [if_neg hk]
end K

theorem bit_rest_all : ∀ m : Fin 64, ∀ i : Fin 6, m.val.testBit i.val = true → (m.val - 2 ^ i.val) + 2 ^ i.val = m.val ∧ (m.val - 2 ^ i.val).testBit i.val = false := by decide +kernel
theorem bit_rest {m i : Nat} (hm : m < 64) (hi : i < 6) (h : m.testBit i = true) : (m - 2 ^ i) + 2 ^ i = m ∧ (m - 2 ^ i).testBit i = false := bit_rest_all ⟨m, hm⟩ ⟨i, hi⟩ h
theorem Try.info41 : (Try.prog.info? 41).map (fun i => (i.zero, i.size, i.bytes)) = some (some (.slice none 0 0), 1, 24) := by kernel_rfl
theorem make_rows (n : Nat) (hn : n ≤ 1000000) (w : World) : (Instr.makeSlice 79 (.int .i64 n) (.int .i64 n)).run Try.prog w = .ok (.slice (some ⟨w.heap.size, 0, none⟩) n n) (w.alloc (.cells (List.replicate n (Value.slice none 0 0)).toArray 41)) := by
  have h := run_make_row' (P := Try.prog) 79 41 (.slice none 0 0) 24 Try.underlying79 Try.info41 rfl .i64 .i64 n (by omega) (by omega) w
  rw [made_rep] at h
  rw [h]
end Go.Proofs.Ytippdjmpkafifaa
