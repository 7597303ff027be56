/-
The walk of the law TourSkips.
-/
import Derived.Test.YtippdjmpkafifaaBE
import Derived.Test.YtippdjmpkafifaaK12
import Derived.Test.YtippdjmpkafifaaL1
namespace Go.Proofs.Ytippdjmpkafifaa
open Go.RowKit

/-- An append at a step of a region that draws: any own row, any source that can be read. -/
theorem step_append_rd {P : Program} {w : World} {ops : Array Oper} {o : Oper} {a : Act} {K : Act → World → Prop} {Q : Exit → Act → World → Prop} {E : Prop} (hgd : o.guard = none) (s x : Operand) (t : TypeId)
    (ho : o.op = .call { callee := .builtin .append, args := #[s, x], argTypes := #[t, t] })
    (base : Nat) (e : TypeId) (i : TypeInfo) (z : Value) (size bytes : Nat) (ht : P.underlying t = some (.slice e)) (hi : P.info? e = some i) (hz : i.zero = some z)
    (hsize : i.size = size) (hby : i.bytes = bytes) (hzs : z.cells.size = size) (hsz : 0 < size)
    (v : Value) (n : Nat) (xs : List Value) (hs : a.eval s = v) (hown : w.ownsRow base e size v n xs)
    (A : Option Addr) (m c : Nat) (news : List Value) (hx : a.eval x = .slice A m c) (hr : Rd w size A m news) (h1 : ∀ u ∈ news, u.oneCell' = true)
    (h63 : n + m ≤ maxLen) (hbytes : (n + m) * bytes ≤ 140737488355328) (hbase : base ≤ w.heap.size)
    (h : ∀ v' w', w'.ownsRow base e size v' (n + m) (xs ++ news) → w.grownBy w' v.ownBlock → (v'.ownBlock = v.ownBlock ∨ v'.ownBlock = some w.heap.size) → K (a.put o.dst v') w') :
    if Region.wanted o (yielded ops a.tmps) = true then Oper.wp P o a w K Q else E := by
  have hw : Region.wanted o (yielded ops a.tmps) = true := by simp [Region.wanted, hgd]
  rw [if_pos hw]
  obtain ⟨v', w', hrun, h2, h3, h4⟩ := run_append_rd (P := P) w base t o.type e i z size bytes ht hi hz hsize hby hzs hsz v n xs hown A m c news hr h1 h63 hbytes hbase
  unfold Oper.wp execOp
  simp only [ho, resolve, invoke, builtin, Sem.run_bind, Sem.run_pure, Result.andThen_ok, List.map_toArray, List.map_cons, List.map_nil, hs, hx, hrun]
  exact h v' w' h2 h3 h4

/-- A slice's end. -/
theorem Ints.drop {w : World} {A : Option Addr} {n : Nat} {l : List Int} (h : Ints w A n l) {ad : Addr} (e : A = some ad) {k : Nat} (hk : k ≤ n) : Ints w (some (ad.add k)) (n - k) (l.drop k) := by
  subst e
  refine ⟨by rw [List.length_drop, ← h.1], by simp [intCells]; have := h.1; omega, fun h0 => ?_⟩
  obtain ⟨ad', e, hc⟩ := h.2.2 (by omega)
  injection e with e
  subst e
  refine ⟨_, rfl, fun j u hu => ?_⟩
  rw [intCells, List.map_drop, List.getElem?_drop] at hu
  rw [add_add]
  exact hc (k + j) u hu

theorem own_lit {w : World} {base g : Nat} {e : TypeId} {size : Nat} (h : w.heap[g]? = some (.cells #[] e (0, 0))) (hb : base ≤ g) : w.ownsRow base e size (.slice (some ⟨g, 0, none⟩) 0 0) 0 [] :=
  ⟨by simp, .inr ⟨g, 0, #[], rfl, hb, h, Nat.le_refl _, by simp [maxLen], by simp, by simp⟩⟩
theorem lit_block {base b n c : Nat} (h : base ≤ b) : ∀ g, (Value.slice (some ⟨b, 0, none⟩) n c).ownBlock = some g → base ≤ g := fun g e => by
  have e : some b = some g := e
  injection e with e
  omega
theorem lit_ne {g b n c : Nat} (h : g ≠ b) : some g ≠ (Value.slice (some ⟨b, 0, none⟩) n c).ownBlock := fun e => by
  have e : some g = some b := e
  injection e with e
  exact h e
/-- Another block than the new row's. -/
theorem ne_lies {g b n c H : Nat} {v : Value} (hat : v.ownBlock = (Value.slice (some ⟨b, 0, none⟩) n c).ownBlock ∨ v.ownBlock = some H) (h : g ≠ b) (hl : g < H) : some g ≠ v.ownBlock := fun e => by
  rcases hat with h1 | h1
  · rw [h1] at e; exact lit_ne h e
  · rw [h1] at e; injection e with e; omega
theorem far_blk {w : World} {g : Nat} {o : Obj} {A : Option Addr} (h : w.heap[g]? = some o) (hA : ∀ ad, A = some ad → w.heap.size ≤ ad.block) : ∀ ad, A = some ad → ad.block ≠ g := fun ad e => by
  have := (Array.getElem?_eq_some_iff.1 h).1
  have := hA ad e
  omega

/-- What the law reads off the minutes. -/
theorem skip_times {R R9 : List Int} {k m : Nat} (h : ∃ t1 t2 t2' b, R = t1 ++ b :: t2 ∧ R9 = t1 ++ t2' ∧ t1.length = m ∧ K.Ahead t2' t2) (hm : m = k) :
    ∀ (j : Nat) (y : Int), R9[j]? = some y → (j < k → R[j]? = some y) ∧ (k ≤ j → ∃ a, R[j + 1]? = some a ∧ y ≤ a) := by
  obtain ⟨t1, t2, t2', b, rfl, rfl, hl, ha⟩ := h
  intro j y hy
  subst hm
  refine ⟨fun hj => ?_, fun hj => ?_⟩
  · rw [List.getElem?_append_left (by omega)] at hy ⊢
    exact hy
  · rw [List.getElem?_append_right (by omega)] at hy
    have hlt : j - t1.length < t2.length := by rw [← ha.1]; exact (List.getElem?_eq_some_iff.1 hy).1
    refine ⟨t2[j - t1.length], ?_, ha.2 _ _ _ hy (List.getElem?_eq_getElem hlt)⟩
    rw [List.getElem?_append_right (by omega), show j + 1 - t1.length = (j - t1.length) + 1 by omega, List.getElem?_cons_succ]
    exact List.getElem?_eq_getElem hlt
theorem skip_length {R R9 : List Int} {m : Nat} (h : ∃ t1 t2 t2' b, R = t1 ++ b :: t2 ∧ R9 = t1 ++ t2' ∧ t1.length = m ∧ K.Ahead t2' t2) : R9.length + 1 = R.length := by
  obtain ⟨t1, t2, t2', b, rfl, rfl, -, ha⟩ := h
  simp [ha.1]
  omega
theorem drop_of_some {α : Type} {l : List α} {k : Nat} {a : α} (h : l[k]? = some a) : l.drop k = a :: l.drop (k + 1) := by
  obtain ⟨hk, e⟩ := List.getElem?_eq_some_iff.1 h
  rw [List.drop_eq_getElem_cons hk, e]

end Go.Proofs.Ytippdjmpkafifaa
