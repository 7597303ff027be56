/-
The walks of total.Opens and of walks.
-/
import Derived.Test.YtijkaiilecpbcaaW2
namespace Go.Proofs.Ytijkaiilecpbcaa
open Go.RowKit
namespace K
def opens (l : List It) (i v b : Int) : Bool := sound l && (has l.length i && (match l[i.toNat]? with
  | some x => (x.val == v) && (x.bl == b)
  | none => false))
def stepOk (l : List It) (p a : Int) : Bool := match l[p.toNat]? with
  | some x => (x.lt == a) || (x.rt == a)
  | none => false
def from_ (l : List It) : Option Int → Int → Bool
  | none, _ => true
  | some p, a => stepOk l p a
def walkFrom (l : List It) : Option Int → List Int → Bool
  | _, [] => true
  | pr, a :: r => has l.length a && (from_ l pr a && walkFrom l (some a) r)
def walks (l : List It) (p : List Int) : Bool := sound l && (!p.isEmpty && walkFrom l none p)
def prev (p : List Int) (k : Nat) : Option Int := if k = 0 then none else p[k - 1]?
end K

theorem K.walk_drop {l : List It} {p : List Int} {k : Nat} {a : Int} (h : p[k]? = some a) : K.walkFrom l (K.prev p k) (p.drop k) = (K.has l.length a && (K.from_ l (K.prev p k) a && K.walkFrom l (K.prev p (k + 1)) (p.drop (k + 1)))) := by
  obtain ⟨hk, e⟩ := List.getElem?_eq_some_iff.1 h
  rw [List.drop_eq_getElem_cons hk, e]
  have e2 : K.prev p (k + 1) = some a := by unfold K.prev; rw [if_neg (by omega)]; exact h
  rw [e2]
  rfl

theorem vbox (w : World) (A : Option Addr) (n c : Nat) : (w.alloc (.cells #[.slice A n c] 24)).heap[w.heap.size]? = some (.cells #[.slice A n c] 24 (0, 0)) := (MapKept.heap_alloc w _).1

set_option maxHeartbeats 4000000 in
theorem opens_any (A : Option Addr) (n c : Nat) (l : List It) (i v b : Int) (w : World) (hl : Items w A n l) (hn : n ≤ 1000000000000) : Calls Try.prog 11 #[.agg #[.slice A n c], .int .i64 i, .int .i64 v, .int .i64 b] w fun e w' => e = .returned (.bool (K.opens l i v b)) ∧ Below w.heap.size w w' := by
  have b0 := (Below.refl w.heap.size w).alloc (Nat.le_refl _) (.cells #[.slice A n c] 24)
  have hP := vbox w A n c
  cases h1 : K.sound l
  · have HX := Lib.hid (show K.opens l i v b = false by simp [K.opens, h1])
    have H1 := Lib.hid h1
    clear h1
    go_enter Try.func11, Try.ntmps11
    go_wp2_with fail
    refine (sound_any A n c l _ (hl.below b0) hn).mono ?_; rw [H1.out]; rintro e w1 ⟨rfl, b1⟩
    go_wp2_with fail
    go_ret
    exact ⟨ret_b HX.out.symm, bel b0 b1⟩
  · have H1 := Lib.hid h1
    clear h1
    cases h2 : K.has n i
    · have HX := Lib.hid (show K.opens l i v b = false by simp [K.opens, ← hl.1, h2])
      have H2 := Lib.hid h2
      clear h2
      go_enter Try.func11, Try.ntmps11
      go_wp2_with fail
      refine (sound_any A n c l _ (hl.below b0) hn).mono ?_; rw [H1.out]; rintro e w1 ⟨rfl, b1⟩
      have hP := blk_below b1 hP
      have p0 := blk_cell hP 0 _ rfl
      go_wp2_with fail
      refine (has_any A n c i _).mono ?_; rw [H2.out]; rintro e w2 ⟨rfl, b2⟩
      go_wp2_with fail
      go_ret
      exact ⟨ret_b HX.out.symm, bel (bel b0 b1) b2⟩
    · obtain ⟨i0, i1⟩ := K.has_iff.1 h2
      obtain ⟨j, rfl⟩ : ∃ j : Nat, i = j := ⟨i.toNat, by omega⟩
      have hjn : j < n := by omega
      obtain ⟨ad, x, rfl, hx, _, _, _, _⟩ := Items.at_ hl hjn
      have HX := Lib.hid (show K.opens l j v b = ((x.val == v) && (x.bl == b)) by simp only [K.opens, ← hl.1, h2, H1.out, Int.toNat_natCast, hx]; rfl)
      have H2 := Lib.hid h2
      have HG := Lib.hid hx
      clear h2 hx
      go_enter Try.func11, Try.ntmps11
      go_wp2_with fail
      refine (sound_any (some ad) n c l _ (hl.below b0) hn).mono ?_; rw [H1.out]; rintro e w1 ⟨rfl, b1⟩
      have hP := blk_below b1 hP
      have hb := bel b0 b1
      clear b0 b1
      have p0 := blk_cell hP 0 _ rfl
      go_wp2_with fail
      refine (has_any (some ad) n c j _).mono ?_; rw [H2.out]; rintro e w2 ⟨rfl, b2⟩
      have hP := blk_below b2 hP
      have hb := bel hb b2
      clear p0 b2
      have p0 := blk_cell hP 0 _ rfl
      obtain ⟨ad', x', he, hx, c0, c1, c2, c3⟩ := Items.at_ (hl.below hb) hjn
      injection he with he; subst he
      rw [HG.out] at hx; injection hx with hx; subst hx
      cases hv : (x.val == v)
      · go_wp2_with fail
        go_ret
        exact ⟨ret_b (by rw [HX.out, hv]; rfl), hb⟩
      · go_wp2_with fail
        go_ret
        exact ⟨ret_b (by rw [HX.out, hv]; rfl), hb⟩
end Go.Proofs.Ytijkaiilecpbcaa
