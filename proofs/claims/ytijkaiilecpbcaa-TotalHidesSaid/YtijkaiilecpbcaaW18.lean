/-
The walk of sane: Build at the example, and what is asked of it.
-/
import Derived.Test.YtijkaiilecpbcaaW17
import Derived.Test.YtijkaiilecpbcaaW7
import Derived.Test.YtijkaiilecpbcaaW12
import Derived.Test.YtijkaiilecpbcaaW11
import Derived.Deep.RegionWith
namespace Go.Proofs.Ytijkaiilecpbcaa
open Go.RowKit

theorem build_any (A : Option Addr) (n c : Nat) (v : List It) (B : Option Addr) (m d : Nat) (l : List Ln) (w : World) (hv : Items w A n v) (hn : n ≤ 100000) (hl : Lines w B m l) (hm : m ≤ 100000) :
    Calls Try.prog 9 #[.agg #[.slice A n c], .slice B m d] w fun e w' => BuiltAt (K.build v l) e w' ∧ Below w.heap.size w w' := by
  by_cases h : (!K.sound v || l.isEmpty || l.any fun x => !K.right x) = true ∨ (64 < m ∨ 1001 < n + 2 * m)
  · exact build_no A n c v B m d l w hv hn hl hm h
  · have h1 : K.sound v = true := by
      cases e : K.sound v
      · exact absurd (.inl (by rw [e]; rfl)) h
      · rfl
    have h2 : (l.any fun x => !K.right x) = false := by
      cases e : (l.any fun x => !K.right x)
      · rfl
      · exact absurd (.inl (by rw [e]; simp)) h
    have h3 : m ≠ 0 := fun e => h (.inl (by
      have : l = [] := List.length_eq_zero_iff.1 (by rw [← hl.1]; exact e)
      rw [this]; simp))
    exact build_yes A n c v B m d l w hv hl h1 h2 h3 (by omega) (by omega)

theorem K.ex_sound : K.sound K.exItems = true := by kernel_rfl
theorem K.ex_p41 : K.path K.exItems 4 1 = [4, 3, 1] := by kernel_rfl
theorem K.ex_p42 : K.path K.exItems 4 2 = [4, 2] := by kernel_rfl
theorem K.ex_p32 : K.path K.exItems 3 2 = [] := by kernel_rfl
def K.exView : List It := [⟨60, 24, 3, 2⟩, ⟨-1, -1, 0, 1⟩, ⟨20, 8, -1, -1⟩]
theorem K.ex_view : K.view K.exItems [4, 3, 1] = K.exView := by kernel_rfl
theorem K.ex_c1 : K.check K.exItems [4, 3, 1] 60 24 ⟨5, 20, 8⟩ = true := by kernel_rfl
theorem K.ex_c2 : K.check K.exItems [4, 3, 1] 60 24 ⟨5, 21, 8⟩ = false := by kernel_rfl

theorem ints_lit' (w : World) (l : List Int) (n : Nat) (hn : l.length = n) (cs : Array Value) (hc : cs = (intCells l).toArray) : Ints (w.alloc (.cells cs 3)) (some ⟨w.heap.size, 0, none⟩) n l := by
  subst hn hc
  exact ints_lit w l
theorem ex_path (A : Option Addr) (c : Nat) (a b : Int) (p : List Int) (k : Nat) (hp : K.path K.exItems a b = p) (hk : p.length = k) (w : World) (hl : Items w A 5 K.exItems) :
    Calls Try.prog 12 #[.agg #[.slice A 5 c], .int .i64 a, .int .i64 b] w fun e w' => (∃ A' c', e = .returned (.slice A' k c') ∧ Ints w' A' k p) ∧ Below w.heap.size w w' := by
  refine (path_any A 5 c K.exItems a b w hl (by omega)).mono ?_
  rintro e w' ⟨⟨A', n', c', rfl, hI⟩, hb⟩
  rw [hp] at hI
  have := hI.1
  rw [hk] at this
  subst this
  exact ⟨⟨A', c', rfl, hI⟩, hb⟩
theorem ex_view_any (A : Option Addr) (c : Nat) (B : Option Addr) (d : Nat) (w : World) (hl : Items w A 5 K.exItems) (hp : Ints w B 3 [4, 3, 1]) :
    Calls Try.prog 14 #[.agg #[.slice A 5 c], .slice B 3 d] w fun e w' => (∃ A' c', e = .returned (.slice A' 3 c') ∧ Items w' A' 3 K.exView) ∧ Below w.heap.size w w' := by
  refine (view_any A 5 c K.exItems B 3 d _ w hl (by omega) hp (by omega)).mono ?_
  rintro e w' ⟨⟨A', n', c', rfl, hI⟩, hb⟩
  rw [K.ex_view] at hI
  have : n' = 3 := hI.1
  subst this
  exact ⟨⟨A', c', rfl, hI⟩, hb⟩
theorem ex_ints (A B : Option Addr) (n c d : Nat) (l : List Int) (w : World) (hn : n ≤ 100) (hla : Ints w A n l) (hlb : Ints w B n l) :
    Calls Try.prog 16 #[.slice A n c, .slice B n d] w fun e w' => e = .returned (.bool true) ∧ Below w.heap.size w w' := by
  have h := sameInts_any A B n n c d l l w hla hlb (by omega) (by omega)
  rw [show decide (l = l) = true by simp] at h
  exact h
theorem ex_same (A B : Option Addr) (n c d : Nat) (l : List It) (w : World) (hn : n ≤ 100) (hla : Items w A n l) (hlb : Items w B n l) :
    Calls Try.prog 15 #[.slice A n c, .slice B n d] w fun e w' => e = .returned (.bool true) ∧ Below w.heap.size w w' := by
  have h := same_any A B n n c d l l w hla hlb (by omega) (by omega)
  rw [show decide (l = l) = true by simp] at h
  exact h
theorem ex_soundAny (A : Option Addr) (c : Nat) (w : World) (hl : Items w A 5 K.exItems) : Calls Try.prog 10 #[.agg #[.slice A 5 c]] w fun e w' => e = .returned (.bool true) ∧ Below w.heap.size w w' := by
  have h := sound_any A 5 c K.exItems w hl (by omega)
  rw [K.ex_sound] at h
  exact h
theorem ex_check (A : Option Addr) (c : Nat) (B : Option Addr) (d : Nat) (x : Ln) (r : Bool) (hr : K.check K.exItems [4, 3, 1] 60 24 x = r) (w : World) (hl : Items w A 5 K.exItems) (hp : Ints w B 3 [4, 3, 1]) :
    Calls Try.prog 13 #[.agg #[.slice A 5 c], .slice B 3 d, .int .i64 60, .int .i64 24, .agg #[.int .i64 x.hh, .int .i64 x.cents, .int .i64 x.bl]] w fun e w' => e = .returned (.bool r) ∧ Below w.heap.size w w' := by
  have h := check_any A 5 c K.exItems B 3 d [4, 3, 1] 60 24 x w hl (by omega) hp (by omega)
  rw [hr] at h
  exact h

/-- Of what was there all stands, and the vault's cell. -/
def VAt (wr : World) (g : Nat) (u : Value) (w' : World) : Prop := Below wr.heap.size wr w' ∧ w'.cell? ⟨g, 0, none⟩ = some u
theorem VAt.next {wr : World} {g : Nat} {u : Value} {w' w'' : World} (h : VAt wr g u w') (hb : Below w'.heap.size w' w'') : VAt wr g u w'' := ⟨bel h.1 hb, (hb.cell (cell_lt h.2)).trans h.2⟩
theorem VAt.drew {wr : World} {g : Nat} {u : Value} {w' : World} (h : VAt wr g u w') : VAt wr g u w'.drew := ⟨h.1.drew, h.2⟩
theorem VAt.alloc {wr : World} {g : Nat} {u : Value} {w' : World} (h : VAt wr g u w') (o : Obj) : VAt wr g u (w'.alloc o) := h.next ((Below.refl _ _).alloc (Nat.le_refl _) o)

set_option maxRecDepth 100000 in
set_option maxHeartbeats 16000000 in
theorem sane_any (w : World) : Calls Try.prog 7 #[] w fun e w' => e = .returned (.bool true) ∧ Below w.heap.size w w' := by
  go_enter Try.func7, Try.ntmps7
  go_wp2_with fail
  refine (example_any w).mono ?_
  rintro e w1 ⟨⟨B, d, rfl, hB⟩, b1⟩
  go_wp2_with fail
  refine (build_any none 0 0 [] B 3 d K.ex w1 (items_nil _) (by omega) hB (by omega)).mono ?_
  rintro e w2 ⟨⟨A, n, c, L, m, q, rfl, hA, hL⟩, b2⟩
  rw [K.ex_build] at hA hL ⊢
  have hn : n = 5 := hA.1
  have hm : m = 3 := hL.1
  subst hn hm
  have hbw2 := bel b1 b2
  obtain ⟨w3, hw3⟩ : ∃ w3, w3 = w2.alloc (.cells #[.slice A 5 c] 24) := ⟨_, rfl⟩
  have b3 : Below w2.heap.size w2 w3 := by rw [hw3]; exact (Below.refl _ _).alloc (Nat.le_refl _) _
  have v3 : w3.cell? ⟨w2.heap.size, 0, none⟩ = some (.slice A 5 c) := by rw [hw3]; exact blk_cell (heap_alloc_new w2 _) 0 _ rfl
  have hbw3 := bel hbw2 b3
  have hA3 := hA.below b3
  have hL3 : Ints w3 L 3 [0, 1, 2] := hL.below b3
  clear b1 b2 hB hA hL hbw2
  go_wp2_with fail
  rw [← hw3]
  clear hw3 b3
  have S0 : VAt w3 w2.heap.size (.slice A 5 c) w3 := ⟨Below.refl _ _, v3⟩
  have hA4 : ∀ w', VAt w3 w2.heap.size (.slice A 5 c) w' → Items w' A 5 K.exItems := fun w' h => hA3.below h.1
  have hL4 : ∀ w', VAt w3 w2.heap.size (.slice A 5 c) w' → Ints w' L 3 [0, 1, 2] := fun w' h => hL3.below h.1
  go_region_held3 (fun w' => Below w3.heap.size w3 w' ∧ w'.cell? ⟨w2.heap.size, 0, none⟩ = some (.slice A 5 c))
    (first | assumption | exact S0 | exact VAt.drew (by assumption) | exact VAt.next (by assumption) (by assumption) | exact VAt.alloc (by assumption) _)
    (first | (go_at_call 16; refine (ex_ints L _ 3 q _ [0, 1, 2] _ ?_ (hL4 _ ?_) ?_).mono ?_; omega; assumption; (first | exact ints_lit' _ _ _ (by rfl) _ (by rfl) | exact (ints_lit' _ _ _ (by rfl) _ (by rfl)).below (Below.refl _ _).drew); rintro e w' ⟨rfl, hbn⟩) | (go_at_call 18; refine (items_any _).mono ?_; rintro e w4 ⟨⟨A5, c5, rfl, hI5⟩, hbn⟩) | (go_at_call 15; refine (ex_same A A5 5 c c5 K.exItems _ ?_ (hA4 _ ?_) hI5).mono ?_; omega; assumption; rintro e w' ⟨rfl, hbn⟩) | (go_at_call 10; refine (ex_soundAny A c _ (hA4 _ ?_)).mono ?_; assumption; rintro e w' ⟨rfl, hbn⟩) | fail)
  have hH : VAt w3 w2.heap.size (.slice A 5 c) w' := by assumption
  have p0 := hH.2
  go_wp2_with fail
  refine (ex_path A c 4 1 [4, 3, 1] 3 K.ex_p41 rfl _ (hA4 _ hH)).mono ?_
  rintro e w5 ⟨⟨Ap, cp, rfl, hP⟩, b5⟩
  have hH5 := hH.next b5
  have hbw5 := bel hbw3 hH5.1
  have hA5 := hA4 _ hH5
  obtain ⟨w6, hw6⟩ : ∃ w6, w6 = w5.alloc (.cells (itemCells K.exView).toArray 37) := ⟨_, rfl⟩
  have b6 : Below w5.heap.size w5 w6 := by rw [hw6]; exact (Below.refl _ _).alloc (Nat.le_refl _) _
  have hW : Items w6 (some ⟨w5.heap.size, 0, none⟩) 3 K.exView := by rw [hw6]; exact ⟨rfl, Rd.of_block (t := 37) (cs := (itemCells K.exView).toArray) (heap_alloc_new w5 _) 4 3 rfl⟩
  have v6 := (hH5.next b6).2
  have hs6 : w6.heap.size = w5.heap.size + 1 := by rw [hw6]; exact World.size_alloc _ _
  have hbw6 := bel hbw5 b6
  have hA6 := hA5.below b6
  have hP6 := hP.below b6
  simp only [itemCells, K.exView, It.cells, List.flatMap_cons, List.flatMap_nil, List.cons_append, List.nil_append, List.append_nil] at hw6
  clear hH hH5 hbw5 hA5 b6 hP hbw3 p0 v3 S0 hA4 hL4 hA3 hL3 b5
  go_wp2_with fail
  rw [← hw6]
  clear hw6
  have S6 : VAt w6 w2.heap.size (.slice A 5 c) w6 := ⟨Below.refl _ _, v6⟩
  have hA7 : ∀ w', VAt w6 w2.heap.size (.slice A 5 c) w' → Items w' A 5 K.exItems := fun w' h => hA6.below h.1
  have hP7 : ∀ w', VAt w6 w2.heap.size (.slice A 5 c) w' → Ints w' Ap 3 [4, 3, 1] := fun w' h => hP6.below h.1
  have hW7 : ∀ w', VAt w6 w2.heap.size (.slice A 5 c) w' → Items w' (some ⟨w5.heap.size, 0, none⟩) 3 K.exView := fun w' h => hW.below h.1
  clear hW
  have L6 := ints_lit' w6 [4, 3, 1] 3 (by rfl) #[.int .i64 4, .int .i64 3, .int .i64 1] (by rfl)
  rw [hs6] at L6
  have T6 := S6.alloc (.cells #[.int .i64 4, .int .i64 3, .int .i64 1] 3)
  refine (ex_ints Ap _ 3 cp _ [4, 3, 1] _ (by omega) (hP7 _ T6) L6).mono ?_
  rintro e w7 ⟨rfl, b7⟩
  have S7 := T6.next b7
  have v7 := S7.2
  clear b7 T6
  go_wp2_with fail
  refine (ex_path A c 4 2 [4, 2] 2 K.ex_p42 rfl _ (hA7 _ S7)).mono ?_
  rintro e w8 ⟨⟨Aq, cq, rfl, hQ⟩, b8⟩
  have S8 := S7.next b8
  have v8 := S8.2
  clear b8 S7 v7
  go_wp2_with fail
  have T8 := S8.alloc (.cells #[.int .i64 4, .int .i64 2] 3)
  refine (ex_ints Aq _ 2 cq _ [4, 2] _ (by omega) (hQ.below ((Below.refl _ _).alloc (Nat.le_refl _) _)) (ints_lit' w8 [4, 2] 2 (by rfl) #[.int .i64 4, .int .i64 2] (by rfl))).mono ?_
  rintro e w9 ⟨rfl, b9⟩
  have S9 := T8.next b9
  have v9 := S9.2
  clear b9 T8 hQ S8 v8
  go_wp2_with fail
  refine (ex_path A c 3 2 [] 0 K.ex_p32 rfl _ (hA7 _ S9)).mono ?_
  rintro e w10 ⟨⟨A0, c0, rfl, _⟩, b10⟩
  have S10 := S9.next b10
  have v10 := S10.2
  clear b10 S9 v9
  go_wp2_with fail
  refine (ex_view_any A c Ap cp _ (hA7 _ S10) (hP7 _ S10)).mono ?_
  rintro e w11 ⟨⟨Av, cv, rfl, hV⟩, b11⟩
  have S11 := S10.next b11
  clear b11 S10 v10
  go_wp2_with fail
  refine (ex_same Av _ 3 cv _ K.exView _ (by omega) hV (hW7 _ S11)).mono ?_
  rintro e w12 ⟨rfl, b12⟩
  have S12 := S11.next b12
  have v12 := S12.2
  have hbw12 := bel hbw6 S12.1
  have hA12 := hA7 _ S12
  have hP12 := hP7 _ S12
  clear b12 S11 hV S12 hA7 hP7 hW7 hA6 hP6 S6 v6 hbw6
  have S12 : VAt w12 w2.heap.size (.slice A 5 c) w12 := ⟨Below.refl _ _, v12⟩
  have hA9 : ∀ w', VAt w12 w2.heap.size (.slice A 5 c) w' → Items w' A 5 K.exItems := fun w' h => hA12.below h.1
  have hP9 : ∀ w', VAt w12 w2.heap.size (.slice A 5 c) w' → Ints w' Ap 3 [4, 3, 1] := fun w' h => hP12.below h.1
  go_wp2_with fail
  have S12d := S12.drew
  have v12d := S12d.2
  go_region_with (first | (go_at_call 17; refine (example_any _).mono ?_; rintro e w13 ⟨⟨A9, c9, rfl, hL9⟩, hbn⟩; have S13 := S12d.next hbn; have v13 := S13.2; obtain ⟨ad9, x9, rfl, hx9, z0, z1, z2⟩ := Lines.at_ hL9 (show 1 < 3 by omega); simp [K.ex] at hx9; subst hx9; simp only [Nat.one_mul] at z0 z1 z2; rw [show ad9.add 3 = ⟨ad9.block, ad9.off + 3, none⟩ from add_pos ad9 2] at z0 z1 z2; simp only [] at z1 z2) | (go_at_call_of 13 (Value.int IntKind.i64 21); refine (ex_check A c Ap cp ⟨5, 21, 8⟩ false K.ex_c2 _ (hA9 _ S14) (hP9 _ S14)).mono ?_; rintro e w15 ⟨rfl, hbn⟩; have S15 := S14.next hbn) | (go_at_call 13; refine (ex_check A c Ap cp ⟨5, 20, 8⟩ true K.ex_c1 _ (hA9 _ S13) (hP9 _ S13)).mono ?_; rintro e w14 ⟨rfl, hbn⟩; have S14 := S13.next hbn; have v14 := S14.2) | fail)
  all_goals
    have hbF := bel hbw12 S15.1
    go_wp2_with fail
    go_ret
    exact ⟨rfl, hbF⟩
end Go.Proofs.Ytijkaiilecpbcaa
