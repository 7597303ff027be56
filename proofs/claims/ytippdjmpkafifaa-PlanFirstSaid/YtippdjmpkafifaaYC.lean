/-
Plans: the walk of plan.sets.
Plans: the walk of slices.ContainsFunc at lists (plan.Refute's closure).
Plans: what route.Labels hands back is new.
Plans: what the walk of plan.Refute wants: lists that own, blocks in memory.
Plans: the walk of plan.Refute.
-/
import Derived.Test.YtippdjmpkafifaaYB
namespace Go.Proofs.Ytippdjmpkafifaa
open Go.RowKit
namespace A
theorem combos_few_all : ∀ b : Fin 7, ∀ n : Fin 7, ∀ f : Fin 8, (combos b.val n.val f.val).length ≤ 64 := by decide +kernel
theorem combos_few {b n f : Nat} (hb : b ≤ 6) (hn : n ≤ 6) (hf : f ≤ 7) : (combos b n f).length ≤ 64 := combos_few_all ⟨b, by omega⟩ ⟨n, by omega⟩ ⟨f, by omega⟩
theorem range_snoc (f k : Nat) : List.range' f (k + 1) = List.range' f k ++ [f + k] := by rw [List.range'_concat]; simp
end A
/-- What plan.sets hands back: all of it new. -/
def NewL (B : Nat) (L : List Sh) : Prop := ∀ s ∈ L, 0 < s.n → ∀ ad, s.A = some ad → B ≤ ad.block
def RetSets (w w' : World) (L : List (List Int)) (e : Ending) : Prop := (∃ E m c l, e = .returned (.slice E m c) ∧ Shs w' E m l ∧ m ≤ c ∧ l.map Sh.l = L ∧ (∀ ad, E = some ad → w.heap.size ≤ ad.block) ∧ NewL w.heap.size l) ∧ Below w.heap.size w w'
/-- The lists that a row of lists holds, away from the row. -/
def RowOk (w : World) (v : Value) (L : List Sh) : Prop := ∀ s ∈ L, (Ints w s.A s.n s.l ∧ s.n ≤ s.c ∧ (s.A = none → s.n = 0 ∧ s.c = 0)) ∧ (0 < s.n → ∀ ad, s.A = some ad → v.ownBlock ≠ some ad.block)
theorem RowOk.below {w w' : World} {v : Value} {L : List Sh} (h : RowOk w v L) (hb : Below w.heap.size w w') : RowOk w' v L := fun s hs => ⟨⟨(h s hs).1.1.below hb, (h s hs).1.2⟩, (h s hs).2⟩
theorem own_shs {w : World} {base n : Nat} {v : Value} {L : List Sh} (h : w.ownsRow base 41 1 v n (L.map Sh.val)) (hn : n = L.length) (ho : RowOk w v L) : ∃ E c, v = .slice E n c ∧ Shs w E n L ∧ n ≤ c ∧ ∀ ad, E = some ad → base ≤ ad.block := by
  have hnw : ∀ E c, v = .slice E n c → ∀ ad, E = some ad → base ≤ ad.block := fun E c e ad e2 => by
    obtain ⟨-, -, -, -, h3⟩ := own_form h
    exact (h3 ad.block (by rw [e, e2]; rfl)).1
  rcases Nat.eq_zero_or_pos n with h0 | h0
  · obtain ⟨A, c, e, hR, -⟩ := own_form h
    have hc : n ≤ c := by omega
    have hL : L = [] := List.length_eq_zero_iff.1 (by omega)
    exact ⟨A, c, e, ⟨⟨hn, by rw [hL]; simp [h0], fun h => absurd h (by omega)⟩, fun s hs => (ho s hs).1⟩, hc, hnw _ _ e⟩
  · obtain ⟨g, cap, cur, e, -, hc, hr⟩ := row_own h h0
    exact ⟨_, cap, e, hr.shs fun s hs => (ho s hs).1, hc, hnw _ _ e⟩

theorem app_shs {ops : Array Oper} {rest : List Oper} {o : Oper} {a : Act} {Q : Exit → Act → World → Prop} {w : World} (hgd : o.guard = none) (s x : Operand)
    (ho : o.op = .call { callee := .builtin .append, args := #[s, x], argTypes := #[79, 79] })
    (base : Nat) (v : Value) (n : Nat) (L : List Sh) (hs : a.eval s = v) (hown : w.ownsRow base 41 1 v n (L.map Sh.val)) (g : Nat) (y : Sh) (hx : a.eval x = .slice (some ⟨g, 0, none⟩) 1 1)
    (hg : w.heap[g]? = some (.cells #[.slice y.A y.n y.c] 41 (0, 0))) (hn : n ≤ 1000000) (hbase : base ≤ w.heap.size)
    (h : ∀ v' w', w'.ownsRow base 41 1 v' (n + 1) ((L ++ [y]).map Sh.val) → w.grownBy w' v.ownBlock → (v'.ownBlock = v.ownBlock ∨ v'.ownBlock = some w.heap.size) → wpList Try.prog ops Q rest (a.put o.dst v') w') :
    wpList Try.prog ops Q (o :: rest) a w := by
  obtain ⟨i0, hi, hz0, hz1, hz2⟩ := info_parts Try.info41
  refine wpList_append_own_at w hgd s x 79 ho base 41 i0 (.slice none 0 0) 1 24 Try.underlying79 hi hz0 hz1 hz2 rfl (by decide) v n (L.map Sh.val) hs hown ⟨g, 0, none⟩ 1 1 [y.val] hx rfl ?_ ?_ ?_ ?_ hbase ?_
  · intro j u hu
    rw [add_zero_block]
    exact blk_cell hg j u (by simpa [Sh.val] using hu)
  · intro u hu
    simp at hu
    subst hu; rfl
  · simp only [maxLen]; omega
  · omega
  · intro v' w' h2 h3 _ h5
    exact h v' w' (by rw [List.map_append]; exact h2) h3 h5
theorem RowOk.grow {w w' : World} {v v' : Value} {L : List Sh} (h : RowOk w v L) (hg : w.grownBy w' v.ownBlock) (ha : v'.ownBlock = v.ownBlock ∨ v'.ownBlock = some w.heap.size) : RowOk w' v' L := fun s hs => by
  obtain ⟨⟨h1, h2⟩, h3⟩ := h s hs
  refine ⟨⟨h1.grow hg fun h0 ad e e2 => h3 h0 ad e e2.symm, h2⟩, fun h0 ad e e2 => ?_⟩
  rcases ha with e3 | e3
  · rw [e3] at e2; exact h3 h0 ad e e2
  · rw [e3] at e2
    injection e2 with e2
    have := h1.lt_of h0 e
    omega
theorem RowOk.snoc {w : World} {v : Value} {L : List Sh} (h : RowOk w v L) {y : Sh} (h1 : Ints w y.A y.n y.l ∧ y.n ≤ y.c ∧ (y.A = none → y.n = 0 ∧ y.c = 0)) (h2 : 0 < y.n → ∀ ad, y.A = some ad → v.ownBlock ≠ some ad.block) : RowOk w v (L ++ [y]) := fun s hs => by
  rcases List.mem_append.1 hs with hs | hs
  · exact h s hs
  · rw [List.mem_singleton] at hs
    rw [hs]
    exact ⟨h1, h2⟩

theorem own_in {w : World} {base : Nat} {e : TypeId} {size n : Nat} {v : Value} {xs : List Value} (h : w.ownsRow base e size v n xs) : ∀ g, v.ownBlock = some g → base ≤ g ∧ g < w.heap.size := by
  obtain ⟨-, -, -, -, h3⟩ := own_form h
  exact h3
theorem Shs.grown {w w' : World} {E : Option Addr} {n : Nat} {l : List Sh} {r : Option Nat} (h : Shs w E n l) (hg : w.grownBy w' r) (hE : 0 < n → ∀ ad, E = some ad → some ad.block ≠ r) (hs : ∀ s ∈ l, 0 < s.n → ∀ ad, s.A = some ad → some ad.block ≠ r) : Shs w' E n l := by
  refine ⟨⟨h.1.1, h.1.2.1, fun h0 => ?_⟩, fun s hm => ⟨(h.2 s hm).1.grow hg (hs s hm), (h.2 s hm).2⟩⟩
  obtain ⟨ad, e, hc⟩ := h.1.2.2 h0
  refine ⟨ad, e, fun j u hu => ?_⟩
  have c := hc j u hu
  exact (World.cell?_of_block (hg.block _ (cell_lt c) (by rw [add_block]; exact hE h0 ad e))).trans c
theorem NewL.mono {B C : Nat} {L : List Sh} (h : NewL B L) (hc : C ≤ B) : NewL C L := fun s hs h0 ad e => Nat.le_trans hc (h s hs h0 ad e)
theorem NewL.snoc {B : Nat} {L : List Sh} {y : Sh} (h : NewL B L) (hy : 0 < y.n → ∀ ad, y.A = some ad → B ≤ ad.block) : NewL B (L ++ [y]) := fun s hs => by
  rcases List.mem_append.1 hs with hs | hs
  · exact h s hs
  · rw [List.mem_singleton] at hs
    rw [hs]; exact hy
set_option maxRecDepth 100000 in
/-- A list behind one number of an own literal. -/
theorem wp_pre {ops : Array Oper} {rest : List Oper} {o : Oper} {a : Act} {w w2 : World} {Q : Exit → Act → World → Prop} (hgd : o.guard = none) (s x : Operand)
    (ho : o.op = .call { callee := .builtin .append, args := #[s, x], argTypes := #[41, 41] })
    (g : Nat) (i : Int) (hs : a.eval s = .slice (some ⟨g, 0, none⟩) 1 1) (hg : w.heap[g]? = some (.cells #[.int .i64 i] 3 (0, 0))) (hb2 : Below w2.heap.size w2 w) (hbg : w2.heap.size ≤ g)
    {A : Option Addr} {m c : Nat} {l : List Int} (hx : a.eval x = .slice A m c) (hI : Ints w2 A m l) (hm : m ≤ 1000000)
    (h : ∀ B c w', Ints w' (some B) (m + 1) (i :: l) → m + 1 ≤ c → Below w2.heap.size w2 w' → w2.heap.size ≤ B.block → wpList Try.prog ops Q rest (a.put o.dst (.slice (some B) (m + 1) c)) w') :
    wpList Try.prog ops Q (o :: rest) a w := by
  obtain ⟨i0, hi, hz0, hz1, hz2⟩ := info_parts Try.info3
  have hown : w.ownsRow w2.heap.size 3 1 (.slice (some ⟨g, 0, none⟩) 1 1) 1 [.int .i64 i] := ⟨rfl, .inr ⟨g, 1, _, rfl, hbg, hg, Nat.le_refl _, by simp [maxLen], rfl, rfl⟩⟩
  refine wp_append_rd hgd s x 41 ho w2.heap.size 3 i0 (.int .i64 0) 1 8 Try.underlying41 hi hz0 hz1 hz2 rfl (by decide) _ 1 [.int .i64 i] hs hown A m c (intCells l) hx (hI.below hb2).2 (fun u hu => ?_) (by simp only [maxLen]; omega) (by omega) hb2.size fun v' w' h2 h3 h4 => ?_
  · obtain ⟨z, -, rfl⟩ := List.mem_map.1 hu
    rfl
  · have e : 1 + m = m + 1 := by omega
    rw [e] at h2
    have h2' : w'.ownsRow w2.heap.size 3 1 v' (m + 1) (intCells (i :: l)) := h2
    obtain ⟨-, ⟨-, e0⟩ | ⟨g', cap, cur, rfl, hb', hh, hnc, -⟩⟩ := h2
    · omega
    · obtain ⟨A', c', e', hI'⟩ := own_ints h2' (by rw [List.length_cons, ← hI.1])
      injection e' with e1 e2 e3
      subst e1 e3
      exact h _ _ w' hI' hnc (below_own hb2 (Nat.le_refl _) h3 fun g' e => (by have e : some g = some g' := e; injection e with e; omega)) hb'

set_option maxRecDepth 100000 in
set_option maxHeartbeats 16000000 in
theorem sets35_any (b : Nat) (hb6 : b ≤ 6) : ∀ (n f : Nat) (w : World), n ≤ 6 → f ≤ 7 → Calls Try.prog 35 #[.int .i64 f, .int .i64 b, .int .i64 n] w fun e w' => RetSets w w' (A.combos b n f) e := by
  intro n
  induction n with
  | zero =>
    intro f w _ hf
    have hd : decide ((0 : Int) = 0) = true := rfl
    go_enter Try.func35, Try.ntmps35
    go_wp2_with fail
    go_ret
    have hr : RowAt (w.alloc (.cells #[.slice none 0 0] 41)) w.heap.size 1 #[.slice none 0 0] [⟨none, 0, 0, []⟩] := ⟨heap_alloc_new _ _, rfl, fun k s hk => by
      cases k with
      | zero => simp at hk; subst hk; rfl
      | succ k => simp at hk⟩
    exact ⟨⟨_, 1, 1, [⟨none, 0, 0, []⟩], rfl, hr.shs fun s hs => by rw [List.mem_singleton] at hs; rw [hs]; exact ⟨ints_nil _, Nat.le_refl _, fun _ => ⟨rfl, rfl⟩⟩, Nat.le_refl _, rfl, fun ad e => (by injection e with e; rw [← e]; exact Nat.le_refl _), fun s hs h0 => (by rw [List.mem_singleton] at hs; rw [hs] at h0; exact absurd h0 (by simp))⟩, (Below.refl _ _).alloc (Nat.le_refl _) _⟩
  | succ n ih =>
    intro f w hn hf
    have hd : decide (((n + 1 : Nat) : Int) = 0) = false := by simp; omega
    have hd2 : (((n + 1 : Nat) : Int) == 0) = false := by simp; omega
    obtain ⟨N, hNn⟩ : ∃ N, N = n + 1 := ⟨_, rfl⟩
    rw [← hNn] at hd hd2 ⊢
    have kN : IntKind.i64.wrap ((N : Int) - 1) = (n : Int) := by rw [IntWalk.i64_in _ (by omega)]; omega
    have HC := Lib.hid (show A.combos b N f = (List.range' f (b - f)).flatMap fun i => (A.combos b n (i + 1)).map ((i : Int) :: ·) by rw [hNn]; rfl)
    have hN0 : ((N : Int) = 0) = False := by simp; omega
    clear hNn
    go_enter Try.func35, Try.ntmps35
    go_wp2_with fail
    clear hd hd2 hN0
    go_loopw [7, 8] (fun v7 v8 wr => ∃ (i : Nat) (L : List Sh), v8 = .int .i64 i ∧ f ≤ i ∧ (i ≤ b ∨ i = f) ∧ wr.ownsRow w.heap.size 41 1 v7 L.length (L.map Sh.val) ∧ RowOk wr v7 L ∧ NewL w.heap.size L ∧ Below w.heap.size w wr ∧ L.length ≤ 64 * (i - f) ∧ Hid (L.map Sh.l = (List.range' f (i - f)).flatMap fun i => (A.combos b n (i + 1)).map ((i : Int) :: ·))) (fun _ v8 _ => b - (intOf v8).toNat)
    case atStart => exact ⟨f, [], rfl, Nat.le_refl _, .inr rfl, World.ownsRow_nil _ _ _ _, fun s hs => (by cases hs), fun s hs => (by cases hs), Below.refl _ _, Nat.zero_le _, by show _ = _; rw [Nat.sub_self]; rfl⟩
    case round =>
      obtain ⟨i, L, rfl, hfi, hib, hown, hro, hnw, hbr, hll, hcl⟩ := hrel
      by_cases hlt : i < b
      · obtain ⟨i1, hi1⟩ : ∃ i1, i1 = i + 1 := ⟨_, rfl⟩
        have ki : IntKind.i64.wrap ((i : Int) + 1) = (i1 : Int) := by rw [IntWalk.i64_in _ (by omega)]; omega
        have CS := ih i1 wr (by omega) (by omega)
        have HI1 := Lib.hid hi1
        have hi7 : i1 ≤ 6 := by omega
        obtain ⟨D, hD⟩ : ∃ D, D = A.combos b n i1 := ⟨_, rfl⟩
        have hDl : D.length ≤ 64 := by rw [hD]; exact A.combos_few hb6 (by omega) (by omega)
        rw [← hD] at CS
        have HD := Lib.hid hD
        clear hi1 hD
        go_wp2_with fail
        refine CS.mono ?_
        rintro e w2 ⟨⟨E, m, c, l, rfl, hSl, hmc, hlD, hEn, hln⟩, b2⟩
        have hml : m ≤ 64 := by rw [hSl.1.1, ← List.length_map (f := Sh.l), hlD]; exact hDl
        have hl6 : ∀ s ∈ l, s.n ≤ 6 := fun s hs => by
          rw [(hSl.2 s hs).1.1]
          have h9 : s.l ∈ A.combos b n i1 := by rw [← HD.out, ← hlD]; exact List.mem_map_of_mem hs
          have := (A.mem_combos.1 h9).1
          omega
        have FE : 0 < m → ∀ ad, E = some ad → wr.heap.size ≤ ad.block ∧ ad.block < w2.heap.size := fun h0 ad e => by
          obtain ⟨ad', s, e', -, -, hc⟩ := hSl.at_ h0
          rw [e] at e'
          injection e' with e'
          exact ⟨hEn ad e, by rw [e']; exact cell_lt hc⟩
        have FL : ∀ s ∈ l, 0 < s.n → ∀ ad, s.A = some ad → wr.heap.size ≤ ad.block ∧ ad.block < w2.heap.size := fun s hs h0 ad e => ⟨hln s hs h0 ad e, (hSl.2 s hs).1.lt_of h0 e⟩
        have hob : ∀ g, u7.ownBlock = some g → g < wr.heap.size := fun g e => (own_in hown g e).2
        have hown2 := own_below hown b2
        have hro2 := hro.below b2
        have hb2 := bel hbr b2
        have hwr2 := b2.size
        clear CS hown hro hbr b2 hEn hln
        go_wp2_with fail
        obtain ⟨W2, hW2⟩ : ∃ z, z = w2.heap.size := ⟨_, rfl⟩
        obtain ⟨WQ, hWQ⟩ : ∃ z, z = wr.heap.size := ⟨_, rfl⟩
        rw [← hW2, ← hWQ] at FE FL hwr2
        rw [← hWQ] at hob
        go_loopw [7, 27] (fun v7 v27 wi => ∃ (j : Nat) (L' : List Sh), v27 = .int .i64 j ∧ j ≤ m ∧ wi.ownsRow w.heap.size 41 1 v7 L'.length (L'.map Sh.val) ∧ RowOk wi v7 L' ∧ NewL w.heap.size L' ∧ Below w.heap.size w wi ∧ W2 ≤ wi.heap.size ∧ L'.length = L.length + j ∧ Shs wi E m l ∧ (∀ g, v7.ownBlock = some g → g < WQ ∨ W2 ≤ g) ∧ Hid (L'.map Sh.l = L.map Sh.l ++ (l.take j).map fun s => (i : Int) :: s.l)) (fun _ v27 _ => m - (intOf v27).toNat)
        case atStart => exact ⟨0, L, rfl, Nat.zero_le _, hown2, hro2, hnw, hb2, Nat.le_of_eq hW2, rfl, hSl, fun g e => .inl (hob g e), by show _ = _; rw [List.take_zero]; simp⟩
        case round =>
          obtain ⟨j, L', rfl, hj, hownI, hroI, hnwI, hbI, hWI, hlI, hSI, hobI, hcI⟩ := hrel
          by_cases hjm : j < m
          · obtain ⟨ad, s, rfl, hg, ⟨hI, hsc, hs0⟩, hc⟩ := hSI.at_ hjm
            have j0 : decide ((j : Int) < (m : Int)) = true := by simp; omega
            have js : IntKind.i64.wrap ((j : Int) + 1) = ((j + 1 : Nat) : Int) := by rw [IntWalk.i64_in _ (by omega)]; omega
            have hsm := List.mem_of_getElem? hg
            have h6 := hl6 s hsm
            have HG := Lib.hid hg
            have H6 := Lib.hid h6
            have hn9 : s.n ≤ 1000000 := by omega
            have hn8 : L'.length ≤ 1000000 := by omega
            have bA : Below wr.heap.size wr (wr.alloc (.cells #[.int .i64 i] 3)) := (Below.refl _ _).alloc (Nat.le_refl _) _
            have h7 : ∀ g, u7.ownBlock = some g → w.heap.size ≤ g ∧ g < wr.heap.size := fun g e => own_in hownI g e
            have HLI := Lib.hid hlI
            clear hg h6 hlI
            go_wp2_with (first
              | (at_builtin; refine wp_pre rfl (.tmp 33) (.tmp 34) rfl wr.heap.size (i : Int) rfl (heap_alloc_new wr _) bA (Nat.le_refl _) rfl hI hn9 ?_; intro B c9 w9 hI9 hc9 hb9 hB9; have bx9 := bel hb9 ((Below.refl _ _).alloc (Nat.le_refl _) (.cells #[.slice (some B) (s.n + 1) c9] 41)); have bs9 := (bel hbI bx9).size)
              | (at_builtin; refine app_shs rfl (.tmp 31) (.tmp 36) rfl w.heap.size u7 L'.length L' rfl (own_below hownI bx9) w9.heap.size ⟨some B, s.n + 1, c9, (i : Int) :: s.l⟩ rfl (heap_alloc_new w9 _) hn8 bs9 ?_; intro v' w10 hown10 hgrow10 hat10))
            have hBl : B.block < w9.heap.size := hI9.lt_of (by omega) rfl
            have h9s : w9.heap.size ≤ (w9.alloc (.cells #[.slice (some B) (s.n + 1) c9] 41)).heap.size := ((Below.refl w9.heap.size w9).alloc (Nat.le_refl _) _).size
            have h9t := hb9.size
            have h9u := hgrow10.size
            go_roundw
            case rel =>
              refine ⟨j + 1, L' ++ [⟨some B, s.n + 1, c9, (i : Int) :: s.l⟩], by go_num, by omega, by rw [List.length_append]; exact hown10, ((hroI.below bx9).grow hgrow10 hat10).snoc ⟨(hI9.below ((Below.refl _ _).alloc (Nat.le_refl _) _)).grow hgrow10 fun _ ad e e2 => ?_, hc9, fun e => by cases e⟩ (fun _ ad e e2 => ?_), hnwI.snoc (fun _ ad e => ?_), below_own (bel hbI bx9) (Nat.le_refl _) hgrow10 (fun g e => (h7 g e).1), by omega, by rw [List.length_append, HLI.out]; simp; omega, (hSI.below bx9).grown hgrow10 (fun h0 ad e e2 => ?_) (fun t ht h0 ad e e2 => ?_), fun g e => ?_, ?_⟩
              · injection e with e
                have := (h7 _ e2.symm).2
                rw [← e] at this
                omega
              · injection e with e
                rcases hat10 with e3 | e3
                · rw [e3] at e2
                  have := (h7 _ e2).2
                  rw [← e] at this
                  omega
                · rw [e3] at e2
                  injection e2 with e2
                  rw [← e] at e2
                  omega
              · injection e with e
                have := hbI.size
                rw [← e]
                omega
              · have a1 := FE h0 ad e
                have a2 := hobI _ e2.symm
                omega
              · have a1 := FL t ht h0 ad e
                have a2 := hobI _ e2.symm
                omega
              · rcases hat10 with e3 | e3
                · rw [e3] at e
                  exact hobI g e
                · rw [e3] at e
                  injection e with e
                  omega
              · show _ = _
                rw [List.map_append, hcI.out, List.take_add_one, HG.out]
                simp
            case measure => simp [intOf]; omega
          · have j0 : decide ((j : Int) < (m : Int)) = false := by simp; omega
            have HLI := Lib.hid hlI
            have HJ := Lib.hid (show j = m by omega)
            clear hlI
            go_wp2_with fail
            go_roundw
            case rel =>
              have hm : m = l.length := hSl.1.1
              refine ⟨i1, L', rfl, by rw [HI1.out]; omega, .inl (by rw [HI1.out]; omega), hownI, hroI, hnwI, hbI, by rw [HLI.out, HI1.out]; omega, ?_⟩
              show _ = _
              have e : i1 - f = (i - f) + 1 := by rw [HI1.out]; omega
              have e2 : f + (i - f) = i := by omega
              rw [hcI.out, HJ.out, hm, List.take_length, e, A.range_snoc, List.flatMap_append, ← hcl.out, e2]
              rw [List.flatMap_singleton, ← HI1.out, ← HD.out, ← hlD, List.map_map]
              rfl
            case measure => simp [intOf]; have := HI1.out; omega
      · have i0 : decide ((i : Int) < (b : Int)) = false := by simp; omega
        go_wp2_with fail
        go_ret
        obtain ⟨E, c, rfl, hS, hc, hE⟩ := own_shs hown rfl hro
        refine ⟨⟨E, _, c, L, rfl, hS, hc, ?_, hE, hnw⟩, hbr⟩
        rw [hcl.out, HC.out]
        congr 2
        omega
end Go.Proofs.Ytippdjmpkafifaa
namespace Go.Proofs.Ytippdjmpkafifaa
open Go.RowKit
set_option maxHeartbeats 4000000 in
theorem refute1_any (G : Nat) (V : Option Addr) (vn vc : Nat) (v : List Int) (s : Sh) (w : World) (hG : w.heap[G]? = some (.cells #[.slice V vn vc] 41 (0, 0))) (hs : Ints w s.A s.n s.l) (hn : s.n ≤ 1000000000) (hV : Ints w V vn v) (hvn : vn ≤ 1000000000) :
    Calls Try.prog 37 #[.slice s.A s.n s.c, .pointer (some ⟨G, 0, none⟩)] w fun e w' => e = .returned (.bool (A.part s.l v)) ∧ Below w.heap.size w w' := by
  have c0 := blk_cell hG 0 _ rfl
  have CP := part32_any s.A s.n s.c s.l V vn vc v w hs hn hV hvn
  go_enter Try.func37, Try.ntmps37
  go_wp2_with fail
  refine CP.mono ?_
  rintro e w1 ⟨rfl, hb1⟩
  go_wp2_with fail
  go_ret
  exact ⟨rfl, hb1⟩
set_option maxHeartbeats 4000000 in
theorem index62_any (G : Nat) (E : Option Addr) (n c : Nat) (shs : List Sh) (V : Option Addr) (vn vc : Nat) (v : List Int) (w : World) (hl : Shs w E n shs) (hn : n ≤ 1000000000) (hG : w.heap[G]? = some (.cells #[.slice V vn vc] 41 (0, 0))) (h6 : ∀ s ∈ shs, s.n ≤ 1000000000) (hV : Ints w V vn v) (hvn : vn ≤ 1000000000) :
    Calls Try.prog 62 #[.slice E n c, .func (.func 37) #[] #[.pointer (some ⟨G, 0, none⟩)]] w fun e w' => (∃ i : Int, e = .returned (.int .i64 i) ∧ (decide (0 ≤ i)) = shs.any (fun s => A.part s.l v)) ∧ Below w.heap.size w w' := by
  go_enter Try.func62, Try.ntmps62
  go_wp2_with fail
  go_loopw [8] (fun vi wr => ∃ k : Nat, vi = .int .i64 k ∧ k ≤ n ∧ Hid (shs.any (fun s => A.part s.l v) = (shs.drop k).any (fun s => A.part s.l v)) ∧ Below w.heap.size w wr) (fun vi _ => n - (intOf vi).toNat)
  case atStart => exact ⟨0, rfl, by omega, by show _ = _; rw [List.drop_zero], Below.refl _ _⟩
  case round =>
    obtain ⟨k, rfl, hk, hr, hW⟩ := hrel
    by_cases hlt : k < n
    · obtain ⟨ad, s, rfl, hg, ⟨hI, -⟩, c0⟩ := (hl.below hW).at_ hlt
      have HS := Lib.hid (drop_any (p := fun s : Sh => A.part s.l v) hg)
      have CB := refute1_any G V vn vc v s wr (blk_below hW hG) hI (h6 s (List.mem_of_getElem? hg)) (hV.below hW) hvn
      obtain ⟨r9, hr9⟩ : ∃ r9, r9 = A.part s.l v := ⟨_, rfl⟩
      rw [← hr9] at CB
      have HR9 := Lib.hid hr9
      have k0 : (0 : Int) ≤ (k : Int) := by omega
      have k1 : (k : Int) < (n : Int) := by omega
      clear hg hr9 hI
      go_wp2_with fail
      refine CB.mono ?_
      rintro e w1 ⟨rfl, hW1⟩
      have hW2 := bel hW hW1
      clear CB
      cases r9
      · go_wp2_with fail
        go_roundw
        case rel => exact ⟨k + 1, by go_num, by omega, by show _ = _; rw [hr.out, HS.out, ← HR9.out]; rfl, hW2⟩
        case measure => simp [intOf]; omega
      · go_wp2_with fail
        go_ret
        exact ⟨⟨k, rfl, by rw [hr.out, HS.out, ← HR9.out]; simp⟩, hW2⟩
    · have hd : shs.drop k = [] := List.drop_eq_nil_of_le (by rw [← hl.1.1]; omega)
      have HD := Lib.hid hd
      clear hd
      go_wp2_with fail
      go_ret
      exact ⟨⟨-1, rfl, by rw [hr.out, HD.out]; rfl⟩, hW⟩
set_option maxHeartbeats 4000000 in
theorem contains36_any (G : Nat) (E : Option Addr) (n c : Nat) (shs : List Sh) (V : Option Addr) (vn vc : Nat) (v : List Int) (w : World) (hl : Shs w E n shs) (hn : n ≤ 1000000000) (hG : w.heap[G]? = some (.cells #[.slice V vn vc] 41 (0, 0))) (h6 : ∀ s ∈ shs, s.n ≤ 1000000000) (hV : Ints w V vn v) (hvn : vn ≤ 1000000000) :
    Calls Try.prog 36 #[.slice E n c, .func (.func 37) #[] #[.pointer (some ⟨G, 0, none⟩)]] w fun e w' => e = .returned (.bool ((shs.map Sh.l).any fun u => A.part u v)) ∧ Below w.heap.size w w' := by
  have CI := index62_any G E n c shs V vn vc v w hl hn hG h6 hV hvn
  go_enter Try.func36, Try.ntmps36
  go_wp2_with fail
  refine CI.mono ?_
  rintro e w1 ⟨⟨i, rfl, hi⟩, hb1⟩
  go_wp2_with fail
  go_ret
  exact ⟨by rw [List.any_map]; show _ = Ending.returned (.bool (shs.any fun s => A.part s.l v)); rw [← hi]; rfl, hb1⟩
end Go.Proofs.Ytippdjmpkafifaa
namespace Go.Proofs.Ytippdjmpkafifaa
open Go.RowKit
/-- Labels are handed back, in a new block. -/
def RetLabsN (w w' : World) (l : List Lb) (e : Ending) : Prop := (∃ A n c, e = .returned (.slice A n c) ∧ Labs w' A n l ∧ ∀ ad, A = some ad → w.heap.size ≤ ad.block) ∧ Below w.heap.size w w'

set_option maxRecDepth 100000 in
set_option maxHeartbeats 16000000 in
theorem labels39_new (x : C) (V : Option Addr) (vn vc : Nat) (v : List Int) (w : World) (hx : At w x) (hV : Ints w V vn v) (hvc : vn ≤ vc) (hvn : vn ≤ 1000000000) :
    Calls Try.prog 39 #[.agg #[.int .i64 x.nd, .slice x.A x.n x.c], .agg #[.int .i64 x.s.day, .int .i64 x.s.depot, .int .i64 x.s.start, .int .i64 x.s.end_, .int .i64 x.s.tare, .slice x.s.A x.s.n x.s.c], .slice x.B x.m x.d, .slice V vn vc] w fun e w' => RetLabsN w w' (K.labs x.nd x.l x.s x.r v) e := by
  obtain ⟨w0, hw0⟩ : ∃ w0 : World, w0 = (w.alloc (.cells #[.int .i64 x.nd, .slice x.A x.n x.c] 24)).alloc (.cells #[.int .i64 x.s.day, .int .i64 x.s.depot, .int .i64 x.s.start, .int .i64 x.s.end_, .int .i64 x.s.tare, .slice x.s.A x.s.n x.s.c] 43) := ⟨_, rfl⟩
  have b0 : Below w.heap.size w w0 := by rw [hw0]; exact bel ((Below.refl _ _).alloc (Nat.le_refl _) _) ((Below.refl _ _).alloc (Nat.le_refl _) _)
  go_enter Try.func39, Try.ntmps39
  go_wp2_with fail
  rw [← hw0]
  clear hw0
  refine (planned_any x V vn vc v _ (hx.below b0) (hV.below b0) hvc hvn).mono ?_
  rintro e w1 ⟨hret, b1⟩
  have hb := bel b0 b1
  have hsz := b0.size
  rcases hret with ⟨hok, rfl⟩ | ⟨b, mb, rfl, hbb, hbm, hP⟩
  · have HX := Lib.hid (show K.labs x.nd x.l x.s x.r v = [] by simp [K.labs, hok])
    clear hok
    go_wp2_with fail
    go_ret
    exact ⟨⟨none, 0, 0, rfl, by rw [HX.out]; exact ⟨rfl, rfl, fun h => absurd h (by omega)⟩, fun ad e => (nomatch e)⟩, hb⟩
  · have hp := hP (fun _ => False)
    clear hP
    have hLN := hV.1
    have hv6 := (K.ok31_parts hp.ok).2.2.2.2.1
    dsimp only at hv6
    obtain ⟨N, hN⟩ : ∃ N, N = 2 ^ vn := ⟨_, rfl⟩
    have hN64 : N ≤ 64 := by rw [hN]; exact Nat.pow_le_pow_right (by omega) (show vn ≤ 6 by omega)
    have HX := Lib.hid (show K.labs x.nd x.l x.s x.r v = K.tabLabs vn (K.table x.nd x.l x.s x.r v N) N by unfold K.labs; rw [if_pos hp.ok, hN, hLN])
    have hv6' : vn ≤ 6 := by omega
    have HLN := Lib.hid hLN
    have CL := labels_any b mb ⟨x, V, vn, vc, v⟩ N w1 hp hN
    clear hN hLN hv6
    go_wp2_with fail
    refine CL.mono ?_
    rintro e w2 ⟨go, gs, rfl, hT⟩
    have hb2 : Below w.heap.size w w2 := below_own2 hb hT.grown (fun g e => by injection e with e; omega)
    have hTl : ∀ M, M < N → ∃ g row, gs[M]? = some g ∧ (K.table x.nd x.l x.s x.r v N)[M]? = some row ∧ row.length = vn ∧ IBlk w2 g row ∧ w2.cell? ⟨go, M, none⟩ = some (.slice (some ⟨g, 0, none⟩) vn vn) := fun M hM => by
      have hgl : gs.length = N := by rw [hT.len, K.table_len]
      obtain ⟨g, hg⟩ : ∃ g, gs[M]? = some g := ⟨_, List.getElem?_eq_getElem (by omega)⟩
      have hr := K.table_at (nd := x.nd) (l := x.l) (s := x.s) (r := x.r) (v := v) hM
      exact ⟨g, _, hg, hr, by rw [K.rowOf_len, HLN.out], hT.row M g _ hg hr, blk_cell hT.outb M _ (by simpa using tab_at (n := vn) (N := N) hg)⟩
    clear hT CL hp b1 b0
    go_wp2_with fail
    go_loopw [11, 29] (fun v11 v29 wr => ∃ M : Nat, v29 = .int .i64 M ∧ M ≤ N ∧ wr.ownsRow w2.heap.size 137 3 v11 (K.tabLabs vn (K.table x.nd x.l x.s x.r v N) M).length ((K.tabLabs vn (K.table x.nd x.l x.s x.r v N) M).flatMap labCells) ∧ Below w2.heap.size w2 wr) (fun _ v29 _ => N - (intOf v29).toNat)
    case atStart => exact ⟨0, rfl, by omega, World.ownsRow_nil _ _ _ _, Below.refl _ _⟩
    case round =>
      obtain ⟨M, rfl, hM, hown, hbr⟩ := hrel
      by_cases hlt : M < N
      · obtain ⟨g, row, -, htr, hrl, hI, hc⟩ := hTl M hlt
        have HM1 := Lib.hid (show K.tabLabs vn (K.table x.nd x.l x.s x.r v N) (M + 1) = K.tabLabs vn (K.table x.nd x.l x.s x.r v N) M ++ K.rowLabs M row vn by rw [K.tabLabs, htr]; rfl)
        have hlen := K.tabLabs_len vn (K.table x.nd x.l x.s x.r v N) M
        have hlen2 : M * vn ≤ 64 * 6 := Nat.mul_le_mul (by omega) hv6'
        have hcr := (hbr.cell (cell_lt hc)).trans hc
        have k0 : (0 : Int) ≤ (M : Int) := by omega
        have k1 : (M : Int) < (N : Int) := by omega
        have HRL := Lib.hid hrl
        obtain ⟨L0, hL0⟩ : ∃ L0, L0 = K.tabLabs vn (K.table x.nd x.l x.s x.r v N) M := ⟨_, rfl⟩
        rw [← hL0] at hown hlen
        have HL0 := Lib.hid hL0
        clear htr hc hrl hL0
        go_wp2_with fail
        go_loopw [11, 36] (fun v11 v36 wi => ∃ i : Nat, v36 = .int .i64 i ∧ i ≤ vn ∧ wi.ownsRow w2.heap.size 137 3 v11 (L0 ++ K.rowLabs M row i).length ((L0 ++ K.rowLabs M row i).flatMap labCells) ∧ Below w2.heap.size w2 wi) (fun _ v36 _ => vn - (intOf v36).toNat)
        case atStart => exact ⟨0, rfl, by omega, by rw [K.rowLabs, List.append_nil]; exact hown, hbr⟩
        case round =>
          clear hown hcr hbr
          obtain ⟨i, rfl, hi, hown, hbr⟩ := hrel
          by_cases hlti : i < vn
          · obtain ⟨y, hy⟩ : ∃ y, row[i]? = some y := ⟨_, List.getElem?_eq_getElem (by rw [HRL.out]; exact hlti)⟩
            have cy := (hbr.cell (cell_lt (hI.cell hy))).trans (hI.cell hy)
            have k2 : (0 : Int) ≤ (i : Int) := by omega
            have k3 : (i : Int) < (vn : Int) := by omega
            have hlr := K.rowLabs_len M row i
            cases hbit : M.testBit i
            · have hb1 : bits BinOp.and IntKind.i64 ((M : Int) / 2 ^ i) 1 = 0 := by rw [bit_at (by omega) (by omega), hbit]; rfl
              have HU := Lib.hid (show K.rowLabs M row (i + 1) = K.rowLabs M row i by rw [K.rowLabs, hbit]; simp)
              clear hbit hy
              go_wp2_with fail
              go_roundw
              case rel => exact ⟨i + 1, by go_num, by omega, by rw [HU.out]; exact hown, hbr⟩
              case measure => simp [intOf]; omega
            · have hb1 : bits BinOp.and IntKind.i64 ((M : Int) / 2 ^ i) 1 = 1 := by rw [bit_at (by omega) (by omega), hbit]; rfl
              have HU := Lib.hid (show L0 ++ K.rowLabs M row (i + 1) = (L0 ++ K.rowLabs M row i) ++ [⟨M, i, y⟩] by rw [K.rowLabs, hbit, if_pos rfl, hy, Option.getD_some, List.append_assoc])
              have ha : Below wr.heap.size wr (wr.alloc (.cells #[.int .i64 (M : Int), .int .i64 (i : Int), .int .i64 y] 137)) := (Below.refl _ _).alloc (Nat.le_refl _) _
              have hown2 := own_below hown ha
              have hs2 : w2.heap.size ≤ (wr.alloc (.cells #[.int .i64 (M : Int), .int .i64 (i : Int), .int .i64 y] 137)).heap.size := Nat.le_trans hbr.size ha.size
              have hln : (L0 ++ K.rowLabs M row i).length ≤ 1000000 := by rw [List.length_append]; omega
              clear hbit hy
              go_wp2_with (at_builtin; refine app_lab rfl (.tmp 46) (.tmp 51) rfl w2.heap.size u11 (L0 ++ K.rowLabs M row i).length (L0 ++ K.rowLabs M row i) rfl hown2 wr.heap.size M i y rfl (heap_alloc_at _ _ _ rfl) hln hs2 ?_; intro tv' w6 hown6 hgrow6 hat6)
              have b6 := below_own2 (bel hbr ha) hgrow6 (fun g e => (hown.lt g e).1)
              have HS := Lib.hid (show (L0 ++ K.rowLabs M row i).length + 1 = (L0 ++ K.rowLabs M row (i + 1)).length by rw [HU.out, List.length_append (bs := [_])]; rfl)
              rw [← HU.out, HS.out] at hown6
              clear hgrow6 hat6 hown2 hown
              go_roundw
              case rel => exact ⟨i + 1, by go_num, by omega, hown6, b6⟩
              case measure => simp [intOf]; omega
          · have hin : i = vn := by omega
            rw [hin] at hown
            have HM2 := Lib.hid HM1.out
            rw [HL0.out, ← HM2.out] at hown
            clear hin
            go_wp2_with fail
            go_roundw
            case rel => exact ⟨M + 1, by go_num, by omega, hown, hbr⟩
            case measure => simp [intOf]; omega
      · have hMN : M = N := by omega
        rw [hMN] at hown
        have hnew9 := own_in hown
        obtain ⟨A9, c9, rfl, hRd, -⟩ := own_form hown
        have hnw9 : ∀ ad, A9 = some ad → w.heap.size ≤ ad.block := fun ad e => (by have h1 := (hnew9 ad.block (by rw [e]; rfl)).1; have h2 := hb2.size; omega)
        clear hnew9
        clear hMN
        go_wp2_with fail
        go_ret
        exact ⟨⟨_, _, _, rfl, by rw [HX.out]; exact ⟨rfl, hRd⟩, hnw9⟩, bel hb2 hbr⟩
end Go.Proofs.Ytippdjmpkafifaa
namespace Go.Proofs.Ytippdjmpkafifaa
open Go.RowKit
namespace A
theorem ownGo_append {ok : List Int → Bool} : ∀ (L1 own L2 : List (List Int)), ownGo ok own (L1 ++ L2) = ownGo ok (ownGo ok own L1) L2
  | [], _, _ => rfl
  | v :: L1, own, L2 => by
    rw [List.cons_append, ownGo, ownGo]
    exact ownGo_append L1 _ L2
theorem ownGo_yes {ok : List Int → Bool} {own L : List (List Int)} {v : List Int} (h : ((ownGo ok own L).any fun u => part u v) = false) (h2 : ok v = false) : ownGo ok own (L ++ [v]) = ownGo ok own L ++ [v] := by
  rw [ownGo_append, ownGo, ownGo, h, h2]
  rfl
theorem ownGo_no {ok : List Int → Bool} {own L : List (List Int)} {v : List Int} (h : ((ownGo ok own L).any fun u => part u v) = true ∨ ok v = true) : ownGo ok own (L ++ [v]) = ownGo ok own L := by
  rw [ownGo_append, ownGo, ownGo]
  rcases h with h | h <;> rw [h] <;> simp
/-- The sets of at most k numbers. -/
def upto (n k : Nat) : List (List Int) := (List.range k).flatMap fun k => combos n (k + 1) 0
theorem upto_succ (n k : Nat) : upto n (k + 1) = upto n k ++ combos n (k + 1) 0 := by unfold upto; rw [List.range_succ, List.flatMap_append, List.flatMap_singleton]
end A
namespace K
section
variable {nd : Int} {l : List Ro} {ss : List S} {r : List Q}
theorem plan_four (h : (plan nd l ss r).2 = 4) : pcheck nd l ss r = 0 := by
  unfold plan at h
  split at h
  · assumption
  · rename_i h1
    exfalso
    have h : pcheck nd l ss r = 4 := h
    unfold pcheck at h
    split at h
    · split at h <;> cases h
    · cases h
theorem refute_zero (h : (plan nd l ss r).2 = 0) : refute nd l ss r = ([], 7) := by unfold refute; rw [if_pos h]
theorem refute_other (h : (plan nd l ss r).2 ≠ 0) (h2 : (plan nd l ss r).2 ≠ 4) : refute nd l ss r = ([], (plan nd l ss r).2) := by unfold refute; rw [if_neg h, if_neg h2]
theorem refute_four (h : (plan nd l ss r).2 = 4) : refute nd l ss r = ((sets32 nd l ss r).map (blk32 nd l ss r), 0) := by unfold refute; rw [if_neg (by rw [h]; decide), if_pos h]
theorem labs_len6 {s : S} {v : List Int} (h : v.length ≤ 6) : (labs nd l s r v).length ≤ 384 := by
  unfold labs
  split
  · refine Nat.le_trans (tabLabs_len _ _ _) ?_
    have : 2 ^ v.length ≤ 2 ^ 6 := Nat.pow_le_pow_right (by omega) h
    exact Nat.le_trans (Nat.mul_le_mul this h) (by decide)
  · exact Nat.zero_le _
/-- The blocks of the shifts below s. -/
def blksUpto (nd : Int) (l : List Ro) (ss : List S) (r : List Q) (s : Nat) : List (Int × List Int × List Lb) := (List.range s).flatMap fun s => (A.own (feas nd l ss r s) r.length).map fun v => ((s : Int), (blk32 nd l ss r (s, v)).2)
theorem blksUpto_succ (s : Nat) : blksUpto nd l ss r (s + 1) = blksUpto nd l ss r s ++ (A.own (feas nd l ss r s) r.length).map fun v => ((s : Int), (blk32 nd l ss r (s, v)).2) := by unfold blksUpto; rw [List.range_succ, List.flatMap_append, List.flatMap_singleton]
theorem blksUpto_all : ((sets32 nd l ss r).map (blk32 nd l ss r)).map (fun b => ((b.1 : Int), b.2)) = blksUpto nd l ss r ss.length := by
  unfold sets32 blksUpto
  rw [List.map_map, List.map_flatMap]
  congr 1
  funext s
  rw [List.map_map]
  rfl
end
end K
theorem Shs.ext {w w' : World} {E : Option Addr} {n : Nat} {l : List Sh} (h : Shs w E n l) (he : Ext w w') : Shs w' E n l := ⟨Lst.ext h.1 he, fun s hs => ⟨(h.2 s hs).1.ext he, (h.2 s hs).2⟩⟩
theorem RowOk.ext {w w' : World} {v : Value} {L : List Sh} (h : RowOk w v L) (he : Ext w w') : RowOk w' v L := fun s hs => ⟨⟨(h s hs).1.1.ext he, (h s hs).1.2⟩, (h s hs).2⟩
/-- The slice at E is away from the row v. -/
def OffRow (E : Option Addr) (m : Nat) (v : Value) : Prop := 0 < m → ∀ ad, E = some ad → v.ownBlock ≠ some ad.block
theorem OffRow.grow {w : World} {v v' : Value} {E : Option Addr} {m : Nat} {l : List Sh} (h : OffRow E m v) (hS : Shs w E m l) (ha : v'.ownBlock = v.ownBlock ∨ v'.ownBlock = some w.heap.size) : OffRow E m v' := fun h0 ad e e2 => by
  rcases ha with e3 | e3
  · rw [e3] at e2; exact h h0 ad e e2
  · rw [e3] at e2
    injection e2 with e2
    obtain ⟨ad', s, e', -, -, hc⟩ := hS.at_ h0
    rw [e] at e'
    injection e' with e'
    subst e'
    have := cell_lt hc
    rw [add_block] at this
    omega
/-- The blocks of a row of blocks, away from the row. -/
def BlOk (w : World) (v : Value) (bl : List BV) : Prop := ∀ y ∈ bl, (Ints w y.V y.vn y.v ∧ Labs w y.LA y.ln y.lb) ∧ OffRow y.V y.vn v ∧ OffRow y.LA y.ln v ∧ (y.vn ≤ y.vc ∧ y.vn ≤ 6 ∧ y.ln ≤ 384)
theorem BlOk.ext {w w' : World} {v : Value} {bl : List BV} (h : BlOk w v bl) (he : Ext w w') : BlOk w' v bl := fun y hy => ⟨⟨(h y hy).1.1.ext he, Lst.ext (h y hy).1.2 he⟩, (h y hy).2⟩
theorem BlOk.below {w w' : World} {v : Value} {bl : List BV} (h : BlOk w v bl) (hb : Below w.heap.size w w') : BlOk w' v bl := h.ext (Ext.below hb)
theorem Labs.grow {w w' : World} {A : Option Addr} {n : Nat} {l : List Lb} {r : Option Nat} (h : Labs w A n l) (hg : w.grownBy w' r) (hne : 0 < n → ∀ ad, A = some ad → some ad.block ≠ r) : Labs w' A n l := by
  refine ⟨h.1, h.2.1, fun h0 => ?_⟩
  obtain ⟨ad, e, hc⟩ := h.2.2 h0
  refine ⟨ad, e, fun j u hu => ?_⟩
  have c := hc j u hu
  exact (World.cell?_of_block (hg.block _ (cell_lt c) (by rw [add_block]; exact hne h0 ad e))).trans c
theorem Labs.lt_of {w : World} {A : Option Addr} {n : Nat} {l : List Lb} (h : Labs w A n l) (h0 : 0 < n) {ad : Addr} (e : A = some ad) : ad.block < w.heap.size := by
  obtain ⟨ad', e', hc⟩ := h.2.2 h0
  rw [e] at e'
  injection e' with e'
  have hl : 0 < (l.flatMap labCells).length := by rw [h.2.1]; omega
  have := cell_lt (hc 0 _ (List.getElem?_eq_getElem hl))
  rw [add_block, ← e'] at this
  exact this
theorem BlOk.grow {w w' : World} {v v' : Value} {bl : List BV} (h : BlOk w v bl) (hg : w.grownBy w' v.ownBlock) (ha : v'.ownBlock = v.ownBlock ∨ v'.ownBlock = some w.heap.size) : BlOk w' v' bl := fun y hy => by
  obtain ⟨⟨h1, h2⟩, h3, h4, h5⟩ := h y hy
  refine ⟨⟨h1.grow hg fun h0 ad e e2 => h3 h0 ad e e2.symm, h2.grow hg fun h0 ad e e2 => h4 h0 ad e e2.symm⟩, fun h0 ad e e2 => ?_, fun h0 ad e e2 => ?_, h5⟩
  · rcases ha with e3 | e3
    · rw [e3] at e2; exact h3 h0 ad e e2
    · rw [e3] at e2
      injection e2 with e2
      have := h1.lt_of h0 e
      omega
  · rcases ha with e3 | e3
    · rw [e3] at e2; exact h4 h0 ad e e2
    · rw [e3] at e2
      injection e2 with e2
      have := h2.lt_of h0 e
      omega
theorem BlOk.snoc {w : World} {v : Value} {bl : List BV} (h : BlOk w v bl) {y : BV} (h1 : (Ints w y.V y.vn y.v ∧ Labs w y.LA y.ln y.lb) ∧ OffRow y.V y.vn v ∧ OffRow y.LA y.ln v ∧ (y.vn ≤ y.vc ∧ y.vn ≤ 6 ∧ y.ln ≤ 384)) : BlOk w v (bl ++ [y]) := fun s hs => by
  rcases List.mem_append.1 hs with hs | hs
  · exact h s hs
  · rw [List.mem_singleton] at hs
    rw [hs]; exact h1
theorem Try.info72 : (Try.prog.info? 72).map (fun i => (i.zero, i.size, i.bytes)) = some (some (.agg #[.int .i64 0, .slice none 0 0, .slice none 0 0]), 3, 56) := by kernel_rfl
set_option maxRecDepth 100000 in
theorem step_app_blk {ops : Array Oper} {o : Oper} {a : Act} {w w2 : World} {K : Act → World → Prop} {Q : Exit → Act → World → Prop} {E : Prop} (hgd : o.guard = none) (s x : Operand)
    (ho : o.op = .call { callee := .builtin .append, args := #[s, x], argTypes := #[28, 28] })
    {base : Nat} {v : Value} {n : Nat} {l : List BV} (hown : w2.ownsRow base 72 3 v n (l.flatMap BV.cells)) (hbase : base ≤ w2.heap.size) (hs : a.eval s = v) (g : Nat) (y : BV) (hx : a.eval x = .slice (some ⟨g, 0, none⟩) 1 1)
    (hw : Below w2.heap.size w2 w) (hg : w.heap[g]? = some (.cells #[.int .i64 y.sh, .slice y.V y.vn y.vc, .slice y.LA y.ln y.lc] 72 (0, 0))) (hn : n ≤ 1000000)
    (h : ∀ v' w', w'.ownsRow base 72 3 v' (n + 1) ((l ++ [y]).flatMap BV.cells) → w.grownBy w' v.ownBlock → (v'.ownBlock = v.ownBlock ∨ v'.ownBlock = some w.heap.size) → K (a.put o.dst v') w') :
    if Region.wanted o (yielded ops a.tmps) = true then Oper.wp Try.prog o a w K Q else E := by
  obtain ⟨i0, hi, hz0, hz1, hz2⟩ := info_parts Try.info72
  refine step_append_rd hgd s x 28 ho base 72 i0 (.agg #[.int .i64 0, .slice none 0 0, .slice none 0 0]) 3 56 Try.underlying28 hi hz0 hz1 hz2 rfl (by decide) v n (l.flatMap BV.cells) hs (own_below hown hw) (some ⟨g, 0, none⟩) 1 1 y.cells hx ⟨rfl, fun _ => ⟨_, rfl, fun j u hu => by rw [add_zero_block]; exact blk_cell hg j u (by simpa [BV.cells] using hu)⟩⟩ (fun u hu => ?_) (by simp only [maxLen]; omega) (by omega) (Nat.le_trans hbase hw.size) ?_
  · simp [BV.cells] at hu
    rcases hu with rfl | rfl | rfl <;> rfl
  · intro v' w' h2 h3 h4
    exact h v' w' (by rw [List.flatMap_append]; simpa using h2) h3 h4
end Go.Proofs.Ytippdjmpkafifaa
namespace Go.Proofs.Ytippdjmpkafifaa
open Go.RowKit
/-- What plan.Refute hands back. -/
def RetRefute (w w' : World) (p : List (Int × List Int × List Lb)) (er : Int) (e : Ending) : Prop :=
  (∃ A n c bl, e = .returned (.tuple #[.slice A n c, .int .i64 er]) ∧ Blks w' A n bl ∧ n ≤ c ∧ FewB n bl ∧ bl.map BV.pr = p) ∧ Below w.heap.size w w'
theorem retRefute_nil {w w' : World} {er : Int} (hb : Below w.heap.size w w') : RetRefute w w' [] er (.returned (.tuple #[.slice none 0 0, .int .i64 er])) :=
  ⟨⟨none, 0, 0, [], rfl, ⟨⟨rfl, rfl, fun h => absurd h (by omega)⟩, fun y h => by cases h⟩, Nat.le_refl _, ⟨by omega, fun y h => by cases h⟩, rfl⟩, hb⟩

theorem PlAt.app {w0 w w' : World} {b mb gb : Nat} {x : Cs} {X X' : Nat → Prop} {shs : List Sh} {v v' : Value} (h : PlAt w0 w b mb gb x X shs) (hg : w.grownBy w' v.ownBlock) (hv : ∀ g, v.ownBlock = some g → X g) (ha : v'.ownBlock = v.ownBlock ∨ v'.ownBlock = some w.heap.size) (hX : ∀ g, X' g → X g ∨ v'.ownBlock = some g) : PlAt w0 w' b mb gb x X' shs := by
  refine ((h.turn (Y := fun g => X g ∨ g = w.heap.size) (fun g h => h.elim .inl fun e => .inr (by rw [e]; exact Nat.le_refl _))).own hg (fun g e => .inl (hv g e))).turn fun g h => .inl ?_
  rcases hX g h with h | h
  · exact .inl h
  · rcases ha with e | e
    · rw [e] at h; exact .inl (hv g h)
    · rw [e] at h; injection h with h; exact .inr h.symm
theorem gb_below {ws w w' : World} {r : Option Nat} (h : ws.grownBy w r) (hb : Below w.heap.size w w') : ws.grownBy w' r := h.andThen (row' := none) ⟨hb.os, hb.tape, hb.output, hb.size, fun q hq _ => hb.block q hq⟩ (fun _ e => by cases e)
/-- The state while a shift's sets are looked for. -/
structure Mid (w1 ws w : World) (b mb gb : Nat) (x : Cs) (shs : List Sh) (u v : Value) (BS : Nat) (own : List Sh) (E : Option Addr) (m : Nat) (l : List Sh) : Prop where
  row : w.ownsRow BS 41 1 v own.length (own.map Sh.val)
  ok : RowOk w v own
  pl : PlAt w1 w b mb gb x (fun g => u.ownBlock = some g ∨ v.ownBlock = some g) shs
  gr : ws.grownBy w (some mb)
  sh : Shs w E m l
  off : OffRow E m v
  lk : RowOk w v l
theorem Mid.below {w1 ws w w' : World} {b mb gb : Nat} {x : Cs} {shs : List Sh} {u v : Value} {BS : Nat} {own : List Sh} {E : Option Addr} {m : Nat} {l : List Sh} (h : Mid w1 ws w b mb gb x shs u v BS own E m l) (hb : Below w.heap.size w w') : Mid w1 ws w' b mb gb x shs u v BS own E m l :=
  ⟨own_below h.row hb, h.ok.below hb, h.pl.below hb, gb_below h.gr hb, h.sh.below hb, h.off, h.lk.below hb⟩
theorem Mid.best {w1 ws w w' : World} {b mb gb : Nat} {x : Cs} {shs : List Sh} {u v : Value} {BS : Nat} {own : List Sh} {E : Option Addr} {m : Nat} {l : List Sh} (h : Mid w1 ws w b mb gb x shs u v BS own E m l) (hg : w.grownBy w' (some mb)) (hp : PlAt w1 w' b mb gb x (fun g => u.ownBlock = some g ∨ v.ownBlock = some g) shs) : Mid w1 ws w' b mb gb x shs u v BS own E m l :=
  ⟨h.row.kept hg (.inr fun e => (h.pl.away mb (.inr e)).2.2.1 rfl), h.ok.ext (h.pl.memo.ext hg), hp, h.gr.trans hg, h.sh.ext (h.pl.memo.ext hg), h.off, h.lk.ext (h.pl.memo.ext hg)⟩
theorem Mid.app {w1 ws w w' : World} {b mb gb : Nat} {x : Cs} {shs : List Sh} {u v v' : Value} {BS : Nat} {own : List Sh} {E : Option Addr} {m : Nat} {l : List Sh} (h : Mid w1 ws w b mb gb x shs u v BS own E m l) {y : Sh} (hy : y ∈ l) (hg : w.grownBy w' v.ownBlock) (ha : v'.ownBlock = v.ownBlock ∨ v'.ownBlock = some w.heap.size) (hr : w'.ownsRow BS 41 1 v' (own.length + 1) ((own ++ [y]).map Sh.val)) (hBS : BS = ws.heap.size) : Mid w1 ws w' b mb gb x shs u v' BS (own ++ [y]) E m l := by
  have h1 := h.lk.grow hg ha
  refine ⟨by rw [List.length_append]; exact hr, (h.ok.grow hg ha).snoc (h1 y hy).1 (h1 y hy).2, h.pl.app hg (fun g e => .inr e) ha (fun g e => e.elim (fun e => .inl (.inl e)) .inr), h.gr.andThen hg (fun j e => .inl (by rw [← hBS]; exact (own_in h.row j e).1)), h.sh.grown hg (fun h0 ad e e2 => h.off h0 ad e e2.symm) (fun s hs h0 ad e e2 => (h.lk s hs).2 h0 ad e e2.symm), h.off.grow h.sh ha, h1⟩

/-- The state while a shift's blocks are written. -/
structure Fin4 (w1 w : World) (b mb gb : Nat) (x : Cs) (shs : List Sh) (v : Value) (B1 : Nat) (bl : List BV) (E : Option Addr) (n : Nat) (own : List Sh) : Prop where
  row : w.ownsRow B1 72 3 v bl.length (bl.flatMap BV.cells)
  ok : BlOk w v bl
  pl : PlAt w1 w b mb gb x (fun g => v.ownBlock = some g) shs
  sh : Shs w E n own
  off : OffRow E n v
  lk : RowOk w v own
theorem Fin4.below {w1 w w' : World} {b mb gb : Nat} {x : Cs} {shs : List Sh} {v : Value} {B1 : Nat} {bl : List BV} {E : Option Addr} {n : Nat} {own : List Sh} (h : Fin4 w1 w b mb gb x shs v B1 bl E n own) (hb : Below w.heap.size w w') : Fin4 w1 w' b mb gb x shs v B1 bl E n own :=
  ⟨own_below h.row hb, h.ok.below hb, h.pl.below hb, h.sh.below hb, h.off, h.lk.below hb⟩
theorem Fin4.app {w1 w w' : World} {b mb gb : Nat} {x : Cs} {shs : List Sh} {v v' : Value} {B1 : Nat} {bl : List BV} {E : Option Addr} {n : Nat} {own : List Sh} (h : Fin4 w1 w b mb gb x shs v B1 bl E n own) {y : BV} (hy : (Ints w y.V y.vn y.v ∧ Labs w y.LA y.ln y.lb) ∧ OffRow y.V y.vn v ∧ OffRow y.LA y.ln v ∧ (y.vn ≤ y.vc ∧ y.vn ≤ 6 ∧ y.ln ≤ 384)) (hg : w.grownBy w' v.ownBlock) (ha : v'.ownBlock = v.ownBlock ∨ v'.ownBlock = some w.heap.size) (hr : w'.ownsRow B1 72 3 v' (bl.length + 1) ((bl ++ [y]).flatMap BV.cells)) : Fin4 w1 w' b mb gb x shs v' B1 (bl ++ [y]) E n own :=
  ⟨by rw [List.length_append]; exact hr, (h.ok.snoc hy).grow hg ha, h.pl.app hg (fun g e => e) ha (fun g e => .inr e), h.sh.grown hg (fun h0 ad e e2 => h.off h0 ad e e2.symm) (fun s hs h0 ad e e2 => (h.lk s hs).2 h0 ad e e2.symm), h.off.grow h.sh ha, h.lk.grow hg ha⟩
theorem gb_refl (w : World) (r : Option Nat) : w.grownBy w r := ⟨rfl, rfl, rfl, Nat.le_refl _, fun _ _ _ => rfl⟩

set_option maxRecDepth 100000 in
set_option maxHeartbeats 16000000 in
theorem refute32_any (x : Cs) (w : World) (hx : CsAt w x) :
    Calls Try.prog 13 #[.agg #[.int .i64 x.nd, .slice x.A x.n x.c], .slice x.SA x.sn x.sc, .slice x.B x.m x.d] w fun e w' => RetRefute w w' ((K.refute x.nd x.l x.ss x.r).1.map fun b => ((b.1 : Int), b.2)) (K.refute x.nd x.l x.ss x.r).2 e := by
  have hN := Net.new w x.nd x.A x.n x.c
  have p0 := hN.c0
  have p1 := hN.c1
  have b0 : Below w.heap.size w (w.alloc (.cells #[.int .i64 x.nd, .slice x.A x.n x.c] 24)) := (Below.refl _ _).alloc (Nat.le_refl _) _
  have CP := plan32_any x _ (hx.below b0)
  go_enter Try.func13, Try.ntmps13
  go_wp2_with fail
  refine CP.mono ?_
  obtain ⟨ce, hce⟩ : ∃ ce, ce = (K.plan x.nd x.l x.ss x.r).2 := ⟨_, rfl⟩
  rintro e w1 ⟨⟨PA, pn, pc, pl, rfl, -, -, -⟩, b1⟩
  rw [← hce]
  have hN1 := hN.below b1
  have hb1 := bel b0 b1
  clear p0 p1 b0 b1 hN CP
  by_cases hz : ce = 0
  · have HX := Lib.hid (show K.refute x.nd x.l x.ss x.r = ([], 7) from K.refute_zero (by rw [← hce]; exact hz))
    have hd : (ce == 0) = true := by simp [hz]
    have hd2 : decide (ce = 0) = true := by simp [hz]
    clear hce hz
    go_wp2_with fail
    go_ret2
    rw [HX.out]
    exact retRefute_nil hb1
  by_cases hz4 : ce = 4
  rotate_left
  · have HX := Lib.hid (show K.refute x.nd x.l x.ss x.r = ([], ce) by rw [hce] at hz hz4 ⊢; exact K.refute_other hz hz4)
    have hd : (ce == 0) = false := by simp [hz]
    have hd2 : (ce == 4) = false := by simp [hz4]
    clear hce hz hz4
    go_wp2_with fail
    go_ret2
    rw [HX.out]
    exact retRefute_nil hb1
  subst hz4
  have HR := Lib.hid (K.refute_four hce.symm)
  have HOK := Lib.hid (K.plan_four hce.symm)
  clear hce hz
  have p0 := hN1.c0
  have p1 := hN1.c1
  go_wp2_with fail
  refine (start32_any x _ (hx.below hb1) HOK.out).mono ?_
  rintro e w2 ⟨b, mb, gb, rfl, hp2⟩
  have hm6 : x.m ≤ 6 := by rw [hx.reqs.1]; exact (K.pcheck_ok HOK.out).2.2.2.2
  have hsn4 : x.sn ≤ 4 := by rw [hx.shifts.1.1]; exact (K.pcheck_ok HOK.out).2.1
  have HSN := Lib.hid hx.shifts.1.1
  have HRN := Lib.hid hx.reqs.1
  obtain ⟨shs, hshs⟩ : ∃ shs, shs = List.replicate x.sn (⟨none, 0, 0, []⟩ : Sh) := ⟨_, rfl⟩
  rw [← hshs] at hp2
  obtain ⟨G0, hG0⟩ : ∃ G0, G0 = w.heap.size := ⟨_, rfl⟩
  rw [← hG0] at hN1
  rw [← hG0]
  obtain ⟨B1, hB1⟩ : ∃ B1, B1 = w2.heap.size := ⟨_, rfl⟩
  clear p0 p1 hshs hG0
  go_wp2_with fail
  go_loopw [11, 38] (fun v11 v38 wr => ∃ (s : Nat) (bl : List BV), v38 = .int .i64 s ∧ s ≤ x.sn ∧ wr.ownsRow B1 72 3 v11 bl.length (bl.flatMap BV.cells) ∧ BlOk wr v11 bl ∧ PlAt w1 wr b mb gb x (fun g => v11.ownBlock = some g) shs ∧ B1 ≤ wr.heap.size ∧ bl.length ≤ 1000 * s ∧ Hid (bl.map BV.pr = K.blksUpto x.nd x.l x.ss x.r s)) (fun _ v38 _ => x.sn - (intOf v38).toNat)
  case atStart => exact ⟨0, [], rfl, Nat.zero_le _, World.ownsRow_nil _ _ _ _, fun y hy => (by cases hy), hp2.turn (fun g h => (by cases h)), by rw [hB1]; exact Nat.le_refl _, Nat.zero_le _, rfl⟩
  case round =>
    clear hp2 hB1
    obtain ⟨s, bl, rfl, hs, hown, hbo, hp, hBr, hbl, hcl⟩ := hrel
    by_cases hlt : s < x.sn
    · obtain ⟨sS, hsS⟩ : ∃ sS, x.ss[s]? = some sS := ⟨_, List.getElem?_eq_getElem (by rw [← HSN.out]; exact hlt)⟩
      have j0 : decide ((s : Int) < (x.sn : Int)) = true := by simp; omega
      have HSS := Lib.hid hsS
      clear hsS
      obtain ⟨ws, hws⟩ : ∃ ws, ws = wr := ⟨_, rfl⟩
      rw [← hws] at hown hbo hp hBr
      rw [← hws]
      clear hws
      obtain ⟨BS, hBS⟩ : ∃ BS, BS = ws.heap.size := ⟨_, rfl⟩
      obtain ⟨FE, hFE⟩ : ∃ FE, FE = K.feas x.nd x.l x.ss x.r s := ⟨_, rfl⟩
      have HFE := Lib.hid hFE
      clear hFE
      go_wp2_with fail
      go_loopw [13, 43] (fun v13 v43 wi => ∃ (k : Nat) (own : List Sh), v43 = .int .i64 k ∧ k ≤ x.m ∧ wi.ownsRow BS 41 1 v13 own.length (own.map Sh.val) ∧ RowOk wi v13 own ∧ NewL BS own ∧ (∀ y ∈ own, y.n ≤ 6) ∧ PlAt w1 wi b mb gb x (fun g => u11.ownBlock = some g ∨ v13.ownBlock = some g) shs ∧ ws.grownBy wi (some mb) ∧ own.length ≤ 64 * k ∧ Hid (own.map Sh.l = A.ownGo FE [] (A.upto x.m k))) (fun _ v43 _ => x.m - (intOf v43).toNat)
      case atStart => exact ⟨0, [], rfl, Nat.zero_le _, World.ownsRow_nil _ _ _ _, fun y hy => (by cases hy), fun y hy => (by cases hy), fun y hy => (by cases hy), hp.turn (fun g h => h.elim .inl fun e => (by cases e)), ⟨rfl, rfl, rfl, Nat.le_refl _, fun _ _ _ => rfl⟩, Nat.zero_le _, rfl⟩
      case round =>
        obtain ⟨k, own, rfl, hk, hownO, hroO, hnwO, h6O, hpO, hgO, hlO, hcO⟩ := hrel
        obtain ⟨wk, hwk⟩ : ∃ wk, wk = wr := ⟨_, rfl⟩
        rw [← hwk] at hownO hroO hpO hgO
        rw [← hwk]
        clear hwk
        by_cases hkm : k < x.m
        · have k0 : decide ((k : Int) < (x.m : Int)) = true := by simp; omega
          obtain ⟨kk, hkk⟩ : ∃ kk, kk = k + 1 := ⟨_, rfl⟩
          have ks : IntKind.i64.wrap ((k : Int) + 1) = (kk : Int) := by rw [IntWalk.i64_in _ (by omega)]; omega
          have CS := sets35_any x.m hm6 kk 0 wk (by omega) (by omega)
          rw [show ((0 : Nat) : Int) = 0 from rfl] at CS
          have HKK := Lib.hid hkk
          have hDl : (A.combos x.m kk 0).length ≤ 64 := A.combos_few hm6 (by omega) (by omega)
          obtain ⟨D, hD⟩ : ∃ D, D = A.combos x.m kk 0 := ⟨_, rfl⟩
          rw [← hD] at CS hDl
          have HD := Lib.hid hD
          clear hkk hD
          go_wp2_with fail
          refine CS.mono ?_
          rintro e wl ⟨⟨E, m, c, l, rfl, hSl, hmc, hlD, hEn, hln⟩, bl2⟩
          have hml : m ≤ 64 := by rw [hSl.1.1, ← List.length_map (f := Sh.l), hlD]; exact hDl
          have hl6 : ∀ t ∈ l, t.n ≤ 6 ∧ t.l.Pairwise (· < ·) ∧ ∀ i ∈ t.l, 0 ≤ i ∧ i < (x.m : Int) := fun t ht => by
            have h9 : t.l ∈ A.combos x.m kk 0 := by rw [← HD.out, ← hlD]; exact List.mem_map_of_mem ht
            obtain ⟨h1, h2, h3⟩ := A.mem_combos.1 h9
            have h4 := (hSl.2 t ht).1.1
            have := HKK.out
            exact ⟨by omega, h2, fun i hi => by have := h3 i hi; omega⟩
          have hoffE : OffRow E m u13 := fun _ ad e e2 => by
            have h1 := (own_in hownO _ e2).2
            have h2 := hEn ad e
            omega
          have hroE : RowOk wl u13 l := fun t ht => ⟨hSl.2 t ht, fun h0 ad e e2 => by
            have h1 := (own_in hownO _ e2).2
            have h2 := hln t ht h0 ad e
            omega⟩
          have hownL := own_below hownO bl2
          have hroL := hroO.below bl2
          have hpL := hpO.below bl2
          have hgL : ws.grownBy wl (some mb) := hgO.andThen (row' := none) ⟨bl2.os, bl2.tape, bl2.output, bl2.size, fun q hq _ => bl2.block q hq⟩ (fun _ e => by cases e)
          have hnE : NewL BS l := hln.mono (by rw [hBS]; exact hgO.size)
          clear CS hownO hroO hpO hgO hEn hln bl2
          go_wp2_with fail
          go_loopw [13, 52] (fun v13 v52 wj => ∃ (j : Nat) (own' : List Sh), v52 = .int .i64 j ∧ j ≤ m ∧ Mid w1 ws wj b mb gb x shs u11 v13 BS own' E m l ∧ NewL BS own' ∧ (∀ y ∈ own', y.n ≤ 6) ∧ own'.length ≤ own.length + j ∧ Hid (own'.map Sh.l = A.ownGo FE [] (A.upto x.m k ++ (l.take j).map Sh.l))) (fun _ v52 _ => m - (intOf v52).toNat)
          case atStart => exact ⟨0, own, rfl, Nat.zero_le _, ⟨hownL, hroL, hpL, hgL, hSl, hoffE, hroE⟩, hnwO, h6O, Nat.le_refl _, by show _ = _; rw [List.take_zero, List.map_nil, List.append_nil]; exact hcO.out⟩
          case round =>
            clear hownL hroL hnwO h6O hpL hgL hoffE hroE hSl
            obtain ⟨j, own', rfl, hj, M, hnwI, h6I, hlI, hcI⟩ := hrel
            by_cases hjm : j < m
            · obtain ⟨E2, c2, rfl, hS2, hc2, -⟩ := own_shs M.row rfl M.ok
              obtain ⟨ad, t, rfl, hg, ⟨hI, hsc, hs0⟩, hc⟩ := M.sh.at_ hjm
              obtain ⟨wj, hwj⟩ : ∃ wj, wj = wr := ⟨_, rfl⟩
              rw [← hwj] at M hS2 hI hc
              rw [← hwj]
              clear hwj
              have j0 : decide ((j : Int) < (m : Int)) = true := by simp; omega
              have js : IntKind.i64.wrap ((j : Int) + 1) = ((j + 1 : Nat) : Int) := by rw [IntWalk.i64_in _ (by omega)]; omega
              have htm := List.mem_of_getElem? hg
              obtain ⟨h6, hso, hbd⟩ := hl6 t htm
              have hbd' : ∀ i ∈ t.l, 0 ≤ i ∧ i < (x.r.length : Int) := fun i hi => by have := hbd i hi; have := HRN.out; omega
              have bA : Below wj.heap.size wj (wj.alloc (.cells #[.slice t.A t.n t.c] 41)) := (Below.refl _ _).alloc (Nat.le_refl _) _
              have hG := heap_alloc_new wj (.cells #[.slice t.A t.n t.c] 41)
              have CC := contains36_any wj.heap.size E2 own'.length c2 own' t.A t.n t.c t.l (wj.alloc (.cells #[.slice t.A t.n t.c] 41)) (hS2.below bA) (by omega) hG (fun y hy => by have := h6I y hy; omega) (hI.below bA) (by omega)
              have HTM := Lib.hid htm
              have HSB := Lib.hid (And.intro hso hbd')
              have HG := Lib.hid hg
              have HLI := Lib.hid hlI
              have htk : (l.take (j + 1)).map Sh.l = (l.take j).map Sh.l ++ [t.l] := by rw [List.take_add_one, hg, List.map_append]; rfl
              have HTK := Lib.hid htk
              have hxsz : ∀ g, (u11.ownBlock = some g ∨ (Value.slice E2 own'.length c2).ownBlock = some g) → g < wj.heap.size := fun g e => e.elim (fun e => by have h1 := (own_in hown g e).2; have h2 := M.gr.size; omega) (fun e => (own_in M.row g e).2)
              have HXS := Lib.hid hxsz
              clear hg hlI htm hso hbd hbd' htk hxsz
              go_wp2_with fail
              refine CC.mono ?_
              rintro e wc ⟨rfl, bc⟩
              have M1 := (M.below bA).below bc
              have hG1 := blk_below bc hG
              have hI1 := (hI.below bA).below bc
              have bAC := bel bA bc
              have cG := blk_cell hG1 0 _ rfl
              clear CC M hG hI bA bc hS2 hc
              obtain ⟨z, hz⟩ : ∃ z, z = (own'.map Sh.l).any fun u => A.part u t.l := ⟨_, rfl⟩
              rw [← hz]
              have HZ := Lib.hid hz
              clear hz
              cases z with
              | true =>
                have HN := Lib.hid (A.ownGo_no (ok := FE) (own := []) (L := A.upto x.m k ++ (l.take j).map Sh.l) (v := t.l) (.inl (by rw [← hcI.out]; exact HZ.out.symm)))
                go_wp2_with fail
                go_roundw
                case rel => exact ⟨j + 1, own', by go_num, by omega, M1, hnwI, h6I, by have := HLI.out; omega, by show _ = _; rw [HTK.out, ← List.append_assoc, HN.out]; exact hcI.out⟩
                case measure => simp [intOf]; omega
              | false =>
                have CB := best32_any w1 b mb gb x shs s sS t.A t.n t.c t.l wc M1.pl (fun g e => Nat.lt_of_lt_of_le (HXS.out g e) bAC.size) HSS.out hI1 hsc HSB.out.1 HSB.out.2
                have hfe : FE t.l = (K.best x.nd x.l sS x.r t.l).isSome := by
                  rw [HFE.out, Bool.eq_iff_iff, K.feas_iff M1.pl.ok HSB.out.1 HSB.out.2, Option.isSome_iff_exists]
                  exact ⟨fun ⟨s2, t2, e1, e2⟩ => by rw [HSS.out] at e1; injection e1 with e1; subst e1; exact ⟨t2, e2⟩, fun ⟨t2, e2⟩ => ⟨sS, t2, HSS.out, e2⟩⟩
                obtain ⟨T, hT⟩ : ∃ T, T = K.best x.nd x.l sS x.r t.l := ⟨_, rfl⟩
                rw [← hT] at CB hfe
                have HFT := Lib.hid hfe
                clear hT hfe
                go_wp2_with fail
                refine CB.mono ?_
                rintro e wb ⟨⟨u', rfl, hTA⟩, hgb, hpb⟩
                have hGb := (M1.pl.memo.ext hgb).cells _ _ _ _ hG1
                have M2 := M1.best hgb hpb
                have cGb := blk_cell hGb 0 _ rfl
                clear CB hgb hpb M1 hG1 hI1 cG bAC
                cases T with
                | some bt =>
                  obtain ⟨g, A8, n8, c8, A7, n7, c7, rfl, -⟩ := hTA
                  have HN := Lib.hid (A.ownGo_no (ok := FE) (own := []) (L := A.upto x.m k ++ (l.take j).map Sh.l) (v := t.l) (.inr HFT.out))
                  go_wp2_with fail
                  go_roundw
                  case rel => exact ⟨j + 1, own', by go_num, by omega, M2, hnwI, h6I, by have := HLI.out; omega, by show _ = _; rw [HTK.out, ← List.append_assoc, HN.out]; exact hcI.out⟩
                  case measure => simp [intOf]; omega
                | none =>
                  obtain rfl : u' = .pointer none := hTA
                  have HN := Lib.hid (A.ownGo_yes (ok := FE) (own := []) (L := A.upto x.m k ++ (l.take j).map Sh.l) (v := t.l) (by rw [← hcI.out]; exact HZ.out.symm) HFT.out)
                  have hbs : BS ≤ wb.heap.size := by have h2 := M2.gr.size; omega
                  have bD : Below wb.heap.size wb (wb.alloc (.cells #[.slice t.A t.n t.c] 41)) := (Below.refl _ _).alloc (Nat.le_refl _) _
                  have M3 := M2.below bD
                  have hbs2 := Nat.le_trans hbs bD.size
                  have hln : own'.length ≤ 1000000 := by have := HLI.out; omega
                  clear M2 hGb
                  go_wp2_with (at_builtin; refine app_shs rfl (.tmp 67) (.tmp 69) rfl BS (.slice E2 own'.length c2) own'.length own' rfl M3.row wb.heap.size t rfl (heap_alloc_new wb _) hln hbs2 ?_; intro v' w6 hown6 hgrow6 hat6)
                  have M4 := M3.app HTM.out hgrow6 hat6 hown6 hBS
                  clear M3 hown6 hgrow6 hat6 bD cGb
                  go_roundw
                  case rel => exact ⟨j + 1, own' ++ [t], by go_num, by omega, M4, hnwI.snoc (hnE t HTM.out), fun y hy => (List.mem_append.1 hy).elim (h6I y) (fun hy => by rw [List.mem_singleton] at hy; rw [hy]; exact h6), by rw [List.length_append]; have := HLI.out; simp; omega, by show _ = _; rw [HTK.out, ← List.append_assoc, HN.out, List.map_append, hcI.out]; rfl⟩
                  case measure => simp [intOf]; omega
            · have j0 : decide ((j : Int) < (m : Int)) = false := by simp; omega
              have hjm2 : l.take j = l := List.take_of_length_le (by have := M.sh.1.1; omega)
              have HE := Lib.hid (show own'.map Sh.l = A.ownGo FE [] (A.upto x.m kk) by rw [hcI.out, hjm2, hlD, HD.out, HKK.out, A.upto_succ])
              have HLI := Lib.hid hlI
              clear hjm2 hlI
              go_wp2_with fail
              go_roundw
              case rel => exact ⟨kk, own', rfl, by rw [HKK.out]; omega, M.row, M.ok, hnwI, h6I, M.pl, M.gr, by have := HLI.out; have := HKK.out; omega, HE.out⟩
              case measure => simp [intOf]; have := HKK.out; omega
        · have k0 : decide ((k : Int) < (x.m : Int)) = false := by simp; omega
          have hkm2 : k = x.m := by omega
          have HOWN := Lib.hid (show own.map Sh.l = A.own FE x.m by rw [hcO.out, hkm2]; rfl)
          obtain ⟨E, c, rfl, hSE, hnc, hEn⟩ := own_shs hownO rfl hroO
          clear hkm2
          have F0 : Fin4 w1 wk b mb gb x shs u11 B1 bl E own.length own := ⟨hown.kept hgO (.inr fun e => (hp.away mb e).2.2.1 rfl), hbo.ext (hp.memo.ext hgO), hpO.turn (fun g h => .inl (.inl h)), hSE, fun h0 ad e e2 => (by have h1 := (own_in hown _ e2).2; have h2 := hEn ad e; omega), fun t ht => ⟨(hroO t ht).1, fun h0 ad e e2 => (by have h1 := (own_in hown _ e2).2; have h2 := hnwO t ht h0 ad e; omega)⟩⟩
          have hB1k : B1 ≤ wk.heap.size := by have := hgO.size; omega
          have hol : own.length ≤ 384 := by omega
          clear hown hbo hp hownO hroO hpO hgO hSE hEn hnwO hcO hBr
          go_wp2_with fail
          clear k0
          go_loopw [11, 75] (fun v11 v75 wf => ∃ (j : Nat) (bl' : List BV), v75 = .int .i64 j ∧ j ≤ own.length ∧ Fin4 w1 wf b mb gb x shs v11 B1 bl' E own.length own ∧ B1 ≤ wf.heap.size ∧ bl'.length = bl.length + j ∧ Hid (bl'.map BV.pr = bl.map BV.pr ++ (own.take j).map fun t => ((s : Int), t.l, K.labs x.nd x.l sS x.r t.l))) (fun _ v75 _ => own.length - (intOf v75).toNat)
          case atStart => exact ⟨0, bl, rfl, Nat.zero_le _, F0, hB1k, rfl, by show _ = _; rw [List.take_zero, List.map_nil, List.append_nil]⟩
          case round =>
            clear F0 hB1k
            obtain ⟨j, bl', rfl, hj, F, hBf, hlb, hcb⟩ := hrel
            obtain ⟨wf, hwf⟩ : ∃ wf, wf = wr := ⟨_, rfl⟩
            rw [← hwf] at F hBf
            rw [← hwf]
            clear hwf
            by_cases hjn : j < own.length
            · obtain ⟨adE, t, rfl, hg, ⟨hI, hsc, hs0⟩, hc⟩ := F.sh.at_ hjn
              obtain ⟨ads, s2, hSA, hs2, -, s0, s1, s2', s3, s4, s5⟩ := F.pl.case.shifts.at_ hlt
              rw [HSS.out] at hs2
              injection hs2 with hs2
              subst hs2
              rw [hSA]
              have hAt : At wf (x.one sS) := F.pl.one (List.mem_of_getElem? HSS.out)
              have SP : ∀ w8 : World, Below w1.heap.size w1 w8 → (fun w' : World => w'.cell? ⟨G0, 0, none⟩ = some (.int .i64 x.nd) ∧ w'.cell? ⟨G0, 1, none⟩ = some (.slice x.A x.n x.c) ∧ w'.cell? (ads.add (s * 6)) = some (.int .i64 sS.day) ∧ w'.cell? ⟨(ads.add (s * 6)).block, (ads.add (s * 6)).off + 1, none⟩ = some (.int .i64 sS.depot) ∧ w'.cell? ⟨(ads.add (s * 6)).block, (ads.add (s * 6)).off + 2, none⟩ = some (.int .i64 sS.start) ∧ w'.cell? ⟨(ads.add (s * 6)).block, (ads.add (s * 6)).off + 3, none⟩ = some (.int .i64 sS.end_) ∧ w'.cell? ⟨(ads.add (s * 6)).block, (ads.add (s * 6)).off + 4, none⟩ = some (.int .i64 sS.tare) ∧ w'.cell? ⟨(ads.add (s * 6)).block, (ads.add (s * 6)).off + 5, none⟩ = some (.slice sS.A sS.n sS.c)) w8 := fun w8 hb => ⟨(hN1.below hb).c0, (hN1.below hb).c1, (hb.cell (cell_lt s0)).trans s0, (hb.cell (cell_lt s1)).trans s1, (hb.cell (cell_lt s2')).trans s2', (hb.cell (cell_lt s3)).trans s3, (hb.cell (cell_lt s4)).trans s4, (hb.cell (cell_lt s5)).trans s5⟩
              have S0 := SP wf F.pl.bw
              have S0d := SP wf.drew (bel F.pl.bw (Below.refl _ _).drew)
              have hbdr : Below wf.heap.size wf wf.drew := (Below.refl _ _).drew
              have j0 : decide ((j : Int) < (own.length : Int)) = true := by simp; omega
              have js : IntKind.i64.wrap ((j : Int) + 1) = ((j + 1 : Nat) : Int) := by rw [IntWalk.i64_in _ (by omega)]; omega
              have htm := List.mem_of_getElem? hg
              have h6 := h6O t htm
              have htk : (own.take (j + 1)).map (fun t => ((s : Int), t.l, K.labs x.nd x.l sS x.r t.l)) = (own.take j).map (fun t => ((s : Int), t.l, K.labs x.nd x.l sS x.r t.l)) ++ [((s : Int), t.l, K.labs x.nd x.l sS x.r t.l)] := by rw [List.take_add_one, hg, List.map_append]; rfl
              have HTK := Lib.hid htk
              have HLB := Lib.hid hlb
              have HSA := Lib.hid hSA
              have hofft : OffRow t.A t.n u11 := fun h0 ad e => (F.lk t htm).2 h0 ad e
              clear hg htk hlb hSA s0 s1 s2' s3 s4 s5
              go_upto_region 26 with fail
              have k0 : (0 : Int) ≤ (s : Int) := by omega
              have k1 : (s : Int) < (x.sn : Int) := by omega
              have h69 : t.n ≤ 1000000000 := by omega
              have hvl : t.l.length ≤ 6 := by rw [← hI.1]; exact h6
              have hln : bl'.length ≤ 1000000 := by have := HLB.out; omega
              go_region_held3 (fun w' : World => w'.cell? ⟨G0, 0, none⟩ = some (.int .i64 x.nd) ∧ w'.cell? ⟨G0, 1, none⟩ = some (.slice x.A x.n x.c) ∧ w'.cell? (ads.add (s * 6)) = some (.int .i64 sS.day) ∧ w'.cell? ⟨(ads.add (s * 6)).block, (ads.add (s * 6)).off + 1, none⟩ = some (.int .i64 sS.depot) ∧ w'.cell? ⟨(ads.add (s * 6)).block, (ads.add (s * 6)).off + 2, none⟩ = some (.int .i64 sS.start) ∧ w'.cell? ⟨(ads.add (s * 6)).block, (ads.add (s * 6)).off + 3, none⟩ = some (.int .i64 sS.end_) ∧ w'.cell? ⟨(ads.add (s * 6)).block, (ads.add (s * 6)).off + 4, none⟩ = some (.int .i64 sS.tare) ∧ w'.cell? ⟨(ads.add (s * 6)).block, (ads.add (s * 6)).off + 5, none⟩ = some (.slice sS.A sS.n sS.c))
                (first | with_reducible exact S10 | with_reducible exact S9a | with_reducible exact S9 | with_reducible exact S0d | with_reducible exact S0 | fail)
                (first
                  | (go_at_call 39; refine (labels39_new (x.one sS) t.A t.n t.c t.l _ (hAt.below hbdr) (hI.below hbdr) hsc h69).mono ?_; rintro e w9 ⟨⟨LA, ln, lc, rfl, hL9, hLn9⟩, b9⟩; have F9 := F.below (bel hbdr b9); have hB9 : B1 ≤ w9.heap.size := Nat.le_trans hBf (bel hbdr b9).size; have a9 : Below w9.heap.size w9 (w9.alloc (.cells #[.int .i64 (s : Int), .slice t.A t.n t.c, .slice LA ln lc] 72)) := (Below.refl _ _).alloc (Nat.le_refl _) _; have S9 := SP w9 F9.pl.bw; have S9a := SP _ (F9.below a9).pl.bw; have hoL : OffRow LA ln u11 := fun h0 ad e e2 => (by have h1 := (own_in F.row _ e2).2; have h2 := hLn9 ad e; have h3 := hbdr.size; omega); have hll : ln ≤ 384 := (by have h1 := hL9.1; have h2 : (K.labs x.nd x.l sS x.r t.l).length ≤ 384 := K.labs_len6 hvl; have h3 : ln = (K.labs x.nd x.l sS x.r t.l).length := h1; omega))
                  | (refine step_app_blk rfl (.tmp 79) (.tmp 91) rfl F9.row hB9 rfl w9.heap.size ⟨s, t.A, t.n, t.c, t.l, LA, ln, lc, K.labs x.nd x.l sS x.r t.l⟩ rfl a9 (heap_alloc_new w9 _) hln ?_; intro v' w10 hown10 hgrow10 hat10; have F10 := (F9.below a9).app ⟨⟨(hI.below (bel hbdr b9)).below a9, Lst.below hL9 a9⟩, hofft, hoL, hsc, h6, hll⟩ hgrow10 hat10 hown10; have S10 := SP w10 F10.pl.bw)
                  | fail)
              have hB10 : B1 ≤ w10.heap.size := by have h1 := hgrow10.size; have h2 := a9.size; omega
              clear F F9 S0 S0d S9 S9a S10 SP hL9 hLn9 a9 b9 hown10 hgrow10 hat10 hbdr hAt hc hI
              go_wp2_with fail
              go_roundw
              case rel => exact ⟨j + 1, bl' ++ [⟨s, t.A, t.n, t.c, t.l, LA, ln, lc, K.labs x.nd x.l sS x.r t.l⟩], by go_num, by omega, F10, hB10, by rw [List.length_append, HLB.out]; simp; omega, by show _ = _; rw [HTK.out, ← List.append_assoc, ← hcb.out, List.map_append]; rfl⟩
              case measure => simp [intOf]; omega
            · have j0 : decide ((j : Int) < (own.length : Int)) = false := by simp; omega
              have ks : IntKind.i64.wrap ((s : Int) + 1) = ((s + 1 : Nat) : Int) := by rw [IntWalk.i64_in _ (by omega)]; omega
              have hjn2 : own.take j = own := List.take_of_length_le (by omega)
              have HNX := Lib.hid (show bl'.map BV.pr = K.blksUpto x.nd x.l x.ss x.r (s + 1) by
                rw [K.blksUpto_succ, ← hcl.out, hcb.out, hjn2, ← HRN.out, ← HFE.out, ← HOWN.out, List.map_map]
                congr 1
                refine List.map_congr_left fun t _ => ?_
                show _ = ((s : Int), t.l, _)
                rw [HSS.out])
              have HLB := Lib.hid hlb
              clear hjn2 hlb
              go_wp2_with fail
              go_roundw
              case rel => exact ⟨s + 1, bl', by go_num, hlt, F.row, F.ok, F.pl, hBf, by have := HLB.out; omega, HNX.out⟩
              case measure => simp [intOf]; omega
    · have hse : s = x.ss.length := by have := HSN.out; omega
      have j0 : decide ((s : Int) < (x.sn : Int)) = false := by simp; omega
      obtain ⟨A9, c9, rfl, hRd, -⟩ := own_form hown
      have hnc9 : bl.length ≤ c9 := by
        obtain ⟨-, ⟨e, e0⟩ | ⟨g', cap, cur, e, -, -, h9, -⟩⟩ := hown
        · rw [e0]; exact Nat.zero_le _
        · injection e with e1 e2 e3; rw [e3]; exact h9
      have HB := Lib.hid (show bl.map BV.pr = (K.refute x.nd x.l x.ss x.r).1.map fun b => ((b.1 : Int), b.2) by rw [HR.out, K.blksUpto_all, ← hse]; exact hcl.out)
      have HX := Lib.hid (show (K.refute x.nd x.l x.ss x.r).2 = 0 by rw [HR.out])
      have hbn : bl.length ≤ 1000000000 := by omega
      clear hse hown
      go_wp2_with fail
      go_ret2
      rw [HX.out]
      exact ⟨⟨A9, bl.length, c9, bl, rfl, ⟨⟨rfl, hRd⟩, fun y hy => (hbo y hy).1⟩, hnc9, ⟨hbn, fun y hy => by obtain ⟨-, -, -, h1, h2, h3⟩ := hbo y hy; exact ⟨h1, by omega, by omega⟩⟩, HB.out⟩, bel hb1 hp.bw⟩
end Go.Proofs.Ytippdjmpkafifaa
