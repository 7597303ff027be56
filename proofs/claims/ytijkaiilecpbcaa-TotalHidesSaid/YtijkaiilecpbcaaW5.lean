/-
The walk of total.Check.
-/
import Derived.Test.YtijkaiilecpbcaaW4
namespace Go.Proofs.Ytijkaiilecpbcaa
open Go.RowKit
namespace K
def leafAt (l : List It) (i : Int) : Bool := match l[i.toNat]? with
  | some x => leafy x
  | none => false
def check (l : List It) (p : List Int) (t b : Int) (x : Ln) : Bool := walks l p && (right x && (leafAt l (p.getLastD 0) && (opens l (p.getLastD 0) x.cents x.bl && opens l (p.headD 0) t b)))
end K

theorem K.walk_mem {l : List It} : ∀ (p : List Int) (pr : Option Int), K.walkFrom l pr p = true → ∀ a ∈ p, K.has l.length a = true := by
  intro p
  induction p with
  | nil => intro pr _ a ha; simp at ha
  | cons y p ih =>
    intro pr h a ha
    simp only [K.walkFrom, Bool.and_eq_true] at h
    rcases List.mem_cons.1 ha with rfl | ha
    · exact h.1
    · exact ih _ h.2.2 a ha

theorem K.walks_parts {l : List It} {p : List Int} (h : K.walks l p = true) : K.sound l = true ∧ p ≠ [] ∧ K.walkFrom l none p = true := by
  simp only [K.walks, Bool.and_eq_true, Bool.not_eq_true', List.isEmpty_eq_false_iff] at h
  exact ⟨h.1, h.2.1, h.2.2⟩

theorem K.last_at {p : List Int} (h : p ≠ []) : p[p.length - 1]? = some (p.getLastD 0) := by
  rw [← List.getLast?_eq_getElem?, List.getLast?_eq_some_getLast h, List.getLastD_eq_getLast?, List.getLast?_eq_some_getLast h]; rfl
theorem K.head_at {p : List Int} (h : p ≠ []) : p[0]? = some (p.headD 0) := by
  cases p with
  | nil => exact absurd rfl h
  | cons a p => rfl

set_option maxRecDepth 100000 in
set_option maxHeartbeats 4000000 in
theorem check_any (A : Option Addr) (n c : Nat) (l : List It) (B : Option Addr) (m d : Nat) (p : List Int) (t b : Int) (x : Ln) (w : World) (hl : Items w A n l) (hn : n ≤ 1000000000000) (hp : Ints w B m p) (hm : m ≤ 1000000000000) :
    Calls Try.prog 13 #[.agg #[.slice A n c], .slice B m d, .int .i64 t, .int .i64 b, .agg #[.int .i64 x.hh, .int .i64 x.cents, .int .i64 x.bl]] w fun e w' => e = .returned (.bool (K.check l p t b x)) ∧ Below w.heap.size w w' := by
  have b1 := (Below.refl w.heap.size w).alloc (Nat.le_refl _) (.cells #[.slice A n c] 24)
  have b0 := b1.alloc (by simp) (.cells #[.int .i64 x.hh, .int .i64 x.cents, .int .i64 x.bl] 33)
  have hP0 := blk_alloc (vbox w A n c) (.cells #[.int .i64 x.hh, .int .i64 x.cents, .int .i64 x.bl] 33)
  have sz := World.size_alloc w (.cells #[.slice A n c] 24)
  have hX0 : ((w.alloc (.cells #[.slice A n c] 24)).alloc (.cells #[.int .i64 x.hh, .int .i64 x.cents, .int .i64 x.bl] 33)).heap[w.heap.size + 1]? = some (.cells #[.int .i64 x.hh, .int .i64 x.cents, .int .i64 x.bl] 33 (0, 0)) := heap_alloc_at _ _ _ sz.symm
  clear b1
  cases h1 : K.walks l p
  · have HX := Lib.hid (show K.check l p t b x = false by simp [K.check, h1])
    have H1 := Lib.hid h1
    clear h1
    go_enter Try.func13, Try.ntmps13
    go_wp2_with fail
    refine (walks_any A n c l B m d p _ (hl.below b0) hn (hp.below b0) hm).mono ?_; rw [H1.out]; rintro e w1 ⟨rfl, b1⟩
    go_wp2_with fail
    go_ret
    exact ⟨ret_b HX.out.symm, bel b0 b1⟩
  · have H1 := Lib.hid h1
    obtain ⟨hso, hne, hwk⟩ := K.walks_parts h1
    cases h2 : K.right x
    · have HX := Lib.hid (show K.check l p t b x = false by simp [K.check, h1, h2])
      have H2 := Lib.hid h2
      clear h1 h2 hso hne hwk
      go_enter Try.func13, Try.ntmps13
      go_wp2_with fail
      refine (walks_any A n c l B m d p _ (hl.below b0) hn (hp.below b0) hm).mono ?_; rw [H1.out]; rintro e w1 ⟨rfl, b1⟩
      have hX1 := blk_below b1 hX0
      have x0 := blk_cell hX1 0 _ rfl
      have x1 := blk_cell hX1 1 _ rfl
      have x2 := blk_cell hX1 2 _ rfl
      go_wp2_with fail
      refine (right_any x _).mono ?_; rw [H2.out]; rintro e w2 ⟨rfl, b2⟩
      go_wp2_with fail
      go_ret
      exact ⟨ret_b HX.out.symm, bel (bel b0 b1) b2⟩
    · have hla := K.last_at hne
      have hhd := K.head_at hne
      have m1 := K.walk_mem p none hwk _ (List.mem_of_getElem? hla)
      obtain ⟨u, hu⟩ : ∃ u, u = p.getLastD 0 := ⟨_, rfl⟩
      obtain ⟨v, hv⟩ : ∃ v, v = p.headD 0 := ⟨_, rfl⟩
      have HC := Lib.hid (show K.check l p t b x = (K.leafAt l u && (K.opens l u x.cents x.bl && K.opens l v t b)) by rw [hu, hv]; simp [K.check, h1, h2])
      rw [← hu, ← hp.1] at hla
      rw [← hv] at hhd
      rw [← hu, ← hl.1] at m1
      obtain ⟨u0, u1⟩ := K.has_iff.1 m1
      obtain ⟨j, rfl⟩ : ∃ j : Nat, u = j := ⟨u.toNat, by omega⟩
      have hjn : j < n := by omega
      have hm0 : 0 < m := by rw [hp.1]; exact List.length_pos_iff.2 hne
      have HL := Lib.hid hla
      have HH := Lib.hid hhd
      have H2 := Lib.hid h2
      clear h1 h2 hso hne hwk hla hhd m1 u0 u1 hu hv
      go_enter Try.func13, Try.ntmps13
      go_wp2_with fail
      refine (walks_any A n c l B m d p _ (hl.below b0) hn (hp.below b0) hm).mono ?_; rw [H1.out]; rintro e w1 ⟨rfl, b1⟩
      have hP1 := blk_below b1 hP0
      have hX1 := blk_below b1 hX0
      have x0 := blk_cell hX1 0 _ rfl
      have x1 := blk_cell hX1 1 _ rfl
      have x2 := blk_cell hX1 2 _ rfl
      have hb := bel b0 b1
      clear b0 b1 hP0 hX0 sz
      go_wp2_with fail
      refine (right_any x _).mono ?_; rw [H2.out]; rintro e w2 ⟨rfl, b2⟩
      have hP1 := blk_below b2 hP1
      have hX1 := blk_below b2 hX1
      have hb := bel hb b2
      clear b2 x0 x1 x2
      have p0 := blk_cell hP1 0 _ rfl
      have x0 := blk_cell hX1 0 _ rfl
      have x1 := blk_cell hX1 1 _ rfl
      have x2 := blk_cell hX1 2 _ rfl
      obtain ⟨adp, z, rfl, hz, cl⟩ := (hp.below hb).at_ (show m - 1 < m by omega)
      rw [HL.out] at hz; injection hz with hz; subst hz
      obtain ⟨adp', z, he, hz, ch⟩ := (hp.below hb).at_ hm0
      injection he with he; subst he
      rw [HH.out] at hz; injection hz with hz; subst hz
      obtain ⟨ad, y, rfl, hy, y0, y1, y2, y3⟩ := Items.at_ (hl.below hb) hjn
      have HF := Lib.hid (show K.leafAt l j = K.leafy y by simp only [K.leafAt, Int.toNat_natCast, hy])
      clear hy
      have hm1 : ((m - 1 : Nat) : Int) = (m : Int) - 1 := by omega
      rw [Addr.add_zero'] at ch
      have k0 : (0 : Int) ≤ (m : Int) - 1 := by omega
      have k1 : (m : Int) - 1 < (m : Int) := by omega
      have d0 : ∀ i : Beh w2, i.val.cell? ⟨w.heap.size, 0, none⟩ = some (.slice (some ad) n c) := Beh.cell p0
      have dx1 : ∀ i : Beh w2, i.val.cell? ⟨w.heap.size + 1, 1, none⟩ = some (.int .i64 x.cents) := Beh.cell x1
      have dx2 : ∀ i : Beh w2, i.val.cell? ⟨w.heap.size + 1, 2, none⟩ = some (.int .i64 x.bl) := Beh.cell x2
      have dh := Beh.cell ch
      have dy0 := Beh.cell y0
      have dy1 := Beh.cell y1
      have dy2 := Beh.cell y2
      have dy3 := Beh.cell y3
      have CL := fun i : Beh w2 => leaf_any y i.val
      have CO := fun i : Beh w2 => opens_any (some ad) n c l j x.cents x.bl i.val ((hl.below hb).below i.property) hn
      have CV := fun i : Beh w2 => opens_any (some ad) n c l v t b i.val ((hl.below hb).below i.property) hn
      have j0 : (0 : Int) ≤ (j : Int) := by omega
      have j1 : (j : Int) < (n : Int) := by omega
      have kk : (0 : Int) < (m : Int) := by omega
      go_wp2_with fail
      clear hm1 cl ch p0 x0 x1 x2 y0 y1 y2 y3
      cases hlf : K.leafy y
      · rw [hlf] at CL
        refine reg_beh (by kernel_rfl) (by kernel_rfl) ?_
        repeat (go_big_quiet_step ((first | (go_at_call 25; exact Beh.calls (CL _)))))
        refine wpQuiet_nil ?_
        rintro w9 ⟨⟨_, b9⟩, rfl⟩
        go_wp2_with fail
        go_ret
        exact ⟨ret_b (by rw [HC.out, HF.out, hlf]; rfl), bel hb b9⟩
      · rw [hlf] at CL
        cases ho : K.opens l j x.cents x.bl
        · rw [ho] at CO
          refine reg_beh (by kernel_rfl) (by kernel_rfl) ?_
          repeat (go_big_quiet_step ((first | (go_at_call 25; exact Beh.calls (CL _)) | (go_at_call_of 11 x.cents; exact Beh.calls (CO _)))))
          refine wpQuiet_nil ?_
          rintro w9 ⟨⟨_, b9⟩, rfl⟩
          go_wp2_with fail
          go_ret
          exact ⟨ret_b (by rw [HC.out, HF.out, hlf, ho]; rfl), bel hb b9⟩
        · rw [ho] at CO
          refine reg_beh (by kernel_rfl) (by kernel_rfl) ?_
          repeat (go_big_quiet_step ((first | (go_at_call 25; exact Beh.calls (CL _)) | (go_at_call_of 11 x.cents; exact Beh.calls (CO _)) | (go_at_call_of 11 v; exact Beh.calls (CV _)))))
          refine wpQuiet_nil ?_
          rintro w9 ⟨⟨_, b9⟩, rfl⟩
          go_wp2_with fail
          go_ret
          exact ⟨ret_b (by rw [HC.out, HF.out, hlf, ho]; rfl), bel hb b9⟩
end Go.Proofs.Ytijkaiilecpbcaa
