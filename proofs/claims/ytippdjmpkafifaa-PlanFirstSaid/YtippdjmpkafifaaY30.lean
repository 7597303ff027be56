/-
Plans: the walk of PlanFirst.
-/
import Derived.Test.YtippdjmpkafifaaY23S
import Derived.Test.YtippdjmpkafifaaY29
import Derived.Test.YtippdjmpkafifaaX10
namespace Go.Proofs.Ytippdjmpkafifaa
open Go.RowKit
/-- The numbers that a slice shows. -/
def readInts (w : World) (v : Value) : List Int := match v with
  | .slice (some ad) n _ => (List.range n).map fun i => match w.cell? (ad.add i) with
    | some (.int _ x) => x
    | _ => 0
  | _ => []
theorem readInts_eq {w : World} {A : Option Addr} {n c : Nat} {l : List Int} (h : Ints w A n l) : readInts w (.slice A n c) = l := by
  have h1 := h.1
  cases A with
  | none =>
    cases n with
    | zero => exact (List.length_eq_zero_iff.1 h1.symm).symm
    | succ n =>
      obtain ⟨ad, x, e, -, -⟩ := h.at_ (k := 0) (by omega)
      cases e
  | some ad =>
    unfold readInts
    apply List.ext_getElem?
    intro i
    rw [List.getElem?_map]
    by_cases hi : i < n
    · obtain ⟨ad', x, e, hx, hc⟩ := h.at_ hi
      injection e with e
      subst e
      rw [List.getElem?_range hi, hx, Option.map_some, hc]
    · rw [List.getElem?_eq_none (by rw [List.length_range]; omega), List.getElem?_eq_none (by omega)]
      rfl
/-- How many assignments are left. -/
def rank (m k : Nat) (v10 v11 : Value) (w : World) : Nat := match v11 with
  | .bool true => (m ^ k - A.val m ((readInts w v10).map Int.toNat)) + 1
  | _ => 0
theorem toNat_nat (d : List Nat) : (K.nat d).map Int.toNat = d := by
  unfold K.nat
  rw [List.map_map]
  conv => rhs; rw [← List.map_id d]
  congr 1
theorem rank_of {w : World} {A0 : Option Addr} {n c m k : Nat} {d : List Nat} (h : Ints w A0 n (K.nat d)) : rank m k (.slice A0 n c) (.bool true) w = (m ^ k - A.val m d) + 1 := by
  unfold rank
  rw [readInts_eq h, toNat_nat]
theorem Tours.one {w : World} {ad : Addr} {n k : Nat} {l : List TV} {y : TV} (h : Tours w (some ad) n l) (hy : l[k]? = some y) : Tours w (some (ad.add (k * 4))) 1 [y] := by
  have hk := (List.getElem?_eq_some_iff.1 hy).1
  obtain ⟨ad', x, e, hx, hc⟩ := Lst.get (f := TV.cells) (s := 4) (fun _ => rfl) h.1 (k := k) (by rw [h.1.1]; exact hk)
  injection e with e
  subst e
  rw [hy] at hx
  injection hx with hx
  subst hx
  refine ⟨⟨rfl, rfl, fun _ => ⟨_, rfl, fun j u hu => ?_⟩⟩, fun z hz => by rw [List.mem_singleton.1 hz]; exact h.2 y (List.mem_of_getElem? hy)⟩
  rw [List.flatMap_singleton] at hu
  rw [add_add]
  exact hc j u (List.getElem?_eq_some_iff.1 hu).1 hu
theorem K.pcheck_six {nd : Int} {l : List Ro} {ss : List S} {r : List Q} (h : K.pcheck nd l ss r = 6) : 6 < r.length := by
  unfold K.pcheck at h
  split at h
  · split at h
    · assumption
    · cases h
  · cases h

set_option maxRecDepth 100000 in
set_option maxHeartbeats 16000000 in
theorem planFirst_any (x : Cs) (w : World) (hN : Roads w x.A x.n x.l) (hS : Shifts w x.SA x.sn x.ss) (hQ : Reqs w x.B x.m x.r) :
    Calls Try.prog 6 #[.agg #[.int .i64 x.nd, .slice x.A x.n x.c], .slice x.SA x.sn x.sc, .slice x.B x.m x.d] w fun e w' => e = .returned (.bool true) ∧ Below w.heap.size w w' := by
  obtain ⟨w1, hw1⟩ : ∃ w1 : World, w1 = w.alloc (.cells #[.int .i64 x.nd, .slice x.A x.n x.c] 24) := ⟨_, rfl⟩
  obtain ⟨G0, hG0⟩ : ∃ G0, G0 = w.heap.size := ⟨_, rfl⟩
  have hP : Net w1 G0 x.nd x.A x.n x.c := by rw [hw1, hG0]; exact Net.new w x.nd x.A x.n x.c
  have hb : Below w.heap.size w w1 := by rw [hw1]; exact (Below.refl _ _).alloc (Nat.le_refl _) _
  go_enter Try.func6, Try.ntmps6
  go_wp2_with fail
  rw [← hw1, ← hG0]
  clear hw1 hG0
  refine (small_any _).mono ?_
  rintro e w2 ⟨rfl, b2⟩
  have hP := hP.below b2
  have hb := bel hb b2
  clear b2
  have p0 := hP.c0
  have p1 := hP.c1
  go_wp2_with fail
  refine (few9_any x _ (hS.below hb) (hQ.below hb)).mono ?_
  rintro e w3 ⟨rfl, b3⟩
  clear p0 p1
  have hP := hP.below b3
  have hb := bel hb b3
  clear b3
  have p0 := hP.c0
  have p1 := hP.c1
  cases hf : K.few32 x
  · clear hf
    go_wp2_with fail
    go_ret
    exact ⟨rfl, hb⟩
  have hx : CsAt w x := K.few32_at hf hN hS hQ
  clear hf
  have HSN := Lib.hid hS.1.1
  have HRN := Lib.hid hQ.1
  by_cases h1 : x.sn ≤ 2
  rotate_left
  · have d1 : decide ((2 : Int) < (x.sn : Int)) = true := by simp; omega
    have d2 : decide (2 < x.sn) = true := by simp; omega
    clear h1
    go_wp2_with fail
    go_ret
    exact ⟨rfl, hb⟩
  have d1 : decide ((2 : Int) < (x.sn : Int)) = false := by simp; omega
  have d2 : decide (2 < x.sn) = false := by simp; omega
  by_cases h2 : x.m ≤ 3
  rotate_left
  · have d3 : decide ((3 : Int) < (x.m : Int)) = true := by simp; omega
    have d4 : decide (3 < x.m) = true := by simp; omega
    clear h1 h2
    go_wp2_with fail
    go_ret
    exact ⟨rfl, hb⟩
  have d3 : decide ((3 : Int) < (x.m : Int)) = false := by simp; omega
  have d4 : decide (3 < x.m) = false := by simp; omega
  by_cases h3 : 0 < x.sn
  rotate_left
  · have d5 : ((x.sn : Int) == 0) = true := by simp; omega
    have d6 : decide ((x.sn : Int) = 0) = true := by simp; omega
    have d7 : x.sn = 0 := by omega
    clear h1 h2 h3
    go_wp2_with fail
    go_ret
    exact ⟨rfl, hb⟩
  have d5 : ((x.sn : Int) == 0) = false := by simp; omega
  have d6 : decide ((x.sn : Int) = 0) = false := by simp; omega
  go_wp2_with fail
  refine (plan32_any x _ (hx.below hb)).mono ?_
  obtain ⟨p, hp⟩ : ∃ p, p = K.plan x.nd x.l x.ss x.r := ⟨_, rfl⟩
  rw [← hp]
  have HPL := Lib.hid hp
  clear hp d1 d2 d3 d4 d5 d6
  rintro e w4 ⟨⟨PA, pn, pc, pl, rfl, hPT, hpc, hpl⟩, b4⟩
  clear p0 p1
  have hP := hP.below b4
  have hb := bel hb b4
  clear b4
  have p0 := hP.c0
  have p1 := hP.c1
  by_cases he1 : p.2 = 1
  · have d1 : (p.2 == 1) = true := by simp [he1]
    go_wp2_with fail
    go_ret
    exact ⟨rfl, hb⟩
  have d1 : (p.2 == 1) = false := by simp [he1]
  have d2 : decide (p.2 = 1) = false := by simp [he1]
  have hpc0 : K.pcheck x.nd x.l x.ss x.r = 0 := by
    by_cases h : K.pcheck x.nd x.l x.ss x.r = 0
    · exact h
    · have h9 := K.plan_err h
      rw [← HPL.out] at h9
      rcases K.pcheck_cases (nd := x.nd) (l := x.l) (ss := x.ss) (r := x.r) with e | e | e
      · exact e
      · rw [h9, e] at he1; exact absurd rfl he1
      · have := K.pcheck_six e; have := HRN.out; omega
  have HPC := Lib.hid hpc0
  obtain ⟨F, hF⟩ : ∃ F, F = K.feas x.nd x.l x.ss x.r := ⟨_, rfl⟩
  have HF := Lib.hid hF
  obtain ⟨h, hh⟩ : ∃ h, h = w4.heap.size := ⟨_, rfl⟩
  obtain ⟨w5, hw5⟩ : ∃ w5 : World, w5 = w4.alloc (.cells (intCells (List.replicate x.m 0)).toArray 3) := ⟨_, rfl⟩
  have b45 : Below w4.heap.size w4 w5 := by rw [hw5]; exact (Below.refl _ _).alloc (Nat.le_refl _) _
  have hI5 : Ints w5 (some ⟨h, 0, none⟩) x.m (K.nat (List.replicate x.m 0)) := by
    have h9 : IBlk w5 h (List.replicate x.m 0) := by rw [hw5, hh]; exact heap_alloc_new _ _
    have h8 := h9.ints
    rw [List.length_replicate] at h8
    unfold K.nat
    rw [List.map_replicate]
    exact h8
  have hmk := make_ints x.m (by omega)
  clear hF hpc0 he1
  go_wp2_with fail
  rw [← hw5, ← hh]
  have hP5 := hP.below b45
  have hPT5 := hPT.below b45
  have hb5 := bel hb b45
  clear hw5 hh hmk b45 hP hPT hb p0 p1 d1 d2
  have hex0 := A.exts_zero h3 x.m
  go_loopw [10, 11] (fun v10 v11 wr => Below w5.heap.size w5 wr ∧ ((v11 = .bool false ∧ Hid (∀ e ∈ A.exts x.sn x.m, A.possible F x.sn e = false)) ∨ ∃ (j : Nat) (d : List Nat) (LA : Option Addr) (ln lc : Nat), v11 = .bool true ∧ v10 = .slice LA ln lc ∧ Ints wr LA ln (K.nat d) ∧ Hid ((A.exts x.sn x.m)[j]? = some d) ∧ Hid (∀ e ∈ (A.exts x.sn x.m).take j, A.possible F x.sn e = false))) (fun v10 v11 wr => rank x.sn x.m v10 v11 wr)
  case atStart => exact ⟨Below.refl _ _, .inr ⟨0, _, _, _, _, rfl, rfl, hI5, hex0, fun e he => (by cases he)⟩⟩
  case round =>
    clear hI5 hex0
    obtain ⟨hbr, (⟨rfl, hno⟩ | ⟨j, d, LA, ln, lc, rfl, rfl, hI, hj, hbef⟩)⟩ := hrel
    · have hp4 : p.2 = 4 := by
        have h9 := A.first_none hno.out
        rw [HPL.out]
        rcases K.plan_cases HPC.out with ⟨g, -⟩ | ⟨d, g, -⟩
        · rw [g]
        · rw [← HF.out, ← HSN.out, ← HRN.out, h9] at g
          cases g
      have d1 : (p.2 == 4) = true := by simp [hp4]
      have d2 : decide (p.2 = 4) = true := by simp [hp4]
      clear hp4
      go_wp2_with fail
      go_ret
      exact ⟨rfl, bel hb5 hbr⟩
    · obtain ⟨hdl, hdm⟩ := A.mem_exts.1 (List.mem_of_getElem? hj.out)
      have hln : ln = x.m := by rw [hI.1]; unfold K.nat; rw [List.length_map]; exact hdl
      have HLN := Lib.hid hln
      have hPr := hP5.below hbr
      have hbw := bel hb5 hbr
      have p0 := hPr.c0
      have p1 := hPr.c1
      have CPo := possible21_any x LA ln lc d wr (hx.below hbw) hI (by omega) (by omega)
      rw [← HF.out] at CPo
      obtain ⟨po, hpo⟩ : ∃ po, po = A.possible F x.sn d := ⟨_, rfl⟩
      rw [← hpo] at CPo
      have HPO := Lib.hid hpo
      have HDL := Lib.hid hdl
      have HDM := Lib.hid hdm
      clear hpo hdl hdm hln
      go_wp2_with fail
      refine CPo.mono ?_
      rintro e w6 ⟨rfl, b6⟩
      have hI6 := hI.below b6
      have hb6 := bel hbr b6
      clear CPo p0 p1 hPr hbw
      cases po
      · have HN1 := Lib.hid (A.not_first hj.out hbef.out HPO.out.symm)
        have CN := next20_any LA ln lc d x.sn w6 hI6 (by have := HLN.out; omega) HDM.out (by omega)
        have HEX := Lib.hid (A.next_exts h3 hj.out)
        have HRK := Lib.hid (rank_of (c := lc) (m := x.sn) (k := x.m) hI)
        obtain ⟨nx, hnx⟩ : ∃ nx, nx = A.next x.sn d := ⟨_, rfl⟩
        rw [← hnx] at CN HEX
        have HNX := Lib.hid hnx
        clear hnx
        go_wp2_with fail
        refine CN.mono ?_
        rintro e w7 ⟨(⟨hnn, rfl⟩ | ⟨d', A', n', c', hnn, rfl, hI', hc'⟩), b7⟩
        · have HALL := Lib.hid (show ∀ e ∈ A.exts x.sn x.m, A.possible F x.sn e = false by
            have h9 := HEX.out
            rw [hnn] at h9
            have h8 := List.getElem?_eq_none_iff.1 h9.symm
            have h7 := HN1.out
            rw [List.take_of_length_le h8] at h7
            exact h7)
          have hb7 := bel hb6 b7
          have HME := Lib.hid (show rank x.sn x.m (.slice none 0 0) (.bool false) w7 < rank x.sn x.m (.slice LA ln lc) (.bool true) wr by rw [HRK.out]; exact Nat.succ_pos _)
          clear hnn CN
          go_wp2_with fail
          go_roundw
          case rel => (go_light; exact ⟨hb7, .inl ⟨rfl, HALL.out⟩⟩)
          case measure => (go_light; exact HME.out)
        · have hb7 := bel hb6 b7
          have HME := Lib.hid (show rank x.sn x.m (.slice A' n' c') (.bool true) w7 < rank x.sn x.m (.slice LA ln lc) (.bool true) wr by
            rw [HRK.out, rank_of hI']
            have h9 := ((A.val_next HDM.out).1 d' (by rw [← HNX.out]; exact hnn)).1
            have h8 := A.val_lt HDM.out
            rw [HDL.out] at h8
            omega)
          have HEJ := Lib.hid (show (A.exts x.sn x.m)[j + 1]? = some d' by rw [← HEX.out]; exact hnn)
          clear hnn CN
          go_wp2_with fail
          go_roundw
          case rel => (go_light; exact ⟨hb7, .inr ⟨j + 1, d', A', n', c', rfl, rfl, hI', HEJ.out, HN1.out⟩⟩)
          case measure => (go_light; exact HME.out)
      · have hfst := A.first_at hj.out hbef.out HPO.out.symm
        have hp0 : p = (K.toursOf x.nd x.l x.ss x.r d, 0) := by
          rw [HPL.out]
          rcases K.plan_cases HPC.out with ⟨-, g⟩ | ⟨d', g, g2⟩
          · rw [← HF.out, ← HSN.out, ← HRN.out, hfst] at g
            cases g
          · rw [← HF.out, ← HSN.out, ← HRN.out, hfst] at g
            injection g with g
            rw [g2, g]
        obtain ⟨G, hG⟩ : ∃ G : Nat → Option (Nat × K.Tr), G = fun s => if (A.share d s 0).isEmpty then none else match x.ss[s]? with
          | none => none
          | some y => (K.best x.nd x.l y x.r (A.share d s 0)).map fun t => (s, t) := ⟨_, rfl⟩
        obtain ⟨cst, hcst⟩ : ∃ cst : Nat × K.Tr → Int × K.Tr, cst = fun t => ((t.1 : Int), t.2) := ⟨_, rfl⟩
        have HT0 := Lib.hid (show (pl.drop 0).map TV.pr = ((List.range' 0 (x.sn - 0)).filterMap G).map cst by
          rw [List.drop_zero, hpl, hp0, hG, hcst, Nat.sub_zero, ← List.range_eq_range', HSN.out]
          rfl)
        have e0 : p.2 = 0 := by rw [hp0]
        have HG := Lib.hid hG
        have HC := Lib.hid hcst
        have HPOS := Lib.hid (show ∀ s, s < x.sn → ((A.share d s 0).isEmpty || F s (A.share d s 0)) = true from fun s hs => List.all_eq_true.1 (show A.possible F x.sn d = true from HPO.out.symm) s (List.mem_range.2 hs))
        have HE0 := Lib.hid e0
        have hln3 : ln ≤ 1000 := by have := HLN.out; omega
        have hb60 := bel hb5 hb6
        have hP6 := hP5.below hb6
        have hPT6 := hPT5.below hb6
        have hxw := hx.below hb60
        have HPNL := Lib.hid hPT5.1.1
        have hpn2 : pn ≤ 2 := by
          have h9 := congrArg List.length HT0.out
          rw [List.drop_zero, List.length_map, List.length_map] at h9
          have h8 := List.length_filterMap_le G (List.range' 0 (x.sn - 0))
          rw [List.length_range'] at h8
          have h7 := hPT5.1.1
          omega
        clear hG hcst hfst hp0 e0
        go_wp2_with fail
        go_loopw [12, 13] (fun v12 v13 wi => ∃ (k n : Nat), v13 = .int .i64 k ∧ k ≤ x.sn ∧ v12 = .int .i64 n ∧ n ≤ pn ∧ Hid ((pl.drop n).map TV.pr = ((List.range' k (x.sn - k)).filterMap G).map cst) ∧ Below w6.heap.size w6 wi) (fun _ v13 _ => x.sn - (intOf v13).toNat)
        case atStart => exact ⟨0, 0, rfl, Nat.zero_le _, rfl, Nat.zero_le _, HT0.out, Below.refl _ _⟩
        case round =>
          obtain ⟨k, n, rfl, hk, rfl, hn, hTL, hbi⟩ := hrel
          by_cases hlt : k < x.sn
          rotate_left
          · have hd : decide ((k : Int) < (x.sn : Int)) = false := by simp; omega
            have hd2 : decide (k < x.sn) = false := by simp; omega
            have hnp : n = pn := by
              have h9 := hTL.out
              rw [show x.sn - k = 0 by omega] at h9
              have h8 := List.map_eq_nil_iff.1 h9
              have h7 := List.drop_eq_nil_iff.1 h8
              have := HPNL.out
              omega
            subst hnp
            have d1 : (p.2 == 0) = true := by simp [HE0.out]
            have d2 : decide (p.2 = 0) = true := by simp [HE0.out]
            clear hlt
            go_wp2_with fail
            go_ret
            exact ⟨rfl, bel hb60 hbi⟩
          have k0 : (0 : Int) ≤ (k : Int) := by omega
          have k1 : (k : Int) < (x.sn : Int) := by omega
          obtain ⟨ads, -, hSA, -⟩ := (hxw.below hbi).shifts.at_ hlt
          rw [hSA]
          go_wp2_with fail
          refine (share22_any LA ln lc d k _ (hI6.below hbi) hln3).mono ?_
          obtain ⟨v, hv⟩ : ∃ v, v = A.share d k 0 := ⟨_, rfl⟩
          rw [← hv]
          have HV := Lib.hid hv
          have hvl : v.length ≤ 1000 := by have := A.share_len k d 0; rw [← hv] at this; have := HDL.out; omega
          clear hv
          rintro e wd ⟨⟨V, vn, vc, rfl, hVd, hvc⟩, bd⟩
          have hbd := bel hbi bd
          have hNd := hP6.below hbd
          have hxd := hxw.below hbd
          obtain ⟨ads', sS, hSA', hsS, hIS, s0, s1, s2, s3, s4, s5⟩ := hxd.shifts.at_ hlt
          rw [hSA] at hSA'
          injection hSA' with hSA'
          subst hSA'
          have hAtd := hxd.case (List.mem_of_getElem? hsS)
          have HSS := Lib.hid hsS
          have hvnl : vn = v.length := hVd.1
          have HVN := Lib.hid hvnl
          have hvn9 : vn ≤ 1000000000 := by omega
          have HSTEP := Lib.hid (show (pl.drop n).map TV.pr = ((G k).toList ++ (List.range' (k + 1) (x.sn - (k + 1))).filterMap G).map cst by
            rw [hTL.out, show x.sn - k = (x.sn - (k + 1)) + 1 by omega, List.range'_succ, List.filterMap_cons]
            cases G k <;> rfl)
          have p0 := hNd.c0
          have p1 := hNd.c1
          clear hsS bd hIS hTL
          by_cases h0 : vn = 0
          · have d1 : ((vn : Int) == 0) = true := by simp [h0]
            have d2 : decide ((vn : Int) = 0) = true := by simp [h0]
            have HX := Lib.hid (show (pl.drop n).map TV.pr = ((List.range' (k + 1) (x.sn - (k + 1))).filterMap G).map cst by
              have hv0 : v = [] := List.length_eq_zero_iff.1 (by rw [← HVN.out]; exact h0)
              have hg0 : G k = none := by rw [HG.out]; dsimp only; rw [← HV.out, hv0]; rfl
              rw [HSTEP.out, hg0]
              rfl)
            clear h0 hvnl p0 p1 s0 s1 s2 s3 s4 s5
            go_wp2_with fail
            go_roundw
            case rel => (go_light; exact ⟨k + 1, n, by go_num, by omega, rfl, hn, HX.out, hbd⟩)
            case measure => (go_light; simp [intOf]; omega)
          have d1 : ((vn : Int) == 0) = false := by simp [h0]
          have d2 : decide ((vn : Int) = 0) = false := by simp [h0]
          obtain ⟨Y, hY⟩ : ∃ Y, Y = K.bestOut x.nd x.l sS x.r v := ⟨_, rfl⟩
          have HY := Lib.hid hY
          have hve : v.isEmpty = false := by
            cases hv0 : v with
            | nil => rw [hv0] at hvnl; exact absurd hvnl h0
            | cons a b => rfl
          have hfe : (K.bestOut x.nd x.l sS x.r v).2 = 0 := by
            have h9 := HPOS.out k hlt
            rw [← HV.out, hve, Bool.false_or, HF.out] at h9
            unfold K.feas at h9
            rw [HSS.out] at h9
            exact beq_iff_eq.1 h9
          obtain ⟨hok, t, hbt⟩ := K.bestOut_zero.1 hfe
          have hYt : Y = (t, 0) := by
            rw [hY]
            unfold K.bestOut
            rw [if_pos hok, hbt]
          have hg1 : G k = some (k, t) := by
            rw [HG.out]
            dsimp only
            rw [← HV.out, hve, HSS.out]
            simp only [Bool.false_eq_true, if_false, hbt, Option.map_some]
          have hst := K.best_tour hok hbt
          have HST := Lib.hid hst
          have hHD : (pl.drop n).map TV.pr = ((k : Int), t) :: ((List.range' (k + 1) (x.sn - (k + 1))).filterMap G).map cst := by
            rw [HSTEP.out, hg1, HC.out]
            rfl
          have hnp : n < pn := by
            have h9 : (pl.drop n).length ≠ 0 := by
              intro h8
              rw [List.length_eq_zero_iff.1 h8] at hHD
              cases hHD
            rw [List.length_drop] at h9
            have := HPNL.out
            omega
          have hpt : pl.drop n = pl[n]'(by have := HPNL.out; omega) :: pl.drop (n + 1) := List.drop_eq_getElem_cons _
          rw [hpt, List.map_cons] at hHD
          injection hHD with hH1 hH2
          have HH1 := Lib.hid hH1
          have HH2 := Lib.hid hH2
          have HYT := Lib.hid hYt
          have HN0 := Lib.hid h0
          clear hY hfe hok hbt hYt hg1 hst hpt hH1 hH2 hve h0 hvnl
          have hmk : ∀ w', Below wd.heap.size wd w' → (fun w' : World => w'.cell? ⟨G0, 0, none⟩ = some (.int .i64 x.nd) ∧ w'.cell? ⟨G0, 1, none⟩ = some (.slice x.A x.n x.c) ∧ w'.cell? (ads.add (k * 6)) = some (.int .i64 sS.day) ∧ w'.cell? ⟨(ads.add (k * 6)).block, (ads.add (k * 6)).off + 1, none⟩ = some (.int .i64 sS.depot) ∧ w'.cell? ⟨(ads.add (k * 6)).block, (ads.add (k * 6)).off + 2, none⟩ = some (.int .i64 sS.start) ∧ w'.cell? ⟨(ads.add (k * 6)).block, (ads.add (k * 6)).off + 3, none⟩ = some (.int .i64 sS.end_) ∧ w'.cell? ⟨(ads.add (k * 6)).block, (ads.add (k * 6)).off + 4, none⟩ = some (.int .i64 sS.tare) ∧ w'.cell? ⟨(ads.add (k * 6)).block, (ads.add (k * 6)).off + 5, none⟩ = some (.slice sS.A sS.n sS.c)) w' := fun w' h => by
            have mv : ∀ {p : Addr} {v : Value}, wd.cell? p = some v → w'.cell? p = some v := fun g => (h.cell (cell_lt g)).trans g
            exact ⟨mv p0, mv p1, mv s0, mv s1, mv s2, mv s3, mv s4, mv s5⟩
          have hbd0 : Below wd.heap.size wd wd := Below.refl _ _
          have S0 := hmk _ hbd0
          have ba : Below wd.heap.size wd (wd.alloc (.cells #[.int .i64 0, .slice none 0 0, .slice none 0 0, .int .i64 0] 51)) := (Below.refl _ _).alloc (Nat.le_refl _) _
          have S0a := hmk _ ba
          have S0d := hmk _ hbd0.drew
          have S0ad := hmk _ ba.drew
          have hAt := fun w' (h : Below wd.heap.size wd w') => hAtd.below h
          go_wp2_with fail
          go_cut [15, 16] from 78 to 88 (fun vp ve wc => ∃ g A n c A' n' c', vp = .pointer (some ⟨g, 0, none⟩) ∧ ve = .int .i64 Y.2 ∧ TBlk wc g 0 (.slice A n c) (.slice A' n' c') Y.1.end_ ∧ Ints wc A n Y.1.stops ∧ Ints wc A' n' Y.1.times ∧ Below wd.heap.size wd wc ∧ wd.heap.size ≤ g ∧ (0 < n → ∀ ad, A = some ad → ad.block ≠ g) ∧ (0 < n' → ∀ ad, A' = some ad → ad.block ≠ g))
          case first =>
            go_region_held3 (fun w' : World => w'.cell? ⟨G0, 0, none⟩ = some (.int .i64 x.nd) ∧ w'.cell? ⟨G0, 1, none⟩ = some (.slice x.A x.n x.c) ∧ w'.cell? (ads.add (k * 6)) = some (.int .i64 sS.day) ∧ w'.cell? ⟨(ads.add (k * 6)).block, (ads.add (k * 6)).off + 1, none⟩ = some (.int .i64 sS.depot) ∧ w'.cell? ⟨(ads.add (k * 6)).block, (ads.add (k * 6)).off + 2, none⟩ = some (.int .i64 sS.start) ∧ w'.cell? ⟨(ads.add (k * 6)).block, (ads.add (k * 6)).off + 3, none⟩ = some (.int .i64 sS.end_) ∧ w'.cell? ⟨(ads.add (k * 6)).block, (ads.add (k * 6)).off + 4, none⟩ = some (.int .i64 sS.tare) ∧ w'.cell? ⟨(ads.add (k * 6)).block, (ads.add (k * 6)).off + 5, none⟩ = some (.slice sS.A sS.n sS.c))
              (first | with_reducible exact S1s | with_reducible exact S1b | with_reducible exact S1a | with_reducible exact S1 | with_reducible exact S0ad | with_reducible exact S0a | with_reducible exact S0d | with_reducible exact S0 | fail)
              (first
                | (go_at_call 23; refine (best_any (x.one sS) V vn vc v _ (hAt _ ?_) (hVd.below ?_) hvc hvn9).mono ?_; (first | with_reducible exact hbd0 | with_reducible exact ba | with_reducible exact hbd0.drew | with_reducible exact ba.drew); (first | with_reducible exact hbd0 | with_reducible exact ba | with_reducible exact hbd0.drew | with_reducible exact ba.drew); rw [show K.bestOut (x.one sS).nd (x.one sS).l (x.one sS).s (x.one sS).r v = Y from HY.out.symm]; rintro e w5 ⟨⟨A0, n0, c0, A1, n1, c1, rfl, hI0, hI1, hf0, hf1⟩, hbn⟩; (first | (have b5 := bel hbd0.drew hbn; have b5b := bel b5 ((Below.refl _ _).alloc (Nat.le_refl _) (.cells #[.int .i64 0, .slice A0 n0 c0, .slice A1 n1 c1, .int .i64 Y.1.end_] 51)); have S1b := hmk _ b5b; have S1a := hmk _ (bel b5 ((Below.refl _ _).alloc (Nat.le_refl _) (.cells #[.int .i64 0, .slice none 0 0, .slice none 0 0, .int .i64 0] 51)))) | (have b5 := bel ba.drew hbn; have hT5 := blk_below hbn (heap_alloc_new wd (.cells #[.int .i64 0, .slice none 0 0, .slice none 0 0, .int .i64 0] 51)); have S1s := hmk _ (below_set4 b5 (Nat.le_refl _) (.int .i64 0) (.slice A0 n0 c0) (.slice A1 n1 c1) (.int .i64 Y.1.end_)); obtain ⟨t0, t1, t2, t3⟩ := TBlk.cells (h := 0) hT5; have tf := blk_free hT5)); have S1 := hmk _ b5)
                | fail)
            · go_wp2_with fail
              go_meet
              case rel => (go_light; exact ⟨w5.heap.size, A0, n0, c0, A1, n1, c1, rfl, rfl, heap_alloc_new _ _, hI0.below ((Below.refl _ _).alloc (Nat.le_refl _) _), hI1.below ((Below.refl _ _).alloc (Nat.le_refl _) _), b5b, b5.size, fun h0 ad' e h9 => Nat.lt_irrefl _ (h9 ▸ hI0.lt_of h0 e), fun h0 ad' e h9 => Nat.lt_irrefl _ (h9 ▸ hI1.lt_of h0 e)⟩)
            · have hz9 := World.size_alloc wd (.cells #[.int .i64 0, .slice none 0 0, .slice none 0 0, .int .i64 0] 51)
              have hne0 : ∀ ad' : Addr, A0 = some ad' → ad'.block ≠ wd.heap.size := fun ad' e h9 => by
                have h8 := hf0 ad' e
                rw [h9] at h8
                have h8 : (wd.alloc (.cells #[.int .i64 0, .slice none 0 0, .slice none 0 0, .int .i64 0] 51)).heap.size ≤ wd.heap.size := h8
                omega
              have hne1 : ∀ ad' : Addr, A1 = some ad' → ad'.block ≠ wd.heap.size := fun ad' e h9 => by
                have h8 := hf1 ad' e
                rw [h9] at h8
                have h8 : (wd.alloc (.cells #[.int .i64 0, .slice none 0 0, .slice none 0 0, .int .i64 0] 51)).heap.size ≤ wd.heap.size := h8
                omega
              have hT9 : TBlk ((((w5.setCell ⟨wd.heap.size, 0, none⟩ (.int .i64 0)).setCell ⟨wd.heap.size, 1, none⟩ (.slice A0 n0 c0)).setCell ⟨wd.heap.size, 2, none⟩ (.slice A1 n1 c1)).setCell ⟨wd.heap.size, 3, none⟩ (.int .i64 Y.1.end_)) wd.heap.size 0 (.slice A0 n0 c0) (.slice A1 n1 c1) Y.1.end_ := blk_set (blk_set (blk_set (blk_set hT5 0 _) 1 _) 2 _) 3 _
              have b9 := below_set4 b5 (Nat.le_refl _) (.int .i64 0) (.slice A0 n0 c0) (.slice A1 n1 c1) (.int .i64 Y.1.end_)
              go_wp2_with fail
              go_meet
              case rel => (go_light; exact ⟨wd.heap.size, A0, n0, c0, A1, n1, c1, rfl, rfl, hT9, (((hI0.set _ hne0).set _ hne0).set _ hne0).set _ hne0, (((hI1.set _ hne1).set _ hne1).set _ hne1).set _ hne1, b9, Nat.le_refl _, fun _ => hne0, fun _ => hne1⟩)
          case rest =>
            obtain ⟨g, A0, n0, c0, A1, n1, c1, rfl, rfl, hT, hI0, hI1, hbc, hgd, hn0, hn1⟩ := hcut
            have hbc2 := bel hbd hbc
            rw [HYT.out] at hT hI0 hI1 ⊢
            dsimp only at hT hI0 hI1 ⊢
            clear S0 S0a S0d S0ad hmk hAt hVd ba hbd0 s0 s1 s2 s3 s4 s5 p0 p1 d1 d2
            obtain ⟨t0, t1, t2, t3⟩ := hT.cells
            have tf := blk_free hT
            have i0 : (0 : Int) ≤ (n : Int) := by omega
            have i1 : (n : Int) < (pn : Int) := by omega
            have e1 : decide ((pn : Int) ≤ (n : Int)) = false := by simp; omega
            have e2 : decide (pn ≤ n) = false := by simp; omega
            have hTe : TBlk (wc.setCell ⟨g, 0, none⟩ (.int .i64 (k : Int))) g k (.slice A0 n0 c0) (.slice A1 n1 c1) t.end_ := blk_set hT 0 _
            go_upto_region 20 with fail
            clear t0 t1 t2 t3 tf
            obtain ⟨we, hwe⟩ : ∃ we : World, we = wc.setCell ⟨g, 0, none⟩ (.int .i64 (k : Int)) := ⟨_, rfl⟩
            have bse : Below wd.heap.size wd we := by rw [hwe]; exact hbc.setCell (p := ⟨g, 0, none⟩) hgd _
            obtain ⟨hst1, -, hst3⟩ := HST.out
            have hnv : n0 = vn := by rw [hI0.1, hst1.length_eq, ← HVN.out]
            have hnv1 : n1 = vn := by rw [hI1.1, hst3, hst1.length_eq, ← HVN.out]
            have hI0e : Ints we A0 n0 t.stops := by rw [hwe]; exact hI0.set _ (hn0 (by have := HN0.out; omega))
            have hI1e : Ints we A1 n1 t.times := by rw [hwe]; exact hI1.set _ (hn1 (by have := HN0.out; omega))
            rw [← hwe] at hTe ⊢
            have hPTe := hPT6.below (bel hbd bse)
            obtain ⟨ada, y, rfl, hy, -, -, -, -, -⟩ := hPTe.at_ hnp
            have hyp : y.pr = ((k : Int), t) := by
              obtain ⟨h9, e9⟩ := List.getElem?_eq_some_iff.1 hy
              rw [← e9]
              exact HH1.out
            have hO := hPTe.one hy
            have hb8 := bel hbd bse
            have hn0n : n0 ≤ 1000 := by rw [hnv, HVN.out]; exact hvl
            have hn1n : n1 ≤ 1000 := by rw [hnv1, HVN.out]; exact hvl
            have hyn : y.n ≤ 1000000000 ∧ y.n' ≤ 1000000000 := by
              have g1 := (hO.2 y (List.mem_singleton_self y)).1.1
              have g2 := (hO.2 y (List.mem_singleton_self y)).2.1
              have g3 : y.t = t := congrArg Prod.snd hyp
              rw [g3] at g1 g2
              have g4 := hI0e.1
              have g5 := hI1e.1
              omega
            have hsmall : ∀ z ∈ [y], z.n ≤ 1000000000 ∧ z.n' ≤ 1000000000 := fun z hz => by rw [List.mem_singleton.1 hz]; exact hyn
            have CS1 : ∀ (sA : Option Addr) (cA : Nat) (W : World), sA = some (ada.add (n * 4)) → (W = we.alloc (.cells #[.int .i64 (k : Int), .slice A0 n0 c0, .slice A1 n1 c1, .int .i64 t.end_] 51) ∨ W = (we.alloc (.cells #[.int .i64 (k : Int), .slice A0 n0 c0, .slice A1 n1 c1, .int .i64 t.end_] 51)).drew) → Calls Try.prog 24 #[.slice sA 1 cA, .slice (some ⟨we.heap.size, 0, none⟩) 1 1] W fun e w'' => e = .returned (.bool true) ∧ Below we.heap.size we w'' := fun sA cA W hsA hW => by
              subst hsA
              have bW : Below we.heap.size we W := by
                rcases hW with rfl | rfl
                · exact (Below.refl _ _).alloc (Nat.le_refl _) _
                · exact ((Below.refl _ _).alloc (Nat.le_refl _) _).drew
              have hL : W.heap[we.heap.size]? = some (.cells #[.int .i64 (k : Int), .slice A0 n0 c0, .slice A1 n1 c1, .int .i64 t.end_] 51 (0, 0)) := by
                rcases hW with rfl | rfl
                · exact heap_alloc_new _ _
                · exact heap_alloc_new we (.cells #[.int .i64 (k : Int), .slice A0 n0 c0, .slice A1 n1 c1, .int .i64 t.end_] 51)
              have hTl : Tours W (some ⟨we.heap.size, 0, none⟩) 1 [(⟨k, A0, n0, c0, A1, n1, c1, t⟩ : TV)] := ⟨⟨rfl, Rd.of_block (cs := ([(⟨k, A0, n0, c0, A1, n1, c1, t⟩ : TV)].flatMap TV.cells).toArray) hL 4 1 rfl⟩, fun z hz => (by rw [List.mem_singleton.1 hz]; exact ⟨hI0e.below bW, hI1e.below bW⟩)⟩
              refine (sameTours_any _ _ 1 1 cA 1 [y] [(⟨k, A0, n0, c0, A1, n1, c1, t⟩ : TV)] W (hO.below bW) hTl (by decide) (by decide) hsmall (fun z hz => (by rw [List.mem_singleton.1 hz]; exact ⟨(show n0 ≤ 1000000000 by omega), (show n1 ≤ 1000000000 by omega)⟩))).mono fun e w'' h9 => ?_
              obtain ⟨⟨z, rfl, hz⟩, hb9⟩ := h9
              obtain rfl : z = true := hz.2 (by rw [List.map_singleton, List.map_singleton, hyp]; rfl)
              exact ⟨rfl, bel bW hb9⟩
            obtain ⟨t0, t1, t2, t3⟩ := hTe.cells
            have hmk2 : ∀ w', Below we.heap.size we w' → (fun w' : World => w'.cell? ⟨g, 0, none⟩ = some (.int .i64 (k : Int)) ∧ w'.cell? ⟨g, 1, none⟩ = some (.slice A0 n0 c0) ∧ w'.cell? ⟨g, 2, none⟩ = some (.slice A1 n1 c1) ∧ w'.cell? ⟨g, 3, none⟩ = some (.int .i64 t.end_)) w' := fun w' h => by
              have mv : ∀ {p : Addr} {v : Value}, we.cell? p = some v → w'.cell? p = some v := fun g => (h.cell (cell_lt g)).trans g
              exact ⟨mv t0, mv t1, mv t2, mv t3⟩
            have hal : ∀ (w' : World) (o : Obj), Below we.heap.size we w' → Below we.heap.size we (w'.alloc o) := fun w' o h => bel h ((Below.refl _ _).alloc (Nat.le_refl _) o)
            have hdr : ∀ w' : World, Below we.heap.size we w' → Below we.heap.size we w'.drew := fun w' h => h.drew
            have hB0 : Below we.heap.size we we := Below.refl _ _
            have hwn : IntKind.i64.wrap ((n : Int) + 1) = (n : Int) + 1 := IntWalk.i64_in _ (by omega)
            have hj2 : (0 : Int) ≤ (n : Int) + 1 := by omega
            have hj3 : (n : Int) ≤ (n : Int) + 1 := by omega
            have hj5 : ((n : Int) + 1).toNat = n + 1 := by omega
            have hcap : n + 1 ≤ pc := by omega
            have hcap2 : n ≤ pc := by omega
            have hcap3 : ¬ pc = n := by omega
            have hcap4 : ¬ pc - n = 0 := by omega
            have hcap5 : ¬ pc ≤ n := by omega
            have hcap6 : ((n : Int) + 1) ≤ (pc : Int) := by omega
            have hcap7 : n + 1 - n = 1 := by omega
            have i2 : (0 : Int) ≤ ((n + 1 : Nat) : Int) := by omega
            have i3 : ((n + 1 : Nat) : Int) ≤ (pc : Int) := by omega
            have i4 : (n : Int) ≤ ((n + 1 : Nat) : Int) := by omega
            clear hwe hI0 hI1 hn0 hn1 hT hst1 hst3 hnv hnv1 hy hO hyp hyn hsmall hI0e hI1e hPTe hbc bse
            go_region_held3 (fun w' : World => w'.cell? ⟨g, 0, none⟩ = some (.int .i64 (k : Int)) ∧ w'.cell? ⟨g, 1, none⟩ = some (.slice A0 n0 c0) ∧ w'.cell? ⟨g, 2, none⟩ = some (.slice A1 n1 c1) ∧ w'.cell? ⟨g, 3, none⟩ = some (.int .i64 t.end_))
              ((refine hmk2 _ ?_; repeat (first | with_reducible assumption | with_reducible refine hal _ _ ?_ | with_reducible refine hdr _ ?_ | fail)))
              (first | (go_at_call 24; with_reducible refine (CS1 _ _ _ ?_ ?_).mono ?_; exact rfl; (first | exact .inl rfl | exact .inr rfl); rintro e wf ⟨rfl, hBf⟩) | fail)
            all_goals
              have hbf := bel hb8 hBf
              clear hcap hcap2 hcap3 hcap4 hcap5 hcap6 hcap7 i2 i3 i4 hj2 hj3 hj5 CS1 hmk2 hal hdr hB0 hTe t0 t1 t2 t3
              go_wp2_with fail
              go_roundw
              case rel => (go_light; exact ⟨k + 1, n + 1, by go_num, by omega, by go_num, hnp, HH2.out, hbf⟩)
              case measure => (go_light; simp [intOf]; omega)
end Go.Proofs.Ytippdjmpkafifaa
