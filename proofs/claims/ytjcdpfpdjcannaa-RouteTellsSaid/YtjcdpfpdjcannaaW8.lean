/-
The walk of the reference's labels.
-/
import Derived.Test.YtjcdpfpdjcannaaW6
import Derived.Test.YtjcdpfpdjcannaaW7
namespace Go.Proofs.Ytjcdpfpdjcannaa
open Go.RowKit

namespace K
section
variable {nd : Int} {l : List Ro} {s : S} {r : List Q} {v : List Int}
/-- The minutes that the reference keeps: those of the parts and places before some. -/
def TSat (nd : Int) (l : List Ro) (s : S) (r : List Q) (v : List Int) (N : Nat) (ts : List Int) (m i : Nat) : Prop :=
  ts.length = 6 * N ∧ ∀ m' j, j < v.length → m'.testBit j = true → (m' < m ∨ (m' = m ∧ j < i)) → ts[m' * 6 + j]? = some (lab nd l s r v m' j)
theorem tsat_start (N : Nat) : TSat nd l s r v N (List.replicate (6 * N) 0) 1 0 :=
  ⟨by simp, fun m' j _ hb h => by
    have : m' = 0 := by omega
    rw [this, Nat.zero_testBit] at hb
    cases hb⟩
theorem TSat.skip {N m i : Nat} {ts : List Int} (h : TSat nd l s r v N ts m i) (hb : m.testBit i = false) : TSat nd l s r v N ts m (i + 1) :=
  ⟨h.1, fun m' j hj hb' hc => by
    refine h.2 m' j hj hb' ?_
    rcases hc with hc | ⟨rfl, hc⟩
    · exact .inl hc
    · by_cases e : j = i
      · rw [e, hb] at hb'; cases hb'
      · exact .inr ⟨rfl, by omega⟩⟩
theorem TSat.row {N m : Nat} {ts : List Int} (h : TSat nd l s r v N ts m v.length) : TSat nd l s r v N ts (m + 1) 0 :=
  ⟨h.1, fun m' j hj hb' hc => h.2 m' j hj hb' (by
    by_cases e : m' = m
    · exact .inr ⟨e, hj⟩
    · exact .inl (by omega))⟩
theorem TSat.put {N m i z : Nat} {ts : List Int} (h : TSat nd l s r v N ts m i) (hz : z = m * 6 + i) (hv : v.length ≤ 6) (hi : i < v.length) (hm : m < N) : TSat nd l s r v N (ts.set z (lab nd l s r v m i)) m (i + 1) := by
  subst hz
  refine ⟨by rw [List.length_set]; exact h.1, fun m' j hj hb' hc => ?_⟩
  rw [List.getElem?_set]
  by_cases e : m * 6 + i = m' * 6 + j
  · have e1 : m' = m := by omega
    have e2 : j = i := by omega
    subst e1 e2
    rw [if_pos rfl, if_pos (by rw [h.1]; omega)]
  · rw [if_neg e]
    refine h.2 m' j hj hb' ?_
    rcases hc with hc | ⟨rfl, hc⟩
    · exact .inl hc
    · exact .inr ⟨rfl, by omega⟩
theorem TSat.get {N m i rest : Nat} {ts : List Int} (h : TSat nd l s r v N ts m i) (hr : rest < m) (hm : m < N) (hv : v.length ≤ 6) : ∀ j, j < v.length → ∃ y, ts[rest * 6 + j]? = some y ∧ (rest.testBit j = true → y = lab nd l s r v rest j) := fun j hj => by
  have hl : rest * 6 + j < ts.length := by rw [h.1]; omega
  refine ⟨_, List.getElem?_eq_getElem hl, fun hb => ?_⟩
  have h1 := h.2 rest j hj hb (.inl hr)
  rw [List.getElem?_eq_getElem hl] at h1
  injection h1
end
end K

/-- A store into a list of numbers leaves an own row that lies above it. -/
theorem own_put {w : World} {base : Nat} {e : TypeId} {size n : Nat} {v : Value} {xs : List Value} (h : w.ownsRow base e size v n xs) {ad : Addr} {m c : Nat} {o : List Int} (hO : OI w ad m c o) (k : Nat) (u : Value) (hlt : ad.block < base) : (w.setCell (ad.add k) u).ownsRow base e size v n xs := by
  obtain ⟨-, -, g, cur, rfl, -, -⟩ := hO
  rw [add_zero_block]
  refine h.kept (grow_set (grow_refl w (some g)) g k u rfl) (.inr fun e => ?_)
  have := (h.lt g e).1
  have : g < base := hlt
  omega

set_option maxRecDepth 100000 in
set_option maxHeartbeats 16000000 in
theorem labels31_any (x : C) (V : Option Addr) (vn vc : Nat) (v : List Int) (w : World) (hx : At w x) (hV : Ints w V vn v) (hvn : vn ≤ 1000000000) :
    Calls Try.prog 31 #[.agg #[.int .i64 x.nd, .slice x.A x.n x.c], .agg #[.int .i64 x.s.day, .int .i64 x.s.depot, .int .i64 x.s.start, .int .i64 x.s.end_, .int .i64 x.s.tare, .slice x.s.A x.s.n x.s.c], .slice x.B x.m x.d, .slice V vn vc] w fun e w' => RetLabs w w' (K.labs x.nd x.l x.s x.r v) e := by
  obtain ⟨w0, hw0⟩ : ∃ w0 : World, w0 = (w.alloc (.cells #[.int .i64 x.nd, .slice x.A x.n x.c] 24)).alloc (.cells #[.int .i64 x.s.day, .int .i64 x.s.depot, .int .i64 x.s.start, .int .i64 x.s.end_, .int .i64 x.s.tare, .slice x.s.A x.s.n x.s.c] 27) := ⟨_, rfl⟩
  have z1 := World.size_alloc w (.cells #[.int .i64 x.nd, .slice x.A x.n x.c] 24)
  have b0 : Below w.heap.size w w0 := by rw [hw0]; exact bel ((Below.refl _ _).alloc (Nat.le_refl _) _) ((Below.refl _ _).alloc (Nat.le_refl _) _)
  have hN : Net w0 w.heap.size x.nd x.A x.n x.c := by
    rw [hw0]
    exact (Net.new w x.nd x.A x.n x.c).below ((Below.refl _ _).alloc (Nat.le_refl _) _)
  have hS : Shf w0 (w.heap.size + 1) x.s := by
    have h := Shf.new (w.alloc (.cells #[.int .i64 x.nd, .slice x.A x.n x.c] 24)) x.s
    rw [z1] at h
    rw [hw0]; exact h
  have p0 := hN.c0
  have p1 := hN.c1
  obtain ⟨s0, s1, s2, s3, s4, s5⟩ := hS.cells
  rw [hw0] at p0 p1 s0 s1 s2 s3 s4 s5
  go_enter Try.func31, Try.ntmps31
  go_wp2_with fail
  rw [← hw0]
  clear hw0 z1 p0 p1 s0 s1 s2 s3 s4 s5
  refine (right31_any x V vn vc v _ (hx.below b0) (hV.below b0) hvn).mono ?_
  obtain ⟨okb, hokb⟩ : ∃ okb, okb = K.ok31 x.nd x.l x.s x.r v := ⟨_, rfl⟩
  rw [← hokb]
  rintro e w1 ⟨rfl, b1⟩
  have hb := bel b0 b1
  have hN := hN.below b1
  have hS := hS.below b1
  clear b0 b1
  cases okb
  · have HX := Lib.hid (show K.labs x.nd x.l x.s x.r v = [] by simp [K.labs, ← hokb])
    clear hokb
    go_wp2_with fail
    go_ret
    exact ⟨⟨none, 0, 0, rfl, by rw [HX.out]; exact ⟨rfl, rfl, fun h => absurd h (by omega)⟩⟩, hb⟩
  have hok := hokb.symm
  have hv6 : vn ≤ 6 := by rw [hV.1]; exact (K.ok31_parts hok).2.2.2.2.1
  have HVN := Lib.hid hV.1
  obtain ⟨N, hNN⟩ : ∃ N, N = 2 ^ vn := ⟨_, rfl⟩
  have hN1 : 1 ≤ N := by rw [hNN]; exact Nat.two_pow_pos vn
  have hN64 : N ≤ 64 := by rw [hNN]; exact Nat.pow_le_pow_right (by omega) hv6
  obtain ⟨N6, hN6⟩ : ∃ N6, N6 = 6 * N := ⟨_, rfl⟩
  have HNN := Lib.hid (show N = 2 ^ v.length by rw [hNN, HVN.out])
  have HW1 := Lib.hid (show IntKind.i64.wrap ((2 : Int) ^ vn) = (N : Int) by rw [wrap_pow (by omega), hNN]; simp)
  have kw6 : IntKind.i64.wrap ((6 : Int) * 2 ^ vn) = (N6 : Int) := by
    have h1 : ((2 : Int) ^ vn) = (N : Int) := by rw [hNN]; simp
    rw [h1, IntWalk.i64_in _ (by omega)]; omega
  have HW2 := Lib.hid (show wrap64 ((2 : Int) ^ vn) = (N : Int) by rw [← IntWalk.i64_left]; exact HW1.out)
  have kw7 : wrap64 ((6 : Int) * 2 ^ vn) = (N6 : Int) := by rw [← IntWalk.i64_left]; exact kw6
  have HKW6 := Lib.hid kw6
  have HKW7 := Lib.hid kw7
  have HOK := Lib.hid hok
  clear hNN hokb kw6 kw7
  have hN6b : N6 ≤ 1000000 := by omega
  have hmk := fun w' => make_ints N6 hN6b w'
  have kw6 := HKW6.out
  have kw7 := HKW7.out
  obtain ⟨w2, hw2⟩ : ∃ w2 : World, w2 = w1.alloc (.cells (intCells (List.replicate N6 0)).toArray 3) := ⟨_, rfl⟩
  have b12 : Below w1.heap.size w1 w2 := by rw [hw2]; exact (Below.refl _ _).alloc (Nat.le_refl _) _
  have hT2 : OI w2 ⟨w1.heap.size, 0, none⟩ N6 N6 (List.replicate N6 0) := ⟨by simp, Nat.le_refl _, _, _, rfl, by rw [hw2]; exact heap_alloc_new _ _, by simp [intCells]⟩
  have z2 : w2.heap.size = w1.heap.size + 1 := by rw [hw2]; exact World.size_alloc _ _
  have HTS := Lib.hid (show K.TSat x.nd x.l x.s x.r v N (List.replicate N6 0) 1 0 by rw [hN6]; exact K.tsat_start N)
  have HN6 := Lib.hid hN6
  clear hN6
  obtain ⟨adT, hadT⟩ : ∃ adT : Addr, adT = ⟨w1.heap.size, 0, none⟩ := ⟨_, rfl⟩
  rw [← hadT] at hT2
  have hadb : adT.block = w1.heap.size := by rw [hadT]
  go_upto_region 5 with fail
  rw [← hw2, ← hadT]
  clear hw2 hadT hmk kw6 kw7
  go_wp2_with fail
  go_loopw [9, 11] (fun v9 v11 wr => ∃ (m : Nat) (ts : List Int), v11 = .int .i64 m ∧ 1 ≤ m ∧ m ≤ N ∧ OI wr adT N6 N6 ts ∧ Hid (K.TSat x.nd x.l x.s x.r v N ts m 0) ∧ (K.nlab x.nd x.l x.s x.r v m 0 ≤ (K.labs x.nd x.l x.s x.r v).length) ∧ wr.ownsRow w2.heap.size 62 3 v9 (K.nlab x.nd x.l x.s x.r v m 0) (((K.labs x.nd x.l x.s x.r v).take (K.nlab x.nd x.l x.s x.r v m 0)).flatMap labCells) ∧ Below w1.heap.size w1 wr ∧ w2.heap.size ≤ wr.heap.size) (fun _ v11 _ => N - (intOf v11).toNat)
  case atStart => exact ⟨1, _, rfl, Nat.le_refl _, hN1, hT2, HTS.out, by rw [K.nlab_zero]; exact Nat.zero_le _, by rw [K.nlab_zero]; exact World.ownsRow_nil _ _ _ _, b12, Nat.le_refl _⟩
  case round =>
    clear hT2 HTS b12
    obtain ⟨m, ts, rfl, hm1, hmN, hT, hts, hnl, hown, hbr, hsz⟩ := hrel
    by_cases hlt : m < N
    · have hlt' : decide ((m : Int) < (N : Int)) = true := by simp; exact hlt
      have hw1 := HW1.out
      have hw2 := HW2.out
      go_wp2_with fail
      clear hw1 hw2
      go_loopw [9, 12] (fun v9 v12 wi => ∃ (i : Nat) (ts : List Int), v12 = .int .i64 i ∧ i ≤ vn ∧ OI wi adT N6 N6 ts ∧ Hid (K.TSat x.nd x.l x.s x.r v N ts m i) ∧ (K.nlab x.nd x.l x.s x.r v m i ≤ (K.labs x.nd x.l x.s x.r v).length) ∧ wi.ownsRow w2.heap.size 62 3 v9 (K.nlab x.nd x.l x.s x.r v m i) (((K.labs x.nd x.l x.s x.r v).take (K.nlab x.nd x.l x.s x.r v m i)).flatMap labCells) ∧ Below w1.heap.size w1 wi ∧ w2.heap.size ≤ wi.heap.size) (fun _ v12 _ => vn - (intOf v12).toNat)
      case atStart => exact ⟨0, ts, rfl, Nat.zero_le _, hT, hts, hnl, hown, hbr, hsz⟩
      case round =>
        clear hT hts hnl hown hbr hsz
        obtain ⟨i, ts, rfl, hi, hT, hts, hnl, hown, hbr, hsz⟩ := hrel
        by_cases hlti : i < vn
        · cases hbit : m.testBit i
          · have hb1 : bits BinOp.and IntKind.i64 ((m : Int) / 2 ^ i) 1 = 0 := by rw [bit_at (by omega) (by omega), hbit]; rfl
            have HNS := Lib.hid (K.nlab_skip (nd := x.nd) (l := x.l) (s := x.s) (r := x.r) (v := v) hbit)
            have HT2 := Lib.hid (hts.out.skip hbit)
            rw [← HNS.out] at hown hnl
            clear hbit hts
            go_wp2_with fail
            go_roundw
            case rel => exact ⟨i + 1, ts, by go_num, hlti, hT, HT2.out, hnl, hown, hbr, hsz⟩
            case measure => simp [intOf]; omega
          · have hb1 : bits BinOp.and IntKind.i64 ((m : Int) / 2 ^ i) 1 = 1 := by rw [bit_at (by omega) (by omega), hbit]; rfl
            go_upto_region 12 with fail
            clear hb1
            obtain ⟨hre, hrb⟩ := bit_rest (show m < 64 by omega) (show i < 6 by omega) hbit
            have HBIT := Lib.hid hbit
            clear hbit hrb
            have hN' := hN.below hbr
            have hS' := hS.below hbr
            have hbw := bel hb hbr
            have p0 := hN'.c0
            have p1 := hN'.c1
            obtain ⟨s0, s1, s2, s3, s4, s5⟩ := hS'.cells
            obtain ⟨P, hP⟩ : ∃ P, P = 2 ^ i := ⟨_, rfl⟩
            rw [← hP] at hre
            have hpw : 1 ≤ P := by rw [hP]; exact Nat.two_pow_pos i
            obtain ⟨rest, hrest⟩ : ∃ rest, rest = m - P := ⟨_, rfl⟩
            have CL := label64_any x V vn vc v (some adT) N6 N6 ts m i P rest wr HOK.out (hx.below hbw) (hV.below hbw) hT.ints hP hrest (by omega) (by omega) (by rw [← HNN.out]; exact hlt) hlti HBIT.out (fun j hj => hts.out.get (by omega) hlt (by rw [← HVN.out]; exact hv6) j (by rw [← HVN.out]; exact hj))
            clear hre hP hpw hrest hN' hS'
            go_wp2_with fail
            refine CL.mono ?_
            obtain ⟨L, hL⟩ : ∃ L, L = K.lab x.nd x.l x.s x.r v m i := ⟨_, rfl⟩
            rw [← hL]
            rintro e w3 ⟨rfl, b3⟩
            have hT3 := hT.below b3
            have hbr3 : Below w1.heap.size w1 w3 := bel hbr b3
            have hown3 := own_below hown b3
            have hsz3 : w2.heap.size ≤ w3.heap.size := Nat.le_trans hsz b3.size
            clear CL p0 p1 s0 s1 s2 s3 s4 s5 hT hown hbr hsz b3 hbw
            obtain ⟨m6, hm6⟩ : ∃ m6 : Nat, m6 = m * 6 := ⟨_, rfl⟩
            obtain ⟨z, hz⟩ : ∃ z : Nat, z = m6 + i := ⟨_, rfl⟩
            have HZ := Lib.hid (show z = m * 6 + i by rw [hz, hm6])
            have hzN : z < N6 := by rw [HN6.out]; omega
            obtain ⟨old, hold⟩ : ∃ old, ts[z]? = some old := ⟨_, List.getElem?_eq_getElem (by rw [← hT3.1]; exact hzN)⟩
            have cz := hT3.cell hold
            have fz := hT3.free z
            have kw1 : IntKind.i64.wrap ((m : Int) * 6) = (m6 : Int) := by rw [IntWalk.i64_in _ (by omega)]; omega
            have kw3 : IntKind.i64.wrap ((m6 : Int) + (i : Int)) = (z : Int) := by rw [IntWalk.i64_in _ (by omega)]; omega
            have kk0 : (0 : Int) ≤ (z : Int) := by omega
            have kk1 : (z : Int) < (N6 : Int) := by omega
            obtain ⟨w4, hw4⟩ : ∃ w4 : World, w4 = w3.setCell (adT.add z) (.int .i64 L) := ⟨_, rfl⟩
            have hT4 : OI w4 adT N6 N6 (ts.set z L) := by rw [hw4]; exact hT3.set z L
            have hbr4 : Below w1.heap.size w1 w4 := by rw [hw4]; exact hbr3.setCell (by rw [add_block, hadb]; exact Nat.le_refl _) _
            have z4 : w4.heap.size = w3.heap.size := by rw [hw4]; simp
            have hown4 : w4.ownsRow w2.heap.size 62 3 u9 (K.nlab x.nd x.l x.s x.r v m i) (((K.labs x.nd x.l x.s x.r v).take (K.nlab x.nd x.l x.s x.r v m i)).flatMap labCells) := by
              rw [hw4]; exact own_put hown3 hT3 z _ (by omega)
            have HNX := Lib.hid (K.nlab_next (nd := x.nd) (l := x.l) (s := x.s) (r := x.r) (v := v) HBIT.out)
            have hnth := K.labs_nth (nd := x.nd) (l := x.l) (s := x.s) (r := x.r) HOK.out (by rw [← HNN.out]; exact hlt) (by rw [← HVN.out]; exact hlti) HBIT.out
            rw [← hL] at hnth
            have HTK := Lib.hid (take_snoc hnth)
            have hnl2 : K.nlab x.nd x.l x.s x.r v m (i + 1) ≤ (K.labs x.nd x.l x.s x.r v).length := by rw [HNX.out]; exact (List.getElem?_eq_some_iff.1 hnth).1
            have HT5 := Lib.hid (show K.TSat x.nd x.l x.s x.r v N (ts.set z L) m (i + 1) by rw [hL]; exact hts.out.put HZ.out (by rw [← HVN.out]; exact hv6) (by rw [← HVN.out]; exact hlti) hlt)
            have hll := K.labs_len x.nd x.l x.s x.r v
            have hln : K.nlab x.nd x.l x.s x.r v m i ≤ 1000000 := by omega
            have hsz4 : w2.heap.size ≤ w4.heap.size := by omega
            clear hm6 hz hold hL hnth hll hts hT3 hown3 hbr3 hnl
            go_upto_region 14 with fail
            rw [← hw4]
            clear hw4 cz fz kw1 kw3 kk0 kk1 z4 hsz3
            have ha : Below w4.heap.size w4 (w4.alloc (.cells #[.int .i64 (m : Int), .int .i64 (i : Int), .int .i64 L] 62)) := (Below.refl _ _).alloc (Nat.le_refl _) _
            have hown5 := own_below hown4 ha
            have hs2 : w2.heap.size ≤ (w4.alloc (.cells #[.int .i64 (m : Int), .int .i64 (i : Int), .int .i64 L] 62)).heap.size := Nat.le_trans hsz4 ha.size
            go_wp2_with (at_builtin; refine app_lab rfl (.tmp 58) (.tmp 63) rfl w2.heap.size u9 (K.nlab x.nd x.l x.s x.r v m i) ((K.labs x.nd x.l x.s x.r v).take (K.nlab x.nd x.l x.s x.r v m i)) rfl hown5 w4.heap.size m i L rfl (heap_alloc_at _ _ _ rfl) hln hs2 ?_; intro tv' w6 hown6 hgrow6 hat6)
            have b6 : Below w1.heap.size w1 w6 := below_own2 (bel hbr4 ha) hgrow6 (fun g e => by have := (hown4.lt g e).1; omega)
            have hT6 : OI w6 adT N6 N6 (ts.set z L) := (hT4.below ha).grown hgrow6 (fun e => by have := (hown4.lt _ e.symm).1; omega)
            have hsz6 : w2.heap.size ≤ w6.heap.size := Nat.le_trans hs2 hgrow6.size
            rw [← HTK.out, ← HNX.out] at hown6
            clear hgrow6 hat6 hown5 hown4 hT4 ha hs2
            go_roundw
            case rel => (go_light; exact ⟨i + 1, _, by go_num, hlti, hT6, HT5.out, hnl2, hown6, b6, hsz6⟩)
            case measure => (go_light; simp [intOf] <;> omega)
        · have HRW := Lib.hid (K.nlab_row (nd := x.nd) (l := x.l) (s := x.s) (r := x.r) (v := v) m)
          have hin : i = v.length := by rw [← HVN.out]; omega
          have HT5 := Lib.hid (show K.TSat x.nd x.l x.s x.r v N ts (m + 1) 0 by have h := hts.out; rw [hin] at h; exact h.row)
          rw [hin, HRW.out] at hown hnl
          clear hin hts
          go_wp2_with fail
          go_roundw
          case rel => exact ⟨m + 1, ts, by go_num, by omega, by omega, hT, HT5.out, hnl, hown, hbr, hsz⟩
          case measure => simp [intOf]; omega
    · have hmN' : m = N := by omega
      have he := K.nlab_end (nd := x.nd) (l := x.l) (s := x.s) (r := x.r) HOK.out
      rw [hmN', HNN.out, he, List.take_length] at hown
      obtain ⟨A9, c9, rfl, hRd, -⟩ := own_form hown
      have hw1 : decide ((m : Int) < IntKind.i64.wrap ((2 : Int) ^ vn)) = false := by rw [HW1.out]; simp; omega
      have hw2 : decide ((m : Int) < wrap64 ((2 : Int) ^ vn)) = false := by rw [HW2.out]; simp; omega
      clear he hmN' hts hown
      go_wp2_with fail
      clear hw1 hw2
      go_ret
      exact ⟨⟨_, _, _, rfl, ⟨rfl, hRd⟩⟩, bel hb hbr⟩
end Go.Proofs.Ytjcdpfpdjcannaa
