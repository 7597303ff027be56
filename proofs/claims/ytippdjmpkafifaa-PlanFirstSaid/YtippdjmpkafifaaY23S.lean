/-
Plans: the walk of small.
-/
import Derived.Test.YtippdjmpkafifaaYD
namespace Go.Proofs.Ytippdjmpkafifaa
open Go.RowKit
namespace K
section
variable (A2 : Option Addr) (c2 : Nat)
theorem x32_1 : plan 2 exL32 [exS32 A2 c2, exS32 A2 c2] ([3, 2].map exQ32) = ([(0, ⟨[0, 1], [10, 15], 30⟩)], 0) := by kernel_rfl
theorem x32_2 : plan 2 exL32 [exS32 A2 c2, exS32 A2 c2] ([3, 3, 2].map exQ32) = ([(0, ⟨[0, 2], [10, 15], 30⟩), (1, ⟨[1], [10], 25⟩)], 0) := by kernel_rfl
theorem x32_3 : plan 2 exL32 [exS32 A2 c2, exS32 A2 c2] ([3, 3, 3].map exQ32) = ([], 4) := by kernel_rfl
theorem x32_4 : ((refute 2 exL32 [exS32 A2 c2, exS32 A2 c2] ([3, 3, 3].map exQ32)).1.map fun b => ((b.1 : Int), b.2.1)) = [(0, [0, 1]), (0, [0, 2]), (0, [1, 2]), (1, [0, 1]), (1, [0, 2]), (1, [1, 2])] := by kernel_rfl
theorem x32_5 : refutes 2 exL32 [exS32 A2 c2, exS32 A2 c2] ([3, 3, 3].map exQ32) (((refute 2 exL32 [exS32 A2 c2, exS32 A2 c2] ([3, 3, 3].map exQ32)).1.map fun b => ((b.1 : Int), b.2)).drop 1) = false := by kernel_rfl
theorem x32_6 : (refute 2 exL32 [exS32 A2 c2, exS32 A2 c2] ([3, 3, 3].map exQ32)).2 = 0 ∧ refutes 2 exL32 [exS32 A2 c2, exS32 A2 c2] ([3, 3, 3].map exQ32) ((refute 2 exL32 [exS32 A2 c2, exS32 A2 c2] ([3, 3, 3].map exQ32)).1.map fun b => ((b.1 : Int), b.2)) = true := refute_refutes (by simp) (by simp) (by rw [x32_3])
theorem x32_7 : checks 2 exL32 [exS32 A2 c2, exS32 A2 c2] ([3, 3, 2].map exQ32) [(0, ⟨[0, 2], [10, 15], 30⟩), (1, ⟨[1], [10], 25⟩)] = 0 := by
  have h := plan_checks (nd := 2) (l := exL32) (ss := [exS32 A2 c2, exS32 A2 c2]) (r := [3, 3, 2].map exQ32) (by rw [x32_2])
  rw [x32_2] at h
  exact h
end
end K
theorem map_at {α β : Type} {f : α → β} {l : List α} {m : List β} (h : l.map f = m) {i : Nat} {x : α} (hx : l[i]? = some x) {y : β} (hy : m[i]? = some y) : f x = y := by
  rw [← h, List.getElem?_map, hx] at hy
  injection hy
theorem Blks.drop1 {w : World} {A : Option Addr} {n : Nat} {l : List BV} (h : Blks w A (n + 1) l) {ad : Addr} (e : A = some ad) (h0 : 0 < n) : Blks w (some (ad.add 3)) n (l.drop 1) := by
  subst e
  have h1 := h.1.1
  cases l with
  | nil => simp at h1
  | cons y l =>
    rw [List.length_cons] at h1
    refine ⟨⟨by simp; omega, ?_⟩, fun z hz => h.2 z (List.mem_of_mem_drop hz)⟩
    rw [List.drop_succ_cons, List.drop_zero]
    obtain ⟨hl, hc⟩ := h.1.2
    rw [List.flatMap_cons, List.length_append] at hl
    have hy : y.cells.length = 3 := rfl
    refine ⟨by omega, fun _ => ?_⟩
    obtain ⟨ad', e, hc⟩ := hc (by omega)
    injection e with e
    subst e
    refine ⟨_, rfl, fun j u hu => ?_⟩
    rw [add_add]
    refine hc (3 + j) u ?_
    rw [List.flatMap_cons, List.getElem?_append_right (by rw [hy]; omega), hy, show 3 + j - 3 = j by omega]
    exact hu
/-- The example's network, shifts and requests. -/
structure Ex32At (w : World) (A : Option Addr) (c : Nat) (A2 : Option Addr) (c2 : Nat) (SA : Option Addr) (sc : Nat) : Prop where
  net : Roads w A 2 K.exL32
  shifts : Shifts w SA 2 [K.exS32 A2 c2, K.exS32 A2 c2]
theorem Ex32At.below {w w' : World} {A : Option Addr} {c : Nat} {A2 : Option Addr} {c2 : Nat} {SA : Option Addr} {sc : Nat} (h : Ex32At w A c A2 c2 SA sc) (hb : Below w.heap.size w w') : Ex32At w' A c A2 c2 SA sc := ⟨Lst.below h.net hb, h.shifts.below hb⟩
theorem Ex32At.case {w : World} {A : Option Addr} {c : Nat} {A2 : Option Addr} {c2 : Nat} {SA : Option Addr} {sc : Nat} (h : Ex32At w A c A2 c2 SA sc) {B : Option Addr} {m d : Nat} {l : List Int} (hQ : Reqs w B m (l.map K.exQ32)) (hm : m ≤ 1000) : CsAt w ⟨2, A, 2, c, K.exL32, SA, 2, sc, [K.exS32 A2 c2, K.exS32 A2 c2], B, m, d, l.map K.exQ32⟩ := by
  refine ⟨h.net, h.shifts, hQ, (show 2 ≤ 1000000000 by decide), fun s hs => ?_, (show 2 ≤ 1000000000 by decide), (show m ≤ 1000000000 by omega), fun q hq => ?_⟩
  · simp only [List.mem_cons, List.not_mem_nil, or_false] at hs
    rcases hs with rfl | rfl <;> exact (by decide : 1 ≤ 1000000000)
  · obtain ⟨z, -, rfl⟩ := List.mem_map.1 hq
    exact (by decide : 0 ≤ 1000000000)

set_option maxRecDepth 100000 in
set_option maxHeartbeats 32000000 in
theorem small_any (w : World) : Calls Try.prog 8 #[] w fun e w' => e = .returned (.bool true) ∧ Below w.heap.size w w' := by
  go_enter Try.func8, Try.ntmps8
  have hLx : Ints (w.alloc (.cells #[.int .i64 3, .int .i64 2] 3)) (some ⟨w.heap.size, 0, none⟩) 2 [3, 2] := ints_lit w [3, 2]
  have bl : Below w.heap.size w (w.alloc (.cells #[.int .i64 3, .int .i64 2] 3)) := (Below.refl _ _).alloc (Nat.le_refl _) _
  go_wp2_with fail
  refine (example32_any _ 2 2 [3, 2] _ hLx (by decide)).mono ?_
  rintro e w0a ⟨⟨X, ⟨Ax, cx, Ex, fx, Sx, sx, Bx, dx, rfl⟩, hAx, rfl⟩, b⟩
  dsimp only at hAx ⊢
  have hb := bel bl b
  clear bl hLx
  clear b
  obtain ⟨w0, hq⟩ : ∃ w0 : World, w0 = w0a.alloc (.cells #[.int .i64 2, .slice Ax 2 cx] 24) := ⟨_, rfl⟩
  have z0 : w0.heap.size = w0a.heap.size + 1 := by rw [hq]; exact World.size_alloc _ _
  have b : Below w0a.heap.size w0a w0 := by rw [hq]; exact (Below.refl _ _).alloc (Nat.le_refl _) _
  have hP : Net w0 w0a.heap.size 2 Ax 2 cx := by rw [hq]; exact Net.new _ _ _ _ _
  have hE : Ex32At w0 Ax cx Ex fx Sx sx := ⟨Lst.below hAx.net b, hAx.shifts.below b⟩
  have hb := bel hb b
  have hQx : Reqs w0 Bx 2 ([3, 2].map K.exQ32) := hAx.reqs.below b
  clear hAx b
  have hLy : Ints (w0.alloc (.cells #[.int .i64 3, .int .i64 3, .int .i64 2] 3)) (some ⟨w0.heap.size, 0, none⟩) 3 [3, 3, 2] := ints_lit w0 [3, 3, 2]
  have bl : Below w0.heap.size w0 (w0.alloc (.cells #[.int .i64 3, .int .i64 3, .int .i64 2] 3)) := (Below.refl _ _).alloc (Nat.le_refl _) _
  rw [z0] at hLy
  rw [hq] at hLy
  go_wp2_with fail
  refine (example32_any _ 3 3 [3, 3, 2] _ hLy (by decide)).mono ?_
  rw [← hq]
  rintro e w1a ⟨⟨X, ⟨Ay, cy, Ey, fy, Sy, sy, By, dy, rfl⟩, hAy, rfl⟩, b⟩
  dsimp only at hAy ⊢
  have b := bel bl b
  clear bl hLy
  have hP := hP.below b
  have hE := hE.below b
  have hb := bel hb b
  have hQx := hQx.below b
  clear hq b z0
  obtain ⟨w1, hq⟩ : ∃ w1 : World, w1 = w1a.alloc (.cells #[.int .i64 2, .slice Ay 2 cy] 24) := ⟨_, rfl⟩
  have z0 : w1.heap.size = w1a.heap.size + 1 := by rw [hq]; exact World.size_alloc _ _
  have b : Below w1a.heap.size w1a w1 := by rw [hq]; exact (Below.refl _ _).alloc (Nat.le_refl _) _
  have hP := hP.below b
  have hE := hE.below b
  have hb := bel hb b
  have hQx := hQx.below b
  have hQy : Reqs w1 By 3 ([3, 3, 2].map K.exQ32) := hAy.reqs.below b
  clear hAy b
  have hLz : Ints (w1.alloc (.cells #[.int .i64 3, .int .i64 3, .int .i64 3] 3)) (some ⟨w1.heap.size, 0, none⟩) 3 [3, 3, 3] := ints_lit w1 [3, 3, 3]
  have bl : Below w1.heap.size w1 (w1.alloc (.cells #[.int .i64 3, .int .i64 3, .int .i64 3] 3)) := (Below.refl _ _).alloc (Nat.le_refl _) _
  rw [z0] at hLz
  rw [hq] at hLz
  go_wp2_with fail
  refine (example32_any _ 3 3 [3, 3, 3] _ hLz (by decide)).mono ?_
  rw [← hq]
  rintro e w2a ⟨⟨X, ⟨Az, cz, Ez, fz, Sz, sz, Bz, dz, rfl⟩, hAz, rfl⟩, b⟩
  dsimp only at hAz ⊢
  have b := bel bl b
  clear bl hLz
  have hP := hP.below b
  have hE := hE.below b
  have hb := bel hb b
  have hQx := hQx.below b
  have hQy := hQy.below b
  clear hq b z0
  obtain ⟨w2, hq⟩ : ∃ w2 : World, w2 = w2a.alloc (.cells #[.int .i64 2, .slice Az 2 cz] 24) := ⟨_, rfl⟩
  have z0 : w2.heap.size = w2a.heap.size + 1 := by rw [hq]; exact World.size_alloc _ _
  have b : Below w2a.heap.size w2a w2 := by rw [hq]; exact (Below.refl _ _).alloc (Nat.le_refl _) _
  have hP := hP.below b
  have hE := hE.below b
  have hb := bel hb b
  have hQx := hQx.below b
  have hQy := hQy.below b
  have hQz : Reqs w2 Bz 3 ([3, 3, 3].map K.exQ32) := hAz.reqs.below b
  clear hAz b
  have p0 := hP.c0
  have p1 := hP.c1
  rw [hq] at p0 p1
  go_wp2_with fail
  rw [← hq]
  refine (plan32_any ⟨2, Ax, 2, cx, K.exL32, Sx, 2, sx, [K.exS32 Ex fx, K.exS32 Ex fx], Bx, 2, dx, [3, 2].map K.exQ32⟩ _ (hE.case hQx (by decide))).mono ?_
  dsimp only
  rw [K.x32_1]
  rintro e w3 ⟨⟨Pa, na, ka, la, rfl, hTa, -, hla⟩, b⟩
  dsimp only at hla ⊢
  have hla : la.map TV.pr = [(0, ⟨[0, 1], [10, 15], 30⟩)] := hla
  obtain rfl : na = 1 := by rw [hTa.1.1, ← List.length_map (f := TV.pr), hla]; rfl
  have hP := hP.below b
  have hE := hE.below b
  have hb := bel hb b
  have hQx := hQx.below b
  have hQy := hQy.below b
  have hQz := hQz.below b
  clear p0 p1 b hq z0
  have p0 := hP.c0
  have p1 := hP.c1
  go_wp2_with fail
  refine (plan32_any ⟨2, Ax, 2, cx, K.exL32, Sx, 2, sx, [K.exS32 Ex fx, K.exS32 Ex fx], By, 3, dy, [3, 3, 2].map K.exQ32⟩ _ (hE.case hQy (by decide))).mono ?_
  dsimp only
  rw [K.x32_2]
  rintro e w4 ⟨⟨Pb, nb, kb, lb, rfl, hTb, -, hlb⟩, b⟩
  dsimp only at hlb ⊢
  have hlb : lb.map TV.pr = [(0, ⟨[0, 2], [10, 15], 30⟩), (1, ⟨[1], [10], 25⟩)] := hlb
  obtain rfl : nb = 2 := by rw [hTb.1.1, ← List.length_map (f := TV.pr), hlb]; rfl
  have hP := hP.below b
  have hE := hE.below b
  have hb := bel hb b
  have hQx := hQx.below b
  have hQy := hQy.below b
  have hQz := hQz.below b
  have hTa := hTa.below b
  clear p0 p1 b
  have p0 := hP.c0
  have p1 := hP.c1
  go_wp2_with fail
  refine (plan32_any ⟨2, Ax, 2, cx, K.exL32, Sx, 2, sx, [K.exS32 Ex fx, K.exS32 Ex fx], Bz, 3, dz, [3, 3, 3].map K.exQ32⟩ _ (hE.case hQz (by decide))).mono ?_
  dsimp only
  rw [K.x32_3]
  rintro e w5 ⟨⟨Pg, ng, kg, lg, rfl, hTg, -, hlg⟩, b⟩
  dsimp only at hlg ⊢
  have hlg : lg.map TV.pr = [] := hlg
  obtain rfl : ng = 0 := by rw [hTg.1.1, ← List.length_map (f := TV.pr), hlg]; rfl
  have hP := hP.below b
  have hE := hE.below b
  have hb := bel hb b
  have hQx := hQx.below b
  have hQy := hQy.below b
  have hQz := hQz.below b
  have hTa := hTa.below b
  have hTb := hTb.below b
  clear p0 p1 b
  clear hTg hlg
  have p0 := hP.c0
  have p1 := hP.c1
  go_wp2_with fail
  obtain ⟨rf, hrf⟩ : ∃ rf, rf = K.refute 2 K.exL32 [K.exS32 Ex fx, K.exS32 Ex fx] ([3, 3, 3].map K.exQ32) := ⟨_, rfl⟩
  have hr1 := K.x32_4 Ex fx
  have hr2 := K.x32_5 Ex fx
  have hr3 := K.x32_6 Ex fx
  rw [← hrf] at hr1 hr2 hr3
  refine (refute32_any ⟨2, Ax, 2, cx, K.exL32, Sx, 2, sx, [K.exS32 Ex fx, K.exS32 Ex fx], Bz, 3, dz, [3, 3, 3].map K.exQ32⟩ _ (hE.case hQz (by decide))).mono ?_
  dsimp only
  rw [← hrf, hr3.1]
  clear hrf
  rintro e w6 ⟨⟨Pc, nc, kc, lc, rfl, hTc, hkc, hFc, hlc⟩, b⟩
  have hr4 := hr3.2
  rw [← hlc] at hr2 hr4
  have hr5 : lc.map (fun y => (y.sh, y.v)) = [(0, [0, 1]), (0, [0, 2]), (0, [1, 2]), (1, [0, 1]), (1, [0, 2]), (1, [1, 2])] := by
    rw [← hr1, show (fun y : BV => (y.sh, y.v)) = (fun z : Int × List Int × List Lb => (z.1, z.2.1)) ∘ BV.pr from rfl, ← List.map_map, hlc, List.map_map]; rfl
  obtain rfl : nc = 6 := by rw [hTc.1.1, ← List.length_map (f := fun y : BV => (y.sh, y.v)), hr5]; rfl
  clear hr1 hr3 hlc
  have hP := hP.below b
  have hE := hE.below b
  have hb := bel hb b
  have hQx := hQx.below b
  have hQy := hQy.below b
  have hQz := hQz.below b
  have hTa := hTa.below b
  have hTb := hTb.below b
  clear p0 p1 b
  obtain ⟨ol, hol⟩ : ∃ ol : List Obj, ol = [.cells #[.int .i64 0, .int .i64 1] 3, .cells #[.int .i64 10, .int .i64 15] 3, .cells #[.int .i64 0, .slice (some ⟨w6.heap.size, 0, none⟩) 2 2, .slice (some ⟨w6.heap.size + 1, 0, none⟩) 2 2, .int .i64 30] 51] := ⟨_, rfl⟩
  obtain ⟨w7, hq⟩ : ∃ W : World, W = Als w6 ol := ⟨_, rfl⟩
  have b := Als.below ol w6
  have hget := Als.get ol w6
  rw [← hq] at b hget
  have e0 := hget 0 _ (by rw [hol]; rfl)
  have e1 := hget 1 _ (by rw [hol]; rfl)
  have e2 := hget 2 _ (by rw [hol]; rfl)
  rw [hol] at hq
  simp only [Als] at hq
  clear hget hol
  have hP := hP.below b
  have hE := hE.below b
  have hb := bel hb b
  have hQx := hQx.below b
  have hQy := hQy.below b
  have hQz := hQz.below b
  have hTa := hTa.below b
  have hTb := hTb.below b
  have hTc := hTc.below b
  have hTl : Tours w7 (some ⟨w6.heap.size + 1 + 1, 0, none⟩) 1 [(⟨0, some ⟨w6.heap.size, 0, none⟩, 2, 2, some ⟨w6.heap.size + 1, 0, none⟩, 2, 2, ⟨[0, 1], [10, 15], 30⟩⟩ : TV)] := ⟨⟨rfl, Rd.of_block (cs := ([(⟨0, some ⟨w6.heap.size, 0, none⟩, 2, 2, some ⟨w6.heap.size + 1, 0, none⟩, 2, 2, ⟨[0, 1], [10, 15], 30⟩⟩ : TV)].flatMap TV.cells).toArray) e2 4 1 rfl⟩, fun y hy => (by rw [List.mem_singleton.1 hy]; exact ⟨⟨rfl, Rd.of_block e0 1 2 rfl⟩, ⟨rfl, Rd.of_block e1 1 2 rfl⟩⟩)⟩
  have CS := sameTours_any Pa (some ⟨w6.heap.size + 1 + 1, 0, none⟩) 1 1 ka 1 la [(⟨0, some ⟨w6.heap.size, 0, none⟩, 2, 2, some ⟨w6.heap.size + 1, 0, none⟩, 2, 2, ⟨[0, 1], [10, 15], 30⟩⟩ : TV)] w7 hTa hTl (by decide) (by decide) (fun y hy => (by have := (fewT_of hTa (by rw [hla, ← List.length_map (f := TV.pr), hla]; exact ⟨by decide, fun t ht => (by rw [List.mem_singleton.1 ht]; exact ⟨by decide, by decide⟩)⟩)).2 y hy; omega)) (fun y hy => (by rw [List.mem_singleton.1 hy]; exact ⟨(show 2 ≤ 1000000000 by decide), (show 2 ≤ 1000000000 by decide)⟩))
  clear b e0 e1 e2
  go_wp2_with fail
  rw [← hq]
  refine CS.mono ?_
  rintro e w8 ⟨⟨z, rfl, hz⟩, b⟩
  obtain rfl : z = true := hz.2 (by rw [hla]; rfl)
  have hP := hP.below b
  have hE := hE.below b
  have hb := bel hb b
  have hQx := hQx.below b
  have hQy := hQy.below b
  have hQz := hQz.below b
  have hTa := hTa.below b
  have hTb := hTb.below b
  have hTc := hTc.below b
  clear CS hTl hz b hq hTa hla
  obtain ⟨ab, y0, hPb, hy0, ⟨hI0, -⟩, c0, c1, -, -⟩ := hTb.at_ (k := 0) (by decide)
  obtain ⟨ab2, y1, hPb2, hy1, ⟨hI1, -⟩, d0, d1, -, -⟩ := hTb.at_ (k := 1) (by decide)
  rw [hPb] at hPb2
  injection hPb2 with hPb2
  subst hPb2
  have hp0 := map_at hlb hy0 (y := (0, ⟨[0, 2], [10, 15], 30⟩)) rfl
  have hp1 := map_at hlb hy1 (y := (1, ⟨[1], [10], 25⟩)) rfl
  have hs0 : y0.sh = 0 := congrArg Prod.fst hp0
  have hs1 : y1.sh = 1 := congrArg Prod.fst hp1
  have hv0 : y0.t.stops = [0, 2] := congrArg (fun z : Int × K.Tr => z.2.stops) hp0
  have hv1 : y1.t.stops = [1] := congrArg (fun z : Int × K.Tr => z.2.stops) hp1
  have hn0 : y0.n = 2 := by rw [hI0.1, hv0]; rfl
  have hn1 : y1.n = 1 := by rw [hI1.1, hv1]; rfl
  rw [hv0, hn0] at hI0
  rw [hv1, hn1] at hI1
  rw [hs0] at c0
  rw [hs1] at d0
  rw [hn0] at c1
  rw [hn1] at d1
  clear hp0 hp1 hs0 hs1 hv0 hv1 hn0 hn1 hy0 hy1
  have ha0 : ab.add (0 * 4) = ab := by cases ab; rfl
  rw [ha0] at c0 c1
  have dd0 : w8.cell? ⟨ab.block, ab.off + 4, none⟩ = some (.int .i64 1) := d0
  have dd1 : w8.cell? ⟨ab.block, ab.off + 4 + 1, none⟩ = some (.slice y1.A 1 y1.c) := d1
  have dd2 : w8.cell? ⟨ab.block, ab.off + 5, none⟩ = some (.slice y1.A 1 y1.c) := d1
  clear d0 d1
  clear ha0
  rw [hPb]
  have hL : Ints (w8.alloc (.cells #[.int .i64 0, .int .i64 2] 3)) (some ⟨w8.heap.size, 0, none⟩) 2 [0, 2] := ints_lit w8 [0, 2]
  have bl : Below w8.heap.size w8 (w8.alloc (.cells #[.int .i64 0, .int .i64 2] 3)) := (Below.refl _ _).alloc (Nat.le_refl _) _
  go_wp2_with fail
  refine (sameInts28_any y0.A _ 2 2 y0.c 2 [0, 2] [0, 2] _ (hI0.below bl) hL (by decide) (by decide)).mono ?_
  rintro e w9 ⟨rfl, b⟩
  have b := bel bl b
  have mv : ∀ {p : Addr} {v : Value}, w8.cell? p = some v → w9.cell? p = some v := fun h => (b.cell (cell_lt h)).trans h
  have dd1 := mv dd1
  have dd2 := mv dd2
  have hP := hP.below b
  have hE := hE.below b
  have hb := bel hb b
  have hQx := hQx.below b
  have hQy := hQy.below b
  have hQz := hQz.below b
  have hTb := hTb.below b
  have hTc := hTc.below b
  have hI0 := hI0.below b
  have hI1 := hI1.below b
  clear mv hL bl b
  clear c0 c1 dd0
  have hL : Ints (w9.alloc (.cells #[.int .i64 1] 3)) (some ⟨w9.heap.size, 0, none⟩) 1 [1] := ints_lit w9 [1]
  have bl : Below w9.heap.size w9 (w9.alloc (.cells #[.int .i64 1] 3)) := (Below.refl _ _).alloc (Nat.le_refl _) _
  go_wp2_with fail
  refine (sameInts28_any y1.A _ 1 1 y1.c 1 [1] [1] _ (hI1.below bl) hL (by decide) (by decide)).mono ?_
  rintro e w10 ⟨rfl, b⟩
  have b := bel bl b
  have mv : ∀ {p : Addr} {v : Value}, w9.cell? p = some v → w10.cell? p = some v := fun h => (b.cell (cell_lt h)).trans h
  have hP := hP.below b
  have hE := hE.below b
  have hb := bel hb b
  have hQx := hQx.below b
  have hQy := hQy.below b
  have hQz := hQz.below b
  have hTb := hTb.below b
  have hTc := hTc.below b
  have hI0 := hI0.below b
  have hI1 := hI1.below b
  clear mv hL bl b
  clear dd1 dd2 hI0 hI1
  obtain ⟨ac, z0, hPc, hz0, -, c0, -, -⟩ := hTc.at_ (k := 0) (by decide)
  obtain ⟨ac1, z1, e1, hz1, ⟨hI1, -⟩, -, c1, -⟩ := hTc.at_ (k := 1) (by decide)
  obtain ⟨ac5, z5, e5, hz5, ⟨hI5, -⟩, c5, c6, -⟩ := hTc.at_ (k := 5) (by decide)
  rw [hPc] at e1 e5
  injection e1 with e1
  injection e5 with e5
  subst e1 e5
  have q0 := map_at hr5 hz0 (y := (0, [0, 1])) rfl
  have q1 := map_at hr5 hz1 (y := (0, [0, 2])) rfl
  have q5 := map_at hr5 hz5 (y := (1, [1, 2])) rfl
  have hs0 : z0.sh = 0 := congrArg Prod.fst q0
  have hv1 : z1.v = [0, 2] := congrArg Prod.snd q1
  have hs5 : z5.sh = 1 := congrArg Prod.fst q5
  have hv5 : z5.v = [1, 2] := congrArg Prod.snd q5
  have hn1 : z1.vn = 2 := by rw [hI1.1, hv1]; rfl
  have hn5 : z5.vn = 2 := by rw [hI5.1, hv5]; rfl
  rw [hv1, hn1] at hI1
  rw [hv5, hn5] at hI5
  rw [hs0] at c0
  rw [hn1] at c1
  rw [hs5] at c5
  rw [hn5] at c6
  have ha0 : ac.add (0 * 3) = ac := by cases ac; rfl
  rw [ha0] at c0
  have cc1 : w10.cell? ⟨ac.block, ac.off + 3 + 1, none⟩ = some (.slice z1.V 2 z1.vc) := c1
  have cc5 : w10.cell? ⟨ac.block, ac.off + 15, none⟩ = some (.int .i64 1) := c5
  have cc6 : w10.cell? ⟨ac.block, ac.off + 15 + 1, none⟩ = some (.slice z5.V 2 z5.vc) := c6
  clear q0 q1 q5 hs0 hv1 hs5 hv5 hn1 hn5 c1 c5 c6 ha0 hz0 hz1 hz5
  have hTd := hTc.drop1 hPc (by decide)
  obtain ⟨ac3, hac3⟩ : ∃ ac3 : Addr, ac3 = ⟨ac.block, ac.off + 3, none⟩ := ⟨_, rfl⟩
  have hTd : Blks w10 (some ac3) 5 (lc.drop 1) := by rw [hac3]; exact hTd
  rw [hPc] at hTc
  rw [hPc]
  have p0 := hP.c0
  have p1 := hP.c1
  have hk1 : ¬ kc = 1 := by omega
  have L1 : Calls Try.prog 28 #[.slice z1.V 2 z1.vc, .slice (some ⟨w10.heap.size, 0, none⟩) 2 2] (w10.alloc (.cells #[.int .i64 0, .int .i64 2] 3)).drew fun e w' => e = .returned (.bool true) ∧ Below w10.heap.size w10 w' := by
    have bl : Below w10.heap.size w10 (w10.alloc (.cells #[.int .i64 0, .int .i64 2] 3)).drew := ((Below.refl _ _).alloc (Nat.le_refl _) _).drew
    exact (sameInts28_any z1.V _ 2 2 z1.vc 2 [0, 2] [0, 2] _ (hI1.below bl) ((ints_lit w10 [0, 2]).below (Below.refl _ _).drew) (by decide) (by decide)).mono fun e w' h => ⟨h.1, bel bl h.2⟩
  have L2 : ∀ w' : World, Below w10.heap.size w10 w' → Calls Try.prog 28 #[.slice z5.V 2 z5.vc, .slice (some ⟨w'.heap.size, 0, none⟩) 2 2] (w'.alloc (.cells #[.int .i64 1, .int .i64 2] 3)) fun e w'' => e = .returned (.bool true) ∧ Below w10.heap.size w10 w'' := fun w' hb' => by
    have bl : Below w'.heap.size w' (w'.alloc (.cells #[.int .i64 1, .int .i64 2] 3)) := (Below.refl _ _).alloc (Nat.le_refl _) _
    exact (sameInts28_any z5.V _ 2 2 z5.vc 2 [1, 2] [1, 2] _ ((hI5.below hb').below bl) (ints_lit w' [1, 2]) (by decide) (by decide)).mono fun e w'' h => ⟨h.1, bel hb' (bel bl h.2)⟩
  have M2 : ∀ w' : World, Below w10.heap.size w10 w' → Calls Try.prog 28 #[.slice z5.V 2 z5.vc, .slice (some ⟨w'.heap.size, 0, none⟩) 2 2] (w'.alloc (.cells #[.int .i64 1, .int .i64 2] 3)).drew fun e w'' => e = .returned (.bool true) ∧ Below w10.heap.size w10 w'' := fun w' hb' => by
    have bl : Below w'.heap.size w' (w'.alloc (.cells #[.int .i64 1, .int .i64 2] 3)).drew := ((Below.refl _ _).alloc (Nat.le_refl _) _).drew
    exact (sameInts28_any z5.V _ 2 2 z5.vc 2 [1, 2] [1, 2] _ ((hI5.below hb').below bl) ((ints_lit w' [1, 2]).below (Below.refl _ _).drew) (by decide) (by decide)).mono fun e w'' h => ⟨h.1, bel hb' (bel bl h.2)⟩
  have L3 : ∀ w' : World, Below w10.heap.size w10 w' → Calls Try.prog 15 #[.agg #[.int .i64 2, .slice Ax 2 cx], .slice Sx 2 sx, .slice Bz 3 dz, .slice (some ac) 6 kc] w' fun e w'' => e = .returned (.bool true) ∧ Below w10.heap.size w10 w'' := fun w' hb' =>
    (refutes32_any ⟨2, Ax, 2, cx, K.exL32, Sx, 2, sx, [K.exS32 Ex fx, K.exS32 Ex fx], Bz, 3, dz, [3, 3, 3].map K.exQ32⟩ (some ac) 6 kc lc w' ((hE.below hb').case (hQz.below hb') (by decide)) (hTc.below hb') hFc).mono fun e w'' h => ⟨by rw [h.1]; dsimp only; rw [hr4], bel hb' h.2⟩
  have L4 : ∀ (w' : World) (sA : Option Addr), sA = some ac3 → Below w10.heap.size w10 w' → Calls Try.prog 15 #[.agg #[.int .i64 2, .slice Ax 2 cx], .slice Sx 2 sx, .slice Bz 3 dz, .slice sA 5 (kc - 1)] w' fun e w'' => e = .returned (.bool false) ∧ Below w10.heap.size w10 w'' := fun w' sA hsA hb' => by
    subst hsA
    exact (refutes32_any ⟨2, Ax, 2, cx, K.exL32, Sx, 2, sx, [K.exS32 Ex fx, K.exS32 Ex fx], Bz, 3, dz, [3, 3, 3].map K.exQ32⟩ (some ac3) 5 (kc - 1) (lc.drop 1) w' ((hE.below hb').case (hQz.below hb') (by decide)) (hTd.below hb') ⟨by decide, fun y hy => hFc.2 y (List.mem_of_mem_drop hy)⟩).mono fun e w'' h => ⟨by rw [h.1]; dsimp only; rw [List.map_drop, hr2], bel hb' h.2⟩
  have L5 : ∀ w' : World, Below w10.heap.size w10 w' → Calls Try.prog 14 #[.agg #[.int .i64 2, .slice Ax 2 cx], .slice Sx 2 sx, .slice By 3 dy, .slice (some ab) 2 kb] w' fun e w'' => e = .returned (.int .i64 0) ∧ Below w10.heap.size w10 w'' := fun w' hb' =>
    (checks32_any ⟨2, Ax, 2, cx, K.exL32, Sx, 2, sx, [K.exS32 Ex fx, K.exS32 Ex fx], By, 3, dy, [3, 3, 2].map K.exQ32⟩ (some ab) 2 kb lb w' ((hE.below hb').case (hQy.below hb') (by decide)) (by rw [← hPb]; exact hTb.below hb') (fewT_of hTb (by rw [hlb, ← List.length_map (f := TV.pr), hlb]; exact ⟨by decide, fun t ht => (by simp only [List.mem_cons, List.not_mem_nil, or_false] at ht; rcases ht with rfl | rfl <;> exact ⟨by decide, by decide⟩)⟩))).mono fun e w'' h => ⟨by rw [h.1]; dsimp only; rw [hlb, K.x32_7], bel hb' h.2⟩
  have hal : ∀ (w' : World) (o : Obj), Below w10.heap.size w10 w' → Below w10.heap.size w10 (w'.alloc o) := fun w' o h => bel h ((Below.refl _ _).alloc (Nat.le_refl _) o)
  have hdr : ∀ w' : World, Below w10.heap.size w10 w' → Below w10.heap.size w10 w'.drew := fun w' h => h.drew
  have hB0 : Below w10.heap.size w10 w10 := Below.refl _ _
  have hmk : ∀ w', Below w10.heap.size w10 w' → (fun w' : World => w'.cell? ⟨w0a.heap.size, 0, none⟩ = some (.int .i64 2) ∧ w'.cell? ⟨w0a.heap.size, 1, none⟩ = some (.slice Ax 2 cx) ∧ w'.cell? ac = some (.int .i64 0) ∧ w'.cell? ⟨ac.block, ac.off + 15, none⟩ = some (.int .i64 1) ∧ w'.cell? ⟨ac.block, ac.off + 3 + 1, none⟩ = some (.slice z1.V 2 z1.vc) ∧ w'.cell? ⟨ac.block, ac.off + 15 + 1, none⟩ = some (.slice z5.V 2 z5.vc)) w' := fun w' h => by
    have mv : ∀ {p : Addr} {v : Value}, w10.cell? p = some v → w'.cell? p = some v := fun g => (h.cell (cell_lt g)).trans g
    exact ⟨mv p0, mv p1, mv c0, mv cc5, mv cc1, mv cc6⟩
  have HBB := Lib.hid hb
  clear hE hQx hQy hQz hTb hTc hTd hFc hr2 hr4 hr5 hlb hI1 hI5 hP hb hPb hPc
  go_wp2_with fail
  go_region_held3 (fun w' : World => w'.cell? ⟨w0a.heap.size, 0, none⟩ = some (.int .i64 2) ∧ w'.cell? ⟨w0a.heap.size, 1, none⟩ = some (.slice Ax 2 cx) ∧ w'.cell? ac = some (.int .i64 0) ∧ w'.cell? ⟨ac.block, ac.off + 15, none⟩ = some (.int .i64 1) ∧ w'.cell? ⟨ac.block, ac.off + 3 + 1, none⟩ = some (.slice z1.V 2 z1.vc) ∧ w'.cell? ⟨ac.block, ac.off + 15 + 1, none⟩ = some (.slice z5.V 2 z5.vc))
    ((refine hmk _ ?_; repeat (first | with_reducible assumption | with_reducible refine hal _ _ ?_ | with_reducible refine hdr _ ?_ | fail)))
    (first | (go_at_call_of 28 (BV.V z1); refine L1.mono ?_; rintro e w11 ⟨rfl, hB11⟩) | (go_at_call_of 28 (BV.V z5); with_reducible refine (L2 _ hB11).mono ?_; rintro e w12 ⟨rfl, hB12⟩) | (go_at_call_of 28 (BV.V z5); with_reducible refine (M2 _ hB11).mono ?_; rintro e w12 ⟨rfl, hB12⟩) | (go_at_call_of 15 kc; with_reducible refine (L3 _ ?_).mono ?_; (first | with_reducible exact hB12 | with_reducible exact hdr _ hB12); rintro e w13 ⟨rfl, hB13⟩) | (go_at_call 15; with_reducible refine (L4 _ _ ?_ ?_).mono ?_; exact congrArg some hac3.symm; (first | with_reducible exact hB13 | with_reducible exact hdr _ hB13); rintro e w14 ⟨rfl, hB14⟩) | (go_at_call 14; refine (L5 _ ?_).mono ?_; (first | with_reducible exact hB14 | with_reducible exact hdr _ hB14); rintro e w15 ⟨rfl, hB15⟩) | fail)
  all_goals go_wp2_with fail
  all_goals go_ret
  all_goals (first | exact ⟨rfl, bel HBB.out hB15⟩ | exact ⟨rfl, bel HBB.out (hdr _ hB15)⟩)
end Go.Proofs.Ytippdjmpkafifaa
