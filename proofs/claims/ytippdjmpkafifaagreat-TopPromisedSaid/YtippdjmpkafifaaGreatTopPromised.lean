/-
TopPromised: requests that are asked one after the other on a right network: each answer is accepted by the checkers, an accepted one is promised and planned, a refused one is blocked by what it names, and by no part of it.
Conditions: none (for every input).
-/
import Derived.Test.YtippdjmpkafifaaGreatCV22
import Derived.Test.YtippdjmpkafifaaGreatCV23
namespace Go.Proofs.YtippdjmpkafifaaGreat.topPromised
open Go.ChangeShapes Go.WideShapes Go.ChangeAt Go.RowKit
theorem own : ownKnob Tryz.prog.godebug = none := by kernel_rfl

set_option maxRecDepth 100000 in
theorem lifted (os : Os) (started : os.Started) (H : Type) (enc : TypeId × Value → H) :
    ReturnsInHanded {} Tryz.checked os 14 .any (Rows.topPromisedSpec.pre6 enc Tryz.prog Tryz.f14 Rows.topPromisedRow.domain false) (Rows.topPromisedSpec.post enc Tryz.prog Tryz.f14 false true false false) := by
  refine returnsInHanded_of_change (C := Tryz.checked) own started (by kernel_rfl) Tryz.func14
    (ChangeSpec.witness6 (enc := enc) (C := Tryz.checked) false ⟨#[], #[.agg #[.int .i64 0, .slice none 0 0], .slice none 0 0, .slice none 0 0], []⟩ 8 (by kernel_rfl) (by kernel_rfl) (by kernel_rfl) (by kernel_rfl)) ?_
  intro W base args ds gs before hval0 hW hcnd _
  have hval : ∀ (j : Nat) t v, Tryz.f14.params[j]? = some t → args[j]? = some v → Value.okWide Tryz.prog W .any base t v := hval0
  have hW' := hW
  obtain ⟨p, q, hA0, hV, rfl, hfz, hnd⟩ := hW
  have hA : DataW.TrodAll enc Tryz.prog W 0 (fun _ => true) true Tryz.f14.params.toList args.toList ds p := hA0
  rw [Tryz.params14] at hA hval
  obtain ⟨v0, vs0, d0, ds0, p0, q0, hargs, rfl, rfl, h0, r0⟩ := trodAll_cons hA
  obtain ⟨v1, vs1, d1, ds1, p1, q1, rfl, rfl, rfl, h1, r1⟩ := trodAll_cons r0
  obtain ⟨v2, vs2, d2, ds2, p2, q2, rfl, rfl, rfl, h2, r2⟩ := trodAll_cons r1
  obtain ⟨rfl, rfl, rfl⟩ := trodAll_nil r2
  obtain rfl : args = #[v0, v1, v2] := by cases args; simp_all
  obtain ⟨rfl, rfl⟩ := trodVars_none hV
  obtain ⟨nd, A0, n0, c0, l0, rfl, o0⟩ := open_net (hval 0 24 v0 rfl rfl) h0
  obtain ⟨A1, n1, c1, l1, rfl, o1, -⟩ := open_shifts (hval 1 25 v1 rfl rfl) h1
  obtain ⟨A2, n2, c2, l2, rfl, o2⟩ := open_reqs (hval 2 26 v2 rfl rfl) h2
  refine (topPromised_any ⟨nd, A0, n0, c0, l0, A1, n1, c1, l1, A2, n2, c2, l2⟩  W o0 o1 o2 ).mono fun e W' ⟨he, hb⟩ => ?_
  subst he
  exact ⟨_, rfl, post_true (by rw [Tryz.params14]; intro t ht; simp at ht; rcases ht with rfl | rfl | rfl <;> exact ⟨by kernel_rfl, of_decide_eq_true (by kernel_rfl)⟩) rfl rfl hW' rfl hb⟩

theorem fnNamed : Tryz.pinned.checked.prog.funcNamed Rows.topPromisedRow.func = some 14 := by kernel_rfl
theorem inst : Tryz.f14.isInstance Tryz.pinned.checked.prog Rows.topPromisedRow.origin Rows.topPromisedRow.targs := of_decide_eq_true (by kernel_rfl)
theorem wrap : Tryz.f14.isWrapper Tryz.pinned.checked.prog Rows.topPromisedRow.wrapper Rows.topPromisedRow.mainSum := by unfold Func.isWrapper; first | (rw [if_pos (by decide +kernel)]; kernel_rfl) | (rw [if_neg (by decide +kernel)]; exact ⟨rfl, rfl⟩)
theorem p1 : (Rows.topPromisedRow.inPlace == Tryz.pinned.checked.prog.inPlace 14) = true := by kernel_rfl
theorem p2 : (Rows.topPromisedRow.unfollowed == Tryz.pinned.checked.prog.unfollowed 14) = true := by kernel_rfl
theorem p3 : (Rows.topPromisedRow.recurses == Tryz.pinned.checked.prog.recurses 14) = true := by kernel_rfl
theorem p4 : (Rows.topPromisedRow.named == Tryz.pinned.checked.prog.varsNamed 14) = true := by kernel_rfl
theorem closed : joinedFacts Tryz.pinned.checked.prog 14 Tryz.f14 Rows.topPromisedSpec Rows.topPromisedRow = true := by
  unfold joinedFacts
  rw [p1, p2, p3, p4]
  kernel_rfl
theorem over : Rows.topPromisedRow.holds Tryz.pinned (OpenSpec.ofChange Rows.topPromisedSpec) :=
  OpenClaim.holds_of_wide 14 Tryz.f14 rfl rfl rfl rfl rfl rfl rfl ⟨rfl, rfl, rfl, rfl, rfl⟩ rfl rfl rfl rfl rfl fnNamed Tryz.func14 closed inst wrap
    (fun os started H enc _ => lifted os started H enc)

/-- The statement. -/
theorem proved : Rows.TopPromisedSaid :=
  over
#print axioms proved
end Go.Proofs.YtippdjmpkafifaaGreat.topPromised
