/-
For all books, requests and answers, right or not (kerbsideref33.Few, FewAnswer), promise.Ask and promise.Check return what the reference returns.
Conditions: none (for every input).
-/
import Derived.Test.YtippdjmpkafifaaGreatCR23
import Derived.Test.YtippdjmpkafifaaGreatCR24
import Derived.SizedLaws
namespace Go.Proofs.YtippdjmpkafifaaGreat.promiseTells
open Go.ChangeShapes Go.WideShapes Go.ChangeAt Go.RowKit
theorem own : ownKnob Tryz.prog.godebug = none := by kernel_rfl

set_option maxRecDepth 100000 in
theorem lifted (os : Os) (started : os.Started) (H : Type) (enc : TypeId × Value → H) :
    ReturnsInHanded {} Tryz.checked os 4 .any (Rows.promiseTellsSpec.pre6 enc Tryz.prog Tryz.f4 Rows.promiseTellsRow.domain false) (Rows.promiseTellsSpec.post enc Tryz.prog Tryz.f4 false true false false) := by
  refine returnsInHanded_of_change_sized (C := Tryz.checked) own started (by kernel_rfl) Tryz.func4
    (ChangeSpec.witness6 (enc := enc) (C := Tryz.checked) false ⟨#[], #[.agg #[.int .i64 0, .slice none 0 0, .slice none 0 0, .slice none 0 0], .agg #[.int .i64 0, .int .i64 0, .int .i64 0, .int .i64 0, .int .i64 0, .int .i64 0, .slice none 0 0], .agg #[.bool false, .slice none 0 0, .slice none 0 0, .slice none 0 0]], []⟩ 8 (by kernel_rfl) (by kernel_rfl) (by kernel_rfl) (by kernel_rfl)) ?_
  intro W base args ds gs before hval0 hW hcnd hsz _
  have hval : ∀ (j : Nat) t v, Tryz.f4.params[j]? = some t → args[j]? = some v → Value.okWide Tryz.prog W .any base t v := hval0
  have hW' := hW
  obtain ⟨p, q, hA0, hV, rfl, hfz, hnd⟩ := hW
  have hA : DataW.TrodAll enc Tryz.prog W 0 (fun _ => true) true Tryz.f4.params.toList args.toList ds p := hA0
  rw [Tryz.params4] at hA hval hsz
  obtain ⟨v0, vs0, d0, ds0, p0, q0, hargs, rfl, rfl, h0, r0⟩ := trodAll_cons hA
  obtain ⟨v1, vs1, d1, ds1, p1, q1, rfl, rfl, rfl, h1, r1⟩ := trodAll_cons r0
  obtain ⟨v2, vs2, d2, ds2, p2, q2, rfl, rfl, rfl, h2, r2⟩ := trodAll_cons r1
  obtain ⟨rfl, rfl, rfl⟩ := trodAll_nil r2
  obtain rfl : args = #[v0, v1, v2] := by cases args; simp_all
  obtain ⟨rfl, rfl⟩ := trodVars_none hV
  have hw0 : (d0.weights Tryz.prog 44).all (· ≤ reachBytes) = true := List.all_eq_true.2 fun n hn => List.all_eq_true.1 hsz n (DataW.weights_mem_each (j := 0) (t := 44) rfl rfl n hn)
  obtain ⟨nd, A0, n0, c0, l0, SA, sn, sc, ss, B, m, k, r, rfl, oR, oS, oQ, oW⟩ := anJ (hval 0 44 v0 rfl rfl) h0
  have hmB := oW hw0
  obtain ⟨q, rfl, oX⟩ := anK (hval 1 47 v1 rfl rfl) h1
  obtain ⟨a0, rfl, oA, oC, oT⟩ := anI (hval 2 50 v2 rfl rfl) h2
  refine (anM ⟨nd, A0, n0, c0, l0, SA, sn, sc, ss, B, m, k, r⟩ q a0 W oR oS oQ oX oA oC oT hmB).mono fun e W' ⟨he, hb⟩ => ?_
  subst he
  exact ⟨_, rfl, anL (by rw [Tryz.params4]; intro t ht; simp at ht; rcases ht with rfl | rfl | rfl <;> exact ⟨by kernel_rfl, of_decide_eq_true (by kernel_rfl)⟩) rfl rfl hW' rfl hb⟩

theorem fnNamed : Tryz.pinned.checked.prog.funcNamed Rows.promiseTellsRow.func = some 4 := by kernel_rfl
theorem inst : Tryz.f4.isInstance Tryz.pinned.checked.prog Rows.promiseTellsRow.origin Rows.promiseTellsRow.targs := of_decide_eq_true (by kernel_rfl)
theorem wrap : Tryz.f4.isWrapper Tryz.pinned.checked.prog Rows.promiseTellsRow.wrapper Rows.promiseTellsRow.mainSum := by unfold Func.isWrapper; first | (rw [if_pos (by decide +kernel)]; kernel_rfl) | (rw [if_neg (by decide +kernel)]; exact ⟨rfl, rfl⟩)
theorem p1 : (Rows.promiseTellsRow.inPlace == Tryz.pinned.checked.prog.inPlace 4) = true := by kernel_rfl
theorem p2 : (Rows.promiseTellsRow.unfollowed == Tryz.pinned.checked.prog.unfollowed 4) = true := by kernel_rfl
theorem p3 : (Rows.promiseTellsRow.recurses == Tryz.pinned.checked.prog.recurses 4) = true := by kernel_rfl
theorem p4 : (Rows.promiseTellsRow.named == Tryz.pinned.checked.prog.varsNamed 4) = true := by kernel_rfl
theorem closed : joinedFacts Tryz.pinned.checked.prog 4 Tryz.f4 Rows.promiseTellsSpec Rows.promiseTellsRow = true := by
  unfold joinedFacts
  rw [p1, p2, p3, p4]
  kernel_rfl
theorem over : Rows.promiseTellsRow.holds Tryz.pinned (OpenSpec.ofChange Rows.promiseTellsSpec) :=
  OpenClaim.holds_of_wide 4 Tryz.f4 rfl rfl rfl rfl rfl rfl rfl ⟨rfl, rfl, rfl, rfl, rfl⟩ rfl rfl rfl rfl rfl fnNamed Tryz.func4 closed inst wrap
    (fun os started H enc _ => lifted os started H enc)

/-- The statement. -/
theorem proved : Rows.PromiseTellsSaid :=
  over
#print axioms proved
end Go.Proofs.YtippdjmpkafifaaGreat.promiseTells
