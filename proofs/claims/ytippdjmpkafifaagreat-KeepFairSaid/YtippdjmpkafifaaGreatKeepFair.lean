/-
KeepFair: each promise is kept exactly if it can be planned, on the shifts that remain, together with those before it that are kept; the tours serve exactly these; each other one has a reason that refutes it; and Check accepts all of it.
Conditions: none (for every input).
-/
import Derived.Test.YtippdjmpkafifaaGreatCF20
import Derived.SizedLaws
namespace Go.Proofs.YtippdjmpkafifaaGreat.keepFair
open Go.ChangeShapes Go.WideShapes Go.ChangeAt Go.RowKit
theorem own : ownKnob Tryz.prog.godebug = none := by kernel_rfl

set_option maxRecDepth 100000 in
theorem lifted (os : Os) (started : os.Started) (H : Type) (enc : TypeId × Value → H) :
    ReturnsInHanded {} Tryz.checked os 10 .any (Rows.keepFairSpec.pre6 enc Tryz.prog Tryz.f10 Rows.keepFairRow.domain false) (Rows.keepFairSpec.post enc Tryz.prog Tryz.f10 false true false false) := by
  refine returnsInHanded_of_change_sized (C := Tryz.checked) own started (by kernel_rfl) Tryz.func10
    (ChangeSpec.witness6 (enc := enc) (C := Tryz.checked) false ⟨#[], #[.agg #[.int .i64 0, .slice none 0 0, .slice none 0 0, .slice none 0 0], .slice none 0 0], []⟩ 8 (by kernel_rfl) (by kernel_rfl) (by kernel_rfl) (by kernel_rfl)) ?_
  intro W base args ds gs before hval0 hW hcnd hsz _
  have hval : ∀ (j : Nat) t v, Tryz.f10.params[j]? = some t → args[j]? = some v → Value.okWide Tryz.prog W .any base t v := hval0
  have hW' := hW
  obtain ⟨p, q, hA0, hV, rfl, hfz, hnd⟩ := hW
  have hA : DataW.TrodAll enc Tryz.prog W 0 (fun _ => true) true Tryz.f10.params.toList args.toList ds p := hA0
  rw [Tryz.params10] at hA hval hsz
  obtain ⟨v0, vs0, d0, ds0, p0, q0, hargs, rfl, rfl, h0, r0⟩ := trodAll_cons hA
  obtain ⟨v1, vs1, d1, ds1, p1, q1, rfl, rfl, rfl, h1, r1⟩ := trodAll_cons r0
  obtain ⟨rfl, rfl, rfl⟩ := trodAll_nil r1
  obtain rfl : args = #[v0, v1] := by cases args; simp_all
  obtain ⟨rfl, rfl⟩ := trodVars_none hV
  have hw0 : (d0.weights Tryz.prog 44).all (· ≤ reachBytes) = true := List.all_eq_true.2 fun n hn => List.all_eq_true.1 hsz n (DataW.weights_mem_each (j := 0) (t := 44) rfl rfl n hn)
  obtain ⟨nd, A0, n0, c0, l0, SA, sn, sc, ss, B, m, k, r, rfl, oR, oS, oQ, oW⟩ := open_book (hval 0 44 v0 rfl rfl) h0
  have hmB := oW hw0
  obtain ⟨A1, n1, c1, l1, rfl, o1⟩ := open_ints (hval 1 48 v1 rfl rfl) h1
  refine (fair10_any ⟨nd, A0, n0, c0, l0, SA, sn, sc, ss, B, m, k, r⟩ A1 n1 c1 l1 W oR oS oQ o1).mono fun e W' ⟨he, hb⟩ => ?_
  subst he
  exact ⟨_, rfl, post_true (by rw [Tryz.params10]; intro t ht; simp at ht; rcases ht with rfl | rfl <;> exact ⟨by kernel_rfl, of_decide_eq_true (by kernel_rfl)⟩) rfl rfl hW' rfl hb⟩

theorem fnNamed : Tryz.pinned.checked.prog.funcNamed Rows.keepFairRow.func = some 10 := by kernel_rfl
theorem inst : Tryz.f10.isInstance Tryz.pinned.checked.prog Rows.keepFairRow.origin Rows.keepFairRow.targs := of_decide_eq_true (by kernel_rfl)
theorem wrap : Tryz.f10.isWrapper Tryz.pinned.checked.prog Rows.keepFairRow.wrapper Rows.keepFairRow.mainSum := by unfold Func.isWrapper; first | (rw [if_pos (by decide +kernel)]; kernel_rfl) | (rw [if_neg (by decide +kernel)]; exact ⟨rfl, rfl⟩)
theorem closed : joinedFacts Tryz.pinned.checked.prog 10 Tryz.f10 Rows.keepFairSpec Rows.keepFairRow = true := by kernel_rfl
theorem over : Rows.keepFairRow.holds Tryz.pinned (OpenSpec.ofChange Rows.keepFairSpec) :=
  OpenClaim.holds_of_wide 10 Tryz.f10 rfl rfl rfl rfl rfl rfl rfl ⟨rfl, rfl, rfl, rfl, rfl⟩ rfl rfl rfl rfl rfl fnNamed Tryz.func10 closed inst wrap
    (fun os started H enc _ => lifted os started H enc)

/-- The statement. -/
theorem proved : Rows.KeepFairSaid :=
  over
#print axioms proved
end Go.Proofs.YtippdjmpkafifaaGreat.keepFair
