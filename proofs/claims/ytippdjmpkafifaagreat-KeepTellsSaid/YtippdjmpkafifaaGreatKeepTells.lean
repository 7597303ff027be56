/-
KeepTells: every function of keep returns what the reference returns, for all books and lists of shifts that are few, right or not.
Conditions: none (for every input).
-/
import Derived.Test.YtippdjmpkafifaaGreatCT22
import Derived.Test.YtippdjmpkafifaaGreatCT23
import Derived.SizedLaws
namespace Go.Proofs.YtippdjmpkafifaaGreat.keepTells
open Go.ChangeShapes Go.WideShapes Go.ChangeAt Go.RowKit
theorem own : ownKnob Tryz.prog.godebug = none := by kernel_rfl

set_option maxRecDepth 100000 in
theorem lifted (os : Os) (started : os.Started) (H : Type) (enc : TypeId × Value → H) :
    ReturnsInHanded {} Tryz.checked os 9 .any (Rows.keepTellsSpec.pre6 enc Tryz.prog Tryz.f9 Rows.keepTellsRow.domain false) (Rows.keepTellsSpec.post enc Tryz.prog Tryz.f9 false true false false) := by
  refine returnsInHanded_of_change_sized (C := Tryz.checked) own started (by kernel_rfl) Tryz.func9
    (ChangeSpec.witness6 (enc := enc) (C := Tryz.checked) false ⟨#[], #[.agg #[.int .i64 0, .slice none 0 0, .slice none 0 0, .slice none 0 0], .slice none 0 0, .slice none 0 0, .slice none 0 0, .slice none 0 0], []⟩ 8 (by kernel_rfl) (by kernel_rfl) (by kernel_rfl) (by kernel_rfl)) ?_
  intro W base args ds gs before hval0 hW hcnd hsz _
  have hval : ∀ (j : Nat) t v, Tryz.f9.params[j]? = some t → args[j]? = some v → Value.okWide Tryz.prog W .any base t v := hval0
  have hW' := hW
  obtain ⟨p, q, hA0, hV, rfl, hfz, hnd⟩ := hW
  have hA : DataW.TrodAll enc Tryz.prog W 0 (fun _ => true) true Tryz.f9.params.toList args.toList ds p := hA0
  rw [Tryz.params9] at hA hval hsz
  obtain ⟨v0, vs0, d0, ds0, p0, q0, hargs, rfl, rfl, h0, r0⟩ := trodAll_cons hA
  obtain ⟨v1, vs1, d1, ds1, p1, q1, rfl, rfl, rfl, h1, r1⟩ := trodAll_cons r0
  obtain ⟨v2, vs2, d2, ds2, p2, q2, rfl, rfl, rfl, h2, r2⟩ := trodAll_cons r1
  obtain ⟨v3, vs3, d3, ds3, p3, q3, rfl, rfl, rfl, h3, r3⟩ := trodAll_cons r2
  obtain ⟨v4, vs4, d4, ds4, p4, q4, rfl, rfl, rfl, h4, r4⟩ := trodAll_cons r3
  obtain ⟨rfl, rfl, rfl⟩ := trodAll_nil r4
  obtain rfl : args = #[v0, v1, v2, v3, v4] := by cases args; simp_all
  obtain ⟨rfl, rfl⟩ := trodVars_none hV
  have hw0 : (d0.weights Tryz.prog 44).all (· ≤ reachBytes) = true := List.all_eq_true.2 fun n hn => List.all_eq_true.1 hsz n (DataW.weights_mem_each (j := 0) (t := 44) rfl rfl n hn)
  obtain ⟨nd, A0, n0, c0, l0, SA, sn, sc, ss, B, m, k, r, rfl, oR, oS, oQ, oW⟩ := akU (hval 0 44 v0 rfl rfl) h0
  have hmB := oW hw0
  obtain ⟨A1, n1, c1, l1, rfl, o1⟩ := open_ints (hval 1 48 v1 rfl rfl) h1
  obtain ⟨A2, n2, c2, l2, rfl, o2⟩ := open_ints (hval 2 48 v2 rfl rfl) h2
  obtain ⟨A3, n3, c3, l3, rfl, o3, -, k3⟩ := akW (hval 3 27 v3 rfl rfl) h3
  obtain ⟨A4, n4, c4, l4, rfl, o4, k4⟩ := akV (hval 4 65 v4 rfl rfl) h4
  refine (ak0 ⟨nd, A0, n0, c0, l0, SA, sn, sc, ss, B, m, k, r⟩ A1 n1 c1 l1 A2 n2 c2 l2 A3 n3 c3 l3 A4 n4 c4 l4 W oR oS oQ o1 o2 o3 (fun y hy => (k3 y hy).1) o4 k4).mono fun e W' ⟨he, hb⟩ => ?_
  subst he
  exact ⟨_, rfl, akX (by rw [Tryz.params9]; intro t ht; simp at ht; rcases ht with rfl | rfl | rfl | rfl <;> exact ⟨by kernel_rfl, of_decide_eq_true (by kernel_rfl)⟩) rfl rfl hW' rfl hb⟩

theorem fnNamed : Tryz.pinned.checked.prog.funcNamed Rows.keepTellsRow.func = some 9 := by kernel_rfl
theorem inst : Tryz.f9.isInstance Tryz.pinned.checked.prog Rows.keepTellsRow.origin Rows.keepTellsRow.targs := of_decide_eq_true (by kernel_rfl)
theorem wrap : Tryz.f9.isWrapper Tryz.pinned.checked.prog Rows.keepTellsRow.wrapper Rows.keepTellsRow.mainSum := by unfold Func.isWrapper; first | (rw [if_pos (by decide +kernel)]; kernel_rfl) | (rw [if_neg (by decide +kernel)]; exact ⟨rfl, rfl⟩)
theorem closed : joinedFacts Tryz.pinned.checked.prog 9 Tryz.f9 Rows.keepTellsSpec Rows.keepTellsRow = true := by kernel_rfl
theorem over : Rows.keepTellsRow.holds Tryz.pinned (OpenSpec.ofChange Rows.keepTellsSpec) :=
  OpenClaim.holds_of_wide 9 Tryz.f9 rfl rfl rfl rfl rfl rfl rfl ⟨rfl, rfl, rfl, rfl, rfl⟩ rfl rfl rfl rfl rfl fnNamed Tryz.func9 closed inst wrap
    (fun os started H enc _ => lifted os started H enc)

/-- The statement. -/
theorem proved : Rows.KeepTellsSaid :=
  over
#print axioms proved
end Go.Proofs.YtippdjmpkafifaaGreat.keepTells
