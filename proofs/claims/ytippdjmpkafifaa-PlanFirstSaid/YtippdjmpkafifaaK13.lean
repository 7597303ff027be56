/-
Plain laws of tours: each service of a tour is the earliest one.
-/
import Derived.Test.YtippdjmpkafifaaK12
namespace Go.Proofs.Ytippdjmpkafifaa
open Go.RowKit
namespace K
/-- k requests are served: the truck is at a, at t; ts: all times. -/
def Upto (nd : Int) (l : List Ro) (s : S) (r : List Q) (o ts : List Int) (k : Nat) (a t : Int) : Prop :=
  all nd l s r o = ⟨ts.take k ++ (legs nd l s r (o.take k) a t (o.drop k)).times, (legs nd l s r (o.take k) a t (o.drop k)).a, (legs nd l s r (o.take k) a t (o.drop k)).t, (legs nd l s r (o.take k) a t (o.drop k)).e⟩ ∧ (0 ≤ a ∧ a < nd) ∧ 0 ≤ t ∧ t ≤ s.end_

theorem upto_first {nd : Int} {l : List Ro} {s : S} {r : List Q} {o : List Int} (h : (run nd l s r o).e = 0) (ts : List Int) : Upto nd l s r o ts 0 s.depot s.start := by
  obtain ⟨h1, h2, h3, h4⟩ := run_ok h
  obtain ⟨p1, p2, p3, p4⟩ := right_parts h1
  obtain ⟨-, ⟨d0, d1⟩, st0, st1, -⟩ := check_parts (T.load_parts p2).1
  exact ⟨by simp [all], ⟨d0, p3⟩, st0, st1⟩

/-- What holds of the next service. -/
structure Next (nd : Int) (l : List Ro) (s : S) (r : List Q) (o ts : List Int) (k : Nat) (a t i y : Int) : Prop where
  leg : (leg nd l s r (o.take k) i a t).2 = 0
  time : (K.leg nd l s r (o.take k) i a t).1 = y
  next : Upto nd l s r o ts (k + 1) (req r i).node (y + (req r i).service)
  way : 0 ≤ way nd l a (T.weight s r (o.take k)) (req r i).node ∧ t + K.way nd l a (T.weight s r (o.take k)) (req r i).node ≤ y
  fit : H.fit (req r i).l y (req r i).service = (y, true)
  bound : 0 ≤ y ∧ y + (req r i).service ≤ s.end_ ∧ 0 ≤ (req r i).service
  least : ∀ b, (H.fit (req r i).l b (req r i).service).2 = true → (H.fit (req r i).l b (req r i).service).1 = b → t + K.way nd l a (T.weight s r (o.take k)) (req r i).node ≤ b → y ≤ b

theorem next {nd : Int} {l : List Ro} {s : S} {r : List Q} {o : List Int} (h : (run nd l s r o).e = 0) {k : Nat} {a t i y : Int} (hu : Upto nd l s r o (run nd l s r o).tour.times k a t) (hi : o[k]? = some i) (hy : (run nd l s r o).tour.times[k]? = some y) : Next nd l s r o (run nd l s r o).tour.times k a t i y := by
  obtain ⟨h1, h2, h3, h4⟩ := run_ok h
  obtain ⟨ts, hts⟩ : ∃ ts, ts = (run nd l s r o).tour.times := ⟨_, rfl⟩
  rw [← hts] at hu hy ⊢
  have hta : ts = (all nd l s r o).times := by rw [hts, h4]
  obtain ⟨u1, u2, u3, u4⟩ := hu
  have hleg : (leg nd l s r (o.take k) i a t).2 = 0 := by
    by_cases e : (leg nd l s r (o.take k) i a t).2 = 0
    · exact e
    · rw [legs_no hi e] at u1
      rw [u1] at h2
      exact absurd h2 e
  have hok := legs_ok hi hleg
  rw [hok] at u1
  have hkl : (ts.take k).length = k := by
    have := (List.getElem?_eq_some_iff.1 hy).1
    rw [List.length_take]; omega
  have htime : (leg nd l s r (o.take k) i a t).1 = y := by
    have e : ts[k]? = some (leg nd l s r (o.take k) i a t).1 := by
      conv => lhs; rw [hta, u1]
      simp only
      rw [List.getElem?_append_right (by omega), hkl, Nat.sub_self]; rfl
    rw [hy] at e
    injection e with e; exact e.symm
  have hf := fine_right h1 i (List.mem_of_getElem? hi)
  obtain ⟨-, -, l3, l4, l5, l6, l7⟩ := leg_ok hleg
  obtain ⟨r1, r2, r3, r4⟩ := reach_ok l4
  obtain ⟨f1, f2, f3, f4, f5⟩ := H.fit_ok l5
  rw [l6] at htime l7
  rw [htime] at f4 f5 l7
  have hfit : H.fit (req r i).l y (req r i).service = (y, true) := by
    have h2' := (H.first_two f1 (t := (reach nd l s r (o.take k) a t (req r i).node).1) (o := y) (by omega) f3 (by omega)).2 l5 (by rw [htime]; omega)
    rw [htime] at h2'
    exact Prod.ext h2'.2 h2'.1
  refine ⟨hleg, by rw [l6]; exact htime, ⟨?_, hf.1, by omega, l7⟩, ⟨r2, by omega⟩, hfit, ⟨by omega, l7, hf.2⟩, ?_⟩
  · rw [u1, take_snoc hy, l6, htime]
    simp
  · intro b hb1 hb2 hb3
    obtain ⟨g1, g2, g3, g4, g5⟩ := H.fit_ok hb1
    have := ((H.first_two f1 (t := (reach nd l s r (o.take k) a t (req r i).node).1) (o := b) (by omega) f3 (by omega)).1 hb1).2
    rw [htime, hb2] at this
    exact this

/-- The way back. -/
theorem last {nd : Int} {l : List Ro} {s : S} {r : List Q} {o : List Int} (h : (run nd l s r o).e = 0) {a t : Int} (hu : Upto nd l s r o (run nd l s r o).tour.times o.length a t) :
    0 ≤ way nd l a (T.weight s r o) s.depot ∧ (run nd l s r o).tour.end_ = t + way nd l a (T.weight s r o) s.depot ∧ (run nd l s r o).tour.end_ ≤ s.end_ := by
  obtain ⟨h1, h2, h3, h4⟩ := run_ok h
  obtain ⟨u1, -⟩ := hu
  rw [List.take_length, List.drop_length] at u1
  have ea : (all nd l s r o).a = a := by rw [u1]; rfl
  have et : (all nd l s r o).t = t := by rw [u1]; rfl
  unfold back at h3
  rw [ea, et] at h3
  obtain ⟨r1, r2, r3, r4⟩ := reach_ok h3
  have e : (run nd l s r o).tour.end_ = (reach nd l s r o a t s.depot).1 := by
    rw [h4]; unfold back; rw [ea, et]
  rw [e]
  exact ⟨r2, r3, r4⟩
end K
end Go.Proofs.Ytippdjmpkafifaa
