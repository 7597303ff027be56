/-
Plain laws: a round over an order of the set that can be driven is a tour of the search.
-/
import Derived.Test.YtjcdpfpdjcannaaVB
namespace Go.Proofs.Ytjcdpfpdjcannaa
open Go.RowKit
namespace K
theorem part_all : ∀ (v : List Int) (m : Nat), m < 2 ^ v.length → (part v m).length = v.length → m = 2 ^ v.length - 1
  | [], m, h, _ => by simp at h; subst h; rfl
  | x :: r, m, h, hl => by
    have hpw : 2 ^ (r.length + 1) = 2 * 2 ^ r.length := by rw [Nat.pow_succ]; omega
    rw [List.length_cons, hpw] at h
    rw [List.length_cons, hpw]
    have hp := Nat.two_pow_pos r.length
    cases hb : m.testBit 0 with
    | true =>
      simp only [part, hb, if_true, List.length_cons] at hl
      have ih := part_all r (m / 2) (by omega) (by omega)
      rw [Nat.testBit_zero] at hb
      have : m % 2 = 1 := by simpa using hb
      omega
    | false =>
      simp only [part, hb, Bool.false_eq_true, if_false, List.length_cons] at hl
      have := part_len r (m / 2)
      omega
section
variable {nd : Int} {l : List Ro} {s : S} {r : List Q} {v : List Int}

/-- A round over an order of the set that can be driven is a tour of the search. -/
theorem run_home (hok : ok31 nd l s r v = true) {o : List Int} (hp : o.Perm v) (he : (run nd l s r o).e = 0) : ∃ q c, Hits nd l s r v q c ∧ Home nd l s r v c (run nd l s r o).tour ∧ c.stops = o := by
  have hc := case31 hok
  obtain ⟨h1, h2, h3, h4⟩ := run_ok he
  have hnd : v.Nodup := by
    rw [ok31_eq] at hok
    simp only [Bool.and_eq_true] at hok
    exact (T.isSet_iff.1 (T.load_parts (right_parts hok.2).2.1).2.1).2
  obtain ⟨q, c, hh, hs⟩ := legs_hits (nd := nd) (l := l) (s := s) (r := r) (v := v) o.length o rfl (hp.nodup_iff.2 hnd) (fun x hx => hp.mem_iff.1 hx) h2
  have hlg := hits_legs hh
  rw [hs] at hlg
  have hps := hits_stops hh
  rw [hs] at hps
  have hbits : c.bits = 2 ^ v.length - 1 := part_all v c.bits (hits_inv hc hh).1 (by rw [← hps.length_eq, hp.length_eq])
  have hw : T.weight s r o = T.weight s r (part v c.bits) := T.weight_perm hps
  have hb : back nd l s r o = reach nd l s r o c.a c.t s.depot := by unfold back all; rw [hlg]
  rw [hb] at h3
  obtain ⟨r1, -, r3, r4⟩ := reach_ok h3
  rw [r3] at r4
  rw [hw] at r1 r3 r4
  refine ⟨q, c, hh, ⟨hbits, r1, r4, ?_⟩, hs⟩
  rw [h4, hb, r3, hs]
  unfold all
  rw [hlg]
end
end K
end Go.Proofs.Ytjcdpfpdjcannaa
