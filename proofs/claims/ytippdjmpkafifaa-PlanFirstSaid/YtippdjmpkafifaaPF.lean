/-
Routes: whether some label leaves a way back.
-/
import Derived.Test.YtippdjmpkafifaaPE
namespace Go.Proofs.Ytippdjmpkafifaa
open Go.RowKit

namespace K
/-- Whether a label of the whole set leaves a way back, by its own node. -/
def opensAt (nd : Int) (l : List Ro) (s : S) (r : List Q) (v : List Int) (all : Nat) (x : Lb) : Bool :=
  opens (way nd l (req r ((v[x.last.toNat]?).getD 0)).node (T.weight s r (part v all)) s.depot) s.end_ all x
end K

/-- A label that speaks of an element. -/
def LabOk (p : PS) (x : Lb) : Prop := ∃ i j q, Elem p i j q ∧ x.last = (i : Int) ∧ (0 ≤ q.node ∧ q.node < p.x.nd) ∧ (-1 ≤ x.time ∧ x.time ≤ 1000000)

set_option maxHeartbeats 4000000 in
theorem indexL (b mb : Nat) (p : PS) (all ga gp gs : Nat) (A : Option Addr) (n c : Nat) (l : List Lb) (w : World) {X : Nat → Prop} (hp : PAt w b mb p X) (hX : ∀ g, X g → g < w.heap.size)
    (ha : w.heap[ga]? = some (.cells #[.int .i64 (all : Int)] 3 (0, 0))) (hpp : w.heap[gp]? = some (.cells #[.pointer (some ⟨b, 0, none⟩)] 101 (0, 0))) (hs : Shf w gs p.x.s) (hall : all < 256)
    (hl : Labs w A n l) (hn : n ≤ 1000000000) (hok : ∀ x ∈ l, LabOk p x) :
    Calls Try.prog 104 #[.slice A n c, .func (.func 69) #[] #[.pointer (some ⟨ga, 0, none⟩), .pointer (some ⟨gp, 0, none⟩), .pointer (some ⟨gs, 0, none⟩)]] w
      fun e w' => (∃ i : Int, e = .returned (.int .i64 i) ∧ (decide (0 ≤ i)) = l.any (K.opensAt p.x.nd p.x.l p.x.s p.x.r p.l all)) ∧ Went w w' b mb p X := by
  go_enter Try.func104, Try.ntmps104
  go_wp2_with fail
  go_loopw [8] (fun vi wr => ∃ k : Nat, vi = .int .i64 k ∧ k ≤ n ∧ Hid (l.any (K.opensAt p.x.nd p.x.l p.x.s p.x.r p.l all) = (l.drop k).any (K.opensAt p.x.nd p.x.l p.x.s p.x.r p.l all)) ∧ Went w wr b mb p X) (fun vi _ => n - (intOf vi).toNat)
  case atStart => exact ⟨0, rfl, by omega, by show _ = _; rw [List.drop_zero], went_below hp (Below.refl _ _)⟩
  case round =>
    obtain ⟨k, rfl, hk, hr, hW⟩ := hrel
    have hx := hW.ext hp
    by_cases hlt : k < n
    · obtain ⟨ad, x, rfl, hg, c0, c1, c2⟩ := Labs.at_ (Lst.ext hl hx) hlt
      obtain ⟨i, j, q, hel, hxl, hno, htb⟩ := hok x (List.mem_of_getElem? hg)
      have HS := Lib.hid (drop_any (p := K.opensAt p.x.nd p.x.l p.x.s p.x.r p.l all) hg)
      have HV := Lib.hid (show K.opensAt p.x.nd p.x.l p.x.s p.x.r p.l all x = K.opens (K.way p.x.nd p.x.l q.node (T.weight p.x.s p.x.r (K.part p.l all)) p.x.s.depot) p.x.s.end_ all x by
        unfold K.opensAt; rw [hxl, Int.toNat_natCast, hel.set, Option.getD_some, K.req_get hel.req])
      have CB := blk1_any b mb p all x ga gp gs i j q wr hW.2 (fun g hg => Nat.lt_of_lt_of_le (hX g hg) hx.size) (hx.cells _ _ _ _ ha) (hx.cells _ _ _ _ hpp) (hx.cells _ _ _ _ hs) hel hxl hno hall htb
      rw [← HV.out] at CB
      obtain ⟨r9, hr9⟩ : ∃ r9, r9 = K.opensAt p.x.nd p.x.l p.x.s p.x.r p.l all x := ⟨_, rfl⟩
      rw [← hr9] at CB
      have HR9 := Lib.hid hr9
      clear hg hr9 hxl
      go_wp2_with fail
      refine CB.mono ?_
      rintro e w1 ⟨rfl, hW1⟩
      have hW2 := hW.trans hW1
      clear CB
      cases r9
      · go_wp2_with fail
        go_roundw
        case rel => exact ⟨k + 1, by go_num, by omega, by show _ = _; rw [hr.out, HS.out, ← HR9.out]; rfl, hW2⟩
        case measure => simp [intOf]; omega
      · go_wp2_with fail
        go_ret
        exact ⟨⟨k, rfl, by rw [hr.out, HS.out, ← HR9.out]; simp⟩, hW2⟩
    · have hd : l.drop k = [] := List.drop_eq_nil_of_le (by rw [← hl.1]; omega)
      have HD := Lib.hid hd
      clear hd
      go_wp2_with fail
      go_ret
      exact ⟨⟨-1, rfl, by rw [hr.out, HD.out]; rfl⟩, hW⟩

set_option maxHeartbeats 4000000 in
theorem containsL (b mb : Nat) (p : PS) (all ga gp gs : Nat) (A : Option Addr) (n c : Nat) (l : List Lb) (w : World) {X : Nat → Prop} (hp : PAt w b mb p X) (hX : ∀ g, X g → g < w.heap.size)
    (ha : w.heap[ga]? = some (.cells #[.int .i64 (all : Int)] 3 (0, 0))) (hpp : w.heap[gp]? = some (.cells #[.pointer (some ⟨b, 0, none⟩)] 101 (0, 0))) (hs : Shf w gs p.x.s) (hall : all < 256)
    (hl : Labs w A n l) (hn : n ≤ 1000000000) (hok : ∀ x ∈ l, LabOk p x) :
    Calls Try.prog 68 #[.slice A n c, .func (.func 69) #[] #[.pointer (some ⟨ga, 0, none⟩), .pointer (some ⟨gp, 0, none⟩), .pointer (some ⟨gs, 0, none⟩)]] w
      fun e w' => e = .returned (.bool (l.any (K.opensAt p.x.nd p.x.l p.x.s p.x.r p.l all))) ∧ Went w w' b mb p X := by
  have CI := indexL b mb p all ga gp gs A n c l w hp hX ha hpp hs hall hl hn hok
  clear ha hpp hs
  go_enter Try.func68, Try.ntmps68
  go_wp2_with fail
  refine CI.mono ?_
  rintro e w1 ⟨⟨i, rfl, hi⟩, hb1⟩
  go_wp2_with fail
  go_ret
  exact ⟨rfl, hb1⟩

namespace K
/-- Labels that prove that there is no tour. -/
def blocks (nd : Int) (l : List Ro) (s : S) (r : List Q) (v : List Int) (b : List Lb) : Bool :=
  ok31 nd l s r v && (!(v.length == 0) && (decide (b = labs nd l s r v) && !(b.any (opensAt nd l s r v (2 ^ v.length - 1)))))
end K
end Go.Proofs.Ytippdjmpkafifaa
