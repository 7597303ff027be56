/-
Routes: the contract of slices.Repeat at one number.
-/
import Derived.Test.YtippdjmpkafifaaP7
import Derived.Laws.CopyOwn
namespace Go.Proofs.Ytippdjmpkafifaa
open Go.RowKit

/-- A row that is filled up to place k. -/
def Rep (n k : Nat) : List Value := List.replicate k (Value.int .i64 (-1)) ++ List.replicate (n - k) (Value.int .i64 0)
theorem rep_len {n k : Nat} (h : k ≤ n) : (Rep n k).length = n := by simp [Rep]; omega
theorem rep_zero (n : Nat) : intCells (List.replicate n 0) = Rep n 0 := by simp [Rep, intCells]
theorem rep_full (n : Nat) : Rep n n = intCells (List.replicate n (-1)) := by simp [Rep, intCells]
theorem rep_splice {n k c : Nat} (h : k + c ≤ n) : splice (Rep n k) k (List.replicate c (Value.int .i64 (-1))) = Rep n (k + c) := by
  unfold splice Rep
  have e1 : (List.replicate k (Value.int .i64 (-1)) ++ List.replicate (n - k) (Value.int .i64 0)).take k = List.replicate k (Value.int .i64 (-1)) := by
    rw [List.take_append_of_le_length (by simp)]
    exact List.take_of_length_le (by simp)
  have e2 : (List.replicate k (Value.int .i64 (-1)) ++ List.replicate (n - k) (Value.int .i64 0)).drop (k + (List.replicate c (Value.int .i64 (-1))).length) = List.replicate (n - (k + c)) (Value.int .i64 0) := by
    rw [List.length_replicate, List.drop_append, List.drop_eq_nil_of_le (by simp), List.nil_append, List.length_replicate, List.drop_replicate]
    congr 1
    omega
  rw [e1, e2, ← List.append_assoc, List.replicate_append_replicate]

theorem mul_and : ∀ n : Fin 7, bits .and .u64 (n.val : Int) 4294967295 = n.val := by decide +kernel
theorem mul_shr : ∀ n : Fin 7, (n.val : Int) / 4294967296 = 0 := by decide +kernel

set_option maxRecDepth 100000 in
set_option maxHeartbeats 4000000 in
theorem mul64_any (n : Nat) (hn : n ≤ 6) (w : World) :
    Calls Try.prog 120 #[.int .u64 1, .int .u64 n] w fun e w' => e = .returned (.tuple #[.int .u64 0, .int .u64 n]) ∧ w' = w := by
  have h1 : bits BinOp.and IntKind.u64 1 4294967295 = 1 := by decide
  have h2 : bits BinOp.and IntKind.u64 (n : Int) 4294967295 = n := mul_and ⟨n, by omega⟩
  have h3 : (n : Int) / 4294967296 = 0 := mul_shr ⟨n, by omega⟩
  have h4 : bits BinOp.and IntKind.u64 0 4294967295 = 0 := by decide
  go_enter Try.func120, Try.ntmps120
  go_wp2_with fail
  go_ret2
  exact ⟨rfl, rfl⟩

set_option maxRecDepth 100000 in
set_option maxHeartbeats 4000000 in
theorem mul_any (n : Nat) (hn : n ≤ 6) (w : World) :
    Calls Try.prog 115 #[.int .u64 1, .int .u64 n] w fun e w' => e = .returned (.tuple #[.int .u64 0, .int .u64 n]) ∧ w' = w := by
  go_enter Try.func115, Try.ntmps115
  go_wp2_with fail
  refine (mul64_any n hn w).mono ?_
  rintro e w' ⟨rfl, rfl⟩
  go_wp2_with fail
  go_ret2
  exact ⟨rfl, rfl⟩

set_option maxRecDepth 100000 in
set_option maxHeartbeats 8000000 in
theorem repeat_any (g : Nat) (n : Nat) (hn : n ≤ 6) (w : World) (hg : w.heap[g]? = some (.cells #[.int .i64 (-1)] 3 (0, 0))) :
    Calls Try.prog 102 #[.slice (some ⟨g, 0, none⟩) 1 1, .int .i64 n] w fun e w' => (∃ b, e = .returned (.slice (some ⟨b, 0, none⟩) n n) ∧ w.heap.size ≤ b ∧ IBlk w' b (List.replicate n (-1))) ∧ Below w.heap.size w w' := by
  have hmk := fun w' => make_ints n (by omega) w'
  have h0 : IntKind.u64.wrap (n : Int) = (n : Int) := by rw [IntKind.wrap_u64]; omega
  go_enter Try.func102, Try.ntmps102
  go_wp2_with fail
  refine (mul_any n hn w).mono ?_
  rintro e w0 ⟨rfl, rfl⟩
  have c1 : decide ((9223372036854775807 : Int) < (n : Int)) = false := by simp; omega
  have h5 : IntKind.i64.wrap (n : Int) = (n : Int) := IntWalk.i64_in _ (by omega)
  have hsz : (Try.prog.info? 3).map (·.size) = some 1 := by kernel_rfl
  obtain ⟨X0, hX0⟩ : ∃ X0, X0 = Rep n 0 := ⟨_, rfl⟩
  obtain ⟨X1, hX1⟩ : ∃ X1, X1 = List.replicate (min 1 n) (Value.int .i64 (-1)) := ⟨_, rfl⟩
  have hl0 : X0.length = n := by rw [hX0]; exact rep_len (Nat.zero_le n)
  have hl1 : X1.length = min 1 n := by rw [hX1]; simp
  have ho1 : ∀ v ∈ X1, v.oneCell' = true := by rw [hX1]; intro v hv; rw [(List.mem_replicate.1 hv).2]; rfl
  rw [rep_zero, ← hX0] at hmk
  have hgn : (w0.alloc (.cells X0.toArray 3)).heap[w0.heap.size]? = some (.cells X0.toArray 3 (0, 0)) := heap_alloc_new _ _
  have hsrc : ∀ j v, X1[j]? = some v → (w0.alloc (.cells X0.toArray 3)).cell? ((⟨g, 0, none⟩ : Addr).add j) = some v := fun j v hv => by
    have hgl := lt_of_block hg
    have hj : j = 0 ∧ v = .int .i64 (-1) := by
      obtain ⟨hj, e⟩ := List.getElem?_eq_some_iff.1 hv
      have h1 := hl1
      refine ⟨by omega, ?_⟩
      subst e
      simp [hX1]
    obtain ⟨rfl, rfl⟩ := hj
    exact blk_cell (blk_alloc hg _) 0 _ rfl
  have hb0 : Below w0.heap.size w0 (w0.alloc (.cells X0.toArray 3)) := (Below.refl _ _).alloc (Nat.le_refl _) _
  have HX0 := Lib.hid hX0
  have HX1 := Lib.hid hX1
  have HL0 := Lib.hid hl0
  have HL1 := Lib.hid hl1
  have hmn : X1.length = Nat.min 1 n := hl1
  have HMN := Lib.hid hmn
  clear hX0 hX1 hl0 hl1 hmn
  go_wp2_with (refine wpList_copy_splice rfl (.tmp 31) (.tmp 32) 41 41 rfl 3 Try.underlying41 hsz (some ⟨w0.heap.size, 0, none⟩) (some ⟨g, 0, none⟩) n n 1 1 rfl rfl w0.heap.size 0 X0 3 hgn X1 HMN.out (fun _ => ⟨rfl, _, rfl, hsrc⟩) (by rw [HL0.out, HL1.out]; omega) ho1 w0.heap.size w0 hb0 (Nat.le_refl _) ?_; intro w2 hg2 hb2)
  have hk1 : min 1 n ≤ n := Nat.min_le_right _ _
  have HK2 := Lib.hid (show n = 0 ∨ 0 < min 1 n by omega)
  have hrel0 : Hid (w2.heap[w0.heap.size]? = some (.cells (Rep n (min 1 n)).toArray 3 (0, 0))) := by
    have h9 := hg2.out
    rw [HX0.out, HX1.out, rep_splice (by omega), Nat.zero_add] at h9
    exact h9
  have HG1 := Lib.hid (show goInt X1.length = .int .i64 ((min 1 n : Nat) : Int) by rw [HL1.out]; rfl)
  go_wp2_with fail
  go_loopw [8] (fun v8 wr => ∃ k : Nat, v8 = .int .i64 k ∧ k ≤ n ∧ Hid (n = 0 ∨ 0 < k) ∧ Hid (wr.heap[w0.heap.size]? = some (.cells (Rep n k).toArray 3 (0, 0))) ∧ Below w0.heap.size w0 wr) (fun v8 _ => n - (intOf v8).toNat)
  case atStart => exact ⟨min 1 n, by first | exact HG1.out | (rw [HL1.out]), hk1, HK2.out, hrel0.out, hb2⟩
  case round =>
    clear hrel0 hg2 hb2 hgn hb0 hsrc hmk
    obtain ⟨k, rfl, hk, hk0, hrow, hbr⟩ := hrel
    by_cases hlt : k < n
    · have hcf : (n = k) = False := eq_false (by omega)
      have k0 : (0 : Int) ≤ (k : Int) := by omega
      have k1 : (k : Int) ≤ (n : Int) := by omega
      have hkp : 0 < k := hk0.out.resolve_left (by omega)
      obtain ⟨c, hc⟩ : ∃ c, c = min k (n - k) := ⟨_, rfl⟩
      obtain ⟨X2, hX2⟩ : ∃ X2, X2 = List.replicate c (Value.int .i64 (-1)) := ⟨_, rfl⟩
      have HC := Lib.hid hc
      have HX2 := Lib.hid hX2
      have HL2 := Lib.hid (show X2.length = c by rw [hX2]; simp)
      have HO2 := Lib.hid (show ∀ v ∈ X2, v.oneCell' = true by rw [hX2]; intro v hv; rw [(List.mem_replicate.1 hv).2]; rfl)
      have hsrc : ∀ j v, X2[j]? = some v → wr.cell? ((⟨w0.heap.size, 0, none⟩ : Addr).add j) = some v := fun j v hv => by
        obtain ⟨hj, e⟩ := List.getElem?_eq_some_iff.1 hv
        have h1 : j < c := by rw [← HL2.out]; exact hj
        subst e
        rw [add_zero_block]
        refine blk_cell hrow.out j _ ?_
        have hjk : j < k := by rw [HC.out] at h1; omega
        simp only [HX2.out, List.getElem_replicate]
        unfold Rep
        rw [List.getElem?_toArray, List.getElem?_append_left (by simp; omega), List.getElem?_replicate, if_pos hjk]
      have hcn : c ≤ n - k := by rw [hc]; exact Nat.min_le_right _ _
      have hc1 : 0 < c := by omega
      clear hc hX2
      have HWX := Lib.hid (show IntKind.i64.wrap ((k : Int) + (X2.length : Int)) = ((k + c : Nat) : Int) by rw [HL2.out, IntWalk.i64_in _ (by omega)]; omega)
      have hbd : Below w0.heap.size w0 wr.drew := hbr.drew
      have hrowd : wr.drew.heap[w0.heap.size]? = some (.cells (Rep n k).toArray 3 (0, 0)) := hrow.out
      have hsrcd : ∀ j v, X2[j]? = some v → wr.drew.cell? ((⟨w0.heap.size, 0, none⟩ : Addr).add j) = some v := hsrc
      go_wp2_with fail
      go_region_held3 (fun _ => True) (trivial)
        (first
          | (refine step_copy_splice rfl (.tmp 41) (.tmp 44) 41 41 rfl 3 Try.underlying41 hsz (some ⟨w0.heap.size, k, none⟩) (some ⟨w0.heap.size, 0, none⟩) (n - k) (n - k) k n rfl rfl w0.heap.size k (Rep n k) 3 ?_ X2 (by rw [HL2.out]; exact HC.out) ?_ (by rw [HL2.out, rep_len hk]; omega) HO2.out w0.heap.size w0 ?_ (Nat.le_refl _) ?_; exact hrowd; exact (fun _ => ⟨rfl, _, rfl, hsrcd⟩); exact hbd; intro w3 hg3 hb3)
          | fail)
      have hrow3 : w3.heap[w0.heap.size]? = some (.cells (Rep n (k + c)).toArray 3 (0, 0)) := by
        have h9 := hg3.out
        rw [HX2.out, rep_splice (by omega)] at h9
        exact h9
      have HR3 := Lib.hid hrow3
      clear hrow3 hg3 hrowd hsrc hsrcd hbd
      rw [HWX.out]
      go_wp2_with fail
      go_roundw
      case rel => exact ⟨k + c, rfl, by omega, (show n = 0 ∨ 0 < k + c from .inr (by omega)), HR3.out, hb3⟩
      case measure => simp [intOf]; omega
    · have hkn : k = n := by omega
      have HR3 := Lib.hid (show IBlk wr w0.heap.size (List.replicate n (-1)) by
        have h9 := hrow.out
        rw [hkn, rep_full] at h9
        exact h9)
      clear hkn
      go_wp2_with fail
      go_ret
      exact ⟨⟨_, rfl, Nat.le_refl _, HR3.out⟩, hbr⟩
end Go.Proofs.Ytippdjmpkafifaa
