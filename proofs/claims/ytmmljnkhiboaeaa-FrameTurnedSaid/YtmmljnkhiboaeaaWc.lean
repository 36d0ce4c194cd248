/-
  The walks over numbers and their bytes.
-/
import Derived.Test.YtmmljnkhiboaeaaWb
namespace Go.Proofs.Ytmmljnkhiboaeaa
open Go.RowKit

theorem num3 (x : Nat) : Fp.num x 3 = [UInt8.ofNat (x % 256), UInt8.ofNat (x / 256 % 256), UInt8.ofNat (x / 256 / 256 % 256)] := rfl

set_option maxHeartbeats 400000 in
theorem number3 (x : Nat) (w : World) (_hx : x < 4294967296) :
    Calls Try.prog 21 #[.int .u32 x, .int .i64 3] w fun e w' => e = .returned (.string (bs (Fp.num x 3))) ∧ Below w.heap.size w w' := by
  have hmk : ∀ w, (Instr.makeSlice 36 (.int .i64 3) (.int .i64 3)).run Try.prog w = .ok (.slice (some ⟨w.heap.size, 0, none⟩) 3 3) (w.alloc (.cells #[.int .u8 0, .int .u8 0, .int .u8 0] 5)) := fun _ => by kernel_rfl
  go_enter Try.func21, Try.ntmps21
  go_wp2
  refine wp_loop_rounds 4 ?_
  iterate 4 (rw [rounds_succ]; go_wp2_with (with_reducible refine wpList_bytes_str _ rfl _ 36 9 5 rfl Try.underlying36 Try.underlying5 Try.underlying9 _ _ _ _ rfl (Fp.num x 3) rfl ?hc ?_))
  case hc =>
    intro j hj
    rw [Nat.zero_add, World.cell?_alloc_at _ _ _ _ rfl, num3]
    match j, hj with
    | 0, _ => simp; try omega
    | 1, _ => simp; try omega
    | 2, _ => simp; try omega
  go_ret
  exact ⟨rfl, (Below.refl _ _).alloc (Nat.le_refl _) _⟩
theorem num4 (x : Nat) : Fp.num x 4 = [UInt8.ofNat (x % 256), UInt8.ofNat (x / 256 % 256), UInt8.ofNat (x / 256 / 256 % 256), UInt8.ofNat (x / 256 / 256 / 256 % 256)] := rfl
set_option maxHeartbeats 400000 in
theorem number4 (x : Nat) (w : World) (_hx : x < 4294967296) :
    Calls Try.prog 21 #[.int .u32 x, .int .i64 4] w fun e w' => e = .returned (.string (bs (Fp.num x 4))) ∧ Below w.heap.size w w' := by
  have hmk : ∀ w, (Instr.makeSlice 36 (.int .i64 4) (.int .i64 4)).run Try.prog w = .ok (.slice (some ⟨w.heap.size, 0, none⟩) 4 4) (w.alloc (.cells #[.int .u8 0, .int .u8 0, .int .u8 0, .int .u8 0] 5)) := fun _ => by kernel_rfl
  go_enter Try.func21, Try.ntmps21
  go_wp2
  refine wp_loop_rounds 5 ?_
  iterate 5 (rw [rounds_succ]; go_wp2_with (with_reducible refine wpList_bytes_str _ rfl _ 36 9 5 rfl Try.underlying36 Try.underlying5 Try.underlying9 _ _ _ _ rfl (Fp.num x 4) rfl ?hc ?_))
  case hc =>
    intro j hj
    rw [Nat.zero_add, World.cell?_alloc_at _ _ _ _ rfl, num4]
    match j, hj with
    | 0, _ => simp; try omega
    | 1, _ => simp; try omega
    | 2, _ => simp; try omega
    | 3, _ => simp; try omega
  go_ret
  exact ⟨rfl, (Below.refl _ _).alloc (Nat.le_refl _) _⟩

theorem num_step (x n : Nat) : Fp.num x (n + 1) = UInt8.ofNat (x % 256) :: Fp.num (x / 256) n := rfl
set_option maxHeartbeats 400000 in
theorem rnumber_any (x n : Nat) (w : World) (hx : x < 4294967296) (hn : n ≤ 4) :
    Calls Try.prog 29 #[.int .i64 x, .int .i64 n] w fun e w' => e = .returned (.string (bs (Fp.num x n))) ∧ Below w.heap.size w w' := by
  go_enter Try.func29, Try.ntmps29
  go_wp2
  go_loopw [0, 5, 6] (fun v s i wr => ∃ (k y : Nat) (t : List UInt8), k ≤ n ∧ i = .int .i64 k ∧ v = .int .i64 y ∧ s = .string (bs t) ∧ y < 4294967296 ∧ t.length = k ∧ Fp.num x n = t ++ Fp.num y (n - k) ∧ Below w.heap.size w wr)
    (fun _ _ i _ => n - (intOf i).toNat)
  case atStart => exact ⟨0, x, [], by omega, rfl, rfl, rfl, hx, rfl, rfl, Below.refl _ _⟩
  case round =>
    obtain ⟨k, y, t, hk, rfl, rfl, rfl, hy, htl, hnum, hbel⟩ := hrel
    have HN := hid hnum; clear hnum
    have htl2 : t.length ≤ 4 := by omega
    have HT := hid htl; clear htl
    by_cases hlt : k < n
    · go_wp2_with (with_reducible refine wpList_bytes_str _ rfl _ 36 9 5 rfl Try.underlying36 Try.underlying5 Try.underlying9 _ _ _ _ rfl [UInt8.ofNat (y % 256)] rfl ?hc ?_)
      case hc =>
        intro j hj
        obtain rfl : j = 0 := by omega
        rw [World.cell?_alloc_at _ _ _ _ rfl]
        simp
      go_roundw
      case rel => exact ⟨k + 1, y / 256, t ++ [UInt8.ofNat (y % 256)], by omega, by go_num, by go_num, rfl, by omega, by simp [HT.out], by
        rw [HN.out, show n - k = (n - (k + 1)) + 1 by omega, num_step]; simp, hbel.alloc hbel.size _⟩
      case measure => simp [intOf]; omega
    · obtain rfl : k = n := by omega
      go_wp2
      go_ret
      exact ⟨ret_str (by rw [HN.out]; simp [Fp.num]), hbel⟩

/-! ### the number of some bytes -/
theorem rd_drop (l : List UInt8) (k : Nat) (h : k < l.length) : Fp.rd (l.drop k) = l[k].toNat + 256 * Fp.rd (l.drop (k + 1)) := by
  rw [List.drop_eq_getElem_cons h]; rfl
theorem rd_bd (l : List UInt8) (k : Nat) (h : l.length ≤ 4) : Fp.rd (l.drop k) < 256 ^ (4 - k) := by
  have h1 := Fp.rd_lt (l.drop k)
  have h2 : 256 ^ (l.drop k).length ≤ 256 ^ (4 - k) := Nat.pow_le_pow_right (by omega) (by simp; omega)
  omega
theorem rd_bd' (l : List UInt8) (k : Nat) (h : l.length ≤ 4) : Fp.rd (l.drop k) ≤ 4294967295 := by
  have h1 := rd_bd l k h
  have h2 : 256 ^ (4 - k) ≤ 256 ^ 4 := Nat.pow_le_pow_right (by omega) (by omega)
  omega
theorem rd_bd1 (l : List UInt8) (k : Nat) (hk : 1 ≤ k) (h : l.length ≤ 4) : Fp.rd (l.drop k) < 16777216 := by
  have h1 := rd_bd l k h
  have h2 : 256 ^ (4 - k) ≤ 256 ^ 3 := Nat.pow_le_pow_right (by omega) (by omega)
  omega
theorem rd_end (l : List UInt8) : Fp.rd (l.drop l.length) = 0 := by simp [Fp.rd]
set_option maxHeartbeats 400000 in
theorem rread_any (l : List UInt8) (w : World) (hl : l.length ≤ 4) :
    Calls Try.prog 25 #[.string (bs l)] w fun e w' => e = .returned (.int .i64 (Fp.rd l)) ∧ w = w' := by
  go_enter Try.func25, Try.ntmps25
  go_wp2
  go_loop [3, 4] (fun n i => ∃ (z : Int) (k y : Nat), k ≤ l.length ∧ z + 1 ≤ k ∧ k ≤ z + 1 ∧ i = .int .i64 z ∧ n = .int .i64 y ∧ y = Fp.rd (l.drop k)) (fun _ i => (intOf i + 1).toNat)
  case atStart => exact ⟨_, l.length, 0, by omega, by omega, by omega, rfl, rfl, (rd_end l).symm⟩
  case round =>
    obtain ⟨z, k, y, hk, hz1, hz2, rfl, rfl, hyy⟩ := hrel
    by_cases h0 : 0 ≤ z
    · obtain ⟨q, rfl⟩ := Int.eq_ofNat_of_zero_le h0
      have hyb : y < 16777216 := by rw [hyy]; exact rd_bd1 l k (by omega) hl
      have HY := hid hyy; clear hyy
      have hq : q < l.length := by omega
      have hb : l[q].toNat < 256 := l[q].toNat_lt
      go_wp2
      go_round
      case rel => exact ⟨_, q, 256 * y + l[q].toNat, by omega, by omega, by omega, rfl, by go_num, by rw [rd_drop l q hq, HY.out, show k = q + 1 by omega]; omega⟩
      case measure => simp [intOf]
    · obtain rfl : k = 0 := by omega
      have HY := hid hyy; clear hyy
      go_wp2
      go_ret
      exact ⟨ret_int (by rw [HY.out]; rfl), rfl⟩
theorem or_byte (y : Nat) (b : UInt8) (h : y < 16777216) : bits .or .u32 ((y : Int) * 256) ((b.toNat : Int) % 4294967296) = ((256 * y + b.toNat : Nat) : Int) := by
  have hb := b.toNat_lt
  rw [show ((y : Int) * 256) = ((256 * y : Nat) : Int) by omega, show ((b.toNat : Int) % 4294967296) = ((b.toNat : Nat) : Int) by omega]
  rw [u32_or_nat (256 * y) b.toNat (by omega) (by omega), nat_join 8 (256 * y) b.toNat (by omega) (by omega)]
set_option maxHeartbeats 400000 in
theorem read_any (l : List UInt8) (w : World) (hl : l.length ≤ 4) :
    Calls Try.prog 26 #[.string (bs l)] w fun e w' => e = .returned (.int .u32 (Fp.rd l)) ∧ w = w' := by
  go_enter Try.func26, Try.ntmps26
  go_wp2
  go_loop [3, 4] (fun n i => ∃ (z : Int) (k y : Nat), k ≤ l.length ∧ z + 1 ≤ k ∧ k ≤ z + 1 ∧ i = .int .i64 z ∧ n = .int .u32 y ∧ y = Fp.rd (l.drop k)) (fun _ i => (intOf i + 1).toNat)
  case atStart => exact ⟨_, l.length, 0, by omega, by omega, by omega, rfl, rfl, (rd_end l).symm⟩
  case round =>
    obtain ⟨z, k, y, hk, hz1, hz2, rfl, rfl, hyy⟩ := hrel
    by_cases h0 : 0 ≤ z
    · obtain ⟨q, rfl⟩ := Int.eq_ofNat_of_zero_le h0
      have hyb : y < 16777216 := by rw [hyy]; exact rd_bd1 l k (by omega) hl
      have HY := hid hyy; clear hyy
      have hq : q < l.length := by omega
      go_wp2
      go_round
      case rel => exact ⟨_, q, 256 * y + l[q].toNat, by omega, by omega, by omega, rfl, by rw [or_byte y _ hyb], by rw [rd_drop l q hq, HY.out, show k = q + 1 by omega]; omega⟩
      case measure => simp [intOf]
    · obtain rfl : k = 0 := by omega
      have HY := hid hyy; clear hyy
      go_wp2
      go_ret
      exact ⟨ret_int (by rw [HY.out]; rfl), rfl⟩
end Go.Proofs.Ytmmljnkhiboaeaa
