/-
  The walks over the two sums.
-/
import Derived.Test.YtmmljnkhiboaeaaWa
namespace Go.Proofs.Ytmmljnkhiboaeaa
open Go.RowKit

theorem xor_step (x : Nat) (b : UInt8) (hx : x < 4294967296) : bits .xor .u32 (x : Int) ((b.toNat : Int) % 4294967296) = ((x ^^^ b.toNat : Nat) : Int) := by
  have hb := b.toNat_lt
  rw [show ((b.toNat : Int) % 4294967296) = ((b.toNat : Nat) : Int) by omega]
  exact u32_xor_nat x b.toNat hx (by omega)
theorem xor_lit (x c : Nat) (hx : x < 4294967296) (hc : c < 4294967296) : bits .xor .u32 (x : Int) (c : Int) = ((x ^^^ c : Nat) : Int) := u32_xor_nat x c hx hc
theorem crc_snoc (l : List UInt8) (k : Nat) (h : k < l.length) (x : Nat) : Fp.crc x (l.take (k + 1)) = Fp.halves (Fp.crc x (l.take k) ^^^ l[k].toNat) 8 := by
  rw [take_snoc l k h, Fp.crc_append]; rfl

theorem half_yes (y : Nat) (hy : y < 4294967296) (h : ((y : Int) % 2 == 1) = true) : bits .xor .u32 ((y : Int) / 2) 3988292384 = ((Fp.half y : Nat) : Int) := by
  have h1 : y % 2 = 1 := by simp at h; omega
  rw [show ((y : Int) / 2) = ((y / 2 : Nat) : Int) by omega, Fp.half, if_pos h1]
  exact u32_xor_nat (y / 2) 3988292384 (by omega) (by omega)
theorem half_no (y : Nat) (h : ((y : Int) % 2 == 1) = false) : (y : Int) / 2 = ((Fp.half y : Nat) : Int) := by
  have h1 : ¬ y % 2 = 1 := by simp at h; omega
  rw [Fp.half, if_neg h1]; omega

set_option maxHeartbeats 400000 in
theorem rsum_any (l : List UInt8) (w : World) (hm : l.length ≤ 9223372036854775807) :
    Calls Try.prog 13 #[.string (bs l)] w fun e w' => e = .returned (.int .u32 (Fp.sum l)) ∧ w = w' := by
  go_enter Try.func13, Try.ntmps13
  go_wp2
  go_loop [3, 4] (fun n i => ∃ (k x : Nat), k ≤ l.length ∧ i = .int .i64 k ∧ n = .int .u32 x ∧ x < 4294967296 ∧ x = Fp.crc 4294967295 (l.take k)) (fun _ i => l.length - (intOf i).toNat)
  case atStart => exact ⟨0, 4294967295, by omega, rfl, rfl, by omega, rfl⟩
  case round =>
    obtain ⟨k, x, hk, rfl, rfl, hx, hxx⟩ := hrel
    have HX := hid hxx; clear hxx
    by_cases hlt : k < l.length
    · have hxs := Fp.xor_byte_lt hx l[k]
      have HS := hid (xor_step x l[k] hx)
      go_wp2
      go_loop [3, 5] (fun n i => ∃ (j y : Nat), j ≤ 8 ∧ i = .int .i64 j ∧ n = .int .u32 y ∧ y < 4294967296 ∧ y = Fp.halves (x ^^^ l[k].toNat) j) (fun _ i => 8 - (intOf i).toNat)
      case atStart => exact ⟨0, x ^^^ l[k].toNat, by omega, rfl, by rw [HS.out], hxs, rfl⟩
      case round =>
        obtain ⟨j, y, hj, rfl, rfl, hy, hyy⟩ := hrel
        have HY := hid hyy; clear hyy
        by_cases hj8 : j < 8
        · go_wp2
          · have ho : ((y : Int) % 2 == 1) = true := by assumption
            go_round
            case rel => exact ⟨j + 1, Fp.half y, by omega, by go_num, by rw [half_yes y hy ho], Fp.half_lt hy, by rw [HY.out]; rfl⟩
            case measure => simp [intOf]; omega
          · have ho : ((y : Int) % 2 == 1) = false := by assumption
            go_round
            case rel => exact ⟨j + 1, Fp.half y, by omega, by go_num, by rw [half_no y ho], Fp.half_lt hy, by rw [HY.out]; rfl⟩
            case measure => simp [intOf]; omega
        · obtain rfl : j = 8 := by omega
          go_wp2
          go_round
          case rel => exact ⟨k + 1, y, by omega, by go_num, rfl, hy, by rw [HY.out, HX.out, crc_snoc l k hlt]⟩
          case measure => simp [intOf]; omega
    · go_wp2
      go_ret
      exact ⟨ret_int (by
        have hx2 : Fp.sum l = x ^^^ 4294967295 := by rw [HX.out, List.take_of_length_le (by omega)]; rfl
        rw [hx2]; exact u32_xor_nat x 4294967295 hx (by omega)), rfl⟩

theorem and_one (y : Nat) (hy : y < 4294967296) (c : Bool) (h : (bits .and .u32 (y : Int) 1 == 1) = c) : ((y : Int) % 2 == 1) = c := by
  rw [show bits .and .u32 (y : Int) 1 = ((y &&& 1 : Nat) : Int) from u32_and_nat y 1 hy (by omega), nat_mask1] at h
  rw [← h]; rfl

set_option maxHeartbeats 1000000 in
theorem sum_some (b off cap : Nat) (ss : List (List UInt8)) (w : World) (hm : ss.length ≤ 9223372036854775807)
    (hc : Strs w (some ⟨b, off, none⟩) ss) (hs : ∀ s ∈ ss, s.length ≤ 9223372036854775807) :
    Calls Try.prog 12 #[.slice (some ⟨b, off, none⟩) ss.length cap] w fun e w' => e = .returned (.int .u32 (Fp.sum (allOf ss))) ∧ w = w' := by
  go_enter Try.func12, Try.ntmps12
  go_wp2
  go_loop [3, 10] (fun n i => ∃ (k x : Nat), k ≤ ss.length ∧ i = .int .i64 k ∧ n = .int .u32 x ∧ x < 4294967296 ∧ x = Fp.crc 4294967295 (allOf (ss.take k))) (fun _ i => ss.length - (intOf i).toNat)
  case atStart => exact ⟨0, 4294967295, by omega, rfl, rfl, by omega, rfl⟩
  case round =>
    obtain ⟨k, x, hk, rfl, rfl, hx, hxx⟩ := hrel
    have HX := hid hxx; clear hxx
    have hsk := getD_all hs (by simp) k
    obtain ⟨l, hl⟩ : ∃ s, s = ss.getD k [] := ⟨_, rfl⟩
    have hcx : k < ss.length → w.cell? ⟨b, off + k, none⟩ = some (.string (bs l)) := fun h => by rw [hl]; exact hc.at k h
    rw [← hl] at hsk
    have HS := hid hl; clear hl hc hs
    by_cases hlt : k < ss.length
    · go_wp2
      go_loop [3, 16] (fun n i => ∃ (q z : Nat), q ≤ l.length ∧ i = .int .i64 q ∧ n = .int .u32 z ∧ z < 4294967296 ∧ z = Fp.crc x (l.take q)) (fun _ i => l.length - (intOf i).toNat)
      case atStart => exact ⟨0, x, by omega, rfl, rfl, hx, rfl⟩
      case round =>
        obtain ⟨q, z, hq, rfl, rfl, hz, hzz⟩ := hrel
        have HZ := hid hzz; clear hzz
        by_cases hql : q < l.length
        · have hxs := Fp.xor_byte_lt hz l[q]
          have HB := hid (xor_step z l[q] hz)
          go_wp2
          go_loop [3, 25] (fun n i => ∃ (j y : Nat), j ≤ 8 ∧ i = .int .i64 j ∧ n = .int .u32 y ∧ y < 4294967296 ∧ y = Fp.halves (z ^^^ l[q].toNat) j) (fun _ i => 8 - (intOf i).toNat)
          case atStart => exact ⟨0, z ^^^ l[q].toNat, by omega, rfl, by rw [HB.out], hxs, rfl⟩
          case round =>
            obtain ⟨j, y, hj, rfl, rfl, hy, hyy⟩ := hrel
            have HY := hid hyy; clear hyy
            by_cases hj8 : j < 8
            · go_wp2
              · have ho := and_one y hy true (by assumption)
                go_round
                case rel => exact ⟨j + 1, Fp.half y, by omega, by go_num, by rw [half_yes y hy ho], Fp.half_lt hy, by rw [HY.out]; rfl⟩
                case measure => simp [intOf]; omega
              · have ho := and_one y hy false (by assumption)
                go_round
                case rel => exact ⟨j + 1, Fp.half y, by omega, by go_num, by rw [half_no y ho], Fp.half_lt hy, by rw [HY.out]; rfl⟩
                case measure => simp [intOf]; omega
            · obtain rfl : j = 8 := by omega
              go_wp2
              go_round
              case rel => exact ⟨q + 1, y, by omega, by go_num, rfl, hy, by rw [HY.out, HZ.out, crc_snoc l q hql]⟩
              case measure => simp [intOf]; omega
        · go_wp2
          go_round
          case rel => exact ⟨k + 1, z, by omega, by go_num, rfl, hz, by
            have e : l.take q = l := List.take_of_length_le (by omega)
            rw [HZ.out, e, HX.out, allOf_snoc ss k hlt, Fp.crc_append, HS.out]⟩
          case measure => simp [intOf]; omega
    · go_wp2
      go_ret
      exact ⟨ret_int (by
        have hx2 : Fp.sum (allOf ss) = x ^^^ 4294967295 := by rw [HX.out, List.take_of_length_le (by omega)]; rfl
        rw [hx2]
        first | exact u32_xor_nat x 4294967295 hx (by omega) | (rw [Nat.xor_comm]; exact u32_xor_nat 4294967295 x (by omega) hx)), rfl⟩
set_option maxHeartbeats 400000 in
theorem sum_none (a : Option Addr) (cap : Nat) (w : World) :
    Calls Try.prog 12 #[.slice a 0 cap] w fun e w' => e = .returned (.int .u32 (Fp.sum (allOf []))) ∧ w = w' := by
  go_enter Try.func12, Try.ntmps12
  go_wp2
  go_rounds 1
  go_ret
  exact ⟨ret_int (by rfl), rfl⟩
theorem sum_any (a : Option Addr) (len cap : Nat) (ss : List (List UInt8)) (w : World) (hl : ss.length = len) (hm : ss.length ≤ 9223372036854775807)
    (hc : Strs w a ss) (hs : ∀ s ∈ ss, s.length ≤ 9223372036854775807) :
    Calls Try.prog 12 #[.slice a len cap] w fun e w' => e = .returned (.int .u32 (Fp.sum (allOf ss))) ∧ w = w' := by
  subst hl
  match ss, hm, hc, hs with
  | [], _, _, _ => exact sum_none a cap w
  | s :: ss, hm, hc, hs =>
    obtain ⟨b, off, rfl, _⟩ := hc 0 (by simp)
    exact sum_some b off cap _ w hm hc hs
end Go.Proofs.Ytmmljnkhiboaeaa
