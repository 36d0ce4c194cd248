/-
  The walks over digits and the reference's Dec.
-/
import Derived.Test.YtefoajlmcdopiaaDoorWj
import Derived.Test.YtefoajlmcdopiaaDoorSh
namespace Go.Proofs.YtefoajlmcdopiaaDoor
open Go.RowKit

namespace Tw
/-- Noughts ahead, so many places at least. -/
def pad (n : Nat) (l : List UInt8) : List UInt8 := List.replicate (n - l.length) 48 ++ l
def dig (x n : Nat) : List UInt8 := pad n (Lib.decDigits x)
end Tw
theorem repeat48 : ∀ c, Lib.repeatL [48] c = List.replicate c 48
  | 0 => rfl
  | c + 1 => by rw [Lib.repeatL, repeat48 c]; rfl
theorem repeat_any (c : Nat) (w : World) (hc : c ≤ 100) : Calls Tryd.prog 50 #[.string (bs [48]), .int .i64 c] w fun e w' => e = .returned (.string (bs (List.replicate c 48))) ∧ Below w.heap.size w w' := by
  have h := Tryd.strings_Repeat (bs [48]) c w (by omega) (by simp [bs_size]; omega)
  rw [bs_data, repeat48] at h
  exact h
theorem dec_len_le : ∀ (k x : Nat), x < 10 ^ (k + 1) → (Lib.decDigits x).length ≤ k + 1
  | 0, x, h => by rw [Lib.decDigits_one (by simpa using h)]; simp
  | k + 1, x, h => by
    rw [Lib.decDigits]
    split
    · simp
    · have := dec_len_le k (x / 10) (by rw [Nat.pow_succ] at h; omega)
      simp; omega
theorem dec_len (x : Nat) (hx : x < 10000000000) : (Lib.decDigits x).length ≤ 10 := dec_len_le 9 x (by simpa using hx)
/-- What Itoa answers there. -/
def ItoaAt (x : Nat) (w : World) : Prop := Calls Tryd.prog 35 #[.int .i64 x] w fun e w' => e = .returned (.string (bs (Lib.decDigits x))) ∧ Below w.heap.size w w'
theorem itoaAt_small (x : Nat) (w : World) (hx : x < 100) : ItoaAt x w := by
  unfold ItoaAt
  refine (Tryd.strconv_Itoa_small x hx w).mono ?_
  rintro e w' ⟨rfl, rfl⟩
  exact ⟨rfl, Below.refl _ _⟩
theorem max_sub (n k : Nat) : max (0 : Int) ((n : Int) - (k : Int)) = ((n - k : Nat) : Int) := by omega
set_option maxHeartbeats 2000000 in
theorem digits_any (x n : Nat) (w : World) (hI : ItoaAt x w) (hx : x < 10000000000) (hn : n ≤ 4) : Calls Tryd.prog 37 #[.int .i64 x, .int .i64 n] w fun e w' => e = .returned (.string (bs (Tw.dig x n))) ∧ Below w.heap.size w w' := by
  have I := hid hI
  clear hI
  have hl := dec_len x hx
  obtain ⟨l, hll⟩ : ∃ l, Lib.decDigits x = l := ⟨_, rfl⟩
  have E := hid (show Tw.dig x n = List.replicate (n - l.length) 48 ++ l by unfold Tw.dig Tw.pad; rw [hll])
  unfold ItoaAt at I
  rw [hll] at I hl
  clear hll
  have RP := hid (fun w => repeat_any (n - l.length) w (by omega))
  have MX := max_sub n l.length
  go_enter Tryd.func37, Tryd.ntmps37
  go_wp2_with fail
  refine I.out.mono ?_
  rintro e1 w1 ⟨rfl, hb1⟩
  have HB1 := hid hb1
  clear hb1
  go_wp2_with fail
  refine (RP.out _).mono ?_
  rintro e1 w2 ⟨rfl, hb2⟩
  have HB2 := hid hb2
  clear hb2
  have hr : (List.replicate (n - l.length) (48 : UInt8)).length ≤ 4 := by simp; omega
  obtain ⟨z, hz⟩ : ∃ z, List.replicate (n - l.length) (48 : UInt8) = z := ⟨_, rfl⟩
  rw [hz] at E hr ⊢
  clear hz MX RP
  have e6 : (9223372036854775807 < z.length + l.length) = False := eq_false (by omega)
  go_wp2
  go_ret
  exact ⟨by rw [E.out]; rfl, HB1.out.trans (HB2.out.mono HB1.out.size)⟩

namespace Tw
def dec (n least : Nat) : List UInt8 :=
  if _h : n = 0 ∧ least = 0 then [] else dec (n / 10) (least - 1) ++ [UInt8.ofNat (48 + n % 10)]
  termination_by n + least
  decreasing_by omega
theorem dec_stop : dec 0 0 = [] := by rw [dec, dif_pos ⟨rfl, rfl⟩]
theorem dec_go {n least : Nat} (h : ¬ (n = 0 ∧ least = 0)) : dec n least = dec (n / 10) (least - 1) ++ [UInt8.ofNat (48 + n % 10)] := by rw [dec, dif_neg h]
theorem dec_0 : ∀ k, dec 0 k = List.replicate k 48
  | 0 => dec_stop
  | k + 1 => by
    rw [dec_go (by omega), Nat.zero_div, Nat.add_sub_cancel, dec_0 k, List.replicate_succ']
    rfl
theorem dec_01 {n : Nat} (h : 0 < n) : dec n 0 = dec n 1 := by rw [dec_go (by omega), dec_go (n := n) (least := 1) (by omega)]
theorem pad_last (k : Nat) (l : List UInt8) (c : UInt8) : pad k (l ++ [c]) = pad (k - 1) l ++ [c] := by
  unfold pad
  rw [List.length_append, List.length_singleton, ← List.append_assoc, show k - (l.length + 1) = k - 1 - l.length by omega]
theorem dec_eq : ∀ (n least : Nat), 1 ≤ least → dec n least = dig n least := by
  intro n
  induction n using Nat.strongRecOn with
  | ind n ih =>
    intro least hl
    unfold dig
    by_cases h : n < 10
    · rw [dec_go (by omega), Nat.div_eq_of_lt h, Nat.mod_eq_of_lt h, dec_0, Lib.decDigits_one h]
      rfl
    · rw [dec_go (by omega), Lib.decDigits, dif_neg h, pad_last]
      congr 1
      by_cases h1 : least = 1
      · subst h1
        rw [dec_01 (by omega), ih (n / 10) (by omega) 1 (by omega)]
        unfold dig pad
        have : 1 ≤ (Lib.decDigits (n / 10)).length := by rw [Lib.decDigits_length]; exact Lib.nDigits_pos _
        rw [Nat.sub_eq_zero_of_le this]
        simp
      · exact ih (n / 10) (by omega) (least - 1) (by omega)
end Tw
/-- Behind j rounds. -/
structure DecR (N L j n : Nat) (s : List UInt8) : Prop where
  len : s.length = j
  q : n = N / 10 ^ j
  eq : Tw.dec N L = Tw.dec n (L - j) ++ s
theorem decR_start (N L : Nat) : DecR N L 0 N [] := ⟨rfl, by simp, by simp⟩
theorem DecR.one {N L j n : Nat} {s : List UInt8} (h : DecR N L j n s) (hg : 0 < n ∨ j < L) : DecR N L (j + 1) (n / 10) (UInt8.ofNat (48 + n % 10) :: s) := by
  obtain ⟨a, b, c⟩ := h
  refine ⟨by simp [a], by rw [b, Nat.div_div_eq_div_mul, Nat.pow_succ], ?_⟩
  rw [c, Tw.dec_go (by omega), List.append_assoc, show L - j - 1 = L - (j + 1) by omega]
  rfl
theorem DecR.end {N L j n : Nat} {s : List UInt8} (h : DecR N L j n s) (h1 : n = 0) (h2 : L ≤ j) (hl : 1 ≤ L) : Tw.dig N L = s := by
  obtain ⟨a, b, c⟩ := h
  rw [← Tw.dec_eq N L hl, c, h1, Nat.sub_eq_zero_of_le h2, Tw.dec_stop, List.nil_append]
theorem DecR.small {N L j n : Nat} {s : List UInt8} (h : DecR N L j n s) (hN : N < 10000000000) (hL : L ≤ 4) (hg : 0 < n ∨ j < L) : j ≤ 9 := by
  rcases hg with hg | hg
  · rcases Nat.lt_or_ge 9 j with h9 | h9
    · have : n = 0 := by
        rw [h.q]
        exact Nat.div_eq_of_lt (Nat.lt_of_lt_of_le hN (Nat.le_trans (show 10000000000 ≤ 10 ^ 10 by decide) (Nat.pow_le_pow_right (by omega) h9)))
      omega
    · exact h9
  · omega
theorem one_str (w : World) (r : Nat) : (convert 77 9 (.slice (some ⟨w.heap.size, 0, none⟩) 1 1)).run Tryd.prog (w.alloc (.cells #[.int .u8 (48 + (r : Int))] 5)) =
    .ok (.string (bs [UInt8.ofNat (48 + r)])) (w.alloc (.cells #[.int .u8 (48 + (r : Int))] 5)) := by
  have hrun := run_convert_bytes_arg (P := Tryd.prog) (w.alloc (.cells #[.int .u8 (48 + (r : Int))] 5)) 77 5 Tryd.underlying77 Tryd.underlying5 w.heap.size 0 1 1 [48 + (r : Int)] rfl (fun i hi => by
    obtain rfl : i = 0 := by omega
    exact World.cell?_alloc_at _ _ _ _ rfl) 9 Tryd.underlying9
  rw [hrun]
  congr 2
def szOf : Value → Nat
  | .string s => s.size
  | _ => 0
set_option maxHeartbeats 2000000 in
set_option maxRecDepth 100000 in
theorem rdec_any (N L : Nat) (w : World) (hN : N < 10000000000) (hL : L ≤ 4) (hL1 : 1 ≤ L) : Calls Tryd.prog 36 #[.int .i64 N, .int .i64 L] w fun e w' => e = .returned (.string (bs (Tw.dig N L))) ∧ Below w.heap.size w w' := by
  go_enter Tryd.func36, Tryd.ntmps36
  go_wp2
  go_loopw [0, 5] (fun n s wr => ∃ (j k : Nat) (x : List UInt8), j ≤ 10 ∧ n = .int .i64 k ∧ k < 10000000000 ∧ s = .string (bs x) ∧ DecR N L j k x ∧ Below w.heap.size w wr) (fun n s wr => (20 - (szOf s)))
  case atStart => exact ⟨0, N, [], by omega, rfl, hN, rfl, decR_start N L, Below.refl _ _⟩
  case round =>
    obtain ⟨j, k, x, hj, rfl, hk, rfl, hx, hb⟩ := hrel
    obtain rfl := hx.len
    have HX := hid hx
    have HB := hid hb
    clear hx hb
    by_cases hg : 0 < k ∨ x.length < L
    · have h9 := HX.out.small hN hL hg
      have A := hid (HX.out.one hg)
      have e6 : (9223372036854775807 < 1 + x.length) = False := eq_false (by omega)
      obtain ⟨r, hr⟩ : ∃ r, k % 10 = r := ⟨_, rfl⟩
      obtain ⟨q, hq⟩ : ∃ q, k / 10 = q := ⟨_, rfl⟩
      have hrI : (k : Int) % 10 = (r : Int) := by omega
      have hqI : (k : Int) / 10 = (q : Int) := by omega
      rw [hr, hq] at A
      have hr10 : r < 10 := by omega
      have hqk : q < 10000000000 := by omega
      clear hr hq
      have cv := one_str wr r
      have AB := hid (alloc_below wr (.cells #[.int .u8 (48 + (r : Int))] 5))
      rcases hg with hg | hg
      · go_wp2
        go_roundw
        case rel => exact ⟨x.length + 1, q, UInt8.ofNat (48 + r) :: x, by omega, by go_num, hqk, by first | rfl | simp, A.out, HB.out.trans (AB.out.mono HB.out.size)⟩
        case measure => simp [szOf, bs_size]; omega
      · by_cases hk0 : 0 < k
        · go_wp2
          go_roundw
          case rel => exact ⟨x.length + 1, q, UInt8.ofNat (48 + r) :: x, by omega, by go_num, hqk, by first | rfl | simp, A.out, HB.out.trans (AB.out.mono HB.out.size)⟩
          case measure => simp [szOf, bs_size]; omega
        · have h3 : decide ((0 : Int) < (k : Int)) = false := by simp; omega
          go_wp2
          go_roundw
          case rel => exact ⟨x.length + 1, q, UInt8.ofNat (48 + r) :: x, by omega, by go_num, hqk, by first | rfl | simp, A.out, HB.out.trans (AB.out.mono HB.out.size)⟩
          case measure => simp [szOf, bs_size]; omega
    · have E := hid (HX.out.end (by omega) (by omega) hL1)
      have h1 : ¬ (x.length : Int) < (L : Int) := by omega
      have h2 : decide ((x.length : Int) < (L : Int)) = false := by simp; omega
      obtain rfl : k = 0 := by omega
      clear hg
      go_wp2
      go_ret
      exact ⟨by rw [E.out]; rfl, HB.out⟩
end Go.Proofs.YtefoajlmcdopiaaDoor
