/-
  The walk over the reference's PrintSpan.
-/
import Derived.Test.YtefoajlmcdopiaaDoorPs
namespace Go.Proofs.YtefoajlmcdopiaaDoor
open Go.RowKit

theorem rd1 (q : Nat) (w : World) (hq : q < 10000000000) : Calls Tryd.prog 36 #[.int .i64 q, .int .i64 1] w fun e w' => e = .returned (.string (bs (Lib.decDigits q))) ∧ Below w.heap.size w w' := by
  have h := rdec_any q 1 w hq (by decide) (by decide)
  have e : Tw.dig q 1 = Lib.decDigits q := by
    unfold Tw.dig Tw.pad
    have := dd_pos q
    rw [show 1 - (Lib.decDigits q).length = 0 by omega]
    rfl
  rw [e] at h
  exact h
set_option maxHeartbeats 4000000 in
theorem rps_no (n : Int) (w : World) (h : 1000000000 < n ∨ (n ≤ 1000000000 ∧ n < -1000000000)) : Calls Tryd.prog 14 #[.int .i64 n] w fun e w' => e = .returned (.tuple #[.string (bs []), .int .i64 2]) ∧ w = w' := by
  rcases h with h | ⟨h0, h⟩
  · go_enter Tryd.func14, Tryd.ntmps14
    go_wp2
    go_ret2
    exact ⟨rfl, rfl⟩
  · have h1 : decide (1000000000 < n) = false := by simp; omega
    go_enter Tryd.func14, Tryd.ntmps14
    go_wp2
    go_ret2
    exact ⟨rfl, rfl⟩
set_option maxHeartbeats 4000000 in
theorem rps_zero (w : World) : Calls Tryd.prog 14 #[.int .i64 0] w fun e w' => e = .returned (.tuple #[.string (bs (Tw.spanP 0)), .int .i64 0]) ∧ w = w' := by
  go_enter Tryd.func14, Tryd.ntmps14
  go_wp2
  go_ret2
  exact ⟨rfl, rfl⟩
set_option maxHeartbeats 4000000 in
set_option maxRecDepth 100000 in
theorem rps_yes (n : Int) (k : Nat) (x0 : List UInt8) (w : World) (hn : (n = k ∧ x0 = [80]) ∨ (n = -(k : Int) ∧ x0 = [45, 80])) (hk0 : 0 < k) (hk : k ≤ 1000000000) :
    Calls Tryd.prog 14 #[.int .i64 n] w fun e w' => e = .returned (.tuple #[.string (bs (x0 ++ Tw.spanT k)), .int .i64 0]) ∧ Below w.heap.size w w' := by
  have hx0 : x0.length ≤ 2 := by rcases hn with ⟨-, rfl⟩ | ⟨-, rfl⟩ <;> simp
  have q1 : decide (1000000000 < n) = false := by rw [decide_eq_false_iff_not]; omega
  have q2 : decide (n < -1000000000) = false := by rw [decide_eq_false_iff_not]; omega
  obtain ⟨sg, hsg⟩ : ∃ b, decide (n < 0) = b := ⟨_, rfl⟩
  have HN := hid (show (sg = false ∧ n = k ∧ x0 = [80]) ∨ (sg = true ∧ n = -(k : Int) ∧ x0 = [45, 80]) by
    rcases hn with ⟨rfl, rfl⟩ | ⟨rfl, rfl⟩
    · left; refine ⟨?_, rfl, rfl⟩; rw [← hsg, decide_eq_false_iff_not]; omega
    · right; refine ⟨?_, rfl, rfl⟩; rw [← hsg, decide_eq_true_eq]; omega)
  clear hn
  go_enter Tryd.func14, Tryd.ntmps14
  go_upto_if 12 with fail
  go_cut [0, 4] from 13 to 14 (fun n s wx => n = .int .i64 k ∧ s = .string (bs x0) ∧ w = wx)
  case first =>
    clear hsg
    rcases HN.out with ⟨rfl, rfl, rfl⟩ | ⟨rfl, rfl, rfl⟩
    · go_wp2
      go_meet
      exact ⟨rfl, rfl, rfl⟩
    · go_wp2
      go_meet
      exact ⟨by go_num, rfl, rfl⟩
  case rest =>
  obtain ⟨rfl, rfl, rfl⟩ := hcut
  clear HN q1 q2 hsg
  have z0 : ((k : Int) == 0) = false := by simp; omega
  by_cases h7 : k % 604800 = 0
  · have E := hid (show Tw.spanT k = Lib.decDigits (k / 604800) ++ [87] by unfold Tw.spanT; rw [if_pos h7])
    obtain ⟨q, hq⟩ : ∃ q, k / 604800 = q := ⟨_, rfl⟩
    have hqI : (k : Int) / 604800 = (q : Int) := by omega
    rw [hq] at E
    have z1 : ((k : Int) % 604800 == 0) = true := by simp; omega
    have I := fun w => rd1 q w (by omega)
    have hl := dec_len q (by omega)
    generalize Lib.decDigits q = l at E I hl
    have I := hid I
    clear h7 hq
    go_wp2_with fail
    refine (I.out _).mono ?_
    rintro e1 w1 ⟨rfl, hb1⟩
    have HB1 := hid hb1
    clear hb1
    have hs : bs (x0 ++ l) ++ (⟨#[87]⟩ : ByteArray) = bs (x0 ++ (l ++ [87])) := by rw [bs_lit #[87]]; simp only [bs_append, List.append_assoc]
    go_wp2
    go_ret2
    exact ⟨by rw [E.out, ← hs]; rfl, HB1.out⟩
  · have z1 : ((k : Int) % 604800 == 0) = false := by simp; omega
    have E := hid (show Tw.spanT k = Tw.unit (k / 86400) 68 ++ (if k % 86400 = 0 then [] else Tw.clk (k % 86400)) by unfold Tw.spanT; rw [if_neg h7])
    obtain ⟨D, hD⟩ : ∃ D, k / 86400 = D := ⟨_, rfl⟩
    obtain ⟨r, hr⟩ : ∃ r, k % 86400 = r := ⟨_, rfl⟩
    obtain ⟨h, hh⟩ : ∃ x, r / 3600 = x := ⟨_, rfl⟩
    obtain ⟨t, ht⟩ : ∃ x, r % 3600 = x := ⟨_, rfl⟩
    obtain ⟨m, hm⟩ : ∃ x, t / 60 = x := ⟨_, rfl⟩
    obtain ⟨sc, hs⟩ : ∃ x, r % 60 = x := ⟨_, rfl⟩
    have i1 : (k : Int) / 86400 = (D : Int) := by omega
    have i2 : (k : Int) % 86400 = (r : Int) := by omega
    have i3 : (r : Int) / 3600 = (h : Int) := by omega
    have i4 : (r : Int) % 3600 = (t : Int) := by omega
    have i5 : (t : Int) / 60 = (m : Int) := by omega
    have i6 : (r : Int) % 60 = (sc : Int) := by omega
    have EF := hid (show x0 ++ Tw.spanT k = x0 ++ Tw.unit D 68 ++ (if r = 0 then [] else [84]) ++ Tw.unit h 72 ++ Tw.unit m 77 ++ Tw.unit sc 83 by
      rw [E.out, hD, hr]
      by_cases hr0 : r = 0
      · rw [if_pos hr0, if_pos hr0, show h = 0 by omega, show m = 0 by omega, show sc = 0 by omega]
        unfold Tw.unit; simp
      · rw [if_neg hr0, if_neg hr0]
        unfold Tw.clk
        rw [hh, ht, hm, hs]
        simp)
    have b1 : D ≤ 20000 ∧ r < 86400 ∧ h ≤ 23 ∧ t < 3600 ∧ m ≤ 59 ∧ sc ≤ 59 := by omega
    clear E h7 hD hr hh ht hm hs
    have HB0 := hid (Below.refl w.heap.size w)

    obtain ⟨p, hp⟩ : ∃ p, decide (0 < D) = p := ⟨_, rfl⟩
    have hp2 : decide ((0 : Int) < (D : Int)) = p := by rw [← hp, decide_eq_decide]; omega
    go_upto_if 28 with fail
    try rw [i1]
    try rw [i2]
    try rw [i3]
    try rw [i4]
    try rw [i5]
    try rw [i6]
    go_cut [4] from 29 to 34 (fun s wx => s = .string (bs (x0 ++ Tw.unit D 68)) ∧ Below w.heap.size w wx)
    case first =>
      cases p with
      | false =>
        have hq : D = 0 := by rw [decide_eq_false_iff_not] at hp; omega
        have E := hid (show x0 ++ Tw.unit D 68 = x0 by unfold Tw.unit; rw [if_pos hq, List.append_nil])
        clear hq hp hp2
        go_wp2
        go_meet
        exact ⟨by rw [E.out], HB0.out⟩
      | true =>
        have hq : ¬ D = 0 := by rw [decide_eq_true_eq] at hp; omega
        have I := fun w => rd1 D w (by omega)
        have hl := dec_len D (by omega)
        have E := hid (show x0 ++ Tw.unit D 68 = x0 ++ Lib.decDigits D ++ [68] by unfold Tw.unit; rw [if_neg hq, List.append_assoc])
        generalize Lib.decDigits D = l at I hl E
        have I := hid I
        have hs : bs (x0 ++ l ++ [68]) = bs (x0 ++ l) ++ (⟨#[68]⟩ : ByteArray) := by rw [bs_lit #[68]]; simp only [bs_append]
        clear hq hp hp2
        go_wp2_with fail
        refine (I.out _).mono ?_
        rintro e1 w1 ⟨rfl, hb⟩
        have HB := hid (HB0.out.trans (hb.mono HB0.out.size))
        clear hb
        go_wp2
        go_meet
        exact ⟨by rw [E.out, hs], HB.out⟩
    case rest =>
    obtain ⟨rfl, hB⟩ := hcut
    have HB1 := hid hB
    clear hB HB0 hp hp2
    have U := unit_len D 68 (by omega)
    obtain ⟨x1, hx1⟩ : ∃ x, x0 ++ Tw.unit D 68 = x := ⟨_, rfl⟩
    have Lx1 : x1.length ≤ x0.length + 11 := by rw [← hx1, List.length_append]; omega
    rw [hx1]
    have Hx1 := hid hx1
    clear hx1 U
    obtain ⟨p, hp⟩ : ∃ p, decide (0 < r) = p := ⟨_, rfl⟩
    have hp2 : decide ((0 : Int) < (r : Int)) = p := by rw [← hp, decide_eq_decide]; omega
    go_upto_if 38 with fail
    try rw [i2]
    go_cut [4] from 39 to 40 (fun s wx => s = .string (bs (x1 ++ (if r = 0 then [] else [84]))) ∧ Below w.heap.size w wx)
    case first =>
      cases p with
      | false =>
        have hq : r = 0 := by rw [decide_eq_false_iff_not] at hp; omega
        have E := hid (show x1 ++ (if r = 0 then [] else [84]) = x1 by rw [if_pos hq, List.append_nil])
        clear hq hp hp2
        go_wp2
        go_meet
        exact ⟨by rw [E.out], HB1.out⟩
      | true =>
        have hq : ¬ r = 0 := by rw [decide_eq_true_eq] at hp; omega
        have E := hid (show x1 ++ (if r = 0 then [] else [84]) = x1 ++ [84] by rw [if_neg hq])
        have hs : bs (x1 ++ [84]) = bs x1 ++ (⟨#[84]⟩ : ByteArray) := by rw [bs_lit #[84]]; simp only [bs_append]
        clear hq hp hp2
        go_wp2
        go_meet
        exact ⟨by rw [E.out, hs], HB1.out⟩
    case rest =>
    obtain ⟨rfl, hB⟩ := hcut
    have HB2 := hid hB
    clear hB HB1 hp hp2
    obtain ⟨x2, hx2⟩ : ∃ x, x1 ++ (if r = 0 then [] else [84]) = x := ⟨_, rfl⟩
    have Lx2 : x2.length ≤ x1.length + 1 := by
      rw [← hx2, List.length_append]
      by_cases hq : r = 0
      · rw [if_pos hq]; simp
      · rw [if_neg hq]; simp
    rw [hx2]
    have Hx2 := hid hx2
    clear hx2

    obtain ⟨p, hp⟩ : ∃ p, decide (0 < h) = p := ⟨_, rfl⟩
    have hp2 : decide ((0 : Int) < (h : Int)) = p := by rw [← hp, decide_eq_decide]; omega
    go_upto_if 43 with fail
    try rw [i1]
    try rw [i2]
    try rw [i3]
    try rw [i4]
    try rw [i5]
    try rw [i6]
    go_cut [4] from 44 to 49 (fun s wx => s = .string (bs (x2 ++ Tw.unit h 72)) ∧ Below w.heap.size w wx)
    case first =>
      cases p with
      | false =>
        have hq : h = 0 := by rw [decide_eq_false_iff_not] at hp; omega
        have E := hid (show x2 ++ Tw.unit h 72 = x2 by unfold Tw.unit; rw [if_pos hq, List.append_nil])
        clear hq hp hp2
        go_wp2
        go_meet
        exact ⟨by rw [E.out], HB2.out⟩
      | true =>
        have hq : ¬ h = 0 := by rw [decide_eq_true_eq] at hp; omega
        have I := fun w => rd1 h w (by omega)
        have hl := dec_len h (by omega)
        have E := hid (show x2 ++ Tw.unit h 72 = x2 ++ Lib.decDigits h ++ [72] by unfold Tw.unit; rw [if_neg hq, List.append_assoc])
        generalize Lib.decDigits h = l at I hl E
        have I := hid I
        have hs : bs (x2 ++ l ++ [72]) = bs (x2 ++ l) ++ (⟨#[72]⟩ : ByteArray) := by rw [bs_lit #[72]]; simp only [bs_append]
        clear hq hp hp2
        go_wp2_with fail
        refine (I.out _).mono ?_
        rintro e1 w1 ⟨rfl, hb⟩
        have HB := hid (HB2.out.trans (hb.mono HB2.out.size))
        clear hb
        go_wp2
        go_meet
        exact ⟨by rw [E.out, hs], HB.out⟩
    case rest =>
    obtain ⟨rfl, hB⟩ := hcut
    have HB3 := hid hB
    clear hB HB2 hp hp2
    have U := unit_len h 72 (by omega)
    obtain ⟨x3, hx3⟩ : ∃ x, x2 ++ Tw.unit h 72 = x := ⟨_, rfl⟩
    have Lx3 : x3.length ≤ x2.length + 11 := by rw [← hx3, List.length_append]; omega
    rw [hx3]
    have Hx3 := hid hx3
    clear hx3 U
    obtain ⟨p, hp⟩ : ∃ p, decide (0 < m) = p := ⟨_, rfl⟩
    have hp2 : decide ((0 : Int) < (m : Int)) = p := by rw [← hp, decide_eq_decide]; omega
    go_upto_if 53 with fail
    try rw [i1]
    try rw [i2]
    try rw [i3]
    try rw [i4]
    try rw [i5]
    try rw [i6]
    go_cut [4] from 54 to 60 (fun s wx => s = .string (bs (x3 ++ Tw.unit m 77)) ∧ Below w.heap.size w wx)
    case first =>
      cases p with
      | false =>
        have hq : m = 0 := by rw [decide_eq_false_iff_not] at hp; omega
        have E := hid (show x3 ++ Tw.unit m 77 = x3 by unfold Tw.unit; rw [if_pos hq, List.append_nil])
        clear hq hp hp2
        go_wp2
        go_meet
        exact ⟨by rw [E.out], HB3.out⟩
      | true =>
        have hq : ¬ m = 0 := by rw [decide_eq_true_eq] at hp; omega
        have I := fun w => rd1 m w (by omega)
        have hl := dec_len m (by omega)
        have E := hid (show x3 ++ Tw.unit m 77 = x3 ++ Lib.decDigits m ++ [77] by unfold Tw.unit; rw [if_neg hq, List.append_assoc])
        generalize Lib.decDigits m = l at I hl E
        have I := hid I
        have hs : bs (x3 ++ l ++ [77]) = bs (x3 ++ l) ++ (⟨#[77]⟩ : ByteArray) := by rw [bs_lit #[77]]; simp only [bs_append]
        clear hq hp hp2
        go_wp2_with fail
        refine (I.out _).mono ?_
        rintro e1 w1 ⟨rfl, hb⟩
        have HB := hid (HB3.out.trans (hb.mono HB3.out.size))
        clear hb
        go_wp2
        go_meet
        exact ⟨by rw [E.out, hs], HB.out⟩
    case rest =>
    obtain ⟨rfl, hB⟩ := hcut
    have HB4 := hid hB
    clear hB HB3 hp hp2
    have U := unit_len m 77 (by omega)
    obtain ⟨x4, hx4⟩ : ∃ x, x3 ++ Tw.unit m 77 = x := ⟨_, rfl⟩
    have Lx4 : x4.length ≤ x3.length + 11 := by rw [← hx4, List.length_append]; omega
    rw [hx4]
    have Hx4 := hid hx4
    clear hx4 U
    obtain ⟨p, hp⟩ : ∃ p, decide (0 < sc) = p := ⟨_, rfl⟩
    have hp2 : decide ((0 : Int) < (sc : Int)) = p := by rw [← hp, decide_eq_decide]; omega
    go_upto_if 63 with fail
    try rw [i1]
    try rw [i2]
    try rw [i3]
    try rw [i4]
    try rw [i5]
    try rw [i6]
    go_cut [4] from 64 to 69 (fun s wx => s = .string (bs (x4 ++ Tw.unit sc 83)) ∧ Below w.heap.size w wx)
    case first =>
      cases p with
      | false =>
        have hq : sc = 0 := by rw [decide_eq_false_iff_not] at hp; omega
        have E := hid (show x4 ++ Tw.unit sc 83 = x4 by unfold Tw.unit; rw [if_pos hq, List.append_nil])
        clear hq hp hp2
        go_wp2
        go_meet
        exact ⟨by rw [E.out], HB4.out⟩
      | true =>
        have hq : ¬ sc = 0 := by rw [decide_eq_true_eq] at hp; omega
        have I := fun w => rd1 sc w (by omega)
        have hl := dec_len sc (by omega)
        have E := hid (show x4 ++ Tw.unit sc 83 = x4 ++ Lib.decDigits sc ++ [83] by unfold Tw.unit; rw [if_neg hq, List.append_assoc])
        generalize Lib.decDigits sc = l at I hl E
        have I := hid I
        have hs : bs (x4 ++ l ++ [83]) = bs (x4 ++ l) ++ (⟨#[83]⟩ : ByteArray) := by rw [bs_lit #[83]]; simp only [bs_append]
        clear hq hp hp2
        go_wp2_with fail
        refine (I.out _).mono ?_
        rintro e1 w1 ⟨rfl, hb⟩
        have HB := hid (HB4.out.trans (hb.mono HB4.out.size))
        clear hb
        go_wp2
        go_meet
        exact ⟨by rw [E.out, hs], HB.out⟩
    case rest =>
    obtain ⟨rfl, hB⟩ := hcut
    have HB5 := hid hB
    clear hB HB4 hp hp2
    have U := unit_len sc 83 (by omega)
    obtain ⟨x5, hx5⟩ : ∃ x, x4 ++ Tw.unit sc 83 = x := ⟨_, rfl⟩
    have Lx5 : x5.length ≤ x4.length + 11 := by rw [← hx5, List.length_append]; omega
    rw [hx5]
    have Hx5 := hid hx5
    clear hx5 U
    have EF2 := hid (show x0 ++ Tw.spanT k = x5 by rw [EF.out, Hx1.out, Hx2.out, Hx3.out, Hx4.out, Hx5.out])
    clear EF
    go_wp2
    go_ret2
    exact ⟨by rw [EF2.out]; rfl, HB5.out⟩
end Go.Proofs.YtefoajlmcdopiaaDoor
