/-
  The walks over PrintOffset: the program's, and the reference's.
-/
import Derived.Test.YtefoajlmcdopiaaDoorWl
namespace Go.Proofs.YtefoajlmcdopiaaDoor
open Go.RowKit

namespace Tw
/-- An offset's text, behind its sign. -/
def off (k : Nat) : List UInt8 := dig (k / 3600) 2 ++ dig (k / 60 % 60) 2 ++ (if k % 60 = 0 then [] else dig (k % 60) 2)
end Tw
set_option maxHeartbeats 4000000 in
theorem poff_no (n : Int) (w : World) (h : 86400 ≤ n ∨ (n < 86400 ∧ n ≤ -86400)) : Calls Tryd.prog 15 #[.int .i64 n] w fun e w' => e = .returned (.tuple #[.string (bs []), errno 2]) ∧ w = w' := by
  rcases h with h | ⟨h0, h⟩
  · go_enter Tryd.func15, Tryd.ntmps15
    go_wp2
    go_ret2
    exact ⟨rfl, rfl⟩
  · have h1 : decide (86400 ≤ n) = false := by simp; omega
    go_enter Tryd.func15, Tryd.ntmps15
    go_wp2
    go_ret2
    exact ⟨rfl, rfl⟩
set_option maxHeartbeats 4000000 in
theorem rpoff_no (n : Int) (w : World) (h : 86400 ≤ n ∨ (n < 86400 ∧ n ≤ -86400)) : Calls Tryd.prog 16 #[.int .i64 n] w fun e w' => e = .returned (.tuple #[.string (bs []), .int .i64 2]) ∧ w = w' := by
  rcases h with h | ⟨h0, h⟩
  · go_enter Tryd.func16, Tryd.ntmps16
    go_wp2
    go_ret2
    exact ⟨rfl, rfl⟩
  · have h1 : decide (86399 < n) = false := by simp; omega
    go_enter Tryd.func16, Tryd.ntmps16
    go_wp2
    go_ret2
    exact ⟨rfl, rfl⟩
/-- A number of one sign. -/
def Signed (n : Int) (k : Nat) (c : UInt8) : Prop := (n = k ∧ c = 43) ∨ (n = -(k : Int) ∧ 0 < k ∧ c = 45)
set_option maxHeartbeats 4000000 in
set_option maxRecDepth 100000 in
theorem poff_yes (n : Int) (k : Nat) (c : UInt8) (w : World) (hn : Signed n k c) (hk : k < 86400) :
    Calls Tryd.prog 15 #[.int .i64 n] w fun e w' => e = .returned (.tuple #[.string (bs (c :: Tw.off k)), .nilIface]) ∧ Below w.heap.size w w' := by
  obtain ⟨H, hH⟩ : ∃ H, k / 3600 = H := ⟨_, rfl⟩
  obtain ⟨M, hM⟩ : ∃ M, k / 60 % 60 = M := ⟨_, rfl⟩
  obtain ⟨X, hX⟩ : ∃ X, k % 60 = X := ⟨_, rfl⟩
  have i1 : (k : Int) / 3600 = (H : Int) := by omega
  obtain ⟨t, ht⟩ : ∃ t : Int, (k : Int) / 60 = t := ⟨_, rfl⟩
  have i2 : t % 60 = (M : Int) := by omega
  have htb : 0 ≤ t ∧ t ≤ 1440 := by omega
  have i3 : (k : Int) % 60 = (X : Int) := by omega
  have E := hid (show Tw.off k = Tw.dig H 2 ++ Tw.dig M 2 ++ (if X = 0 then [] else Tw.dig X 2) by unfold Tw.off; rw [hH, hM, hX])
  have D1 := hid (fun w => dig2_any H w (by omega))
  have D2 := hid (fun w => dig2_any M w (by omega))
  have D3 := hid (fun w => dig2_any X w (by omega))
  have l1 := dig_len H 2 (by omega) (by omega)
  have l2 := dig_len M 2 (by omega) (by omega)
  have l3 := dig_len X 2 (by omega) (by omega)
  generalize Tw.dig H 2 = a1 at D1 l1 E
  generalize Tw.dig M 2 = a2 at D2 l2 E
  generalize Tw.dig X 2 = a3 at D3 l3 E
  have hk2 : H ≤ 23 ∧ M ≤ 59 ∧ X ≤ 59 := by omega
  clear hH hM hX
  rcases hn with ⟨rfl, rfl⟩ | ⟨rfl, h0, rfl⟩
  · have q1 : decide ((86400 : Int) ≤ (k : Int)) = false := by rw [decide_eq_false_iff_not]; omega
    have q2 : decide ((k : Int) ≤ -86400) = false := by rw [decide_eq_false_iff_not]; omega
    have q3 : decide ((k : Int) < 0) = false := by rw [decide_eq_false_iff_not]; omega
    by_cases hx : X = 0
    · subst hx
      have F := hid (show bs (43 :: Tw.off k) = (⟨#[43]⟩ : ByteArray) ++ bs (a1 ++ a2) by rw [E.out, bs_lit #[43]]; simp [bs_append])
      go_enter Tryd.func15, Tryd.ntmps15
      go_wp2_with fail
      refine (D1.out _).mono ?_
      rintro e1 w1 ⟨rfl, hb1⟩
      have HB1 := hid hb1
      clear hb1
      go_wp2_with fail
      refine (D2.out _).mono ?_
      rintro e1 w2 ⟨rfl, hb2⟩
      have HB2 := hid (HB1.out.trans (hb2.mono HB1.out.size))
      clear hb2
      go_wp2
      go_ret2
      exact ⟨by rw [F.out]; rfl, HB2.out⟩
    · have F := hid (show bs (43 :: Tw.off k) = (⟨#[43]⟩ : ByteArray) ++ bs (a1 ++ a2) ++ bs a3 by rw [E.out, if_neg hx, bs_lit #[43]]; simp [bs_append])
      have q4 : ((X : Int) != 0) = true := by simp; omega
      go_enter Tryd.func15, Tryd.ntmps15
      go_wp2_with fail
      refine (D1.out _).mono ?_
      rintro e1 w1 ⟨rfl, hb1⟩
      have HB1 := hid hb1
      clear hb1
      go_wp2_with fail
      refine (D2.out _).mono ?_
      rintro e1 w2 ⟨rfl, hb2⟩
      have HB2 := hid (HB1.out.trans (hb2.mono HB1.out.size))
      clear hb2
      go_wp2_with fail
      refine (D3.out _).mono ?_
      rintro e1 w3 ⟨rfl, hb3⟩
      have HB3 := hid (HB2.out.trans (hb3.mono HB2.out.size))
      clear hb3
      go_wp2
      go_ret2
      exact ⟨by rw [F.out]; rfl, HB3.out⟩
  · have q1 : decide ((86400 : Int) ≤ (-(k : Int))) = false := by rw [decide_eq_false_iff_not]; omega
    have q5 : decide ((86400 : Int) ≤ (k : Int)) = false := by rw [decide_eq_false_iff_not]; omega
    have q2 : decide ((-(k : Int)) ≤ -86400) = false := by rw [decide_eq_false_iff_not]; omega
    have q3 : decide ((-(k : Int)) < 0) = true := by rw [decide_eq_true_eq]; omega
    by_cases hx : X = 0
    · subst hx
      have F := hid (show bs (45 :: Tw.off k) = (⟨#[45]⟩ : ByteArray) ++ bs (a1 ++ a2) by rw [E.out, bs_lit #[45]]; simp [bs_append])
      go_enter Tryd.func15, Tryd.ntmps15
      go_wp2_with fail
      refine (D1.out _).mono ?_
      rintro e1 w1 ⟨rfl, hb1⟩
      have HB1 := hid hb1
      clear hb1
      go_wp2_with fail
      refine (D2.out _).mono ?_
      rintro e1 w2 ⟨rfl, hb2⟩
      have HB2 := hid (HB1.out.trans (hb2.mono HB1.out.size))
      clear hb2
      go_wp2
      go_ret2
      exact ⟨by rw [F.out]; rfl, HB2.out⟩
    · have F := hid (show bs (45 :: Tw.off k) = (⟨#[45]⟩ : ByteArray) ++ bs (a1 ++ a2) ++ bs a3 by rw [E.out, if_neg hx, bs_lit #[45]]; simp [bs_append])
      have q4 : ((X : Int) != 0) = true := by simp; omega
      go_enter Tryd.func15, Tryd.ntmps15
      go_wp2_with fail
      refine (D1.out _).mono ?_
      rintro e1 w1 ⟨rfl, hb1⟩
      have HB1 := hid hb1
      clear hb1
      go_wp2_with fail
      refine (D2.out _).mono ?_
      rintro e1 w2 ⟨rfl, hb2⟩
      have HB2 := hid (HB1.out.trans (hb2.mono HB1.out.size))
      clear hb2
      go_wp2_with fail
      refine (D3.out _).mono ?_
      rintro e1 w3 ⟨rfl, hb3⟩
      have HB3 := hid (HB2.out.trans (hb3.mono HB2.out.size))
      clear hb3
      go_wp2
      go_ret2
      exact ⟨by rw [F.out]; rfl, HB3.out⟩
set_option maxHeartbeats 4000000 in
set_option maxRecDepth 100000 in
theorem rpoff_yes (n : Int) (k : Nat) (c : UInt8) (w : World) (hn : Signed n k c) (hk : k < 86400) :
    Calls Tryd.prog 16 #[.int .i64 n] w fun e w' => e = .returned (.tuple #[.string (bs (c :: Tw.off k)), .int .i64 0]) ∧ Below w.heap.size w w' := by
  obtain ⟨H, hH⟩ : ∃ H, k / 3600 = H := ⟨_, rfl⟩
  obtain ⟨M, hM⟩ : ∃ M, k / 60 % 60 = M := ⟨_, rfl⟩
  obtain ⟨X, hX⟩ : ∃ X, k % 60 = X := ⟨_, rfl⟩
  have i1 : (k : Int) / 3600 = (H : Int) := by omega
  obtain ⟨t, ht⟩ : ∃ t : Int, (k : Int) % 3600 = t := ⟨_, rfl⟩
  have i2 : t / 60 = (M : Int) := by omega
  have htb : 0 ≤ t ∧ t < 3600 := by omega
  have i3 : (k : Int) % 60 = (X : Int) := by omega
  have E := hid (show Tw.off k = Tw.dig H 2 ++ Tw.dig M 2 ++ (if X = 0 then [] else Tw.dig X 2) by unfold Tw.off; rw [hH, hM, hX])
  have D1 := hid (fun w => rdig2_any H w (by omega))
  have D2 := hid (fun w => rdig2_any M w (by omega))
  have D3 := hid (fun w => rdig2_any X w (by omega))
  have l1 := dig_len H 2 (by omega) (by omega)
  have l2 := dig_len M 2 (by omega) (by omega)
  have l3 := dig_len X 2 (by omega) (by omega)
  generalize Tw.dig H 2 = a1 at D1 l1 E
  generalize Tw.dig M 2 = a2 at D2 l2 E
  generalize Tw.dig X 2 = a3 at D3 l3 E
  have hk2 : H ≤ 23 ∧ M ≤ 59 ∧ X ≤ 59 := by omega
  clear hH hM hX
  rcases hn with ⟨rfl, rfl⟩ | ⟨rfl, h0, rfl⟩
  · have q1 : decide ((86399 : Int) < (k : Int)) = false := by rw [decide_eq_false_iff_not]; omega
    have q2 : decide ((k : Int) < -86399) = false := by rw [decide_eq_false_iff_not]; omega
    have q3 : decide ((k : Int) < 0) = false := by rw [decide_eq_false_iff_not]; omega
    by_cases hx : X = 0
    · subst hx
      have F := hid (show bs (43 :: Tw.off k) = (⟨#[43]⟩ : ByteArray) ++ bs a1 ++ bs a2 by rw [E.out, bs_lit #[43]]; simp [bs_append])
      go_enter Tryd.func16, Tryd.ntmps16
      go_wp2_with fail
      refine (D1.out _).mono ?_
      rintro e1 w1 ⟨rfl, hb1⟩
      have HB1 := hid hb1
      clear hb1
      go_wp2_with fail
      refine (D2.out _).mono ?_
      rintro e1 w2 ⟨rfl, hb2⟩
      have HB2 := hid (HB1.out.trans (hb2.mono HB1.out.size))
      clear hb2
      go_wp2
      go_ret2
      exact ⟨by rw [F.out]; rfl, HB2.out⟩
    · have F := hid (show bs (43 :: Tw.off k) = (⟨#[43]⟩ : ByteArray) ++ bs a1 ++ bs a2 ++ bs a3 by rw [E.out, if_neg hx, bs_lit #[43]]; simp [bs_append])
      have q4 : decide ((0 : Int) < (X : Int)) = true := by rw [decide_eq_true_eq]; omega
      go_enter Tryd.func16, Tryd.ntmps16
      go_wp2_with fail
      refine (D1.out _).mono ?_
      rintro e1 w1 ⟨rfl, hb1⟩
      have HB1 := hid hb1
      clear hb1
      go_wp2_with fail
      refine (D2.out _).mono ?_
      rintro e1 w2 ⟨rfl, hb2⟩
      have HB2 := hid (HB1.out.trans (hb2.mono HB1.out.size))
      clear hb2
      go_wp2_with fail
      refine (D3.out _).mono ?_
      rintro e1 w3 ⟨rfl, hb3⟩
      have HB3 := hid (HB2.out.trans (hb3.mono HB2.out.size))
      clear hb3
      go_wp2
      go_ret2
      exact ⟨by rw [F.out]; rfl, HB3.out⟩
  · have q1 : decide ((86399 : Int) < (-(k : Int))) = false := by rw [decide_eq_false_iff_not]; omega
    have q2 : decide ((-(k : Int)) < -86399) = false := by rw [decide_eq_false_iff_not]; omega
    have q3 : decide ((-(k : Int)) < 0) = true := by rw [decide_eq_true_eq]; omega
    by_cases hx : X = 0
    · subst hx
      have F := hid (show bs (45 :: Tw.off k) = (⟨#[45]⟩ : ByteArray) ++ bs a1 ++ bs a2 by rw [E.out, bs_lit #[45]]; simp [bs_append])
      go_enter Tryd.func16, Tryd.ntmps16
      go_wp2_with fail
      refine (D1.out _).mono ?_
      rintro e1 w1 ⟨rfl, hb1⟩
      have HB1 := hid hb1
      clear hb1
      go_wp2_with fail
      refine (D2.out _).mono ?_
      rintro e1 w2 ⟨rfl, hb2⟩
      have HB2 := hid (HB1.out.trans (hb2.mono HB1.out.size))
      clear hb2
      go_wp2
      go_ret2
      exact ⟨by rw [F.out]; rfl, HB2.out⟩
    · have F := hid (show bs (45 :: Tw.off k) = (⟨#[45]⟩ : ByteArray) ++ bs a1 ++ bs a2 ++ bs a3 by rw [E.out, if_neg hx, bs_lit #[45]]; simp [bs_append])
      have q4 : decide ((0 : Int) < (X : Int)) = true := by rw [decide_eq_true_eq]; omega
      go_enter Tryd.func16, Tryd.ntmps16
      go_wp2_with fail
      refine (D1.out _).mono ?_
      rintro e1 w1 ⟨rfl, hb1⟩
      have HB1 := hid hb1
      clear hb1
      go_wp2_with fail
      refine (D2.out _).mono ?_
      rintro e1 w2 ⟨rfl, hb2⟩
      have HB2 := hid (HB1.out.trans (hb2.mono HB1.out.size))
      clear hb2
      go_wp2_with fail
      refine (D3.out _).mono ?_
      rintro e1 w3 ⟨rfl, hb3⟩
      have HB3 := hid (HB2.out.trans (hb3.mono HB2.out.size))
      clear hb3
      go_wp2
      go_ret2
      exact ⟨by rw [F.out]; rfl, HB3.out⟩
end Go.Proofs.YtefoajlmcdopiaaDoor
