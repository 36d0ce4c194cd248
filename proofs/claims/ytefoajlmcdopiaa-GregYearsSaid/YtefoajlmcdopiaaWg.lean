/-
  The walks over greg: begin, Week, Weeks; and the reference's middle, first, Week.
-/
import Derived.Test.YtefoajlmcdopiaaWf
namespace Go.Proofs.Ytefoajlmcdopiaa
open Go.RowKit

namespace Gp
/-- The first day of a number's week. -/
def st (b n : Int) : Int := n - (n + 6 - b) % 7
def beg (b y : Int) : Int := st b (dby y + 4)
theorem st_bd (b n : Int) : st b n ≤ n ∧ n ≤ st b n + 6 := by unfold st; omega
theorem beg_bd (b y : Int) : dby y - 2 ≤ beg b y ∧ beg b y ≤ dby y + 4 := by have := st_bd b (dby y + 4); unfold beg; omega
/-- A week's year. -/
def wky (b n : Int) : Int := if beg b (ofY n + 1) ≤ n then ofY n + 1 else if n < beg b (ofY n) then ofY n - 1 else ofY n
def wk (b n : Int) : Int := (n - beg b (wky b n)) / 7 + 1
theorem of_bd {n : Int} (h1 : 1 ≤ n) (h2 : n ≤ 3652059) : dby (ofY n) < n ∧ n ≤ dby (ofY n + 1) := by
  have := num_bd (of_right n h1 h2)
  rwa [of_num n h1 h2] at this
theorem wky_bd {n : Int} (b : Int) (h1 : 1 ≤ n) (h2 : n ≤ 3652059) : 0 ≤ wky b n ∧ wky b n ≤ 10000 ∧ beg b (wky b n) ≤ n := by
  have y := of_year n h1 h2
  have d := of_bd h1 h2
  have s := dby_succ (ofY n - 1)
  have l := lp_01 (ofY n - 1)
  rw [show ofY n - 1 + 1 = ofY n by omega] at s
  have e := beg_bd b (ofY n - 1)
  unfold wky
  split
  · omega
  · split <;> omega
/-- The middle of a week lies in its year. -/
theorem mid_iff (b n y : Int) : n < beg b y ↔ st b n + 3 < dby y + 1 := by
  unfold beg st; omega
theorem mid_week (b n y : Int) (h : beg b y ≤ n) : (st b n + 3 - (dby y + 1)) / 7 = (n - beg b y) / 7 ∧ 0 ≤ st b n + 3 - (dby y + 1) := by
  unfold beg st at *; omega
end Gp

set_option maxHeartbeats 400000 in
theorem begin_any (y b : Int) (w : World) (h1 : 0 ≤ y) (h2 : y ≤ 10001) (hb : 0 ≤ b) (hb2 : b ≤ 6) : Calls Try.prog 35 #[.int .i64 y, .int .i64 b] w fun e w' => e = .returned (.int .i64 (Gp.beg b y)) ∧ w = w' := by
  have C := hid (fun w => count_any y 1 4 w (by omega) (by omega) (by omega) (by omega) (by omega) (by omega))
  have D := Gp.dby_bd h1 h2
  have hn : Gp.num y 1 4 = Gp.dby y + 4 := by simp [Gp.num, Gp.cum]
  rw [hn] at C
  have e := hid (show Gp.beg b y = Gp.dby y + 4 - (wd (Gp.dby y + 4) - b + 7) % 7 by unfold Gp.beg Gp.st wd; omega)
  obtain ⟨q, hq⟩ : ∃ q, q = Gp.dby y := ⟨_, rfl⟩
  rw [← hq] at C D e
  have W := hid (weekday_any (q + 4))
  have WB := wd_bd (q + 4)
  obtain ⟨z, hz⟩ : ∃ z, z = wd (q + 4) := ⟨_, rfl⟩
  rw [← hz] at W WB e
  clear hz hq hn
  go_enter Try.func35, Try.ntmps35
  go_wp2_with fail
  refine (C.out _).mono ?_
  rintro e1 w1 ⟨rfl, rfl⟩
  go_wp2_with fail
  refine (W.out _).mono ?_
  rintro e1 w1 ⟨rfl, rfl⟩
  go_wp2
  go_ret
  exact ⟨ret_of (by have := e.out; omega), rfl⟩

/-- The field of a day. -/
theorem field0 (a b c : Value) (w : World) : (Instr.field 23 (.agg #[a, b, c]) 0).run Try.prog w = .ok a w := by kernel_rfl

def weekV (b n : Int) : Value := if 1 ≤ n ∧ n ≤ 3652059 ∧ 0 ≤ b ∧ b ≤ 6 then .tuple #[.int .i64 (Gp.wky b n), .int .i64 (Gp.wk b n)] else .tuple #[.int .i64 0, .int .i64 0]
theorem weekV_in {b n : Int} (h : 1 ≤ n ∧ n ≤ 3652059 ∧ 0 ≤ b ∧ b ≤ 6) : weekV b n = .tuple #[.int .i64 (Gp.wky b n), .int .i64 (Gp.wk b n)] := by rw [weekV, if_pos h]
theorem weekV_out {b n : Int} (h : ¬ (1 ≤ n ∧ n ≤ 3652059 ∧ 0 ≤ b ∧ b ≤ 6)) : weekV b n = .tuple #[.int .i64 0, .int .i64 0] := by rw [weekV, if_neg h]
set_option maxHeartbeats 400000 in
theorem week_out (n b : Int) (w : World) (h : n < 1 ∨ (1 ≤ n ∧ 3652059 < n) ∨ (1 ≤ n ∧ n ≤ 3652059 ∧ b < 0) ∨ (1 ≤ n ∧ n ≤ 3652059 ∧ 0 ≤ b ∧ 6 < b)) : Calls Try.prog 22 #[.int .i64 n, .int .i64 b] w fun e w' => e = .returned (weekV b n) ∧ Below w.heap.size w w' := by
  rw [weekV_out (by omega)]
  rcases h with h | ⟨h0, h⟩ | ⟨h0, h1, h⟩ | ⟨h0, h1, h2, h⟩
  all_goals
    go_enter Try.func22, Try.ntmps22
    go_wp2
    go_ret2
    exact ⟨rfl, Below.refl _ _⟩
theorem ret2_of {a b c d : Int} (h : b = a) (h2 : d = c) : Ending.returned (.tuple #[.int .i64 a, .int .i64 c]) = .returned (.tuple #[.int .i64 b, .int .i64 d]) := by rw [h, h2]
set_option maxHeartbeats 1000000 in
theorem week_in (n b : Int) (w : World) (h1 : 1 ≤ n) (h2 : n ≤ 3652059) (h3 : 0 ≤ b) (h4 : b ≤ 6) : Calls Try.prog 22 #[.int .i64 n, .int .i64 b] w fun e w' => e = .returned (weekV b n) ∧ Below w.heap.size w w' := by
  have O := hid (of_any n)
  rw [weekV_in ⟨h1, h2, h3, h4⟩]
  rw [ofV_in h1 h2] at O
  have Y := Gp.of_year n h1 h2
  have K := Gp.wky_bd b h1 h2
  have hw : Hid (Gp.wky b n = if Gp.beg b (Gp.ofY n + 1) ≤ n then Gp.ofY n + 1 else if n < Gp.beg b (Gp.ofY n) then Gp.ofY n - 1 else Gp.ofY n) := rfl
  have hk : Hid (Gp.wk b n = (n - Gp.beg b (Gp.wky b n)) / 7 + 1) := rfl
  have B := hid (fun y h1 h2 w => begin_any y b w h1 h2 h3 h4)
  have BD := hid (Gp.beg_bd b)
  have DD := hid (fun (y : Int) (h1 : 0 ≤ y) (h2 : y ≤ 10001) => Gp.dby_bd h1 h2)
  obtain ⟨y, hy⟩ : ∃ y, y = Gp.ofY n := ⟨_, rfl⟩
  rw [← hy] at O Y hw
  clear hy
  have hfd := field0 (.int .i64 y) (.int .i64 (Gp.ofM n)) (.int .i64 (Gp.ofD n))
  unfold dayV at O
  go_enter Try.func22, Try.ntmps22
  go_wp2_with fail
  refine (O.out _).mono ?_
  rintro e1 w1 ⟨rfl, hb1⟩
  by_cases c1 : Gp.beg b (y + 1) ≤ n
  · have hv := hid (show Gp.wky b n = y + 1 by rw [hw.out, if_pos c1])
    rw [hv.out] at hk K
    have k1 := BD.out (y + 1)
    have k2 := DD.out _ (show 0 ≤ y + 1 by omega) (show y + 1 ≤ 10001 by omega)
    have B1 := hid (B.out (y + 1) (by omega) (by omega))
    obtain ⟨z, hz⟩ : ∃ z, z = Gp.beg b (y + 1) := ⟨_, rfl⟩
    rw [← hz] at c1 hk K k1 B1
    clear hz
    go_wp2_with fail
    refine (B1.out _).mono ?_
    rintro e1 w2 ⟨rfl, rfl⟩
    go_wp2_with fail
    refine (B1.out _).mono ?_
    rintro e1 w2 ⟨rfl, rfl⟩
    go_wp2
    go_ret2
    exact ⟨ret2_of hv.out hk.out, hb1⟩
  · by_cases c2 : n < Gp.beg b y
    · have hv := hid (show Gp.wky b n = y - 1 by rw [hw.out, if_neg c1, if_pos c2])
      rw [hv.out] at hk K
      have k1 := BD.out (y + 1)
      have k2 := DD.out _ (show 0 ≤ y + 1 by omega) (show y + 1 ≤ 10001 by omega)
      have k3 := BD.out y
      have k4 := DD.out _ (show 0 ≤ y by omega) (show y ≤ 10001 by omega)
      have k5 := BD.out (y - 1)
      have k6 := DD.out _ (show 0 ≤ y - 1 by omega) (show y - 1 ≤ 10001 by omega)
      have B1 := hid (B.out (y + 1) (by omega) (by omega))
      have B2 := hid (B.out y (by omega) (by omega))
      have B3 := hid (B.out (y - 1) (by omega) (by omega))
      obtain ⟨z, hz⟩ : ∃ z, z = Gp.beg b (y + 1) := ⟨_, rfl⟩
      obtain ⟨z2, hz2⟩ : ∃ z, z = Gp.beg b y := ⟨_, rfl⟩
      obtain ⟨z3, hz3⟩ : ∃ z, z = Gp.beg b (y - 1) := ⟨_, rfl⟩
      rw [← hz] at c1 k1 B1
      rw [← hz2] at c2 k3 B2
      rw [← hz3] at hk K k5 B3
      clear hz hz2 hz3
      go_wp2_with fail
      refine (B1.out _).mono ?_
      rintro e1 w2 ⟨rfl, rfl⟩
      go_wp2_with fail
      refine (B2.out _).mono ?_
      rintro e1 w2 ⟨rfl, rfl⟩
      go_wp2_with fail
      refine (B3.out _).mono ?_
      rintro e1 w2 ⟨rfl, rfl⟩
      go_wp2
      go_ret2
      exact ⟨ret2_of hv.out hk.out, hb1⟩
    · have hv := hid (show Gp.wky b n = y by rw [hw.out, if_neg c1, if_neg c2])
      rw [hv.out] at hk K
      have k1 := BD.out (y + 1)
      have k2 := DD.out _ (show 0 ≤ y + 1 by omega) (show y + 1 ≤ 10001 by omega)
      have k3 := BD.out y
      have k4 := DD.out _ (show 0 ≤ y by omega) (show y ≤ 10001 by omega)
      have B1 := hid (B.out (y + 1) (by omega) (by omega))
      have B2 := hid (B.out y (by omega) (by omega))
      obtain ⟨z, hz⟩ : ∃ z, z = Gp.beg b (y + 1) := ⟨_, rfl⟩
      obtain ⟨z2, hz2⟩ : ∃ z, z = Gp.beg b y := ⟨_, rfl⟩
      rw [← hz] at c1 k1 B1
      rw [← hz2] at c2 k3 B2 hk K
      clear hz hz2
      go_wp2_with fail
      refine (B1.out _).mono ?_
      rintro e1 w2 ⟨rfl, rfl⟩
      go_wp2_with fail
      refine (B2.out _).mono ?_
      rintro e1 w2 ⟨rfl, rfl⟩
      go_wp2_with fail
      refine (B2.out _).mono ?_
      rintro e1 w2 ⟨rfl, rfl⟩
      go_wp2
      go_ret2
      exact ⟨ret2_of hv.out hk.out, hb1⟩
theorem week_any (n b : Int) (w : World) : Calls Try.prog 22 #[.int .i64 n, .int .i64 b] w fun e w' => e = .returned (weekV b n) ∧ Below w.heap.size w w' := by
  by_cases h : 1 ≤ n ∧ n ≤ 3652059 ∧ 0 ≤ b ∧ b ≤ 6
  · exact week_in n b w h.1 h.2.1 h.2.2.1 h.2.2.2
  · exact week_out n b w (by omega)
end Go.Proofs.Ytefoajlmcdopiaa
