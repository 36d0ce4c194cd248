/-
  The walks over greg.Weeks; and the reference's middle, first, Week.
-/
import Derived.Test.YtefoajlmcdopiaaWg
namespace Go.Proofs.Ytefoajlmcdopiaa
open Go.RowKit

def wksV (b y : Int) : Int := if 1 ≤ y ∧ y ≤ 9999 ∧ 0 ≤ b ∧ b ≤ 6 then (Gp.beg b (y + 1) - Gp.beg b y) / 7 else 0
theorem wksV_in {b y : Int} (h : 1 ≤ y ∧ y ≤ 9999 ∧ 0 ≤ b ∧ b ≤ 6) : wksV b y = (Gp.beg b (y + 1) - Gp.beg b y) / 7 := by rw [wksV, if_pos h]
theorem wksV_out {b y : Int} (h : ¬ (1 ≤ y ∧ y ≤ 9999 ∧ 0 ≤ b ∧ b ≤ 6)) : wksV b y = 0 := by rw [wksV, if_neg h]
set_option maxHeartbeats 400000 in
theorem weeks_out (y b : Int) (w : World) (h : y < 1 ∨ (1 ≤ y ∧ 9999 < y) ∨ (1 ≤ y ∧ y ≤ 9999 ∧ b < 0) ∨ (1 ≤ y ∧ y ≤ 9999 ∧ 0 ≤ b ∧ 6 < b)) : Calls Try.prog 24 #[.int .i64 y, .int .i64 b] w fun e w' => e = .returned (.int .i64 (wksV b y)) ∧ w = w' := by
  rw [wksV_out (by omega)]
  rcases h with h | ⟨h0, h⟩ | ⟨h0, h1, h⟩ | ⟨h0, h1, h2, h⟩
  all_goals
    go_enter Try.func24, Try.ntmps24
    go_wp2
    go_ret
    exact ⟨rfl, rfl⟩
set_option maxHeartbeats 1000000 in
theorem weeks_in (y b : Int) (w : World) (h1 : 1 ≤ y) (h2 : y ≤ 9999) (h3 : 0 ≤ b) (h4 : b ≤ 6) : Calls Try.prog 24 #[.int .i64 y, .int .i64 b] w fun e w' => e = .returned (.int .i64 (wksV b y)) ∧ w = w' := by
  have k1 := Gp.beg_bd b y
  have k2 := Gp.dby_bd (show 0 ≤ y by omega) (show y ≤ 10001 by omega)
  have k3 := Gp.beg_bd b (y + 1)
  have k4 := Gp.dby_bd (show 0 ≤ y + 1 by omega) (show y + 1 ≤ 10001 by omega)
  have k5 := Gp.dby_succ y
  have k6 := Gp.lp_01 y
  have B1 := hid (fun w => begin_any y b w (by omega) (by omega) h3 h4)
  have B2 := hid (fun w => begin_any (y + 1) b w (by omega) (by omega) h3 h4)
  have e := hid (wksV_in ⟨h1, h2, h3, h4⟩)
  have k7 : 0 ≤ Gp.beg b (y + 1) - Gp.beg b y := by omega
  obtain ⟨z, hz⟩ : ∃ z, z = Gp.beg b (y + 1) := ⟨_, rfl⟩
  obtain ⟨z2, hz2⟩ : ∃ z, z = Gp.beg b y := ⟨_, rfl⟩
  rw [← hz] at B2 e k3 k7
  rw [← hz2] at B1 e k1 k7
  have k8 : -1000000000 < z ∧ z < 1000000000 := by omega
  have k9 : -1000000000 < z2 ∧ z2 < 1000000000 := by omega
  clear hz hz2 k1 k2 k3 k4 k5 k6
  go_enter Try.func24, Try.ntmps24
  go_wp2_with fail
  refine (B2.out _).mono ?_
  rintro e1 w2 ⟨rfl, rfl⟩
  go_wp2_with fail
  refine (B1.out _).mono ?_
  rintro e1 w2 ⟨rfl, rfl⟩
  go_wp2
  go_ret
  exact ⟨ret_of e.out, rfl⟩
theorem weeks_any (y b : Int) (w : World) : Calls Try.prog 24 #[.int .i64 y, .int .i64 b] w fun e w' => e = .returned (.int .i64 (wksV b y)) ∧ w = w' := by
  by_cases h : 1 ≤ y ∧ y ≤ 9999 ∧ 0 ≤ b ∧ b ≤ 6
  · exact weeks_in y b w h.1 h.2.1 h.2.2.1 h.2.2.2
  · exact weeks_out y b w (by omega)

set_option maxHeartbeats 400000 in
theorem middle_any (n b : Int) (w : World) (h1 : 1 ≤ n) (h2 : n ≤ 3652059) (hb : 0 ≤ b) (hb2 : b ≤ 6) : Calls Try.prog 36 #[.int .i64 n, .int .i64 b] w fun e w' => e = .returned (.int .i64 (Gp.st b n + 3)) ∧ w = w' := by
  have e := hid (show Gp.st b n + 3 = n - (wd n - b + 7) % 7 + 3 by unfold Gp.st wd; omega)
  have W := hid (rweekday_any n)
  have WB := wd_bd n
  obtain ⟨z, hz⟩ : ∃ z, z = wd n := ⟨_, rfl⟩
  rw [← hz] at W WB e
  clear hz
  go_enter Try.func36, Try.ntmps36
  go_wp2_with fail
  refine (W.out _).mono ?_
  rintro e1 w1 ⟨rfl, rfl⟩
  go_wp2
  go_ret
  exact ⟨ret_of (by have := e.out; omega), rfl⟩
theorem dby_0 : Gp.dby 0 = -366 := by decide
set_option maxHeartbeats 400000 in
theorem first_any (y : Int) (w : World) (h1 : 0 ≤ y) (h2 : y ≤ 10001) : Calls Try.prog 37 #[.int .i64 y] w fun e w' => e = .returned (.int .i64 (Gp.dby y + 1)) ∧ w = w' := by
  by_cases h : y = 0
  · subst h
    have e := hid dby_0
    go_enter Try.func37, Try.ntmps37
    go_wp2
    go_ret
    exact ⟨ret_of (by rw [e.out]; rfl), rfl⟩
  · have A := hid (fun w => ahead_any y w (by omega) (by omega))
    have k := Gp.dby_bd h1 h2
    obtain ⟨q, hq⟩ : ∃ q, q = Gp.dby y := ⟨_, rfl⟩
    rw [← hq] at A k ⊢
    clear hq
    go_enter Try.func37, Try.ntmps37
    go_wp2_with fail
    refine (A.out _).mono ?_
    rintro e1 w1 ⟨rfl, rfl⟩
    go_wp2
    go_ret
    exact ⟨rfl, rfl⟩

set_option maxHeartbeats 400000 in
theorem rweek_out (n b : Int) (w : World) (h : n < 1 ∨ (1 ≤ n ∧ 3652059 < n) ∨ (1 ≤ n ∧ n ≤ 3652059 ∧ b < 0) ∨ (1 ≤ n ∧ n ≤ 3652059 ∧ 0 ≤ b ∧ 6 < b)) : Calls Try.prog 23 #[.int .i64 n, .int .i64 b] w fun e w' => e = .returned (weekV b n) ∧ Below w.heap.size w w' := by
  rw [weekV_out (by omega)]
  rcases h with h | ⟨h0, h⟩ | ⟨h0, h1, h⟩ | ⟨h0, h1, h2, h⟩
  all_goals
    go_enter Try.func23, Try.ntmps23
    go_wp2
    go_ret2
    exact ⟨rfl, Below.refl _ _⟩
set_option maxHeartbeats 1000000 in
theorem rweek_in (n b : Int) (w : World) (h1 : 1 ≤ n) (h2 : n ≤ 3652059) (h3 : 0 ≤ b) (h4 : b ≤ 6) : Calls Try.prog 23 #[.int .i64 n, .int .i64 b] w fun e w' => e = .returned (weekV b n) ∧ Below w.heap.size w w' := by
  have O := hid (rof_any n)
  rw [weekV_in ⟨h1, h2, h3, h4⟩]
  rw [ofV_in h1 h2] at O
  have Y := Gp.of_year n h1 h2
  have K := Gp.wky_bd b h1 h2
  have S := Gp.st_bd b n
  have hw : Hid (Gp.wky b n = if Gp.beg b (Gp.ofY n + 1) ≤ n then Gp.ofY n + 1 else if n < Gp.beg b (Gp.ofY n) then Gp.ofY n - 1 else Gp.ofY n) := rfl
  have hk : Hid (Gp.wk b n = (n - Gp.beg b (Gp.wky b n)) / 7 + 1) := rfl
  have hm := hid (Gp.mid_week b n (Gp.wky b n) K.2.2)
  have i1 := hid (Gp.mid_iff b n (Gp.ofY n))
  have i2 := hid (Gp.mid_iff b n (Gp.ofY n + 1))
  have sr := hid (Gp.dby_succ (Gp.ofY n))
  have lr := hid (Gp.lp_01 (Gp.ofY n))
  have M := hid (fun w => middle_any n b w h1 h2 h3 h4)
  have F := hid (fun y h1 h2 w => first_any y w h1 h2)
  have DD := hid (fun (y : Int) (h1 : 0 ≤ y) (h2 : y ≤ 10001) => Gp.dby_bd h1 h2)
  obtain ⟨y, hy⟩ : ∃ y, y = Gp.ofY n := ⟨_, rfl⟩
  rw [← hy] at O Y hw i1 i2 sr lr
  clear hy
  obtain ⟨s, hs⟩ : ∃ y, y = Gp.st b n := ⟨_, rfl⟩
  rw [← hs] at M S hm i1 i2
  clear hs
  have hfd := field0 (.int .i64 y) (.int .i64 (Gp.ofM n)) (.int .i64 (Gp.ofD n))
  unfold dayV at O
  go_enter Try.func23, Try.ntmps23
  go_wp2_with fail
  refine (M.out _).mono ?_
  rintro e1 w1 ⟨rfl, rfl⟩
  go_wp2_with fail
  refine (O.out _).mono ?_
  rintro e1 w1 ⟨rfl, hb1⟩
  have k2 := DD.out _ (show 0 ≤ y + 1 by omega) (show y + 1 ≤ 10001 by omega)
  have k4 := DD.out _ (show 0 ≤ y by omega) (show y ≤ 10001 by omega)
  have B1 := hid (F.out (y + 1) (by omega) (by omega))
  have B2 := hid (F.out y (by omega) (by omega))
  by_cases c2 : s + 3 < Gp.dby y + 1
  · have c1 : ¬ Gp.beg b (y + 1) ≤ n := by
      have := i2.out; have := sr.out; have := lr.out; omega
    have hv := hid (show Gp.wky b n = y - 1 by rw [hw.out, if_neg c1, if_pos (i1.out.2 c2)])
    rw [hv.out] at hk hm K
    have k6 := DD.out _ (show 0 ≤ y - 1 by omega) (show y - 1 ≤ 10001 by omega)
    have B3 := hid (F.out (y - 1) (by omega) (by omega))
    rw [← hm.out.1] at hk
    have hm2 := hm.out.2
    obtain ⟨z2, hz2⟩ : ∃ z, z = Gp.dby y := ⟨_, rfl⟩
    obtain ⟨z3, hz3⟩ : ∃ z, z = Gp.dby (y - 1) := ⟨_, rfl⟩
    rw [← hz2] at c2 k4 B2
    rw [← hz3] at hk hm2 B3 k6
    clear hz2 hz3 c1 K
    go_wp2_with fail
    refine (B2.out _).mono ?_
    rintro e1 w2 ⟨rfl, rfl⟩
    go_wp2_with fail
    refine (B2.out _).mono ?_
    rintro e1 w2 ⟨rfl, rfl⟩
    go_wp2_with fail
    refine (B3.out _).mono ?_
    rintro e1 w2 ⟨rfl, rfl⟩
    go_wp2
    go_ret2
    exact ⟨ret2_of hv.out hk.out, hb1⟩
  · by_cases c1 : s + 3 < Gp.dby (y + 1) + 1
    · have hv := hid (show Gp.wky b n = y by rw [hw.out, if_neg (by have := i2.out; omega), if_neg (by have := i1.out; omega)])
      rw [hv.out] at hk hm K
      rw [← hm.out.1] at hk
      have hm2 := hm.out.2
      obtain ⟨z2, hz2⟩ : ∃ z, z = Gp.dby y := ⟨_, rfl⟩
      obtain ⟨z3, hz3⟩ : ∃ z, z = Gp.dby (y + 1) := ⟨_, rfl⟩
      rw [← hz2] at c2 k4 B2 hk hm2
      rw [← hz3] at c1 B1 k2
      clear hz2 hz3 K
      go_wp2_with fail
      refine (B2.out _).mono ?_
      rintro e1 w2 ⟨rfl, rfl⟩
      go_wp2_with fail
      refine (B1.out _).mono ?_
      rintro e1 w2 ⟨rfl, rfl⟩
      go_wp2_with fail
      refine (B2.out _).mono ?_
      rintro e1 w2 ⟨rfl, rfl⟩
      go_wp2
      go_ret2
      exact ⟨ret2_of hv.out hk.out, hb1⟩
    · have hv := hid (show Gp.wky b n = y + 1 by rw [hw.out, if_pos (by have := i2.out; omega)])
      rw [hv.out] at hk hm K
      rw [← hm.out.1] at hk
      have hm2 := hm.out.2
      obtain ⟨z2, hz2⟩ : ∃ z, z = Gp.dby y := ⟨_, rfl⟩
      obtain ⟨z3, hz3⟩ : ∃ z, z = Gp.dby (y + 1) := ⟨_, rfl⟩
      rw [← hz2] at c2 k4 B2
      rw [← hz3] at c1 B1 k2 hk hm2
      clear hz2 hz3 K
      go_wp2_with fail
      refine (B2.out _).mono ?_
      rintro e1 w2 ⟨rfl, rfl⟩
      go_wp2_with fail
      refine (B1.out _).mono ?_
      rintro e1 w2 ⟨rfl, rfl⟩
      go_wp2_with fail
      refine (B1.out _).mono ?_
      rintro e1 w2 ⟨rfl, rfl⟩
      go_wp2
      go_ret2
      exact ⟨ret2_of hv.out hk.out, hb1⟩
theorem rweek_any (n b : Int) (w : World) : Calls Try.prog 23 #[.int .i64 n, .int .i64 b] w fun e w' => e = .returned (weekV b n) ∧ Below w.heap.size w w' := by
  by_cases h : 1 ≤ n ∧ n ≤ 3652059 ∧ 0 ≤ b ∧ b ≤ 6
  · exact rweek_in n b w h.1 h.2.1 h.2.2.1 h.2.2.2
  · exact rweek_out n b w (by omega)
end Go.Proofs.Ytefoajlmcdopiaa
