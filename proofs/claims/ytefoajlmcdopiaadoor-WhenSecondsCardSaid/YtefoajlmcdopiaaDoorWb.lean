/-
  The walks over greg: Of, Weekday, YearDay; and the reference's YearLong, Long, Right, ahead, Weekday.
-/
import Derived.Test.YtefoajlmcdopiaaDoorWa
namespace Go.Proofs.YtefoajlmcdopiaaDoor
open Go.RowKit

def ofV (n : Int) : Value := if 1 ≤ n ∧ n ≤ 3652059 then dayV (Gp.ofY n) (Gp.ofM n) (Gp.ofD n) else dayV 0 0 0
theorem ofV_in {n : Int} (h1 : 1 ≤ n) (h2 : n ≤ 3652059) : ofV n = dayV (Gp.ofY n) (Gp.ofM n) (Gp.ofD n) := by rw [ofV, if_pos ⟨h1, h2⟩]
theorem ofV_out {n : Int} (h : ¬ (1 ≤ n ∧ n ≤ 3652059)) : ofV n = dayV 0 0 0 := by rw [ofV, if_neg h]
set_option maxHeartbeats 1000000 in
theorem of_out (n : Int) (w : World) (h : n < 1 ∨ 3652059 < n) : Calls Tryd.prog 41 #[.int .i64 n] w fun e w' => e = .returned (ofV n) ∧ Below w.heap.size w w' := by
  rw [ofV_out (by omega)]
  unfold dayV
  rcases h with h | h
  all_goals
    go_enter Tryd.func41, Tryd.ntmps41
    go_wp2
    exact bodyPost_ret (v := .agg #[.int .i64 0, .int .i64 0, .int .i64 0]) (by simp [results, Tryd.results41, go_sem]) rfl ⟨rfl, alloc_below _ _⟩
set_option maxHeartbeats 4000000 in
theorem of_walk (n O1 R1 H0 H R2 F R3 P0 O R4 Y M D : Int) (w : World) (h1 : 1 ≤ n) (h2 : n ≤ 3652059)
    (g1 : (n + 305) / 146097 = O1) (g2 : (n + 305) % 146097 = R1) (g3 : R1 / 36524 = H0) (k3 : (H0 ≤ 3 ∧ H = H0) ∨ (3 < H0 ∧ H = 3)) (g4 : R1 - H * 36524 = R2) (g5 : R2 / 1461 = F) (g6 : R2 % 1461 = R3)
    (g7 : R3 / 365 = P0) (k7 : (P0 ≤ 3 ∧ O = P0) ∨ (3 < P0 ∧ O = 3)) (g8 : R3 - O * 365 = R4) (g9 : 400 * O1 + 100 * H + 4 * F + O = Y) (g10 : (5 * R4 + 2) / 153 = M) (g11 : R4 - (153 * M + 2) / 5 + 1 = D)
    (b1 : 0 ≤ O1 ∧ O1 ≤ 24) (_b2 : 0 ≤ R1 ∧ R1 < 146097) (b3 : 0 ≤ H ∧ H ≤ 3) (b4 : 0 ≤ R2 ∧ R2 ≤ 36524) (b5 : 0 ≤ F ∧ F ≤ 24) (_b6 : 0 ≤ R3 ∧ R3 < 1461) (b7 : 0 ≤ O ∧ O ≤ 3) (b8 : 0 ≤ R4 ∧ R4 ≤ 365) (b9 : 0 ≤ Y ∧ Y ≤ 9999) (b10 : 0 ≤ M ∧ M ≤ 11) (b11 : 1 ≤ D ∧ D ≤ 31) :
    Calls Tryd.prog 41 #[.int .i64 n] w fun e w' => e = .returned (if M + 3 ≤ 12 then dayV Y (M + 3) D else dayV (Y + 1) (M + 3 - 12) D) ∧ Below w.heap.size w w' := by
  rcases k3 with ⟨k3, rfl⟩ | ⟨k3, rfl⟩ <;> rcases k7 with ⟨k7, rfl⟩ | ⟨k7, rfl⟩
  all_goals
    try simp only [Int.reduceMul] at g4
    try simp only [Int.reduceMul] at g8
    try simp only [Int.reduceMul] at g9
    by_cases hM : M + 3 ≤ 12
    · rw [if_pos hM]
      unfold dayV
      go_enter Tryd.func41, Tryd.ntmps41
      go_wp2
      all_goals exact bodyPost_ret (v := .agg #[.int .i64 Y, .int .i64 (M + 3), .int .i64 D]) (by simp [results, Tryd.results41, go_sem]) rfl ⟨rfl, alloc_below _ _⟩
    · rw [if_neg hM]
      unfold dayV
      go_enter Tryd.func41, Tryd.ntmps41
      go_wp2
      all_goals exact bodyPost_ret (v := .agg #[.int .i64 (Y + 1), .int .i64 (M + 3 - 12), .int .i64 D]) (by simp [results, Tryd.results41, go_sem]) rfl ⟨rfl, alloc_below _ _⟩
theorem min3 (x : Int) : (x ≤ 3 ∧ (if x ≤ 3 then x else 3) = x) ∨ (3 < x ∧ (if x ≤ 3 then x else 3) = 3) := by
  by_cases h : x ≤ 3
  · left; exact ⟨h, if_pos h⟩
  · right; exact ⟨by omega, if_neg h⟩
theorem of_in (n : Int) (w : World) (h1 : 1 ≤ n) (h2 : n ≤ 3652059) : Calls Tryd.prog 41 #[.int .i64 n] w fun e w' => e = .returned (ofV n) ∧ Below w.heap.size w w' := by
  rw [ofV_in h1 h2]
  have P := Gp.parts n h1 h2
  have Q := Gp.oy_parts n h1 h2
  have M := Gp.om_bd n h1 h2
  have D := Gp.of_date n h1 h2
  have L := Gp.mlen_bd (Gp.ofY n) (Gp.ofM n)
  have a1 : 0 ≤ Gp.r1 n ∧ Gp.r1 n < 146097 := by unfold Gp.r1; omega
  have a2 : 0 ≤ Gp.r2 n ∧ Gp.r2 n ≤ 36524 := by unfold Gp.r2 Gp.o2; split <;> omega
  have a3 : 0 ≤ Gp.r3 n ∧ Gp.r3 n < 1461 := by unfold Gp.r3; omega
  have := of_walk n (Gp.o1 n) (Gp.r1 n) (Gp.r1 n / 36524) (Gp.o2 n) (Gp.r2 n) (Gp.o3 n) (Gp.r3 n) (Gp.r3 n / 365) (Gp.o4 n) (Gp.r4 n) (Gp.oy n) (Gp.om n) (Gp.ofD n) w h1 h2
    rfl rfl rfl (min3 _) rfl rfl rfl rfl (min3 _) rfl rfl rfl rfl (by omega) a1 (by omega) a2 (by omega) a3 (by omega) (by omega) (by omega) (by omega) (by omega)
  unfold Gp.ofY Gp.ofM
  split
  · rw [if_pos ‹_›] at this; exact this
  · rw [if_neg ‹_›, show Gp.om n + 3 - 12 = Gp.om n - 9 by omega] at this; exact this
theorem of_any (n : Int) (w : World) : Calls Tryd.prog 41 #[.int .i64 n] w fun e w' => e = .returned (ofV n) ∧ Below w.heap.size w w' := by
  by_cases h : n < 1 ∨ 3652059 < n
  · exact of_out n w h
  · exact of_in n w (by omega) (by omega)

theorem tmod7 (n : Int) : n = 7 * n.tdiv 7 + n.tmod 7 ∧ -7 < n.tmod 7 ∧ n.tmod 7 < 7 := by
  have h1 := Int.mul_tdiv_add_tmod n 7
  have h2 : n.tmod 7 < 7 := Int.tmod_lt_of_pos n (by omega)
  have h3 : (-n).tmod 7 < 7 := Int.tmod_lt_of_pos (-n) (by omega)
  rw [Int.neg_tmod] at h3
  omega
/-- The weekday of a number. -/
def wd (n : Int) : Int := (n + 6) % 7
theorem wd_bd (n : Int) : 0 ≤ wd n ∧ wd n ≤ 6 := by unfold wd; omega
end Go.Proofs.YtefoajlmcdopiaaDoor
