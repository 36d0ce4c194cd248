/-
  The walks over the reference's Number and YearDay.
-/
import Derived.Test.YtefoajlmcdopiaaDoorWd
namespace Go.Proofs.YtefoajlmcdopiaaDoor
open Go.RowKit

theorem cum_1 (y : Int) : Gp.cum y 1 = 0 := by simp [Gp.cum]
set_option maxHeartbeats 2000000 in
theorem rnumber_any (y m d : Int) (w : World) : Calls Tryd.prog 40 #[dayV y m d] w fun e w' => e = .returned (.int .i64 (Gp.number y m d)) ∧ Below w.heap.size w w' := by
  have R := hid (rright_any y m d)
  cases hr : Gp.right y m d with
  | false =>
    have e := hid (show Gp.number y m d = 0 by rw [Gp.number, hr]; rfl)
    rw [hr] at R
    clear hr
    unfold dayV at R ⊢
    go_enter Tryd.func40, Tryd.ntmps40
    go_wp2_with fail
    refine (R.out _).mono ?_
    rintro e1 w1 ⟨rfl, hb1⟩
    go_wp2
    go_ret
    exact ⟨ret_of e.out, (alloc_below _ _).trans (hb1.mono (by simp))⟩
  | true =>
    have e := hid (show Gp.number y m d = Gp.dby y + Gp.cum y m + d by rw [Gp.number, hr]; rfl)
    rw [hr] at R
    obtain ⟨h1, h2, h3, h4, h5, h6⟩ := (Gp.right_iff y m d).1 hr
    have hy := Gp.dby_bd (y := y) (by omega) (by omega)
    have hml := Gp.mlen_bd y m
    have A := hid (fun w => ahead_any y w h1 (by omega))
    obtain ⟨q, hq⟩ : ∃ q, q = Gp.dby y := ⟨_, rfl⟩
    rw [← hq] at A hy e
    have hd : d ≤ 31 := by omega
    clear hr hq h6 hml
    unfold dayV at R ⊢
    go_enter Tryd.func40, Tryd.ntmps40
    go_wp2_with fail
    refine (R.out _).mono ?_
    rintro e1 w1 ⟨rfl, hb1⟩
    have hb1' := (alloc_below w (.cells #[.int .i64 y, .int .i64 m, .int .i64 d] 36)).trans (hb1.mono (by simp))
    obtain ⟨hc0, hc1, hc2⟩ := day_cells hb1 (by simp) (day_new w y m d)
    go_wp2_with fail
    have ew : IntKind.i64.wrap (q + d) = q + d := IntWalk.i64_in _ (by omega)
    go_quiet ((go_at_call 55; exact quiet (A.out _)))
    clear ew
    rename_i nq
    have hbq := below_drewN hb1' nq
    have hk0 : (w1.drewN nq).cell? ⟨w.heap.size, 0, none⟩ = some (.int .i64 y) := hc0
    have hk1 : (w1.drewN nq).cell? ⟨w.heap.size, 1, none⟩ = some (.int .i64 m) := hc1
    have hks : w.heap.size < (w1.drewN nq).heap.size := by have := hb1.size; simp at this; exact this
    generalize w1.drewN nq = w2 at hbq hk0 hk1 hks ⊢
    clear hc0 hc1 hc2
    go_wp2_with fail
    go_loopw [3, 4] (fun v i wr => ∃ k : Int, 1 ≤ k ∧ k ≤ m ∧ i = .int .i64 k ∧ v = .int .i64 (q + d + Gp.cum y k) ∧ wr.cell? ⟨w.heap.size, 0, none⟩ = some (.int .i64 y) ∧ wr.cell? ⟨w.heap.size, 1, none⟩ = some (.int .i64 m) ∧ Below w.heap.size w wr ∧ w.heap.size < wr.heap.size) (fun _ i _ => (13 - intOf i).toNat)
    case atStart => exact ⟨1, by omega, h3, rfl, by rw [cum_1]; simp, hk0, hk1, hbq, hks⟩
    case round =>
      obtain ⟨k, hkl, hkm, rfl, rfl, hx0, hx1, hbel, hsz⟩ := hrel
      have hcb := Gp.cum_bd y k hkl (by omega)
      by_cases hlt : k < m
      · have L := hid (rlong_any y k)
        rw [Gp.long_in h1 h2 hkl (by omega)] at L
        have cs := hid (Gp.cum_succ y k hkl (by omega))
        have ml := Gp.mlen_bd y k
        go_wp2_with fail
        refine (L.out _).mono ?_
        rintro e1 w3 ⟨rfl, hb3⟩
        have hx0' := (hb3.cell (p := ⟨w.heap.size, 0, none⟩) hsz).trans hx0
        have hx1' := (hb3.cell (p := ⟨w.heap.size, 1, none⟩) hsz).trans hx1
        go_wp2
        go_roundw
        case rel => exact ⟨k + 1, by omega, by omega, rfl, by rw [cs.out]; congr 1; omega, hx0', hx1', hbel.trans (hb3.mono hbel.size), Nat.lt_of_lt_of_le hsz hb3.size⟩
        case measure => simp [intOf]; omega
      · obtain rfl : k = m := by omega
        go_wp2
        go_ret
        exact ⟨ret_of (by rw [e.out]; omega), hbel⟩

end Go.Proofs.YtefoajlmcdopiaaDoor
