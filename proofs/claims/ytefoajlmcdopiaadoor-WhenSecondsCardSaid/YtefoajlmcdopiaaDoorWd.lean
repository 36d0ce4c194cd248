/-
  The walks over the reference's Right, ahead, Number, YearDay.
-/
import Derived.Test.YtefoajlmcdopiaaDoorWc
namespace Go.Proofs.YtefoajlmcdopiaaDoor
open Go.RowKit

set_option maxHeartbeats 400000 in
theorem ahead_any (y : Int) (w : World) (h1 : 1 ≤ y) (h2 : y ≤ 20000) : Calls Tryd.prog 55 #[.int .i64 y] w fun e w' => e = .returned (.int .i64 (Gp.dby y)) ∧ w = w' := by
  have e := hid (show Gp.dby y = 365 * (y - 1) + (y - 1) / 4 - (y - 1) / 100 + (y - 1) / 400 from rfl)
  go_enter Tryd.func55, Tryd.ntmps55
  go_wp2
  go_ret
  exact ⟨ret_of e.out, rfl⟩

/-- The cells of a boxed day, behind a call. -/
theorem day_cells {w0 w1 : World} {g B : Nat} {y m d : Int} (hb : Below B w0 w1) (hg : g < B) (h0 : w0.cell? ⟨g, 0, none⟩ = some (.int .i64 y) ∧ w0.cell? ⟨g, 1, none⟩ = some (.int .i64 m) ∧ w0.cell? ⟨g, 2, none⟩ = some (.int .i64 d)) :
    w1.cell? ⟨g, 0, none⟩ = some (.int .i64 y) ∧ w1.cell? ⟨g, 1, none⟩ = some (.int .i64 m) ∧ w1.cell? ⟨g, 2, none⟩ = some (.int .i64 d) :=
  ⟨(hb.cell (p := ⟨g, 0, none⟩) hg).trans h0.1, (hb.cell (p := ⟨g, 1, none⟩) hg).trans h0.2.1, (hb.cell (p := ⟨g, 2, none⟩) hg).trans h0.2.2⟩
theorem day_new (w : World) (y m d : Int) : (w.alloc (.cells #[.int .i64 y, .int .i64 m, .int .i64 d] 36)).cell? ⟨w.heap.size, 0, none⟩ = some (.int .i64 y) ∧ (w.alloc (.cells #[.int .i64 y, .int .i64 m, .int .i64 d] 36)).cell? ⟨w.heap.size, 1, none⟩ = some (.int .i64 m) ∧
    (w.alloc (.cells #[.int .i64 y, .int .i64 m, .int .i64 d] 36)).cell? ⟨w.heap.size, 2, none⟩ = some (.int .i64 d) :=
  ⟨World.cell?_alloc_at _ _ _ _ rfl, World.cell?_alloc_at _ _ _ _ rfl, World.cell?_alloc_at _ _ _ _ rfl⟩

set_option maxHeartbeats 1000000 in
theorem rright_any (y m d : Int) (w : World) : Calls Tryd.prog 47 #[dayV y m d] w fun e w' => e = .returned (.bool (Gp.right y m d)) ∧ Below w.heap.size w w' := by
  unfold dayV
  have L := hid (rlong_any y m)
  by_cases h : 1 ≤ d
  · have hdec : decide (1 ≤ d) = true := by simpa using h
    have e := hid (show Gp.right y m d = decide (d ≤ Gp.long y m) by
      unfold Gp.right; rw [Bool.eq_iff_iff, decide_eq_true_eq, decide_eq_true_eq]; omega)
    obtain ⟨z, hz⟩ : ∃ z, z = Gp.long y m := ⟨_, rfl⟩
    rw [← hz] at L e
    clear hz
    go_enter Tryd.func47, Tryd.ntmps47
    go_wp2
    go_region_with (go_at_call 56; refine (L.out _).mono ?_; rintro e1 w2 ⟨rfl, hb2⟩; have hb2' := (Below.drew (alloc_below w _)).trans (hb2.mono (by simp)); obtain ⟨hk0, hk1, hk2⟩ := day_cells hb2 (by simp) (day_new w y m d))
    all_goals go_wp2
    all_goals go_ret
    all_goals exact ⟨by rw [e.out]; rfl, hb2'⟩
  · have hdec : decide (1 ≤ d) = false := by simpa using h
    have e := hid (right_no y m d (by omega))
    go_enter Tryd.func47, Tryd.ntmps47
    go_wp2
    go_quiet (fail)
    go_wp2
    go_ret
    exact ⟨by rw [e.out]; rfl, below_drewN (alloc_below _ _) _⟩
end Go.Proofs.YtefoajlmcdopiaaDoor
