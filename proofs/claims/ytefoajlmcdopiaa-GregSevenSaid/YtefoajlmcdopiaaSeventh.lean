/-
  GregSeven returns true, whatever its input: the seven days of a week have one week, and the next week is the one behind it. No condition.
-/
import Derived.Test.YtefoajlmcdopiaaWs
import Derived.Test.YtefoajlmcdopiaaWk
import Derived.Test.YtefoajlmcdopiaaLaw
namespace Go.Proofs.Ytefoajlmcdopiaa
open Go.ChangeShapes Go.WideShapes Go.ChangeAt Go.RowKit
theorem tmod_bd (n M : Int) (h : 0 < M) : -M < n.tmod M ∧ n.tmod M < M := by
  have h2 : n.tmod M < M := Int.tmod_lt_of_pos n h
  have h3 : (-n).tmod M < M := Int.tmod_lt_of_pos (-n) h
  rw [Int.neg_tmod] at h3
  omega
set_option maxRecDepth 100000 in
set_option maxHeartbeats 1000000 in
theorem seven_law (n b : Int) (w : World) : Calls Try.prog 6 #[.int .i64 n, .int .i64 b] w fun e w' => e = .returned (.bool true) ∧ Below w.heap.size w w' := by
  obtain ⟨t1, t2⟩ := tmod_bd n 3652039 (by omega)
  obtain ⟨t3, t4⟩ := tmod_bd b 7 (by omega)
  go_enter Try.func6, Try.ntmps6
  go_wp2_with fail
  obtain ⟨N, hN⟩ : ∃ N, N = 8 + (n.tmod 3652039 + 3652059 - 20) % 3652039 := ⟨_, rfl⟩
  obtain ⟨B, hB⟩ : ∃ B, B = (b.tmod 7 + 7) % 7 := ⟨_, rfl⟩
  have n1 : 8 ≤ N ∧ N ≤ 3652046 := by omega
  have n2 : 0 ≤ B ∧ B ≤ 6 := by omega
  have D := hid (weekday_any N)
  have DB := wd_bd N
  rw [← hN, ← hB]
  clear hN hB t1 t2 t3 t4
  obtain ⟨s, hs⟩ : ∃ s, s = N - (wd N - B + 7) % 7 := ⟨_, rfl⟩
  have HS := hid hs
  have hsm : (s + 6 - B) % 7 = 0 := by unfold wd at hs; omega
  obtain ⟨z, hz⟩ : ∃ z, z = wd N := ⟨_, rfl⟩
  rw [← hz] at D DB hs HS
  have n3 : 2 ≤ s ∧ s ≤ 3652046 := by omega
  have hs2 : s = N - (z - B) % 7 := by omega
  clear hz hs
  refine (D.out _).mono ?_
  rintro e1 w1 ⟨rfl, rfl⟩
  have W0 := hid (week_any s B)
  have W7 := hid (week_any (s + 7) B)
  have WI := hid (fun i (h0 : 0 ≤ i) (h6 : i ≤ 6) => week_any (s + i) B)
  have hse : Hid (∀ i, 0 ≤ i → i ≤ 6 → weekV B (s + i) = weekV B s) := by
    intro i h0 h6
    obtain ⟨e1, e2⟩ := Gp.same_week hsm (by omega) (show s + i ≤ 3652059 by omega) h0 h6
    rw [weekV_in ⟨by omega, by omega, n2.1, n2.2⟩, weekV_in ⟨by omega, by omega, n2.1, n2.2⟩, e1, e2]
  have hnx := Gp.next_week hsm (by omega) (show s + 7 ≤ 3652059 by omega)
  rw [weekV_in ⟨by omega, by omega, n2.1, n2.2⟩] at W0 W7
  rw [weekV_in (n := s) ⟨by omega, by omega, n2.1, n2.2⟩] at hse
  have hyb := Gp.wky_bd B (n := s) (by omega) (by omega)
  have LW := hid (fun y w (h1 : 1 ≤ y) (h2 : y ≤ 9999) => weeks_any y B w)
  have LE := hid (fun y (h1 : 1 ≤ y) (h2 : y ≤ 9999) => wksV_in (b := B) (y := y) ⟨h1, h2, n2.1, n2.2⟩)
  obtain ⟨L, hL⟩ : ∃ L, L = (Gp.beg B (Gp.wky B s + 1) - Gp.beg B (Gp.wky B s)) / 7 := ⟨_, rfl⟩
  rw [← hL] at hnx
  have HL := hid hL; clear hL
  obtain ⟨y2, hy2⟩ : ∃ y, y = Gp.wky B (s + 7) := ⟨_, rfl⟩
  obtain ⟨k2, hk2⟩ : ∃ y, y = Gp.wk B (s + 7) := ⟨_, rfl⟩
  obtain ⟨k, hk⟩ : ∃ y, y = Gp.wk B s := ⟨_, rfl⟩
  obtain ⟨y, hy⟩ : ∃ y, y = Gp.wky B s := ⟨_, rfl⟩
  rw [← hy2, ← hk2] at W7 hnx
  rw [← hk, ← hy] at hnx
  rw [← hk, ← hy] at W0 hse
  rw [← hy] at hyb HL
  have hy0 := hyb.1
  have hy1 := hyb.2.1
  clear hy2 hk2 hk hy hyb hsm
  have NX := hid hnx; clear hnx
  go_wp2_with fail
  rw [← hs2]
  have HS2 := hid hs2; clear hs2
  refine (W0.out _).mono ?_
  rintro e1 w2 ⟨rfl, hb2⟩
  go_wp2_with fail
  go_loopw [37] (fun v wr => ∃ i : Int, 0 ≤ i ∧ i ≤ 7 ∧ v = .int .i64 i ∧ Below w.heap.size w wr) (fun v _ => (7 - intOf v).toNat)
  case atStart => exact ⟨0, by omega, by omega, rfl, hb2⟩
  case round =>
    obtain ⟨i, hi0, hi7, rfl, hbr⟩ := hrel
    by_cases hlt : i < 7
    · have WW := hid (WI.out i hi0 (by omega))
      rw [hse.out i hi0 (by omega)] at WW
      go_wp2_with fail
      refine (WW.out _).mono ?_
      rintro e1 w3 ⟨rfl, hb3⟩
      go_wp2
      go_roundw
      case rel => exact ⟨i + 1, by omega, by omega, rfl, hbr.trans (hb3.mono hbr.size)⟩
      case measure => simp [intOf]; omega
    · have hi : i = 7 := by omega
      subst hi
      go_wp2_with fail
      refine (W7.out _).mono ?_
      rintro e1 w3 ⟨rfl, hb3⟩
      have hb4 := hbr.trans (hb3.mono hbr.size)
      by_cases c1 : y < 1
      · go_wp2_with fail
        refine (alive_any _).mono ?_
        rintro e1 w4 ⟨rfl, hb5⟩
        go_wp2
        go_ret
        exact ⟨rfl, hb4.trans (hb5.mono hb4.size)⟩
      · by_cases c2 : 9999 < y
        · go_wp2_with fail
          refine (alive_any _).mono ?_
          rintro e1 w4 ⟨rfl, hb5⟩
          go_wp2
          go_ret
          exact ⟨rfl, hb4.trans (hb5.mono hb4.size)⟩
        · have LL := hid (fun w => LW.out y w (by omega) (by omega))
          rw [LE.out y (by omega) (by omega), ← HL.out] at LL
          obtain ⟨f1, f2, f3, f4⟩ := NX.out
          go_wp2_with fail
          refine (LL.out _).mono ?_
          rintro e1 w4 ⟨rfl, rfl⟩
          rcases f3 with f3 | f3 <;> rcases f4 with ⟨f5, f6, f7⟩ | ⟨f5, f6, f7⟩
          all_goals
            go_wp2_with fail
            refine (alive_any _).mono ?_
            rintro e1 w5 ⟨rfl, hb5⟩
            go_wp2
            go_ret
            exact ⟨rfl, hb4.trans (hb5.mono hb4.size)⟩

set_option maxRecDepth 100000 in
theorem gregSeven_lifted (os : Os) (started : os.Started) (H : Type) (enc : TypeId × Value → H) :
    ReturnsInHanded {} Try.checked os 6 .any (Rows.gregSevenSpec.pre6 enc Try.prog Try.f6 Rows.gregSevenRow.domain false) (Rows.gregSevenSpec.post enc Try.prog Try.f6 false true false false) := by
  refine returnsInHanded_of_change (C := Try.checked) own started (by kernel_rfl) Try.func6
    (ChangeSpec.witness6 (enc := enc) (C := Try.checked) false ⟨#[], #[.int .i64 0, .int .i64 0], []⟩ 8 (by kernel_rfl) (by kernel_rfl) (by kernel_rfl) (by kernel_rfl)) ?_
  intro W base args ds gs before hval0 hW _ _
  have hval : ∀ (j : Nat) t v, Try.f6.params[j]? = some t → args[j]? = some v → Value.okWide Try.prog W .any base t v := hval0
  have hW' := hW
  obtain ⟨p, q, hA0, hV, rfl, hfz, hnd⟩ := hW
  have hA : DataW.TrodAll enc Try.prog W 0 (fun _ => true) true Try.f6.params.toList args.toList ds p := hA0
  rw [Try.params6] at hA hval
  obtain ⟨v0, v1, d0, d1, p0, p1, rfl, rfl, _, h0, h1⟩ := trodAll_two hA
  obtain ⟨n0, rfl, hn0, hx0⟩ := open_i64 (hval 0 3 v0 rfl rfl) h0
  obtain ⟨n1, rfl, hn1, hx1⟩ := open_i64 (hval 1 3 v1 rfl rfl) h1
  exact law_post hW' rfl rfl (by kernel_rfl) rfl rfl rfl (seven_law n0 n1 W)

theorem gregSeven_holds : Rows.GregSevenSaid :=
  OpenClaim.holds_of_wide 6 Try.f6 rfl rfl rfl rfl rfl rfl rfl ⟨rfl, rfl, rfl, rfl, rfl⟩ rfl rfl rfl rfl rfl (by kernel_rfl) Try.func6 (by kernel_rfl)
    (of_decide_eq_true (by kernel_rfl)) (by unfold Func.isWrapper; first | (rw [if_pos (by decide +kernel)]; kernel_rfl) | (rw [if_neg (by decide +kernel)]; exact ⟨rfl, rfl⟩))
    (fun os started H enc _ => gregSeven_lifted os started H enc)
#print axioms gregSeven_holds
end Go.Proofs.Ytefoajlmcdopiaa
