/-
  The walk over the reference's Plus.
-/
import Derived.Test.YtefoajlmcdopiaaWk
namespace Go.Proofs.Ytefoajlmcdopiaa
open Go.RowKit

theorem tdm12 (k : Int) : k = 12 * k.tdiv 12 + k.tmod 12 ∧ -12 < k.tmod 12 ∧ k.tmod 12 < 12 := by
  have h := Int.mul_tdiv_add_tmod k 12
  have h2 : k.tmod 12 < 12 := Int.tmod_lt_of_pos k (by omega)
  have h3 : (-k).tmod 12 < 12 := Int.tmod_lt_of_pos (-k) (by omega)
  rw [Int.neg_tmod] at h3
  omega
theorem plusV_eq {y m d k Y M : Int} (h : Gp.right y m d = true) (hY : 12 * Y + M = 12 * y + m + k) (h1 : 1 ≤ M) (h2 : M ≤ 12) : plusV y m d k = if Gp.right Y M d then dayV Y M d else dayV 0 0 0 := by
  obtain ⟨a1, a2, a3, a4, _, _⟩ := (Gp.right_iff y m d).1 h
  have e1 : (12 * y + m - 1 + k) / 12 = Y := by omega
  have e2 : (12 * y + m - 1 + k) % 12 + 1 = M := by omega
  unfold plusV
  rw [e1, e2, h]
  cases hr : Gp.right Y M d with
  | false => simp
  | true =>
    obtain ⟨b1, b2, _, _, _, _⟩ := (Gp.right_iff Y M d).1 hr
    rw [if_pos ⟨rfl, by omega, by omega, rfl⟩]; rfl
theorem plusV_far {y m d k : Int} (hk : k < -200000 ∨ 200000 < k) : plusV y m d k = dayV 0 0 0 := by
  unfold plusV; rw [if_neg]; rintro ⟨_, a, b, _⟩; omega
theorem plusV_not {y m d k : Int} (h : Gp.right y m d = false) : plusV y m d k = dayV 0 0 0 := by
  unfold plusV; rw [if_neg]; rintro ⟨a, _⟩; rw [h] at a; cases a

set_option maxHeartbeats 1000000 in
theorem rplus_no (y m d k : Int) (w : World) (h : Gp.right y m d = false ∨ (Gp.right y m d = true ∧ k < -200000) ∨ (Gp.right y m d = true ∧ ¬ k < -200000 ∧ 200000 < k)) :
    Calls Try.prog 29 #[dayV y m d, .int .i64 k] w fun e w' => e = .returned (plusV y m d k) ∧ Below w.heap.size w w' := by
  have e := hid (show plusV y m d k = dayV 0 0 0 by rcases h with h | ⟨h, h2⟩ | ⟨h, _, h2⟩; exact plusV_not h; exact plusV_far (.inl h2); exact plusV_far (.inr h2))
  rw [e.out]
  have R := hid (rright_any y m d)
  have BS := hid (box_start w y m d)
  unfold dayV at R ⊢
  rcases h with h | ⟨h, h2⟩ | ⟨h, h2, h3⟩
  all_goals
    rw [h] at R
    clear h
    go_enter Try.func29, Try.ntmps29
    go_wp2_with fail
    refine (R.out _).mono ?_
    rintro e1 w1 ⟨rfl, hb1⟩
    have X := hid (BS.out.below hb1)
    have z0 := X.out.z0
    have z1 := X.out.z1
    have z2 := X.out.z2
    have zf := X.out.zf
    go_wp2
    exact bodyPost_ret (v := .agg #[.int .i64 0, .int .i64 0, .int .i64 0]) (by simp [results, Try.results29, go_sem, z0, z1, z2]) rfl ⟨rfl, ((X.out.bel.setCell (by simp) _).setCell (by simp) _).setCell (by simp) _⟩
set_option maxHeartbeats 1000000 in
theorem rplus_lo (y m d k q r : Int) (w : World) (h : Gp.right y m d = true) (h5 : -200000 ≤ k) (h6 : k ≤ 200000) (hq : k.tdiv 12 = q) (hr : k.tmod 12 = r) (hk : k = 12 * q + r) (c0 : -12 < r) (c1 : r < 12) (a : m + r < 1) :
    Calls Try.prog 29 #[dayV y m d, .int .i64 k] w fun e w' => e = .returned (plusV y m d k) ∧ Below w.heap.size w w' := by
  obtain ⟨g1, g2, g3, g4, _, _⟩ := (Gp.right_iff y m d).1 h
  have q1 : -16667 ≤ q ∧ q ≤ 16667 := by omega
  have E := hid (plusV_eq (Y := y + q - 1) (M := m + r + 12) h (show 12 * (y + q - 1) + (m + r + 12) = 12 * y + m + k by omega) (by omega) (by omega))
  have R := hid (rright_any y m d)
  have R2 := hid (rright_any (y + q - 1) (m + r + 12) d)
  have BS := hid (box_start w y m d)
  rw [h] at R
  clear h hk
  unfold dayV at R R2 ⊢
  go_enter Try.func29, Try.ntmps29
  go_wp2_with fail
  refine (R.out _).mono ?_
  rintro e1 w1 ⟨rfl, hb1⟩
  have X := hid (BS.out.below hb1)
  have x0 := X.out.c0
  have x1 := X.out.c1
  have x2 := X.out.c2
  go_wp2_with fail
  refine (R2.out _).mono ?_
  rintro e1 w2 ⟨rfl, hb2⟩
  have X2 := hid (X.out.below (alloc_below w1 (.cells #[.int .i64 (y + q - 1), .int .i64 (m + r + 12), .int .i64 d] 23)))
  have nc := day_new w1 (y + q - 1) (m + r + 12) d
  have nc0 := nc.1
  have nc1 := nc.2.1
  have nc2 := nc.2.2
  clear nc x0 x1 x2
  have X3 := hid (X2.out.below hb2)
  have m0 := (hb2.cell (p := ⟨w1.heap.size, 0, none⟩) (by simp)).trans nc0
  have m1 := (hb2.cell (p := ⟨w1.heap.size, 1, none⟩) (by simp)).trans nc1
  have m2 := (hb2.cell (p := ⟨w1.heap.size, 2, none⟩) (by simp)).trans nc2
  have z0 := X3.out.z0
  have z1 := X3.out.z1
  have z2 := X3.out.z2
  have zf := X3.out.zf
  clear nc0 nc1 nc2
  have hs1 := X.out.sz
  have hs0 : w.heap.size < w1.heap.size := by omega
  cases hr2 : Gp.right (y + q - 1) (m + r + 12) d with
  | true =>
    have e2 := hid (show plusV y m d k = dayV (y + q - 1) (m + r + 12) d by rw [E.out, hr2]; rfl)
    clear hr2
    unfold dayV at e2
    go_wp2
    exact bodyPost_ret (v := .agg #[.int .i64 (y + q - 1), .int .i64 (m + r + 12), .int .i64 d]) (by simp [results, Try.results29, go_sem, z0, z1, z2]) rfl ⟨by rw [e2.out], ((X3.out.bel.setCell (by simp) _).setCell (by simp) _).setCell (by simp) _⟩
  | false =>
    have e2 := hid (show plusV y m d k = dayV 0 0 0 by rw [E.out, hr2]; rfl)
    clear hr2
    unfold dayV at e2
    go_wp2
    exact bodyPost_ret (v := .agg #[.int .i64 0, .int .i64 0, .int .i64 0]) (by simp [results, Try.results29, go_sem, z0, z1, z2]) rfl ⟨by rw [e2.out], ((X3.out.bel.setCell (by simp) _).setCell (by simp) _).setCell (by simp) _⟩
set_option maxHeartbeats 1000000 in
theorem rplus_hi (y m d k q r : Int) (w : World) (h : Gp.right y m d = true) (h5 : -200000 ≤ k) (h6 : k ≤ 200000) (hq : k.tdiv 12 = q) (hr : k.tmod 12 = r) (hk : k = 12 * q + r) (c0 : -12 < r) (c1 : r < 12) (b : 12 < m + r) :
    Calls Try.prog 29 #[dayV y m d, .int .i64 k] w fun e w' => e = .returned (plusV y m d k) ∧ Below w.heap.size w w' := by
  obtain ⟨g1, g2, g3, g4, _, _⟩ := (Gp.right_iff y m d).1 h
  have q1 : -16667 ≤ q ∧ q ≤ 16667 := by omega
  have E := hid (plusV_eq (Y := y + q + 1) (M := m + r - 12) h (show 12 * (y + q + 1) + (m + r - 12) = 12 * y + m + k by omega) (by omega) (by omega))
  have R := hid (rright_any y m d)
  have R2 := hid (rright_any (y + q + 1) (m + r - 12) d)
  have BS := hid (box_start w y m d)
  rw [h] at R
  clear h hk
  unfold dayV at R R2 ⊢
  go_enter Try.func29, Try.ntmps29
  go_wp2_with fail
  refine (R.out _).mono ?_
  rintro e1 w1 ⟨rfl, hb1⟩
  have X := hid (BS.out.below hb1)
  have x0 := X.out.c0
  have x1 := X.out.c1
  have x2 := X.out.c2
  go_wp2_with fail
  refine (R2.out _).mono ?_
  rintro e1 w2 ⟨rfl, hb2⟩
  have X2 := hid (X.out.below (alloc_below w1 (.cells #[.int .i64 (y + q + 1), .int .i64 (m + r - 12), .int .i64 d] 23)))
  have nc := day_new w1 (y + q + 1) (m + r - 12) d
  have nc0 := nc.1
  have nc1 := nc.2.1
  have nc2 := nc.2.2
  clear nc x0 x1 x2
  have X3 := hid (X2.out.below hb2)
  have m0 := (hb2.cell (p := ⟨w1.heap.size, 0, none⟩) (by simp)).trans nc0
  have m1 := (hb2.cell (p := ⟨w1.heap.size, 1, none⟩) (by simp)).trans nc1
  have m2 := (hb2.cell (p := ⟨w1.heap.size, 2, none⟩) (by simp)).trans nc2
  have z0 := X3.out.z0
  have z1 := X3.out.z1
  have z2 := X3.out.z2
  have zf := X3.out.zf
  clear nc0 nc1 nc2
  have hs1 := X.out.sz
  have hs0 : w.heap.size < w1.heap.size := by omega
  cases hr2 : Gp.right (y + q + 1) (m + r - 12) d with
  | true =>
    have e2 := hid (show plusV y m d k = dayV (y + q + 1) (m + r - 12) d by rw [E.out, hr2]; rfl)
    clear hr2
    unfold dayV at e2
    go_wp2
    exact bodyPost_ret (v := .agg #[.int .i64 (y + q + 1), .int .i64 (m + r - 12), .int .i64 d]) (by simp [results, Try.results29, go_sem, z0, z1, z2]) rfl ⟨by rw [e2.out], ((X3.out.bel.setCell (by simp) _).setCell (by simp) _).setCell (by simp) _⟩
  | false =>
    have e2 := hid (show plusV y m d k = dayV 0 0 0 by rw [E.out, hr2]; rfl)
    clear hr2
    unfold dayV at e2
    go_wp2
    exact bodyPost_ret (v := .agg #[.int .i64 0, .int .i64 0, .int .i64 0]) (by simp [results, Try.results29, go_sem, z0, z1, z2]) rfl ⟨by rw [e2.out], ((X3.out.bel.setCell (by simp) _).setCell (by simp) _).setCell (by simp) _⟩
set_option maxHeartbeats 1000000 in
theorem rplus_mid (y m d k q r : Int) (w : World) (h : Gp.right y m d = true) (h5 : -200000 ≤ k) (h6 : k ≤ 200000) (hq : k.tdiv 12 = q) (hr : k.tmod 12 = r) (hk : k = 12 * q + r)  (a : ¬ m + r < 1) (b : ¬ 12 < m + r) :
    Calls Try.prog 29 #[dayV y m d, .int .i64 k] w fun e w' => e = .returned (plusV y m d k) ∧ Below w.heap.size w w' := by
  obtain ⟨g1, g2, g3, g4, _, _⟩ := (Gp.right_iff y m d).1 h
  have q1 : -16667 ≤ q ∧ q ≤ 16667 := by omega
  have E := hid (plusV_eq (Y := y + q) (M := m + r) h (show 12 * (y + q) + (m + r) = 12 * y + m + k by omega) (by omega) (by omega))
  have R := hid (rright_any y m d)
  have R2 := hid (rright_any (y + q) (m + r) d)
  have BS := hid (box_start w y m d)
  rw [h] at R
  clear h hk
  unfold dayV at R R2 ⊢
  go_enter Try.func29, Try.ntmps29
  go_wp2_with fail
  refine (R.out _).mono ?_
  rintro e1 w1 ⟨rfl, hb1⟩
  have X := hid (BS.out.below hb1)
  have x0 := X.out.c0
  have x1 := X.out.c1
  have x2 := X.out.c2
  go_wp2_with fail
  refine (R2.out _).mono ?_
  rintro e1 w2 ⟨rfl, hb2⟩
  have X2 := hid (X.out.below (alloc_below w1 (.cells #[.int .i64 (y + q), .int .i64 (m + r), .int .i64 d] 23)))
  have nc := day_new w1 (y + q) (m + r) d
  have nc0 := nc.1
  have nc1 := nc.2.1
  have nc2 := nc.2.2
  clear nc x0 x1 x2
  have X3 := hid (X2.out.below hb2)
  have m0 := (hb2.cell (p := ⟨w1.heap.size, 0, none⟩) (by simp)).trans nc0
  have m1 := (hb2.cell (p := ⟨w1.heap.size, 1, none⟩) (by simp)).trans nc1
  have m2 := (hb2.cell (p := ⟨w1.heap.size, 2, none⟩) (by simp)).trans nc2
  have z0 := X3.out.z0
  have z1 := X3.out.z1
  have z2 := X3.out.z2
  have zf := X3.out.zf
  clear nc0 nc1 nc2
  have hs1 := X.out.sz
  have hs0 : w.heap.size < w1.heap.size := by omega
  cases hr2 : Gp.right (y + q) (m + r) d with
  | true =>
    have e2 := hid (show plusV y m d k = dayV (y + q) (m + r) d by rw [E.out, hr2]; rfl)
    clear hr2
    unfold dayV at e2
    go_wp2
    exact bodyPost_ret (v := .agg #[.int .i64 (y + q), .int .i64 (m + r), .int .i64 d]) (by simp [results, Try.results29, go_sem, z0, z1, z2]) rfl ⟨by rw [e2.out], ((X3.out.bel.setCell (by simp) _).setCell (by simp) _).setCell (by simp) _⟩
  | false =>
    have e2 := hid (show plusV y m d k = dayV 0 0 0 by rw [E.out, hr2]; rfl)
    clear hr2
    unfold dayV at e2
    go_wp2
    exact bodyPost_ret (v := .agg #[.int .i64 0, .int .i64 0, .int .i64 0]) (by simp [results, Try.results29, go_sem, z0, z1, z2]) rfl ⟨by rw [e2.out], ((X3.out.bel.setCell (by simp) _).setCell (by simp) _).setCell (by simp) _⟩
theorem rplus_any (y m d k : Int) (w : World) : Calls Try.prog 29 #[dayV y m d, .int .i64 k] w fun e w' => e = .returned (plusV y m d k) ∧ Below w.heap.size w w' := by
  cases hr : Gp.right y m d with
  | false => exact rplus_no y m d k w (.inl hr)
  | true =>
    by_cases h1 : k < -200000
    · exact rplus_no y m d k w (.inr (.inl ⟨hr, h1⟩))
    · by_cases h2 : 200000 < k
      · exact rplus_no y m d k w (.inr (.inr ⟨hr, h1, h2⟩))
      · obtain ⟨k1, k2, k3⟩ := tdm12 k
        by_cases a : m + k.tmod 12 < 1
        · exact rplus_lo y m d k _ _ w hr (by omega) (by omega) rfl rfl k1 k2 k3 a
        · by_cases b : 12 < m + k.tmod 12
          · exact rplus_hi y m d k _ _ w hr (by omega) (by omega) rfl rfl k1 k2 k3 b
          · exact rplus_mid y m d k _ _ w hr (by omega) (by omega) rfl rfl k1 a b
end Go.Proofs.Ytefoajlmcdopiaa
