/-
  The walk over greg.Plus.
-/
import Derived.Test.YtefoajlmcdopiaaWi
import Derived.Deep.CutRange
namespace Go.Proofs.Ytefoajlmcdopiaa
open Go.RowKit

/-- The day some months on. -/
def plusV (y m d k : Int) : Value := if Gp.right y m d = true ∧ -120000 ≤ k ∧ k ≤ 120000 ∧ Gp.right ((12 * y + m - 1 + k) / 12) ((12 * y + m - 1 + k) % 12 + 1) d = true then dayV ((12 * y + m - 1 + k) / 12) ((12 * y + m - 1 + k) % 12 + 1) d else dayV 0 0 0

/-- A boxed day, and a result that is naught. -/
structure Box (W : World) (g : Nat) (y m d : Int) (w : World) : Prop where
  c0 : w.cell? ⟨g, 0, none⟩ = some (.int .i64 y)
  c1 : w.cell? ⟨g, 1, none⟩ = some (.int .i64 m)
  c2 : w.cell? ⟨g, 2, none⟩ = some (.int .i64 d)
  z0 : w.cell? ⟨g + 1, 0, none⟩ = some (.int .i64 0)
  z1 : w.cell? ⟨g + 1, 1, none⟩ = some (.int .i64 0)
  z2 : w.cell? ⟨g + 1, 2, none⟩ = some (.int .i64 0)
  zf : ∀ j, w.frozen? ⟨g + 1, j, none⟩ = false
  bel : Below W.heap.size W w
  sz : g + 1 < w.heap.size
theorem Box.below {W w w' : World} {g : Nat} {y m d : Int} (h : Box W g y m d w) (hb : Below w.heap.size w w') : Box W g y m d w' :=
  ⟨(hb.cell (p := ⟨g, 0, none⟩) (by have := h.sz; simp; omega)).trans h.c0, (hb.cell (p := ⟨g, 1, none⟩) (by have := h.sz; simp; omega)).trans h.c1, (hb.cell (p := ⟨g, 2, none⟩) (by have := h.sz; simp; omega)).trans h.c2,
   (hb.cell (p := ⟨g + 1, 0, none⟩) h.sz).trans h.z0, (hb.cell (p := ⟨g + 1, 1, none⟩) h.sz).trans h.z1, (hb.cell (p := ⟨g + 1, 2, none⟩) h.sz).trans h.z2,
   fun j => (hb.frozen (p := ⟨g + 1, j, none⟩) h.sz).trans (h.zf j), h.bel.trans (hb.mono h.bel.size), Nat.lt_of_lt_of_le h.sz hb.size⟩
theorem Box.drew {W w : World} {g : Nat} {y m d : Int} (h : Box W g y m d w) : Box W g y m d w.drew :=
  ⟨h.c0, h.c1, h.c2, h.z0, h.z1, h.z2, h.zf, h.bel.drew, h.sz⟩
theorem box_start (w : World) (y m d : Int) : Box w w.heap.size y m d ((w.alloc (.cells #[.int .i64 y, .int .i64 m, .int .i64 d] 23)).alloc (.cells #[.int .i64 0, .int .i64 0, .int .i64 0] 23)) := by
  refine ⟨?_, ?_, ?_, ?_, ?_, ?_, ?_, by go_grown, by simp⟩
  · rw [World.cell?_alloc_past _ _ _ (by simp), World.cell?_alloc_at _ _ _ _ rfl]; rfl
  · rw [World.cell?_alloc_past _ _ _ (by simp), World.cell?_alloc_at _ _ _ _ rfl]; rfl
  · rw [World.cell?_alloc_past _ _ _ (by simp), World.cell?_alloc_at _ _ _ _ rfl]; rfl
  · exact World.cell?_alloc_at _ _ _ _ (by simp)
  · exact World.cell?_alloc_at _ _ _ _ (by simp)
  · exact World.cell?_alloc_at _ _ _ _ (by simp)
  · intro j; exact World.frozen?_alloc2_new _ _ _ _

set_option maxHeartbeats 1000000 in
theorem plus_no (y m d k : Int) (w : World) (h : Gp.right y m d = false ∨ (Gp.right y m d = true ∧ 120000 < k) ∨ (Gp.right y m d = true ∧ k < -120000 ∧ k ≤ 120000)) :
    Calls Try.prog 26 #[dayV y m d, .int .i64 k] w fun e w' => e = .returned (plusV y m d k) ∧ Below w.heap.size w w' := by
  have e := hid (show plusV y m d k = dayV 0 0 0 by unfold plusV; rw [if_neg]; rintro ⟨a, b, c, _⟩; rw [a] at h; simp at h; omega)
  rw [e.out]
  have R := hid (right_any y m d)
  have BS := hid (box_start w y m d)
  unfold dayV at R ⊢
  rcases h with h | ⟨h, h2⟩ | ⟨h, h2, h3⟩
  all_goals
    rw [h] at R
    clear h
    go_enter Try.func26, Try.ntmps26
    go_wp2_with fail
    refine (R.out _).mono ?_
    rintro e1 w1 ⟨rfl, hb1⟩
    have X := hid (BS.out.below hb1)
    have z0 := X.out.z0
    have z1 := X.out.z1
    have z2 := X.out.z2
    have zf := X.out.zf
    go_wp2
    exact bodyPost_ret (v := .agg #[.int .i64 0, .int .i64 0, .int .i64 0]) (by simp [results, Try.results26, go_sem, z0, z1, z2]) rfl ⟨rfl, ((X.out.bel.setCell (by simp) _).setCell (by simp) _).setCell (by simp) _⟩
theorem plus_y (y m k : Int) (h1 : 1 ≤ y) (h2 : y ≤ 9999) (h3 : 1 ≤ m) (h4 : m ≤ 12) (h5 : -120000 ≤ k) (h6 : k ≤ 120000) : -120000 ≤ 12 * y + m - 1 + k ∧ 12 * y + m - 1 + k ≤ 240000 := by omega
set_option maxHeartbeats 4000000 in
theorem plus_in (y m d k : Int) (w : World) (h : Gp.right y m d = true) (h5 : -120000 ≤ k) (h6 : k ≤ 120000) :
    Calls Try.prog 26 #[dayV y m d, .int .i64 k] w fun e w' => e = .returned (plusV y m d k) ∧ Below w.heap.size w w' := by
  obtain ⟨h1, h2, h3, h4, _, _⟩ := (Gp.right_iff y m d).1 h
  have e : Hid (plusV y m d k = if Gp.right y m d = true ∧ -120000 ≤ k ∧ k ≤ 120000 ∧ Gp.right ((12 * y + m - 1 + k) / 12) ((12 * y + m - 1 + k) % 12 + 1) d = true then dayV ((12 * y + m - 1 + k) / 12) ((12 * y + m - 1 + k) % 12 + 1) d else dayV 0 0 0) := rfl
  have qb := plus_y y m k h1 h2 h3 h4 h5 h6
  have fl : Hid ((12 * y + m - 1 + k) % 12 + 1 = 12 * y + m - 1 + k - 12 * ((12 * y + m - 1 + k) / 12) + 1) := by show _ = _; omega
  rw [fl.out] at e
  have wr : IntKind.i64.wrap (12 * y + m - 1 + k) = 12 * y + m - 1 + k := IntWalk.i64_in _ (by omega)
  have F := hid (fun w => floor_any (12 * y + m - 1 + k) 12 w (by omega) (by omega) (by omega) (by omega))
  have qd : -10000 ≤ (12 * y + m - 1 + k) / 12 ∧ (12 * y + m - 1 + k) / 12 ≤ 20000 := by omega
  obtain ⟨K, hK⟩ : ∃ K, K = 12 * y + m - 1 + k := ⟨_, rfl⟩
  have HK := hid hK
  rw [← hK] at F e qb qd
  obtain ⟨Y, hY⟩ : ∃ Y, Y = K / 12 := ⟨_, rfl⟩
  rw [← hY] at F e qd
  have HR := hid h
  have R := hid (right_any y m d)
  have R2 := hid (right_any Y (K - 12 * Y + 1) d)
  have BS := hid (box_start w y m d)
  rw [h] at R
  clear h hK hY wr
  unfold dayV at R R2 ⊢
  go_enter Try.func26, Try.ntmps26
  go_wp2_with fail
  refine (R.out _).mono ?_
  rintro e1 w1 ⟨rfl, hb1⟩
  have X := hid (BS.out.below hb1)
  have c0 := X.out.c0
  have c1 := X.out.c1
  have c2 := X.out.c2
  go_wp2_with fail
  rw [← HK.out]
  have w1' : IntKind.i64.wrap (12 * Y) = 12 * Y := IntWalk.i64_in _ (by omega)
  have w2' : IntKind.i64.wrap (K - 12 * Y) = K - 12 * Y := IntWalk.i64_in _ (by omega)
  have w3' : IntKind.i64.wrap (K - 12 * Y + 1) = K - 12 * Y + 1 := IntWalk.i64_in _ (by omega)
  have hs1 := X.out.sz
  have hs0 : w.heap.size < w1.heap.size := by omega
  clear h5 h6 fl
  go_cut [6] from 28 to 38 (fun a wx => a = .pointer (some ⟨w1.heap.size, 0, none⟩) ∧ wx = (w1.alloc (.cells #[.int .i64 Y, .int .i64 (K - 12 * Y + 1), .int .i64 d] 23)).drew)
  case first =>
    go_region_with (go_at_call 38; refine (F.out _).mono ?_; rintro e1 w3 ⟨rfl, rfl⟩)
    all_goals (go_wp2_with fail; go_meet; exact ⟨rfl, rfl⟩)
  case rest =>
    obtain ⟨rfl, rfl⟩ := hcut
    have X2 := hid (X.out.below ((alloc_below w1 (.cells #[.int .i64 Y, .int .i64 (K - 12 * Y + 1), .int .i64 d] 23)).drew))
    have nc := day_new w1 Y (K - 12 * Y + 1) d
    have nc0 := nc.1
    have nc1 := nc.2.1
    have nc2 := nc.2.2
    clear nc w1' w2' w3' c0 c1 c2 hs0 hs1
    go_wp2_with fail
    refine (R2.out _).mono ?_
    rintro e1 w2 ⟨rfl, hb2⟩
    have X3 := hid (X2.out.below hb2)
    have m0 := (hb2.cell (p := ⟨w1.heap.size, 0, none⟩) (by simp)).trans nc0
    have m1 := (hb2.cell (p := ⟨w1.heap.size, 1, none⟩) (by simp)).trans nc1
    have m2 := (hb2.cell (p := ⟨w1.heap.size, 2, none⟩) (by simp)).trans nc2
    have z0 := X3.out.z0
    have z1 := X3.out.z1
    have z2 := X3.out.z2
    have zf := X3.out.zf
    clear nc0 nc1 nc2
    cases hr2 : Gp.right Y (K - 12 * Y + 1) d with
    | true =>
      have e2 := hid (show plusV y m d k = dayV Y (K - 12 * Y + 1) d by rw [e.out, if_pos ⟨HR.out, by omega, by omega, hr2⟩])
      clear hr2
      unfold dayV at e2
      go_wp2
      exact bodyPost_ret (v := .agg #[.int .i64 Y, .int .i64 (K - 12 * Y + 1), .int .i64 d]) (by simp [results, Try.results26, go_sem, z0, z1, z2]) rfl ⟨by rw [e2.out], ((X3.out.bel.setCell (by simp) _).setCell (by simp) _).setCell (by simp) _⟩
    | false =>
      have e2 := hid (show plusV y m d k = dayV 0 0 0 by rw [e.out, if_neg (by rw [hr2]; simp)])
      clear hr2
      unfold dayV at e2
      go_wp2
      exact bodyPost_ret (v := .agg #[.int .i64 0, .int .i64 0, .int .i64 0]) (by simp [results, Try.results26, go_sem, z0, z1, z2]) rfl ⟨by rw [e2.out], ((X3.out.bel.setCell (by simp) _).setCell (by simp) _).setCell (by simp) _⟩
theorem plus_any (y m d k : Int) (w : World) : Calls Try.prog 26 #[dayV y m d, .int .i64 k] w fun e w' => e = .returned (plusV y m d k) ∧ Below w.heap.size w w' := by
  cases hr : Gp.right y m d with
  | false => exact plus_no y m d k w (.inl hr)
  | true =>
    by_cases h1 : 120000 < k
    · exact plus_no y m d k w (.inr (.inl ⟨hr, h1⟩))
    · by_cases h2 : k < -120000
      · exact plus_no y m d k w (.inr (.inr ⟨hr, h2, by omega⟩))
      · exact plus_in y m d k w hr (by omega) (by omega)
end Go.Proofs.Ytefoajlmcdopiaa
