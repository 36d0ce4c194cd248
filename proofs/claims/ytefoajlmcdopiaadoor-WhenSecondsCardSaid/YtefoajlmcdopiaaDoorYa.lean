/-
  What every law asks besides: the chapter's examples.
-/
import Derived.Test.YtefoajlmcdopiaaDoorWy
namespace Go.Proofs.YtefoajlmcdopiaaDoor
open Go.RowKit

theorem ex_t (w : World) : Calls Tryd.prog 23 #[.string ⟨#[49, 57, 57, 56, 48, 49, 49, 56, 84, 50, 51, 48, 48, 48, 48, 90]⟩] w fun e w' => e = .returned (.tuple #[timeV 1998 1 18 23 0 0 false true, .nilIface]) ∧ Below w.heap.size w w' := by
  rw [← pv_al]; exact parse_any _ w (by decide)
theorem ex_n (w : World) : Calls Tryd.prog 9 #[.string ⟨#[80, 49, 68, 84, 50, 72]⟩] w fun e w' => e = .returned (.tuple #[.int .i64 93600, .nilIface]) ∧ Below w.heap.size w w' := by
  rw [← sp_al]; exact span_any _ w (by decide)
theorem ps_a : bs ([80] ++ Tw.spanT 93600) = ⟨#[80, 49, 68, 84, 50, 72]⟩ := by kernel_rfl
theorem ps_b : bs ([80] ++ Tw.spanT 1209600) = ⟨#[80, 50, 87]⟩ := by kernel_rfl
theorem ex_s (w : World) (hT : TabAt w) : Calls Tryd.prog 13 #[.int .i64 93600] w fun e w' => e = .returned (.tuple #[.string ⟨#[80, 49, 68, 84, 50, 72]⟩, .nilIface]) ∧ Below w.heap.size w w' := by
  rw [← ps_a]; exact ps_yes 93600 93600 [80] w (Or.inl ⟨rfl, rfl⟩) (by decide) (by decide) hT
theorem ex_u (w : World) (hT : TabAt w) : Calls Tryd.prog 13 #[.int .i64 1209600] w fun e w' => e = .returned (.tuple #[.string ⟨#[80, 50, 87]⟩, .nilIface]) ∧ Below w.heap.size w w' := by
  rw [← ps_b]; exact ps_yes 1209600 1209600 [80] w (Or.inl ⟨rfl, rfl⟩) (by decide) (by decide) hT
theorem ex_a (w : World) : Calls Tryd.prog 18 #[timeV 1997 1 1 18 0 0 false true] w fun e w' => e = .returned (.int .i64 62987738400) ∧ Below w.heap.size w w' := by
  rw [← sec_a]; exact seconds_any _ _ _ _ _ _ _ _ w
theorem ex_b (w : World) : Calls Tryd.prog 18 #[timeV 1997 1 1 19 0 0 false true] w fun e w' => e = .returned (.int .i64 62987742000) ∧ Below w.heap.size w w' := by
  rw [← sec_b]; exact seconds_any _ _ _ _ _ _ _ _ w
set_option maxHeartbeats 4000000 in
set_option maxRecDepth 100000 in
theorem alive_any (w : World) (hT : TabAt w) : Calls Tryd.prog 8 #[] w fun e w' => e = .returned (.bool true) ∧ Below w.heap.size w w' := by
  have T := hid hT
  have F1 := ex_t
  have F2 := hid ex_n
  have F3 := hid ex_s
  have F4 := hid ex_u
  have F5 := per_al
  have F6 := ex_a
  have F7 := ex_b
  unfold timeV at F1 F5 F6 F7
  have F1 := hid F1
  have F5 := hid F5
  have F6 := hid F6
  have F7 := hid F7
  clear hT
  go_enter Tryd.func8, Tryd.ntmps8
  go_wp2_with fail
  refine (F1.out _).mono ?_
  rintro e1 w1 ⟨rfl, hb⟩
  have X := hid (timeIn_new w1 1998 1 18 23 0 0 false true)
  have bb := hb.trans ((alloc_below w1 (timeC 1998 1 18 23 0 0 false true)).mono hb.size)
  have T1 := hid (T.out.below bb)
  have HB1 := hid bb
  clear hb bb T F1
  unfold timeC at X T1 HB1
  go_upto_region 2 with fail
  obtain ⟨v1, hv1⟩ : ∃ v, w1.alloc (.cells #[.int .i64 1998, .int .i64 1, .int .i64 18, .int .i64 23, .int .i64 0, .int .i64 0, .bool false, .bool true] 38) = v := ⟨_, rfl⟩
  obtain ⟨gt, hgt⟩ : ∃ g, w1.heap.size = g := ⟨_, rfl⟩
  rw [hgt, hv1] at X
  rw [hv1] at T1 HB1
  rw [hgt, hv1]
  clear hv1 hgt
  go_wp2_with fail
  refine (F2.out _).mono ?_
  rintro e1 w2 ⟨rfl, hb⟩
  have X2 := hid (X.out.below hb)
  have T2 := hid (T1.out.below hb)
  have HB2 := hid (HB1.out.trans (hb.mono HB1.out.size))
  clear hb X T1 HB1 F2
  go_wp2_with fail
  refine (F3.out _ T2.out).mono ?_
  rintro e1 w3 ⟨rfl, hb⟩
  have X3 := hid (X2.out.below hb)
  have T3 := hid (T2.out.below hb)
  have HB3 := hid (HB2.out.trans (hb.mono HB2.out.size))
  clear hb X2 T2 HB2 F3
  go_wp2_with fail
  refine (F4.out _ T3.out).mono ?_
  rintro e1 w4 ⟨rfl, hb⟩
  have X4 := hid (X3.out.below hb)
  have HB4 := hid (HB3.out.trans (hb.mono HB3.out.size))
  clear hb X3 T3 HB3 F4
  go_wp2_with fail
  refine (F5.out _).mono ?_
  rintro e1 w5 ⟨rfl, hb⟩
  have X5 := hid (X4.out.below (hb.trans (((alloc_below w5 (timeC 1997 1 1 18 0 0 false true)).trans ((alloc_below _ (timeC 1997 1 1 19 0 0 false true)).mono (alloc_below w5 (timeC 1997 1 1 18 0 0 false true)).size)).mono hb.size)))
  have HB5 := hid (HB4.out.trans ((hb.trans (((alloc_below w5 (timeC 1997 1 1 18 0 0 false true)).trans ((alloc_below _ (timeC 1997 1 1 19 0 0 false true)).mono (alloc_below w5 (timeC 1997 1 1 18 0 0 false true)).size)).mono hb.size)).mono HB4.out.size))
  have X := hid ((timeIn_new w5 1997 1 1 18 0 0 false true).below (alloc_below _ (timeC 1997 1 1 19 0 0 false true)))
  have Y := timeIn_new (w5.alloc (timeC 1997 1 1 18 0 0 false true)) 1997 1 1 19 0 0 false true
  rw [show (w5.alloc (timeC 1997 1 1 18 0 0 false true)).heap.size = w5.heap.size + 1 by simp] at Y
  have Y := hid Y
  clear hb X4 HB4 F5
  unfold timeC at X5 HB5 X Y
  go_upto_region 6 with fail
  obtain ⟨w6, hw6⟩ : ∃ v, (w5.alloc (.cells #[.int .i64 1997, .int .i64 1, .int .i64 1, .int .i64 18, .int .i64 0, .int .i64 0, .bool false, .bool true] 38)).alloc (.cells #[.int .i64 1997, .int .i64 1, .int .i64 1, .int .i64 19, .int .i64 0, .int .i64 0, .bool false, .bool true] 38) = v := ⟨_, rfl⟩
  obtain ⟨gb, hgb⟩ : ∃ g, w5.heap.size + 1 = g := ⟨_, rfl⟩
  rw [hgb, hw6] at Y
  rw [hgb, hw6]
  obtain ⟨ga, hga⟩ : ∃ g, w5.heap.size = g := ⟨_, rfl⟩
  rw [hga, hw6] at X
  rw [hw6] at X5 HB5
  rw [hga]
  clear hga hgb hw6
  have a0 := fun (s : Wl (Below w6.heap.size w6)) => s.cell (p := ⟨ga, 0, none⟩) X.out.sz X.out.c0
  have b0 := fun (s : Wl (Below w6.heap.size w6)) => s.cell (p := ⟨gb, 0, none⟩) Y.out.sz Y.out.c0
  have a1 := fun (s : Wl (Below w6.heap.size w6)) => s.cell (p := ⟨ga, 1, none⟩) X.out.sz X.out.c1
  have b1 := fun (s : Wl (Below w6.heap.size w6)) => s.cell (p := ⟨gb, 1, none⟩) Y.out.sz Y.out.c1
  have a2 := fun (s : Wl (Below w6.heap.size w6)) => s.cell (p := ⟨ga, 2, none⟩) X.out.sz X.out.c2
  have b2 := fun (s : Wl (Below w6.heap.size w6)) => s.cell (p := ⟨gb, 2, none⟩) Y.out.sz Y.out.c2
  have a3 := fun (s : Wl (Below w6.heap.size w6)) => s.cell (p := ⟨ga, 3, none⟩) X.out.sz X.out.c3
  have b3 := fun (s : Wl (Below w6.heap.size w6)) => s.cell (p := ⟨gb, 3, none⟩) Y.out.sz Y.out.c3
  have a4 := fun (s : Wl (Below w6.heap.size w6)) => s.cell (p := ⟨ga, 4, none⟩) X.out.sz X.out.c4
  have b4 := fun (s : Wl (Below w6.heap.size w6)) => s.cell (p := ⟨gb, 4, none⟩) Y.out.sz Y.out.c4
  have a5 := fun (s : Wl (Below w6.heap.size w6)) => s.cell (p := ⟨ga, 5, none⟩) X.out.sz X.out.c5
  have b5 := fun (s : Wl (Below w6.heap.size w6)) => s.cell (p := ⟨gb, 5, none⟩) Y.out.sz Y.out.c5
  have a6 := fun (s : Wl (Below w6.heap.size w6)) => s.cell (p := ⟨ga, 6, none⟩) X.out.sz X.out.c6
  have b6 := fun (s : Wl (Below w6.heap.size w6)) => s.cell (p := ⟨gb, 6, none⟩) Y.out.sz Y.out.c6
  have a7 := fun (s : Wl (Below w6.heap.size w6)) => s.cell (p := ⟨ga, 7, none⟩) X.out.sz X.out.c7
  have b7 := fun (s : Wl (Below w6.heap.size w6)) => s.cell (p := ⟨gb, 7, none⟩) Y.out.sz Y.out.c7
  have t3 := fun (s : Wl (Below w6.heap.size w6)) => s.cell (p := ⟨gt, 3, none⟩) X5.out.sz X5.out.c3
  have t7 := fun (s : Wl (Below w6.heap.size w6)) => s.cell (p := ⟨gt, 7, none⟩) X5.out.sz X5.out.c7
  refine wp_region_class (Below w6.heap.size w6) (by kernel_rfl) (by kernel_rfl) (Below.refl _ _).drew ?_
  repeat (go_big_quiet_step (first | (go_at_call 17; with_reducible exact Wl.same (no_nil _)) | (go_at_call 18; first | with_reducible exact Wl.below (Nat.le_refl _) (F6.out _) | with_reducible exact Wl.below (Nat.le_refl _) (F7.out _))))
  refine wpQuiet_nil ?_
  intro w7 hw7
  go_wp2
  go_ret
  exact ⟨rfl, HB5.out.trans (hw7.mono HB5.out.size)⟩
end Go.Proofs.YtefoajlmcdopiaaDoor
