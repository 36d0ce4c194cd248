/-
  The law of times read and told as the document says: proved for all inputs.
-/
import Derived.Test.YtefoajlmcdopiaaDoorOb
import Derived.Test.YtefoajlmcdopiaaDoorTie
import Derived.Test.YtefoajlmcdopiaaDoorCards
import Derived.SevenTiedAt
import Derived.Test.YtefoajlmcdopiaaDoorRp
import Derived.Test.YtefoajlmcdopiaaDoorYa
namespace Go.Proofs.YtefoajlmcdopiaaDoor
open Go.ChangeShapes Go.WideShapes Go.ChangeAt Go.RowKit

theorem reads_parse (l : List UInt8) : ∃ (y m d h mi s : Int) (b u : Bool) (er : Value) (k : Nat), parseV l = .tuple #[timeV y m d h mi s b u, er] ∧ rparseV l = .tuple #[timeV y m d h mi s b u, .int .i64 k] ∧
    (∀ w, Calls Tryd.prog 17 #[er] w fun e w' => e = .returned (.int .i64 k) ∧ w = w') := by
  unfold parseV rparseV
  by_cases hp : Tw.pR l = true
  · rw [if_pos hp, if_pos hp]
    exact ⟨_, _, _, _, _, _, _, _, .nilIface, 0, rfl, rfl, fun w => no_nil w⟩
  · rw [if_neg hp, if_neg hp]
    exact ⟨0, 0, 0, 0, 0, 0, false, false, errno 11, 11, rfl, rfl, fun w => no_errno 11 w (by decide) (by decide)⟩
theorem reads_print (y m d h mi s : Int) (b u : Bool) : ∃ (tx : List UInt8) (er : Value) (k : Nat), tx.length ≤ 16 ∧
    (∀ w, TabAt w → Calls Tryd.prog 25 #[timeV y m d h mi s b u] w fun e w' => e = .returned (.tuple #[.string (bs tx), er]) ∧ Below w.heap.size w w') ∧
    (∀ w, Calls Tryd.prog 26 #[timeV y m d h mi s b u] w fun e w' => e = .returned (.tuple #[.string (bs tx), .int .i64 k]) ∧ Below w.heap.size w w') ∧
    (∀ w, Calls Tryd.prog 17 #[er] w fun e w' => e = .returned (.int .i64 k) ∧ w = w') := by
  cases hr : trightB y m d h mi s b u with
  | false => exact ⟨[], errno 2, 2, by simp, fun w _ => print_no y m d h mi s b u w hr, fun w => rprint_no y m d h mi s b u w hr, fun w => no_errno 2 w (by decide) (by decide)⟩
  | true =>
    obtain ⟨y1, m1, d1, h1, i1, s1, rfl, rfl, rfl, rfl, rfl, rfl⟩ := ge_nat0 hr
    refine ⟨Tw.print y1 m1 d1 h1 i1 s1 b u, .nilIface, 0, (pR_print y1 m1 d1 h1 i1 s1 b u hr).2.2, fun w hT => ?_, fun w => rprint_yes y1 m1 d1 h1 i1 s1 b u w hr, fun w => no_nil w⟩
    refine print_yes y1 m1 d1 h1 i1 s1 b u w hr (fun w' hb => hT y1 w' ?_ hb)
    obtain ⟨hd, -⟩ := (tright_iff _ _ _ _ _ _ _ _).1 hr
    obtain ⟨h1, h2, -⟩ := (Gp.right_iff _ _ _).1 hd
    omega
set_option maxHeartbeats 4000000 in
set_option maxRecDepth 100000 in
theorem reads_law (l : List UInt8) (y m d h mi s : Int) (b u : Bool) (w : World) (hm : l.length ≤ 9223372036854775807) (hT : TabAt w) :
    Calls Tryd.prog 6 #[.string (bs l), timeV y m d h mi s b u] w fun e w' => e = .returned (.bool true) ∧ Below w.heap.size w w' := by
  have X0 := hid (timeIn_new w y m d h mi s b u)
  have AB := alloc_below w (timeC y m d h mi s b u)
  have T0 := hid (hT.below AB)
  have AB := hid AB
  have AL := hid alive_any
  clear hT
  unfold timeC at X0 T0 AB
  by_cases hl : 1000 < l.length
  · have q1 : decide ((1000 : Int) < (l.length : Int)) = true := by rw [decide_eq_true_eq]; omega
    unfold timeV
    go_enter Tryd.func6, Tryd.ntmps6
    go_wp2_with fail
    refine (AL.out _ T0.out).mono ?_
    rintro e1 w1 ⟨rfl, hb⟩
    have HB := hid (AB.out.trans (hb.mono AB.out.size))
    clear hb
    go_wp2
    go_ret
    exact ⟨rfl, HB.out⟩
  · have q1 : decide ((1000 : Int) < (l.length : Int)) = false := by rw [decide_eq_false_iff_not]; omega
    have PA := fun w => parse_any l w (by omega)
    have PB := fun w => rparse_any l w (by omega)
    obtain ⟨p0, p1, p2, p3, p4, p5, pb, pu, er, k, e1, e2, hNo⟩ := reads_parse l
    rw [e1] at PA
    rw [e2] at PB
    clear e1 e2
    have HN := hid hNo
    obtain ⟨tx, er2, k2, htx, PC, PD, hNo2⟩ := reads_print y m d h mi s b u
    have HN2 := hid hNo2
    obtain ⟨r0, hr0⟩ : ∃ r0, trightB y m d h mi s b u = r0 := ⟨_, rfl⟩
    have R := tright_any y m d h mi s b u
    have R2 := rtright_any y m d h mi s b u
    rw [hr0] at R R2
    unfold timeV at PA PB PC PD R R2 ⊢
    have PA := hid PA
    have PB := hid PB
    have PC := hid PC
    have PD := hid PD
    have R := hid R
    have R2 := hid R2
    clear hr0 hNo hNo2
    go_enter Tryd.func6, Tryd.ntmps6
    go_wp2_with fail
    refine (PA.out _).mono ?_
    rintro e1 w1 ⟨rfl, hb⟩
    have hb2 := hb.trans ((alloc_below w1 (timeC p0 p1 p2 p3 p4 p5 pb pu)).mono hb.size)
    have X1 := hid (X0.out.below hb2)
    have Y1 := hid (timeIn_new w1 p0 p1 p2 p3 p4 p5 pb pu)
    have T1 := hid (T0.out.below hb2)
    have HB1 := hid (AB.out.trans (hb2.mono AB.out.size))
    clear hb hb2 X0 T0 AB PA
    unfold timeC at X1 Y1 T1 HB1
    go_upto_region 4 with fail
    obtain ⟨v1, hv1⟩ : ∃ v, w1.alloc (.cells #[.int .i64 p0, .int .i64 p1, .int .i64 p2, .int .i64 p3, .int .i64 p4, .int .i64 p5, .bool pb, .bool pu] 38) = v := ⟨_, rfl⟩
    obtain ⟨ga, hga⟩ : ∃ g, w1.heap.size = g := ⟨_, rfl⟩
    rw [hga, hv1] at Y1
    rw [hv1] at X1 T1 HB1
    rw [hga, hv1]
    clear hga hv1
    go_wp2_with fail
    refine (PB.out _).mono ?_
    rintro e1 w2 ⟨rfl, hb⟩
    have hb2 := hb.trans ((alloc_below w2 (timeC p0 p1 p2 p3 p4 p5 pb pu)).mono hb.size)
    have X2 := hid (X1.out.below hb2)
    have Y2 := hid (Y1.out.below hb2)
    have Z2 := hid (timeIn_new w2 p0 p1 p2 p3 p4 p5 pb pu)
    have T2 := hid (T1.out.below hb2)
    have HB2 := hid (HB1.out.trans (hb2.mono HB1.out.size))
    clear hb hb2 X1 Y1 T1 HB1 PB
    unfold timeC at X2 Y2 Z2 T2 HB2
    go_upto_region 5 with fail
    obtain ⟨v2, hv2⟩ : ∃ v, w2.alloc (.cells #[.int .i64 p0, .int .i64 p1, .int .i64 p2, .int .i64 p3, .int .i64 p4, .int .i64 p5, .bool pb, .bool pu] 38) = v := ⟨_, rfl⟩
    obtain ⟨gb, hgb⟩ : ∃ g, w2.heap.size = g := ⟨_, rfl⟩
    rw [hgb, hv2] at Z2
    rw [hv2] at X2 Y2 T2 HB2
    rw [hgb, hv2]
    clear hgb hv2
    have c0 := X2.out.c0
    have c1 := X2.out.c1
    have c2 := X2.out.c2
    have c3 := X2.out.c3
    have c4 := X2.out.c4
    have c5 := X2.out.c5
    have c6 := X2.out.c6
    have c7 := X2.out.c7
    go_wp2_with fail
    refine (PC.out _ T2.out).mono ?_
    rintro e1 v3 ⟨rfl, hb⟩
    have X3 := hid (X2.out.below hb)
    have Y3 := hid (Y2.out.below hb)
    have Z3 := hid (Z2.out.below hb)
    have T3 := hid (T2.out.below hb)
    have HB3 := hid (HB2.out.trans (hb.mono HB2.out.size))
    clear hb c0 c1 c2 c3 c4 c5 c6 c7 X2 Y2 Z2 T2 HB2 PC
    have c0 := X3.out.c0
    have c1 := X3.out.c1
    have c2 := X3.out.c2
    have c3 := X3.out.c3
    have c4 := X3.out.c4
    have c5 := X3.out.c5
    have c6 := X3.out.c6
    have c7 := X3.out.c7
    go_wp2_with fail
    refine (PD.out _).mono ?_
    rintro e1 v9 ⟨rfl, hb⟩
    have X4 := hid (X3.out.below hb)
    have Y4 := hid (Y3.out.below hb)
    have Z4 := hid (Z3.out.below hb)
    have T4 := hid (T3.out.below hb)
    have HB4 := hid (HB3.out.trans (hb.mono HB3.out.size))
    clear hb c0 c1 c2 c3 c4 c5 c6 c7 X3 Y3 Z3 T3 HB3 PD
    go_upto_region 7 with fail
    have a0 := fun (s : Wl (Below v9.heap.size v9)) => s.cell (p := ⟨w.heap.size, 0, none⟩) X4.out.sz X4.out.c0
    have a1 := fun (s : Wl (Below v9.heap.size v9)) => s.cell (p := ⟨w.heap.size, 1, none⟩) X4.out.sz X4.out.c1
    have a2 := fun (s : Wl (Below v9.heap.size v9)) => s.cell (p := ⟨w.heap.size, 2, none⟩) X4.out.sz X4.out.c2
    have a3 := fun (s : Wl (Below v9.heap.size v9)) => s.cell (p := ⟨w.heap.size, 3, none⟩) X4.out.sz X4.out.c3
    have a4 := fun (s : Wl (Below v9.heap.size v9)) => s.cell (p := ⟨w.heap.size, 4, none⟩) X4.out.sz X4.out.c4
    have a5 := fun (s : Wl (Below v9.heap.size v9)) => s.cell (p := ⟨w.heap.size, 5, none⟩) X4.out.sz X4.out.c5
    have a6 := fun (s : Wl (Below v9.heap.size v9)) => s.cell (p := ⟨w.heap.size, 6, none⟩) X4.out.sz X4.out.c6
    have a7 := fun (s : Wl (Below v9.heap.size v9)) => s.cell (p := ⟨w.heap.size, 7, none⟩) X4.out.sz X4.out.c7
    have b0 := fun (s : Wl (Below v9.heap.size v9)) => s.cell (p := ⟨ga, 0, none⟩) Y4.out.sz Y4.out.c0
    have b1 := fun (s : Wl (Below v9.heap.size v9)) => s.cell (p := ⟨ga, 1, none⟩) Y4.out.sz Y4.out.c1
    have b2 := fun (s : Wl (Below v9.heap.size v9)) => s.cell (p := ⟨ga, 2, none⟩) Y4.out.sz Y4.out.c2
    have b3 := fun (s : Wl (Below v9.heap.size v9)) => s.cell (p := ⟨ga, 3, none⟩) Y4.out.sz Y4.out.c3
    have b4 := fun (s : Wl (Below v9.heap.size v9)) => s.cell (p := ⟨ga, 4, none⟩) Y4.out.sz Y4.out.c4
    have b5 := fun (s : Wl (Below v9.heap.size v9)) => s.cell (p := ⟨ga, 5, none⟩) Y4.out.sz Y4.out.c5
    have b6 := fun (s : Wl (Below v9.heap.size v9)) => s.cell (p := ⟨ga, 6, none⟩) Y4.out.sz Y4.out.c6
    have b7 := fun (s : Wl (Below v9.heap.size v9)) => s.cell (p := ⟨ga, 7, none⟩) Y4.out.sz Y4.out.c7
    have c0 := fun (s : Wl (Below v9.heap.size v9)) => s.cell (p := ⟨gb, 0, none⟩) Z4.out.sz Z4.out.c0
    have c1 := fun (s : Wl (Below v9.heap.size v9)) => s.cell (p := ⟨gb, 1, none⟩) Z4.out.sz Z4.out.c1
    have c2 := fun (s : Wl (Below v9.heap.size v9)) => s.cell (p := ⟨gb, 2, none⟩) Z4.out.sz Z4.out.c2
    have c3 := fun (s : Wl (Below v9.heap.size v9)) => s.cell (p := ⟨gb, 3, none⟩) Z4.out.sz Z4.out.c3
    have c4 := fun (s : Wl (Below v9.heap.size v9)) => s.cell (p := ⟨gb, 4, none⟩) Z4.out.sz Z4.out.c4
    have c5 := fun (s : Wl (Below v9.heap.size v9)) => s.cell (p := ⟨gb, 5, none⟩) Z4.out.sz Z4.out.c5
    have c6 := fun (s : Wl (Below v9.heap.size v9)) => s.cell (p := ⟨gb, 6, none⟩) Z4.out.sz Z4.out.c6
    have c7 := fun (s : Wl (Below v9.heap.size v9)) => s.cell (p := ⟨gb, 7, none⟩) Z4.out.sz Z4.out.c7
    have AL' := hid (fun (s : Wl (Below v9.heap.size v9)) => AL.out s.w (T4.out.below s.h))
    refine wp_region_class (Below v9.heap.size v9) (by kernel_rfl) (by kernel_rfl) (Below.refl _ _).drew ?_
    repeat (go_big_quiet_step (first | (go_at_call 17; first | with_reducible exact Wl.same (HN.out _) | with_reducible exact Wl.same (HN2.out _)) | (go_at_call 22; with_reducible exact Wl.below (Nat.le_refl _) (R.out _)) | (go_at_call 27; with_reducible exact Wl.below (Nat.le_refl _) (R2.out _)) | (go_at_call 8; with_reducible exact Wl.below (Nat.le_refl _) (AL'.out _))))
    refine wpQuiet_nil ?_
    intro v6 hv6
    have HB6 := hid (HB4.out.trans (hv6.mono HB4.out.size))
    clear hv6
    go_wp2
    go_ret
    exact ⟨rfl, HB6.out⟩

set_option maxRecDepth 100000 in
theorem whenReads_lifted (os : Os) (started : os.Started) (H : Type) (enc : TypeId × Value → H) :
    ReturnsInHanded {} Tryd.checked os 6 .any (fun w args => (Rows.whenReadsSpec.pre enc Tryd.prog Tryd.f6 [] false w args ∧ laidMetH Tryd.prog laid3 w) ∧ sizedMet enc Tryd.prog Tryd.f6 (OpenSpec.ofChange Rows.whenReadsSpec) false w args)
      (Rows.whenReadsSpec.post enc Tryd.prog Tryd.f6 false true false false) := by
  refine returnsInHanded_of_change_and (C := Tryd.checked) (X := fun w _ => laidMetH Tryd.prog laid3 w) (fun _ _ _ hh h => h.of_heap hh) own started (by kernel_rfl) Tryd.func6
    (ChangeSpec.witness_shaped (enc := enc) (C := Tryd.checked) (os := os) (X := fun w _ => laidMetH Tryd.prog laid3 w) false (World.doorLaid Tryd.prog 400 os) #[.string ⟨#[]⟩, timeV 0 0 0 0 0 0 false false] 8 rfl (World.shaped_of_RefB (by kernel_rfl) (by kernel_rfl)) (by kernel_rfl) (by kernel_rfl) (by kernel_rfl) (door_met os _)) ?_
  intro W base args ds gs before hval0 hW _ _ hL _
  have hval : ∀ (j : Nat) t v, Tryd.f6.params[j]? = some t → args[j]? = some v → Value.okWide Tryd.prog W .any base t v := hval0
  have hW' := hW
  obtain ⟨p, q, hA0, hV, rfl, hfz, hnd⟩ := hW
  have hA : DataW.TrodAll enc Tryd.prog W 0 (fun _ => true) true Tryd.f6.params.toList args.toList ds p := hA0
  rw [Tryd.params6] at hA hval
  obtain ⟨v0, v1, d0, d1, p0, p1, rfl, rfl, _, h0, h1⟩ := trodAll_two hA
  obtain ⟨l0, rfl, hm0⟩ := open_str (hval 0 9 v0 rfl rfl) h0
  obtain ⟨y1, m1, e1, o1, i1, s1, b1, u1, rfl⟩ := open_time (hval 1 38 v1 rfl rfl) h1
  exact law_post hW' rfl rfl (by kernel_rfl) rfl rfl rfl (reads_law l0 y1 m1 e1 o1 i1 s1 b1 u1 W hm0 (tab_at hL))

theorem whenReads_holds : Rows.WhenReadsSaid :=
  OpenClaim.holds_of_wide 6 Tryd.f6 rfl rfl rfl rfl rfl rfl rfl ⟨rfl, rfl, rfl, rfl, rfl⟩ rfl rfl rfl rfl rfl (by kernel_rfl) Tryd.func6 (by kernel_rfl)
    (of_decide_eq_true (by kernel_rfl)) (by unfold Func.isWrapper; first | (rw [if_pos (by decide +kernel)]; kernel_rfl) | (rw [if_neg (by decide +kernel)]; exact ⟨rfl, rfl⟩))
    (fun os started H enc _ => whenReads_lifted os started H enc)
theorem whenReadsCard_holds : Rows.WhenReadsCardSaid :=
  Claim7.holds_tied_plain_at .later [] [.data, .data, .data] true (true, "2a27483c44c5a29c37ef899c1cde8641fe182c6216dc2104949197e6e75cee34") true
    whenReads_holds (fun _ h => by cases h) (by kernel_rfl) (fun _ h => by cases h) whenReads_row_tie rfl ⟨rfl, rfl⟩ (by kernel_rfl) rfl
    (fun f fn hf hfn => by
      obtain rfl : f = 6 := Option.some.inj ((show Tryd.prog.funcNamed "calends/calendslaw09.WhenReads" = some 6 by kernel_rfl).symm.trans hf) |>.symm
      obtain rfl : fn = Tryd.f6 := (Option.some.inj (Tryd.func6.symm.trans hfn)).symm
      exact ⟨by kernel_rfl, fun j t ht => by
        rw [Tryd.params6] at ht
        have hall : ∀ x ∈ [9, 38], Tryd.prog.wantsStandIn x = false := by
          intro x hx
          simp only [List.mem_cons, List.not_mem_nil, or_false] at hx
          rcases hx with rfl | rfl <;> kernel_rfl
        exact hall t (List.mem_of_getElem? (by simpa using ht))⟩)
    (by kernel_rfl)
#print axioms whenReadsCard_holds
end Go.Proofs.YtefoajlmcdopiaaDoor
