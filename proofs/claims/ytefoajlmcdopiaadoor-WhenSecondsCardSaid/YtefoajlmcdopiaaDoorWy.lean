/-
  Period at the chapter's example; what every law asks besides.
-/
import Derived.Test.YtefoajlmcdopiaaDoorWx
import Derived.Test.YtefoajlmcdopiaaDoorWp
import Derived.Test.YtefoajlmcdopiaaDoorWt
namespace Go.Proofs.YtefoajlmcdopiaaDoor
open Go.RowKit

theorem pv_per : parseV [49, 57, 57, 55, 48, 49, 48, 49, 84, 49, 56, 48, 48, 48, 48, 90] = .tuple #[timeV 1997 1 1 18 0 0 false true, .nilIface] := by kernel_rfl
theorem pv_pt : parseV [80, 84, 49, 72] = .tuple #[timeV 0 0 0 0 0 0 false false, errno 11] := by kernel_rfl
theorem pv_al : parseV [49, 57, 57, 56, 48, 49, 49, 56, 84, 50, 51, 48, 48, 48, 48, 90] = .tuple #[timeV 1998 1 18 23 0 0 false true, .nilIface] := by kernel_rfl
theorem sp_pt : Tw.span [80, 84, 49, 72] = .tuple #[.int .i64 3600, .nilIface] := by kernel_rfl
theorem sp_al : Tw.span [80, 49, 68, 84, 50, 72] = .tuple #[.int .i64 93600, .nilIface] := by kernel_rfl
theorem sec_a : secN 1997 1 1 18 0 0 false true = 62987738400 := by kernel_rfl
theorem sec_b : secN 1997 1 1 19 0 0 false true = 62987742000 := by kernel_rfl
theorem at_b : atV 62987742000 false true = timeV 1997 1 1 19 0 0 false true := by kernel_rfl
theorem ps_1 : Tw.spanP 93600 = [80, 49, 68, 84, 50, 72] := by kernel_rfl
theorem ps_2 : Tw.spanP 1209600 = [80, 50, 87] := by kernel_rfl
theorem ib : Lib.indexByte [49, 57, 57, 55, 48, 49, 48, 49, 84, 49, 56, 48, 48, 48, 48, 90, 47, 80, 84, 49, 72] 47 = (16 : Nat) := by kernel_rfl
theorem zero2 (w : World) : TimeNew w.heap.size ((w.alloc (timeC 0 0 0 0 0 0 false false)).alloc (timeC 0 0 0 0 0 0 false false)) ∧ TimeNew (w.heap.size + 1) ((w.alloc (timeC 0 0 0 0 0 0 false false)).alloc (timeC 0 0 0 0 0 0 false false)) :=
  ⟨TimeNew.below ⟨timeIn_new _ _ _ _ _ _ _ _ _, fun _ => World.frozen?_alloc_new _ _ _ _⟩ (alloc_below _ _), timeNew2 _ _⟩
theorem TimeIn.s7 {g : Nat} {y m d h mi s : Int} {b u : Bool} {w : World} (t : TimeIn g y m d h mi s b u w) (x : Bool) : TimeIn g y m d h mi s b x (w.setCell ⟨g, 7, none⟩ (.bool x)) := by
  have far : ∀ j, 7 ≠ j → (w.setCell ⟨g, 7, none⟩ (.bool x)).cell? ⟨g, j, none⟩ = w.cell? ⟨g, j, none⟩ := fun j hj => World.cell?_setCell_other _ _ _ _ (by intro e; injection e with _ e2; exact hj e2)
  exact ⟨(far 0 (by decide)).trans t.c0, (far 1 (by decide)).trans t.c1, (far 2 (by decide)).trans t.c2, (far 3 (by decide)).trans t.c3, (far 4 (by decide)).trans t.c4, (far 5 (by decide)).trans t.c5, (far 6 (by decide)).trans t.c6, World.cell?_setCell_same _ _ _ t.c7, by rw [World.size_setCell]; exact t.sz⟩
def put8 (w : World) (g : Nat) (y m d h mi s : Int) (b u : Bool) : World := (((((((w.setCell ⟨g, 0, none⟩ (.int .i64 y)).setCell ⟨g, 1, none⟩ (.int .i64 m)).setCell ⟨g, 2, none⟩ (.int .i64 d)).setCell ⟨g, 3, none⟩ (.int .i64 h)).setCell ⟨g, 4, none⟩ (.int .i64 mi)).setCell ⟨g, 5, none⟩ (.int .i64 s)).setCell ⟨g, 6, none⟩ (.bool b)).setCell ⟨g, 7, none⟩ (.bool u)
theorem put8_in {w : World} {g : Nat} {y m d h mi s : Int} {b u : Bool} (t : TimeIn g y m d h mi s b u w) (y' m' d' h' mi' s' : Int) (b' u' : Bool) : TimeIn g y' m' d' h' mi' s' b' u' (put8 w g y' m' d' h' mi' s' b' u') := (((((((t.s0 y').s1 m').s2 d').s3 h').s4 mi').s5 s').s6 b').s7 u'
theorem put8_far {w : World} {g g2 : Nat} {y m d h mi s : Int} {b u : Bool} {y' m' d' h' mi' s' : Int} {b' u' : Bool} (t : TimeIn g2 y m d h mi s b u w) (hne : g ≠ g2) : TimeIn g2 y m d h mi s b u (put8 w g y' m' d' h' mi' s' b' u') :=
  (((((((t.setFar hne).setFar hne).setFar hne).setFar hne).setFar hne).setFar hne).setFar hne).setFar hne
theorem put8_new {w : World} {g g2 : Nat} {y' m' d' h' mi' s' : Int} {b' u' : Bool} (t : TimeNew g2 w) (hne : g ≠ g2) : TimeNew g2 (put8 w g y' m' d' h' mi' s' b' u') :=
  (((((((t.setFar hne).setFar hne).setFar hne).setFar hne).setFar hne).setFar hne).setFar hne).setFar hne
theorem put8_below {w w0 : World} {B g : Nat} {y' m' d' h' mi' s' : Int} {b' u' : Bool} (t : Below B w0 w) (hg : B ≤ g) : Below B w0 (put8 w g y' m' d' h' mi' s' b' u') :=
  (((((((t.setCell hg _).setCell hg _).setCell hg _).setCell hg _).setCell hg _).setCell hg _).setCell hg _).setCell hg _
theorem per_q {ga gb : Nat} {w w6 w7 w8 : World} (X3 : Hid (TimeIn ga 1997 1 1 18 0 0 false true w6)) (Y3 : Hid (TimeNew gb w6)) (Z4 : Hid (TimeNew w.heap.size w6 ∧ TimeNew (w.heap.size + 1) w6)) (HB4 : Hid (Below w.heap.size w w6))
    (hab : Hid (ga < gb)) (hzb : Hid (w.heap.size + 1 < gb)) (hb : Below w6.drew.heap.size w6.drew w7) (hb8 : Below w7.heap.size w7 w8) :
    Hid (TimeIn ga 1997 1 1 18 0 0 false true (put8 w8 gb 1997 1 1 19 0 0 false true) ∧ TimeIn gb 1997 1 1 19 0 0 false true (put8 w8 gb 1997 1 1 19 0 0 false true) ∧ TimeNew w.heap.size (put8 w8 gb 1997 1 1 19 0 0 false true) ∧
      TimeNew (w.heap.size + 1) (put8 w8 gb 1997 1 1 19 0 0 false true) ∧ Below w.heap.size w (put8 w8 gb 1997 1 1 19 0 0 false true)) := by
  have h1 := hab.out
  have h2 := hzb.out
  have b0 : Below w6.heap.size w6 w8 := (Below.refl w6.heap.size w6).drew.trans (hb.trans (hb8.mono hb.size))
  exact hid ⟨put8_far (X3.out.below b0) (by omega), put8_in (Y3.out.below b0).t _ _ _ _ _ _ _ _, put8_new (Z4.out.1.below b0) (by omega), put8_new (Z4.out.2.below b0) (by omega), put8_below (HB4.out.trans (b0.mono HB4.out.size)) (by omega)⟩
theorem per_r {w w9 : World} (Z : Hid (TimeNew w.heap.size w9 ∧ TimeNew (w.heap.size + 1) w9)) (HB : Hid (Below w.heap.size w w9)) :
    Hid (TimeIn w.heap.size 1997 1 1 18 0 0 false true (put8 (put8 w9 w.heap.size 1997 1 1 18 0 0 false true) (w.heap.size + 1) 1997 1 1 19 0 0 false true).drew ∧ TimeIn (w.heap.size + 1) 1997 1 1 19 0 0 false true (put8 (put8 w9 w.heap.size 1997 1 1 18 0 0 false true) (w.heap.size + 1) 1997 1 1 19 0 0 false true).drew ∧
      Below w.heap.size w (put8 (put8 w9 w.heap.size 1997 1 1 18 0 0 false true) (w.heap.size + 1) 1997 1 1 19 0 0 false true).drew) :=
  hid ⟨(put8_far (put8_in Z.out.1.t _ _ _ _ _ _ _ _) (by omega)).drew, (put8_in (put8_new Z.out.2 (by omega)).t _ _ _ _ _ _ _ _).drew, (put8_below (put8_below HB.out (Nat.le_refl _)) (by omega)).drew⟩
set_option maxHeartbeats 4000000 in
set_option maxRecDepth 100000 in
theorem per_one (L A B : List UInt8) (w : World) 
    (hC : ∀ w, Calls Tryd.prog 48 #[.string (bs L), .string ⟨#[47]⟩] w fun e w' => e = .returned (.tuple #[.string (bs A), .string (bs B), .bool true]) ∧ Below w.heap.size w w')
    (hA : ∀ w, Calls Tryd.prog 23 #[.string (bs A)] w fun e w' => e = .returned (.tuple #[timeV 1997 1 1 18 0 0 false true, .nilIface]) ∧ Below w.heap.size w w')
    (hB : ∀ w, Calls Tryd.prog 23 #[.string (bs B)] w fun e w' => e = .returned (.tuple #[timeV 0 0 0 0 0 0 false false, errno 11]) ∧ Below w.heap.size w w')
    (hS : ∀ w, Calls Tryd.prog 9 #[.string (bs B)] w fun e w' => e = .returned (.tuple #[.int .i64 3600, .nilIface]) ∧ Below w.heap.size w w')
    (hN : ∀ w, Calls Tryd.prog 18 #[timeV 1997 1 1 18 0 0 false true] w fun e w' => e = .returned (.int .i64 62987738400) ∧ Below w.heap.size w w')
    (hN2 : ∀ w, Calls Tryd.prog 18 #[timeV 1997 1 1 19 0 0 false true] w fun e w' => e = .returned (.int .i64 62987742000) ∧ Below w.heap.size w w')
    (hT : ∀ w, Calls Tryd.prog 20 #[.int .i64 62987742000, timeV 1997 1 1 18 0 0 false true] w fun e w' => e = .returned (timeV 1997 1 1 19 0 0 false true) ∧ Below w.heap.size w w') :
    Calls Tryd.prog 28 #[.string (bs L)] w fun e w' => e = .returned (.tuple #[timeV 1997 1 1 18 0 0 false true, timeV 1997 1 1 19 0 0 false true, .nilIface]) ∧ Below w.heap.size w w' := by
  have E1 := is_nil 11
  have E2 := is_yes 11
  have Z := zero2 w
  have hb0 : Below w.heap.size w ((w.alloc (timeC 0 0 0 0 0 0 false false)).alloc (timeC 0 0 0 0 0 0 false false)) := by go_grown
  unfold timeC at Z hb0
  unfold errno at E1 E2 hB
  unfold timeV at hA hB hN hN2 hT ⊢
  have hC := hid hC
  have hA := hid hA
  have hB := hid hB
  have hS := hid hS
  have hN := hid hN
  have hN2 := hid hN2
  have hT := hid hT
  have E1 := hid E1
  have E2 := hid E2
  have Z := hid Z
  have HB0 := hid hb0
  clear hb0
  go_enter Tryd.func28, Tryd.ntmps28
  go_wp2_with fail
  refine (hC.out _).mono ?_
  rintro e1 w1 ⟨rfl, hb⟩
  have Z1 := hid (And.intro (Z.out.1.below hb) (Z.out.2.below hb))
  have HB1 := hid (HB0.out.trans (hb.mono HB0.out.size))
  clear hb Z HB0
  go_wp2_with fail
  refine (hA.out _).mono ?_
  rintro e1 w2 ⟨rfl, hb⟩
  have bb := hb.trans ((alloc_below w2 (timeC 1997 1 1 18 0 0 false true)).mono hb.size)
  have X := hid (timeIn_new w2 1997 1 1 18 0 0 false true)
  have hza := hid (Nat.lt_of_lt_of_le Z1.out.2.t.sz hb.size)
  have Z2 := hid (And.intro (Z1.out.1.below bb) (Z1.out.2.below bb))
  have HB2 := hid (HB1.out.trans (bb.mono HB1.out.size))
  clear hb bb Z1 HB1
  unfold timeC at X Z2 HB2
  have x4 := X.out.c6
  go_upto_region 3 with fail
  obtain ⟨v2, hv2⟩ : ∃ v, w2.alloc (.cells #[.int .i64 1997, .int .i64 1, .int .i64 1, .int .i64 18, .int .i64 0, .int .i64 0, .bool false, .bool true] 38) = v := ⟨_, rfl⟩
  obtain ⟨ga, hga⟩ : ∃ ga, w2.heap.size = ga := ⟨_, rfl⟩
  rw [hga, hv2] at X x4
  rw [hga] at hza
  rw [hv2] at Z2 HB2
  rw [hga, hv2]
  clear hv2 hga
  go_wp2_with fail
  refine (E1.out _).mono ?_
  rintro e1 w3 ⟨rfl, rfl⟩
  go_wp2_with fail
  refine (hB.out _).mono ?_
  rintro e1 w4 ⟨rfl, hb⟩
  have bb := hb.trans ((alloc_below w4 (timeC 0 0 0 0 0 0 false false)).mono hb.size)
  have X2 := hid (X.out.below bb)
  have Y2 := hid (show TimeNew w4.heap.size (w4.alloc (timeC 0 0 0 0 0 0 false false)) from ⟨timeIn_new _ _ _ _ _ _ _ _ _, fun j => World.frozen?_alloc_new _ _ _ _⟩)
  have Z3 := hid (And.intro (Z2.out.1.below bb) (Z2.out.2.below bb))
  have HB3 := hid (HB2.out.trans (bb.mono HB2.out.size))
  have hab := hid (Nat.lt_of_lt_of_le X.out.sz hb.size)
  have hzb := hid (Nat.lt_of_lt_of_le Z2.out.2.t.sz hb.size)
  clear hb bb Z2 HB2 X x4
  unfold timeC at X2 Y2 Z3 HB3
  go_upto_region 6 with fail
  obtain ⟨v4, hv4⟩ : ∃ v, w4.alloc (.cells #[.int .i64 0, .int .i64 0, .int .i64 0, .int .i64 0, .int .i64 0, .int .i64 0, .bool false, .bool false] 38) = v := ⟨_, rfl⟩
  obtain ⟨gb, hgb⟩ : ∃ gb, w4.heap.size = gb := ⟨_, rfl⟩
  rw [hgb, hv4] at Y2
  rw [hv4] at Z3 HB3 X2
  rw [hgb] at hab hzb
  rw [hgb, hv4]
  clear hv4 hgb
  go_wp2_with fail
  refine (E2.out _).mono ?_
  rintro e1 w5 ⟨rfl, rfl⟩
  go_wp2_with fail
  refine (hS.out _).mono ?_
  rintro e1 w6 ⟨rfl, hb⟩
  have X3 := hid (X2.out.below hb)
  have Y3 := hid (Y2.out.below hb)
  have Z4 := hid (And.intro (Z3.out.1.below hb) (Z3.out.2.below hb))
  have HB4 := hid (HB3.out.trans (hb.mono HB3.out.size))
  have ew : IntKind.i64.wrap 62987742000 = 62987742000 := rfl
  clear hb X2 Y2 Z3 HB3
  go_upto_region 10 with fail
  go_cut [] from 60 to 65 (fun wx => TimeIn ga 1997 1 1 18 0 0 false true wx ∧ TimeIn gb 1997 1 1 19 0 0 false true wx ∧ TimeNew w.heap.size wx ∧ TimeNew (w.heap.size + 1) wx ∧ Below w.heap.size w wx)
  case first =>
    have X4 := hid (X3.out.below (Below.refl _ _).drew)
    have k0 := X4.out.c0
    have k1 := X4.out.c1
    have k2 := X4.out.c2
    have k3 := X4.out.c3
    have k4 := X4.out.c4
    have k5 := X4.out.c5
    have k6 := X4.out.c6
    have k7 := X4.out.c7
    go_region_with (first | (go_at_call 18; refine (hN.out _).mono ?_; rintro e1 w7 ⟨rfl, hb⟩; have X5 := hid (X4.out.below hb); have j0 := X5.out.c0; have j1 := X5.out.c1; have j2 := X5.out.c2; have j3 := X5.out.c3; have j4 := X5.out.c4; have j5 := X5.out.c5; have j6 := X5.out.c6; have j7 := X5.out.c7) | (go_at_call 20; refine (hT.out _).mono ?_; rintro e1 w8 ⟨rfl, hb8⟩; have Y5 := hid (((Y3.out.below (Below.refl _ _).drew).below hb).below hb8); have z0 := Y5.out.t.c0; have z1 := Y5.out.t.c1; have z2 := Y5.out.t.c2; have z3 := Y5.out.t.c3; have z4 := Y5.out.t.c4; have z5 := Y5.out.t.c5; have z6 := Y5.out.t.c6; have z7 := Y5.out.t.c7; have zf := Y5.out.f; have QQ := per_q X3 Y3 Z4 HB4 hab hzb hb hb8))
    all_goals go_wp2
    all_goals go_meet
    all_goals exact QQ.out
  case rest =>
    obtain ⟨X, Y, Z, ZZ, HB⟩ := hcut
    clear X3 Y3 Z4 HB4 hC hA hB hS hT E1 E2
    go_upto_region 11 with fail
    have a0 := fun (s : Wl (Below wc.heap.size wc)) => s.cell (p := ⟨ga, 0, none⟩) X.sz X.c0
    have b0 := fun (s : Wl (Below wc.heap.size wc)) => s.cell (p := ⟨gb, 0, none⟩) Y.sz Y.c0
    have a1 := fun (s : Wl (Below wc.heap.size wc)) => s.cell (p := ⟨ga, 1, none⟩) X.sz X.c1
    have b1 := fun (s : Wl (Below wc.heap.size wc)) => s.cell (p := ⟨gb, 1, none⟩) Y.sz Y.c1
    have a2 := fun (s : Wl (Below wc.heap.size wc)) => s.cell (p := ⟨ga, 2, none⟩) X.sz X.c2
    have b2 := fun (s : Wl (Below wc.heap.size wc)) => s.cell (p := ⟨gb, 2, none⟩) Y.sz Y.c2
    have a3 := fun (s : Wl (Below wc.heap.size wc)) => s.cell (p := ⟨ga, 3, none⟩) X.sz X.c3
    have b3 := fun (s : Wl (Below wc.heap.size wc)) => s.cell (p := ⟨gb, 3, none⟩) Y.sz Y.c3
    have a4 := fun (s : Wl (Below wc.heap.size wc)) => s.cell (p := ⟨ga, 4, none⟩) X.sz X.c4
    have b4 := fun (s : Wl (Below wc.heap.size wc)) => s.cell (p := ⟨gb, 4, none⟩) Y.sz Y.c4
    have a5 := fun (s : Wl (Below wc.heap.size wc)) => s.cell (p := ⟨ga, 5, none⟩) X.sz X.c5
    have b5 := fun (s : Wl (Below wc.heap.size wc)) => s.cell (p := ⟨gb, 5, none⟩) Y.sz Y.c5
    have a6 := fun (s : Wl (Below wc.heap.size wc)) => s.cell (p := ⟨ga, 6, none⟩) X.sz X.c6
    have b6 := fun (s : Wl (Below wc.heap.size wc)) => s.cell (p := ⟨gb, 6, none⟩) Y.sz Y.c6
    have a7 := fun (s : Wl (Below wc.heap.size wc)) => s.cell (p := ⟨ga, 7, none⟩) X.sz X.c7
    have b7 := fun (s : Wl (Below wc.heap.size wc)) => s.cell (p := ⟨gb, 7, none⟩) Y.sz Y.c7
    refine wp_region_class (Below wc.heap.size wc) (by kernel_rfl) (by kernel_rfl) (Below.refl _ _).drew ?_
    repeat (go_big_quiet_step ((go_at_call 18; first | with_reducible exact Wl.below (Nat.le_refl _) (hN.out _) | with_reducible exact Wl.below (Nat.le_refl _) (hN2.out _))))
    refine wpQuiet_nil ?_
    intro w9 hw9
    have X9 := hid (X.below hw9)
    have Y9 := hid (Y.below hw9)
    have Z9 := hid (And.intro (Z.below hw9) (ZZ.below hw9))
    have HB9 := hid (HB.trans (hw9.mono HB.size))
    clear hw9 HB X Y Z ZZ a0 b0 a1 b1 a2 b2 a3 b3 a4 b4 a5 b5 a6 b6 a7 b7
    go_upto_region 13 with fail
    go_cut [4] from 85 to 86 (fun er wx => er = .nilIface ∧ TimeIn w.heap.size 1997 1 1 18 0 0 false true wx ∧ TimeIn (w.heap.size + 1) 1997 1 1 19 0 0 false true wx ∧ Below w.heap.size w wx)
    case first =>
      have p0 := X9.out.c0
      have q0 := Y9.out.c0
      have z0 := Z9.out.1.t.c0
      have y0 := Z9.out.2.t.c0
      have p1 := X9.out.c1
      have q1 := Y9.out.c1
      have z1 := Z9.out.1.t.c1
      have y1 := Z9.out.2.t.c1
      have p2 := X9.out.c2
      have q2 := Y9.out.c2
      have z2 := Z9.out.1.t.c2
      have y2 := Z9.out.2.t.c2
      have p3 := X9.out.c3
      have q3 := Y9.out.c3
      have z3 := Z9.out.1.t.c3
      have y3 := Z9.out.2.t.c3
      have p4 := X9.out.c4
      have q4 := Y9.out.c4
      have z4 := Z9.out.1.t.c4
      have y4 := Z9.out.2.t.c4
      have p5 := X9.out.c5
      have q5 := Y9.out.c5
      have z5 := Z9.out.1.t.c5
      have y5 := Z9.out.2.t.c5
      have p6 := X9.out.c6
      have q6 := Y9.out.c6
      have z6 := Z9.out.1.t.c6
      have y6 := Z9.out.2.t.c6
      have p7 := X9.out.c7
      have q7 := Y9.out.c7
      have z7 := Z9.out.1.t.c7
      have y7 := Z9.out.2.t.c7
      have n1 : (w.heap.size = ga) = False := eq_false (by have := hza.out; omega)
      have n2 : (w.heap.size = gb) = False := eq_false (by have := hzb.out; omega)
      have n3 : (w.heap.size + 1 = ga) = False := eq_false (by have := hza.out; omega)
      have n4 : (w.heap.size + 1 = gb) = False := eq_false (by have := hzb.out; omega)
      have n5 : (ga = w.heap.size) = False := eq_false (by have := hza.out; omega)
      have n6 : (gb = w.heap.size) = False := eq_false (by have := hzb.out; omega)
      have n7 : (ga = w.heap.size + 1) = False := eq_false (by have := hza.out; omega)
      have n8 : (gb = w.heap.size + 1) = False := eq_false (by have := hzb.out; omega)
      have zf := Z9.out.1.f
      have yf := Z9.out.2.f
      have QQ := per_r Z9 HB9
      clear X9 Y9 Z9 HB9 hab hzb hza hN hN2
      go_region
      all_goals go_wp2
      all_goals go_meet
      all_goals exact ⟨rfl, QQ.out⟩
    case rest =>
      obtain ⟨rfl, hcut⟩ := hcut
      have z0 := hcut.1.c0
      have y0 := hcut.2.1.c0
      have z1 := hcut.1.c1
      have y1 := hcut.2.1.c1
      have z2 := hcut.1.c2
      have y2 := hcut.2.1.c2
      have z3 := hcut.1.c3
      have y3 := hcut.2.1.c3
      have z4 := hcut.1.c4
      have y4 := hcut.2.1.c4
      have z5 := hcut.1.c5
      have y5 := hcut.2.1.c5
      have z6 := hcut.1.c6
      have y6 := hcut.2.1.c6
      have z7 := hcut.1.c7
      have y7 := hcut.2.1.c7
      go_wp2
      refine bodyPost_ret (v := .tuple #[timeV 1997 1 1 18 0 0 false true, timeV 1997 1 1 19 0 0 false true, .nilIface]) (by unfold timeV; simp [results, Tryd.results28, go_sem, z0, y0, z1, y1, z2, y2, z3, y3, z4, y4, z5, y5, z6, y6, z7, y7]) rfl ⟨rfl, hcut.2.2⟩
theorem per_al (w : World) : Calls Tryd.prog 28 #[.string ⟨#[49, 57, 57, 55, 48, 49, 48, 49, 84, 49, 56, 48, 48, 48, 48, 90, 47, 80, 84, 49, 72]⟩] w fun e w' => e = .returned (.tuple #[timeV 1997 1 1 18 0 0 false true, timeV 1997 1 1 19 0 0 false true, .nilIface]) ∧ Below w.heap.size w w' := by
  refine per_one [49, 57, 57, 55, 48, 49, 48, 49, 84, 49, 56, 48, 48, 48, 48, 90, 47, 80, 84, 49, 72] [49, 57, 57, 55, 48, 49, 48, 49, 84, 49, 56, 48, 48, 48, 48, 90] [80, 84, 49, 72] w ?_ ?_ ?_ ?_ ?_ ?_ ?_
  · intro w; exact cut_at _ 16 w ib (by decide) (by decide)
  · intro w; rw [← pv_per]; exact parse_any _ w (by decide)
  · intro w; rw [← pv_pt]; exact parse_any _ w (by decide)
  · intro w; rw [← sp_pt]; exact span_any _ w (by decide)
  · intro w; rw [← sec_a]; exact seconds_any _ _ _ _ _ _ _ _ w
  · intro w; rw [← sec_b]; exact seconds_any _ _ _ _ _ _ _ _ w
  · intro w; rw [← at_b]; exact at_any _ _ _ _ _ _ _ _ _ w (by decide)
end Go.Proofs.YtefoajlmcdopiaaDoor
