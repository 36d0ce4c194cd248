/-
  The law of seconds: proved for all inputs.
-/
import Derived.Test.YtefoajlmcdopiaaDoorOb
import Derived.Test.YtefoajlmcdopiaaDoorTie
import Derived.Test.YtefoajlmcdopiaaDoorCards
import Derived.SevenTiedAt
import Derived.Test.YtefoajlmcdopiaaDoorPc
import Derived.Test.YtefoajlmcdopiaaDoorYa
import Derived.Deep.CutBlock
namespace Go.Proofs.YtefoajlmcdopiaaDoor
open Go.ChangeShapes Go.WideShapes Go.ChangeAt Go.RowKit

/-- Both times, and what was there. -/
structure SL (w0 : World) (y m d h mi s : Int) (b u : Bool) (y2 m2 d2 h2 i2 s2 : Int) (b2 u2 : Bool) (w : World) : Prop where
  x : TimeIn w0.heap.size y m d h mi s b u w
  z : TimeIn (w0.heap.size + 1) y2 m2 d2 h2 i2 s2 b2 u2 w
  t : TabAt w
  b : Below w0.heap.size w0 w
theorem SL.below {w0 : World} {y m d h mi s : Int} {b u : Bool} {y2 m2 d2 h2 i2 s2 : Int} {b2 u2 : Bool} {w w' : World} (k : SL w0 y m d h mi s b u y2 m2 d2 h2 i2 s2 b2 u2 w) (hb : Below w.heap.size w w') : SL w0 y m d h mi s b u y2 m2 d2 h2 i2 s2 b2 u2 w' :=
  ⟨k.x.below hb, k.z.below hb, k.t.below hb, k.b.trans (hb.mono k.b.size)⟩
/-- Six numbers of a slice. -/
structure Six (g : Nat) (y m d h mi s : Int) (w : World) : Prop where
  c0 : w.cell? ⟨g, 0, none⟩ = some (.int .i64 y)
  c1 : w.cell? ⟨g, 1, none⟩ = some (.int .i64 m)
  c2 : w.cell? ⟨g, 2, none⟩ = some (.int .i64 d)
  c3 : w.cell? ⟨g, 3, none⟩ = some (.int .i64 h)
  c4 : w.cell? ⟨g, 4, none⟩ = some (.int .i64 mi)
  c5 : w.cell? ⟨g, 5, none⟩ = some (.int .i64 s)
  sz : g < w.heap.size
theorem Six.below {g : Nat} {y m d h mi s : Int} {w w' : World} (k : Six g y m d h mi s w) (hb : Below w.heap.size w w') : Six g y m d h mi s w' :=
  ⟨(hb.cell (p := ⟨g, 0, none⟩) k.sz).trans k.c0, (hb.cell (p := ⟨g, 1, none⟩) k.sz).trans k.c1, (hb.cell (p := ⟨g, 2, none⟩) k.sz).trans k.c2, (hb.cell (p := ⟨g, 3, none⟩) k.sz).trans k.c3, (hb.cell (p := ⟨g, 4, none⟩) k.sz).trans k.c4, (hb.cell (p := ⟨g, 5, none⟩) k.sz).trans k.c5, Nat.lt_of_lt_of_le k.sz hb.size⟩
theorem six_new (w : World) (y m d h mi s : Int) : Six w.heap.size y m d h mi s (w.alloc (.cells #[.int .i64 y, .int .i64 m, .int .i64 d, .int .i64 h, .int .i64 mi, .int .i64 s] 3)) := by
  refine ⟨?_, ?_, ?_, ?_, ?_, ?_, by simp⟩
  all_goals exact World.cell?_alloc_at _ _ _ _ rfl
set_option maxHeartbeats 4000000 in
set_option maxRecDepth 100000 in
theorem seconds_law (y m d h mi s : Int) (b u : Bool) (y2 m2 d2 h2 i2 s2 : Int) (b2 u2 : Bool) (n : Int) (w : World) (hn : n ≤ 9223372036854775807) (hT : TabAt w) :
    Calls Tryd.prog 5 #[timeV y m d h mi s b u, timeV y2 m2 d2 h2 i2 s2 b2 u2, .int .i64 n] w fun e w' => e = .returned (.bool true) ∧ Below w.heap.size w w' := by
  have K0 : SL w y m d h mi s b u y2 m2 d2 h2 i2 s2 b2 u2 ((w.alloc (timeC y m d h mi s b u)).alloc (timeC y2 m2 d2 h2 i2 s2 b2 u2)) := by
    have h1 : (w.alloc (timeC y m d h mi s b u)).heap.size = w.heap.size + 1 := by simp
    have bb := (alloc_below w (timeC y m d h mi s b u)).trans ((alloc_below (w.alloc (timeC y m d h mi s b u)) (timeC y2 m2 d2 h2 i2 s2 b2 u2)).mono (alloc_below w (timeC y m d h mi s b u)).size)
    refine ⟨(timeIn_new w y m d h mi s b u).below (alloc_below _ _), ?_, hT.below bb, bb⟩
    have := timeIn_new (w.alloc (timeC y m d h mi s b u)) y2 m2 d2 h2 i2 s2 b2 u2
    rwa [h1] at this
  have K0 := hid K0
  clear hT
  have AL := hid alive_any
  have S1 := fun w => seconds_any y m d h mi s b u w
  have S2 := fun w => rseconds_any y m d h mi s b u w
  have S3 := fun w => seconds_any y2 m2 d2 h2 i2 s2 b2 u2 w
  have A1 := fun w => at_any n y m d h mi s b u w hn
  have A2 := fun w => rat_any n y m d h mi s b u w
  obtain ⟨x0, x1, x2, x3, x4, x5, xb, xu, hat, hcase⟩ := at_case n b u
  rw [hat] at A1 A2
  have S4 := fun w => seconds_any x0 x1 x2 x3 x4 x5 xb xu w
  have R1 := tright_any y m d h mi s b u
  have R2 := tright_any y2 m2 d2 h2 i2 s2 b2 u2
  obtain ⟨r1, hr1⟩ : ∃ r, trightB y m d h mi s b u = r := ⟨_, rfl⟩
  obtain ⟨r2, hr2⟩ : ∃ r, trightB y2 m2 d2 h2 i2 s2 b2 u2 = r := ⟨_, rfl⟩
  rw [hr1] at R1
  rw [hr2] at R2
  have LX := hid (show r1 = true → r2 = true → lexB (six y m d h mi s) (six y2 m2 d2 h2 i2 s2) = decide (secN y m d h mi s b u < secN y2 m2 d2 h2 i2 s2 b2 u2) by
    intro a1 a2
    exact lex_sec (hr1.trans a1) (hr2.trans a2))
  obtain ⟨n1, hn1⟩ : ∃ x, secN y m d h mi s b u = x := ⟨_, rfl⟩
  obtain ⟨n2, hn2⟩ : ∃ x, secN y2 m2 d2 h2 i2 s2 b2 u2 = x := ⟨_, rfl⟩
  rw [hn1] at S1 S2 LX
  rw [hn2] at S3 LX
  have HC := hid hcase
  clear hat hcase hr1 hr2 hn1 hn2
  unfold timeV at S1 S2 S3 A1 A2 S4 R1 R2 ⊢
  unfold timeC at K0
  have S1 := hid S1
  have S2 := hid S2
  have S3 := hid S3
  have S4 := hid S4
  have A1 := hid A1
  have A2 := hid A2
  have R1 := hid R1
  have R2 := hid R2
  go_enter Tryd.func5, Tryd.ntmps5
  go_upto_region 1 with fail
  obtain ⟨W1, hW1⟩ : ∃ W, (w.alloc (.cells #[.int .i64 y, .int .i64 m, .int .i64 d, .int .i64 h, .int .i64 mi, .int .i64 s, .bool b, .bool u] 38)).alloc (.cells #[.int .i64 y2, .int .i64 m2, .int .i64 d2, .int .i64 h2, .int .i64 i2, .int .i64 s2, .bool b2, .bool u2] 38) = W := ⟨_, rfl⟩
  rw [hW1] at K0 ⊢
  clear hW1
  have X1 := K0.out.x
  have a0 := fun (s : Wl (Below W1.heap.size W1)) => s.cell (p := ⟨w.heap.size, 0, none⟩) X1.sz X1.c0
  have a1 := fun (s : Wl (Below W1.heap.size W1)) => s.cell (p := ⟨w.heap.size, 1, none⟩) X1.sz X1.c1
  have a2 := fun (s : Wl (Below W1.heap.size W1)) => s.cell (p := ⟨w.heap.size, 2, none⟩) X1.sz X1.c2
  have a3 := fun (s : Wl (Below W1.heap.size W1)) => s.cell (p := ⟨w.heap.size, 3, none⟩) X1.sz X1.c3
  have a4 := fun (s : Wl (Below W1.heap.size W1)) => s.cell (p := ⟨w.heap.size, 4, none⟩) X1.sz X1.c4
  have a5 := fun (s : Wl (Below W1.heap.size W1)) => s.cell (p := ⟨w.heap.size, 5, none⟩) X1.sz X1.c5
  have a6 := fun (s : Wl (Below W1.heap.size W1)) => s.cell (p := ⟨w.heap.size, 6, none⟩) X1.sz X1.c6
  have a7 := fun (s : Wl (Below W1.heap.size W1)) => s.cell (p := ⟨w.heap.size, 7, none⟩) X1.sz X1.c7
  clear X1
  refine wp_region_class (Below W1.heap.size W1) (by kernel_rfl) (by kernel_rfl) (Below.refl _ _).drew ?_
  repeat (go_big_quiet_step (first | (go_at_call 18; with_reducible exact Wl.below (Nat.le_refl _) (S1.out _)) | (go_at_call 19; with_reducible exact Wl.below (Nat.le_refl _) (S2.out _)) | (go_at_call 20; with_reducible exact Wl.below (Nat.le_refl _) (A1.out _)) | (go_at_call 21; with_reducible exact Wl.below (Nat.le_refl _) (A2.out _))))
  refine wpQuiet_nil ?_
  intro W2 hw2
  have K1 := hid (K0.out.below hw2)
  clear hw2 K0 a0 a1 a2 a3 a4 a5 a6 a7 S2 A2
  have c0 := K1.out.x.c0
  have c1 := K1.out.x.c1
  have c2 := K1.out.x.c2
  have c3 := K1.out.x.c3
  have c4 := K1.out.x.c4
  have c5 := K1.out.x.c5
  have c6 := K1.out.x.c6
  have c7 := K1.out.x.c7
  go_wp2_with fail
  refine (A1.out _).mono ?_
  rintro e1 W3 ⟨rfl, hb⟩
  have K2 := hid ((K1.out.below hb).below (alloc_below W3 (timeC x0 x1 x2 x3 x4 x5 xb xu)))
  have G := hid (timeIn_new W3 x0 x1 x2 x3 x4 x5 xb xu)
  clear hb K1 A1 c0 c1 c2 c3 c4 c5 c6 c7
  unfold timeC at K2 G
  go_upto_region 4 with fail
  obtain ⟨W4, hW4⟩ : ∃ W, W3.alloc (.cells #[.int .i64 x0, .int .i64 x1, .int .i64 x2, .int .i64 x3, .int .i64 x4, .int .i64 x5, .bool xb, .bool xu] 38) = W := ⟨_, rfl⟩
  obtain ⟨gx, hgx⟩ : ∃ g, W3.heap.size = g := ⟨_, rfl⟩
  rw [hgx, hW4] at G
  rw [hW4] at K2
  rw [hgx, hW4]
  clear hW4 hgx
  go_cut [37] from 29 to 36 (fun t wx => t = .bool false ∧ SL w y m d h mi s b u y2 m2 d2 h2 i2 s2 b2 u2 wx)
  case first =>
    have g0 := G.out.c0
    have g1 := G.out.c1
    have g2 := G.out.c2
    have g3 := G.out.c3
    have g4 := G.out.c4
    have g5 := G.out.c5
    have g6 := G.out.c6
    have g7 := G.out.c7
    rcases HC.out with ⟨rfl, rfl, rfl, rfl, rfl, rfl, rfl, rfl⟩ | ⟨hne, hsec⟩
    · have Q := hid K2.out
      go_wp2
      go_meet
      exact ⟨rfl, Q.out⟩
    · have e0 : (x0 == 0) = false := by rw [beq_eq_false_iff_ne]; exact hne
      have e1 : (x0 != 0) = true := by rw [bne_iff_ne]; exact hne
      have e2 : (x0 = 0) = False := eq_false hne
      have S5 := S4.out
      rw [hsec] at S5
      have S5 := hid S5
      clear hne hsec
      go_wp2_with fail
      refine (S5.out _).mono ?_
      rintro e3 W5 ⟨rfl, hb⟩
      have Q := hid (K2.out.below hb)
      clear hb
      go_wp2
      go_meet
      exact ⟨rfl, Q.out⟩
  case rest =>
  obtain ⟨rfl, hK⟩ := hcut
  have K3 := hid hK
  clear hK K2 G S4 HC
  have c0 := K3.out.x.c0
  have c1 := K3.out.x.c1
  have c2 := K3.out.x.c2
  have c3 := K3.out.x.c3
  have c4 := K3.out.x.c4
  have c5 := K3.out.x.c5
  have c6 := K3.out.x.c6
  have c7 := K3.out.x.c7
  cases r1 with
  | false =>
    go_wp2_with fail
    refine (R1.out _).mono ?_
    rintro e1 W5 ⟨rfl, hb⟩
    have K4 := hid (K3.out.below hb)
    clear hb c0 c1 c2 c3 c4 c5 c6 c7 K3
    go_wp2_with fail
    refine (AL.out _ K4.out.t).mono ?_
    rintro e1 W6 ⟨rfl, hb⟩
    have B6 := hid (K4.out.below hb).b
    clear hb
    go_wp2
    go_ret
    exact ⟨rfl, B6.out⟩
  | true =>
  go_wp2_with fail
  refine (R1.out _).mono ?_
  rintro e1 W5 ⟨rfl, hb⟩
  have K4 := hid (K3.out.below hb)
  clear hb c0 c1 c2 c3 c4 c5 c6 c7 K3 R1
  have c0 := K4.out.z.c0
  have c1 := K4.out.z.c1
  have c2 := K4.out.z.c2
  have c3 := K4.out.z.c3
  have c4 := K4.out.z.c4
  have c5 := K4.out.z.c5
  have c6 := K4.out.z.c6
  have c7 := K4.out.z.c7
  cases r2 with
  | false =>
    go_wp2_with fail
    refine (R2.out _).mono ?_
    rintro e1 W6 ⟨rfl, hb⟩
    have K5 := hid (K4.out.below hb)
    clear hb c0 c1 c2 c3 c4 c5 c6 c7 K4
    go_wp2_with fail
    refine (AL.out _ K5.out.t).mono ?_
    rintro e1 W7 ⟨rfl, hb⟩
    have B6 := hid (K5.out.below hb).b
    clear hb
    go_wp2
    go_ret
    exact ⟨rfl, B6.out⟩
  | true =>
  go_wp2_with fail
  refine (R2.out _).mono ?_
  rintro e1 W6 ⟨rfl, hb⟩
  have K5 := hid (K4.out.below hb)
  clear hb c0 c1 c2 c3 c4 c5 c6 c7 K4 R2
  have LX := hid (LX.out (by first | trivial | rfl) (by first | trivial | rfl))
  have c0 := K5.out.x.c0
  have c1 := K5.out.x.c1
  have c2 := K5.out.x.c2
  have c3 := K5.out.x.c3
  have c4 := K5.out.x.c4
  have c5 := K5.out.x.c5
  have c6 := K5.out.x.c6
  have c7 := K5.out.x.c7
  have z0 := K5.out.z.c0
  have z1 := K5.out.z.c1
  have z2 := K5.out.z.c2
  have z3 := K5.out.z.c3
  have z4 := K5.out.z.c4
  have z5 := K5.out.z.c5
  have z6 := K5.out.z.c6
  have z7 := K5.out.z.c7
  have sz1 := K5.out.x.sz
  have sz2 := K5.out.z.sz
  go_upto_region 11 with fail
  have SX := (six_new W6 y m d h mi s).below (alloc_below _ (.cells #[.int .i64 y2, .int .i64 m2, .int .i64 d2, .int .i64 h2, .int .i64 i2, .int .i64 s2] 3))
  have SY := six_new (W6.alloc (.cells #[.int .i64 y, .int .i64 m, .int .i64 d, .int .i64 h, .int .i64 mi, .int .i64 s] 3)) y2 m2 d2 h2 i2 s2
  rw [show (W6.alloc (.cells #[.int .i64 y, .int .i64 m, .int .i64 d, .int .i64 h, .int .i64 mi, .int .i64 s] 3)).heap.size = W6.heap.size + 1 by simp] at SY
  have K6 := (K5.out.below (alloc_below W6 (.cells #[.int .i64 y, .int .i64 m, .int .i64 d, .int .i64 h, .int .i64 mi, .int .i64 s] 3))).below (alloc_below _ (.cells #[.int .i64 y2, .int .i64 m2, .int .i64 d2, .int .i64 h2, .int .i64 i2, .int .i64 s2] 3))
  obtain ⟨W7, hW7⟩ : ∃ W, (W6.alloc (.cells #[.int .i64 y, .int .i64 m, .int .i64 d, .int .i64 h, .int .i64 mi, .int .i64 s] 3)).alloc (.cells #[.int .i64 y2, .int .i64 m2, .int .i64 d2, .int .i64 h2, .int .i64 i2, .int .i64 s2] 3) = W := ⟨_, rfl⟩
  obtain ⟨gb, hgb⟩ : ∃ g, W6.heap.size + 1 = g := ⟨_, rfl⟩
  rw [hgb, hW7] at SY
  rw [hgb, hW7]
  obtain ⟨ga, hga⟩ : ∃ g, W6.heap.size = g := ⟨_, rfl⟩
  rw [hga, hW7] at SX
  rw [hW7] at K6
  rw [hga]
  have SX := hid SX
  have SY := hid SY
  have K6 := hid K6
  clear hW7 hgb hga K5 c0 c1 c2 c3 c4 c5 c6 c7 z0 z1 z2 z3 z4 z5 z6 z7 sz1 sz2
  go_upto_block 0 with fail
  go_cut [10] from 11 to 102 (fun less wx => less = .bool (lexB (six y m d h mi s) (six y2 m2 d2 h2 i2 s2)) ∧ SL w y m d h mi s b u y2 m2 d2 h2 i2 s2 b2 u2 wx)
  case first =>
    go_wp2
    go_loopw [10, 81] (fun less i wr => ∃ j : Nat, j ≤ 6 ∧ i = .int .i64 j ∧ less = .bool false ∧ lexB (six y m d h mi s) (six y2 m2 d2 h2 i2 s2) = lexB ((six y m d h mi s).drop j) ((six y2 m2 d2 h2 i2 s2).drop j) ∧ Six ga y m d h mi s wr ∧ Six gb y2 m2 d2 h2 i2 s2 wr ∧ SL w y m d h mi s b u y2 m2 d2 h2 i2 s2 b2 u2 wr) (fun _ i _ => 6 - (intOf i).toNat)
    case atStart => exact ⟨0, by omega, rfl, rfl, rfl, SX.out, SY.out, K6.out⟩
    case round =>
      obtain ⟨j, hj, rfl, rfl, hlx, hx, hy, hk⟩ := hrel
      have PX := hid hx
      have PY := hid hy
      have PK := hid hk
      have PL := hid hlx
      clear hx hy hk hlx SX SY K6
      rcases (show j = 0 ∨ j = 1 ∨ j = 2 ∨ j = 3 ∨ j = 4 ∨ j = 5 ∨ j = 6 by omega) with rfl | rfl | rfl | rfl | rfl | rfl | rfl
      · by_cases he : y = y2
        · have hne : (y != y2) = false := by rw [he]; simp
          have L2 := hid (show lexB (six y m d h mi s) (six y2 m2 d2 h2 i2 s2) = lexB ((six y m d h mi s).drop 1) ((six y2 m2 d2 h2 i2 s2).drop 1) by
            rw [PL.out]
            unfold six
            simp only [List.drop_succ_cons, List.drop_zero]
            rw [lexB, if_pos he])
          clear he
          go_upto_region 14 with fail
          have ca := fun (s : Wl (Below wr.heap.size wr)) => s.cell (p := ⟨ga, 0, none⟩) PX.out.sz PX.out.c0
          have cb := fun (s : Wl (Below wr.heap.size wr)) => s.cell (p := ⟨gb, 0, none⟩) PY.out.sz PY.out.c0
          refine wp_region_class (Below wr.heap.size wr) (by kernel_rfl) (by kernel_rfl) (Below.refl _ _).drew ?_
          repeat (go_big_quiet_step (fail))
          refine wpQuiet_nil ?_
          intro w9 hw9
          have PX2 := hid (PX.out.below hw9)
          have PY2 := hid (PY.out.below hw9)
          have PK2 := hid (PK.out.below hw9)
          clear hw9 ca cb
          go_wp2
          go_roundw
          case rel => exact ⟨1, by omega, by go_num, rfl, L2.out, PX2.out, PY2.out, PK2.out⟩
          case measure => simp [intOf]
        · have hne : (y != y2) = true := by rw [bne_iff_ne]; exact he
          have L2 := hid (show lexB (six y m d h mi s) (six y2 m2 d2 h2 i2 s2) = decide (y < y2) by
            rw [PL.out]
            unfold six
            simp only [List.drop_zero]
            rw [lexB, if_neg he])
          clear he
          go_upto_region 14 with fail
          have ca := fun (s : Wl (Below wr.heap.size wr)) => s.cell (p := ⟨ga, 0, none⟩) PX.out.sz PX.out.c0
          have cb := fun (s : Wl (Below wr.heap.size wr)) => s.cell (p := ⟨gb, 0, none⟩) PY.out.sz PY.out.c0
          refine wp_region_class (Below wr.heap.size wr) (by kernel_rfl) (by kernel_rfl) (Below.refl _ _).drew ?_
          repeat (go_big_quiet_step (fail))
          refine wpQuiet_nil ?_
          intro w9 hw9
          have PX2 := hid (PX.out.below hw9)
          have PY2 := hid (PY.out.below hw9)
          have PK2 := hid (PK.out.below hw9)
          clear hw9 ca cb
          go_upto_region 15 with fail
          have ca := fun (s : Wl (Below w9.heap.size w9)) => s.cell (p := ⟨ga, 0, none⟩) PX2.out.sz PX2.out.c0
          have cb := fun (s : Wl (Below w9.heap.size w9)) => s.cell (p := ⟨gb, 0, none⟩) PY2.out.sz PY2.out.c0
          refine wp_region_class (Below w9.heap.size w9) (by kernel_rfl) (by kernel_rfl) (Below.refl _ _).drew ?_
          repeat (go_big_quiet_step (fail))
          refine wpQuiet_nil ?_
          intro w10 hw10
          have Q := hid (PK2.out.below hw10)
          clear hw10 ca cb
          go_wp2
          go_meet
          exact ⟨by rw [L2.out], Q.out⟩
      · by_cases he : m = m2
        · have hne : (m != m2) = false := by rw [he]; simp
          have L2 := hid (show lexB (six y m d h mi s) (six y2 m2 d2 h2 i2 s2) = lexB ((six y m d h mi s).drop 2) ((six y2 m2 d2 h2 i2 s2).drop 2) by
            rw [PL.out]
            unfold six
            simp only [List.drop_succ_cons, List.drop_zero]
            rw [lexB, if_pos he])
          clear he
          go_upto_region 14 with fail
          have ca := fun (s : Wl (Below wr.heap.size wr)) => s.cell (p := ⟨ga, 1, none⟩) PX.out.sz PX.out.c1
          have cb := fun (s : Wl (Below wr.heap.size wr)) => s.cell (p := ⟨gb, 1, none⟩) PY.out.sz PY.out.c1
          refine wp_region_class (Below wr.heap.size wr) (by kernel_rfl) (by kernel_rfl) (Below.refl _ _).drew ?_
          repeat (go_big_quiet_step (fail))
          refine wpQuiet_nil ?_
          intro w9 hw9
          have PX2 := hid (PX.out.below hw9)
          have PY2 := hid (PY.out.below hw9)
          have PK2 := hid (PK.out.below hw9)
          clear hw9 ca cb
          go_wp2
          go_roundw
          case rel => exact ⟨2, by omega, by go_num, rfl, L2.out, PX2.out, PY2.out, PK2.out⟩
          case measure => simp [intOf]
        · have hne : (m != m2) = true := by rw [bne_iff_ne]; exact he
          have L2 := hid (show lexB (six y m d h mi s) (six y2 m2 d2 h2 i2 s2) = decide (m < m2) by
            rw [PL.out]
            unfold six
            simp only [List.drop_succ_cons, List.drop_zero]
            rw [lexB, if_neg he])
          clear he
          go_upto_region 14 with fail
          have ca := fun (s : Wl (Below wr.heap.size wr)) => s.cell (p := ⟨ga, 1, none⟩) PX.out.sz PX.out.c1
          have cb := fun (s : Wl (Below wr.heap.size wr)) => s.cell (p := ⟨gb, 1, none⟩) PY.out.sz PY.out.c1
          refine wp_region_class (Below wr.heap.size wr) (by kernel_rfl) (by kernel_rfl) (Below.refl _ _).drew ?_
          repeat (go_big_quiet_step (fail))
          refine wpQuiet_nil ?_
          intro w9 hw9
          have PX2 := hid (PX.out.below hw9)
          have PY2 := hid (PY.out.below hw9)
          have PK2 := hid (PK.out.below hw9)
          clear hw9 ca cb
          go_upto_region 15 with fail
          have ca := fun (s : Wl (Below w9.heap.size w9)) => s.cell (p := ⟨ga, 1, none⟩) PX2.out.sz PX2.out.c1
          have cb := fun (s : Wl (Below w9.heap.size w9)) => s.cell (p := ⟨gb, 1, none⟩) PY2.out.sz PY2.out.c1
          refine wp_region_class (Below w9.heap.size w9) (by kernel_rfl) (by kernel_rfl) (Below.refl _ _).drew ?_
          repeat (go_big_quiet_step (fail))
          refine wpQuiet_nil ?_
          intro w10 hw10
          have Q := hid (PK2.out.below hw10)
          clear hw10 ca cb
          go_wp2
          go_meet
          exact ⟨by rw [L2.out], Q.out⟩
      · by_cases he : d = d2
        · have hne : (d != d2) = false := by rw [he]; simp
          have L2 := hid (show lexB (six y m d h mi s) (six y2 m2 d2 h2 i2 s2) = lexB ((six y m d h mi s).drop 3) ((six y2 m2 d2 h2 i2 s2).drop 3) by
            rw [PL.out]
            unfold six
            simp only [List.drop_succ_cons, List.drop_zero]
            rw [lexB, if_pos he])
          clear he
          go_upto_region 14 with fail
          have ca := fun (s : Wl (Below wr.heap.size wr)) => s.cell (p := ⟨ga, 2, none⟩) PX.out.sz PX.out.c2
          have cb := fun (s : Wl (Below wr.heap.size wr)) => s.cell (p := ⟨gb, 2, none⟩) PY.out.sz PY.out.c2
          refine wp_region_class (Below wr.heap.size wr) (by kernel_rfl) (by kernel_rfl) (Below.refl _ _).drew ?_
          repeat (go_big_quiet_step (fail))
          refine wpQuiet_nil ?_
          intro w9 hw9
          have PX2 := hid (PX.out.below hw9)
          have PY2 := hid (PY.out.below hw9)
          have PK2 := hid (PK.out.below hw9)
          clear hw9 ca cb
          go_wp2
          go_roundw
          case rel => exact ⟨3, by omega, by go_num, rfl, L2.out, PX2.out, PY2.out, PK2.out⟩
          case measure => simp [intOf]
        · have hne : (d != d2) = true := by rw [bne_iff_ne]; exact he
          have L2 := hid (show lexB (six y m d h mi s) (six y2 m2 d2 h2 i2 s2) = decide (d < d2) by
            rw [PL.out]
            unfold six
            simp only [List.drop_succ_cons, List.drop_zero]
            rw [lexB, if_neg he])
          clear he
          go_upto_region 14 with fail
          have ca := fun (s : Wl (Below wr.heap.size wr)) => s.cell (p := ⟨ga, 2, none⟩) PX.out.sz PX.out.c2
          have cb := fun (s : Wl (Below wr.heap.size wr)) => s.cell (p := ⟨gb, 2, none⟩) PY.out.sz PY.out.c2
          refine wp_region_class (Below wr.heap.size wr) (by kernel_rfl) (by kernel_rfl) (Below.refl _ _).drew ?_
          repeat (go_big_quiet_step (fail))
          refine wpQuiet_nil ?_
          intro w9 hw9
          have PX2 := hid (PX.out.below hw9)
          have PY2 := hid (PY.out.below hw9)
          have PK2 := hid (PK.out.below hw9)
          clear hw9 ca cb
          go_upto_region 15 with fail
          have ca := fun (s : Wl (Below w9.heap.size w9)) => s.cell (p := ⟨ga, 2, none⟩) PX2.out.sz PX2.out.c2
          have cb := fun (s : Wl (Below w9.heap.size w9)) => s.cell (p := ⟨gb, 2, none⟩) PY2.out.sz PY2.out.c2
          refine wp_region_class (Below w9.heap.size w9) (by kernel_rfl) (by kernel_rfl) (Below.refl _ _).drew ?_
          repeat (go_big_quiet_step (fail))
          refine wpQuiet_nil ?_
          intro w10 hw10
          have Q := hid (PK2.out.below hw10)
          clear hw10 ca cb
          go_wp2
          go_meet
          exact ⟨by rw [L2.out], Q.out⟩
      · by_cases he : h = h2
        · have hne : (h != h2) = false := by rw [he]; simp
          have L2 := hid (show lexB (six y m d h mi s) (six y2 m2 d2 h2 i2 s2) = lexB ((six y m d h mi s).drop 4) ((six y2 m2 d2 h2 i2 s2).drop 4) by
            rw [PL.out]
            unfold six
            simp only [List.drop_succ_cons, List.drop_zero]
            rw [lexB, if_pos he])
          clear he
          go_upto_region 14 with fail
          have ca := fun (s : Wl (Below wr.heap.size wr)) => s.cell (p := ⟨ga, 3, none⟩) PX.out.sz PX.out.c3
          have cb := fun (s : Wl (Below wr.heap.size wr)) => s.cell (p := ⟨gb, 3, none⟩) PY.out.sz PY.out.c3
          refine wp_region_class (Below wr.heap.size wr) (by kernel_rfl) (by kernel_rfl) (Below.refl _ _).drew ?_
          repeat (go_big_quiet_step (fail))
          refine wpQuiet_nil ?_
          intro w9 hw9
          have PX2 := hid (PX.out.below hw9)
          have PY2 := hid (PY.out.below hw9)
          have PK2 := hid (PK.out.below hw9)
          clear hw9 ca cb
          go_wp2
          go_roundw
          case rel => exact ⟨4, by omega, by go_num, rfl, L2.out, PX2.out, PY2.out, PK2.out⟩
          case measure => simp [intOf]
        · have hne : (h != h2) = true := by rw [bne_iff_ne]; exact he
          have L2 := hid (show lexB (six y m d h mi s) (six y2 m2 d2 h2 i2 s2) = decide (h < h2) by
            rw [PL.out]
            unfold six
            simp only [List.drop_succ_cons, List.drop_zero]
            rw [lexB, if_neg he])
          clear he
          go_upto_region 14 with fail
          have ca := fun (s : Wl (Below wr.heap.size wr)) => s.cell (p := ⟨ga, 3, none⟩) PX.out.sz PX.out.c3
          have cb := fun (s : Wl (Below wr.heap.size wr)) => s.cell (p := ⟨gb, 3, none⟩) PY.out.sz PY.out.c3
          refine wp_region_class (Below wr.heap.size wr) (by kernel_rfl) (by kernel_rfl) (Below.refl _ _).drew ?_
          repeat (go_big_quiet_step (fail))
          refine wpQuiet_nil ?_
          intro w9 hw9
          have PX2 := hid (PX.out.below hw9)
          have PY2 := hid (PY.out.below hw9)
          have PK2 := hid (PK.out.below hw9)
          clear hw9 ca cb
          go_upto_region 15 with fail
          have ca := fun (s : Wl (Below w9.heap.size w9)) => s.cell (p := ⟨ga, 3, none⟩) PX2.out.sz PX2.out.c3
          have cb := fun (s : Wl (Below w9.heap.size w9)) => s.cell (p := ⟨gb, 3, none⟩) PY2.out.sz PY2.out.c3
          refine wp_region_class (Below w9.heap.size w9) (by kernel_rfl) (by kernel_rfl) (Below.refl _ _).drew ?_
          repeat (go_big_quiet_step (fail))
          refine wpQuiet_nil ?_
          intro w10 hw10
          have Q := hid (PK2.out.below hw10)
          clear hw10 ca cb
          go_wp2
          go_meet
          exact ⟨by rw [L2.out], Q.out⟩
      · by_cases he : mi = i2
        · have hne : (mi != i2) = false := by rw [he]; simp
          have L2 := hid (show lexB (six y m d h mi s) (six y2 m2 d2 h2 i2 s2) = lexB ((six y m d h mi s).drop 5) ((six y2 m2 d2 h2 i2 s2).drop 5) by
            rw [PL.out]
            unfold six
            simp only [List.drop_succ_cons, List.drop_zero]
            rw [lexB, if_pos he])
          clear he
          go_upto_region 14 with fail
          have ca := fun (s : Wl (Below wr.heap.size wr)) => s.cell (p := ⟨ga, 4, none⟩) PX.out.sz PX.out.c4
          have cb := fun (s : Wl (Below wr.heap.size wr)) => s.cell (p := ⟨gb, 4, none⟩) PY.out.sz PY.out.c4
          refine wp_region_class (Below wr.heap.size wr) (by kernel_rfl) (by kernel_rfl) (Below.refl _ _).drew ?_
          repeat (go_big_quiet_step (fail))
          refine wpQuiet_nil ?_
          intro w9 hw9
          have PX2 := hid (PX.out.below hw9)
          have PY2 := hid (PY.out.below hw9)
          have PK2 := hid (PK.out.below hw9)
          clear hw9 ca cb
          go_wp2
          go_roundw
          case rel => exact ⟨5, by omega, by go_num, rfl, L2.out, PX2.out, PY2.out, PK2.out⟩
          case measure => simp [intOf]
        · have hne : (mi != i2) = true := by rw [bne_iff_ne]; exact he
          have L2 := hid (show lexB (six y m d h mi s) (six y2 m2 d2 h2 i2 s2) = decide (mi < i2) by
            rw [PL.out]
            unfold six
            simp only [List.drop_succ_cons, List.drop_zero]
            rw [lexB, if_neg he])
          clear he
          go_upto_region 14 with fail
          have ca := fun (s : Wl (Below wr.heap.size wr)) => s.cell (p := ⟨ga, 4, none⟩) PX.out.sz PX.out.c4
          have cb := fun (s : Wl (Below wr.heap.size wr)) => s.cell (p := ⟨gb, 4, none⟩) PY.out.sz PY.out.c4
          refine wp_region_class (Below wr.heap.size wr) (by kernel_rfl) (by kernel_rfl) (Below.refl _ _).drew ?_
          repeat (go_big_quiet_step (fail))
          refine wpQuiet_nil ?_
          intro w9 hw9
          have PX2 := hid (PX.out.below hw9)
          have PY2 := hid (PY.out.below hw9)
          have PK2 := hid (PK.out.below hw9)
          clear hw9 ca cb
          go_upto_region 15 with fail
          have ca := fun (s : Wl (Below w9.heap.size w9)) => s.cell (p := ⟨ga, 4, none⟩) PX2.out.sz PX2.out.c4
          have cb := fun (s : Wl (Below w9.heap.size w9)) => s.cell (p := ⟨gb, 4, none⟩) PY2.out.sz PY2.out.c4
          refine wp_region_class (Below w9.heap.size w9) (by kernel_rfl) (by kernel_rfl) (Below.refl _ _).drew ?_
          repeat (go_big_quiet_step (fail))
          refine wpQuiet_nil ?_
          intro w10 hw10
          have Q := hid (PK2.out.below hw10)
          clear hw10 ca cb
          go_wp2
          go_meet
          exact ⟨by rw [L2.out], Q.out⟩
      · by_cases he : s = s2
        · have hne : (s != s2) = false := by rw [he]; simp
          have L2 := hid (show lexB (six y m d h mi s) (six y2 m2 d2 h2 i2 s2) = lexB ((six y m d h mi s).drop 6) ((six y2 m2 d2 h2 i2 s2).drop 6) by
            rw [PL.out]
            unfold six
            simp only [List.drop_succ_cons, List.drop_zero]
            rw [lexB, if_pos he])
          clear he
          go_upto_region 14 with fail
          have ca := fun (s : Wl (Below wr.heap.size wr)) => s.cell (p := ⟨ga, 5, none⟩) PX.out.sz PX.out.c5
          have cb := fun (s : Wl (Below wr.heap.size wr)) => s.cell (p := ⟨gb, 5, none⟩) PY.out.sz PY.out.c5
          refine wp_region_class (Below wr.heap.size wr) (by kernel_rfl) (by kernel_rfl) (Below.refl _ _).drew ?_
          repeat (go_big_quiet_step (fail))
          refine wpQuiet_nil ?_
          intro w9 hw9
          have PX2 := hid (PX.out.below hw9)
          have PY2 := hid (PY.out.below hw9)
          have PK2 := hid (PK.out.below hw9)
          clear hw9 ca cb
          go_wp2
          go_roundw
          case rel => exact ⟨6, by omega, by go_num, rfl, L2.out, PX2.out, PY2.out, PK2.out⟩
          case measure => simp [intOf]
        · have hne : (s != s2) = true := by rw [bne_iff_ne]; exact he
          have L2 := hid (show lexB (six y m d h mi s) (six y2 m2 d2 h2 i2 s2) = decide (s < s2) by
            rw [PL.out]
            unfold six
            simp only [List.drop_succ_cons, List.drop_zero]
            rw [lexB, if_neg he])
          clear he
          go_upto_region 14 with fail
          have ca := fun (s : Wl (Below wr.heap.size wr)) => s.cell (p := ⟨ga, 5, none⟩) PX.out.sz PX.out.c5
          have cb := fun (s : Wl (Below wr.heap.size wr)) => s.cell (p := ⟨gb, 5, none⟩) PY.out.sz PY.out.c5
          refine wp_region_class (Below wr.heap.size wr) (by kernel_rfl) (by kernel_rfl) (Below.refl _ _).drew ?_
          repeat (go_big_quiet_step (fail))
          refine wpQuiet_nil ?_
          intro w9 hw9
          have PX2 := hid (PX.out.below hw9)
          have PY2 := hid (PY.out.below hw9)
          have PK2 := hid (PK.out.below hw9)
          clear hw9 ca cb
          go_upto_region 15 with fail
          have ca := fun (s : Wl (Below w9.heap.size w9)) => s.cell (p := ⟨ga, 5, none⟩) PX2.out.sz PX2.out.c5
          have cb := fun (s : Wl (Below w9.heap.size w9)) => s.cell (p := ⟨gb, 5, none⟩) PY2.out.sz PY2.out.c5
          refine wp_region_class (Below w9.heap.size w9) (by kernel_rfl) (by kernel_rfl) (Below.refl _ _).drew ?_
          repeat (go_big_quiet_step (fail))
          refine wpQuiet_nil ?_
          intro w10 hw10
          have Q := hid (PK2.out.below hw10)
          clear hw10 ca cb
          go_wp2
          go_meet
          exact ⟨by rw [L2.out], Q.out⟩
      · have L2 := hid (show lexB (six y m d h mi s) (six y2 m2 d2 h2 i2 s2) = false by rw [PL.out]; rfl)
        go_wp2
        go_meet
        exact ⟨by rw [L2.out], PK.out⟩
  case rest =>
  obtain ⟨rfl, hk⟩ := hcut
  rw [LX.out]
  obtain ⟨bl, hbl⟩ : ∃ x, decide (n1 < n2) = x := ⟨_, rfl⟩
  rw [hbl]
  clear LX SX SY K6
  have KK := hid hk
  clear hk
  go_upto_region 17 with fail
  have a0 := fun (s : Wl (Below wc.heap.size wc)) => s.cell (p := ⟨w.heap.size, 0, none⟩) KK.out.x.sz KK.out.x.c0
  have a1 := fun (s : Wl (Below wc.heap.size wc)) => s.cell (p := ⟨w.heap.size, 1, none⟩) KK.out.x.sz KK.out.x.c1
  have a2 := fun (s : Wl (Below wc.heap.size wc)) => s.cell (p := ⟨w.heap.size, 2, none⟩) KK.out.x.sz KK.out.x.c2
  have a3 := fun (s : Wl (Below wc.heap.size wc)) => s.cell (p := ⟨w.heap.size, 3, none⟩) KK.out.x.sz KK.out.x.c3
  have a4 := fun (s : Wl (Below wc.heap.size wc)) => s.cell (p := ⟨w.heap.size, 4, none⟩) KK.out.x.sz KK.out.x.c4
  have a5 := fun (s : Wl (Below wc.heap.size wc)) => s.cell (p := ⟨w.heap.size, 5, none⟩) KK.out.x.sz KK.out.x.c5
  have a6 := fun (s : Wl (Below wc.heap.size wc)) => s.cell (p := ⟨w.heap.size, 6, none⟩) KK.out.x.sz KK.out.x.c6
  have a7 := fun (s : Wl (Below wc.heap.size wc)) => s.cell (p := ⟨w.heap.size, 7, none⟩) KK.out.x.sz KK.out.x.c7
  have v0 := fun (s : Wl (Below wc.heap.size wc)) => s.cell (p := ⟨w.heap.size + 1, 0, none⟩) KK.out.z.sz KK.out.z.c0
  have v1 := fun (s : Wl (Below wc.heap.size wc)) => s.cell (p := ⟨w.heap.size + 1, 1, none⟩) KK.out.z.sz KK.out.z.c1
  have v2 := fun (s : Wl (Below wc.heap.size wc)) => s.cell (p := ⟨w.heap.size + 1, 2, none⟩) KK.out.z.sz KK.out.z.c2
  have v3 := fun (s : Wl (Below wc.heap.size wc)) => s.cell (p := ⟨w.heap.size + 1, 3, none⟩) KK.out.z.sz KK.out.z.c3
  have v4 := fun (s : Wl (Below wc.heap.size wc)) => s.cell (p := ⟨w.heap.size + 1, 4, none⟩) KK.out.z.sz KK.out.z.c4
  have v5 := fun (s : Wl (Below wc.heap.size wc)) => s.cell (p := ⟨w.heap.size + 1, 5, none⟩) KK.out.z.sz KK.out.z.c5
  have v6 := fun (s : Wl (Below wc.heap.size wc)) => s.cell (p := ⟨w.heap.size + 1, 6, none⟩) KK.out.z.sz KK.out.z.c6
  have v7 := fun (s : Wl (Below wc.heap.size wc)) => s.cell (p := ⟨w.heap.size + 1, 7, none⟩) KK.out.z.sz KK.out.z.c7
  have AL' := hid (fun (s : Wl (Below wc.heap.size wc)) => AL.out s.w (KK.out.t.below s.h))
  cases bl
  all_goals
    refine wp_region_class (Below wc.heap.size wc) (by kernel_rfl) (by kernel_rfl) (Below.refl _ _).drew ?_
    repeat (go_big_quiet_step (first | (go_at_call 18; first | with_reducible exact Wl.below (Nat.le_refl _) (S1.out _) | with_reducible exact Wl.below (Nat.le_refl _) (S3.out _)) | (go_at_call 8; with_reducible exact Wl.below (Nat.le_refl _) (AL'.out _))))
    refine wpQuiet_nil ?_
    intro w11 hw11
    have Q := hid (KK.out.below hw11)
    clear hw11
    go_wp2
    go_ret
    exact ⟨rfl, Q.out.b⟩

set_option maxRecDepth 100000 in
theorem whenSeconds_lifted (os : Os) (started : os.Started) (H : Type) (enc : TypeId × Value → H) :
    ReturnsInHanded {} Tryd.checked os 5 .any (fun w args => (Rows.whenSecondsSpec.pre enc Tryd.prog Tryd.f5 [] false w args ∧ laidMetH Tryd.prog laid3 w) ∧ sizedMet enc Tryd.prog Tryd.f5 (OpenSpec.ofChange Rows.whenSecondsSpec) false w args)
      (Rows.whenSecondsSpec.post enc Tryd.prog Tryd.f5 false true false false) := by
  refine returnsInHanded_of_change_and (C := Tryd.checked) (X := fun w _ => laidMetH Tryd.prog laid3 w) (fun _ _ _ hh h => h.of_heap hh) own started (by kernel_rfl) Tryd.func5
    (ChangeSpec.witness_shaped (enc := enc) (C := Tryd.checked) (os := os) (X := fun w _ => laidMetH Tryd.prog laid3 w) false (World.doorLaid Tryd.prog 400 os) #[timeV 0 0 0 0 0 0 false false, timeV 0 0 0 0 0 0 false false, .int .i64 0] 8 rfl (World.shaped_of_RefB (by kernel_rfl) (by kernel_rfl)) (by kernel_rfl) (by kernel_rfl) (by kernel_rfl) (door_met os _)) ?_
  intro W base args ds gs before hval0 hW _ _ hL _
  have hval : ∀ (j : Nat) t v, Tryd.f5.params[j]? = some t → args[j]? = some v → Value.okWide Tryd.prog W .any base t v := hval0
  have hW' := hW
  obtain ⟨p, q, hA0, hV, rfl, hfz, hnd⟩ := hW
  have hA : DataW.TrodAll enc Tryd.prog W 0 (fun _ => true) true Tryd.f5.params.toList args.toList ds p := hA0
  rw [Tryd.params5] at hA hval
  obtain ⟨v0, v1, v2, d0, d1, d2, p0, p1, p2, rfl, rfl, _, h0, h1, h2⟩ := trodAll_three hA
  obtain ⟨y0, m0, e0, o0, i0, s0, b0, u0, rfl⟩ := open_time (hval 0 38 v0 rfl rfl) h0
  obtain ⟨y1, m1, e1, o1, i1, s1, b1, u1, rfl⟩ := open_time (hval 1 38 v1 rfl rfl) h1
  obtain ⟨n2, rfl, hn2, hx2⟩ := open_i64 (hval 2 3 v2 rfl rfl) h2
  exact law_post hW' rfl rfl (by kernel_rfl) rfl rfl rfl (seconds_law y0 m0 e0 o0 i0 s0 b0 u0 y1 m1 e1 o1 i1 s1 b1 u1 n2 W hx2 (tab_at hL))

theorem whenSeconds_holds : Rows.WhenSecondsSaid :=
  OpenClaim.holds_of_wide 5 Tryd.f5 rfl rfl rfl rfl rfl rfl rfl ⟨rfl, rfl, rfl, rfl, rfl⟩ rfl rfl rfl rfl rfl (by kernel_rfl) Tryd.func5 (by kernel_rfl)
    (of_decide_eq_true (by kernel_rfl)) (by unfold Func.isWrapper; first | (rw [if_pos (by decide +kernel)]; kernel_rfl) | (rw [if_neg (by decide +kernel)]; exact ⟨rfl, rfl⟩))
    (fun os started H enc _ => whenSeconds_lifted os started H enc)
theorem whenSecondsCard_holds : Rows.WhenSecondsCardSaid :=
  Claim7.holds_tied_plain_at .later [] [.data, .data, .data] true (true, "2a27483c44c5a29c37ef899c1cde8641fe182c6216dc2104949197e6e75cee34") true
    whenSeconds_holds (fun _ h => by cases h) (by kernel_rfl) (fun _ h => by cases h) whenSeconds_row_tie rfl ⟨rfl, rfl⟩ (by kernel_rfl) rfl
    (fun f fn hf hfn => by
      obtain rfl : f = 5 := Option.some.inj ((show Tryd.prog.funcNamed "calends/calendslaw09.WhenSeconds" = some 5 by kernel_rfl).symm.trans hf) |>.symm
      obtain rfl : fn = Tryd.f5 := (Option.some.inj (Tryd.func5.symm.trans hfn)).symm
      exact ⟨by kernel_rfl, fun j t ht => by
        rw [Tryd.params5] at ht
        have hall : ∀ x ∈ [38, 38, 3], Tryd.prog.wantsStandIn x = false := by
          intro x hx
          simp only [List.mem_cons, List.not_mem_nil, or_false] at hx
          rcases hx with rfl | rfl | rfl <;> kernel_rfl
        exact hall t (List.mem_of_getElem? (by simpa using ht))⟩)
    (by kernel_rfl)
#print axioms whenSecondsCard_holds
end Go.Proofs.YtefoajlmcdopiaaDoor
