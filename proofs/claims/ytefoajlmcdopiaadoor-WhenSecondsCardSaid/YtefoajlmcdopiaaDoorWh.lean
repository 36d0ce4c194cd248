/-
  The walks over Seconds and At: the program's, and the reference's.
-/
import Derived.Test.YtefoajlmcdopiaaDoorWg
namespace Go.Proofs.YtefoajlmcdopiaaDoor
open Go.RowKit

theorem inB_iff (n hi : Int) : inB n hi = true ↔ 0 ≤ n ∧ n ≤ hi := by unfold inB; simp
theorem tright_iff (y m d h mi s : Int) (b u : Bool) : trightB y m d h mi s b u = true ↔ Gp.right y m d = true ∧ (0 ≤ h ∧ h ≤ 23) ∧ (0 ≤ mi ∧ mi ≤ 59) ∧ (0 ≤ s ∧ s ≤ 59) ∧ oddB b u h mi s = false := by
  unfold trightB clockB; simp [inB_iff, and_assoc]
/-- A time's seconds. -/
def secN (y m d h mi s : Int) (b u : Bool) : Int := if trightB y m d h mi s b u = true then (Gp.number y m d - 1) * 86400 + h * 3600 + mi * 60 + s else -1
set_option maxHeartbeats 4000000 in
theorem seconds_any (y m d h mi s : Int) (b u : Bool) (w : World) : Calls Tryd.prog 18 #[timeV y m d h mi s b u] w fun e w' => e = .returned (.int .i64 (secN y m d h mi s b u)) ∧ Below w.heap.size w w' := by
  have R := tright_any y m d h mi s b u
  have X0 := hid (timeIn_new w y m d h mi s b u)
  have AB := hid (alloc_below w (timeC y m d h mi s b u))
  have N := number_any y m d
  unfold timeV at R ⊢
  unfold timeC at X0 AB
  unfold dayV at N
  cases ht : trightB y m d h mi s b u with
  | false =>
    have E := hid (show secN y m d h mi s b u = -1 by unfold secN; rw [ht]; rfl)
    rw [ht] at R
    clear ht
    have R := hid R
    have k0 := X0.out.c0
    have k1 := X0.out.c1
    have k2 := X0.out.c2
    have k3 := X0.out.c3
    have k4 := X0.out.c4
    have k5 := X0.out.c5
    have k6 := X0.out.c6
    have k7 := X0.out.c7
    go_enter Tryd.func18, Tryd.ntmps18
    go_wp2_with fail
    refine (R.out _).mono ?_
    rintro e1 w1 ⟨rfl, hb1⟩
    have hb2 := hid (AB.out.trans (hb1.mono (by simp)))
    clear hb1
    go_wp2
    go_ret
    exact ⟨by rw [E.out]; rfl, hb2.out⟩
  | true =>
    have E := hid (show secN y m d h mi s b u = (Gp.number y m d - 1) * 86400 + h * 3600 + mi * 60 + s by unfold secN; rw [ht]; rfl)
    have B := (tright_iff y m d h mi s b u).1 ht
    have nb := Gp.num_range B.1
    have en : Gp.number y m d = Gp.num y m d := by unfold Gp.number; rw [B.1]; rfl
    rw [← en] at nb
    obtain ⟨-, hh, hm, hs, -⟩ := B
    rw [ht] at R
    clear ht en
    generalize Gp.number y m d = q at N E nb
    have R := hid R
    have N := hid N
    have k0 := X0.out.c0
    have k1 := X0.out.c1
    have k2 := X0.out.c2
    have k3 := X0.out.c3
    have k4 := X0.out.c4
    have k5 := X0.out.c5
    have k6 := X0.out.c6
    have k7 := X0.out.c7
    go_enter Tryd.func18, Tryd.ntmps18
    go_wp2_with fail
    refine (R.out _).mono ?_
    rintro e1 w1 ⟨rfl, hb1⟩
    have X1 := hid (X0.out.below hb1)
    have hb2 := hid (AB.out.trans (hb1.mono (by simp)))
    clear hb1 k0 k1 k2 k3 k4 k5 k6 k7 X0 AB
    go_upto_region 3 with fail
    have k0 := fun (s : Wl (Below w1.heap.size w1)) => s.cell (p := ⟨w.heap.size, 0, none⟩) X1.out.sz X1.out.c0
    have k1 := fun (s : Wl (Below w1.heap.size w1)) => s.cell (p := ⟨w.heap.size, 1, none⟩) X1.out.sz X1.out.c1
    have k2 := fun (s : Wl (Below w1.heap.size w1)) => s.cell (p := ⟨w.heap.size, 2, none⟩) X1.out.sz X1.out.c2
    have k3 := fun (s : Wl (Below w1.heap.size w1)) => s.cell (p := ⟨w.heap.size, 3, none⟩) X1.out.sz X1.out.c3
    have k4 := fun (s : Wl (Below w1.heap.size w1)) => s.cell (p := ⟨w.heap.size, 4, none⟩) X1.out.sz X1.out.c4
    have k5 := fun (s : Wl (Below w1.heap.size w1)) => s.cell (p := ⟨w.heap.size, 5, none⟩) X1.out.sz X1.out.c5
    have e1 : IntKind.i64.wrap (q - 1) = q - 1 := IntWalk.i64_in _ (by omega)
    have e2 : IntKind.i64.wrap ((q - 1) * 86400) = (q - 1) * 86400 := IntWalk.i64_in _ (by omega)
    have e3 : IntKind.i64.wrap (h * 3600) = h * 3600 := IntWalk.i64_in _ (by omega)
    have e4 : IntKind.i64.wrap (mi * 60) = mi * 60 := IntWalk.i64_in _ (by omega)
    have e5 : IntKind.i64.wrap ((q - 1) * 86400 + h * 3600) = (q - 1) * 86400 + h * 3600 := IntWalk.i64_in _ (by omega)
    have e6 : IntKind.i64.wrap ((q - 1) * 86400 + h * 3600 + mi * 60) = (q - 1) * 86400 + h * 3600 + mi * 60 := IntWalk.i64_in _ (by omega)
    have e7 : IntKind.i64.wrap ((q - 1) * 86400 + h * 3600 + mi * 60 + s) = (q - 1) * 86400 + h * 3600 + mi * 60 + s := IntWalk.i64_in _ (by omega)
    refine wp_region_class (Below w1.heap.size w1) (by kernel_rfl) (by kernel_rfl) (Below.refl _ _).drew ?_
    repeat (go_big_quiet_step ((go_at_call 39; exact Wl.below (Nat.le_refl _) (N.out _))))
    refine wpQuiet_nil ?_
    intro w2 hw2
    clear k0 k1 k2 k3 k4 k5 e1 e2 e3 e4 e5 e6 e7
    go_wp2
    go_ret
    exact ⟨by rw [E.out]; rfl, hb2.out.trans (hw2.mono hb2.out.size)⟩
set_option maxHeartbeats 4000000 in
theorem rseconds_any (y m d h mi s : Int) (b u : Bool) (w : World) : Calls Tryd.prog 19 #[timeV y m d h mi s b u] w fun e w' => e = .returned (.int .i64 (secN y m d h mi s b u)) ∧ Below w.heap.size w w' := by
  have R := rtright_any y m d h mi s b u
  have X0 := hid (timeIn_new w y m d h mi s b u)
  have AB := hid (alloc_below w (timeC y m d h mi s b u))
  have N := rnumber_any y m d
  unfold timeV at R ⊢
  unfold timeC at X0 AB
  unfold dayV at N
  cases ht : trightB y m d h mi s b u with
  | false =>
    have E := hid (show secN y m d h mi s b u = -1 by unfold secN; rw [ht]; rfl)
    rw [ht] at R
    clear ht
    have R := hid R
    have k0 := X0.out.c0
    have k1 := X0.out.c1
    have k2 := X0.out.c2
    have k3 := X0.out.c3
    have k4 := X0.out.c4
    have k5 := X0.out.c5
    have k6 := X0.out.c6
    have k7 := X0.out.c7
    go_enter Tryd.func19, Tryd.ntmps19
    go_wp2_with fail
    refine (R.out _).mono ?_
    rintro e1 w1 ⟨rfl, hb1⟩
    have hb2 := hid (AB.out.trans (hb1.mono (by simp)))
    clear hb1
    go_wp2
    go_ret
    exact ⟨by rw [E.out]; rfl, hb2.out⟩
  | true =>
    have E := hid (show secN y m d h mi s b u = (Gp.number y m d - 1) * 86400 + h * 3600 + mi * 60 + s by unfold secN; rw [ht]; rfl)
    have B := (tright_iff y m d h mi s b u).1 ht
    have nb := Gp.num_range B.1
    have en : Gp.number y m d = Gp.num y m d := by unfold Gp.number; rw [B.1]; rfl
    rw [← en] at nb
    obtain ⟨-, hh, hm, hs, -⟩ := B
    rw [ht] at R
    clear ht en
    generalize Gp.number y m d = q at N E nb
    have R := hid R
    have N := hid N
    have k0 := X0.out.c0
    have k1 := X0.out.c1
    have k2 := X0.out.c2
    have k3 := X0.out.c3
    have k4 := X0.out.c4
    have k5 := X0.out.c5
    have k6 := X0.out.c6
    have k7 := X0.out.c7
    go_enter Tryd.func19, Tryd.ntmps19
    go_wp2_with fail
    refine (R.out _).mono ?_
    rintro e1 w1 ⟨rfl, hb1⟩
    have X1 := hid (X0.out.below hb1)
    have hb2 := hid (AB.out.trans (hb1.mono (by simp)))
    clear hb1 k0 k1 k2 k3 k4 k5 k6 k7 X0 AB
    go_upto_region 3 with fail
    have k0 := fun (s : Wl (Below w1.heap.size w1)) => s.cell (p := ⟨w.heap.size, 0, none⟩) X1.out.sz X1.out.c0
    have k1 := fun (s : Wl (Below w1.heap.size w1)) => s.cell (p := ⟨w.heap.size, 1, none⟩) X1.out.sz X1.out.c1
    have k2 := fun (s : Wl (Below w1.heap.size w1)) => s.cell (p := ⟨w.heap.size, 2, none⟩) X1.out.sz X1.out.c2
    have k3 := fun (s : Wl (Below w1.heap.size w1)) => s.cell (p := ⟨w.heap.size, 3, none⟩) X1.out.sz X1.out.c3
    have k4 := fun (s : Wl (Below w1.heap.size w1)) => s.cell (p := ⟨w.heap.size, 4, none⟩) X1.out.sz X1.out.c4
    have k5 := fun (s : Wl (Below w1.heap.size w1)) => s.cell (p := ⟨w.heap.size, 5, none⟩) X1.out.sz X1.out.c5
    have e1 : IntKind.i64.wrap (q - 1) = q - 1 := IntWalk.i64_in _ (by omega)
    have e2 : IntKind.i64.wrap (86400 * (q - 1)) = 86400 * (q - 1) := IntWalk.i64_in _ (by omega)
    have e3 : IntKind.i64.wrap (3600 * h) = 3600 * h := IntWalk.i64_in _ (by omega)
    have e4 : IntKind.i64.wrap (60 * mi) = 60 * mi := IntWalk.i64_in _ (by omega)
    have e5 : IntKind.i64.wrap (86400 * (q - 1) + 3600 * h) = 86400 * (q - 1) + 3600 * h := IntWalk.i64_in _ (by omega)
    have e6 : IntKind.i64.wrap (86400 * (q - 1) + 3600 * h + 60 * mi) = 86400 * (q - 1) + 3600 * h + 60 * mi := IntWalk.i64_in _ (by omega)
    have e7 : IntKind.i64.wrap (86400 * (q - 1) + 3600 * h + 60 * mi + s) = 86400 * (q - 1) + 3600 * h + 60 * mi + s := IntWalk.i64_in _ (by omega)
    refine wp_region_class (Below w1.heap.size w1) (by kernel_rfl) (by kernel_rfl) (Below.refl _ _).drew ?_
    repeat (go_big_quiet_step ((go_at_call 40; exact Wl.below (Nat.le_refl _) (N.out _))))
    refine wpQuiet_nil ?_
    intro w2 hw2
    clear k0 k1 k2 k3 k4 k5 e1 e2 e3 e4 e5 e6 e7
    go_wp2
    go_ret
    exact ⟨by rw [E.out, Int.mul_comm _ 86400, Int.mul_comm h, Int.mul_comm mi]; rfl, hb2.out.trans (hw2.mono hb2.out.size)⟩

/-- The hour, minute and second of a number of seconds. -/
def atH (n : Int) : Int := n % 86400 / 3600
def atM (n : Int) : Int := n % 3600 / 60
def atS (n : Int) : Int := n % 60
def atOk (n : Int) (b u : Bool) : Bool := decide (0 ≤ n ∧ n < 315537897600) && !oddB b u (atH n) (atM n) (atS n)
/-- The time with some seconds. -/
def atV (n : Int) (b u : Bool) : Value := if atOk n b u = true then timeV (Gp.ofY (n / 86400 + 1)) (Gp.ofM (n / 86400 + 1)) (Gp.ofD (n / 86400 + 1)) (atH n) (atM n) (atS n) b u else timeV 0 0 0 0 0 0 false false
theorem odd_at (n : Int) (b u : Bool) : oddB b u (atH n) (atM n) (atS n) = (b && (u || n % 86400 != 0)) := by
  unfold oddB
  cases b
  · rfl
  · cases u
    · by_cases h1 : n % 86400 = 0
      · have a1 : atH n = 0 := by unfold atH; omega
        have a2 : atM n = 0 := by unfold atM; omega
        have a3 : atS n = 0 := by unfold atS; omega
        simp [a1, a2, a3, h1]
      · have : ¬ (atH n = 0 ∧ atM n = 0 ∧ atS n = 0) := by unfold atH atM atS; omega
        simp only [Bool.true_and, Bool.or_false, Bool.false_or]
        rw [neF h1]
        by_cases a1 : atH n = 0
        · by_cases a2 : atM n = 0
          · have a3 : ¬ atS n = 0 := fun a3 => this ⟨a1, a2, a3⟩
            rw [neF a3, Bool.or_true]
          · rw [neF a2, Bool.or_true, Bool.true_or]
        · rw [neF a1, Bool.true_or, Bool.true_or]
    · simp
set_option maxHeartbeats 4000000 in
theorem at_guard_no (n y m d h mi s : Int) (b u : Bool) (w : World) (hn : n < 0 ∨ (0 ≤ n ∧ (b && (u || n % 86400 != 0)) = true)) : Calls Tryd.prog 20 #[.int .i64 n, timeV y m d h mi s b u] w fun e w' => e = .returned (timeV 0 0 0 0 0 0 false false) ∧ Below w.heap.size w w' := by
  have X0 := hid (timeIn_new w y m d h mi s b u)
  unfold timeV
  unfold timeC at X0
  have k6 := X0.out.c6
  have k7 := X0.out.c7
  rcases hn with hn | ⟨hn, hb⟩
  · go_enter Tryd.func20, Tryd.ntmps20
    go_wp2
    exact bodyPost_ret (v := .agg #[.int .i64 0, .int .i64 0, .int .i64 0, .int .i64 0, .int .i64 0, .int .i64 0, .bool false, .bool false]) (by simp [results, Tryd.results20, go_sem]) rfl ⟨rfl, by go_grown⟩
  · cases b with
    | false => simp at hb
    | true =>
      cases u with
      | true =>
        clear hb
        go_enter Tryd.func20, Tryd.ntmps20
        go_wp2
        exact bodyPost_ret (v := .agg #[.int .i64 0, .int .i64 0, .int .i64 0, .int .i64 0, .int .i64 0, .int .i64 0, .bool false, .bool false]) (by simp [results, Tryd.results20, go_sem]) rfl ⟨rfl, by go_grown⟩
      | false =>
        have h2 : ¬ n % 86400 = 0 := by simpa using hb
        clear hb
        have h3 := neF h2
        go_enter Tryd.func20, Tryd.ntmps20
        go_wp2
        exact bodyPost_ret (v := .agg #[.int .i64 0, .int .i64 0, .int .i64 0, .int .i64 0, .int .i64 0, .int .i64 0, .bool false, .bool false]) (by simp [results, Tryd.results20, go_sem]) rfl ⟨rfl, by go_grown⟩
/-- A block of the call's own that nothing froze. -/
structure TimeNew (g : Nat) (w : World) : Prop where
  t : TimeIn g 0 0 0 0 0 0 false false w
  f : ∀ j, w.frozen? ⟨g, j, none⟩ = false
theorem TimeNew.below {w w' : World} {g : Nat} (t : TimeNew g w) (hb : Below w.heap.size w w') : TimeNew g w' :=
  ⟨t.t.below hb, fun j => (hb.frozen (p := ⟨g, j, none⟩) t.t.sz).trans (t.f j)⟩
theorem timeNew2 (w : World) (o : Obj) : TimeNew (w.heap.size + 1) ((w.alloc o).alloc (timeC 0 0 0 0 0 0 false false)) :=
  ⟨by have := timeIn_new (w.alloc o) 0 0 0 0 0 0 false false; simpa using this, fun j => World.frozen?_alloc2_new _ _ _ _⟩
set_option maxHeartbeats 8000000 in
theorem at_far (n y m d h mi s : Int) (b u : Bool) (w : World) (h0 : 0 ≤ n) (hb : b = false ∨ (b = true ∧ u = false ∧ n % 86400 = 0)) (hf : 315537897600 ≤ n) (hx : n ≤ 9223372036854775807) :
    Calls Tryd.prog 20 #[.int .i64 n, timeV y m d h mi s b u] w fun e w' => e = .returned (timeV 0 0 0 0 0 0 false false) ∧ Below w.heap.size w w' := by
  have X0 := hid (timeIn_new w y m d h mi s b u)
  have T0 := hid (timeNew2 w (timeC y m d h mi s b u))
  have O := of_any (n / 86400 + 1)
  rw [ofV_out (by omega)] at O
  unfold dayV at O
  have O := hid O
  have ew : IntKind.i64.wrap (n / 86400 + 1) = n / 86400 + 1 := IntWalk.i64_in _ (by omega)
  have EW := hid ew
  clear ew
  unfold timeV
  unfold timeC at X0 T0
  have k6 := X0.out.c6
  have k7 := X0.out.c7
  rcases hb with rfl | ⟨rfl, rfl, hr⟩
  all_goals
    go_enter Tryd.func20, Tryd.ntmps20
    have ew := EW.out
    go_wp2_with fail
    refine (O.out _).mono ?_
    rintro e1 w1 ⟨rfl, hb1⟩
    have T1 := hid (T0.out.below hb1)
    have hb2 := hid (show Below w.heap.size w w1 from Below.trans (by go_grown) (hb1.mono (by simp; omega)))
    clear hb1 k6 k7
    go_upto_region 4 with fail
    have T2 := hid (T1.out.below (alloc_below w1 (.cells #[.int .i64 0, .int .i64 0, .int .i64 0] 36)))
    have z0 := T2.out.t.c0
    have z1 := T2.out.t.c1
    have z2 := T2.out.t.c2
    have z3 := T2.out.t.c3
    have z4 := T2.out.t.c4
    have z5 := T2.out.t.c5
    have z6 := T2.out.t.c6
    have z7 := T2.out.t.c7
    have zf := T2.out.f
    go_wp2
    refine bodyPost_ret (v := .agg #[.int .i64 0, .int .i64 0, .int .i64 0, .int .i64 0, .int .i64 0, .int .i64 0, .bool false, .bool false]) (by simp [results, Tryd.results20, go_sem, z0, z1, z2, z3, z4, z5, z6, z7] <;> omega) rfl ⟨rfl, ?_⟩
    repeat (refine Below.setCell ?_ (by show _ ≤ w.heap.size + 1; omega) _)
    exact hb2.out.trans ((alloc_below _ _).mono hb2.out.size)
set_option maxHeartbeats 8000000 in
theorem at_near (n y m d h mi s Y M D q S H T N X : Int) (b u : Bool) (w : World) (h0 : 0 ≤ n) (hb : b = false ∨ (b = true ∧ u = false ∧ S = 0)) (hf : n < 315537897600)
    (e1 : n / 86400 = q) (e2 : n % 86400 = S) (e3 : S / 3600 = H) (e4 : S / 60 = T) (e5 : T % 60 = N) (e6 : S % 60 = X) (hO : ofV (q + 1) = dayV Y M D) (hY : 1 ≤ Y) :
    Calls Tryd.prog 20 #[.int .i64 n, timeV y m d h mi s b u] w fun e w' => e = .returned (timeV Y M D H N X b u) ∧ Below w.heap.size w w' := by
  have X0 := hid (timeIn_new w y m d h mi s b u)
  have T0 := hid (timeNew2 w (timeC y m d h mi s b u))
  have O := of_any (q + 1)
  rw [hO] at O
  clear hO
  unfold dayV at O
  have O := hid O
  have ew : IntKind.i64.wrap (q + 1) = q + 1 := IntWalk.i64_in _ (by omega)
  have nY := eqF (show ¬ Y = 0 by omega)
  have EW := hid ew
  clear ew
  unfold timeV
  unfold timeC at X0 T0
  have k6 := X0.out.c6
  have k7 := X0.out.c7
  rcases hb with rfl | ⟨rfl, rfl, hr⟩
  all_goals
    go_enter Tryd.func20, Tryd.ntmps20
    have ew := EW.out
    go_wp2_with fail
    refine (O.out _).mono ?_
    rintro e1 w1 ⟨rfl, hb1⟩
    have T1 := hid (T0.out.below hb1)
    have hb2 := hid (show Below w.heap.size w w1 from Below.trans (by go_grown) (hb1.mono (by simp; omega)))
    have X2 := hid ((X0.out.below (alloc_below _ _)).below (hb1.mono (Nat.le_refl _)))
    clear hb1 k6 k7
    go_upto_region 4 with fail
    have T2 := hid (T1.out.below (alloc_below w1 (.cells #[.int .i64 Y, .int .i64 M, .int .i64 D] 36)))
    have z0 := T2.out.t.c0
    have z1 := T2.out.t.c1
    have z2 := T2.out.t.c2
    have z3 := T2.out.t.c3
    have z4 := T2.out.t.c4
    have z5 := T2.out.t.c5
    have z6 := T2.out.t.c6
    have z7 := T2.out.t.c7
    have zf := T2.out.f
    have k6 := (X2.out.below (alloc_below w1 (.cells #[.int .i64 Y, .int .i64 M, .int .i64 D] 36))).c6
    have k7 := (X2.out.below (alloc_below w1 (.cells #[.int .i64 Y, .int .i64 M, .int .i64 D] 36))).c7
    go_wp2
    refine bodyPost_ret (v := .agg #[.int .i64 Y, .int .i64 M, .int .i64 D, .int .i64 H, .int .i64 N, .int .i64 X, .bool _, .bool _]) (by simp [results, Tryd.results20, go_sem, z0, z1, z2, z3, z4, z5, z6, z7] <;> omega) rfl ⟨rfl, ?_⟩
    repeat (refine Below.setCell ?_ (by show _ ≤ w.heap.size + 1; omega) _)
    exact hb2.out.trans ((alloc_below _ _).mono hb2.out.size)
theorem atV_no {n : Int} {b u : Bool} (h : atOk n b u = false) : atV n b u = timeV 0 0 0 0 0 0 false false := by unfold atV; rw [h]; rfl
theorem atV_yes {n : Int} {b u : Bool} (h : atOk n b u = true) : atV n b u = timeV (Gp.ofY (n / 86400 + 1)) (Gp.ofM (n / 86400 + 1)) (Gp.ofD (n / 86400 + 1)) (atH n) (atM n) (atS n) b u := by unfold atV; rw [h]; rfl
theorem at_any (n y m d h mi s : Int) (b u : Bool) (w : World) (hx : n ≤ 9223372036854775807) : Calls Tryd.prog 20 #[.int .i64 n, timeV y m d h mi s b u] w fun e w' => e = .returned (atV n b u) ∧ Below w.heap.size w w' := by
  by_cases h0 : 0 ≤ n
  · cases hb : (b && (u || n % 86400 != 0)) with
    | true =>
      rw [atV_no (by unfold atOk; rw [odd_at, hb]; simp)]
      exact at_guard_no n y m d h mi s b u w (Or.inr ⟨h0, hb⟩)
    | false =>
      have hb' : b = false ∨ (b = true ∧ u = false ∧ n % 86400 = 0) := by
        cases b
        · exact Or.inl rfl
        · right
          cases u
          · exact ⟨rfl, rfl, by simpa using hb⟩
          · simp at hb
      by_cases hf : 315537897600 ≤ n
      · rw [atV_no (by unfold atOk; simp; intro _ h; omega)]
        exact at_far n y m d h mi s b u w h0 hb' hf hx
      · rw [atV_yes (by unfold atOk; rw [odd_at, hb]; simp; omega)]
        have hy := Gp.of_year (n / 86400 + 1) (by omega) (by omega)
        have a1 : n % 86400 / 60 % 60 = atM n := by unfold atM; omega
        have a2 : n % 86400 % 60 = atS n := by unfold atS; omega
        exact at_near n y m d h mi s _ _ _ (n / 86400) (n % 86400) _ _ _ _ b u w h0 hb' (by omega) rfl rfl rfl rfl a1 a2 (ofV_in (by omega) (by omega)) hy.1
  · rw [atV_no (by unfold atOk; simp; intro h; omega)]
    exact at_guard_no n y m d h mi s b u w (Or.inl (by omega))
end Go.Proofs.YtefoajlmcdopiaaDoor
