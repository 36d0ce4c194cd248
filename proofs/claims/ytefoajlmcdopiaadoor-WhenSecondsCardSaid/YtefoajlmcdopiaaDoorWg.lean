/-
  Times; the walks over Right, Seconds: the program's, and the reference's.
-/
import Derived.Test.YtefoajlmcdopiaaDoorWf
import Derived.Test.YtefoajlmcdopiaaDoorWq
import Derived.Test.YtefoajlmcdopiaaDoorNo
import Derived.Deep.CutRange
namespace Go.Proofs.YtefoajlmcdopiaaDoor
open Go.RowKit

/-- A time, by value. -/
def timeV (y m d h mi s : Int) (b u : Bool) : Value := .agg #[.int .i64 y, .int .i64 m, .int .i64 d, .int .i64 h, .int .i64 mi, .int .i64 s, .bool b, .bool u]
def timeC (y m d h mi s : Int) (b u : Bool) : Obj := .cells #[.int .i64 y, .int .i64 m, .int .i64 d, .int .i64 h, .int .i64 mi, .int .i64 s, .bool b, .bool u] 38
/-- A boxed time. -/
structure TimeIn (g : Nat) (y m d h mi s : Int) (b u : Bool) (w : World) : Prop where
  c0 : w.cell? ⟨g, 0, none⟩ = some (.int .i64 y)
  c1 : w.cell? ⟨g, 1, none⟩ = some (.int .i64 m)
  c2 : w.cell? ⟨g, 2, none⟩ = some (.int .i64 d)
  c3 : w.cell? ⟨g, 3, none⟩ = some (.int .i64 h)
  c4 : w.cell? ⟨g, 4, none⟩ = some (.int .i64 mi)
  c5 : w.cell? ⟨g, 5, none⟩ = some (.int .i64 s)
  c6 : w.cell? ⟨g, 6, none⟩ = some (.bool b)
  c7 : w.cell? ⟨g, 7, none⟩ = some (.bool u)
  sz : g < w.heap.size
theorem TimeIn.below {w w' : World} {g : Nat} {y m d h mi s : Int} {b u : Bool} (t : TimeIn g y m d h mi s b u w) (hb : Below w.heap.size w w') : TimeIn g y m d h mi s b u w' :=
  ⟨(hb.cell (p := ⟨g, 0, none⟩) t.sz).trans t.c0, (hb.cell (p := ⟨g, 1, none⟩) t.sz).trans t.c1, (hb.cell (p := ⟨g, 2, none⟩) t.sz).trans t.c2, (hb.cell (p := ⟨g, 3, none⟩) t.sz).trans t.c3, (hb.cell (p := ⟨g, 4, none⟩) t.sz).trans t.c4,
   (hb.cell (p := ⟨g, 5, none⟩) t.sz).trans t.c5, (hb.cell (p := ⟨g, 6, none⟩) t.sz).trans t.c6, (hb.cell (p := ⟨g, 7, none⟩) t.sz).trans t.c7, Nat.lt_of_lt_of_le t.sz hb.size⟩
theorem timeIn_new (w : World) (y m d h mi s : Int) (b u : Bool) : TimeIn w.heap.size y m d h mi s b u (w.alloc (timeC y m d h mi s b u)) := by
  refine ⟨?_, ?_, ?_, ?_, ?_, ?_, ?_, ?_, by simp⟩
  all_goals exact World.cell?_alloc_at _ _ _ _ rfl

def inB (n hi : Int) : Bool := decide (0 ≤ n) && decide (n ≤ hi)
theorem in_any (n hi : Int) (w : World) : Calls Tryd.prog 44 #[.int .i64 n, .int .i64 hi] w fun e w' => e = .returned (.bool (inB n hi)) ∧ w = w' := by
  by_cases h1 : 0 ≤ n
  · by_cases h2 : n ≤ hi
    · have E := hid (show inB n hi = true by unfold inB; simp [h1, h2])
      go_enter Tryd.func44, Tryd.ntmps44
      go_wp2
      go_ret
      exact ⟨by rw [E.out]; rfl, rfl⟩
    · have E := hid (show inB n hi = false by unfold inB; simp [h1, h2])
      have h3 : decide (n ≤ hi) = false := by simp; omega
      go_enter Tryd.func44, Tryd.ntmps44
      go_wp2
      go_ret
      exact ⟨by rw [E.out]; rfl, rfl⟩
  · have E := hid (show inB n hi = false by unfold inB; simp [h1])
    have h3 : decide (0 ≤ n) = false := by simp; omega
    go_enter Tryd.func44, Tryd.ntmps44
    go_wp2
    go_ret
    exact ⟨by rw [E.out]; rfl, rfl⟩
theorem rin_any (n hi : Int) (w : World) : Calls Tryd.prog 34 #[.int .i64 n, .int .i64 hi] w fun e w' => e = .returned (.bool (inB n hi)) ∧ w = w' := by
  by_cases h1 : 0 ≤ n
  · by_cases h2 : n ≤ hi
    · have E := hid (show inB n hi = true by unfold inB; simp [h1, h2])
      go_enter Tryd.func34, Tryd.ntmps34
      go_wp2
      go_ret
      exact ⟨by rw [E.out]; rfl, rfl⟩
    · have E := hid (show inB n hi = false by unfold inB; simp [h1, h2])
      have h3 : decide (n ≤ hi) = false := by simp; omega
      go_enter Tryd.func34, Tryd.ntmps34
      go_wp2
      go_ret
      exact ⟨by rw [E.out]; rfl, rfl⟩
  · have E := hid (show inB n hi = false by unfold inB; simp [h1])
    have h3 : decide (0 ≤ n) = false := by simp; omega
    go_enter Tryd.func34, Tryd.ntmps34
    go_wp2
    go_ret
    exact ⟨by rw [E.out]; rfl, rfl⟩

/-- A day alone, yet a clock. -/
def oddB (b u : Bool) (h mi s : Int) : Bool := b && (h != 0 || mi != 0 || s != 0 || u)
def clockB (h mi s : Int) : Bool := inB h 23 && inB mi 59 && inB s 59
def trightB (y m d h mi s : Int) (b u : Bool) : Bool := Gp.right y m d && clockB h mi s && !oddB b u h mi s
theorem neF {n : Int} (h : ¬ n = 0) : (n != 0) = true := by simp [h]
theorem eqF {n : Int} (h : ¬ n = 0) : (n == 0) = false := by simp [h]
theorem bool_eq {b : Bool} {p : Bool} (h : p = b) : (Value.bool p) = .bool b := by rw [h]
set_option maxHeartbeats 4000000 in
theorem tright_any (y m d h mi s : Int) (b u : Bool) (w : World) : Calls Tryd.prog 22 #[timeV y m d h mi s b u] w fun e w' => e = .returned (.bool (trightB y m d h mi s b u)) ∧ Below w.heap.size w w' := by
  obtain ⟨r, hr⟩ : ∃ r, Gp.right y m d = r := ⟨_, rfl⟩
  obtain ⟨i1, hi1⟩ : ∃ r, inB h 23 = r := ⟨_, rfl⟩
  obtain ⟨i2, hi2⟩ : ∃ r, inB mi 59 = r := ⟨_, rfl⟩
  obtain ⟨i3, hi3⟩ : ∃ r, inB s 59 = r := ⟨_, rfl⟩
  obtain ⟨o, ho⟩ : ∃ r, oddB b u h mi s = r := ⟨_, rfl⟩
  have R := right_any y m d
  have I1 := in_any h 23
  have I2 := in_any mi 59
  have I3 := in_any s 59
  have X0 := hid (timeIn_new w y m d h mi s b u)
  have AB := hid (alloc_below w (timeC y m d h mi s b u))
  have E := hid (show trightB y m d h mi s b u = (r && (i1 && i2 && i3) && !o) by unfold trightB clockB; rw [hr, hi1, hi2, hi3, ho])
  rw [hr] at R
  rw [hi1] at I1
  rw [hi2] at I2
  rw [hi3] at I3
  have R := hid R
  have I1 := hid I1
  have I2 := hid I2
  have I3 := hid I3
  clear hr hi1 hi2 hi3
  have O := hid ho
  clear ho
  unfold dayV at R
  unfold timeC at X0 AB
  unfold timeV
  go_enter Tryd.func22, Tryd.ntmps22
  go_upto_region 1 with fail
  go_cut [23] from 3 to 23 (fun a wx => a = .bool o ∧ wx = w.alloc (.cells #[.int .i64 y, .int .i64 m, .int .i64 d, .int .i64 h, .int .i64 mi, .int .i64 s, .bool b, .bool u] 38))
  case first =>
    have k3 := X0.out.c3
    have k4 := X0.out.c4
    have k5 := X0.out.c5
    have k6 := X0.out.c6
    have k7 := X0.out.c7
    cases b
    · go_wp2
      go_meet
      exact ⟨by rw [← O.out]; rfl, rfl⟩
    · by_cases z1 : h = 0
      · by_cases z2 : mi = 0
        · by_cases z3 : s = 0
          · subst z1; subst z2; subst z3
            go_wp2
            go_meet
            exact ⟨by rw [← O.out]; cases u <;> rfl, rfl⟩
          · subst z1; subst z2
            have n3 := neF z3
            go_wp2
            go_meet
            exact ⟨by rw [← O.out]; simp [oddB, n3], rfl⟩
        · subst z1
          have n2 := neF z2
          go_wp2
          go_meet
          exact ⟨by rw [← O.out]; simp [oddB, n2], rfl⟩
      · have n1 := neF z1
        go_wp2
        go_meet
        exact ⟨by rw [← O.out]; simp [oddB, n1], rfl⟩
  case rest =>
    obtain ⟨rfl, rfl⟩ := hcut
    clear O
    cases o
    · have X1 := X0.out
      have k0 := X1.c0
      have k1 := X1.c1
      have k2 := X1.c2
      clear X1
      go_wp2_with fail
      clear k0 k1 k2
      refine (R.out _).mono ?_
      rintro e1 w1 ⟨rfl, hb1⟩
      have X2 := X0.out.below hb1
      have hb2 := hid (AB.out.trans (hb1.mono (by simp)))
      clear hb1 X0 AB
      have k3 := X2.c3
      have k4 := X2.c4
      have k5 := X2.c5
      clear X2
      cases r
      · go_wp2
        go_ret
        exact ⟨by rw [E.out]; rfl, hb2.out⟩
      · go_wp2_with fail
        refine (I1.out _).mono ?_
        rintro e1 w1 ⟨rfl, rfl⟩
        cases i1
        · go_wp2
          go_ret
          exact ⟨by rw [E.out]; rfl, hb2.out⟩
        · go_wp2_with fail
          refine (I2.out _).mono ?_
          rintro e1 w1 ⟨rfl, rfl⟩
          cases i2
          · go_wp2
            go_ret
            exact ⟨by rw [E.out]; rfl, hb2.out⟩
          · go_wp2_with fail
            refine (I3.out _).mono ?_
            rintro e1 w1 ⟨rfl, rfl⟩
            go_wp2
            go_ret
            exact ⟨by rw [E.out]; cases i3 <;> rfl, hb2.out⟩
    · go_wp2
      go_ret
      exact ⟨by rw [E.out]; simp, AB.out⟩
/-- The reference's. -/
theorem rbare_eq (b u : Bool) (h mi s : Int) : (!b || (h == 0 && mi == 0 && s == 0 && !u)) = !oddB b u h mi s := by
  unfold oddB
  cases b <;> cases u <;> simp [bne, Bool.not_or, Bool.and_assoc]
set_option maxHeartbeats 4000000 in
theorem rtright_any (y m d h mi s : Int) (b u : Bool) (w : World) : Calls Tryd.prog 27 #[timeV y m d h mi s b u] w fun e w' => e = .returned (.bool (trightB y m d h mi s b u)) ∧ Below w.heap.size w w' := by
  obtain ⟨r, hr⟩ : ∃ r, Gp.right y m d = r := ⟨_, rfl⟩
  obtain ⟨i1, hi1⟩ : ∃ r, inB h 23 = r := ⟨_, rfl⟩
  obtain ⟨i2, hi2⟩ : ∃ r, inB mi 59 = r := ⟨_, rfl⟩
  obtain ⟨i3, hi3⟩ : ∃ r, inB s 59 = r := ⟨_, rfl⟩
  obtain ⟨o, ho⟩ : ∃ r, (!oddB b u h mi s) = r := ⟨_, rfl⟩
  have R := rright_any y m d
  have I1 := rin_any h 23
  have I2 := rin_any mi 59
  have I3 := rin_any s 59
  have X0 := hid (timeIn_new w y m d h mi s b u)
  have AB := hid (alloc_below w (timeC y m d h mi s b u))
  have E := hid (show trightB y m d h mi s b u = (r && (i1 && i2 && i3) && o) by unfold trightB clockB; rw [hr, hi1, hi2, hi3, ho])
  rw [hr] at R
  rw [hi1] at I1
  rw [hi2] at I2
  rw [hi3] at I3
  have R := hid R
  have I1 := hid I1
  have I2 := hid I2
  have I3 := hid I3
  clear hr hi1 hi2 hi3
  have O := hid ((rbare_eq b u h mi s).trans ho)
  clear ho
  unfold dayV at R
  unfold timeC at X0 AB
  unfold timeV
  go_enter Tryd.func27, Tryd.ntmps27
  go_upto_region 1 with fail
  go_cut [3] from 5 to 17 (fun a wx => a = .bool (i1 && i2 && i3) ∧ wx = w.alloc (.cells #[.int .i64 y, .int .i64 m, .int .i64 d, .int .i64 h, .int .i64 mi, .int .i64 s, .bool b, .bool u] 38))
  case first =>
    have k3 := X0.out.c3
    have k4 := X0.out.c4
    have k5 := X0.out.c5
    go_wp2_with fail
    refine (I1.out _).mono ?_
    rintro e1 w1 ⟨rfl, rfl⟩
    cases i1
    · go_wp2
      go_meet
      exact ⟨rfl, rfl⟩
    · go_wp2_with fail
      refine (I2.out _).mono ?_
      rintro e1 w1 ⟨rfl, rfl⟩
      cases i2
      · go_wp2
        go_meet
        exact ⟨rfl, rfl⟩
      · go_wp2_with fail
        refine (I3.out _).mono ?_
        rintro e1 w1 ⟨rfl, rfl⟩
        go_wp2
        go_meet
        exact ⟨by cases i3 <;> rfl, rfl⟩
  case rest =>
    obtain ⟨rfl, rfl⟩ := hcut
    obtain ⟨c, hc⟩ : ∃ c, (i1 && i2 && i3) = c := ⟨_, rfl⟩
    rw [hc] at E ⊢
    clear hc
    go_upto_region 2 with fail
    go_cut [4] from 18 to 40 (fun a wx => a = .bool o ∧ wx = w.alloc (.cells #[.int .i64 y, .int .i64 m, .int .i64 d, .int .i64 h, .int .i64 mi, .int .i64 s, .bool b, .bool u] 38))
    case first =>
      have k3 := X0.out.c3
      have k4 := X0.out.c4
      have k5 := X0.out.c5
      have k6 := X0.out.c6
      have k7 := X0.out.c7
      cases b
      · go_wp2
        go_meet
        exact ⟨by rw [← O.out]; rfl, rfl⟩
      · by_cases z1 : h = 0
        · by_cases z2 : mi = 0
          · by_cases z3 : s = 0
            · subst z1; subst z2; subst z3
              go_wp2
              go_meet
              exact ⟨by rw [← O.out]; cases u <;> rfl, rfl⟩
            · subst z1; subst z2
              have n3 := eqF z3
              go_wp2
              go_meet
              exact ⟨by rw [← O.out]; simp [n3], rfl⟩
          · subst z1
            have n2 := eqF z2
            go_wp2
            go_meet
            exact ⟨by rw [← O.out]; simp [n2], rfl⟩
        · have n1 := eqF z1
          go_wp2
          go_meet
          exact ⟨by rw [← O.out]; simp [n1], rfl⟩
    case rest =>
      obtain ⟨rfl, rfl⟩ := hcut
      clear O
      have X1 := X0.out
      have k0 := X1.c0
      have k1 := X1.c1
      have k2 := X1.c2
      clear X1
      go_wp2_with fail
      clear k0 k1 k2
      refine (R.out _).mono ?_
      rintro e1 w1 ⟨rfl, hb1⟩
      have hb2 := hid (AB.out.trans (hb1.mono (by simp)))
      clear hb1 X0 AB
      cases r
      · go_wp2
        go_ret
        exact ⟨by rw [E.out]; rfl, hb2.out⟩
      · cases c
        · go_wp2
          go_ret
          exact ⟨by rw [E.out]; rfl, hb2.out⟩
        · go_wp2
          go_ret
          exact ⟨by rw [E.out]; cases o <;> rfl, hb2.out⟩
end Go.Proofs.YtefoajlmcdopiaaDoor
