/-
  The walks over Print: the program's, and the reference's.
-/
import Derived.Test.YtefoajlmcdopiaaDoorWk
import Derived.Test.YtefoajlmcdopiaaDoorWh
import Derived.Test.YtefoajlmcdopiaaDoorEr
namespace Go.Proofs.YtefoajlmcdopiaaDoor
open Go.RowKit

namespace Tw
def day8 (y m d : Nat) : List UInt8 := dig y 4 ++ dig m 2 ++ dig d 2
def clock7 (h mi s : Nat) : List UInt8 := [84] ++ dig h 2 ++ dig mi 2 ++ dig s 2
/-- A right time's text. -/
def print (y m d h mi s : Nat) (b u : Bool) : List UInt8 := if b = true then day8 y m d else day8 y m d ++ clock7 h mi s ++ (if u = true then [90] else [])
end Tw
set_option maxHeartbeats 4000000 in
theorem print_no (y m d h mi s : Int) (b u : Bool) (w : World) (hr : trightB y m d h mi s b u = false) : Calls Tryd.prog 25 #[timeV y m d h mi s b u] w fun e w' => e = .returned (.tuple #[.string (bs []), errno 2]) ∧ Below w.heap.size w w' := by
  have R := tright_any y m d h mi s b u
  rw [hr] at R
  clear hr
  have X0 := hid (timeIn_new w y m d h mi s b u)
  have AB := hid (alloc_below w (timeC y m d h mi s b u))
  unfold timeV at R ⊢
  unfold timeC at X0 AB
  have R := hid R
  have k0 := X0.out.c0
  have k1 := X0.out.c1
  have k2 := X0.out.c2
  have k3 := X0.out.c3
  have k4 := X0.out.c4
  have k5 := X0.out.c5
  have k6 := X0.out.c6
  have k7 := X0.out.c7
  go_enter Tryd.func25, Tryd.ntmps25
  go_wp2_with fail
  refine (R.out _).mono ?_
  rintro e1 w1 ⟨rfl, hb1⟩
  have hb2 := hid (AB.out.trans (hb1.mono (by simp)))
  clear hb1
  go_wp2
  go_ret2
  exact ⟨rfl, hb2.out⟩
set_option maxHeartbeats 4000000 in
theorem rprint_no (y m d h mi s : Int) (b u : Bool) (w : World) (hr : trightB y m d h mi s b u = false) : Calls Tryd.prog 26 #[timeV y m d h mi s b u] w fun e w' => e = .returned (.tuple #[.string (bs []), .int .i64 2]) ∧ Below w.heap.size w w' := by
  have R := rtright_any y m d h mi s b u
  rw [hr] at R
  clear hr
  have X0 := hid (timeIn_new w y m d h mi s b u)
  have AB := hid (alloc_below w (timeC y m d h mi s b u))
  unfold timeV at R ⊢
  unfold timeC at X0 AB
  have R := hid R
  have k0 := X0.out.c0
  have k1 := X0.out.c1
  have k2 := X0.out.c2
  have k3 := X0.out.c3
  have k4 := X0.out.c4
  have k5 := X0.out.c5
  have k6 := X0.out.c6
  have k7 := X0.out.c7
  go_enter Tryd.func26, Tryd.ntmps26
  go_wp2_with fail
  refine (R.out _).mono ?_
  rintro e1 w1 ⟨rfl, hb1⟩
  have hb2 := hid (AB.out.trans (hb1.mono (by simp)))
  clear hb1
  go_wp2
  go_ret2
  exact ⟨rfl, hb2.out⟩
theorem dig_len (x n : Nat) (hx : x < 10000000000) (hn : n ≤ 4) : (Tw.dig x n).length ≤ 14 := by
  have := dec_len x hx
  unfold Tw.dig Tw.pad
  simp; omega
theorem dig2_any (x : Nat) (w : World) (hx : x < 100) : Calls Tryd.prog 37 #[.int .i64 x, .int .i64 2] w fun e w' => e = .returned (.string (bs (Tw.dig x 2))) ∧ Below w.heap.size w w' := digits_any x 2 w (itoaAt_small x w hx) (by omega) (by omega)
theorem dig4_any (x : Nat) (w : World) (hI : ItoaAt x w) (hx : x < 10000) : Calls Tryd.prog 37 #[.int .i64 x, .int .i64 4] w fun e w' => e = .returned (.string (bs (Tw.dig x 4))) ∧ Below w.heap.size w w' := digits_any x 4 w hI (by omega) (by omega)
theorem rdig2_any (x : Nat) (w : World) (hx : x < 100) : Calls Tryd.prog 36 #[.int .i64 x, .int .i64 2] w fun e w' => e = .returned (.string (bs (Tw.dig x 2))) ∧ Below w.heap.size w w' := rdec_any x 2 w (by omega) (by omega) (by omega)
theorem rdig4_any (x : Nat) (w : World) (hx : x < 10000) : Calls Tryd.prog 36 #[.int .i64 x, .int .i64 4] w fun e w' => e = .returned (.string (bs (Tw.dig x 4))) ∧ Below w.heap.size w w' := rdec_any x 4 w (by omega) (by omega) (by omega)
set_option maxHeartbeats 4000000 in
theorem print_yes (y m d h mi s : Nat) (b u : Bool) (w : World) (hr : trightB y m d h mi s b u = true) (hI : ∀ w', Below w.heap.size w w' → ItoaAt y w') :
    Calls Tryd.prog 25 #[timeV y m d h mi s b u] w fun e w' => e = .returned (.tuple #[.string (bs (Tw.print y m d h mi s b u)), .nilIface]) ∧ Below w.heap.size w w' := by
  have R := tright_any y m d h mi s b u
  rw [hr] at R
  obtain ⟨hd, hh, hm, hs, -⟩ := (tright_iff (y : Int) m d h mi s b u).1 hr
  obtain ⟨hy1, hy2, hm1, hm2, hd1, hd2⟩ := (Gp.right_iff (y : Int) m d).1 hd
  have ml := Gp.mlen_bd (y : Int) m
  have II := hid hI
  clear hr hd hI
  have D1 := hid (fun w' (hb : Below w.heap.size w w') => dig4_any y w' (II.out w' hb) (by omega))
  have D2 := hid (fun w' => dig2_any m w' (by omega))
  have D3 := hid (fun w' => dig2_any d w' (by omega))
  have D4 := hid (fun w' => dig2_any h w' (by omega))
  have D5 := hid (fun w' => dig2_any mi w' (by omega))
  have D6 := hid (fun w' => dig2_any s w' (by omega))
  have l1 := dig_len y 4 (by omega) (by omega)
  have l2 := dig_len m 2 (by omega) (by omega)
  have l3 := dig_len d 2 (by omega) (by omega)
  have l4 := dig_len h 2 (by omega) (by omega)
  have l5 := dig_len mi 2 (by omega) (by omega)
  have l6 := dig_len s 2 (by omega) (by omega)
  have E : Hid (Tw.print y m d h mi s b u = if b = true then Tw.dig y 4 ++ Tw.dig m 2 ++ Tw.dig d 2 else Tw.dig y 4 ++ Tw.dig m 2 ++ Tw.dig d 2 ++ ([84] ++ Tw.dig h 2 ++ Tw.dig mi 2 ++ Tw.dig s 2) ++ (if u = true then [90] else [])) := rfl
  generalize Tw.dig y 4 = a1 at D1 l1 E
  generalize Tw.dig m 2 = a2 at D2 l2 E
  generalize Tw.dig d 2 = a3 at D3 l3 E
  generalize Tw.dig h 2 = a4 at D4 l4 E
  generalize Tw.dig mi 2 = a5 at D5 l5 E
  generalize Tw.dig s 2 = a6 at D6 l6 E
  have X0 := hid (timeIn_new w y m d h mi s b u)
  have AB := hid (alloc_below w (timeC y m d h mi s b u))
  unfold timeV at R ⊢
  unfold timeC at X0 AB
  have R := hid R
  have k0 := X0.out.c0
  have k1 := X0.out.c1
  have k2 := X0.out.c2
  have k3 := X0.out.c3
  have k4 := X0.out.c4
  have k5 := X0.out.c5
  have k6 := X0.out.c6
  have k7 := X0.out.c7
  go_enter Tryd.func25, Tryd.ntmps25
  go_wp2_with fail
  refine (R.out _).mono ?_
  rintro e1 w1 ⟨rfl, hb1⟩
  have X1 := hid (X0.out.below hb1)
  have hb2 := hid (AB.out.trans (hb1.mono (by simp)))
  clear hb1 k0 k1 k2 k3 k4 k5 k6 k7 X0 AB
  go_upto_region 3 with fail
  have k0 := fun (s : Wl (Below w1.heap.size w1)) => s.cell (p := ⟨w.heap.size, 0, none⟩) X1.out.sz X1.out.c0
  have k1 := fun (s : Wl (Below w1.heap.size w1)) => s.cell (p := ⟨w.heap.size, 1, none⟩) X1.out.sz X1.out.c1
  have k2 := fun (s : Wl (Below w1.heap.size w1)) => s.cell (p := ⟨w.heap.size, 2, none⟩) X1.out.sz X1.out.c2
  have e1 : (9223372036854775807 < a1.length + a2.length) = False := eq_false (by omega)
  have e2 : (9223372036854775807 < a1.length + a2.length + a3.length) = False := eq_false (by omega)
  have D1' := hid (fun (s : Wl (Below w1.heap.size w1)) => D1.out s.w (hb2.out.trans (s.h.mono hb2.out.size)))
  refine wp_region_class (Below w1.heap.size w1) (by kernel_rfl) (by kernel_rfl) (Below.refl _ _).drew ?_
  repeat (go_big_quiet_step ((go_at_call 37; first | with_reducible exact Wl.below (Nat.le_refl _) (D1'.out _) | with_reducible exact Wl.below (Nat.le_refl _) (D2.out _) | with_reducible exact Wl.below (Nat.le_refl _) (D3.out _))))
  refine wpQuiet_nil ?_
  intro w2 hw2
  clear k0 k1 k2 e1 e2 D1' D1 D2 D3
  have hb3 := hid (hb2.out.trans (hw2.mono hb2.out.size))
  have X2 := hid (X1.out.below hw2)
  clear hw2 X1 hb2
  have k4 := X2.out.c6
  cases b with
  | true =>
    go_wp2
    go_ret2
    exact ⟨by rw [E.out]; simp only [if_true, List.append_assoc]; rfl, hb3.out⟩
  | false =>
    go_upto_region 6 with fail
    have k0 := fun (s : Wl (Below w2.heap.size w2)) => s.cell (p := ⟨w.heap.size, 3, none⟩) X2.out.sz X2.out.c3
    have k1 := fun (s : Wl (Below w2.heap.size w2)) => s.cell (p := ⟨w.heap.size, 4, none⟩) X2.out.sz X2.out.c4
    have k2 := fun (s : Wl (Below w2.heap.size w2)) => s.cell (p := ⟨w.heap.size, 5, none⟩) X2.out.sz X2.out.c5
    refine wp_region_class (Below w2.heap.size w2) (by kernel_rfl) (by kernel_rfl) (Below.refl _ _).drew ?_
    repeat (go_big_quiet_step ((go_at_call 37; first | with_reducible exact Wl.below (Nat.le_refl _) (D4.out _) | with_reducible exact Wl.below (Nat.le_refl _) (D5.out _) | with_reducible exact Wl.below (Nat.le_refl _) (D6.out _))))
    refine wpQuiet_nil ?_
    intro w3 hw3
    clear k0 k1 k2 k4 D4 D5 D6
    have hb4 := hid (hb3.out.trans (hw3.mono hb3.out.size))
    have k5 := (X2.out.below hw3).c7
    clear hw3 X2 hb3
    have hs : bs (a1 ++ (a2 ++ a3)) ++ ((⟨#[84]⟩ : ByteArray) ++ bs a4 ++ bs a5 ++ bs a6) = bs (a1 ++ a2 ++ a3 ++ ([84] ++ a4 ++ a5 ++ a6)) := by
      rw [bs_lit #[84]]; simp only [bs_append, List.append_assoc]
    rw [hs]
    clear hs
    have E2 := hid (E.out.trans (if_neg Bool.false_ne_true))
    have hz : (a1 ++ a2 ++ a3 ++ ([84] ++ a4 ++ a5 ++ a6)).length ≤ 100 := by simp; omega
    generalize a1 ++ a2 ++ a3 ++ ([84] ++ a4 ++ a5 ++ a6) = z at E2 hz ⊢
    cases u with
    | true =>
      have hs : bs z ++ (⟨#[90]⟩ : ByteArray) = bs (z ++ [90]) := by rw [bs_lit #[90]]; simp only [bs_append]
      go_wp2
      go_ret2
      exact ⟨by rw [E2.out]; simp only [if_true]; rw [← hs]; rfl, hb4.out⟩
    | false =>
      go_wp2
      go_ret2
      exact ⟨by rw [E2.out]; simp only [Bool.false_eq_true, if_false, List.append_nil]; rfl, hb4.out⟩
set_option maxHeartbeats 4000000 in
theorem rprint_yes (y m d h mi s : Nat) (b u : Bool) (w : World) (hr : trightB y m d h mi s b u = true) :
    Calls Tryd.prog 26 #[timeV y m d h mi s b u] w fun e w' => e = .returned (.tuple #[.string (bs (Tw.print y m d h mi s b u)), .int .i64 0]) ∧ Below w.heap.size w w' := by
  have R := rtright_any y m d h mi s b u
  rw [hr] at R
  obtain ⟨hd, hh, hm, hs, ho⟩ := (tright_iff (y : Int) m d h mi s b u).1 hr
  obtain ⟨hy1, hy2, hm1, hm2, hd1, hd2⟩ := (Gp.right_iff (y : Int) m d).1 hd
  have ml := Gp.mlen_bd (y : Int) m
  clear hr hd
  have HO := hid ho
  clear ho
  have D1 := hid (fun w' => rdig4_any y w' (by omega))
  have D2 := hid (fun w' => rdig2_any m w' (by omega))
  have D3 := hid (fun w' => rdig2_any d w' (by omega))
  have D4 := hid (fun w' => rdig2_any h w' (by omega))
  have D5 := hid (fun w' => rdig2_any mi w' (by omega))
  have D6 := hid (fun w' => rdig2_any s w' (by omega))
  have l1 := dig_len y 4 (by omega) (by omega)
  have l2 := dig_len m 2 (by omega) (by omega)
  have l3 := dig_len d 2 (by omega) (by omega)
  have l4 := dig_len h 2 (by omega) (by omega)
  have l5 := dig_len mi 2 (by omega) (by omega)
  have l6 := dig_len s 2 (by omega) (by omega)
  have E : Hid (Tw.print y m d h mi s b u = if b = true then Tw.dig y 4 ++ Tw.dig m 2 ++ Tw.dig d 2 else Tw.dig y 4 ++ Tw.dig m 2 ++ Tw.dig d 2 ++ ([84] ++ Tw.dig h 2 ++ Tw.dig mi 2 ++ Tw.dig s 2) ++ (if u = true then [90] else [])) := rfl
  generalize Tw.dig y 4 = a1 at D1 l1 E
  generalize Tw.dig m 2 = a2 at D2 l2 E
  generalize Tw.dig d 2 = a3 at D3 l3 E
  generalize Tw.dig h 2 = a4 at D4 l4 E
  generalize Tw.dig mi 2 = a5 at D5 l5 E
  generalize Tw.dig s 2 = a6 at D6 l6 E
  have X0 := hid (timeIn_new w y m d h mi s b u)
  have AB := hid (alloc_below w (timeC y m d h mi s b u))
  unfold timeV at R ⊢
  unfold timeC at X0 AB
  have R := hid R
  have k0 := X0.out.c0
  have k1 := X0.out.c1
  have k2 := X0.out.c2
  have k3 := X0.out.c3
  have k4 := X0.out.c4
  have k5 := X0.out.c5
  have k6 := X0.out.c6
  have k7 := X0.out.c7
  go_enter Tryd.func26, Tryd.ntmps26
  go_wp2_with fail
  refine (R.out _).mono ?_
  rintro e1 w1 ⟨rfl, hb1⟩
  have X1 := hid (X0.out.below hb1)
  have hb2 := hid (AB.out.trans (hb1.mono (by simp)))
  clear hb1 k0 k1 k2 k3 k4 k5 k6 k7 X0 AB
  go_upto_region 3 with fail
  have k0 := fun (s : Wl (Below w1.heap.size w1)) => s.cell (p := ⟨w.heap.size, 0, none⟩) X1.out.sz X1.out.c0
  have k1 := fun (s : Wl (Below w1.heap.size w1)) => s.cell (p := ⟨w.heap.size, 1, none⟩) X1.out.sz X1.out.c1
  have k2 := fun (s : Wl (Below w1.heap.size w1)) => s.cell (p := ⟨w.heap.size, 2, none⟩) X1.out.sz X1.out.c2
  have e1 : (9223372036854775807 < a1.length + a2.length) = False := eq_false (by omega)
  have e2 : (9223372036854775807 < a1.length + a2.length + a3.length) = False := eq_false (by omega)
  refine wp_region_class (Below w1.heap.size w1) (by kernel_rfl) (by kernel_rfl) (Below.refl _ _).drew ?_
  repeat (go_big_quiet_step ((go_at_call 36; first | with_reducible exact Wl.below (Nat.le_refl _) (D1.out _) | with_reducible exact Wl.below (Nat.le_refl _) (D2.out _) | with_reducible exact Wl.below (Nat.le_refl _) (D3.out _))))
  refine wpQuiet_nil ?_
  intro w2 hw2
  clear k0 k1 k2 e1 e2 D1 D2 D3
  have hb3 := hid (hb2.out.trans (hw2.mono hb2.out.size))
  have X2 := hid (X1.out.below hw2)
  clear hw2 X1 hb2
  have k4 := X2.out.c6
  cases b with
  | true =>
    have hu : u = false := by have := HO.out; unfold oddB at this; cases u <;> simp at this ⊢
    subst hu
    have k5 := X2.out.c7
    go_wp2
    go_ret2
    exact ⟨by rw [E.out]; simp only [if_true, List.append_assoc]; rfl, hb3.out⟩
  | false =>
    go_upto_region 5 with fail
    have k0 := fun (s : Wl (Below w2.heap.size w2)) => s.cell (p := ⟨w.heap.size, 3, none⟩) X2.out.sz X2.out.c3
    have k1 := fun (s : Wl (Below w2.heap.size w2)) => s.cell (p := ⟨w.heap.size, 4, none⟩) X2.out.sz X2.out.c4
    have k2 := fun (s : Wl (Below w2.heap.size w2)) => s.cell (p := ⟨w.heap.size, 5, none⟩) X2.out.sz X2.out.c5
    refine wp_region_class (Below w2.heap.size w2) (by kernel_rfl) (by kernel_rfl) (Below.refl _ _).drew ?_
    repeat (go_big_quiet_step ((go_at_call 36; first | with_reducible exact Wl.below (Nat.le_refl _) (D4.out _) | with_reducible exact Wl.below (Nat.le_refl _) (D5.out _) | with_reducible exact Wl.below (Nat.le_refl _) (D6.out _))))
    refine wpQuiet_nil ?_
    intro w3 hw3
    clear k0 k1 k2 k4 D4 D5 D6
    have hb4 := hid (hb3.out.trans (hw3.mono hb3.out.size))
    have k5 := (X2.out.below hw3).c7
    clear hw3 X2 hb3
    have hs : bs (a1 ++ (a2 ++ a3)) ++ (⟨#[84]⟩ : ByteArray) ++ bs a4 ++ bs a5 ++ bs a6 = bs (a1 ++ a2 ++ a3 ++ ([84] ++ a4 ++ a5 ++ a6)) := by
      rw [bs_lit #[84]]; simp only [bs_append, List.append_assoc]
    rw [hs]
    clear hs
    have E2 := hid (E.out.trans (if_neg Bool.false_ne_true))
    have hz : (a1 ++ a2 ++ a3 ++ ([84] ++ a4 ++ a5 ++ a6)).length ≤ 100 := by simp; omega
    generalize a1 ++ a2 ++ a3 ++ ([84] ++ a4 ++ a5 ++ a6) = z at E2 hz ⊢
    cases u with
    | true =>
      have hs : bs z ++ (⟨#[90]⟩ : ByteArray) = bs (z ++ [90]) := by rw [bs_lit #[90]]; simp only [bs_append]
      go_wp2
      go_ret2
      exact ⟨by rw [E2.out]; simp only [if_true]; rw [← hs]; rfl, hb4.out⟩
    | false =>
      go_wp2
      go_ret2
      exact ⟨by rw [E2.out]; simp only [Bool.false_eq_true, if_false, List.append_nil]; rfl, hb4.out⟩
end Go.Proofs.YtefoajlmcdopiaaDoor
