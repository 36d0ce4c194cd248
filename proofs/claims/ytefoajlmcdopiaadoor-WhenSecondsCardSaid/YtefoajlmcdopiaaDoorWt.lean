/-
  The walk over Span.
-/
import Derived.Test.YtefoajlmcdopiaaDoorWr
import Derived.Test.YtefoajlmcdopiaaDoorEr
namespace Go.Proofs.YtefoajlmcdopiaaDoor
open Go.RowKit

namespace Tw
def sgn (l : List UInt8) : Int := if isB 45 l = true then -1 else 1
def rest1 (l : List UInt8) : List UInt8 := if isB 45 l = true then isR 45 l else isR 43 (isR 45 l)
def err11 : Value := .tuple #[.int .i64 0, errno 11]
def fin (l : List UInt8) (sum : Int) (ok : Bool) (r : List UInt8) : Value :=
  if ok = true ∧ r = [] then if 1000000000 < sum then .tuple #[.int .i64 0, errno 3] else .tuple #[.int .i64 (sgn l * sum), .nilIface] else err11
/-- What stands behind the P: the sum, whether it stands there, what is left. -/
def body (a : List UInt8) : Int × Bool × List UInt8 :=
  if partB 87 a = true then (partN 87 a * 604800, true, partR 87 a)
  else if isB 84 (partR 68 a) = true then
    (partN 68 a * 86400 + ((partN 72 (isR 84 (partR 68 a)) * 3600 + partN 77 (partR 72 (isR 84 (partR 68 a))) * 60) + partN 83 (partR 77 (partR 72 (isR 84 (partR 68 a)))) * 1),
     partB 72 (isR 84 (partR 68 a)) || partB 77 (partR 72 (isR 84 (partR 68 a))) || partB 83 (partR 77 (partR 72 (isR 84 (partR 68 a)))), partR 83 (partR 77 (partR 72 (isR 84 (partR 68 a)))))
  else (partN 68 a * 86400, partB 68 a, isR 84 (partR 68 a))
def span (l : List UInt8) : Value :=
  if isB 80 (rest1 l) = true then fin l (body (isR 80 (rest1 l))).1 (body (isR 80 (rest1 l))).2.1 (body (isR 80 (rest1 l))).2.2 else err11
end Tw
theorem body_bd (a : List UInt8) : 0 ≤ (Tw.body a).1 ∧ (Tw.body a).1 ≤ 10000000000000 := by
  have h1 := partN_lt 87 a
  have h2 := partN_lt 68 a
  have h3 := partN_lt 72 (Tw.isR 84 (Tw.partR 68 a))
  have h4 := partN_lt 77 (Tw.partR 72 (Tw.isR 84 (Tw.partR 68 a)))
  have h5 := partN_lt 83 (Tw.partR 77 (Tw.partR 72 (Tw.isR 84 (Tw.partR 68 a))))
  unfold Tw.body
  split
  · constructor <;> dsimp only <;> omega
  · split <;> constructor <;> dsimp only <;> omega
theorem sgn_pm (l : List UInt8) : Tw.sgn l = 1 ∨ Tw.sgn l = -1 := by unfold Tw.sgn; split <;> simp
theorem partR_no {c : UInt8} {a : List UInt8} (h : Tw.partB c a = false) : Tw.partR c a = a := by
  unfold Tw.partB at h
  unfold Tw.partR
  cases hp : Tw.part c a with
  | none => rfl
  | some x => rw [hp] at h; simp at h
theorem rd_new (w : World) (l : List UInt8) : Rd w w.heap.size l (w.alloc (.cells #[.string (bs l)] 55)) :=
  ⟨⟨World.cell?_alloc_at _ _ _ _ rfl, World.frozen?_alloc_new _ _ _ _, by simp⟩, alloc_below _ _, Nat.le_refl _⟩
theorem rest1_len (l : List UInt8) : (Tw.rest1 l).length ≤ l.length := by
  unfold Tw.rest1
  split
  · exact Tw.isR_len _ _
  · exact Nat.le_trans (Tw.isR_len _ _) (Tw.isR_len _ _)
set_option maxHeartbeats 4000000 in
set_option maxRecDepth 100000 in
theorem span_any (l : List UInt8) (w : World) (hl : l.length ≤ 1000) : Calls Tryd.prog 9 #[.string (bs l)] w fun e w' => e = .returned (Tw.span l) ∧ Below w.heap.size w w' := by
  have R0 := hid (rd_new w l)
  have H1 := Tw.isR_len 45 l
  have H2 := rest1_len l
  obtain ⟨b, hb⟩ : ∃ b, Tw.isB 45 l = b := ⟨_, rfl⟩
  have I1 : Calls Tryd.prog 29 #[.pointer (some ⟨w.heap.size, 0, none⟩), .int .u8 45] (w.alloc (.cells #[.string (bs l)] 55)) fun e w' => e = .returned (.bool b) ∧ Rd w w.heap.size (Tw.isR 45 l) w' := by rw [← hb]; exact is_rd w w.heap.size 45 l _ R0.out hl
  have I2 : ∀ w1, Rd w w.heap.size (Tw.isR 45 l) w1 → Calls Tryd.prog 29 #[.pointer (some ⟨w.heap.size, 0, none⟩), .int .u8 43] w1 fun e w' => e = .returned (.bool (Tw.isB 43 (Tw.isR 45 l))) ∧ Rd w w.heap.size (Tw.isR 43 (Tw.isR 45 l)) w' := fun w1 h => is_rd w w.heap.size 43 (Tw.isR 45 l) w1 h (by omega)
  have I1 := hid I1
  have I2 := hid I2
  have E1 := hid (show Tw.sgn l = if b = true then -1 else 1 by unfold Tw.sgn; rw [hb])
  have E2 := hid (show Tw.rest1 l = if b = true then Tw.isR 45 l else Tw.isR 43 (Tw.isR 45 l) by unfold Tw.rest1; rw [hb])
  clear hb
  go_enter Tryd.func9, Tryd.ntmps9
  go_wp2_with fail
  refine I1.out.mono ?_
  rintro e1 w1 ⟨rfl, hr1⟩
  have R1 := hid hr1
  clear hr1
  go_upto_if 20 with fail
  go_cut [5] from 21 to 22 (fun a wx => a = .int .i64 (Tw.sgn l) ∧ Rd w w.heap.size (Tw.rest1 l) wx)
  case first =>
    cases b
    · go_wp2_with fail
      refine (I2.out _ R1.out).mono ?_
      rintro e1 w2 ⟨rfl, hr2⟩
      have R2 := hid hr2
      clear hr2
      go_wp2
      go_meet
      exact ⟨by rw [E1.out]; rfl, by rw [E2.out]; exact R2.out⟩
    · go_wp2
      go_meet
      exact ⟨by rw [E1.out]; rfl, by rw [E2.out]; exact R1.out⟩
  case rest =>
    obtain ⟨rfl, hr2⟩ := hcut
    have R2 := hid hr2
    clear hr2 I1 I2 E1 E2 R1 R0
    obtain ⟨p, hp⟩ : ∃ p, Tw.isB 80 (Tw.rest1 l) = p := ⟨_, rfl⟩
    have I3 : Calls Tryd.prog 29 #[.pointer (some ⟨w.heap.size, 0, none⟩), .int .u8 80] wc fun e w' => e = .returned (.bool p) ∧ Rd w w.heap.size (Tw.isR 80 (Tw.rest1 l)) w' := by rw [← hp]; exact is_rd w w.heap.size 80 (Tw.rest1 l) _ R2.out (by omega)
    have I3 := hid I3
    have HP := hid hp
    clear hp
    go_wp2_with fail
    refine I3.out.mono ?_
    rintro e1 w3 ⟨rfl, hr3⟩
    have R3 := hid hr3
    clear hr3 I3 R2
    cases p with
    | false =>
      have E := hid (show Tw.span l = Tw.err11 by unfold Tw.span; rw [HP.out]; rfl)
      go_wp2
      go_ret2
      exact ⟨by rw [E.out]; rfl, R3.out.b⟩
    | true =>
      have E := hid (show Tw.span l = Tw.fin l (Tw.body (Tw.isR 80 (Tw.rest1 l))).1 (Tw.body (Tw.isR 80 (Tw.rest1 l))).2.1 (Tw.body (Tw.isR 80 (Tw.rest1 l))).2.2 by unfold Tw.span; rw [HP.out]; rfl)
      clear HP
      have H3 : (Tw.isR 80 (Tw.rest1 l)).length ≤ 1000 := Nat.le_trans (Tw.isR_len _ _) (by omega)
      generalize Tw.isR 80 (Tw.rest1 l) = a at E H3 R3
      have P1 : Calls Tryd.prog 30 #[.pointer (some ⟨w.heap.size, 0, none⟩), .int .u8 87, .int .i64 604800] w3 fun e w' => e = .returned (.tuple #[.int .i64 (Tw.partN 87 a * 604800), .bool (Tw.partB 87 a)]) ∧ Rd w w.heap.size (Tw.partR 87 a) w' := part_rd w w.heap.size 87 604800 a w3 R3.out H3 (by omega)
      have P1 := hid P1
      go_wp2_with fail
      refine P1.out.mono ?_
      rintro e1 w4 ⟨rfl, hr4⟩
      have R4 := hid hr4
      clear hr4 P1 R3
      go_upto_if 33 with fail
      go_cut [6, 7] from 8 to 71 (fun s v wx => s = .int .i64 (Tw.body a).1 ∧ v = .bool (Tw.body a).2.1 ∧ Rd w w.heap.size (Tw.body a).2.2 wx)
      case first =>
        cases hw : Tw.partB 87 a with
        | true =>
          have EB := hid (show Tw.body a = ((Tw.partN 87 a : Int) * 604800, true, Tw.partR 87 a) by unfold Tw.body; rw [hw]; rfl)
          clear hw
          go_wp2
          go_meet
          exact ⟨by rw [EB.out], by rw [EB.out], by rw [EB.out]; exact R4.out⟩
        | false =>
          have R5 := hid (show Rd w w.heap.size a w4 by have := R4.out; rwa [partR_no hw] at this)
          have HW := hid hw
          clear hw R4
          have P2 : Calls Tryd.prog 30 #[.pointer (some ⟨w.heap.size, 0, none⟩), .int .u8 68, .int .i64 86400] w4 fun e w' => e = .returned (.tuple #[.int .i64 (Tw.partN 68 a * 86400), .bool (Tw.partB 68 a)]) ∧ Rd w w.heap.size (Tw.partR 68 a) w' := part_rd w w.heap.size 68 86400 a w4 R5.out H3 (by omega)
          have P2 := hid P2
          go_wp2_with fail
          refine P2.out.mono ?_
          rintro e1 w5 ⟨rfl, hr5⟩
          have R6 := hid hr5
          clear hr5 P2 R5
          have L1 : (Tw.partR 68 a).length ≤ 1000 := Nat.le_trans (Tw.partR_len _ _) H3
          obtain ⟨r1, hr1⟩ : ∃ r1, Tw.partR 68 a = r1 := ⟨_, rfl⟩
          rw [hr1] at R6 L1
          have HR1 := hid hr1
          clear hr1
          obtain ⟨tb, htb⟩ : ∃ tb, Tw.isB 84 r1 = tb := ⟨_, rfl⟩
          have P3 : Calls Tryd.prog 29 #[.pointer (some ⟨w.heap.size, 0, none⟩), .int .u8 84] w5 fun e w' => e = .returned (.bool tb) ∧ Rd w w.heap.size (Tw.isR 84 r1) w' := by rw [← htb]; exact is_rd w w.heap.size 84 r1 w5 R6.out L1
          have P3 := hid P3
          have HT := hid htb
          clear htb
          go_wp2_with fail
          refine P3.out.mono ?_
          rintro e1 w6 ⟨rfl, hr6⟩
          have R7 := hid hr6
          clear hr6 P3 R6
          have L2 : (Tw.isR 84 r1).length ≤ 1000 := Nat.le_trans (Tw.isR_len _ _) L1
          cases tb with
          | false =>
            have EB := hid (show Tw.body a = ((Tw.partN 68 a : Int) * 86400, Tw.partB 68 a, Tw.isR 84 r1) by unfold Tw.body; rw [HW.out, HR1.out, HT.out]; rfl)
            go_wp2
            go_meet
            exact ⟨by rw [EB.out], by rw [EB.out], by rw [EB.out]; exact R7.out⟩
          | true =>
            obtain ⟨t0, ht0⟩ : ∃ t, Tw.isR 84 r1 = t := ⟨_, rfl⟩
            rw [ht0] at R7 L2
            have HT0 := hid ht0
            clear ht0
            have n0 := partN_lt 68 a
            have P4 : Calls Tryd.prog 30 #[.pointer (some ⟨w.heap.size, 0, none⟩), .int .u8 72, .int .i64 3600] w6 fun e w' => e = .returned (.tuple #[.int .i64 (Tw.partN 72 t0 * 3600), .bool (Tw.partB 72 t0)]) ∧ Rd w w.heap.size (Tw.partR 72 t0) w' := part_rd w w.heap.size 72 3600 t0 w6 R7.out L2 (by omega)
            have P4 := hid P4
            have n1 := partN_lt 72 t0
            go_wp2_with fail
            refine P4.out.mono ?_
            rintro e1 w7 ⟨rfl, hrr⟩
            have R8 := hid hrr
            clear hrr P4 R7
            have L3 : (Tw.partR 72 t0).length ≤ 1000 := Nat.le_trans (Tw.partR_len _ _) L2
            obtain ⟨t1, ht1⟩ : ∃ t, Tw.partR 72 t0 = t := ⟨_, rfl⟩
            rw [ht1] at R8 L3
            have HT1 := hid ht1
            clear ht1
            have P5 : Calls Tryd.prog 30 #[.pointer (some ⟨w.heap.size, 0, none⟩), .int .u8 77, .int .i64 60] w7 fun e w' => e = .returned (.tuple #[.int .i64 (Tw.partN 77 t1 * 60), .bool (Tw.partB 77 t1)]) ∧ Rd w w.heap.size (Tw.partR 77 t1) w' := part_rd w w.heap.size 77 60 t1 w7 R8.out L3 (by omega)
            have P5 := hid P5
            have n2 := partN_lt 77 t1
            go_wp2_with fail
            refine P5.out.mono ?_
            rintro e1 w8 ⟨rfl, hrr⟩
            have R9 := hid hrr
            clear hrr P5 R8
            have L4 : (Tw.partR 77 t1).length ≤ 1000 := Nat.le_trans (Tw.partR_len _ _) L3
            obtain ⟨t2, ht2⟩ : ∃ t, Tw.partR 77 t1 = t := ⟨_, rfl⟩
            rw [ht2] at R9 L4
            have HT2 := hid ht2
            clear ht2
            have P6 : Calls Tryd.prog 30 #[.pointer (some ⟨w.heap.size, 0, none⟩), .int .u8 83, .int .i64 1] w8 fun e w' => e = .returned (.tuple #[.int .i64 (Tw.partN 83 t2 * 1), .bool (Tw.partB 83 t2)]) ∧ Rd w w.heap.size (Tw.partR 83 t2) w' := part_rd w w.heap.size 83 1 t2 w8 R9.out L4 (by omega)
            have P6 := hid P6
            have n3 := partN_lt 83 t2
            go_wp2_with fail
            refine P6.out.mono ?_
            rintro e1 w9 ⟨rfl, hrr⟩
            have R10 := hid hrr
            clear hrr P6 R9
            have L5 : (Tw.partR 83 t2).length ≤ 1000 := Nat.le_trans (Tw.partR_len _ _) L4
            obtain ⟨t3, ht3⟩ : ∃ t, Tw.partR 83 t2 = t := ⟨_, rfl⟩
            rw [ht3] at R10 L5
            have HT3 := hid ht3
            clear ht3
            have EB := hid (show Tw.body a = ((Tw.partN 68 a : Int) * 86400 + ((Tw.partN 72 t0 : Int) * 3600 + (Tw.partN 77 t1 : Int) * 60 + (Tw.partN 83 t2 : Int) * 1), Tw.partB 72 t0 || Tw.partB 77 t1 || Tw.partB 83 t2, t3) by
              unfold Tw.body; rw [HW.out, HR1.out, HT.out, HT0.out, HT1.out, HT2.out, HT3.out]; rfl)
            obtain ⟨b1, hb1⟩ : ∃ b, Tw.partB 72 t0 = b := ⟨_, rfl⟩
            obtain ⟨b2, hb2⟩ : ∃ b, Tw.partB 77 t1 = b := ⟨_, rfl⟩
            obtain ⟨b3, hb3⟩ : ∃ b, Tw.partB 83 t2 = b := ⟨_, rfl⟩
            rw [hb1, hb2, hb3] at EB
            rw [hb1, hb2, hb3]
            clear hb1 hb2 hb3
            generalize Tw.partN 68 a = x0 at n0 EB ⊢
            generalize Tw.partN 72 t0 = x1 at n1 EB ⊢
            generalize Tw.partN 77 t1 = x2 at n2 EB ⊢
            generalize Tw.partN 83 t2 = x3 at n3 EB ⊢
            cases b1 <;> cases b2
            all_goals
              go_wp2
              go_meet
              exact ⟨by rw [EB.out]; simp, by rw [EB.out]; simp, by rw [EB.out]; exact R10.out⟩
      case rest =>
        obtain ⟨rfl, rfl, hr5⟩ := hcut
        have R5 := hid hr5
        have BD := body_bd a
        clear hr5 R4
        generalize (Tw.body a).1 = sum at E BD ⊢
        generalize (Tw.body a).2.1 = ok at E ⊢
        generalize (Tw.body a).2.2 = r at E R5
        have k0 := R5.out.i.c
        cases ok with
        | false =>
          have E2 := hid (show Tw.span l = Tw.err11 by rw [E.out]; unfold Tw.fin; simp)
          go_wp2
          go_ret2
          exact ⟨by rw [E2.out]; rfl, R5.out.b⟩
        | true =>
          cases r with
          | cons d y =>
            have E2 := hid (show Tw.span l = Tw.err11 by rw [E.out]; unfold Tw.fin; simp)
            go_wp2
            go_ret2
            exact ⟨by rw [E2.out]; rfl, R5.out.b⟩
          | nil =>
            by_cases hs : 1000000000 < sum
            · have E2 := hid (show Tw.span l = .tuple #[.int .i64 0, errno 3] by rw [E.out]; unfold Tw.fin; simp [hs])
              go_wp2
              go_ret2
              exact ⟨by rw [E2.out]; rfl, R5.out.b⟩
            · have E2 := hid (show Tw.span l = .tuple #[.int .i64 (Tw.sgn l * sum), .nilIface] by rw [E.out]; unfold Tw.fin; simp [hs])
              have SP := sgn_pm l
              generalize Tw.sgn l = sg at E2 SP ⊢
              have ew : IntKind.i64.wrap (sg * sum) = sg * sum := IntWalk.i64_in _ (by rcases SP with rfl | rfl <;> omega)
              clear SP
              go_wp2
              go_ret2
              exact ⟨by rw [E2.out]; rfl, R5.out.b⟩
end Go.Proofs.YtefoajlmcdopiaaDoor
