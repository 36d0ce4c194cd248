/-
  The walk over PrintSpan, the program's.
-/
import Derived.Test.YtefoajlmcdopiaaDoorWm
import Derived.Deep.CutBlock
namespace Go.Proofs.YtefoajlmcdopiaaDoor
open Go.RowKit

namespace Tw
def unit (q : Nat) (c : UInt8) : List UInt8 := if q = 0 then [] else Lib.decDigits q ++ [c]
/-- Less than a day's seconds, that are not none. -/
def clk (r : Nat) : List UInt8 := 84 :: (unit (r / 3600) 72 ++ unit (r % 3600 / 60) 77 ++ unit (r % 60) 83)
def spanT (k : Nat) : List UInt8 :=
  if k % 604800 = 0 then Lib.decDigits (k / 604800) ++ [87]
  else unit (k / 86400) 68 ++ (if k % 86400 = 0 then [] else clk (k % 86400))
/-- The text of a span; its sign. -/
def pre (n : Int) : List UInt8 := if n < 0 then [45, 80] else [80]
def spanP (n : Int) : List UInt8 := if n = 0 then [80, 84, 48, 83] else pre n ++ spanT n.natAbs
end Tw
/-- What Itoa answers, here and later. -/
def TabAt (w : World) : Prop := ∀ y w', y < 10000000000 → Below w.heap.size w w' → ItoaAt y w'
theorem TabAt.below {w w' : World} (h : TabAt w) (hb : Below w.heap.size w w') : TabAt w' := fun y w2 hy h2 => h y w2 hy (hb.trans (h2.mono hb.size))
set_option maxHeartbeats 4000000 in
theorem ps_no (n : Int) (w : World) (h : 1000000000 < n ∨ (n ≤ 1000000000 ∧ n < -1000000000)) : Calls Tryd.prog 13 #[.int .i64 n] w fun e w' => e = .returned (.tuple #[.string (bs []), errno 2]) ∧ w = w' := by
  rcases h with h | ⟨h0, h⟩
  · go_enter Tryd.func13, Tryd.ntmps13
    go_wp2
    go_ret2
    exact ⟨rfl, rfl⟩
  · have h1 : decide (1000000000 < n) = false := by simp; omega
    go_enter Tryd.func13, Tryd.ntmps13
    go_wp2
    go_ret2
    exact ⟨rfl, rfl⟩
set_option maxHeartbeats 4000000 in
theorem ps_zero (w : World) : Calls Tryd.prog 13 #[.int .i64 0] w fun e w' => e = .returned (.tuple #[.string (bs (Tw.spanP 0)), .nilIface]) ∧ w = w' := by
  go_enter Tryd.func13, Tryd.ntmps13
  go_wp2
  go_ret2
  exact ⟨rfl, rfl⟩
theorem units_0 (w : World) : (Instr.index 66 (.agg #[.int .i64 3600, .string ⟨#[72]⟩, .int .i64 60, .string ⟨#[77]⟩, .int .i64 1, .string ⟨#[83]⟩]) (.int .i64 0)).run Tryd.prog w = .ok (.agg #[.int .i64 3600, .string ⟨#[72]⟩]) w := by kernel_rfl
theorem units_1 (w : World) : (Instr.index 66 (.agg #[.int .i64 3600, .string ⟨#[72]⟩, .int .i64 60, .string ⟨#[77]⟩, .int .i64 1, .string ⟨#[83]⟩]) (.int .i64 1)).run Tryd.prog w = .ok (.agg #[.int .i64 60, .string ⟨#[77]⟩]) w := by kernel_rfl
theorem units_2 (w : World) : (Instr.index 66 (.agg #[.int .i64 3600, .string ⟨#[72]⟩, .int .i64 60, .string ⟨#[77]⟩, .int .i64 1, .string ⟨#[83]⟩]) (.int .i64 2)).run Tryd.prog w = .ok (.agg #[.int .i64 1, .string ⟨#[83]⟩]) w := by kernel_rfl
/-- Behind j rounds. -/
def ClkR (r : Nat) (x0 : List UInt8) (j n : Nat) (x : List UInt8) : Prop :=
  (j = 0 ∧ n = r ∧ x = x0) ∨ (j = 1 ∧ n = r % 3600 ∧ x = x0 ++ Tw.unit (r / 3600) 72) ∨
  (j = 2 ∧ n = r % 60 ∧ x = x0 ++ Tw.unit (r / 3600) 72 ++ Tw.unit (r % 3600 / 60) 77) ∨
  (j = 3 ∧ x = x0 ++ Tw.unit (r / 3600) 72 ++ Tw.unit (r % 3600 / 60) 77 ++ Tw.unit (r % 60) 83)
theorem ClkR.yes {r : Nat} {y : List UInt8} {j k : Nat} {x : List UInt8} {e : Nat} {c : UInt8} (h : ClkR r y j k x) (hr : r < 86400) (ht : (j = 0 ∧ e = 3600 ∧ c = 72) ∨ (j = 1 ∧ e = 60 ∧ c = 77) ∨ (j = 2 ∧ e = 1 ∧ c = 83)) (hg : e ≤ k) :
    ClkR r y (j + 1) (k % e) (x ++ (Lib.decDigits (k / e) ++ [c])) := by
  have hu : ∀ q, 0 < q → Lib.decDigits q ++ [c] = Tw.unit q c := by intro q hq; unfold Tw.unit; rw [if_neg (by omega)]
  unfold ClkR at h
  rcases ht with ⟨rfl, rfl, rfl⟩ | ⟨rfl, rfl, rfl⟩ | ⟨rfl, rfl, rfl⟩
  · obtain ⟨rfl, rfl⟩ : k = r ∧ x = y := by simpa using h
    rw [hu _ (by omega)]
    exact Or.inr (Or.inl ⟨rfl, rfl, rfl⟩)
  · obtain ⟨rfl, rfl⟩ : k = r % 3600 ∧ x = y ++ Tw.unit (r / 3600) 72 := by simpa using h
    rw [hu _ (by omega)]
    exact Or.inr (Or.inr (Or.inl ⟨rfl, by omega, rfl⟩))
  · obtain ⟨rfl, rfl⟩ : k = r % 60 ∧ x = y ++ Tw.unit (r / 3600) 72 ++ Tw.unit (r % 3600 / 60) 77 := by simpa using h
    rw [hu _ (by omega), Nat.div_one]
    exact Or.inr (Or.inr (Or.inr ⟨rfl, rfl⟩))
theorem ClkR.no {r : Nat} {y : List UInt8} {j k : Nat} {x : List UInt8} {e : Nat} {c : UInt8} (h : ClkR r y j k x) (hr : r < 86400) (ht : (j = 0 ∧ e = 3600 ∧ c = 72) ∨ (j = 1 ∧ e = 60 ∧ c = 77) ∨ (j = 2 ∧ e = 1 ∧ c = 83)) (hg : ¬ e ≤ k) :
    ClkR r y (j + 1) k x := by
  have hu : Tw.unit 0 c = [] := rfl
  unfold ClkR at h
  rcases ht with ⟨rfl, rfl, rfl⟩ | ⟨rfl, rfl, rfl⟩ | ⟨rfl, rfl, rfl⟩
  · obtain ⟨rfl, rfl⟩ : k = r ∧ x = y := by simpa using h
    exact Or.inr (Or.inl ⟨rfl, by omega, by rw [show k / 3600 = 0 by omega, hu, List.append_nil]⟩)
  · obtain ⟨rfl, rfl⟩ : k = r % 3600 ∧ x = y ++ Tw.unit (r / 3600) 72 := by simpa using h
    exact Or.inr (Or.inr (Or.inl ⟨rfl, by omega, by rw [show r % 3600 / 60 = 0 by omega, hu, List.append_nil]⟩))
  · obtain ⟨rfl, rfl⟩ : k = r % 60 ∧ x = y ++ Tw.unit (r / 3600) 72 ++ Tw.unit (r % 3600 / 60) 77 := by simpa using h
    exact Or.inr (Or.inr (Or.inr ⟨rfl, by rw [show r % 60 = 0 by omega, hu, List.append_nil]⟩))
theorem ClkR.end {r : Nat} {y : List UInt8} {k : Nat} {x : List UInt8} (h : ClkR r y 3 k x) : x = y ++ Tw.unit (r / 3600) 72 ++ Tw.unit (r % 3600 / 60) 77 ++ Tw.unit (r % 60) 83 := by
  unfold ClkR at h; simpa using h
theorem unit_len (q : Nat) (c : UInt8) (h : q < 10000000000) : (Tw.unit q c).length ≤ 11 := by
  have := dec_len q h
  unfold Tw.unit; split <;> simp; omega
/-- The part of the walk up to the loop: what n and s hold there. -/
def AtLoop (k : Nat) (x0 : List UInt8) (n s : Value) : Prop := n = .int .i64 (k % 86400 : Nat) ∧ k % 604800 ≠ 0 ∧ k % 86400 ≠ 0 ∧ s = .string (bs (x0 ++ Tw.unit (k / 86400) 68 ++ [84]))
set_option maxHeartbeats 4000000 in
set_option maxRecDepth 100000 in
theorem ps_yes (n : Int) (k : Nat) (x0 : List UInt8) (w : World) (hn : (n = k ∧ x0 = [80]) ∨ (n = -(k : Int) ∧ x0 = [45, 80])) (hk0 : 0 < k) (hk : k ≤ 1000000000) (hT : TabAt w) :
    Calls Tryd.prog 13 #[.int .i64 n] w fun e w' => e = .returned (.tuple #[.string (bs (x0 ++ Tw.spanT k)), .nilIface]) ∧ Below w.heap.size w w' := by
  have T := hid hT
  clear hT
  have hx0 : x0.length ≤ 2 := by rcases hn with ⟨-, rfl⟩ | ⟨-, rfl⟩ <;> simp
  have q1 : decide (1000000000 < n) = false := by rw [decide_eq_false_iff_not]; omega
  have q2 : decide (n < -1000000000) = false := by rw [decide_eq_false_iff_not]; omega
  obtain ⟨sg, hsg⟩ : ∃ b, decide (n < 0) = b := ⟨_, rfl⟩
  have HN := hid (show (sg = false ∧ n = k ∧ x0 = [80]) ∨ (sg = true ∧ n = -(k : Int) ∧ x0 = [45, 80]) by
    rcases hn with ⟨rfl, rfl⟩ | ⟨rfl, rfl⟩
    · left; refine ⟨?_, rfl, rfl⟩; rw [← hsg, decide_eq_false_iff_not]; omega
    · right; refine ⟨?_, rfl, rfl⟩; rw [← hsg, decide_eq_true_eq]; omega)
  clear hn
  go_enter Tryd.func13, Tryd.ntmps13
  go_upto_if 15 with fail
  go_cut [0, 4] from 16 to 17 (fun n s wx => n = .int .i64 k ∧ s = .string (bs x0) ∧ w = wx)
  case first =>
    clear hsg
    rcases HN.out with ⟨rfl, rfl, rfl⟩ | ⟨rfl, rfl, rfl⟩
    · go_wp2
      go_meet
      exact ⟨rfl, rfl, rfl⟩
    · go_wp2
      go_meet
      exact ⟨by go_num, rfl, rfl⟩
  case rest =>
    obtain ⟨rfl, rfl, rfl⟩ := hcut
    clear HN q1 q2 hsg
    go_upto_block 0 with fail
    have z0 : ((k : Int) == 0) = false := by simp; omega
    go_cut [0, 4] from 18 to 46 (fun n s wx => AtLoop k x0 n s ∧ Below w.heap.size w wx)
    case first =>
      by_cases h7 : k % 604800 = 0
      · have E := hid (show Tw.spanT k = Lib.decDigits (k / 604800) ++ [87] by unfold Tw.spanT; rw [if_pos h7])
        obtain ⟨q, hq⟩ : ∃ q, k / 604800 = q := ⟨_, rfl⟩
        have hqI : (k : Int) / 604800 = (q : Int) := by omega
        rw [hq] at E
        have z1 : ((k : Int) % 604800 == 0) = true := by simp; omega
        have I := T.out q w (by omega) (Below.refl _ _)
        have hl := dec_len q (by omega)
        unfold ItoaAt at I
        generalize Lib.decDigits q = l at E I hl
        have I := hid I
        clear h7 hq
        go_wp2_with fail
        refine I.out.mono ?_
        rintro e1 w1 ⟨rfl, hb1⟩
        have HB1 := hid hb1
        clear hb1
        have hs : bs (x0 ++ l) ++ (⟨#[87]⟩ : ByteArray) = bs (x0 ++ (l ++ [87])) := by rw [bs_lit #[87]]; simp only [bs_append, List.append_assoc]
        go_wp2
        go_ret2
        exact ⟨by rw [E.out, ← hs]; rfl, HB1.out⟩
      · have z1 : ((k : Int) % 604800 == 0) = false := by simp; omega
        by_cases hd : 86400 ≤ k
        · obtain ⟨q, hq⟩ : ∃ q, k / 86400 = q := ⟨_, rfl⟩
          obtain ⟨r, hr⟩ : ∃ r, k % 86400 = r := ⟨_, rfl⟩
          have hqI : (k : Int) / 86400 = (q : Int) := by omega
          have hrI : (k : Int) % 86400 = (r : Int) := by omega
          have E := hid (show Tw.unit (k / 86400) 68 = Lib.decDigits q ++ [68] by rw [hq]; unfold Tw.unit; rw [if_neg (by omega)])
          have ET := hid (show r = 0 → Tw.spanT k = Lib.decDigits q ++ [68] by intro h0; unfold Tw.spanT; rw [if_neg h7, hq, hr, if_pos h0, List.append_nil]; unfold Tw.unit; rw [if_neg (by omega)])
          have I := T.out q w (by omega) (Below.refl _ _)
          have hl := dec_len q (by omega)
          unfold ItoaAt at I
          have hr8 : r < 86400 := by omega
          have H7 := hid h7
          have HQ := hid hq
          have HR := hid hr
          generalize Lib.decDigits q = l at E ET I hl
          have I := hid I
          have hde : decide (86400 ≤ (k : Int)) = true := by rw [decide_eq_true_eq]; omega
          clear h7 hq hr
          go_wp2_with fail
          refine I.out.mono ?_
          rintro e1 w1 ⟨rfl, hb1⟩
          have HB1 := hid hb1
          clear hb1
          by_cases hr0 : r = 0
          · have hs : bs (x0 ++ (l ++ [68])) = bs x0 ++ (bs l ++ (⟨#[68]⟩ : ByteArray)) := by rw [bs_lit #[68]]; simp only [bs_append]
            have E2 := hid (ET.out hr0)
            subst hr0
            go_wp2
            go_ret2
            exact ⟨by rw [E2.out, hs]; rfl, HB1.out⟩
          · have z2 : ((r : Int) == 0) = false := by simp; omega
            have hs : bs (x0 ++ (l ++ [68]) ++ [84]) = bs x0 ++ (bs l ++ (⟨#[68]⟩ : ByteArray)) ++ (⟨#[84]⟩ : ByteArray) := by rw [bs_lit #[68], bs_lit #[84]]; simp only [bs_append]
            go_wp2
            go_meet
            exact ⟨⟨by rw [HR.out, ← hrI], H7.out, by have h := HR.out; omega, by rw [E.out, hs]⟩, HB1.out⟩
        · have hde : decide (86400 ≤ (k : Int)) = false := by rw [decide_eq_false_iff_not]; omega
          have hk8 : k % 86400 = k := Nat.mod_eq_of_lt (by omega)
          have hs : bs (x0 ++ Tw.unit (k / 86400) 68 ++ [84]) = bs x0 ++ (⟨#[84]⟩ : ByteArray) := by
            rw [Nat.div_eq_of_lt (by omega), bs_lit #[84]]; unfold Tw.unit; simp [bs_append]
          have HS := hid hs
          have H7 := hid h7
          have H8 := hid hk8
          clear hs h7 hk8
          go_wp2
          go_meet
          exact ⟨⟨by rw [H8.out], H7.out, by have h := H8.out; omega, by rw [HS.out]⟩, Below.refl _ _⟩
    case rest =>
      obtain ⟨⟨rfl, h7, hr0, rfl⟩, hb⟩ := hcut
      have HB := hid hb
      have E := hid (show Tw.spanT k = Tw.unit (k / 86400) 68 ++ Tw.clk (k % 86400) by unfold Tw.spanT; rw [if_neg h7, if_neg hr0])
      have lu := unit_len (k / 86400) 68 (by omega)
      have hr8 : k % 86400 < 86400 := Nat.mod_lt _ (by omega)
      have EY : Hid (x0 ++ Tw.spanT k = x0 ++ Tw.unit (k / 86400) 68 ++ [84] ++ Tw.unit (k % 86400 / 3600) 72 ++ Tw.unit (k % 86400 % 3600 / 60) 77 ++ Tw.unit (k % 86400 % 60) 83) := by
        rw [E.out]; unfold Tw.clk; exact hid (by simp)
      have ly : (x0 ++ Tw.unit (k / 86400) 68 ++ [84]).length ≤ 14 := by simp; omega
      generalize x0 ++ Tw.unit (k / 86400) 68 ++ [84] = y at EY ly ⊢
      generalize k % 86400 = r at hr0 hr8 EY ⊢
      clear E h7 lu hb z0 hx0 hk hk0
      go_wp2
      go_loopw [0, 4, 51] (fun n s i wr => ∃ (j k : Nat) (x : List UInt8), j ≤ 3 ∧ i = .int .i64 j ∧ n = .int .i64 k ∧ k < 86400 ∧ s = .string (bs x) ∧ x.length ≤ 14 + 11 * j ∧ ClkR r y j k x ∧ Below w.heap.size w wr) (fun _ _ i _ => 3 - (intOf i).toNat)
      case atStart => exact ⟨0, r, y, by omega, rfl, rfl, hr8, rfl, by omega, Or.inl ⟨rfl, rfl, rfl⟩, HB.out⟩
      case round =>
        obtain ⟨j, k, x, hj, rfl, rfl, hk, rfl, hxl, hc, hb⟩ := hrel
        have HC := hid hc
        have HB2 := hid hb
        clear hc hb
        have TR := hid (T.out.below HB2.out)
        rcases (show j = 0 ∨ j = 1 ∨ j = 2 ∨ j = 3 by omega) with rfl | rfl | rfl | rfl
        · have U := units_0 wr
          have AB := hid (alloc_below wr (.cells #[.int .i64 3600, .string ⟨#[72]⟩] 65))
          have C0 : (wr.alloc (.cells #[.int .i64 3600, .string ⟨#[72]⟩] 65)).cell? ⟨wr.heap.size, 0, none⟩ = some (.int .i64 3600) := World.cell?_alloc_at _ _ _ _ rfl
          have C1 : (wr.alloc (.cells #[.int .i64 3600, .string ⟨#[72]⟩] 65)).cell? ⟨wr.heap.size, 1, none⟩ = some (.string ⟨#[72]⟩) := World.cell?_alloc_at _ _ _ _ rfl
          have hsz : wr.heap.size < (wr.alloc (.cells #[.int .i64 3600, .string ⟨#[72]⟩] 65)).heap.size := by simp
          by_cases hg : 3600 ≤ k
          · have A := hid (HC.out.yes (c := 72) hr8 (by simp) hg)
            obtain ⟨q, hq⟩ : ∃ q, k / 3600 = q := ⟨_, rfl⟩
            obtain ⟨m, hm⟩ : ∃ m, k % 3600 = m := ⟨_, rfl⟩
            have hqI : (k : Int) / 3600 = (q : Int) := by omega
            have hmI : (k : Int) % 3600 = (m : Int) := by omega
            have hde : decide (3600 ≤ (k : Int)) = true := by rw [decide_eq_true_eq]; omega
            rw [hq, hm] at A
            have hq8 : q < 10000000000 := by omega
            have hm8 : m < 86400 := by omega
            have hl := dec_len q hq8
            have I := hid (fun w' hb => TR.out q w' hq8 hb)
            unfold ItoaAt at I
            generalize Lib.decDigits q = l at A I hl
            clear hq hm HC
            go_upto_region 20 with fail
            generalize wr.alloc (.cells #[.int .i64 3600, .string ⟨#[72]⟩] 65) = w1 at AB C0 C1 hsz ⊢
            have k0 := fun (s : Wl (Below w1.heap.size w1)) => s.cell (p := ⟨wr.heap.size, 0, none⟩) hsz C0
            have k1 := fun (s : Wl (Below w1.heap.size w1)) => s.cell (p := ⟨wr.heap.size, 1, none⟩) hsz C1
            have I' := hid (fun (s : Wl (Below w1.heap.size w1)) => I.out s.w (AB.out.trans (s.h.mono AB.out.size)))
            have g1 : (9223372036854775807 < l.length + 1) = False := eq_false (by omega)
            have g2 : (9223372036854775807 < x.length + (l.length + 1)) = False := eq_false (by omega)
            refine wp_region_class (Below w1.heap.size w1) (by kernel_rfl) (by kernel_rfl) (Below.refl _ _).drew ?_
            repeat (go_big_quiet_step ((go_at_call 35; with_reducible exact Wl.below (Nat.le_refl _) (I'.out _))))
            refine wpQuiet_nil ?_
            intro w2 hw2
            clear k0 k1 I' I
            have D0 : w2.cell? ⟨wr.heap.size, 0, none⟩ = some (.int .i64 3600) := by rw [hw2.cell hsz]; exact C0
            have HB3 := hid (HB2.out.trans ((AB.out.trans (hw2.mono AB.out.size)).mono HB2.out.size))
            clear hw2 AB C0 C1
            go_wp2
            go_roundw
            case rel => exact ⟨1, m, x ++ (l ++ [72]), by omega, by go_num, by go_num, hm8, (congrArg Value.string (by rw [bs_lit #[72]]; simp only [bs_append])), by simp; omega, A.out, HB3.out⟩
            case measure => simp [intOf]
          · have A := hid (HC.out.no (c := 72) hr8 (by simp) hg)
            have hde : decide (3600 ≤ (k : Int)) = false := by rw [decide_eq_false_iff_not]; omega
            go_wp2
            go_roundw
            case rel => exact ⟨1, k, x, by omega, by go_num, rfl, hk, rfl, by omega, A.out, HB2.out.trans (AB.out.mono HB2.out.size)⟩
            case measure => simp [intOf]
        · have U := units_1 wr
          have AB := hid (alloc_below wr (.cells #[.int .i64 60, .string ⟨#[77]⟩] 65))
          have C0 : (wr.alloc (.cells #[.int .i64 60, .string ⟨#[77]⟩] 65)).cell? ⟨wr.heap.size, 0, none⟩ = some (.int .i64 60) := World.cell?_alloc_at _ _ _ _ rfl
          have C1 : (wr.alloc (.cells #[.int .i64 60, .string ⟨#[77]⟩] 65)).cell? ⟨wr.heap.size, 1, none⟩ = some (.string ⟨#[77]⟩) := World.cell?_alloc_at _ _ _ _ rfl
          have hsz : wr.heap.size < (wr.alloc (.cells #[.int .i64 60, .string ⟨#[77]⟩] 65)).heap.size := by simp
          by_cases hg : 60 ≤ k
          · have A := hid (HC.out.yes (c := 77) hr8 (by simp) hg)
            obtain ⟨q, hq⟩ : ∃ q, k / 60 = q := ⟨_, rfl⟩
            obtain ⟨m, hm⟩ : ∃ m, k % 60 = m := ⟨_, rfl⟩
            have hqI : (k : Int) / 60 = (q : Int) := by omega
            have hmI : (k : Int) % 60 = (m : Int) := by omega
            have hde : decide (60 ≤ (k : Int)) = true := by rw [decide_eq_true_eq]; omega
            rw [hq, hm] at A
            have hq8 : q < 10000000000 := by omega
            have hm8 : m < 86400 := by omega
            have hl := dec_len q hq8
            have I := hid (fun w' hb => TR.out q w' hq8 hb)
            unfold ItoaAt at I
            generalize Lib.decDigits q = l at A I hl
            clear hq hm HC
            go_upto_region 20 with fail
            generalize wr.alloc (.cells #[.int .i64 60, .string ⟨#[77]⟩] 65) = w1 at AB C0 C1 hsz ⊢
            have k0 := fun (s : Wl (Below w1.heap.size w1)) => s.cell (p := ⟨wr.heap.size, 0, none⟩) hsz C0
            have k1 := fun (s : Wl (Below w1.heap.size w1)) => s.cell (p := ⟨wr.heap.size, 1, none⟩) hsz C1
            have I' := hid (fun (s : Wl (Below w1.heap.size w1)) => I.out s.w (AB.out.trans (s.h.mono AB.out.size)))
            have g1 : (9223372036854775807 < l.length + 1) = False := eq_false (by omega)
            have g2 : (9223372036854775807 < x.length + (l.length + 1)) = False := eq_false (by omega)
            refine wp_region_class (Below w1.heap.size w1) (by kernel_rfl) (by kernel_rfl) (Below.refl _ _).drew ?_
            repeat (go_big_quiet_step ((go_at_call 35; with_reducible exact Wl.below (Nat.le_refl _) (I'.out _))))
            refine wpQuiet_nil ?_
            intro w2 hw2
            clear k0 k1 I' I
            have D0 : w2.cell? ⟨wr.heap.size, 0, none⟩ = some (.int .i64 60) := by rw [hw2.cell hsz]; exact C0
            have HB3 := hid (HB2.out.trans ((AB.out.trans (hw2.mono AB.out.size)).mono HB2.out.size))
            clear hw2 AB C0 C1
            go_wp2
            go_roundw
            case rel => exact ⟨2, m, x ++ (l ++ [77]), by omega, by go_num, by go_num, hm8, (congrArg Value.string (by rw [bs_lit #[77]]; simp only [bs_append])), by simp; omega, A.out, HB3.out⟩
            case measure => simp [intOf]
          · have A := hid (HC.out.no (c := 77) hr8 (by simp) hg)
            have hde : decide (60 ≤ (k : Int)) = false := by rw [decide_eq_false_iff_not]; omega
            go_wp2
            go_roundw
            case rel => exact ⟨2, k, x, by omega, by go_num, rfl, hk, rfl, by omega, A.out, HB2.out.trans (AB.out.mono HB2.out.size)⟩
            case measure => simp [intOf]
        · have U := units_2 wr
          have AB := hid (alloc_below wr (.cells #[.int .i64 1, .string ⟨#[83]⟩] 65))
          have C0 : (wr.alloc (.cells #[.int .i64 1, .string ⟨#[83]⟩] 65)).cell? ⟨wr.heap.size, 0, none⟩ = some (.int .i64 1) := World.cell?_alloc_at _ _ _ _ rfl
          have C1 : (wr.alloc (.cells #[.int .i64 1, .string ⟨#[83]⟩] 65)).cell? ⟨wr.heap.size, 1, none⟩ = some (.string ⟨#[83]⟩) := World.cell?_alloc_at _ _ _ _ rfl
          have hsz : wr.heap.size < (wr.alloc (.cells #[.int .i64 1, .string ⟨#[83]⟩] 65)).heap.size := by simp
          by_cases hg : 1 ≤ k
          · have A := hid (HC.out.yes (c := 83) hr8 (by simp) hg)
            rw [Nat.div_one, Nat.mod_one] at A
            have hde : decide (1 ≤ (k : Int)) = true := by rw [decide_eq_true_eq]; omega
            skip
            have hq8 : k < 10000000000 := by omega
            have hm8 : 0 < 86400 := by omega
            have hl := dec_len k hq8
            have I := hid (fun w' hb => TR.out k w' hq8 hb)
            unfold ItoaAt at I
            generalize Lib.decDigits k = l at A I hl
            clear  HC
            go_upto_region 20 with fail
            generalize wr.alloc (.cells #[.int .i64 1, .string ⟨#[83]⟩] 65) = w1 at AB C0 C1 hsz ⊢
            have k0 := fun (s : Wl (Below w1.heap.size w1)) => s.cell (p := ⟨wr.heap.size, 0, none⟩) hsz C0
            have k1 := fun (s : Wl (Below w1.heap.size w1)) => s.cell (p := ⟨wr.heap.size, 1, none⟩) hsz C1
            have I' := hid (fun (s : Wl (Below w1.heap.size w1)) => I.out s.w (AB.out.trans (s.h.mono AB.out.size)))
            have g1 : (9223372036854775807 < l.length + 1) = False := eq_false (by omega)
            have g2 : (9223372036854775807 < x.length + (l.length + 1)) = False := eq_false (by omega)
            refine wp_region_class (Below w1.heap.size w1) (by kernel_rfl) (by kernel_rfl) (Below.refl _ _).drew ?_
            repeat (go_big_quiet_step ((go_at_call 35; with_reducible exact Wl.below (Nat.le_refl _) (I'.out _))))
            refine wpQuiet_nil ?_
            intro w2 hw2
            clear k0 k1 I' I
            have D0 : w2.cell? ⟨wr.heap.size, 0, none⟩ = some (.int .i64 1) := by rw [hw2.cell hsz]; exact C0
            have HB3 := hid (HB2.out.trans ((AB.out.trans (hw2.mono AB.out.size)).mono HB2.out.size))
            clear hw2 AB C0 C1
            go_wp2
            go_roundw
            case rel => exact ⟨3, 0, x ++ (l ++ [83]), by omega, by go_num, by go_num, hm8, (congrArg Value.string (by rw [bs_lit #[83]]; simp only [bs_append])), by simp; omega, A.out, HB3.out⟩
            case measure => simp [intOf]
          · have A := hid (HC.out.no (c := 83) hr8 (by simp) hg)
            have hde : decide (1 ≤ (k : Int)) = false := by rw [decide_eq_false_iff_not]; omega
            go_wp2
            go_roundw
            case rel => exact ⟨3, k, x, by omega, by go_num, rfl, hk, rfl, by omega, A.out, HB2.out.trans (AB.out.mono HB2.out.size)⟩
            case measure => simp [intOf]
        · have A := hid (HC.out.end)
          go_wp2
          go_ret2
          exact ⟨by rw [EY.out, A.out]; rfl, HB2.out⟩
end Go.Proofs.YtefoajlmcdopiaaDoor
