/-
  The walk over strings.Cut at a sign of one byte that stands there.
-/
import Derived.Test.YtefoajlmcdopiaaDoorWo
namespace Go.Proofs.YtefoajlmcdopiaaDoor
open Go.RowKit

set_option maxHeartbeats 2000000 in
set_option maxRecDepth 100000 in
theorem slcut_at (l : List UInt8) (k : Nat) (w : World) (h : Lib.indexByte l 47 = k) (hk : k < l.length) (hl : l.length ≤ 1000) :
    Calls Tryd.prog 59 #[.string (bs l), .string ⟨#[47]⟩] w fun e w' => e = .returned (.tuple #[.string (bs (l.take k)), .string (bs (l.drop (k + 1))), .bool true]) ∧ Below w.heap.size w w' := by
  have I := Tryd.stringslite_Index_one (bs l) 47
  rw [bs_data, h] at I
  have I := hid I
  clear h
  have q1 : decide ((0 : Int) ≤ (k : Int)) = true := by simp
  obtain ⟨x, hx⟩ : ∃ x, l.take k = x := ⟨_, rfl⟩
  obtain ⟨y, hy⟩ : ∃ y, l.drop (k + 1) = y := ⟨_, rfl⟩
  rw [hx, hy]
  have HX := hid hx
  have HY := hid hy
  clear hx hy
  go_enter Tryd.func59, Tryd.ntmps59
  go_wp2_with fail
  refine (I.out _).mono ?_
  rintro e1 w1 ⟨rfl, rfl⟩
  go_upto_region 3 with fail
  have e2 : IntKind.i64.wrap ((k : Int) + 1) = (k : Int) + 1 := IntWalk.i64_in _ (by omega)
  have e3 : ((k : Int) + 1).toNat = k + 1 := by omega
  have e4 : (0 : Int) ≤ (k : Int) + 1 := by omega
  have e5 : (k : Int) + 1 ≤ (l.length : Int) := by omega
  have e6 : (k : Int) ≤ (l.length : Int) := by omega
  refine wp_region_class (Below w1.heap.size w1) (by kernel_rfl) (by kernel_rfl) (Below.refl _ _).drew ?_
  repeat (go_big_quiet_step (fail))
  refine wpQuiet_nil ?_
  intro w2 hw2
  rw [List.take_of_length_le (show (l.drop (k + 1)).length ≤ l.length - (k + 1) by simp)]
  rw [HX.out, HY.out]
  clear e2 e3 e4 e5 e6 q1
  go_wp2
  refine bodyPost_ret (v := .tuple #[.string (bs x), .string (bs y), .bool true]) (by simp [results, Tryd.results59, go_sem]) rfl ⟨rfl, hw2⟩
set_option maxHeartbeats 2000000 in
theorem cut_at (l : List UInt8) (k : Nat) (w : World) (h : Lib.indexByte l 47 = k) (hk : k < l.length) (hl : l.length ≤ 1000) :
    Calls Tryd.prog 48 #[.string (bs l), .string ⟨#[47]⟩] w fun e w' => e = .returned (.tuple #[.string (bs (l.take k)), .string (bs (l.drop (k + 1))), .bool true]) ∧ Below w.heap.size w w' := by
  have C := hid (slcut_at l k w h hk hl)
  clear h
  generalize l.take k = x at C ⊢
  generalize l.drop (k + 1) = y at C ⊢
  go_enter Tryd.func48, Tryd.ntmps48
  go_wp2_with fail
  refine C.out.mono ?_
  rintro e1 w1 ⟨rfl, hb⟩
  have HB := hid hb
  clear hb
  go_wp2
  refine bodyPost_ret (v := .tuple #[.string (bs x), .string (bs y), .bool true]) (by simp [results, Tryd.results48, go_sem]) rfl ⟨rfl, HB.out⟩
end Go.Proofs.YtefoajlmcdopiaaDoor
