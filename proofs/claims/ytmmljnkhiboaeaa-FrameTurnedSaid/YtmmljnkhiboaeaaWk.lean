/-
  The walk over alive: the chapter's examples hold.
-/
import Derived.Test.YtmmljnkhiboaeaaWj
namespace Go.Proofs.Ytmmljnkhiboaeaa
open Go.RowKit

theorem scan_packed {l : List (List UInt8)} (hl : Fp.Fit l) : Fp.scan (Fp.pack l) = l := by
  have := Fp.scan_pack l hl []
  rw [List.append_nil, Fp.scan_none (s := []) (Fp.one_short (by decide)), List.append_nil] at this
  exact this
def pa : List UInt8 := [2, 0, 0, 89, 70, 248, 177, 97]
theorem pack_a : packT [[97]] = pa := by decide +kernel
theorem packV_a : packV [[97]] = .nilIface := by rw [packV]; rfl
theorem scan_a : Fp.scan pa = [[97]] := by
  have h : Fp.Fit [[97]] := fitB_yes (by decide +kernel)
  have e : pa = Fp.pack [[97]] := by decide +kernel
  rw [e, scan_packed h]
theorem sum_a : Fp.sum (allOf [[49, 50, 51, 52], [53, 54, 55, 56, 57]]) = 3421780262 := by decide +kernel
theorem same_a : sameB [[97]] [[97]] = true := by decide
theorem strs1 (w : World) (a : List UInt8) (t : TypeId) : Strs (w.alloc (.cells #[.string (bs a)] t)) (some ⟨w.heap.size, 0, none⟩) [a] := by
  intro j hj
  refine ⟨_, _, rfl, ?_⟩
  rw [World.cell?_alloc_at _ _ _ _ rfl]
  match j, hj with
  | 0, _ => rfl
theorem strs1' (w : World) (n : Nat) (s : ByteArray) (a : List UInt8) (t : TypeId) (hn : n = w.heap.size) (hs : s = bs a) : Strs (w.alloc (.cells #[.string s] t)) (some ⟨n, 0, none⟩) [a] := by
  subst hn; subst hs; exact strs1 w a t
theorem Strs.below {w w' : World} {a : Option Addr} {ss : List (List UInt8)} (h : Strs w a ss) (hb : Below w.heap.size w w') : Strs w' a ss := by
  intro j hj
  obtain ⟨b, off, rfl, hx⟩ := h j hj
  exact ⟨b, off, rfl, (hb.cell (cell_lt hx)).trans hx⟩
theorem alloc_below (w : World) (o : Obj) : Below w.heap.size w (w.alloc o) := (Below.refl _ _).alloc (Nat.le_refl _) _

set_option maxHeartbeats 2000000 in
theorem alive_any (w : World) : Calls Try.prog 10 #[] w fun e w' => e = .returned (.bool true) ∧ Below w.heap.size w w' := by
  go_enter Try.func10, Try.ntmps10
  go_wp2_with fail
  refine (pack_any _ 1 1 [[97]] _ rfl (by simp) (strs1 _ _ _) (by decide)).mono ?_
  rintro e w1 ⟨rfl, hb1⟩
  rw [pack_a, packV_a]
  have hb1' : Below w.heap.size w w1 := (alloc_below _ _).trans (hb1.mono (by simp))
  go_wp2_with fail
  refine (scan_any pa _ (by decide)).mono ?_
  rintro e w2 ⟨a, cap, rfl, hstr, hb2⟩
  rw [scan_a] at hstr ⊢
  have hb2' := hb1'.trans (hb2.mono hb1'.size)
  have HB2 := hb2'.size
  have HS := hid hstr; clear hstr
  go_wp2_with fail
  refine (sum_any _ 2 2 [[49, 50, 51, 52], [53, 54, 55, 56, 57]] _ rfl (by simp) (strs2 _ _ _ _) (by intro x hx; simp at hx; rcases hx with rfl | rfl <;> simp)).mono ?_
  rintro e w3 ⟨rfl, rfl⟩
  rw [sum_a]
  unfold pa
  have hb3 := hb2'.alloc HB2 (.cells #[.string (bs [49, 50, 51, 52]), .string (bs [53, 54, 55, 56, 57])] 9)
  have HS3 := hid (HS.out.below (alloc_below _ (.cells #[.string (bs [49, 50, 51, 52]), .string (bs [53, 54, 55, 56, 57])] 9)))
  go_wp2_with fail
  refine (no_nil _).mono ?_
  rintro e w4 ⟨rfl, rfl⟩
  go_wp2_with fail
  have e9 : Fp.size [[97]] = 8 := rfl
  rw [e9]
  clear e9
  refine (same_any _ _ 1 _ 1 1 [[97]] [[97]] _ rfl rfl (by simp) (by exact HS3.out.below (alloc_below _ _)) (by exact strs1' _ _ _ _ _ (by simp) rfl)).mono ?_
  rintro e w5 ⟨rfl, hb5⟩
  rw [same_a]
  go_wp2
  go_ret
  exact ⟨rfl, (hb3.alloc (by simp; omega) _).trans (hb5.mono (by simp; omega))⟩
end Go.Proofs.Ytmmljnkhiboaeaa
