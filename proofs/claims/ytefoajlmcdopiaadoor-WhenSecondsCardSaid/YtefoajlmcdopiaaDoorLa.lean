/-
  What the rows' condition gives: the table of powers of ten, hence what Itoa answers.
-/
import Derived.Test.YtefoajlmcdopiaaDoorRows
import Derived.Test.YtefoajlmcdopiaaDoorWu
import Derived.Test.YtefoajlmcdopiaaDoorLaw
import Derived.LaidMore
import Derived.Lib.LaidTab
import Derived.Lib.AppendIntMem
import Derived.Stop.Joined
namespace Go.Proofs.YtefoajlmcdopiaaDoor
open Go.ChangeShapes Go.WideShapes Go.ChangeAt Go.RowKit Go.Lib

def laid3 : List (String × DataW Unit) := [("math/bits.deBruijn32tab", Rows.laid_math_bits_deBruijn32tab), ("math/bits.deBruijn64tab", Rows.laid_math_bits_deBruijn64tab), ("internal/strconv.uint64pow10", Rows.laid_internal_strconv_uint64pow10)]
theorem gPow : Tryd.prog.globalNamed "internal/strconv.uint64pow10" = some 1 := by kernel_rfl
theorem tPow : (Tryd.prog.globals[1]?).map (·.type) = some 123 := by kernel_rfl
theorem door_met (os : Os) (args : Array Value) : laidMetH Tryd.prog laid3 ((World.doorLaid Tryd.prog 400 os).forCall (fun _ _ => 0) ⟨#[], args, []⟩).memory :=
  laidMetH_of_parts3 (fuel := 8) (laidMet_of_run' 8 (by kernel_rfl) (by kernel_rfl)) (by kernel_rfl) (by kernel_rfl)


set_option maxRecDepth 100000 in
theorem tab_of_laid {W : World} (h : laidMetH Tryd.prog laid3 W) : Lib.TabIs Tryd.prog W "internal/strconv.uint64pow10" .u64 Lib.pow10Tab := by
  rw [MakeChecks.laidMetH_plain _ _ _ (by kernel_rfl)] at h
  obtain ⟨ps, ⟨g0, t0, cs0, f0, p0, q0, hg0, ht0, hv0, hd0, ⟨g1, t1, cs1, f1, p1, q1, hg1, ht1, hv1, hd1, ⟨g2, t2, cs2, f2, p2, q2, hg2, ht2, hv2, hd2, _, _⟩, _⟩, _⟩, _, _⟩ := h
  obtain rfl := Option.some.inj (gPow.symm.trans hg2)
  obtain rfl := Option.some.inj (tPow.symm.trans ht2)
  unfold Lib.TabIs
  rw [hv2, ← Lib.cells_of_tab (zs := Lib.pow10Tab) (k := .u64) Tryd.underlying123 Tryd.underlying110 (by kernel_rfl) (by kernel_rfl) hd2]
theorem tabAt_of {W : World} (h : Lib.TabIs Tryd.prog W "internal/strconv.uint64pow10" .u64 Lib.pow10Tab) : TabAt W := by
  intro y w' hy hb
  have ht := tabBelow_of_tabIs h w' hb
  unfold ItoaAt
  refine (Tryd.strconv_Itoa y (by omega) (by omega) w' ht).mono ?_
  rintro e w2 ⟨rfl, k, os, rfl⟩
  refine ⟨?_, below_grow _ _ (Nat.le_refl _) _ _⟩
  have e : Lib.itoa (y : Int) = Lib.decDigits y := by unfold Lib.itoa; rw [if_neg (by omega)]; rfl
  rw [e]
  rfl
theorem tab_at {W : World} (h : laidMetH Tryd.prog laid3 W) : TabAt W := tabAt_of (tab_of_laid h)
end Go.Proofs.YtefoajlmcdopiaaDoor
