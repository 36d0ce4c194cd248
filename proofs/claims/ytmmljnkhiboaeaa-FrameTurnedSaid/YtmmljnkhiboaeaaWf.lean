/-
  errors.Is of an error that wraps another (frame's cut).
-/
import Derived.Test.YtmmljnkhiboaeaaEr
namespace Go.Proofs.Ytmmljnkhiboaeaa
open Go.RowKit Go.Extern.Stop Go.Stop Go.Extern

/-- An error that wraps a number. -/
def cutE (n : Int) : Value := .iface 54 (.agg #[.iface 46 (.int .i64 n)])

theorem noIsC (v : Value) (xT : TypeId) (w : World) : (Instr.typeAssert (.iface 54 v) xT 63 true).run Try.prog w = .ok (.tuple #[.nilIface, .bool false]) w := run_typeAssert_lacksB Try.underlying63 (by kernel_rfl) (by kernel_rfl) v xT w
theorem hasUnwrapC (v : Value) (xT : TypeId) (w : World) : (Instr.typeAssert (.iface 54 v) xT 66 true).run Try.prog w = .ok (.tuple #[.iface 54 v, .bool true]) w := run_typeAssert_hasB Try.underlying66 (by kernel_rfl) v xT w

set_option maxHeartbeats 400000 in
theorem is_cut_yes (a : Int) (w : World) : Calls Try.prog 23 #[cutE a, errno a] w fun e w' => e = .returned (.bool true) ∧ Below w.heap.size w w' := by
  unfold errno cutE
  have h8 := @run_callFunc_extern Try.prog 27 _ Extern.ReflectliteType.typeOf Try.func27 (by kernel_rfl) (by kernel_rfl) (by kernel_rfl) (by kernel_rfl)
  have h32 := @run_callFunc_extern Try.prog 51 _ cmpM Try.func51 (by kernel_rfl) (by kernel_rfl) (by kernel_rfl) (by kernel_rfl)
  have tT := isTypeOf
  have cT := isComparable
  have nI := noIs
  have nU := noUnwrap
  have nV := noUnwraps
  have nC := noIsC
  have uC := hasUnwrapC
  have heq := fun w => eql_errno a a w
  simp only [beq_self_eq_true] at heq
  have hty := fun w => run_eql_iface_types (P := Try.prog) 54 46 (.agg #[.iface 46 (.int .i64 a)]) (.int .i64 a) Try.underlying31 (by decide) w
  go_enter Try.func23, Try.ntmps23
  go_wp2
  refine wp_loop_rounds 2 ?_
  rw [rounds_succ]
  go_wp2
  rw [rounds_succ]
  go_wp2
  go_ret
  exact ⟨rfl, by go_grown⟩
set_option maxHeartbeats 400000 in
theorem is_cut_no (a b : Int) (w : World) (hne : (a == b) = false) : Calls Try.prog 23 #[cutE a, errno b] w fun e w' => e = .returned (.bool false) ∧ Below w.heap.size w w' := by
  unfold errno cutE
  have h8 := @run_callFunc_extern Try.prog 27 _ Extern.ReflectliteType.typeOf Try.func27 (by kernel_rfl) (by kernel_rfl) (by kernel_rfl) (by kernel_rfl)
  have h32 := @run_callFunc_extern Try.prog 51 _ cmpM Try.func51 (by kernel_rfl) (by kernel_rfl) (by kernel_rfl) (by kernel_rfl)
  have tT := isTypeOf
  have cT := isComparable
  have nI := noIs
  have nU := noUnwrap
  have nV := noUnwraps
  have nC := noIsC
  have uC := hasUnwrapC
  have heq := fun w => eql_errno a b w
  simp only [hne] at heq
  have hty := fun w => run_eql_iface_types (P := Try.prog) 54 46 (.agg #[.iface 46 (.int .i64 a)]) (.int .i64 b) Try.underlying31 (by decide) w
  go_enter Try.func23, Try.ntmps23
  go_wp2
  refine wp_loop_rounds 2 ?_
  rw [rounds_succ]
  go_wp2
  rw [rounds_succ]
  go_wp2
  go_ret
  exact ⟨rfl, by go_grown⟩
end Go.Proofs.Ytmmljnkhiboaeaa
