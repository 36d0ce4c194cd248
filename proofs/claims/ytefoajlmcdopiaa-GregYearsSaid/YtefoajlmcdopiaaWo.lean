/-
  A day, and days, that came in: opened.
-/
import Derived.Test.YtefoajlmcdopiaaWk
import Derived.Test.YtefoajlmcdopiaaWq
import Derived.Test.YtefoajlmcdopiaaLaw
import Derived.Lib.SmallJoins
import Derived.Deep.Slices
import Derived.Deep.RegionHeld3
namespace Go.Proofs.Ytefoajlmcdopiaa
open Go.ChangeShapes Go.WideShapes Go.ChangeAt Go.RowKit

theorem cells23 : Try.prog.cellsOf 23 = 3 := by kernel_rfl
section
variable {H : Type} {enc : TypeId × Value → H}
theorem open_day {W : World} {base : Nat} {v : Value} {d : DataW H} {p : List MemPlace} (hv : Value.okWide Try.prog W .any base 23 v) (h : DataW.Trod enc Try.prog W 0 (fun _ => true) true 23 v d p) :
    ∃ y m d' : Int, v = dayV y m d' := by
  obtain ⟨c0, c1, c2, y0, y1, y2, m, rfl, _, _, hy0, hy1, hy2⟩ := Joins.open_agg3 Try.underlying23 (by kernel_rfl) cells23 hv h
  obtain ⟨x, e0, _, _⟩ := DataW.trod_int Try.underlying3 hy0
  obtain ⟨y, e1, _, _⟩ := DataW.trod_int Try.underlying3 hy1
  obtain ⟨f, e2, _, _⟩ := DataW.trod_int Try.underlying3 hy2
  simp at e0 e1 e2
  subst e0 e1 e2
  exact ⟨x, y, f, rfl⟩

/-- Days of a slice lie there. -/
def Days (w : World) (a : Option Addr) (ds : List (Int × Int × Int)) : Prop :=
  ∀ j, j < ds.length → ∃ b off, a = some ⟨b, off, none⟩ ∧ b < w.heap.size ∧ w.cell? ⟨b, off + j * 3, none⟩ = some (.int .i64 (ds.getD j (0, 0, 0)).1) ∧
    w.cell? ⟨b, off + j * 3 + 1, none⟩ = some (.int .i64 (ds.getD j (0, 0, 0)).2.1) ∧ w.cell? ⟨b, off + j * 3 + 2, none⟩ = some (.int .i64 (ds.getD j (0, 0, 0)).2.2)

theorem open_days {W : World} {base : Nat} {v : Value} {d : DataW H} {p : List MemPlace} (hv : Value.okWide Try.prog W .any base 35 v) (h : DataW.Trod enc Try.prog W 0 (fun _ => true) true 35 v d p) :
    ∃ (a : Option Addr) (len cap : Nat) (ds : List (Int × Int × Int)), v = .slice a len cap ∧ ds.length = len ∧ len ≤ 9223372036854775807 ∧ Days W a ds := by
  obtain ⟨a0, len, cap, rfl⟩ := okWide_slice Try.underlying35 hv
  obtain ⟨fuel, hf⟩ := h
  rcases Deep.open_slice Try.underlying35 hf with ⟨hcs, _⟩ | ⟨a, len', cap', m, n, D, Pl, hcs, hb, hl, hm, hmm, _, hx⟩
  · simp [Value.cells] at hcs
    obtain ⟨rfl, rfl, rfl⟩ := hcs
    exact ⟨none, 0, 0, [], rfl, rfl, by omega, fun j hj => by simp at hj⟩
  · simp [Value.cells] at hcs
    obtain ⟨rfl, rfl, rfl⟩ := hcs
    simp only [if_true] at hmm
    subst hmm
    have each : ∀ i, ∃ q : Int × Int × Int, i < len → W.cell? (a.add (i * 3)) = some (.int .i64 q.1) ∧ W.cell? (a.add (i * 3 + 1)) = some (.int .i64 q.2.1) ∧ W.cell? (a.add (i * 3 + 2)) = some (.int .i64 q.2.2) := by
      intro i
      by_cases hi : i < len
      · obtain ⟨cs, h1, h2⟩ := hx i (by omega)
        rw [cells23] at h1
        obtain ⟨_, hlen, hcell⟩ := World.cells?_some h1
        obtain ⟨y0, y1, y2, k, _, _, g0, g1, g2⟩ := Deep.trod_struct3 Try.underlying23 h2
        match cs, hlen with
        | [v0, v1, v2], _ =>
          have k3 : Try.prog.cellsOf 3 = 1 := by kernel_rfl
          simp only [k3, List.drop_zero, List.drop_succ_cons, List.take_succ_cons, List.take_zero] at g0 g1 g2
          obtain ⟨x, e0, _, _⟩ := DataW.trod_int Try.underlying3 g0
          obtain ⟨y, e1, _, _⟩ := DataW.trod_int Try.underlying3 g1
          obtain ⟨f, e2, _, _⟩ := DataW.trod_int Try.underlying3 g2
          simp at e0 e1 e2
          subst e0 e1 e2
          have c0 := hcell 0 (by omega)
          have c1 := hcell 1 (by omega)
          have c2 := hcell 2 (by omega)
          rw [Deep.add_add] at c0 c1 c2
          exact ⟨(x, y, f), fun _ => ⟨by simpa using c0, by simpa using c1, by simpa using c2⟩⟩
      · exact ⟨(0, 0, 0), fun h => absurd h hi⟩
    obtain ⟨q, hq⟩ := Classical.axiomOfChoice each
    refine ⟨some a, len, m, (List.range len).map q, rfl, by simp, by unfold maxLen at hm; omega, ?_⟩
    intro j hj
    simp at hj
    obtain ⟨b, off, spot⟩ := a
    have hspot : spot = none := by simpa [Addr.add] using World.cell?_spot (hq 0 (by omega)).1
    subst hspot
    have h3 := hq j hj
    simp only [add_plain] at h3
    have e : ((List.range len).map q).getD j (0, 0, 0) = q j := by simp [List.getD, hj]
    rw [e]
    have hb : b < W.heap.size := by
      exact World.block_lt_of_cell? W _ h3.1
    refine ⟨b, off, rfl, hb, ?_, ?_, ?_⟩
    · exact h3.1
    · rw [Nat.add_assoc]; exact h3.2.1
    · rw [Nat.add_assoc]; exact h3.2.2
end
end Go.Proofs.Ytefoajlmcdopiaa
