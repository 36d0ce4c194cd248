/-
  A time that came in: opened.
-/
import Derived.Test.YtefoajlmcdopiaaDoorLa
import Derived.Lib.SmallJoins
import Derived.Deep.Slices
namespace Go.Proofs.YtefoajlmcdopiaaDoor
open Go.ChangeShapes Go.WideShapes Go.ChangeAt Go.RowKit

theorem cells38 : Tryd.prog.cellsOf 38 = 8 := by kernel_rfl
theorem cells36 : Tryd.prog.cellsOf 36 = 3 := by kernel_rfl
theorem cells3 : Tryd.prog.cellsOf 3 = 1 := by kernel_rfl
theorem cells4 : Tryd.prog.cellsOf 4 = 1 := by kernel_rfl
section
variable {H : Type} {enc : TypeId × Value → H}
theorem int_one {W : World} {base fuel : Nat} {sp : Nat → Bool} {held : Bool} {c : Value} {x : DataW H × List MemPlace} (h : DataW.trod enc Tryd.prog W base sp held fuel 3 [c] = some x) : ∃ n : Int, c = .int .i64 n := by
  obtain ⟨n, e, _, _⟩ := DataW.trod_int Tryd.underlying3 h
  simp at e
  exact ⟨n, e⟩
theorem bool_one {W : World} {base fuel : Nat} {sp : Nat → Bool} {held : Bool} {c : Value} {x : DataW H × List MemPlace} (h : DataW.trod enc Tryd.prog W base sp held fuel 4 [c] = some x) : ∃ b : Bool, c = .bool b := by
  obtain ⟨n, e, _⟩ := DataW.trod_bool Tryd.underlying4 h
  simp at e
  exact ⟨n, e⟩
set_option maxRecDepth 100000 in
theorem open_time {W : World} {base : Nat} {v : Value} {d : DataW H} {p : List MemPlace} (hv : Value.okWide Tryd.prog W .any base 38 v) (h : DataW.Trod enc Tryd.prog W 0 (fun _ => true) true 38 v d p) :
    ∃ (y m d' h' mi s : Int) (b u : Bool), v = timeV y m d' h' mi s b u := by
  obtain ⟨cs, rfl, hsz⟩ := okWide_struct Tryd.underlying38 hv
  rw [cells38] at hsz
  obtain ⟨fuel, hf⟩ := h
  obtain ⟨xs, n, _, _, _, hxs, hel⟩ := DataW.trod_struct Tryd.underlying38 hf
  have some_at : ∀ i, i < xs.length → ∃ x, xs[i]? = some x := fun i hi => ⟨xs[i], by simp [hi]⟩
  have h6 : xs.length = 6 := hxs
  obtain ⟨l⟩ := cs
  match l, hsz with
  | [c0, c1, c2, c3, c4, c5, c6, c7], _ =>
    have e0 := hel 0 _ rfl
    have e1 := hel 1 _ rfl
    have e2 := hel 2 _ rfl
    have e3 := hel 3 _ rfl
    have e4 := hel 4 _ rfl
    have e5 := hel 5 _ rfl
    obtain ⟨x0, q0⟩ := some_at 0 (by omega)
    obtain ⟨x1, q1⟩ := some_at 1 (by omega)
    obtain ⟨x2, q2⟩ := some_at 2 (by omega)
    obtain ⟨x3, q3⟩ := some_at 3 (by omega)
    obtain ⟨x4, q4⟩ := some_at 4 (by omega)
    obtain ⟨x5, q5⟩ := some_at 5 (by omega)
    rw [q0] at e0
    rw [q1] at e1
    rw [q2] at e2
    rw [q3] at e3
    rw [q4] at e4
    rw [q5] at e5
    have e0 : DataW.trod enc Tryd.prog W 0 (fun _ => true) true n 36 (([c0, c1, c2, c3, c4, c5, c6, c7].drop 0).take (Tryd.prog.cellsOf 36)) = some x0 := e0
    have e1 : DataW.trod enc Tryd.prog W 0 (fun _ => true) true n 3 (([c0, c1, c2, c3, c4, c5, c6, c7].drop 3).take (Tryd.prog.cellsOf 3)) = some x1 := e1
    have e2 : DataW.trod enc Tryd.prog W 0 (fun _ => true) true n 3 (([c0, c1, c2, c3, c4, c5, c6, c7].drop 4).take (Tryd.prog.cellsOf 3)) = some x2 := e2
    have e3 : DataW.trod enc Tryd.prog W 0 (fun _ => true) true n 3 (([c0, c1, c2, c3, c4, c5, c6, c7].drop 5).take (Tryd.prog.cellsOf 3)) = some x3 := e3
    have e4 : DataW.trod enc Tryd.prog W 0 (fun _ => true) true n 4 (([c0, c1, c2, c3, c4, c5, c6, c7].drop 6).take (Tryd.prog.cellsOf 4)) = some x4 := e4
    have e5 : DataW.trod enc Tryd.prog W 0 (fun _ => true) true n 4 (([c0, c1, c2, c3, c4, c5, c6, c7].drop 7).take (Tryd.prog.cellsOf 4)) = some x5 := e5
    rw [cells36] at e0
    rw [cells3] at e1 e2 e3
    rw [cells4] at e4 e5
    obtain ⟨y0, y1, y2, k, _, _, g0, g1, g2⟩ := Deep.trod_struct3 Tryd.underlying36 e0
    rw [cells3] at g0 g1 g2
    obtain ⟨a0, rfl⟩ := int_one (c := c0) g0
    obtain ⟨a1, rfl⟩ := int_one (c := c1) g1
    obtain ⟨a2, rfl⟩ := int_one (c := c2) g2
    obtain ⟨a3, rfl⟩ := int_one (c := c3) e1
    obtain ⟨a4, rfl⟩ := int_one (c := c4) e2
    obtain ⟨a5, rfl⟩ := int_one (c := c5) e3
    obtain ⟨a6, rfl⟩ := bool_one (c := c6) e4
    obtain ⟨a7, rfl⟩ := bool_one (c := c7) e5
    exact ⟨a0, a1, a2, a3, a4, a5, a6, a7, rfl⟩
end
end Go.Proofs.YtefoajlmcdopiaaDoor
