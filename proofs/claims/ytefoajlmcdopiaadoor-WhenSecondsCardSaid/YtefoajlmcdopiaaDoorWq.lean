/-
  Regions that draw their order, whose calls may make memory: one walk of the order of the text, at a class of worlds.
-/
import Derived.Test.YtefoajlmcdopiaaDoorBs
import Derived.BigQuiet
import Derived.Deep.QuietTactic
namespace Go.Proofs.YtefoajlmcdopiaaDoor
open Go.RowKit

/-- A world of a class, under one name. -/
structure Wl (S : World → Prop) where
  w : World
  h : S w

theorem wp_region_class {P : Program} {id : Nat} {Q : Exit → Act → World → Prop} {a : Act} {w : World} {l : List Oper} (S : World → Prop)
    (hm : P.follows .mixedOrders = true) (hB : Region.lexB .any l.toArray = true) (hS : S w.drew)
    (h : wpQuiet P l.toArray (fun w' => ∃ s : Wl S, w' = s.w) (fun a' => ∀ w', S w' → Q .normal a' w') l a) : (Code.region id l.toArray true).wp P Q a w := by
  refine wp_region_quiet (C := S) hm hB hS ?_
  have hC : S = fun w' => ∃ s : Wl S, w' = s.w := by
    funext w'
    exact propext ⟨fun h => ⟨⟨w', h⟩, rfl⟩, fun ⟨s, hs⟩ => hs ▸ s.h⟩
  rw [← hC] at h
  simpa using h

theorem Wl.call {S : World → Prop} {P : Program} {f : FuncId} {args : Array Value} {s : Wl S} {v : Value}
    (h : Calls P f args s.w fun e w' => e = .returned v ∧ S w') : Calls P f args s.w fun e w'' => e = .returned v ∧ ∃ s' : Wl S, w'' = s'.w :=
  h.mono fun _ w' ⟨he, hs⟩ => ⟨he, ⟨w', hs⟩, rfl⟩
/-- A callee that leaves the world alone. -/
theorem Wl.same {S : World → Prop} {P : Program} {f : FuncId} {args : Array Value} {s : Wl S} {v : Value}
    (h : Calls P f args s.w fun e w' => e = .returned v ∧ s.w = w') : Calls P f args s.w fun e w'' => e = .returned v ∧ ∃ s' : Wl S, w'' = s'.w :=
  h.mono fun _ _ ⟨he, hs⟩ => ⟨he, s, hs.symm⟩
/-- A callee that makes memory. -/
theorem Wl.below {B : Nat} {W : World} {P : Program} {f : FuncId} {args : Array Value} {s : Wl (Below B W)} {v : Value} (hB : B ≤ W.heap.size)
    (h : Calls P f args s.w fun e w' => e = .returned v ∧ Below s.w.heap.size s.w w') : Calls P f args s.w fun e w'' => e = .returned v ∧ ∃ s' : Wl (Below B W), w'' = s'.w :=
  h.mono fun _ w' ⟨he, hs⟩ => ⟨he, ⟨w', s.h.trans (hs.mono (Nat.le_trans hB s.h.size))⟩, rfl⟩
/-- A cell below the mark, in every world of the class. -/
theorem Wl.cell {B : Nat} {W : World} {p : Addr} {v : Option Value} (hp : p.block < B) (h : W.cell? p = v) (s : Wl (Below B W)) : s.w.cell? p = v := (s.h.cell hp).trans h
theorem Wl.frozen {B : Nat} {W : World} {p : Addr} {v : Bool} (hp : p.block < B) (h : W.frozen? p = v) (s : Wl (Below B W)) : s.w.frozen? p = v := (s.h.frozen hp).trans h
/-- The walk's simp closes `∀ s : Wl .., x = v` by it. -/
instance wlSome {B : Nat} {W : World} : Nonempty (Wl (Below B W)) := ⟨⟨W, Below.refl _ _⟩⟩
end Go.Proofs.YtefoajlmcdopiaaDoor
