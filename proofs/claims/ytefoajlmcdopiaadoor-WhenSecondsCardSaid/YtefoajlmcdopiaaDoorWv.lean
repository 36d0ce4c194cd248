/-
  The walk over Parse: the closure that reads a part.
-/
import Derived.Test.YtefoajlmcdopiaaDoorWu
namespace Go.Proofs.YtefoajlmcdopiaaDoor
open Go.RowKit

namespace Tw
def cut (l : List UInt8) (f t : Nat) : List UInt8 := (l.drop f).take (t - f)
def nN (l : List UInt8) : Nat := (num l).getD 0
def nB (l : List UInt8) : Bool := (num l).isSome
end Tw
theorem numV_eq (l : List UInt8) : numV l = .tuple #[.int .i64 (Tw.nN l), .bool (Tw.nB l)] := by
  unfold numV Tw.nN Tw.nB
  cases Tw.num l <;> rfl
set_option maxHeartbeats 4000000 in
theorem clo_any (S O L k f t : Nat) (l : List UInt8) (ok : Bool) (a : Int) (w : World) (hk : k < 6) (hft : f ≤ t) (ht : t ≤ l.length) (h6 : t ≤ f + 6) (hne : O ≠ L)
    (k0 : w.cell? ⟨S, 0, none⟩ = some (.string (bs l))) (ko : w.cell? ⟨O, 0, none⟩ = some (.bool ok)) (fo : w.frozen? ⟨O, 0, none⟩ = false) (kl : w.cell? ⟨L, k, none⟩ = some (.int .i64 a)) (fl : w.frozen? ⟨L, k, none⟩ = false) :
    Calls Tryd.prog 46 #[.int .i64 k, .int .i64 f, .int .i64 t, .pointer (some ⟨S, 0, none⟩), .pointer (some ⟨O, 0, none⟩), .pointer (some ⟨L, 0, none⟩)] w fun e w' => e = .returned (.tuple #[]) ∧
      w' = ((w.setCell ⟨L, k, none⟩ (.int .i64 (Tw.nN (Tw.cut l f t)))).setCell ⟨O, 0, none⟩ (.bool (ok && Tw.nB (Tw.cut l f t)))).drew := by
  have N := fun w => num_any (Tw.cut l f t) w (by unfold Tw.cut; simp; omega)
  rw [numV_eq] at N
  unfold Tw.cut at N ⊢
  obtain ⟨x, hx⟩ : ∃ x, Tw.nN (List.take (t - f) (List.drop f l)) = x := ⟨_, rfl⟩
  obtain ⟨b, hb⟩ : ∃ b, Tw.nB (List.take (t - f) (List.drop f l)) = b := ⟨_, rfl⟩
  rw [hx, hb] at N ⊢
  have N := hid N
  clear hx hb
  rcases (show k = 0 ∨ k = 1 ∨ k = 2 ∨ k = 3 ∨ k = 4 ∨ k = 5 by omega) with rfl | rfl | rfl | rfl | rfl | rfl
  all_goals
    cases ok
    all_goals
      go_enter Tryd.func46, Tryd.ntmps46
      go_wp2_with fail
      refine (N.out _).mono ?_
      rintro e1 w1 ⟨rfl, rfl⟩
      go_wp2
      go_region
      go_end0
      exact ⟨rfl, rfl⟩
/-- One place set. -/
def upd (a : Nat → Int) (k : Nat) (x : Int) : Nat → Int := fun i => if i = k then x else a i
/-- The memory of Parse, while it reads its parts. -/
structure PS (w0 : World) (l : List UInt8) (u ok : Bool) (a : Nat → Int) (w : World) : Prop where
  s : w.cell? ⟨w0.heap.size, 0, none⟩ = some (.string (bs l))
  r : TimeNew (w0.heap.size + 1) w
  t : TimeIn (w0.heap.size + 2) 0 0 0 0 0 0 false u w
  ft : ∀ j, w.frozen? ⟨w0.heap.size + 2, j, none⟩ = false
  c : ∀ i, i < 6 → w.cell? ⟨w0.heap.size + 3, i, none⟩ = some (.int .i64 (a i))
  fc : ∀ j, w.frozen? ⟨w0.heap.size + 3, j, none⟩ = false
  o : w.cell? ⟨w0.heap.size + 4, 0, none⟩ = some (.bool ok)
  fo : ∀ j, w.frozen? ⟨w0.heap.size + 4, j, none⟩ = false
  sz : w0.heap.size + 4 < w.heap.size
  b : Below w0.heap.size w0 w
theorem TimeIn.setFar {g b i : Nat} {y m d h mi s : Int} {bb u : Bool} {w : World} {v : Value} (t : TimeIn g y m d h mi s bb u w) (hne : b ≠ g) : TimeIn g y m d h mi s bb u (w.setCell ⟨b, i, none⟩ v) := by
  obtain ⟨a0, a1, a2, a3, a4, a5, a6, a7, sz⟩ := t
  have far : ∀ j, (w.setCell ⟨b, i, none⟩ v).cell? ⟨g, j, none⟩ = w.cell? ⟨g, j, none⟩ := fun j => World.cell?_setCell_far w _ _ v hne
  exact ⟨(far 0).trans a0, (far 1).trans a1, (far 2).trans a2, (far 3).trans a3, (far 4).trans a4, (far 5).trans a5, (far 6).trans a6, (far 7).trans a7, by simpa using sz⟩
theorem TimeNew.setFar {g b i : Nat} {w : World} {v : Value} (t : TimeNew g w) (hne : b ≠ g) : TimeNew g (w.setCell ⟨b, i, none⟩ v) :=
  ⟨t.t.setFar hne, fun j => by rw [World.frozen?_setCell]; exact t.f j⟩
theorem PS.setC {w0 : World} {l : List UInt8} {u ok : Bool} {a : Nat → Int} {w : World} (h : PS w0 l u ok a w) (k : Nat) (hk : k < 6) (x : Int) : PS w0 l u ok (upd a k x) (w.setCell ⟨w0.heap.size + 3, k, none⟩ (.int .i64 x)) := by
  have far : ∀ g j, w0.heap.size + 3 ≠ g → (w.setCell ⟨w0.heap.size + 3, k, none⟩ (.int .i64 x)).cell? ⟨g, j, none⟩ = w.cell? ⟨g, j, none⟩ := fun g j hne => World.cell?_setCell_far w _ _ _ hne
  refine ⟨(far _ _ (by omega)).trans h.s, h.r.setFar (by omega), h.t.setFar (by omega), fun j => by rw [World.frozen?_setCell]; exact h.ft j, ?_, fun j => by rw [World.frozen?_setCell]; exact h.fc j, (far _ _ (by omega)).trans h.o, fun j => by rw [World.frozen?_setCell]; exact h.fo j, by rw [World.size_setCell]; exact h.sz, h.b.setCell (by simp) _⟩
  intro i hi
  unfold upd
  split
  · rename_i e
    subst e
    exact World.cell?_setCell_same _ _ _ (h.c i hi)
  · rename_i e
    rw [World.cell?_setCell_other _ _ _ _ (by intro e2; injection e2 with _ e3; exact e e3.symm)]
    exact h.c i hi
theorem PS.setO {w0 : World} {l : List UInt8} {u ok : Bool} {a : Nat → Int} {w : World} (h : PS w0 l u ok a w) (ok' : Bool) : PS w0 l u ok' a (w.setCell ⟨w0.heap.size + 4, 0, none⟩ (.bool ok')) := by
  have far : ∀ g j, w0.heap.size + 4 ≠ g → (w.setCell ⟨w0.heap.size + 4, 0, none⟩ (.bool ok')).cell? ⟨g, j, none⟩ = w.cell? ⟨g, j, none⟩ := fun g j hne => World.cell?_setCell_far w _ _ _ hne
  exact ⟨(far _ _ (by omega)).trans h.s, h.r.setFar (by omega), h.t.setFar (by omega), fun j => by rw [World.frozen?_setCell]; exact h.ft j, fun i hi => (far _ _ (by omega)).trans (h.c i hi), fun j => by rw [World.frozen?_setCell]; exact h.fc j, World.cell?_setCell_same _ _ _ h.o, fun j => by rw [World.frozen?_setCell]; exact h.fo j, by rw [World.size_setCell]; exact h.sz, h.b.setCell (by simp) _⟩
theorem TimeIn.drew {g : Nat} {y m d h mi s : Int} {bb u : Bool} {w : World} (t : TimeIn g y m d h mi s bb u w) : TimeIn g y m d h mi s bb u w.drew := ⟨t.c0, t.c1, t.c2, t.c3, t.c4, t.c5, t.c6, t.c7, t.sz⟩
theorem PS.drew {w0 : World} {l : List UInt8} {u ok : Bool} {a : Nat → Int} {w : World} (h : PS w0 l u ok a w) : PS w0 l u ok a w.drew :=
  ⟨h.s, ⟨h.r.t.drew, h.r.f⟩, h.t.drew, h.ft, h.c, h.fc, h.o, h.fo, h.sz, h.b.drew⟩
theorem clo_ps {w0 : World} {l : List UInt8} {u ok : Bool} {a : Nat → Int} (k f t : Nat) (w : World) (h : PS w0 l u ok a w) (hk : k < 6) (hft : f ≤ t) (ht : t ≤ l.length) (h6 : t ≤ f + 6) :
    Calls Tryd.prog 46 #[.int .i64 k, .int .i64 f, .int .i64 t, .pointer (some ⟨w0.heap.size, 0, none⟩), .pointer (some ⟨w0.heap.size + 4, 0, none⟩), .pointer (some ⟨w0.heap.size + 3, 0, none⟩)] w fun e w' => e = .returned (.tuple #[]) ∧
      PS w0 l u (ok && Tw.nB (Tw.cut l f t)) (upd a k (Tw.nN (Tw.cut l f t))) w' := by
  refine (clo_any _ _ _ k f t l ok (a k) w hk hft ht h6 (by omega) h.s h.o (h.fo 0) (h.c k hk) (h.fc k)).mono ?_
  rintro e w' ⟨rfl, rfl⟩
  exact ⟨rfl, ((h.setC k hk _).setO _).drew⟩
theorem TimeIn.s0 {g : Nat} {y m d h mi s : Int} {b u : Bool} {w : World} (t : TimeIn g y m d h mi s b u w) (x : Int) : TimeIn g x m d h mi s b u (w.setCell ⟨g, 0, none⟩ (.int .i64 x)) :=
  ⟨World.cell?_setCell_same _ _ _ t.c0, (World.cell?_setCell_other _ _ _ _ (by intro e; injection e with _ e2; exact absurd e2 (by decide))).trans t.c1, (World.cell?_setCell_other _ _ _ _ (by intro e; injection e with _ e2; exact absurd e2 (by decide))).trans t.c2, (World.cell?_setCell_other _ _ _ _ (by intro e; injection e with _ e2; exact absurd e2 (by decide))).trans t.c3, (World.cell?_setCell_other _ _ _ _ (by intro e; injection e with _ e2; exact absurd e2 (by decide))).trans t.c4, (World.cell?_setCell_other _ _ _ _ (by intro e; injection e with _ e2; exact absurd e2 (by decide))).trans t.c5, (World.cell?_setCell_other _ _ _ _ (by intro e; injection e with _ e2; exact absurd e2 (by decide))).trans t.c6, (World.cell?_setCell_other _ _ _ _ (by intro e; injection e with _ e2; exact absurd e2 (by decide))).trans t.c7, by rw [World.size_setCell]; exact t.sz⟩
theorem TimeIn.s1 {g : Nat} {y m d h mi s : Int} {b u : Bool} {w : World} (t : TimeIn g y m d h mi s b u w) (x : Int) : TimeIn g y x d h mi s b u (w.setCell ⟨g, 1, none⟩ (.int .i64 x)) :=
  ⟨(World.cell?_setCell_other _ _ _ _ (by intro e; injection e with _ e2; exact absurd e2 (by decide))).trans t.c0, World.cell?_setCell_same _ _ _ t.c1, (World.cell?_setCell_other _ _ _ _ (by intro e; injection e with _ e2; exact absurd e2 (by decide))).trans t.c2, (World.cell?_setCell_other _ _ _ _ (by intro e; injection e with _ e2; exact absurd e2 (by decide))).trans t.c3, (World.cell?_setCell_other _ _ _ _ (by intro e; injection e with _ e2; exact absurd e2 (by decide))).trans t.c4, (World.cell?_setCell_other _ _ _ _ (by intro e; injection e with _ e2; exact absurd e2 (by decide))).trans t.c5, (World.cell?_setCell_other _ _ _ _ (by intro e; injection e with _ e2; exact absurd e2 (by decide))).trans t.c6, (World.cell?_setCell_other _ _ _ _ (by intro e; injection e with _ e2; exact absurd e2 (by decide))).trans t.c7, by rw [World.size_setCell]; exact t.sz⟩
theorem TimeIn.s2 {g : Nat} {y m d h mi s : Int} {b u : Bool} {w : World} (t : TimeIn g y m d h mi s b u w) (x : Int) : TimeIn g y m x h mi s b u (w.setCell ⟨g, 2, none⟩ (.int .i64 x)) :=
  ⟨(World.cell?_setCell_other _ _ _ _ (by intro e; injection e with _ e2; exact absurd e2 (by decide))).trans t.c0, (World.cell?_setCell_other _ _ _ _ (by intro e; injection e with _ e2; exact absurd e2 (by decide))).trans t.c1, World.cell?_setCell_same _ _ _ t.c2, (World.cell?_setCell_other _ _ _ _ (by intro e; injection e with _ e2; exact absurd e2 (by decide))).trans t.c3, (World.cell?_setCell_other _ _ _ _ (by intro e; injection e with _ e2; exact absurd e2 (by decide))).trans t.c4, (World.cell?_setCell_other _ _ _ _ (by intro e; injection e with _ e2; exact absurd e2 (by decide))).trans t.c5, (World.cell?_setCell_other _ _ _ _ (by intro e; injection e with _ e2; exact absurd e2 (by decide))).trans t.c6, (World.cell?_setCell_other _ _ _ _ (by intro e; injection e with _ e2; exact absurd e2 (by decide))).trans t.c7, by rw [World.size_setCell]; exact t.sz⟩
theorem TimeIn.s3 {g : Nat} {y m d h mi s : Int} {b u : Bool} {w : World} (t : TimeIn g y m d h mi s b u w) (x : Int) : TimeIn g y m d x mi s b u (w.setCell ⟨g, 3, none⟩ (.int .i64 x)) :=
  ⟨(World.cell?_setCell_other _ _ _ _ (by intro e; injection e with _ e2; exact absurd e2 (by decide))).trans t.c0, (World.cell?_setCell_other _ _ _ _ (by intro e; injection e with _ e2; exact absurd e2 (by decide))).trans t.c1, (World.cell?_setCell_other _ _ _ _ (by intro e; injection e with _ e2; exact absurd e2 (by decide))).trans t.c2, World.cell?_setCell_same _ _ _ t.c3, (World.cell?_setCell_other _ _ _ _ (by intro e; injection e with _ e2; exact absurd e2 (by decide))).trans t.c4, (World.cell?_setCell_other _ _ _ _ (by intro e; injection e with _ e2; exact absurd e2 (by decide))).trans t.c5, (World.cell?_setCell_other _ _ _ _ (by intro e; injection e with _ e2; exact absurd e2 (by decide))).trans t.c6, (World.cell?_setCell_other _ _ _ _ (by intro e; injection e with _ e2; exact absurd e2 (by decide))).trans t.c7, by rw [World.size_setCell]; exact t.sz⟩
theorem TimeIn.s4 {g : Nat} {y m d h mi s : Int} {b u : Bool} {w : World} (t : TimeIn g y m d h mi s b u w) (x : Int) : TimeIn g y m d h x s b u (w.setCell ⟨g, 4, none⟩ (.int .i64 x)) :=
  ⟨(World.cell?_setCell_other _ _ _ _ (by intro e; injection e with _ e2; exact absurd e2 (by decide))).trans t.c0, (World.cell?_setCell_other _ _ _ _ (by intro e; injection e with _ e2; exact absurd e2 (by decide))).trans t.c1, (World.cell?_setCell_other _ _ _ _ (by intro e; injection e with _ e2; exact absurd e2 (by decide))).trans t.c2, (World.cell?_setCell_other _ _ _ _ (by intro e; injection e with _ e2; exact absurd e2 (by decide))).trans t.c3, World.cell?_setCell_same _ _ _ t.c4, (World.cell?_setCell_other _ _ _ _ (by intro e; injection e with _ e2; exact absurd e2 (by decide))).trans t.c5, (World.cell?_setCell_other _ _ _ _ (by intro e; injection e with _ e2; exact absurd e2 (by decide))).trans t.c6, (World.cell?_setCell_other _ _ _ _ (by intro e; injection e with _ e2; exact absurd e2 (by decide))).trans t.c7, by rw [World.size_setCell]; exact t.sz⟩
theorem TimeIn.s5 {g : Nat} {y m d h mi s : Int} {b u : Bool} {w : World} (t : TimeIn g y m d h mi s b u w) (x : Int) : TimeIn g y m d h mi x b u (w.setCell ⟨g, 5, none⟩ (.int .i64 x)) :=
  ⟨(World.cell?_setCell_other _ _ _ _ (by intro e; injection e with _ e2; exact absurd e2 (by decide))).trans t.c0, (World.cell?_setCell_other _ _ _ _ (by intro e; injection e with _ e2; exact absurd e2 (by decide))).trans t.c1, (World.cell?_setCell_other _ _ _ _ (by intro e; injection e with _ e2; exact absurd e2 (by decide))).trans t.c2, (World.cell?_setCell_other _ _ _ _ (by intro e; injection e with _ e2; exact absurd e2 (by decide))).trans t.c3, (World.cell?_setCell_other _ _ _ _ (by intro e; injection e with _ e2; exact absurd e2 (by decide))).trans t.c4, World.cell?_setCell_same _ _ _ t.c5, (World.cell?_setCell_other _ _ _ _ (by intro e; injection e with _ e2; exact absurd e2 (by decide))).trans t.c6, (World.cell?_setCell_other _ _ _ _ (by intro e; injection e with _ e2; exact absurd e2 (by decide))).trans t.c7, by rw [World.size_setCell]; exact t.sz⟩
theorem TimeIn.s6 {g : Nat} {y m d h mi s : Int} {b u : Bool} {w : World} (t : TimeIn g y m d h mi s b u w) (x : Bool) : TimeIn g y m d h mi s x u (w.setCell ⟨g, 6, none⟩ (.bool x)) :=
  ⟨(World.cell?_setCell_other _ _ _ _ (by intro e; injection e with _ e2; exact absurd e2 (by decide))).trans t.c0, (World.cell?_setCell_other _ _ _ _ (by intro e; injection e with _ e2; exact absurd e2 (by decide))).trans t.c1, (World.cell?_setCell_other _ _ _ _ (by intro e; injection e with _ e2; exact absurd e2 (by decide))).trans t.c2, (World.cell?_setCell_other _ _ _ _ (by intro e; injection e with _ e2; exact absurd e2 (by decide))).trans t.c3, (World.cell?_setCell_other _ _ _ _ (by intro e; injection e with _ e2; exact absurd e2 (by decide))).trans t.c4, (World.cell?_setCell_other _ _ _ _ (by intro e; injection e with _ e2; exact absurd e2 (by decide))).trans t.c5, World.cell?_setCell_same _ _ _ t.c6, (World.cell?_setCell_other _ _ _ _ (by intro e; injection e with _ e2; exact absurd e2 (by decide))).trans t.c7, by rw [World.size_setCell]; exact t.sz⟩
/-- The memory of Parse, behind its parts. -/
structure PM (w0 : World) (ok : Bool) (a : Nat → Int) (y m d h mi s : Int) (b u : Bool) (w : World) : Prop where
  r : TimeNew (w0.heap.size + 1) w
  t : TimeIn (w0.heap.size + 2) y m d h mi s b u w
  ft : ∀ j, w.frozen? ⟨w0.heap.size + 2, j, none⟩ = false
  c : ∀ i, i < 6 → w.cell? ⟨w0.heap.size + 3, i, none⟩ = some (.int .i64 (a i))
  o : w.cell? ⟨w0.heap.size + 4, 0, none⟩ = some (.bool ok)
  b : Below w0.heap.size w0 w
theorem PS.m {w0 : World} {l : List UInt8} {u ok : Bool} {a : Nat → Int} {w : World} (h : PS w0 l u ok a w) : PM w0 ok a 0 0 0 0 0 0 false u w := ⟨h.r, h.t, h.ft, h.c, h.o, h.b⟩
theorem PM.drew {w0 : World} {ok : Bool} {a : Nat → Int} {y m d h mi s : Int} {b u : Bool} {w : World} (p : PM w0 ok a y m d h mi s b u w) : PM w0 ok a y m d h mi s b u w.drew := ⟨⟨p.r.t.drew, p.r.f⟩, p.t.drew, p.ft, p.c, p.o, p.b.drew⟩
theorem PM.s0 {w0 : World} {ok : Bool} {a : Nat → Int} {y m d h mi s : Int} {b u : Bool} {w : World} (p : PM w0 ok a y m d h mi s b u w) (x : Int) : PM w0 ok a x m d h mi s b u (w.setCell ⟨w0.heap.size + 2, 0, none⟩ (.int .i64 x)) :=
  ⟨p.r.setFar (by omega), p.t.s0 x, fun j => by rw [World.frozen?_setCell]; exact p.ft j, fun i hi => (World.cell?_setCell_far w _ _ _ (by show w0.heap.size + 2 ≠ w0.heap.size + 3; omega)).trans (p.c i hi), (World.cell?_setCell_far w _ _ _ (by show w0.heap.size + 2 ≠ w0.heap.size + 4; omega)).trans p.o, p.b.setCell (by show w0.heap.size ≤ w0.heap.size + 2; omega) _⟩
theorem PM.s1 {w0 : World} {ok : Bool} {a : Nat → Int} {y m d h mi s : Int} {b u : Bool} {w : World} (p : PM w0 ok a y m d h mi s b u w) (x : Int) : PM w0 ok a y x d h mi s b u (w.setCell ⟨w0.heap.size + 2, 1, none⟩ (.int .i64 x)) :=
  ⟨p.r.setFar (by omega), p.t.s1 x, fun j => by rw [World.frozen?_setCell]; exact p.ft j, fun i hi => (World.cell?_setCell_far w _ _ _ (by show w0.heap.size + 2 ≠ w0.heap.size + 3; omega)).trans (p.c i hi), (World.cell?_setCell_far w _ _ _ (by show w0.heap.size + 2 ≠ w0.heap.size + 4; omega)).trans p.o, p.b.setCell (by show w0.heap.size ≤ w0.heap.size + 2; omega) _⟩
theorem PM.s2 {w0 : World} {ok : Bool} {a : Nat → Int} {y m d h mi s : Int} {b u : Bool} {w : World} (p : PM w0 ok a y m d h mi s b u w) (x : Int) : PM w0 ok a y m x h mi s b u (w.setCell ⟨w0.heap.size + 2, 2, none⟩ (.int .i64 x)) :=
  ⟨p.r.setFar (by omega), p.t.s2 x, fun j => by rw [World.frozen?_setCell]; exact p.ft j, fun i hi => (World.cell?_setCell_far w _ _ _ (by show w0.heap.size + 2 ≠ w0.heap.size + 3; omega)).trans (p.c i hi), (World.cell?_setCell_far w _ _ _ (by show w0.heap.size + 2 ≠ w0.heap.size + 4; omega)).trans p.o, p.b.setCell (by show w0.heap.size ≤ w0.heap.size + 2; omega) _⟩
theorem PM.s3 {w0 : World} {ok : Bool} {a : Nat → Int} {y m d h mi s : Int} {b u : Bool} {w : World} (p : PM w0 ok a y m d h mi s b u w) (x : Int) : PM w0 ok a y m d x mi s b u (w.setCell ⟨w0.heap.size + 2, 3, none⟩ (.int .i64 x)) :=
  ⟨p.r.setFar (by omega), p.t.s3 x, fun j => by rw [World.frozen?_setCell]; exact p.ft j, fun i hi => (World.cell?_setCell_far w _ _ _ (by show w0.heap.size + 2 ≠ w0.heap.size + 3; omega)).trans (p.c i hi), (World.cell?_setCell_far w _ _ _ (by show w0.heap.size + 2 ≠ w0.heap.size + 4; omega)).trans p.o, p.b.setCell (by show w0.heap.size ≤ w0.heap.size + 2; omega) _⟩
theorem PM.s4 {w0 : World} {ok : Bool} {a : Nat → Int} {y m d h mi s : Int} {b u : Bool} {w : World} (p : PM w0 ok a y m d h mi s b u w) (x : Int) : PM w0 ok a y m d h x s b u (w.setCell ⟨w0.heap.size + 2, 4, none⟩ (.int .i64 x)) :=
  ⟨p.r.setFar (by omega), p.t.s4 x, fun j => by rw [World.frozen?_setCell]; exact p.ft j, fun i hi => (World.cell?_setCell_far w _ _ _ (by show w0.heap.size + 2 ≠ w0.heap.size + 3; omega)).trans (p.c i hi), (World.cell?_setCell_far w _ _ _ (by show w0.heap.size + 2 ≠ w0.heap.size + 4; omega)).trans p.o, p.b.setCell (by show w0.heap.size ≤ w0.heap.size + 2; omega) _⟩
theorem PM.s5 {w0 : World} {ok : Bool} {a : Nat → Int} {y m d h mi s : Int} {b u : Bool} {w : World} (p : PM w0 ok a y m d h mi s b u w) (x : Int) : PM w0 ok a y m d h mi x b u (w.setCell ⟨w0.heap.size + 2, 5, none⟩ (.int .i64 x)) :=
  ⟨p.r.setFar (by omega), p.t.s5 x, fun j => by rw [World.frozen?_setCell]; exact p.ft j, fun i hi => (World.cell?_setCell_far w _ _ _ (by show w0.heap.size + 2 ≠ w0.heap.size + 3; omega)).trans (p.c i hi), (World.cell?_setCell_far w _ _ _ (by show w0.heap.size + 2 ≠ w0.heap.size + 4; omega)).trans p.o, p.b.setCell (by show w0.heap.size ≤ w0.heap.size + 2; omega) _⟩
theorem PM.s6 {w0 : World} {ok : Bool} {a : Nat → Int} {y m d h mi s : Int} {b u : Bool} {w : World} (p : PM w0 ok a y m d h mi s b u w) (x : Bool) : PM w0 ok a y m d h mi s x u (w.setCell ⟨w0.heap.size + 2, 6, none⟩ (.bool x)) :=
  ⟨p.r.setFar (by omega), p.t.s6 x, fun j => by rw [World.frozen?_setCell]; exact p.ft j, fun i hi => (World.cell?_setCell_far w _ _ _ (by show w0.heap.size + 2 ≠ w0.heap.size + 3; omega)).trans (p.c i hi), (World.cell?_setCell_far w _ _ _ (by show w0.heap.size + 2 ≠ w0.heap.size + 4; omega)).trans p.o, p.b.setCell (by show w0.heap.size ≤ w0.heap.size + 2; omega) _⟩
end Go.Proofs.YtefoajlmcdopiaaDoor
