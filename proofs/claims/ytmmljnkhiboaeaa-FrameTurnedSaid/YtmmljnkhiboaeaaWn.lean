/-
  Bytes that a call has made of a string, and changes one by one; bytes that came in.
-/
import Derived.Test.YtmmljnkhiboaeaaNoughts
import Derived.Test.YtmmljnkhiboaeaaWm
import Derived.Laws.IdiomStrings
namespace Go.Proofs.Ytmmljnkhiboaeaa
open Go.RowKit

/-- The bytes of a slice lie there. -/
def Byts (w : World) (a : Option Addr) (l : List UInt8) : Prop :=
  ∀ j, j < l.length → ∃ b off, a = some ⟨b, off, none⟩ ∧ b < w.heap.size ∧ w.cell? ⟨b, off + j, none⟩ = some (.int .u8 (l.getD j 0).toNat)
/-- Bytes at the head of a block, none of them frozen. -/
def RowB (w : World) (g : Nat) (l : List UInt8) : Prop :=
  ∀ j, j < l.length → w.cell? ⟨g, j, none⟩ = some (.int .u8 (l.getD j 0).toNat) ∧ w.frozen? ⟨g, j, none⟩ = false
theorem RowB.set {w : World} {g : Nat} {l : List UInt8} (h : RowB w g l) (p : Nat) (c : UInt8) (hp : p < l.length) (x : Int) (hx : x = c.toNat) : RowB (w.setCell ⟨g, p, none⟩ (.int .u8 x)) g (l.set p c) := by
  subst hx
  intro j hj
  simp at hj
  have hfz : (w.setCell ⟨g, p, none⟩ (.int .u8 c.toNat)).frozen? ⟨g, j, none⟩ = false := by rw [World.frozen?_setCell]; exact (h j hj).2
  refine ⟨?_, hfz⟩
  by_cases e : p = j
  · subst e
    rw [World.cell?_setCell_same _ _ _ (h p hp).1]
    simp [List.getD, hp]
  · rw [World.cell?_setCell_other _ _ _ _ (by intro h2; injection h2 with h3 h4; exact e h4), (h j hj).1]
    simp [List.getD, e]
theorem RowB.below {w w' : World} {g : Nat} {l : List UInt8} (h : RowB w g l) (hg : g < w.heap.size) (hb : Below w.heap.size w w') : RowB w' g l :=
  fun j hj => ⟨(hb.cell (p := ⟨g, j, none⟩) hg).trans (h j hj).1, (hb.frozen (p := ⟨g, j, none⟩) hg).trans (h j hj).2⟩

/-- []byte(s). -/
theorem wpList_str_bytes {P : Program} (w : World) {ops : Array Oper} {rest : List Oper} {o : Oper} {a : Act} {Q : Exit → Act → World → Prop} (hg : o.guard = none) (x : Operand) (src dst e : TypeId)
    (hop : o.op = Op.convert src dst x) (h1 : P.underlying src = some .string) (h2 : P.underlying dst = some (.slice e)) (h3 : P.underlying e = some (.int .u8))
    (l : List UInt8) (hx : a.eval x = .string (bs l))
    (hK : ∀ cap w', RowB w' w.heap.size l → Below w.heap.size w w' → w.heap.size < w'.heap.size → wpList P ops Q rest (a.put o.dst (.slice (some ⟨w.heap.size, 0, none⟩) l.length cap)) w') : wpList P ops Q (o :: rest) a w := by
  have hrun := run_bytes_of_string (P := P) w src dst e (bs l) h1 h2 h3
  rw [bs_size] at hrun
  have hd : (bs l).data.size = l.length := by simp [bs]
  have hsz : l.length ≤ (bytesRow (bs l) (grownCap w l.length 0 e)).size := by
    unfold bytesRow
    simp [hd]
  refine wpList_plain hg fun K hK' => ?_
  unfold Oper.wp
  simp [execOp, hop, hx, hrun, Result.andThen]
  refine hK' _ _ (hK _ _ ?_ ?_ ?_)
  · intro j hj
    refine ⟨?_, ?_⟩
    · have := World.cell?_alloc_mark w.drew (bytesRow (bs l) (grownCap w l.length 0 e)) e ((bytesRow (bs l) (grownCap w l.length 0 e)).size, (bytesRow (bs l) (grownCap w l.length 0 e)).size + 1) j
      refine this.trans ?_
      rw [bytesRow_at _ _ _ (by omega)]
      simp [bs, List.getD, hj]
    · have := World.frozen?_alloc_mark w.drew (bytesRow (bs l) (grownCap w l.length 0 e)) e (bytesRow (bs l) (grownCap w l.length 0 e)).size ((bytesRow (bs l) (grownCap w l.length 0 e)).size + 1) j
      refine this.trans ?_
      simp; omega
  · exact ((Below.refl _ _).drew).alloc (Nat.le_refl _) _
  · show w.heap.size < (w.drew.alloc _).heap.size
    rw [World.size_alloc]
    exact Nat.lt_succ_self _

theorem turn_snoc (w : List UInt8) : ∀ (l : List UInt8) (p : Nat) (c : UInt8), Fp.turn l p (w ++ [c]) = (Fp.turn l p w).set (p + w.length) ((Fp.turn l p w).getD (p + w.length) 0 ^^^ c) := by
  induction w with
  | nil => intro l p c; rfl
  | cons d w ih =>
    intro l p c
    rw [List.cons_append, Fp.turn, ih, Fp.turn, List.length_cons, show p + 1 + w.length = p + (w.length + 1) by omega]
def anyB (w : List UInt8) : Bool := w.any (· != 0)
theorem anyB_snoc (w : List UInt8) (c : UInt8) : anyB (w ++ [c]) = (anyB w || c != 0) := by simp [anyB]
theorem anyB_no {w : List UInt8} (h : anyB w = false) : w = List.replicate w.length 0 := by
  induction w with
  | nil => rfl
  | cons c w ih =>
    simp only [anyB, List.any_cons, Bool.or_eq_false_iff] at h
    rw [List.length_cons, List.replicate_succ, ← ih h.2]
    have : c = 0 := by simpa using h.1
    rw [this]
theorem anyB_yes {w : List UInt8} (h : anyB w = true) : w ≠ List.replicate w.length 0 := by
  intro e
  rw [e] at h
  simp [anyB] at h
end Go.Proofs.Ytmmljnkhiboaeaa
