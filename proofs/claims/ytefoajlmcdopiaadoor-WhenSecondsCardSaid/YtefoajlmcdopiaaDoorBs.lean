/-
  Strings as lists of bytes, in the walk's own spelling; slices of strings; small words that all walks of this seat share.
-/
import Derived.Test.YtefoajlmcdopiaaDoorRows
import Derived.WalkKit
import Derived.WalkSpells
import Derived.WalkLawsBesides
import Derived.Handy
import Derived.Lib.AppendStr
namespace Go.Proofs.YtefoajlmcdopiaaDoor
open Go.RowKit

theorem hid {p : Prop} (h : p) : Hid p := h

/-- Bytes as a string. -/
def bs (l : List UInt8) : ByteArray := ⟨l.toArray⟩
theorem bs_data (l : List UInt8) : (bs l).data.toList = l := by simp [bs]
theorem bs_of (s : ByteArray) : ∃ l, s = bs l := ⟨s.data.toList, by cases s; simp [bs]⟩
theorem bs_inj {a b : List UInt8} (h : bs a = bs b) : a = b := by rw [← bs_data a, h, bs_data]
theorem bs_str {a b : List UInt8} (h : a = b) : Value.string (bs a) = .string (bs b) := by rw [h]
theorem bs_nil : ByteArray.empty = bs [] := rfl
theorem bs_lit (a : Array UInt8) : ByteArray.mk a = bs a.toList := by simp [bs]
@[go_sem] theorem bs_size (l : List UInt8) : (bs l).size = l.length := by simp [bs, ByteArray.size]
@[go_sem] theorem bs_append (a b : List UInt8) : bs a ++ bs b = bs (a ++ b) := ByteArray.mk_append_mk a b
@[go_sem] theorem bs_extract (l : List UInt8) (a b : Nat) : (bs l).extract a b = bs ((l.drop a).take (b - a)) := ByteArray.extract_mk l a b
@[go_sem] theorem bs_toList (l : List UInt8) : (bs l).toList = l := by simp [bs]
@[go_sem] theorem bs_get (l : List UInt8) (i : Nat) (h : i < (bs l).size) : (bs l)[i]'h = l[i]'(by rw [bs_size] at h; exact h) := by
  simp [bs, ByteArray.getElem_eq_getElem_data]

/-- The strings of a slice lie there. -/
def Strs (w : World) (a : Option Addr) (ss : List (List UInt8)) : Prop :=
  ∀ j, j < ss.length → ∃ b off, a = some ⟨b, off, none⟩ ∧ w.cell? ⟨b, off + j, none⟩ = some (.string (bs (ss.getD j [])))
theorem Strs.at {w : World} {b off : Nat} {ss : List (List UInt8)} (h : Strs w (some ⟨b, off, none⟩) ss) (j : Nat) (hj : j < ss.length) :
    w.cell? ⟨b, off + j, none⟩ = some (.string (bs (ss.getD j []))) := by
  obtain ⟨b', off', h, hx⟩ := h j hj
  simp at h; obtain ⟨rfl, rfl⟩ := h; exact hx
theorem getD_all {p : List UInt8 → Prop} {ss : List (List UInt8)} (h : ∀ s ∈ ss, p s) (h0 : p []) (j : Nat) : p (ss.getD j []) := by
  by_cases hj : j < ss.length
  · have : ss.getD j [] = ss[j] := by simp [List.getD, hj]
    rw [this]; exact h _ (List.getElem_mem hj)
  · have : ss.getD j [] = [] := by simp [List.getD, List.getElem?_eq_none (Nat.le_of_not_lt hj)]
    rw [this]; exact h0
theorem ret_bool {a b : Bool} (h : a = b) : Ending.returned (.bool a) = .returned (.bool b) := by rw [h]
theorem ret_int {k : IntKind} {a b : Int} (h : a = b) : Ending.returned (.int k a) = .returned (.int k b) := by rw [h]
theorem ret_str {a b : List UInt8} (h : a = b) : Ending.returned (.string (bs a)) = .returned (.string (bs b)) := by rw [h]
theorem take_snoc {α : Type} (l : List α) (k : Nat) (h : k < l.length) : l.take (k + 1) = l.take k ++ [l[k]] := List.take_succ_eq_append_getElem h
theorem take_snoc_getD {α : Type} (l : List α) (d : α) (k : Nat) (h : k < l.length) : l.take (k + 1) = l.take k ++ [l.getD k d] := by
  rw [take_snoc l k h]; simp [List.getD, h]
/-- All cells and marks that were there are as they were. -/
theorem bcell {W w1 : World} (hb : Below W.heap.size W w1) : (∀ b o, b < W.heap.size → w1.cell? ⟨b, o, none⟩ = W.cell? ⟨b, o, none⟩) ∧ (∀ b o, b < W.heap.size → w1.frozen? ⟨b, o, none⟩ = W.frozen? ⟨b, o, none⟩) :=
  ⟨fun b o h => hb.cell (p := ⟨b, o, none⟩) h, fun b o h => hb.frozen (p := ⟨b, o, none⟩) h⟩
/-- string(b): b a slice whose bytes lie there. -/
theorem wpList_bytes_str {P : Program} (w : World) {ops : Array Oper} {rest : List Oper} {o : Oper} {a : Act} {Q : Exit → Act → World → Prop} (hg : o.guard = none) (x : Operand) (src dst e : TypeId)
    (hop : o.op = Op.convert src dst x) (h1 : P.underlying src = some (.slice e)) (h2 : P.underlying e = some (.int .u8)) (h3 : P.underlying dst = some .string)
    (b off len cap : Nat) (hx : a.eval x = .slice (some ⟨b, off, none⟩) len cap) (l : List UInt8) (hl : l.length = len) (hc : ∀ j, j < len → w.cell? ⟨b, off + j, none⟩ = some (.int .u8 (l.getD j 0).toNat))
    (hK : wpList P ops Q rest (a.put o.dst (.string (bs l))) w) : wpList P ops Q (o :: rest) a w := by
  have hrun := run_convert_bytes_arg (P := P) w src e h1 h2 b off len cap (l.map fun c => (c.toNat : Int)) (by simpa using hl) (fun i hi => by
    rw [hc i hi]; simp [List.getD, show i < l.length by omega]) dst h3
  have hs : strOfNums (l.map fun c => (c.toNat : Int)) = bs l := by
    unfold strOfNums bs
    rw [List.map_map]
    congr 2
    conv => rhs; rw [← List.map_id l]
    apply List.map_congr_left
    intro c _
    simp
  rw [hs] at hrun
  refine wpList_plain hg fun K hK' => ?_
  unfold Oper.wp
  simp [execOp, hop, hx, hrun, Result.andThen]
  exact hK' _ _ hK
theorem wpList_bytes_none {P : Program} (w : World) {ops : Array Oper} {rest : List Oper} {o : Oper} {a : Act} {Q : Exit → Act → World → Prop} (hg : o.guard = none) (x : Operand) (src dst e : TypeId)
    (hop : o.op = Op.convert src dst x) (h1 : P.underlying src = some (.slice e)) (h2 : P.underlying e = some (.int .u8)) (h3 : P.underlying dst = some .string)
    (len cap : Nat) (hx : a.eval x = .slice none len cap) (hK : wpList P ops Q rest (a.put o.dst (.string (bs []))) w) : wpList P ops Q (o :: rest) a w := by
  have hrun := run_convert_bytes_nil (P := P) w src e h1 h2 len cap dst h3
  refine wpList_plain hg fun K hK' => ?_
  unfold Oper.wp
  simp [execOp, hop, hx, hrun, Result.andThen]
  exact hK' _ _ hK

/-- Bytes as cells. -/
def cells (l : List UInt8) : List Value := l.map fun c => Value.int .u8 c.toNat
theorem cells_length (l : List UInt8) : (cells l).length = l.length := by simp [cells]
theorem cells_append (a b : List UInt8) : cells (a ++ b) = cells a ++ cells b := by simp [cells]
theorem cells_bs (l : List UInt8) : Lib.strCells (bs l) = cells l := by simp [Lib.strCells, cells, bs_data]
theorem cells_getD (l : List UInt8) (j : Nat) (h : j < l.length) : (cells l)[j]? = some (.int .u8 (l.getD j 0).toNat) := by simp [cells, List.getD, h]
/-- string(b): b nil, or the call's own. -/
theorem wpList_own_str {P : Program} (w : World) {ops : Array Oper} {rest : List Oper} {o : Oper} {a : Act} {Q : Exit → Act → World → Prop} (hg : o.guard = none) (x : Operand) (src dst e : TypeId)
    (hop : o.op = Op.convert src dst x) (h1 : P.underlying src = some (.slice e)) (h2 : P.underlying e = some (.int .u8)) (h3 : P.underlying dst = some .string)
    (v : Value) (hx : a.eval x = v) (B n : Nat) (l : List UInt8) (hown : w.ownsRow B e 1 v n (cells l))
    (hK : wpList P ops Q rest (a.put o.dst (.string (bs l))) w) : wpList P ops Q (o :: rest) a w := by
  have hown' := hown
  obtain ⟨hn, h | ⟨g, cap, cur, hv, hB, hblk, hcap, hmax, hsz, htake⟩⟩ := hown
  · obtain ⟨rfl, rfl⟩ := h
    have hl : l = [] := by simpa [cells] using hn
    subst hl
    exact wpList_bytes_none w hg x src dst e hop h1 h2 h3 0 0 hx hK
  · subst hv
    rw [cells_length, Nat.mul_one] at hn
    refine wpList_bytes_str w hg x src dst e hop h1 h2 h3 g 0 n cap hx l hn (fun j hj => ?_) hK
    have := hown'.cellAt j (by omega)
    rw [Nat.zero_add, this, cells_getD l j (by omega)]

/-- What an operation's run is, said by the caller. -/
theorem wpList_said {P : Program} {ops : Array Oper} {rest : List Oper} {o : Oper} {a : Act} {w : World} {Q : Exit → Act → World → Prop} (hg : o.guard = none)
    (v : Value) (w' : World) (hrun : (execOp a.eval o).run P w = .ok (.value v) w')
    (h : wpList P ops Q rest (a.put o.dst v) w') : wpList P ops Q (o :: rest) a w := by
  refine wpList_plain hg fun K hK => ?_
  unfold Oper.wp
  rw [hrun, Oper.upon_value]
  exact hK _ _ h
end Go.Proofs.YtefoajlmcdopiaaDoor
