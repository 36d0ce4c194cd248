/-
  The walk over frame.Scan.
-/
import Derived.Test.YtmmljnkhiboaeaaWg
import Derived.Test.YtmmljnkhiboaeaaWh
namespace Go.Proofs.Ytmmljnkhiboaeaa
open Go.RowKit

theorem info9 : (Try.prog.info? 9).map (fun i => (i.zero, i.size, i.bytes)) = some (some (.string ⟨#[]⟩), 1, 16) := by kernel_rfl
/-- Strings as cells. -/
def rows (ss : List (List UInt8)) : List Value := ss.map fun s => Value.string (bs s)
theorem rows_snoc (ss : List (List UInt8)) (s : List UInt8) : rows (ss ++ [s]) = rows ss ++ [.string (bs s)] := by simp [rows]
def strLen : Value → Nat | .string s => s.size | _ => 0
theorem own_strs {w : World} {B : Nat} {e : TypeId} {v : Value} {n : Nat} {ss : List (List UInt8)} (h : w.ownsRow B e 1 v n (rows ss)) :
    ∃ a cap, v = .slice a ss.length cap ∧ Strs w a ss := by
  have h' := h
  obtain ⟨hn, hx⟩ := h
  have hn' : ss.length = n := by simpa [rows] using hn
  rcases hx with ⟨rfl, rfl⟩ | ⟨g, cap, cur, rfl, h1, h2, h3⟩
  · refine ⟨none, 0, by rw [hn'], ?_⟩
    intro j hj; omega
  · refine ⟨some ⟨g, 0, none⟩, cap, by rw [hn'], ?_⟩
    intro j hj
    refine ⟨g, 0, rfl, ?_⟩
    have := h'.cellAt j (by omega)
    rw [Nat.zero_add, this]
    simp [rows, List.getD, hj]
/-- How a scan ends. -/
def ScanEnd (s : List UInt8) (w : World) (e : Ending) (w' : World) : Prop :=
  ∃ a cap, e = .returned (.tuple #[.slice a (Fp.scan s).length cap, .int .i64 (Fp.size (Fp.scan s))]) ∧ Strs w' a (Fp.scan s) ∧ Below w.heap.size w w'
theorem scan_end {s : List UInt8} {w w' : World} {v : Value} {n : Nat} {done : List (List UInt8)} {z : Int} (ho : w'.ownsRow w.heap.size 9 1 v n (rows done)) (hd : Fp.scan s = done) (hz : z = Fp.size done) (hb : Below w.heap.size w w') :
    ScanEnd s w (.returned (.tuple #[v, .int .i64 z])) w' := by
  obtain ⟨a, cap, rfl, hs⟩ := own_strs ho
  subst hd; subst hz
  exact ⟨a, cap, rfl, hs, hb⟩
/-- The same, and how much room the slice has. -/
def ScanEnd2 (s : List UInt8) (w : World) (e : Ending) (w' : World) : Prop :=
  ∃ a cap, e = .returned (.tuple #[.slice a (Fp.scan s).length cap, .int .i64 (Fp.size (Fp.scan s))]) ∧ Strs w' a (Fp.scan s) ∧ Below w.heap.size w w' ∧ (Fp.scan s).length ≤ cap
theorem own_room {w : World} {B : Nat} {e : TypeId} {v : Value} {n : Nat} {xs : List Value} (h : w.ownsRow B e 1 v n xs) : ∀ a len cap, v = .slice a len cap → len ≤ cap := by
  intro a len cap hv
  obtain ⟨hn, hx⟩ := h
  rcases hx with ⟨h1, h2⟩ | ⟨g, c, cur, h1, h2, h3, h4, h5⟩
  · rw [h1] at hv; cases hv; omega
  · rw [h1] at hv; cases hv; omega
theorem scan_end2 {s : List UInt8} {w w' : World} {v : Value} {n : Nat} {done : List (List UInt8)} {z : Int} (ho : w'.ownsRow w.heap.size 9 1 v n (rows done)) (hd : Fp.scan s = done) (hz : z = Fp.size done) (hb : Below w.heap.size w w') :
    ScanEnd2 s w (.returned (.tuple #[v, .int .i64 z])) w' := by
  obtain ⟨a, cap, rfl, hs⟩ := own_strs ho
  subst hd; subst hz
  exact ⟨a, cap, rfl, hs, hb, own_room ho _ _ _ rfl⟩
theorem size_ge (ss : List (List UInt8)) : ss.length ≤ Fp.size ss := by
  rw [size_all]; omega

set_option maxHeartbeats 2000000 in
theorem scan_any2 (s : List UInt8) (w : World) (hs : s.length ≤ 1000000) : Calls Try.prog 15 #[.string (bs s)] w (ScanEnd2 s w) := by
  obtain ⟨i0, hi, hz0, hz1, hz2⟩ := info_parts info9
  go_enter Try.func15, Try.ntmps15
  go_wp2
  go_loopw [4, 5] (fun v r wr => ∃ (done : List (List UInt8)) (t : List UInt8), r = .string (bs t) ∧ wr.ownsRow w.heap.size 9 1 v done.length (rows done) ∧ Fp.scan s = done ++ Fp.scan t ∧ Fp.size done + t.length = s.length ∧ Below w.heap.size w wr) (fun _ r _ => strLen r)
  case atStart => exact ⟨[], s, rfl, World.ownsRow_nil _ _ _ _, rfl, by simp [Fp.size], Below.refl _ _⟩
  case round =>
    obtain ⟨done, t, rfl, hown, hscan, hsize, hbel⟩ := hrel
    have htl : t.length ≤ s.length := by omega
    have hdl := size_ge done
    have hdl2 : done.length ≤ 1000000 := by omega
    have HO := hid hown; clear hown
    have HSC := hid hscan; clear hscan
    have HSZ := hid hsize; clear hsize
    cases hone : Fp.one t with
    | none =>
      have HSN := hid (Fp.scan_none hone)
      have HN := hid hone; clear hone
      go_wp2_with fail
      refine (one_none t _ (by omega) HN.out).mono ?_
      rintro e w1 ⟨he, hb1⟩
      have ho1 := hid (own_below HO.out hb1)
      have hb1' := hbel.trans (hb1.mono hbel.size)
      rcases he with rfl | rfl
      · go_wp2_with fail
        refine (is_cut_no 4 11 _ rfl).mono ?_
        rintro e w2 ⟨rfl, hb2⟩
        have ho2 := hid (own_below ho1.out hb2)
        have hb2' := hb1'.trans (hb2.mono hb1'.size)
        go_wp2_with fail
        refine (is_cut_yes 4 _).mono ?_
        rintro e w3 ⟨rfl, hb3⟩
        have ho3 := hid (own_below ho2.out hb3)
        have hb3' := hb2'.trans (hb3.mono hb2'.size)
        go_wp2
        go_ret2
        exact scan_end2 ho3.out (by rw [HSC.out, HSN.out]; simp) (by have := HSZ.out; omega) hb3'
      · go_wp2_with fail
        refine (is_cut_yes 11 _).mono ?_
        rintro e w2 ⟨rfl, hb2⟩
        have ho2 := hid (own_below ho1.out hb2)
        have hb2' := hb1'.trans (hb2.mono hb1'.size)
        go_wp2
        go_ret2
        exact scan_end2 ho2.out (by rw [HSC.out, HSN.out]; simp) (by have := HSZ.out; omega) hb2'
    | some r =>
      have HSN := hid (Fp.scan_some hone)
      have hrl := Fp.one_len hone
      have HN := hid hone; clear hone
      go_wp2_with fail
      refine (one_some t r _ (by omega) HN.out).mono ?_
      rintro e w1 ⟨rfl, hb1⟩
      have ho1 := hid (own_below HO.out hb1)
      have hb1' := hbel.trans (hb1.mono hbel.size)
      go_wp2_with fail
      refine (is_nil 11 _).mono ?_
      rintro e w2 ⟨rfl, rfl⟩
      go_wp2_with fail
      refine (is_nil 4 _).mono ?_
      rintro e w2 ⟨rfl, rfl⟩
      have hB := hb1'.size
      go_wp2_with (at_builtin; refine wpList_append_own _ rfl _ _ 22 rfl w.heap.size 9 i0 (.string ⟨#[]⟩) 1 16 Try.underlying22 hi hz0 hz1 hz2 rfl (by decide) _ _ _ rfl (ho1.out.alloc _) ⟨w1.heap.size, 0, none⟩ 1 1 [.string (bs r)] rfl rfl ?c1 ?c2 ?c3 ?c4 ?c5 ?_)
      case c1 => exact cell_one_new _ _ _
      case c2 => intro u hu; simp at hu; subst hu; rfl
      case c3 => unfold maxLen; omega
      case c4 => omega
      case c5 => simp; omega
      intro v' w3 ho3 hg3 _
      have hb3 := below_grown (hb1'.alloc hB _) (ho1.out.alloc _) hg3
      have HO3 := hid ho3; clear ho3 hg3
      go_wp2
      go_roundw
      case rel => exact ⟨done ++ [r], t.drop (7 + r.length), rfl, by
        have := HO3.out; rw [← rows_snoc] at this; simpa using this, by rw [HSC.out, HSN.out]; simp, by
        rw [Fp.size_append]; have := HSZ.out; simp [Fp.size]; omega, hb3⟩
      case measure => simp [strLen, bs_size]; omega
theorem scan_any (s : List UInt8) (w : World) (hs : s.length ≤ 1000000) : Calls Try.prog 15 #[.string (bs s)] w (ScanEnd s w) :=
  (scan_any2 s w hs).mono fun _ _ ⟨a, cap, h1, h2, h3, _⟩ => ⟨a, cap, h1, h2, h3⟩
end Go.Proofs.Ytmmljnkhiboaeaa
