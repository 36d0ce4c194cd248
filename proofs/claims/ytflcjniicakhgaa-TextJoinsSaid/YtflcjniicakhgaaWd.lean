/-
  The walks over Escape, Unescape.
-/
import Derived.Test.YtflcjniicakhgaaWc
import Derived.Deep.CutRange
namespace Go.Proofs.Ytflcjniicakhgaa
open Go.RowKit Go.Extern.Stop Go.Stop Go.Extern

theorem nums_bs (l : List UInt8) : strOfNums (l.map fun c => (c.toNat : Int)) = bs l := by
  unfold strOfNums bs
  rw [List.map_map]
  congr 2
  conv => rhs; rw [← List.map_id l]
  apply List.map_congr_left
  intro c _
  simp
/-- string(b): b the call's own bytes. -/
theorem buf_str {B : Nat} {w : World} {v : Value} {l : List UInt8} (h : Buf B w v l) : (convert 53 9 v).run Try.prog w = .ok (.string (bs l)) w := by
  have h' : w.ownsRow B 5 1 v l.length (cells l) := h
  obtain ⟨hn, hx⟩ := h'
  rcases hx with ⟨rfl, h0⟩ | ⟨g, cap, cur, rfl, _⟩
  · obtain rfl := List.eq_nil_of_length_eq_zero h0
    exact run_convert_bytes_nil (P := Try.prog) w 53 5 Try.underlying53 Try.underlying5 0 0 9 Try.underlying9
  · have hrun := run_convert_bytes_arg (P := Try.prog) w 53 5 Try.underlying53 Try.underlying5 g 0 l.length cap (l.map fun c => (c.toNat : Int)) (by simp) (fun i hi => by
      have hc := World.ownsRow.cellAt (show w.ownsRow B 5 1 _ _ _ from h) i (by omega)
      rw [Nat.zero_add, hc, cells_getD l i hi]
      simp [List.getD, hi]) 9 Try.underlying9
    rw [nums_bs] at hrun
    exact hrun
theorem conv_buf {ops : Array Oper} {rest : List Oper} {o : Oper} {a : Act} {w : World} {Q : Exit → Act → World → Prop} (hg : o.guard = none) (x : Operand) (hop : o.op = Op.convert 53 9 x)
    (B : Nat) (v : Value) (l : List UInt8) (hx : a.eval x = v) (hown : Buf B w v l) (hK : wpList Try.prog ops Q rest (a.put o.dst (.string (bs l))) w) : wpList Try.prog ops Q (o :: rest) a w := by
  refine wpList_said hg (.string (bs l)) w ?_ hK
  have := buf_str hown
  simp [execOp, hop, hx, this, Result.andThen]

/-- What Escape answers. -/
def escV (l : List UInt8) : Value := match Tp.wr l with
  | some x => .tuple #[.string (bs x), .nilIface]
  | none => .tuple #[.string (bs []), errno 11]
theorem escV_some {l x : List UInt8} (h : Tp.wr l = some x) : escV l = .tuple #[.string (bs x), .nilIface] := by unfold escV; rw [h]
theorem escV_none {l : List UInt8} (h : Tp.wr l = none) : escV l = .tuple #[.string (bs []), errno 11] := by unfold escV; rw [h]
theorem WrEnd.some {B : Nat} {l0 l x : List UInt8} {w w' : World} {e : Ending} (h : WrEnd B l0 l w e w') (hx : Tp.wr l = some x) :
    ∃ v', e = .returned (.tuple #[v', .nilIface]) ∧ Buf B w' v' (l0 ++ x) ∧ Below B w w' := by
  obtain ⟨hb, h⟩ := h
  rw [hx] at h
  obtain ⟨v', h1, h2⟩ := h
  exact ⟨v', h1, h2, hb⟩
theorem WrEnd.none {B : Nat} {l0 l : List UInt8} {w w' : World} {e : Ending} (h : WrEnd B l0 l w e w') (hx : Tp.wr l = none) :
    ∃ i, e = .returned (.tuple #[.slice none 0 0, badV i]) ∧ Below B w w' := by
  obtain ⟨hb, h⟩ := h
  rw [hx] at h
  obtain ⟨i, h1⟩ := h
  exact ⟨i, h1, hb⟩

set_option maxHeartbeats 1000000 in
theorem escape_any (l : List UInt8) (w : World) (hl : l.length ≤ 1000000) : Calls Try.prog 10 #[.string (bs l)] w fun e w' => e = .returned (escV l) ∧ Below w.heap.size w w' := by
  have W := hid (write_any w.heap.size (.slice none 0 0) [] l w (Nat.le_refl _) (buf_nil _ _) (by simp) hl)
  have FN := hid form_nil
  have FB := hid form_bad
  unfold badV at FB
  cases h : Tp.wr l with
  | some x =>
    have E := hid (escV_some h)
    go_enter Try.func10, Try.ntmps10
    go_wp2_with fail
    refine W.out.mono ?_
    intro e1 w1 hw
    obtain ⟨v', rfl, hbuf, hb⟩ := hw.some h
    clear hw h
    rw [List.nil_append] at hbuf
    have HBF := hid hbuf; clear hbuf
    have HB := hid hb; clear hb
    go_upto_region 2 with fail
    have cv := fun (s : Wl (Below w1.heap.size w1)) => buf_str (HBF.out.below s.h)
    refine wp_region_class (Below w1.heap.size w1) (by kernel_rfl) (by kernel_rfl) (Below.refl _ _).drew ?_
    repeat (go_big_quiet_step ((go_at_call 28; exact Wl.same (FN.out _))))
    refine wpQuiet_nil ?_
    intro w2 hb2
    clear cv
    go_wp2
    go_ret2
    exact ⟨by rw [E.out]; rfl, HB.out.trans (hb2.mono HB.out.size)⟩
  | none =>
    have E := hid (escV_none h)
    go_enter Try.func10, Try.ntmps10
    go_wp2_with fail
    refine W.out.mono ?_
    intro e1 w1 hw
    obtain ⟨i, rfl, hb⟩ := hw.none h
    clear hw h
    unfold badV
    have HB := hid hb; clear hb
    go_upto_region 2 with fail
    have cv := fun (s : Wl (Below w1.heap.size w1)) => buf_str (buf_nil 0 s.w)
    refine wp_region_class (Below w1.heap.size w1) (by kernel_rfl) (by kernel_rfl) (Below.refl _ _).drew ?_
    repeat (go_big_quiet_step ((go_at_call 28; exact Wl.below (Nat.le_refl _) (FB.out _ _))))
    refine wpQuiet_nil ?_
    intro w2 hb2
    clear cv
    go_wp2
    go_ret2
    exact ⟨by rw [E.out]; rfl, HB.out.trans (hb2.mono HB.out.size)⟩

/-- What Unescape answers. -/
def unV (l : List UInt8) : Value := match Tp.un l with
  | some x => .tuple #[.string (bs x), .nilIface]
  | none => .tuple #[.string (bs []), errno 11]
theorem unV_some {l x : List UInt8} (h : Tp.un l = some x) : unV l = .tuple #[.string (bs x), .nilIface] := by unfold unV; rw [h]
theorem unV_none {l : List UInt8} (h : Tp.un l = none) : unV l = .tuple #[.string (bs []), errno 11] := by unfold unV; rw [h]
theorem cell_byte {c : UInt8} {m : Nat} (h : c.toNat = m) : ([.int .u8 (m : Int)] : List Value) = cells [c] := by subst h; rfl

set_option maxHeartbeats 4000000 in
theorem unescape_any (l : List UInt8) (w : World) (hl : l.length ≤ 1000000) : Calls Try.prog 12 #[.string (bs l)] w fun e w' => e = .returned (unV l) ∧ Below w.heap.size w w' := by
  go_enter Try.func12, Try.ntmps12
  go_wp2
  go_loopw [4, 5] (fun b i wr => ∃ (k : Nat) (x : List UInt8), k ≤ l.length ∧ i = .int .i64 k ∧ Buf w.heap.size wr b x ∧ Read l k x ∧ Below w.heap.size w wr) (fun _ i _ => l.length - (intOf i).toNat)
  case atStart => exact ⟨0, [], by omega, rfl, buf_nil _ _, read_start l, Below.refl _ _⟩
  case round =>
    obtain ⟨k, x, hk, rfl, hbuf, hx, hbr⟩ := hrel
    have HO := hid hbuf; clear hbuf
    have hxl : x.length ≤ l.length := by have := hx.1; omega
    have HX := hid hx; clear hx
    have hBr := hbr.size
    by_cases hlt : k < l.length
    · obtain ⟨c, hc⟩ : ∃ c, l[k] = c := ⟨_, rfl⟩
      have S1 := hid (HX.out.one hlt)
      have S2 := hid (HX.out.bad hlt)
      have S3 := hid (fun h => HX.out.last hlt h)
      rw [hc] at S1 S2 S3
      rcases byte_kind3 c with ⟨h1, h2⟩ | ⟨h1, h2, h3⟩ | ⟨h1, h2, h3, h4⟩ | ⟨h1, h2, h3⟩ | ⟨h1, h2, h3, h4, h5, h6⟩
      · by_cases hlt2 : k + 1 < l.length
        · obtain ⟨d, hd⟩ : ∃ d, l[k + 1] = d := ⟨_, rfl⟩
          have S4' := hid (HX.out.bad2 hlt2 (hc.trans h1))
          have S5' := hid (fun (e : UInt8) => HX.out.two (e := e) hlt2 (hc.trans h1))
          rw [hd] at S4' S5'
          have ne : ((k : Int) + 1 == (l.length : Int)) = false := by simp; omega
          clear S1 S2 S3 h1
          rcases byte_kindD d with ⟨g1, g2⟩ | ⟨g1, g2⟩ | ⟨g1, g2, g3, g4, g5, g6⟩
          · have A := hid (S5'.out _ g1); clear g1 S4' S5'
            rcases g2 with g2 | g2
            all_goals
              go_wp2_with (at_builtin; refine app_bytes _ (by rfl) (.tmp 48) (.tmp 50) (by rfl) w.heap.size hBr _ _ (by rfl) HO.out 1 1 [10] rfl (by rfl) _ _ (by rfl) ?c1 ?_)
              case c1 => simp; omega
              intro v1 w1 ho1 hb1
              have HO1 := hid ho1; clear ho1
              go_wp2
              go_roundw
              case rel => exact ⟨k + 2, x ++ [10], by omega, by go_num, HO1.out, A.out, hbr.trans hb1⟩
              case measure => simp [intOf]; omega
          · have A := hid (S5'.out _ g1); clear g1 S4' S5'
            rcases g2 with g2 | g2 | g2
            all_goals
              have HC3 := cell_byte g2
              push_cast at HC3
              have HC2 := hid HC3
              clear HC3
              go_wp2_with (at_builtin; refine app_bytes _ (by rfl) (.tmp 48) (.tmp 50) (by rfl) w.heap.size hBr _ _ (by rfl) HO.out 1 1 [d] rfl (by rfl) _ _ HC2.out ?c1 ?_)
              case c1 => simp; omega
              intro v1 w1 ho1 hb1
              have HO1 := hid ho1; clear ho1
              go_wp2
              go_roundw
              case rel => exact ⟨k + 2, x ++ [d], by omega, by go_num, HO1.out, A.out, hbr.trans hb1⟩
              case measure => simp [intOf]; omega
          · have E := hid (unV_none (S4'.out g1)); clear g1 S4' S5'
            obtain ⟨n, hn⟩ : ∃ n, d.toNat = n := ⟨_, rfl⟩
            rw [hn] at g2 g3 g4 g5 g6
            have t1 : ((n : Int) == 110) = false := neB (by omega)
            have t2 : ((n : Int) == 78) = false := neB (by omega)
            have t4 : ((n : Int) == 92) = false := neB (by omega)
            have t5 : ((n : Int) == 59) = false := neB (by omega)
            have t6 : ((n : Int) == 44) = false := neB (by omega)
            go_wp2
            go_ret2
            exact ⟨by rw [E.out]; rfl, hbr⟩
        · have E := hid (unV_none (S3.out hlt2 h1))
          have ne : ((k : Int) + 1 == (l.length : Int)) = true := by simp; omega
          clear S1 S2 S3 h1
          go_wp2
          go_ret2
          exact ⟨by rw [E.out]; rfl, hbr⟩
      · have E := hid (unV_none (S2.out h1 h2)); clear h1 h2 S1 S2 S3
        go_wp2
        go_ret2
        exact ⟨by rw [E.out]; rfl, hbr⟩
      · have E := hid (unV_none (S2.out h1 h2)); clear h1 h2 S1 S2 S3
        obtain ⟨n, hn⟩ : ∃ n, c.toNat = n := ⟨_, rfl⟩
        rw [hn] at h3 h4
        have t2 : ((n : Int) != 9) = true := neT (by omega)
        have t4 : ((n : Int) == 92) = false := neB (by omega)
        go_wp2
        go_ret2
        exact ⟨by rw [E.out]; rfl, hbr⟩
      · have A := hid (S1.out h1 h2); clear h1 h2 S1 S2 S3
        have HC3 := cell_byte h3
        push_cast at HC3
        have HC2 := hid HC3
        clear HC3
        go_wp2_with (at_builtin; refine app_bytes _ (by rfl) (.tmp 48) (.tmp 50) (by rfl) w.heap.size hBr _ _ (by rfl) HO.out 1 1 [c] rfl (by rfl) _ _ HC2.out ?c1 ?_)
        case c1 => simp; omega
        intro v1 w1 ho1 hb1
        have HO1 := hid ho1; clear ho1
        go_wp2
        go_roundw
        case rel => exact ⟨k + 1, x ++ [c], by omega, by go_num, HO1.out, A.out, hbr.trans hb1⟩
        case measure => simp [intOf]; omega
      · have A := hid (S1.out h1 h2); clear h1 h2 S1 S2 S3
        obtain ⟨n, hn⟩ : ∃ n, c.toNat = n := ⟨_, rfl⟩
        have HC2 := hid (cell_byte hn)
        rw [hn] at h3 h4 h5 h6
        have t2 : ((n : Int) != 9) = true := neT (by omega)
        have t3 : ((n : Int) == 127) = false := neB (by omega)
        have t4 : ((n : Int) == 92) = false := neB (by omega)
        go_wp2_with (at_builtin; refine app_bytes _ (by rfl) (.tmp 48) (.tmp 50) (by rfl) w.heap.size hBr _ _ (by rfl) HO.out 1 1 [c] rfl (by rfl) _ _ HC2.out ?c1 ?_)
        case c1 => simp; omega
        intro v1 w1 ho1 hb1
        have HO1 := hid ho1; clear ho1
        go_wp2
        go_roundw
        case rel => exact ⟨k + 1, x ++ [c], by omega, by go_num, HO1.out, A.out, hbr.trans hb1⟩
        case measure => simp [intOf]; omega
    · have E := hid (unV_some (HX.out.end hlt))
      go_wp2_with (with_reducible refine conv_buf rfl (.tmp 52) rfl _ _ _ rfl HO.out ?_)
      go_ret2
      exact ⟨by rw [E.out]; rfl, hbr⟩
end Go.Proofs.Ytflcjniicakhgaa
