/-
  The walks over List: the program's, and the reference's.
-/
import Derived.Test.YtflcjniicakhgaaWe
import Derived.Stop.IfaceNil
namespace Go.Proofs.Ytflcjniicakhgaa
open Go.RowKit Go.Extern.Stop Go.Stop Go.Extern

theorem neq_nil (u : TypeId) (x : Value) (w : World) : (binOp .neq 24 (.iface u x) .nilIface).run Try.prog w = .ok (.bool true) w := run_neq_iface_nil w 24 (by kernel_rfl) u x
theorem total_take_le (ss : List (List UInt8)) (k : Nat) : Tp.total (ss.take k) ≤ Tp.total ss := by
  have : Tp.total ss = Tp.total (ss.take k) + Tp.total (ss.drop k) := by
    unfold Tp.total
    rw [← List.sum_append, ← List.map_append, List.take_append_drop]
  omega
theorem total_snoc (ss : List (List UInt8)) (k : Nat) (h : k < ss.length) : Tp.total (ss.take (k + 1)) = Tp.total (ss.take k) + (ss.getD k []).length := by
  rw [take_snoc_getD ss [] k h]
  unfold Tp.total
  simp
theorem getD_total (ss : List (List UInt8)) (k : Nat) : (ss.getD k []).length ≤ Tp.total ss := by
  by_cases h : k < ss.length
  · have : ss.getD k [] = ss[k] := by simp [List.getD, h]
    rw [this]; exact Tp.mem_total (List.getElem_mem h)
  · have : ss.getD k [] = [] := by simp [List.getD, List.getElem?_eq_none (Nat.le_of_not_lt h)]
    rw [this]; simp
theorem allSome_snoc {α β : Type} {f : α → Option β} {ss : List α} {d : α} {k : Nat} (h : k < ss.length) {ws : List β} {y : β} (hw : Tp.allSome f (ss.take k) = some ws) (hy : f (ss.getD k d) = some y) :
    Tp.allSome f (ss.take (k + 1)) = some (ws ++ [y]) := by
  rw [take_snoc_getD ss d k h, Tp.allSome_append, hw]
  simp only [Tp.allSome, hy]
theorem allSome_bad {α β : Type} {f : α → Option β} {ss : List α} {d : α} {k : Nat} (h : k < ss.length) (hy : f (ss.getD k d) = none) : Tp.allSome f ss = none := by
  have e : ss = ss.take (k + 1) ++ ss.drop (k + 1) := (List.take_append_drop _ _).symm
  have h0 : Tp.allSome f (ss.take (k + 1)) = none := by
    rw [take_snoc_getD ss d k h, Tp.allSome_append]
    simp only [Tp.allSome, hy]
    cases Tp.allSome f (ss.take k) <;> rfl
  rw [e, Tp.allSome_append, h0]
theorem joined_snoc {s : UInt8} {ws : List (List UInt8)} (h : ws ≠ []) (y : List UInt8) : Tp.joined s (ws ++ [y]) = Tp.joined s ws ++ [s] ++ y := by
  rw [Tp.joined_append h (by simp)]; simp [Tp.joined]

/-- k parts are written behind one another. -/
def JoinAt (ss : List (List UInt8)) (k : Nat) (x : List UInt8) : Prop :=
  ∃ ws, Tp.allSome Tp.wr (ss.take k) = some ws ∧ x = Tp.joined 44 ws ∧ x.length ≤ 2 * Tp.total (ss.take k) + k
theorem joinAt_start (ss : List (List UInt8)) : JoinAt ss 0 [] := ⟨[], rfl, rfl, by simp⟩
theorem JoinAt.len {ss : List (List UInt8)} {k : Nat} {x : List UInt8} (h : JoinAt ss k x) : x.length ≤ 2 * Tp.total ss + k := by
  obtain ⟨_, _, _, h⟩ := h
  have := total_take_le ss k
  omega
theorem JoinAt.first {ss : List (List UInt8)} {x y : List UInt8} (h : JoinAt ss 0 x) (hk : 0 < ss.length) (hy : Tp.wr (ss.getD 0 []) = some y) : JoinAt ss 1 (x ++ y) := by
  obtain ⟨ws, h1, rfl, h3⟩ := h
  simp only [List.take_zero, Tp.allSome] at h1
  cases h1
  refine ⟨[y], allSome_snoc (f := Tp.wr) (d := []) (k := 0) hk rfl hy, by simp [Tp.joined], ?_⟩
  have := (Tp.wr_len hy).2
  rw [total_snoc ss 0 hk]
  simp only [Tp.joined, List.nil_append]
  omega
theorem JoinAt.next {ss : List (List UInt8)} {k : Nat} {x y : List UInt8} (h : JoinAt ss k x) (h0 : 0 < k) (hk : k < ss.length) (hy : Tp.wr (ss.getD k []) = some y) : JoinAt ss (k + 1) (x ++ [44] ++ y) := by
  obtain ⟨ws, h1, rfl, h3⟩ := h
  have hne : ws ≠ [] := by
    rintro rfl
    have := Tp.allSome_len h1
    simp at this; omega
  refine ⟨ws ++ [y], allSome_snoc hk h1 hy, (joined_snoc hne y).symm, ?_⟩
  have := (Tp.wr_len hy).2
  rw [total_snoc ss k hk]
  simp only [List.length_append, List.length_cons, List.length_nil]
  omega
theorem JoinAt.end {ss : List (List UInt8)} {k : Nat} {x : List UInt8} (h : JoinAt ss k x) (hk : k ≤ ss.length) (h2 : ¬ k < ss.length) (h0 : 0 < ss.length) : Tp.list ss = some x := by
  obtain ⟨ws, h1, rfl, _⟩ := h
  rw [List.take_of_length_le (by omega)] at h1
  unfold Tp.list
  rw [if_neg (by rintro rfl; simp at h0), h1]; rfl
theorem list_bad {ss : List (List UInt8)} {k : Nat} (hk : k < ss.length) (hy : Tp.wr (ss.getD k []) = none) : Tp.list ss = none := by
  unfold Tp.list
  split
  · rfl
  · rw [allSome_bad hk hy]; rfl

/-- What List answers. -/
def listV (ss : List (List UInt8)) : Value := match Tp.list ss with
  | some x => .tuple #[.string (bs x), .nilIface]
  | none => .tuple #[.string (bs []), errno 11]
theorem listV_some {ss : List (List UInt8)} {x : List UInt8} (h : Tp.list ss = some x) : listV ss = .tuple #[.string (bs x), .nilIface] := by unfold listV; rw [h]
theorem listV_none {ss : List (List UInt8)} (h : Tp.list ss = none) : listV ss = .tuple #[.string (bs []), errno 11] := by unfold listV; rw [h]
def rlistV (ss : List (List UInt8)) : Value := match Tp.list ss with
  | some x => .tuple #[.string (bs x), .int .i64 0]
  | none => .tuple #[.string (bs []), .int .i64 11]
theorem rlistV_some {ss : List (List UInt8)} {x : List UInt8} (h : Tp.list ss = some x) : rlistV ss = .tuple #[.string (bs x), .int .i64 0] := by unfold rlistV; rw [h]
theorem rlistV_none {ss : List (List UInt8)} (h : Tp.list ss = none) : rlistV ss = .tuple #[.string (bs []), .int .i64 11] := by unfold rlistV; rw [h]

set_option maxHeartbeats 4000000 in
theorem list_any (v : Value) (ss : List (List UInt8)) (w : World) (hR : Rd w v ss) (hT : Tp.total ss + ss.length ≤ 1000000) :
    Calls Try.prog 16 #[v] w fun e w' => e = .returned (listV ss) ∧ Below w.heap.size w w' := by
  by_cases h0 : ss.length = 0
  · obtain ⟨a, cap, rfl⟩ := hR.none h0
    have E := hid (listV_none (ss := ss) (by unfold Tp.list; rw [if_pos (List.eq_nil_of_length_eq_zero h0)]))
    clear hR h0 hT
    go_enter Try.func16, Try.ntmps16
    go_wp2
    go_ret2
    exact ⟨by rw [E.out]; rfl, Below.refl _ _⟩
  · obtain ⟨b, off, cap, rfl, hb, hc⟩ := hR.form (by omega)
    have HC := hid hc; clear hc hR
    have H0 := hid h0
    have ne : ((ss.length : Int) == 0) = false := neB (by omega)
    have FB := hid form_bad
    unfold badV at FB
    clear h0
    go_enter Try.func16, Try.ntmps16
    go_wp2
    go_loopw [4, 14] (fun v i wr => ∃ (k : Nat) (x : List UInt8), k ≤ ss.length ∧ i = .int .i64 k ∧ Buf w.heap.size wr v x ∧ JoinAt ss k x ∧ Below w.heap.size w wr) (fun _ i _ => ss.length - (intOf i).toNat)
    case atStart => exact ⟨0, [], by omega, rfl, buf_nil _ _, joinAt_start ss, Below.refl _ _⟩
    case round =>
      obtain ⟨k, x, hk, rfl, hbuf, hj, hbr⟩ := hrel
      have HO := hid hbuf; clear hbuf
      have hxl := hj.len
      have HJ := hid hj; clear hj
      have hBr := hbr.size
      by_cases hlt : k < ss.length
      · have cl := (hbr.cell (p := ⟨b, off + k, none⟩) hb).trans (HC.out k hlt)
        have ll := getD_total ss k
        have BAD := hid (fun h => listV_none (list_bad hlt h))
        have J0 := hid (fun (y : List UInt8) (h : k = 0) (hy : Tp.wr (ss.getD k []) = some y) => show JoinAt ss 1 (x ++ y) by subst h; exact HJ.out.first hlt hy)
        have J1 := hid (fun (y : List UInt8) (h : 0 < k) (hy : Tp.wr (ss.getD k []) = some y) => HJ.out.next h hlt hy)
        obtain ⟨p, hp⟩ : ∃ p, p = ss.getD k [] := ⟨_, rfl⟩
        rw [← hp] at cl ll BAD J0 J1
        clear hp
        by_cases hz : k = 0
        · have J := hid (fun y hy => J0.out y hz hy)
          subst hz
          rw [Nat.add_zero] at cl
          clear J0 J1
          go_wp2_with fail
          refine (write_any w.heap.size _ x p _ hBr HO.out (by omega) (by omega)).mono ?_
          intro e1 w1 hw
          cases hp : Tp.wr p with
          | some y =>
            obtain ⟨v1, rfl, hbuf, hb1⟩ := hw.some hp
            have HB1 := hid hbuf
            have J2 := hid (J.out y hp)
            clear hw hp hbuf
            go_wp2
            go_roundw
            case rel => exact ⟨1, x ++ y, by omega, rfl, HB1.out, J2.out, hbr.trans hb1⟩
            case measure => simp [intOf]; omega
          | none =>
            obtain ⟨i, rfl, hb1⟩ := hw.none hp
            have E := hid (BAD.out hp)
            clear hw hp
            unfold badV
            have nn := fun w => neq_nil 64 (.agg #[.int .i64 i]) w
            go_wp2_with fail
            refine (FB.out _ _).mono ?_
            rintro e2 w2 ⟨rfl, hb2⟩
            go_wp2
            go_ret2
            exact ⟨by rw [E.out]; rfl, (hbr.trans hb1).trans (hb2.mono (hbr.trans hb1).size)⟩
        · have hz0 : 0 < k := by omega
          have J := hid (fun y hy => J1.out y hz0 hy)
          clear J0 J1 hz
          go_wp2_with (at_builtin; refine app_bytes _ (by rfl) (.tmp 21) (.tmp 22) (by rfl) w.heap.size hBr _ _ (by rfl) HO.out 1 1 [44] rfl (by rfl) _ _ (by rfl) ?c1 ?_)
          case c1 => simp; omega
          intro v0 w0 ho0 hb0
          have HO0 := hid ho0; clear ho0
          have hB0 : w.heap.size ≤ w0.heap.size := Nat.le_trans hBr hb0.size
          have hbr0 := hbr.trans hb0
          go_wp2_with fail
          refine (write_any w.heap.size _ (x ++ [44]) p _ hB0 HO0.out (by simp; omega) (by omega)).mono ?_
          intro e1 w1 hw
          cases hp : Tp.wr p with
          | some y =>
            obtain ⟨v1, rfl, hbuf, hb1⟩ := hw.some hp
            have HB1 := hid hbuf
            have J2 := hid (J.out y hp)
            clear hw hp hbuf
            go_wp2
            go_roundw
            case rel => exact ⟨k + 1, x ++ [44] ++ y, by omega, by go_num, HB1.out, J2.out, hbr0.trans hb1⟩
            case measure => simp [intOf]; omega
          | none =>
            obtain ⟨i, rfl, hb1⟩ := hw.none hp
            have E := hid (BAD.out hp)
            clear hw hp
            unfold badV
            have nn := fun w => neq_nil 64 (.agg #[.int .i64 i]) w
            go_wp2_with fail
            refine (FB.out _ _).mono ?_
            rintro e2 w2 ⟨rfl, hb2⟩
            go_wp2
            go_ret2
            exact ⟨by rw [E.out]; rfl, (hbr0.trans hb1).trans (hb2.mono (hbr0.trans hb1).size)⟩
      · have E := hid (listV_some (HJ.out.end hk hlt (by have := H0.out; omega)))
        go_wp2_with (with_reducible refine conv_buf rfl (.tmp 35) rfl _ _ _ rfl HO.out ?_)
        go_ret2
        exact ⟨by rw [E.out]; rfl, hbr⟩

set_option maxHeartbeats 2000000 in
theorem rlist_any (v : Value) (ss : List (List UInt8)) (w : World) (hR : Rd w v ss) (hT : Tp.total ss + ss.length ≤ 1000000) :
    Calls Try.prog 17 #[v] w fun e w' => e = .returned (rlistV ss) ∧ w = w' := by
  by_cases h0 : ss.length = 0
  · obtain ⟨a, cap, rfl⟩ := hR.none h0
    have E := hid (rlistV_none (ss := ss) (by unfold Tp.list; rw [if_pos (List.eq_nil_of_length_eq_zero h0)]))
    clear hR h0 hT
    go_enter Try.func17, Try.ntmps17
    go_wp2
    go_ret2
    exact ⟨by rw [E.out]; rfl, rfl⟩
  · obtain ⟨b, off, cap, rfl, hb, hc⟩ := hR.form (by omega)
    have HC := hid hc; clear hc hR
    have H0 := hid h0
    have ne : ((ss.length : Int) == 0) = false := neB (by omega)
    clear h0
    go_enter Try.func17, Try.ntmps17
    go_wp2
    go_loop [4, 5] (fun s i => ∃ (k : Nat) (x : List UInt8), k ≤ ss.length ∧ i = .int .i64 k ∧ s = .string (bs x) ∧ JoinAt ss k x) (fun _ i => ss.length - (intOf i).toNat)
    case atStart => exact ⟨0, [], by omega, rfl, rfl, joinAt_start ss⟩
    case round =>
      obtain ⟨k, x, hk, rfl, rfl, hj⟩ := hrel
      have hxl := hj.len
      have HJ := hid hj; clear hj
      by_cases hlt : k < ss.length
      · have cl := HC.out k hlt
        have ll := getD_total ss k
        have BAD := hid (fun h => rlistV_none (list_bad hlt h))
        have J0 := hid (fun (y : List UInt8) (h : k = 0) (hy : Tp.wr (ss.getD k []) = some y) => show JoinAt ss 1 (x ++ y) by subst h; exact HJ.out.first hlt hy)
        have J1 := hid (fun (y : List UInt8) (h : 0 < k) (hy : Tp.wr (ss.getD k []) = some y) => HJ.out.next h hlt hy)
        obtain ⟨p, hp⟩ : ∃ p, p = ss.getD k [] := ⟨_, rfl⟩
        rw [← hp] at cl ll BAD J0 J1
        clear hp
        have W := hid (fun w => written_any p w (by omega))
        cases hp : Tp.wr p with
        | some y =>
          rw [wrV_some hp] at W
          have hyl := (Tp.wr_len hp).2
          by_cases hz : k = 0
          · have J := hid (J0.out y hz hp)
            subst hz
            rw [Nat.add_zero] at cl
            clear J0 J1 hp
            go_wp2_with fail
            refine (W.out _).mono ?_
            rintro e1 w1 ⟨rfl, rfl⟩
            go_wp2
            go_round
            case rel => exact ⟨1, x ++ y, by omega, rfl, rfl, J.out⟩
            case measure => simp [intOf]; omega
          · have hz0 : 0 < k := by omega
            have J := hid (J1.out y hz0 hp)
            clear J0 J1 hz hp
            go_wp2_with fail
            refine (W.out _).mono ?_
            rintro e1 w1 ⟨rfl, rfl⟩
            go_wp2
            go_round
            case rel => exact ⟨k + 1, x ++ [44] ++ y, by omega, by go_num, by rw [bs_lit, bs_append, bs_append], J.out⟩
            case measure => simp [intOf]; omega
        | none =>
          rw [wrV_none hp] at W
          have E := hid (BAD.out hp)
          clear hp J0 J1
          go_wp2_with fail
          refine (W.out _).mono ?_
          rintro e1 w1 ⟨rfl, rfl⟩
          go_wp2
          go_ret2
          exact ⟨by rw [E.out]; rfl, rfl⟩
      · have E := hid (rlistV_some (HJ.out.end hk hlt (by have := H0.out; omega)))
        go_wp2
        go_ret2
        exact ⟨by rw [E.out]; rfl, rfl⟩
end Go.Proofs.Ytflcjniicakhgaa
