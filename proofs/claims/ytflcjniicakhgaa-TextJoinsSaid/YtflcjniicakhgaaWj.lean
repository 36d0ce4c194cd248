/-
  The walks over the reference's Cut, Unlist.
-/
import Derived.Test.YtflcjniicakhgaaWi
import Derived.StillTailTactics
namespace Go.Proofs.Ytflcjniicakhgaa
open Go.RowKit Go.Extern.Stop Go.Stop Go.Extern

theorem wp_region_tail {P : Program} {id : Nat} {Q : Exit → Act → World → Prop} {a : Act} {w : World} {l : List Oper} (n : Nat) (hm : P.follows .mixedOrders = true) (hB : Region.lexTailB .any l.toArray n = true)
    (h : wpStill P l.toArray w.drew (fun a' => wpList P l.toArray Q (l.drop n) a' w.drew) (l.take n) a) : (Code.region id l.toArray true).wp P Q a w := wp_region_still_tail n hm hB h
/-- So far cut: parts, and the one that grows; k bytes are gone through. -/
def CutR (s : UInt8) (l : List UInt8) (k : Nat) (parts : List (List UInt8)) (cur : List UInt8) : Prop :=
  parts.length ≤ k ∧ cur.length ≤ k ∧ Tp.cut s l = parts ++ Tp.head cur (Tp.cut s (l.drop k))
theorem cutR_start (s : UInt8) (l : List UInt8) : CutR s l 0 [] [] := ⟨by simp, by simp, by simp [Tp.head_nil (Tp.cut_ne' s l)]⟩
theorem CutR.sign {s : UInt8} {l : List UInt8} {k : Nat} {parts : List (List UInt8)} {cur : List UInt8} (h : CutR s l k parts cur) (hk : k < l.length) (h1 : l[k] = s) (hs : s ≠ 92) : CutR s l (k + 1) (parts ++ [cur]) [] := by
  obtain ⟨a, b, c⟩ := h
  refine ⟨by simp; omega, by simp, ?_⟩
  rw [c, List.drop_eq_getElem_cons hk, h1, Tp.cut_sign _ hs, Tp.head_nil (Tp.cut_ne' s _)]
  simp [Tp.head]
theorem CutR.one {s : UInt8} {l : List UInt8} {k : Nat} {parts : List (List UInt8)} {cur : List UInt8} (h : CutR s l k parts cur) (hk : k < l.length) (h1 : l[k] ≠ 92) (h2 : l[k] ≠ s) : CutR s l (k + 1) parts (cur ++ [l[k]]) := by
  obtain ⟨a, b, c⟩ := h
  refine ⟨by omega, by simp; omega, ?_⟩
  rw [c, List.drop_eq_getElem_cons hk, Tp.cut_cons _ h1 h2, Tp.head_head]
theorem CutR.last {s : UInt8} {l : List UInt8} {k : Nat} {parts : List (List UInt8)} {cur : List UInt8} (h : CutR s l k parts cur) (hk : k < l.length) (h1 : l[k] = 92) (h2 : ¬ k + 1 < l.length) : CutR s l (k + 1) parts (cur ++ [l[k]]) := by
  obtain ⟨a, b, c⟩ := h
  refine ⟨by omega, by simp; omega, ?_⟩
  rw [c, List.drop_eq_getElem_cons hk, List.drop_eq_nil_of_le (show l.length ≤ k + 1 by omega), h1, Tp.cut_last, Tp.cut_nil]
  simp [Tp.head]
theorem CutR.two {s : UInt8} {l : List UInt8} {k : Nat} {parts : List (List UInt8)} {cur : List UInt8} (h : CutR s l k parts cur) (hk : k + 1 < l.length) (h1 : l[k] = 92) : CutR s l (k + 2) parts (cur ++ [l[k], l[k + 1]]) := by
  obtain ⟨a, b, c⟩ := h
  refine ⟨by omega, by simp; omega, ?_⟩
  rw [c, List.drop_eq_getElem_cons (show k < l.length by omega), List.drop_eq_getElem_cons hk, h1, Tp.cut_back, Tp.head_head]
theorem CutR.end {s : UInt8} {l : List UInt8} {k : Nat} {parts : List (List UInt8)} {cur : List UInt8} (h : CutR s l k parts cur) (hk : ¬ k < l.length) : Tp.cut s l = parts ++ [cur] := by
  obtain ⟨a, b, c⟩ := h
  rw [c, List.drop_eq_nil_of_le (by omega), Tp.cut_nil]
  simp [Tp.head]
theorem two_bytes (l : List UInt8) (k : Nat) (h : k + 1 < l.length) : (l.drop k).take 2 = [l[k], l[k + 1]] := by
  rw [List.drop_eq_getElem_cons (show k < l.length by omega), List.drop_eq_getElem_cons h]; rfl
/-- A list whose last one grows. -/
def Grow (B : Nat) (w : World) (g cap : Nat) (parts : List (List UInt8)) (cur : List UInt8) : Prop := StrL B w (.slice (some ⟨g, 0, none⟩) (parts.length + 1) cap) (parts ++ [cur])
theorem Grow.row {B g cap : Nat} {w : World} {parts : List (List UInt8)} {cur : List UInt8} (h : Grow B w g cap parts cur) : w.ownsRow B 9 1 (.slice (some ⟨g, 0, none⟩) (parts.length + 1) cap) (parts.length + 1) (strV (parts ++ [cur])) := by
  have h' : w.ownsRow B 9 1 (.slice (some ⟨g, 0, none⟩) (parts.length + 1) cap) (strV (parts ++ [cur])).length (strV (parts ++ [cur])) := h
  rw [strV_length] at h'
  simpa using h'
theorem Grow.cell {B g cap : Nat} {w : World} {parts : List (List UInt8)} {cur : List UInt8} (h : Grow B w g cap parts cur) : w.cell? ⟨g, parts.length, none⟩ = some (.string (bs cur)) := by
  rw [World.ownsRow.cellAt h.row parts.length (by omega), strV_getD _ _ (by simp)]
  simp [List.getD]
theorem Grow.free {B g cap : Nat} {w : World} {parts : List (List UInt8)} {cur : List UInt8} (h : Grow B w g cap parts cur) : w.frozen? ⟨g, parts.length, none⟩ = false := World.ownsRow.frozenAt h.row _
theorem Grow.lt {B g cap : Nat} {w : World} {parts : List (List UInt8)} {cur : List UInt8} (h : Grow B w g cap parts cur) : B ≤ g ∧ g < w.heap.size := World.ownsRow.lt h.row g rfl
theorem Grow.drew {B g cap : Nat} {w : World} {parts : List (List UInt8)} {cur : List UInt8} (h : Grow B w g cap parts cur) : Grow B w.drew g cap parts cur := h
theorem Grow.store {B g cap : Nat} {w : World} {parts : List (List UInt8)} {cur : List UInt8} (h : Grow B w g cap parts cur) (cur' : List UInt8) : Grow B (w.setCell ⟨g, parts.length, none⟩ (.string (bs cur'))) g cap parts cur' := by
  have := (World.ownsRow.stored h.row parts.length (.string (bs cur'))).1
  have e : (strV (parts ++ [cur])).set parts.length (.string (bs cur')) = strV (parts ++ [cur']) := by simp [strV]
  rw [e] at this
  unfold Grow StrL Own
  rw [strV_length]
  simpa using this
theorem StrL.grow {B : Nat} {w : World} {v : Value} {parts : List (List UInt8)} {cur : List UInt8} (h : StrL B w v (parts ++ [cur])) : ∃ g cap, v = .slice (some ⟨g, 0, none⟩) (parts.length + 1) cap ∧ Grow B w g cap parts cur := by
  have h' : w.ownsRow B 9 1 v (strV (parts ++ [cur])).length (strV (parts ++ [cur])) := h
  rw [strV_length] at h'
  obtain ⟨g, cap, rfl⟩ := Joins.ownsRow_form h' (by simp)
  have e : (parts ++ [cur]).length = parts.length + 1 := by simp
  rw [e] at h ⊢
  exact ⟨g, cap, rfl, h⟩
theorem strL_one {w : World} : StrL w.heap.size (w.alloc (.cells #[.string ⟨#[]⟩] 9)) (.slice (some ⟨w.heap.size, 0, none⟩) 1 1) ([] ++ [[]]) :=
  ⟨by simp [strV], Or.inr ⟨w.heap.size, 1, #[.string ⟨#[]⟩], by simp [strV], Nat.le_refl _, heap_alloc_new w _, by simp [strV], by unfold maxLen; omega, rfl, by simp [strV, bs]⟩⟩

set_option maxRecDepth 100000 in
set_option maxHeartbeats 4000000 in
theorem rcut_any (s : UInt8) (l : List UInt8) (w : World) (hs : s = 44 ∨ s = 59) (hl : l.length ≤ 1000000) : Calls Try.prog 32 #[.string (bs l), .int .u8 s.toNat] w (CutEnd s l w) := by
  have hs92 : s ≠ 92 := by rcases hs with rfl | rfl <;> decide
  have HS := hid hs; clear hs
  go_enter Try.func32, Try.ntmps32
  go_wp2
  go_loopw [5, 6] (fun v i wr => ∃ (k : Nat) (parts : List (List UInt8)) (cur : List UInt8), k ≤ l.length ∧ i = .int .i64 k ∧ StrL w.heap.size wr v (parts ++ [cur]) ∧ CutR s l k parts cur ∧ Below w.heap.size w wr) (fun _ i _ => l.length - (intOf i).toNat)
  case atStart => exact ⟨0, [], [], by omega, rfl, strL_one, cutR_start s l, alloc_below _ _⟩
  case round =>
    obtain ⟨k, parts, cur, hk, rfl, hown, hcut, hbr⟩ := hrel
    have hp1 := hcut.1
    have hp2 := hcut.2.1
    have HC := hid hcut; clear hcut
    have hBr := hbr.size
    by_cases hlt : k < l.length
    · obtain ⟨c, hc⟩ : ∃ c, l[k] = c := ⟨_, rfl⟩
      have C1 := hid (fun h => HC.out.sign hlt h hs92)
      have C2 := hid (HC.out.one hlt)
      have C3 := hid (HC.out.last hlt)
      have OB := hid (one_byte l k hlt)
      rw [hc] at C1 C2 C3 OB
      by_cases hsg : c = s
      · have HO := hid hown; clear hown
        have A := hid (C1.out hsg)
        have hsg2 : ((c.toNat : Int) == (s.toNat : Int)) = true := by rw [hsg]; simp
        clear C1 C2 C3 hsg
        obtain ⟨g, cap, rfl, _⟩ := HO.out.grow
        go_wp2_with (at_builtin; refine app_str _ (by rfl) (.tmp 23) (.tmp 24) (by rfl) w.heap.size hBr _ _ (by rfl) HO.out 1 [] (by rfl) _ (by simp; omega) ?_)
        intro v1 w1 ho1 hb1
        have HO1 := hid ho1; clear ho1
        go_wp2
        go_roundw
        case rel => exact ⟨k + 1, parts ++ [cur], [], by omega, by go_num, by have := HO1.out; simpa using this, A.out, hbr.trans hb1⟩
        case measure => simp [intOf]; omega
      · have hsg2 : ((c.toNat : Int) == (s.toNat : Int)) = false := byte_ne hsg
        obtain ⟨g, cap, rfl, hgr⟩ := hown.grow
        have HG := hid hgr
        have cl := hgr.cell
        have fr := hgr.free
        have gl := hgr.lt
        clear hown hgr
        by_cases h92 : c = 92
        · have hn92 : c.toNat = 92 := by rw [h92]; rfl
          by_cases hlt2 : k + 1 < l.length
          · obtain ⟨d, hd⟩ : ∃ d, l[k + 1] = d := ⟨_, rfl⟩
            have C4 := hid (HC.out.two hlt2 (hc.trans h92))
            have OB2 := hid (two_bytes l k hlt2)
            rw [hc, hd] at C4 OB2
            have A := C4
            have q1 : (k : Int) + 1 < (l.length : Int) := by omega
            clear C1 C2 C3 C4 h92 hsg
            have p1 : (parts.length : Int) < (parts.length : Int) + 1 := by omega
            go_upto_region 9 with fail
            have e1 : IntKind.i64.wrap ((k : Int) + 2) = (k : Int) + 2 := IntWalk.i64_in _ (by omega)
            have e2 : ((k : Int) + 2).toNat = k + 2 := by omega
            have e3 : (0 : Int) ≤ (k : Int) + 2 := by omega
            have e4 : (k : Int) + 2 ≤ (l.length : Int) := by omega
            have e5 : (k : Int) ≤ (k : Int) + 2 := by omega
            have e6 : (9223372036854775807 < cur.length + 2) = False := eq_false (by omega)
            have OB1 := OB2.out
            refine wp_region_tail 13 (by kernel_rfl) (by kernel_rfl) ?_
            simp only [List.take_succ_cons, List.take_zero, List.drop_succ_cons, List.drop_zero]
            repeat still_step
            refine wpStill_nil ?_
            clear e1 e2 e3 e4 e5 e6 OB1
            go_wp2
            go_roundw
            case rel => exact ⟨k + 2, parts, cur ++ [c, d], by omega, by go_num, HG.out.store _, A.out, (hbr.setCell gl.1 _).drew⟩
            case measure => simp [intOf]; omega
          · have A := hid (C3.out h92 hlt2)
            have q1 : ¬ (k : Int) + 1 < (l.length : Int) := by omega
            have q2 : decide ((k : Int) + 1 < (l.length : Int)) = false := by simp; omega
            clear C1 C2 C3 h92 hsg
            have p1 : (parts.length : Int) < (parts.length : Int) + 1 := by omega
            go_upto_region 11 with fail
            have e1 : IntKind.i64.wrap ((k : Int) + 1) = (k : Int) + 1 := IntWalk.i64_in _ (by omega)
            have e2 : ((k : Int) + 1).toNat = k + 1 := by omega
            have e3 : (0 : Int) ≤ (k : Int) + 1 := by omega
            have e4 : (k : Int) + 1 ≤ (l.length : Int) := by omega
            have e5 : (k : Int) ≤ (k : Int) + 1 := by omega
            have e6 : (9223372036854775807 < cur.length + 1) = False := eq_false (by omega)
            have OB1 := OB.out
            refine wp_region_tail 13 (by kernel_rfl) (by kernel_rfl) ?_
            simp only [List.take_succ_cons, List.take_zero, List.drop_succ_cons, List.drop_zero]
            repeat still_step
            refine wpStill_nil ?_
            clear e1 e2 e3 e4 e5 e6 OB1
            go_wp2
            go_roundw
            case rel => exact ⟨k + 1, parts, cur ++ [c], by omega, by go_num, HG.out.store _, A.out, (hbr.setCell gl.1 _).drew⟩
            case measure => simp [intOf]; omega
        · have hn92 : ((c.toNat : Int) == 92) = false := byte_ne (d := 92) h92
          have A := hid (C2.out h92 hsg)
          clear C1 C2 C3 h92 hsg
          have p1 : (parts.length : Int) < (parts.length : Int) + 1 := by omega
          go_upto_region 11 with fail
          have e1 : IntKind.i64.wrap ((k : Int) + 1) = (k : Int) + 1 := IntWalk.i64_in _ (by omega)
          have e2 : ((k : Int) + 1).toNat = k + 1 := by omega
          have e3 : (0 : Int) ≤ (k : Int) + 1 := by omega
          have e4 : (k : Int) + 1 ≤ (l.length : Int) := by omega
          have e5 : (k : Int) ≤ (k : Int) + 1 := by omega
          have e6 : (9223372036854775807 < cur.length + 1) = False := eq_false (by omega)
          have OB1 := OB.out
          refine wp_region_tail 13 (by kernel_rfl) (by kernel_rfl) ?_
          simp only [List.take_succ_cons, List.take_zero, List.drop_succ_cons, List.drop_zero]
          repeat still_step
          refine wpStill_nil ?_
          clear e1 e2 e3 e4 e5 e6 OB1
          go_wp2
          go_roundw
          case rel => exact ⟨k + 1, parts, cur ++ [c], by omega, by go_num, HG.out.store _, A.out, (hbr.setCell gl.1 _).drew⟩
          case measure => simp [intOf]; omega
    · have E := hid (HC.out.end hlt)
      have HO := hid hown; clear hown
      go_wp2
      go_ret
      exact ⟨_, rfl, by rw [E.out]; exact HO.out, hbr⟩

/-- How the reference's Unlist ends. -/
def RUlEnd (l : List UInt8) (w : World) (e : Ending) (w' : World) : Prop :=
  Below w.heap.size w w' ∧ match Tp.unlist l with
  | some r => ∃ v, e = .returned (.tuple #[v, .int .i64 0]) ∧ StrL w.heap.size w' v r
  | none => e = .returned (.tuple #[.slice none 0 0, .int .i64 11])
theorem rulEnd_some {l : List UInt8} {r : List (List UInt8)} {w w' : World} {v : Value} (hb : Below w.heap.size w w') (h : Tp.unlist l = some r) (ho : StrL w.heap.size w' v r) :
    RUlEnd l w (.returned (.tuple #[v, .int .i64 0])) w' := ⟨hb, by rw [h]; exact ⟨v, rfl, ho⟩⟩
theorem rulEnd_none {l : List UInt8} {w w' : World} (hb : Below w.heap.size w w') (h : Tp.unlist l = none) :
    RUlEnd l w (.returned (.tuple #[.slice none 0 0, .int .i64 11])) w' := ⟨hb, by rw [h]⟩
theorem RUlEnd.some {l : List UInt8} {r : List (List UInt8)} {w w' : World} {e : Ending} (h : RUlEnd l w e w') (hx : Tp.unlist l = some r) :
    ∃ v, e = .returned (.tuple #[v, .int .i64 0]) ∧ StrL w.heap.size w' v r ∧ Below w.heap.size w w' := by
  obtain ⟨hb, h⟩ := h
  rw [hx] at h
  obtain ⟨v', h1, h2⟩ := h
  exact ⟨v', h1, h2, hb⟩
theorem RUlEnd.none {l : List UInt8} {w w' : World} {e : Ending} (h : RUlEnd l w e w') (hx : Tp.unlist l = none) :
    e = .returned (.tuple #[.slice none 0 0, .int .i64 11]) ∧ Below w.heap.size w w' := by
  obtain ⟨hb, h⟩ := h
  rw [hx] at h
  exact ⟨h, hb⟩

set_option maxHeartbeats 4000000 in
theorem runlist_any (l : List UInt8) (w : World) (hl : l.length ≤ 1000000) : Calls Try.prog 19 #[.string (bs l)] w (RUlEnd l w) := by
  have CA := hid (fun w => rcut_any 44 l w (.inl rfl) hl)
  have nb := (Tp.cut_bd 44 l).1
  have n0 : 0 < (Tp.cut 44 l).length := by
    cases h : Tp.cut 44 l with
    | nil => exact absurd h (Tp.cut_ne' _ _)
    | cons _ _ => simp
  have CL := hid (fun j => cut_len (s := 44) (l := l) j)
  have UB : Hid (∀ k, k < (Tp.cut 44 l).length → Tp.un ((Tp.cut 44 l).getD k []) = none → Tp.unlist l = none) := fun k hk h => allSome_bad hk h
  have UE : Hid (∀ r, Tp.allSome Tp.un (Tp.cut 44 l) = some r → Tp.unlist l = some r) := fun r h => h
  obtain ⟨ps, hps⟩ : ∃ ps, ps = Tp.cut 44 l := ⟨_, rfl⟩
  go_enter Try.func19, Try.ntmps19
  go_wp2_with fail
  refine (CA.out _).mono ?_
  rintro e1 w1 ⟨v0, rfl, ho, hb1⟩
  rw [← hps] at ho nb n0 CL UB UE
  clear hps CA
  have HRD := ho.rd
  obtain ⟨b, off, cap, rfl, hbl, hcl⟩ := HRD.form n0
  have HCL := hid hcl
  clear hcl HRD ho
  go_wp2_with fail
  go_loopw [5, 6] (fun v i wr => ∃ (k : Nat) (r : List (List UInt8)), k ≤ ps.length ∧ i = .int .i64 k ∧ StrL w1.heap.size wr v r ∧ r.length = k ∧ Tp.allSome Tp.un (ps.take k) = some r ∧ Below w1.heap.size w1 wr) (fun _ i _ => ps.length - (intOf i).toNat)
  case atStart => exact ⟨0, [], by omega, rfl, strL_nil _ _, rfl, rfl, Below.refl _ _⟩
  case round =>
    obtain ⟨k, r, hk, rfl, hown, hrl, hr, hbr⟩ := hrel
    have HO := hid hown; clear hown
    have HR := hid hr; clear hr
    have hBr := hbr.size
    have hrl2 : r.length ≤ k := by omega
    have HRL := hid hrl; clear hrl
    by_cases hlt : k < ps.length
    · have cl := (hbr.cell (p := ⟨b, off + k, none⟩) hbl).trans (HCL.out k hlt)
      have ll := CL.out k
      have BAD := hid (UB.out k hlt)
      have NX := hid (fun (y : List UInt8) (h : Tp.un (ps.getD k []) = some y) => allSome_snoc hlt HR.out h)
      obtain ⟨p, hp⟩ : ∃ p, p = ps.getD k [] := ⟨_, rfl⟩
      rw [← hp] at cl ll BAD NX
      clear hp
      have U := hid (fun w => runescape_any p w (by omega))
      cases hu : Tp.un p with
      | some y =>
        rw [runV_some hu] at U
        have A := hid (NX.out y hu)
        clear hu NX BAD
        go_wp2_with fail
        refine (U.out _).mono ?_
        rintro e2 w2 ⟨rfl, rfl⟩
        go_wp2_with (at_builtin; refine app_str _ (by rfl) (.tmp 28) (.tmp 30) (by rfl) w1.heap.size hBr _ _ (by rfl) HO.out 1 y (by rfl) _ (by omega) ?_)
        intro v3 w3 ho3 hb3
        have HO3 := hid ho3; clear ho3
        go_wp2
        go_roundw
        case rel => exact ⟨k + 1, r ++ [y], by omega, by go_num, HO3.out, by rw [List.length_append, HRL.out]; rfl, A.out, hbr.trans hb3⟩
        case measure => simp [intOf]; omega
      | none =>
        rw [runV_none hu] at U
        have E := hid (BAD.out hu)
        clear hu NX BAD
        go_wp2_with fail
        refine (U.out _).mono ?_
        rintro e2 w2 ⟨rfl, rfl⟩
        go_wp2
        go_ret2
        exact rulEnd_none (hb1.trans (hbr.mono hb1.size)) E.out
    · have E := hid (UE.out r (by have := HR.out; rwa [List.take_of_length_le (by omega)] at this))
      go_wp2
      go_ret2
      exact rulEnd_some (hb1.trans (hbr.mono hb1.size)) E.out (HO.out.base hb1.size)
end Go.Proofs.Ytflcjniicakhgaa
