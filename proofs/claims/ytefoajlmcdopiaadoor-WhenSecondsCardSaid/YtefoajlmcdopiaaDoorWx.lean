/-
  The walk over Parse, the program's.
-/
import Derived.Test.YtefoajlmcdopiaaDoorWv
import Derived.Deep.CutBlock
namespace Go.Proofs.YtefoajlmcdopiaaDoor
open Go.RowKit

namespace Tw
def suf (l : List UInt8) : Bool := Lib.hasSuffix l [90]
def long (l : List UInt8) : Nat := if suf l = true then l.length - 1 else l.length
def pOk (l : List UInt8) (n : Nat) : Bool :=
  if n = 15 then ((((((((l.getD 8 0).toNat : Int) == 84) && nB (cut l 13 15)) && nB (cut l 11 13)) && nB (cut l 9 11)) && nB (cut l 6 8)) && nB (cut l 4 6)) && nB (cut l 0 4)
  else ((true && nB (cut l 6 8)) && nB (cut l 4 6)) && nB (cut l 0 4)
def pA (l : List UInt8) (n : Nat) : Nat → Int :=
  if n = 15 then upd (upd (upd (upd (upd (upd (fun _ => 0) 5 (nN (cut l 13 15))) 4 (nN (cut l 11 13))) 3 (nN (cut l 9 11))) 2 (nN (cut l 6 8))) 1 (nN (cut l 4 6))) 0 (nN (cut l 0 4))
  else upd (upd (upd (fun _ => 0) 2 (nN (cut l 6 8))) 1 (nN (cut l 4 6))) 0 (nN (cut l 0 4))
end Tw
def parseNo : Value := .tuple #[timeV 0 0 0 0 0 0 false false, errno 11]
def parseYes (l : List UInt8) : Value := .tuple #[timeV (Tw.pA l (Tw.long l) 0) (Tw.pA l (Tw.long l) 1) (Tw.pA l (Tw.long l) 2) (Tw.pA l (Tw.long l) 3) (Tw.pA l (Tw.long l) 4) (Tw.pA l (Tw.long l) 5) (Tw.long l == 8) (Tw.suf l), .nilIface]
namespace Tw
/-- It is a right time's text. -/
def pR (l : List UInt8) : Bool := (long l == 15 || long l == 8) && pOk l (long l) && trightB (pA l (long l) 0) (pA l (long l) 1) (pA l (long l) 2) (pA l (long l) 3) (pA l (long l) 4) (pA l (long l) 5) (long l == 8) (suf l)
end Tw
def parseV (l : List UInt8) : Value := if Tw.pR l = true then parseYes l else parseNo
/-- The memory of Parse, ahead of its parts. -/
structure P0 (w0 : World) (l : List UInt8) (u : Bool) (w : World) : Prop where
  s : w.cell? ⟨w0.heap.size, 0, none⟩ = some (.string (bs l))
  r : TimeNew (w0.heap.size + 1) w
  t : TimeIn (w0.heap.size + 2) 0 0 0 0 0 0 false u w
  ft : ∀ j, w.frozen? ⟨w0.heap.size + 2, j, none⟩ = false
  sz : w.heap.size = w0.heap.size + 3
  b : Below w0.heap.size w0 w
theorem p0_new (w : World) (l : List UInt8) (u : Bool) : P0 w l u (((w.alloc (.cells #[.string (bs l)] 9)).alloc (timeC 0 0 0 0 0 0 false false)).alloc (timeC 0 0 0 0 0 0 false u)) := by
  have h1 : ((w.alloc (.cells #[.string (bs l)] 9)).alloc (timeC 0 0 0 0 0 0 false false)).heap.size = w.heap.size + 2 := by simp
  refine ⟨?_, (timeNew2 w _).below (alloc_below _ _), ?_, ?_, by simp, by go_grown⟩
  · rw [World.cell?_alloc_past _ _ _ (by simp; omega), World.cell?_alloc_past _ _ _ (by simp)]
    exact World.cell?_alloc_at _ _ _ _ rfl
  · have := timeIn_new ((w.alloc (.cells #[.string (bs l)] 9)).alloc (timeC 0 0 0 0 0 0 false false)) 0 0 0 0 0 0 false u
    rwa [h1] at this
  · intro j
    exact World.frozen?_alloc_at _ _ _ _ h1.symm
theorem ps_new {w0 w : World} {l : List UInt8} {u : Bool} (h : P0 w0 l u w) : PS w0 l u true (fun _ => 0) ((w.alloc (.cells #[.int .i64 0, .int .i64 0, .int .i64 0, .int .i64 0, .int .i64 0, .int .i64 0] 73)).alloc (.cells #[.bool true] 4)) := by
  have hz := h.sz
  have b1 := alloc_below w (.cells #[.int .i64 0, .int .i64 0, .int .i64 0, .int .i64 0, .int .i64 0, .int .i64 0] 73)
  have b2 := b1.trans ((alloc_below (w.alloc (.cells #[.int .i64 0, .int .i64 0, .int .i64 0, .int .i64 0, .int .i64 0, .int .i64 0] 73)) (.cells #[.bool true] 4)).mono b1.size)
  refine ⟨?_, h.r.below b2, h.t.below b2, ?_, ?_, ?_, ?_, ?_, by simp; omega, h.b.trans (b2.mono h.b.size)⟩
  · exact (b2.cell (p := ⟨w0.heap.size, 0, none⟩) (by show w0.heap.size < w.heap.size; omega)).trans h.s
  · intro j
    exact (b2.frozen (p := ⟨w0.heap.size + 2, j, none⟩) (by show w0.heap.size + 2 < w.heap.size; omega)).trans (h.ft j)
  · intro i hi
    rw [World.cell?_alloc_past _ _ _ (by simp; omega)]
    rw [World.cell?_alloc_at _ _ _ _ (by omega)]
    rcases (show i = 0 ∨ i = 1 ∨ i = 2 ∨ i = 3 ∨ i = 4 ∨ i = 5 by omega) with rfl | rfl | rfl | rfl | rfl | rfl <;> rfl
  · intro j
    rw [World.frozen?_alloc_past _ _ _ (by simp; omega)]
    exact World.frozen?_alloc_at _ _ _ _ (by omega)
  · exact World.cell?_alloc_at _ _ _ _ (by simp; omega)
  · intro j
    exact World.frozen?_alloc_at _ _ _ _ (by simp; omega)
set_option maxHeartbeats 4000000 in
set_option maxRecDepth 100000 in
theorem parse_any (l : List UInt8) (w : World) (hl : l.length ≤ 1000) : Calls Tryd.prog 23 #[.string (bs l)] w fun e w' => e = .returned (parseV l) ∧ Below w.heap.size w w' := by
  have HS : ∀ w, Calls Tryd.prog 45 #[.string (bs l), .string ⟨#[90]⟩] w fun e w' => e = .returned (.bool (Tw.suf l)) ∧ w' = w := by
    intro w
    have h := Tryd.strings_HasSuffix (bs l) (bs [90]) w (by rw [bs_size]; omega)
    rw [bs_data, bs_data] at h
    exact h
  obtain ⟨n, hn⟩ : ∃ n, Tw.long l = n := ⟨_, rfl⟩
  obtain ⟨u, hu⟩ : ∃ u, Tw.suf l = u := ⟨_, rfl⟩
  have hul : u = true → 0 < l.length := by
    intro h
    rw [← hu] at h
    cases l with
    | nil => simp [Tw.suf, Lib.hasSuffix] at h
    | cons _ _ => simp
  have HU := hid hu
  have HN := hid hn
  rw [hu] at HS
  have HS := hid HS
  have hnl : n = if u = true then l.length - 1 else l.length := by rw [← hn, ← hu]; rfl
  have HNL := hid hnl
  clear hu hn hnl
  go_enter Tryd.func23, Tryd.ntmps23
  go_wp2_with fail
  refine (HS.out _).mono ?_
  rintro e1 w1 ⟨rfl, rfl⟩
  go_upto_if 15 with fail
  go_cut [5] from 16 to 17 (fun a wx => a = .int .i64 n ∧ P0 w l u wx)
  case first =>
    have A := p0_new w l u
    unfold timeC at A
    have A := hid A
    cases u
    · have e : (l.length : Int) = (n : Int) := by have := HNL.out; simp at this; omega
      go_wp2
      go_meet
      exact ⟨by rw [e], A.out⟩
    · have e : (l.length : Int) - 1 = (n : Int) := by have := HNL.out; have := hul rfl; simp at *; omega
      go_wp2
      go_meet
      exact ⟨by first | rfl | rw [e], A.out⟩
  case rest =>
    obtain ⟨rfl, hp⟩ := hcut
    have hsz := hp.sz
    have HP := hid hp
    clear hp
    rw [show w.heap.size + 1 + 1 = w.heap.size + 2 from rfl]
    go_upto_region 9 with fail
    have S0 := hid (ps_new HP.out)
    generalize (wc.alloc (.cells #[.int .i64 0, .int .i64 0, .int .i64 0, .int .i64 0, .int .i64 0, .int .i64 0] 73)).alloc (.cells #[.bool true] 4) = wd at S0 ⊢
    rw [show w.heap.size + 3 + 1 = w.heap.size + 4 from rfl]
    clear HP HS hsz
    have k0 := S0.out.s
    go_upto_block 0 with fail
    go_cut [] from 20 to 40 (fun wx => PS w l u (Tw.pOk l n) (Tw.pA l n) wx ∧ (n = 15 ∨ n = 8))
    case first =>
      by_cases h15 : n = 15
      · have h15l : 15 ≤ l.length := by have := HNL.out; split at this <;> omega
        have h8l : 8 < l.length := by omega
        have ko := S0.out.o
        have ko2 := S0.out.fo 0
        subst h15
        clear HN HNL
        have g8 := hid (show l[8] = l.getD 8 0 by simp [List.getD, h8l])
        have S1 := hid (S0.out.setO ((l[8].toNat : Int) == 84))
        go_upto_region 13 with fail
        generalize wd.setCell ⟨w.heap.size + 4, 0, none⟩ (.bool ((l[8].toNat : Int) == 84)) = v0 at S1 ⊢
        have Sv0 := S1
        clear S1 S0 ko ko2 k0
        have K : Calls Tryd.prog 46 #[.int .i64 5, .int .i64 13, .int .i64 15, .pointer (some ⟨w.heap.size, 0, none⟩), .pointer (some ⟨w.heap.size + 4, 0, none⟩), .pointer (some ⟨w.heap.size + 3, 0, none⟩)] v0 fun e w' => e = .returned (.tuple #[]) ∧ PS w l u _ _ w' := clo_ps 5 13 15 v0 Sv0.out (by omega) (by omega) (by omega) (by omega)
        have K := hid K
        go_wp2_with fail
        refine K.out.mono ?_
        rintro e1 v1 ⟨rfl, hs⟩
        have Sv1 := hid hs
        clear hs K Sv0
        have K : Calls Tryd.prog 46 #[.int .i64 4, .int .i64 11, .int .i64 13, .pointer (some ⟨w.heap.size, 0, none⟩), .pointer (some ⟨w.heap.size + 4, 0, none⟩), .pointer (some ⟨w.heap.size + 3, 0, none⟩)] v1 fun e w' => e = .returned (.tuple #[]) ∧ PS w l u _ _ w' := clo_ps 4 11 13 v1 Sv1.out (by omega) (by omega) (by omega) (by omega)
        have K := hid K
        go_wp2_with fail
        refine K.out.mono ?_
        rintro e1 v2 ⟨rfl, hs⟩
        have Sv2 := hid hs
        clear hs K Sv1
        have K : Calls Tryd.prog 46 #[.int .i64 3, .int .i64 9, .int .i64 11, .pointer (some ⟨w.heap.size, 0, none⟩), .pointer (some ⟨w.heap.size + 4, 0, none⟩), .pointer (some ⟨w.heap.size + 3, 0, none⟩)] v2 fun e w' => e = .returned (.tuple #[]) ∧ PS w l u _ _ w' := clo_ps 3 9 11 v2 Sv2.out (by omega) (by omega) (by omega) (by omega)
        have K := hid K
        go_wp2_with fail
        refine K.out.mono ?_
        rintro e1 v3 ⟨rfl, hs⟩
        have Sv3 := hid hs
        clear hs K Sv2
        have K : Calls Tryd.prog 46 #[.int .i64 2, .int .i64 6, .int .i64 8, .pointer (some ⟨w.heap.size, 0, none⟩), .pointer (some ⟨w.heap.size + 4, 0, none⟩), .pointer (some ⟨w.heap.size + 3, 0, none⟩)] v3 fun e w' => e = .returned (.tuple #[]) ∧ PS w l u _ _ w' := clo_ps 2 6 8 v3 Sv3.out (by omega) (by omega) (by omega) (by omega)
        have K := hid K
        go_wp2_with fail
        refine K.out.mono ?_
        rintro e1 v4 ⟨rfl, hs⟩
        have Sv4 := hid hs
        clear hs K Sv3
        have K : Calls Tryd.prog 46 #[.int .i64 1, .int .i64 4, .int .i64 6, .pointer (some ⟨w.heap.size, 0, none⟩), .pointer (some ⟨w.heap.size + 4, 0, none⟩), .pointer (some ⟨w.heap.size + 3, 0, none⟩)] v4 fun e w' => e = .returned (.tuple #[]) ∧ PS w l u _ _ w' := clo_ps 1 4 6 v4 Sv4.out (by omega) (by omega) (by omega) (by omega)
        have K := hid K
        go_wp2_with fail
        refine K.out.mono ?_
        rintro e1 v5 ⟨rfl, hs⟩
        have Sv5 := hid hs
        clear hs K Sv4
        have K : Calls Tryd.prog 46 #[.int .i64 0, .int .i64 0, .int .i64 4, .pointer (some ⟨w.heap.size, 0, none⟩), .pointer (some ⟨w.heap.size + 4, 0, none⟩), .pointer (some ⟨w.heap.size + 3, 0, none⟩)] v5 fun e w' => e = .returned (.tuple #[]) ∧ PS w l u _ _ w' := clo_ps 0 0 4 v5 Sv5.out (by omega) (by omega) (by omega) (by omega)
        have K := hid K
        go_wp2_with fail
        refine K.out.mono ?_
        rintro e1 v6 ⟨rfl, hs⟩
        have Sv6 := hid hs
        clear hs K Sv5
        go_wp2
        go_meet
        refine ⟨?_, by first | trivial | simp⟩
        unfold Tw.pOk Tw.pA
        rw [if_pos rfl, if_pos rfl, ← g8.out]
        exact Sv6.out
      · by_cases h8 : n = 8
        · have h8l : 8 ≤ l.length := by have := HNL.out; split at this <;> omega
          subst h8
          clear HN HNL h15
          have Swd := S0
          clear S0 k0
          have K : Calls Tryd.prog 46 #[.int .i64 2, .int .i64 6, .int .i64 8, .pointer (some ⟨w.heap.size, 0, none⟩), .pointer (some ⟨w.heap.size + 4, 0, none⟩), .pointer (some ⟨w.heap.size + 3, 0, none⟩)] wd fun e w' => e = .returned (.tuple #[]) ∧ PS w l u _ _ w' := clo_ps 2 6 8 wd Swd.out (by omega) (by omega) (by omega) (by omega)
          have K := hid K
          go_wp2_with fail
          refine K.out.mono ?_
          rintro e1 v1 ⟨rfl, hs⟩
          have Sv1 := hid hs
          clear hs K Swd
          have K : Calls Tryd.prog 46 #[.int .i64 1, .int .i64 4, .int .i64 6, .pointer (some ⟨w.heap.size, 0, none⟩), .pointer (some ⟨w.heap.size + 4, 0, none⟩), .pointer (some ⟨w.heap.size + 3, 0, none⟩)] v1 fun e w' => e = .returned (.tuple #[]) ∧ PS w l u _ _ w' := clo_ps 1 4 6 v1 Sv1.out (by omega) (by omega) (by omega) (by omega)
          have K := hid K
          go_wp2_with fail
          refine K.out.mono ?_
          rintro e1 v2 ⟨rfl, hs⟩
          have Sv2 := hid hs
          clear hs K Sv1
          have K : Calls Tryd.prog 46 #[.int .i64 0, .int .i64 0, .int .i64 4, .pointer (some ⟨w.heap.size, 0, none⟩), .pointer (some ⟨w.heap.size + 4, 0, none⟩), .pointer (some ⟨w.heap.size + 3, 0, none⟩)] v2 fun e w' => e = .returned (.tuple #[]) ∧ PS w l u _ _ w' := clo_ps 0 0 4 v2 Sv2.out (by omega) (by omega) (by omega) (by omega)
          have K := hid K
          go_wp2_with fail
          refine K.out.mono ?_
          rintro e1 v3 ⟨rfl, hs⟩
          have Sv3 := hid hs
          clear hs K Sv2
          go_wp2
          go_meet
          refine ⟨?_, by first | trivial | simp⟩
          unfold Tw.pOk Tw.pA
          rw [if_neg (by omega), if_neg (by omega)]
          exact Sv3.out
        · have c15 : ((n : Int) == 15) = false := by simp; omega
          have c8 : ((n : Int) == 8) = false := by simp; omega
          have E := hid (show parseV l = parseNo by unfold parseV Tw.pR; rw [HN.out]; simp [h15, h8])
          have T2 := hid S0.out.r
          have z0 := T2.out.t.c0
          have z1 := T2.out.t.c1
          have z2 := T2.out.t.c2
          have z3 := T2.out.t.c3
          have z4 := T2.out.t.c4
          have z5 := T2.out.t.c5
          have z6 := T2.out.t.c6
          have z7 := T2.out.t.c7
          have zf := T2.out.f
          go_wp2
          refine bodyPost_ret (v := .tuple #[.agg #[.int .i64 0, .int .i64 0, .int .i64 0, .int .i64 0, .int .i64 0, .int .i64 0, .bool false, .bool false], errno 11]) (by simp [results, Tryd.results23, go_sem, z0, z1, z2, z3, z4, z5, z6, z7, errno] <;> omega) rfl ⟨?_, ?_⟩
          · rw [E.out]; rfl
          · repeat (refine Below.setCell ?_ (by show _ ≤ w.heap.size + 1; omega) _)
            exact S0.out.b
    case rest =>
      obtain ⟨hs, hn⟩ := hcut
      have E := hid (show parseV l = if (Tw.pOk l n && trightB (Tw.pA l n 0) (Tw.pA l n 1) (Tw.pA l n 2) (Tw.pA l n 3) (Tw.pA l n 4) (Tw.pA l n 5) (n == 8) u) = true then .tuple #[timeV (Tw.pA l n 0) (Tw.pA l n 1) (Tw.pA l n 2) (Tw.pA l n 3) (Tw.pA l n 4) (Tw.pA l n 5) (n == 8) u, .nilIface] else parseNo by
        unfold parseV parseYes Tw.pR
        rw [HN.out, HU.out]
        rcases hn with rfl | rfl <;> simp)
      have E8 : ((n : Int) == 8) = (n == 8) := by rcases hn with rfl | rfl <;> rfl
      clear S0 k0 HN HU HNL hul
      have c0 := hs.c 0 (by omega)
      have c1 := hs.c 1 (by omega)
      have c2 := hs.c 2 (by omega)
      have c3 := hs.c 3 (by omega)
      have c4 := hs.c 4 (by omega)
      have c5 := hs.c 5 (by omega)
      obtain ⟨ok, hok⟩ : ∃ ok, Tw.pOk l n = ok := ⟨_, rfl⟩
      obtain ⟨b8, hb8⟩ : ∃ b8, (n == 8) = b8 := ⟨_, rfl⟩
      rw [hok, hb8] at E
      rw [hok] at hs
      rw [hb8] at E8
      obtain ⟨x0, h0⟩ : ∃ x0, Tw.pA l n 0 = x0 := ⟨_, rfl⟩
      obtain ⟨x1, h1⟩ : ∃ x1, Tw.pA l n 1 = x1 := ⟨_, rfl⟩
      obtain ⟨x2, h2⟩ : ∃ x2, Tw.pA l n 2 = x2 := ⟨_, rfl⟩
      obtain ⟨x3, h3⟩ : ∃ x3, Tw.pA l n 3 = x3 := ⟨_, rfl⟩
      obtain ⟨x4, h4⟩ : ∃ x4, Tw.pA l n 4 = x4 := ⟨_, rfl⟩
      obtain ⟨x5, h5⟩ : ∃ x5, Tw.pA l n 5 = x5 := ⟨_, rfl⟩
      rw [h0] at c0 E
      rw [h1] at c1 E
      rw [h2] at c2 E
      rw [h3] at c3 E
      rw [h4] at c4 E
      rw [h5] at c5 E
      have ko := hs.o
      have ko2 := hs.fo 0
      have kt := hs.ft
      have t0 := hs.t.c0
      have t1 := hs.t.c1
      have t2 := hs.t.c2
      have t3 := hs.t.c3
      have t4 := hs.t.c4
      have t5 := hs.t.c5
      have t6 := hs.t.c6
      have t7 := hs.t.c7
      have S := hid hs
      clear hs hok hb8 h0 h1 h2 hn
      go_upto_region 21 with fail
      have P := hid (((S.out.m.s0 x0).s1 x1).s2 x2)
      clear c0 c1 c2 t0 t1 t2 t3 t4 t5 t6 t7 kt ko ko2
      generalize ((wc.setCell ⟨w.heap.size + 2, 0, none⟩ (.int .i64 x0)).setCell ⟨w.heap.size + 2, 1, none⟩ (.int .i64 x1)).setCell ⟨w.heap.size + 2, 2, none⟩ (.int .i64 x2) = we at P ⊢
      clear S c3 c4 c5
      have c3 := P.out.c 3 (by omega)
      have c4 := P.out.c 4 (by omega)
      have c5 := P.out.c 5 (by omega)
      rw [h3] at c3
      rw [h4] at c4
      rw [h5] at c5
      have kt := P.out.ft
      have t3 := P.out.t.c3
      have t4 := P.out.t.c4
      have t5 := P.out.t.c5
      have t6 := P.out.t.c6
      clear h3 h4 h5
      go_cut [] from 49 to 60 (fun wx => PM w ok (Tw.pA l n) x0 x1 x2 x3 x4 x5 b8 u wx)
      case first =>
        go_region
        go_wp2
        go_meet
        exact ((((P.out.s3 x3).s4 x4).s5 x5).s6 b8).drew
      case rest =>
        have HP := hid hcut
        clear hcut P c3 c4 c5 kt t3 t4 t5 t6
        obtain ⟨rr, hrr⟩ : ∃ rr, trightB x0 x1 x2 x3 x4 x5 b8 u = rr := ⟨_, rfl⟩
        have R := tright_any x0 x1 x2 x3 x4 x5 b8 u
        rw [hrr] at R E
        unfold timeV at R E
        have R := hid R
        clear hrr
        have ko := HP.out.o
        cases ok with
        | false =>
          have E := hid (E.out.trans (if_neg (by simp)))
          have z0 := HP.out.r.t.c0
          have z1 := HP.out.r.t.c1
          have z2 := HP.out.r.t.c2
          have z3 := HP.out.r.t.c3
          have z4 := HP.out.r.t.c4
          have z5 := HP.out.r.t.c5
          have z6 := HP.out.r.t.c6
          have z7 := HP.out.r.t.c7
          have zf := HP.out.r.f
          go_wp2
          refine bodyPost_ret (v := .tuple #[.agg #[.int .i64 0, .int .i64 0, .int .i64 0, .int .i64 0, .int .i64 0, .int .i64 0, .bool false, .bool false], errno 11]) (by simp [results, Tryd.results23, go_sem, z0, z1, z2, z3, z4, z5, z6, z7, errno] <;> omega) rfl ⟨?_, ?_⟩
          · rw [E.out]; rfl
          · repeat (refine Below.setCell ?_ (by show _ ≤ w.heap.size + 1; omega) _)
            exact HP.out.b
        | true =>
          have t0 := HP.out.t.c0
          have t1 := HP.out.t.c1
          have t2 := HP.out.t.c2
          have t3 := HP.out.t.c3
          have t4 := HP.out.t.c4
          have t5 := HP.out.t.c5
          have t6 := HP.out.t.c6
          have t7 := HP.out.t.c7
          go_wp2_with fail
          refine (R.out _).mono ?_
          rintro e1 v1 ⟨rfl, hb1⟩
          have T := hid (HP.out.t.below hb1)
          have TN := hid (HP.out.r.below hb1)
          have HB := hid (HP.out.b.trans (hb1.mono HP.out.b.size))
          clear hb1 t0 t1 t2 t3 t4 t5 t6 t7 ko HP R
          have z0 := TN.out.t.c0
          have z1 := TN.out.t.c1
          have z2 := TN.out.t.c2
          have z3 := TN.out.t.c3
          have z4 := TN.out.t.c4
          have z5 := TN.out.t.c5
          have z6 := TN.out.t.c6
          have z7 := TN.out.t.c7
          have zf := TN.out.f
          cases rr with
          | false =>
            have E := hid (E.out.trans (if_neg (by simp)))
            go_wp2
            refine bodyPost_ret (v := .tuple #[.agg #[.int .i64 0, .int .i64 0, .int .i64 0, .int .i64 0, .int .i64 0, .int .i64 0, .bool false, .bool false], errno 11]) (by simp [results, Tryd.results23, go_sem, z0, z1, z2, z3, z4, z5, z6, z7, errno] <;> omega) rfl ⟨?_, ?_⟩
            · rw [E.out]; rfl
            · repeat (refine Below.setCell ?_ (by show _ ≤ w.heap.size + 1; omega) _)
              exact HB.out
          | true =>
            have E := hid (E.out.trans (if_pos (by simp)))
            have t0 := T.out.c0
            have t1 := T.out.c1
            have t2 := T.out.c2
            have t3 := T.out.c3
            have t4 := T.out.c4
            have t5 := T.out.c5
            have t6 := T.out.c6
            have t7 := T.out.c7
            go_wp2
            refine bodyPost_ret (v := .tuple #[.agg #[.int .i64 x0, .int .i64 x1, .int .i64 x2, .int .i64 x3, .int .i64 x4, .int .i64 x5, .bool b8, .bool u], .nilIface]) (by simp [results, Tryd.results23, go_sem, z0, z1, z2, z3, z4, z5, z6, z7] <;> omega) rfl ⟨?_, ?_⟩
            · rw [E.out]
            · repeat (refine Below.setCell ?_ (by show _ ≤ w.heap.size + 1; omega) _)
              exact HB.out
end Go.Proofs.YtefoajlmcdopiaaDoor
