/-
  The walk over the reference's Of.
-/
import Derived.Test.YtefoajlmcdopiaaDoorWe
import Derived.Deep.RegionHeld3
namespace Go.Proofs.YtefoajlmcdopiaaDoor
open Go.RowKit

set_option maxHeartbeats 1000000 in
theorem rof_out (n : Int) (w : World) (h : n < 1 ∨ 3652059 < n) : Calls Tryd.prog 42 #[.int .i64 n] w fun e w' => e = .returned (ofV n) ∧ Below w.heap.size w w' := by
  rw [ofV_out (by omega)]
  unfold dayV
  rcases h with h | h
  all_goals
    go_enter Tryd.func42, Tryd.ntmps42
    go_wp2
    exact bodyPost_ret (v := .agg #[.int .i64 0, .int .i64 0, .int .i64 0]) (by simp [results, Tryd.results42, go_sem]) rfl ⟨rfl, alloc_below _ _⟩
theorem guess (n : Int) (h1 : 1 ≤ n) : Gp.dby (1 + (n - 1) / 366) < n := by unfold Gp.dby; omega
theorem year_end (y n : Int) (h2 : n ≤ 3652059) (hd : Gp.dby y < n) : y ≤ 9999 := by
  rcases Int.lt_or_le 9999 y with h | h
  · have := Gp.dby_mono (show (10000 : Int) ≤ y by omega)
    rw [Gp.dby_10000] at this; omega
  · exact h
/-- What the loop over the months keeps. -/
structure Two (W : World) (g : Nat) (y k r : Int) (w : World) : Prop where
  z0 : w.cell? ⟨g, 0, none⟩ = some (.int .i64 0)
  z1 : w.cell? ⟨g, 1, none⟩ = some (.int .i64 0)
  z2 : w.cell? ⟨g, 2, none⟩ = some (.int .i64 0)
  zf : ∀ j, w.frozen? ⟨g, j, none⟩ = false
  c0 : w.cell? ⟨g + 1, 0, none⟩ = some (.int .i64 y)
  c1 : w.cell? ⟨g + 1, 1, none⟩ = some (.int .i64 k)
  c2 : w.cell? ⟨g + 1, 2, none⟩ = some (.int .i64 r)
  cf : ∀ j, w.frozen? ⟨g + 1, j, none⟩ = false
  bel : Below W.heap.size W w
  sz : g + 1 < w.heap.size
theorem Two.below {W w w' : World} {g : Nat} {y k r : Int} (h : Two W g y k r w) (hb : Below w.heap.size w w') : Two W g y k r w' :=
  ⟨(hb.cell (p := ⟨g, 0, none⟩) (by have := h.sz; simp; omega)).trans h.z0, (hb.cell (p := ⟨g, 1, none⟩) (by have := h.sz; simp; omega)).trans h.z1, (hb.cell (p := ⟨g, 2, none⟩) (by have := h.sz; simp; omega)).trans h.z2,
   fun j => (hb.frozen (p := ⟨g, j, none⟩) (by have := h.sz; simp; omega)).trans (h.zf j),
   (hb.cell (p := ⟨g + 1, 0, none⟩) h.sz).trans h.c0, (hb.cell (p := ⟨g + 1, 1, none⟩) h.sz).trans h.c1, (hb.cell (p := ⟨g + 1, 2, none⟩) h.sz).trans h.c2,
   fun j => (hb.frozen (p := ⟨g + 1, j, none⟩) h.sz).trans (h.cf j), h.bel.trans (hb.mono h.bel.size), Nat.lt_of_lt_of_le h.sz hb.size⟩
theorem Two.drew {W w : World} {g : Nat} {y k r : Int} (h : Two W g y k r w) : Two W g y k r w.drew :=
  ⟨h.z0, h.z1, h.z2, h.zf, h.c0, h.c1, h.c2, h.cf, h.bel.drew, h.sz⟩
theorem Two.date {W w : World} {g : Nat} {y k r : Int} (h : Two W g y k r w) (hg : W.heap.size ≤ g) (r' : Int) : Two W g y k r' (w.setCell ⟨g + 1, 2, none⟩ (.int .i64 r')) := by
  have o : ∀ b j, (b, j) ≠ (g + 1, 2) → (w.setCell ⟨g + 1, 2, none⟩ (.int .i64 r')).cell? ⟨b, j, none⟩ = w.cell? ⟨b, j, none⟩ := fun b j hn => World.cell?_setCell_other _ _ _ _ (by intro e; injection e with e1 e2; exact hn (by rw [e1, e2]))
  exact ⟨(o g 0 (by simp)).trans h.z0, (o g 1 (by simp)).trans h.z1, (o g 2 (by simp)).trans h.z2, fun j => by rw [World.frozen?_setCell]; exact h.zf j,
    (o (g + 1) 0 (by simp)).trans h.c0, (o (g + 1) 1 (by simp)).trans h.c1, World.cell?_setCell_same _ _ _ h.c2, fun j => by rw [World.frozen?_setCell]; exact h.cf j, h.bel.setCell (by show _ ≤ g + 1; omega) _, by rw [World.size_setCell]; exact h.sz⟩
theorem Two.month {W w : World} {g : Nat} {y k r : Int} (h : Two W g y k r w) (hg : W.heap.size ≤ g) (k' : Int) : Two W g y k' r (w.setCell ⟨g + 1, 1, none⟩ (.int .i64 k')) := by
  have o : ∀ b j, (b, j) ≠ (g + 1, 1) → (w.setCell ⟨g + 1, 1, none⟩ (.int .i64 k')).cell? ⟨b, j, none⟩ = w.cell? ⟨b, j, none⟩ := fun b j hn => World.cell?_setCell_other _ _ _ _ (by intro e; injection e with e1 e2; exact hn (by rw [e1, e2]))
  exact ⟨(o g 0 (by simp)).trans h.z0, (o g 1 (by simp)).trans h.z1, (o g 2 (by simp)).trans h.z2, fun j => by rw [World.frozen?_setCell]; exact h.zf j,
    (o (g + 1) 0 (by simp)).trans h.c0, World.cell?_setCell_same _ _ _ h.c1, (o (g + 1) 2 (by simp)).trans h.c2, fun j => by rw [World.frozen?_setCell]; exact h.cf j, h.bel.setCell (by show _ ≤ g + 1; omega) _, by rw [World.size_setCell]; exact h.sz⟩
theorem two_start (w : World) (y r : Int) : Two w w.heap.size y 1 r ((w.alloc (.cells #[.int .i64 0, .int .i64 0, .int .i64 0] 36)).alloc (.cells #[.int .i64 y, .int .i64 1, .int .i64 r] 36)) := by
  refine ⟨?_, ?_, ?_, ?_, ?_, ?_, ?_, ?_, by go_grown, by simp⟩
  · rw [World.cell?_alloc_past _ _ _ (by simp), World.cell?_alloc_at _ _ _ _ rfl]; rfl
  · rw [World.cell?_alloc_past _ _ _ (by simp), World.cell?_alloc_at _ _ _ _ rfl]; rfl
  · rw [World.cell?_alloc_past _ _ _ (by simp), World.cell?_alloc_at _ _ _ _ rfl]; rfl
  · intro j; exact World.frozen?_alloc2_first _ _ _ _
  · exact World.cell?_alloc_at _ _ _ _ (by simp)
  · exact World.cell?_alloc_at _ _ _ _ (by simp)
  · exact World.cell?_alloc_at _ _ _ _ (by simp)
  · intro j; exact World.frozen?_alloc2_new _ _ _ _
set_option maxHeartbeats 4000000 in
theorem rof_in (n : Int) (w : World) (h1 : 1 ≤ n) (h2 : n ≤ 3652059) : Calls Tryd.prog 42 #[.int .i64 n] w fun e w' => e = .returned (ofV n) ∧ Below w.heap.size w w' := by
  have g0 := guess n h1
  go_enter Tryd.func42, Tryd.ntmps42
  go_wp2
  go_loop [3] (fun v => ∃ y : Int, 1 ≤ y ∧ y ≤ 9999 ∧ v = .int .i64 y ∧ Gp.dby y < n) (fun v => (10000 - intOf v).toNat)
  case atStart => exact ⟨_, by omega, by omega, rfl, g0⟩
  case round =>
    obtain ⟨y, hy1, hy2, rfl, hd⟩ := hrel
    clear g0
    have hs := Gp.dby_succ y
    have hl := Gp.lp_01 y
    have hb := Gp.dby_bd (y := y) (by omega) (by omega)
    have A := hid (fun w => ahead_any (y + 1) w (by omega) (by omega))
    have A0 := hid (fun w => ahead_any y w hy1 (by omega))
    obtain ⟨q, hq⟩ : ∃ q, q = Gp.dby y := ⟨_, rfl⟩
    obtain ⟨q1, hq1⟩ : ∃ q, q = Gp.dby (y + 1) := ⟨_, rfl⟩
    rw [← hq] at A0 hb hd
    rw [← hq1] at A
    rw [← hq, ← hq1] at hs
    have HQ := hid hq; have HQ1 := hid hq1; have HS := hid hs
    have hq1b : q1 ≤ q + 366 := by omega
    have hq1b' : q + 365 ≤ q1 := by omega
    clear hq hq1 hs
    by_cases hlt : q1 < n
    · go_wp2_with fail
      refine (A.out _).mono ?_
      rintro e1 w1 ⟨rfl, rfl⟩
      go_wp2
      go_round
      case rel => exact ⟨y + 1, by omega, year_end (y + 1) n h2 (by rw [← HQ1.out]; exact hlt), rfl, by rw [← HQ1.out]; exact hlt⟩
      case measure => simp [intOf]; omega
    · go_wp2_with fail
      refine (A.out _).mono ?_
      rintro e1 w1 ⟨rfl, rfl⟩
      go_wp2_with fail
      refine (A0.out _).mono ?_
      rintro e1 w1 ⟨rfl, rfl⟩
      go_wp2_with fail
      obtain ⟨g, hg⟩ : ∃ g, g = w.heap.size := ⟨_, rfl⟩
      rw [← hg]
      have HG := hid hg
      go_loopw [29] (fun _ wr => ∃ k : Int, 1 ≤ k ∧ k ≤ 12 ∧ 1 ≤ n - q - Gp.cum y k ∧ Two w g y k (n - q - Gp.cum y k) wr)
        (fun _ wr => (13 - intOf ((wr.cell? ⟨g + 1, 1, none⟩).getD undef)).toNat)
      case atStart =>
        subst hg
        exact ⟨1, by omega, by omega, by rw [cum_1]; omega, by rw [cum_1, Int.sub_zero]; exact two_start _ _ _⟩
      case round =>
        have hgl := Nat.le_of_eq hg.symm
        clear hg
        obtain ⟨k, hk1, hk2, hr, h2⟩ := hrel
        have L := hid (rlong_any y k)
        rw [Gp.long_in hy1 hy2 hk1 hk2] at L
        have ml := Gp.mlen_bd y k
        have cb := Gp.cum_bd y k hk1 (by omega)
        have CS := hid (Gp.cum_succ y k hk1 hk2)
        have CL := hid (Gp.cum_le y k hk1 hk2)
        obtain ⟨r, hr'⟩ : ∃ r, r = n - q - Gp.cum y k := ⟨_, rfl⟩
        rw [← hr'] at hr h2
        have HR := hid hr'
        have hrb : r ≤ 366 := by omega
        obtain ⟨M, hM⟩ : ∃ M, M = Gp.mlen y k := ⟨_, rfl⟩
        rw [← hM] at L ml
        have HM := hid hM
        clear hM hr'
        have H2 := hid h2
        have c1 := h2.c1
        have c2 := h2.c2
        have hsz := h2.sz
        have hgb := h2.bel.size
        have MEAS : Hid ((wr.cell? ⟨g + 1, 1, none⟩).getD undef = .int .i64 k) := by show _ = _; rw [c1]; rfl
        clear h2
        go_wp2_with fail
        go_region_held3 (fun w' => w'.cell? ⟨g + 1, 1, none⟩ = some (.int .i64 k) ∧ w'.cell? ⟨g + 1, 2, none⟩ = some (.int .i64 r)) (first | exact ⟨c1, c2⟩ | exact ⟨k1, k2⟩) (first | (go_at_call 56; refine (L.out _).mono ?_; rintro e1 w2 ⟨rfl, hb2⟩; have X2 := hid (H2.out.drew.below hb2); have k1 := X2.out.c1; have k2 := X2.out.c2))
        clear c1 c2 hsz
        have hsz2 := X2.out.sz
        by_cases hle : r ≤ M
        · have z0 := X2.out.z0
          have z1 := X2.out.z1
          have z2 := X2.out.z2
          have zf := X2.out.zf
          have c0 := X2.out.c0
          have hright := Gp.right_of hy1 hy2 hk1 hk2 hr (by rw [← HM.out]; exact hle)
          have huni := Gp.of_unique hright (n := n) (by unfold Gp.num; rw [← HQ.out]; have := HR.out; omega)
          have e := hid (show ofV n = dayV y k r by rw [ofV_in h1 h2, ← huni.1, ← huni.2.1, ← huni.2.2])
          clear hright huni
          have c1 := X2.out.c1
          have c2 := X2.out.c2
          unfold dayV at e
          go_wp2_with fail
          refine bodyPost_ret (v := .agg #[.int .i64 y, .int .i64 k, .int .i64 r]) (by simp [results, Tryd.results42, go_sem, z0, z1, z2]) rfl ⟨by rw [e.out], ?_⟩
          exact ((X2.out.bel.setCell (by exact hgl) _).setCell (by exact hgl) _).setCell (by exact hgl) _
        · have ew : IntKind.i64.wrap (r - M) = r - M := IntWalk.i64_in _ (by omega)
          have f1 := X2.out.cf 1
          have f2 := X2.out.cf 2
          go_wp2_with fail
          go_region_with (go_at_call 56; refine (L.out _).mono ?_; rintro e1 w3 ⟨rfl, hb3⟩; have X3 := hid (X2.out.drew.below hb3); have m1 := X3.out.c1; have m2 := X3.out.c2; have mf1 := X3.out.cf 1; have mf2 := X3.out.cf 2)
          all_goals
            clear ew f1 f2 m1 m2 mf1 mf2
            have X4 := hid (X3.out.date hgl (r - M))
            have n1 := X4.out.c1
            have nf1 := X4.out.cf 1
            go_wp2
            have X5 := X4.out.month hgl (k + 1)
            have hk12 : k + 1 ≤ 12 := by
              rcases Int.lt_or_le 11 k with h | h
              · have h12 : k = 12 := by omega
                have := CS.out
                have := HM.out; have := HR.out; have := HS.out
                subst h12
                have c13 : Gp.cum y (12 + 1) = 365 + Gp.lp y := Gp.cum_13 y
                omega
              · omega
            have hnext : n - q - Gp.cum y (k + 1) = r - M := by rw [CS.out, HM.out, HR.out]; omega
            go_roundw
            case rel => exact ⟨k + 1, by omega, hk12, by rw [hnext]; omega, by rw [hnext]; exact X5⟩
            case measure => rw [X5.c1, MEAS.out]; simp [intOf]; omega
theorem rof_any (n : Int) (w : World) : Calls Tryd.prog 42 #[.int .i64 n] w fun e w' => e = .returned (ofV n) ∧ Below w.heap.size w w' := by
  by_cases h : n < 1 ∨ 3652059 < n
  · exact rof_out n w h
  · exact rof_in n w (by omega) (by omega)
end Go.Proofs.YtefoajlmcdopiaaDoor
