/- FitOrder returns true: the walk. No condition. -/
import Derived.Test.YtnillajhhimeiaaFtA
namespace Go.Proofs.Ytnillajhhimeiaa
open Go.RowKit

/-- the slice is n rational numbers whose parts have these lengths -/
def Ru (N : Nat) (w : World) (a : Option Addr) (n cap : Nat) (q : Nat → Rat) (ln ld : Nat → Nat) : Prop :=
  n ≤ cap ∧ cap ≤ maxLen ∧ (0 < n → ∃ b off, a = some ⟨b, off, none⟩ ∧ ∀ i, i < n → ∃ s ra rc da dc mn md, w.cell? ⟨b, off + i * 3, none⟩ = some (.bool s) ∧ w.cell? ⟨b, off + i * 3 + 1, none⟩ = some (.slice ra (ln i) rc) ∧ w.cell? ⟨b, off + i * 3 + 2, none⟩ = some (.slice da (ld i) dc) ∧ Nt N w ra (ln i) rc mn ∧ Nt N w da (ld i) dc md ∧ mkRat (zI s mn) md = q i)
theorem Ru.rs {N : Nat} {w : World} {a : Option Addr} {n cap : Nat} {q : Nat → Rat} {ln ld : Nat → Nat} (h : Ru N w a n cap q ln ld) (L : Nat) (h1 : 1 ≤ L) (hl : ∀ i, i < n → ln i ≤ L ∧ ld i ≤ L) : Rs N w a n cap q L := by
  obtain ⟨h0, hm, hc⟩ := h
  refine ⟨h0, hm, fun hn => ?_⟩
  obtain ⟨b, off, e, ho⟩ := hc hn
  refine ⟨b, off, e, fun i hi => ?_⟩
  obtain ⟨s, ra, rc, da, dc, mn, md, g0, g1, g2, n1, n2, hq⟩ := ho i hi
  exact ⟨s, ra, _, rc, da, _, dc, g0, g1, g2, h1, (hl i hi).1, (hl i hi).2, mn, md, n1, n2, hq⟩
theorem Try.underBoolsF : Try.prog.underlying 22 = some (.slice 4) := by kernel_rfl
theorem Try.infoBoolF : (Try.prog.info? 4).map (fun i => (i.zero, i.size, i.bytes)) = some (some (.bool false), 1, 1) := by kernel_rfl
theorem make_boolsF (n : Nat) (h : n ≤ 100000) (w : World) :
    (Instr.makeSlice 22 (.int .i64 (n : Int)) (.int .i64 (n : Int))).run Try.prog w = .ok (.slice (some ⟨w.heap.size, 0, none⟩) n n) (w.alloc (.cells (madeCells #[.bool false] n) 4)) :=
  run_make_row' (P := Try.prog) 22 4 (.bool false) 1 Try.underBoolsF Try.infoBoolF rfl .i64 .i64 n (by omega) (by omega) w
theorem rnk_stepT {T : Nat → Nat → Bool} (hO : Ord T) {n : Nat} {d : Nat → Nat} (hp : Prm n d) (hs : Srt T 0 n d) {r : Nat} (hr : r < n) {j : Nat} (hj : j < n) : decide (rnk T n j < r + 1) = if j = d r then true else decide (rnk T n j < r) := by
  obtain ⟨s, hs1, rfl⟩ := hp.surj j hj
  rw [Srt.rnk hO hp hs hs1]
  by_cases e : s = r
  · subst e; rw [if_pos rfl, decide_eq_true (by omega)]
  · rw [if_neg (fun h => e (hp.inj s r hs1 hr h))]
    by_cases h : s < r
    · rw [decide_eq_true h, decide_eq_true (by omega)]
    · rw [decide_eq_false h, decide_eq_false (by omega)]
theorem cmp_beqF (p q : Rat) (v : Bool) (h : decide (p = q) = v) : (cmpQ p q == 0) = v := by
  rw [← h]
  unfold cmpQ
  by_cases h1 : p < q
  · rw [if_pos h1, decide_eq_false (by grind)]; rfl
  · rw [if_neg h1]
    by_cases h2 : q < p
    · rw [if_pos h2, decide_eq_false (by grind)]; rfl
    · rw [if_neg h2, decide_eq_true (by grind)]; rfl

set_option maxHeartbeats 2000000 in
set_option maxRecDepth 100000 in
theorem null_bad {N : Nat} (a : Option Addr) (n cap : Nat) (q : Nat → Rat) (L : Nat) (w : World) (hN : N ≤ w.heap.size) (h : Rs N w a n cap q L) (hL : L ≤ 2097152) (c : Int) (hc : chkF q n = c) (h0 : c ≠ 0) :
    Calls Try.prog 11 #[.slice a n cap] w (ErrPost w c) := by
  have HC := Lib.hid hc
  have z0 : (c == 0) = false := by simpa using h0
  clear hc
  have HA := Lib.hid h
  have bc := h.1
  have bm := h.2.1
  unfold maxLen at bm
  clear h
  have hN0 := hN
  have HB := Lib.hid (Below.refl w.heap.size w)
  go_enter Try.func11, Try.ntmps11
  go_wp2_with fail
  refine calls_name fun W0 hW => ?_
  have hs_W0 : w.heap.size ≤ W0.heap.size := by rw [← hW]; (first | omega | (simp; done) | (simp; omega))
  have HL_W0 := Lib.hid (show Below w.heap.size w W0 by rw [← hW]; exact BlA)
  replace HB := Lib.hid (show Below w.heap.size w W0 by rw [← hW]; exact BlA)
  replace hN : N ≤ W0.heap.size := by rw [← hW]; (first | omega | (simp; done) | (simp; omega))
  have hs0 : w.heap.size ≤ W0.heap.size := by rw [← hW]; (first | omega | (simp; done) | (simp; omega))
  replace HA := Lib.hid (HA.out.below HL_W0.out)
  clear HL_W0
  clear hW
  refine (fcheck_any (N := N) _ n _ q L _ hN HA.out hL c HC.out).mono ?_
  rintro e wa ⟨rfl, hb⟩
  have hs_wa : W0.heap.size ≤ wa.heap.size := hb.size
  replace HB := Lib.hid (HB.out.trans (hb.mono hs0))
  replace hN : N ≤ wa.heap.size := Nat.le_trans hN hb.size
  replace hs0 : w.heap.size ≤ wa.heap.size := Nat.le_trans hs0 hb.size
  replace HA := Lib.hid (HA.out.below hb)
  clear hb
  go_wp2_with fail
  go_ret2
  exact ⟨rfl, HB.out⟩

set_option maxHeartbeats 2000000 in
set_option maxRecDepth 100000 in
theorem null_long (a : Option Addr) (n cap : Nat) (w : World) (bc : n ≤ cap) (bm : cap ≤ maxLen) (hn : 20 < n) :
    Calls Try.prog 11 #[.slice a n cap] w (ErrPost w 5) := by
  have HB := Lib.hid (Below.refl w.heap.size w)
  go_enter Try.func11, Try.ntmps11
  go_wp2_with fail
  refine calls_name fun W0 hW => ?_
  have hs_W0 : w.heap.size ≤ W0.heap.size := by rw [← hW]; (first | omega | (simp; done) | (simp; omega))
  replace HB := Lib.hid (show Below w.heap.size w W0 by rw [← hW]; exact BlA)
  have hs0 : w.heap.size ≤ W0.heap.size := by rw [← hW]; (first | omega | (simp; done) | (simp; omega))
  clear hW
  refine (fcheck_long _ n _ _ bc bm hn).mono ?_
  rintro e wa ⟨rfl, hb⟩
  have hs_wa : W0.heap.size ≤ wa.heap.size := hb.size
  replace HB := Lib.hid (HB.out.trans (hb.mono hs0))
  replace hs0 : w.heap.size ≤ wa.heap.size := Nat.le_trans hs0 hb.size
  clear hb
  go_wp2_with fail
  go_ret2
  exact ⟨rfl, HB.out⟩

set_option maxHeartbeats 2000000 in
set_option maxRecDepth 100000 in
theorem order_long (a : Option Addr) (n cap : Nat) (w : World) (bc : n ≤ cap) (bm : cap ≤ maxLen) (hn : 20 < n) :
    Calls Try.prog 22 #[.slice a n cap] w (ErrPost w 5) := by
  have HB := Lib.hid (Below.refl w.heap.size w)
  go_enter Try.func22, Try.ntmps22
  go_wp2_with fail
  refine calls_name fun W0 hW => ?_
  have hs_W0 : w.heap.size ≤ W0.heap.size := by rw [← hW]; (first | omega | (simp; done) | (simp; omega))
  have k_S_0 : W0.cell? ⟨w.heap.size, 0, none⟩ = some (.slice a n cap) := by rw [← hW]; (first | (go_simp; done) | (simp; done) | (simp [go_sem]; done) | (simp [go_sem]; done))
  have f_S : ∀ o, W0.frozen? ⟨w.heap.size, o, none⟩ = false := by intro o; rw [← hW]; (first | (go_simp; done) | (simp; done) | (simp [go_sem]; done) | (simp [go_sem]; done))
  have HX_S := Lib.hid (show Bn W0 (w.heap.size) by rw [← hW]; exact KpA)
  replace HB := Lib.hid (show Below w.heap.size w W0 by rw [← hW]; exact BlA)
  have hs0 : w.heap.size ≤ W0.heap.size := by rw [← hW]; (first | omega | (simp; done) | (simp; omega))
  have hl_S : w.heap.size < W0.heap.size := by rw [← hW]; (first | omega | (simp; done) | (simp; omega))
  clear hW
  refine (fcheck_long _ n _ _ bc bm hn).mono ?_
  rintro e wa ⟨rfl, hb⟩
  have hs_wa : W0.heap.size ≤ wa.heap.size := hb.size
  replace k_S_0 : wa.cell? ⟨w.heap.size, 0, none⟩ = some (.slice a n cap) := (hb.cell (p := ⟨w.heap.size, 0, none⟩) hl_S).trans k_S_0
  replace f_S : ∀ o, wa.frozen? ⟨w.heap.size, o, none⟩ = false := fun o => (hb.frozen (p := ⟨w.heap.size, o, none⟩) hl_S).trans (f_S o)
  replace HX_S := Lib.hid (HX_S.out.below hb)
  replace HB := Lib.hid (HB.out.trans (hb.mono hs0))
  replace hs0 : w.heap.size ≤ wa.heap.size := Nat.le_trans hs0 hb.size
  replace hl_S : w.heap.size < wa.heap.size := Nat.lt_of_lt_of_le hl_S hb.size
  clear hb
  go_wp2_with fail
  go_ret2
  exact ⟨rfl, HB.out⟩

set_option maxHeartbeats 8000000 in
set_option maxRecDepth 100000 in
theorem ford_any {N : Nat} (a : Option Addr) (n cap : Nat) (q : Nat → Rat) (ln ld : Nat → Nat) (w : World) (hN : N ≤ w.heap.size) (h : Ru N w a n cap q ln ld) :
    Calls Try.prog 6 #[.slice a n cap] w fun e w' => e = .returned (.bool true) ∧ Below w.heap.size w w' := by
  have HU := Lib.hid h
  have bc := h.1
  have bm := h.2.1
  have BM := Lib.hid bm
  unfold maxLen at bm
  clear h
  have mk2 := fun m (hm : m ≤ 100000) w => make_boolsF m hm w
  go_enter Try.func6, Try.ntmps6
  go_wp2_with fail
  go_loopw [3] (fun i wr => ∃ k : Nat, k ≤ n ∧ k ≤ 30 ∧ i = .int .i64 k ∧ wr = w ∧ Hid (∀ j, j < k → ln j ≤ 20 ∧ ld j ≤ 20)) (fun i _ => 30 - (intOf i).toNat)
  case atStart => exact ⟨0, Nat.zero_le _, by omega, rfl, rfl, Lib.hid (fun j hj => by omega)⟩
  case round =>
    obtain ⟨k, hk, hk30, rfl, rfl, hin⟩ := hrel
    by_cases hkn : k < n
    · by_cases hk3 : k < 30
      · obtain ⟨b, off, rfl, ho⟩ := HU.out.2.2 (by omega)
        obtain ⟨sk, ra, rc, da, dc, mn, md, g0, g1, g2, _, _, _⟩ := ho k hkn
        have hkz : (k : Int) < (n : Int) := by omega
        have hk3 : (k : Int) < 30 := by omega
        obtain ⟨l1, hl1⟩ : ∃ l, ln k = l := ⟨_, rfl⟩
        obtain ⟨l2, hl2⟩ : ∃ l, ld k = l := ⟨_, rfl⟩
        rw [hl1] at g1
        rw [hl2] at g2
        have HL1 := Lib.hid hl1
        have HL2 := Lib.hid hl2
        clear ho hl1 hl2
        by_cases h1 : 20 < l1
        · go_wp2_with fail
          go_ret
          exact ⟨rfl, Below.refl _ _⟩
        · by_cases h2 : 20 < l2
          · go_wp2_with fail
            go_ret
            exact ⟨rfl, Below.refl _ _⟩
          · go_wp2_with fail
            go_roundw
            case rel => exact ⟨k + 1, by omega, by omega, by go_num, by first | rfl | trivial, Lib.hid (fun j hj => by by_cases e : j = k; (· subst e; rw [HL1.out, HL2.out]; omega); (· exact hin.out j (by omega)))⟩
            case measure => simp [intOf]; omega
      · obtain rfl : k = 30 := by omega
        have HB := Lib.hid (Below.refl wr.heap.size wr)
        have h20 : 20 < n := by omega
        go_wp2_with fail
        refine calls_name fun W1 hW => ?_
        have hs_W1 : wr.heap.size ≤ W1.heap.size := by rw [← hW]; (first | omega | (simp; done) | (simp; omega))
        replace HB := Lib.hid (show Below wr.heap.size wr W1 by rw [← hW]; exact BlA)
        have hs0 : wr.heap.size ≤ W1.heap.size := by rw [← hW]; (first | omega | (simp; done) | (simp; omega))
        clear hW
        refine (order_long _ n _ _ bc BM.out h20).mono ?_
        rintro e wa ⟨rfl, hb⟩
        have hs_wa : W1.heap.size ≤ wa.heap.size := hb.size
        replace HB := Lib.hid (HB.out.trans (hb.mono hs0))
        replace hs0 : wr.heap.size ≤ wa.heap.size := Nat.le_trans hs0 hb.size
        clear hb
        go_wp2_with fail
        refine calls_name fun W2 hW => ?_
        have hs_W2 : wa.heap.size ≤ W2.heap.size := by rw [← hW]; (first | omega | (simp; done) | (simp; omega))
        replace HB := Lib.hid (show Below wr.heap.size wr W2 by rw [← hW]; exact BlA)
        replace hs0 : wr.heap.size ≤ W2.heap.size := by rw [← hW]; (first | omega | (simp; done) | (simp; omega))
        clear hW
        refine (null_long _ n _ _ bc BM.out h20).mono ?_
        rintro e wb ⟨rfl, hb⟩
        have hs_wb : W2.heap.size ≤ wb.heap.size := hb.size
        replace HB := Lib.hid (HB.out.trans (hb.mono hs0))
        replace hs0 : wr.heap.size ≤ wb.heap.size := Nat.le_trans hs0 hb.size
        clear hb
        go_wp2_with fail
        go_ret
        exact ⟨rfl, HB.out⟩
    · obtain rfl : n = k := by omega
      have HA := Lib.hid (HU.out.rs 20 (by omega) hin.out)
      have hNw := hN
      have HB := Lib.hid (Below.refl wr.heap.size wr)
      by_cases hc : chkF q n = 0
      · have HC := Lib.hid hc
        obtain ⟨h20, _⟩ := chkF_ok hc
        clear hc
        have mk3 := fun w => mk2 n (by omega) w
        clear mk2
        go_wp2_with fail
        refine calls_name fun W1 hW => ?_
        have hs_W1 : wr.heap.size ≤ W1.heap.size := by rw [← hW]; (first | omega | (simp; done) | (simp; omega))
        have HL_W1 := Lib.hid (show Below wr.heap.size wr W1 by rw [← hW]; exact BlA)
        replace HB := Lib.hid (show Below wr.heap.size wr W1 by rw [← hW]; exact BlA)
        replace hN : N ≤ W1.heap.size := by rw [← hW]; (first | omega | (simp; done) | (simp; omega))
        have hs0 : wr.heap.size ≤ W1.heap.size := by rw [← hW]; (first | omega | (simp; done) | (simp; omega))
        replace HA := Lib.hid (HA.out.below HL_W1.out)
        clear HL_W1
        clear hW
        refine (order_ok (N := N) _ n _ q 20 _ hN HA.out (by omega) HC.out).mono ?_
        rintro e wa ⟨b, d, rfl, hb1, hb2, hdk, hpm, hst, hb⟩
        have hs_wa : W1.heap.size ≤ wa.heap.size := hb.size
        replace HB := Lib.hid (HB.out.trans (hb.mono hs0))
        replace hN : N ≤ wa.heap.size := Nat.le_trans hN hb.size
        replace hs0 : wr.heap.size ≤ wa.heap.size := Nat.le_trans hs0 hb.size
        replace HA := Lib.hid (HA.out.below hb)
        clear hb
        have HDK := Lib.hid hdk
        have HPM := Lib.hid hpm
        have HST := Lib.hid hst
        have HRK := Lib.hid (fun r (hr : r < n) => Srt.rnk (gtQ_weak q).ord hpm hst hr)
        clear hdk hpm hst
        go_wp2_with fail
        go_loopw [9, 10] (fun i _ wq => ∃ r : Nat, r ≤ n ∧ i = .int .i64 r ∧ wq.rowIs wa.heap.size 4 n (fun v => .bool (decide (rnk (keyT (gtQ q)) n v < r))) ∧ Below wa.heap.size wa wq) (fun i _ _ => n - (intOf i).toNat)
        case atStart => exact ⟨0, Nat.zero_le _, rfl, (World.rowIs_made wa (.bool false) n 4).congr (fun j hj => by simp), bel1 _ _⟩
        case round =>
          obtain ⟨r, hr, rfl, hrow, hbel⟩ := hrel
          have HRW := Lib.hid hrow
          have HBZ := Lib.hid hbel
          have hsz2 := hbel.size
          have hlr := World.rowIs.lt hrow
          clear hrow
          by_cases hrn : r < n
          · have c1 := (hbel.cell (p := ⟨b, r, none⟩) hb2).trans (HDK.out r hrn)
            obtain ⟨x, ex⟩ : ∃ x, d r = x := ⟨_, rfl⟩
            have hx : x < n := by rw [← ex]; exact HPM.out.lt r hrn
            have hrx : rnk (keyT (gtQ q)) n x = r := by rw [← ex]; exact HRK.out r hrn
            rw [ex] at c1
            have EX := Lib.hid ex
            have c2 := World.rowIs.cell HRW.out hx
            rw [hrx, decide_eq_false (by omega)] at c2
            have f2 := World.rowIs.frozen HRW.out x
            have hxz : (x : Int) < (n : Int) := by omega
            have hx0 : ¬ (x : Int) < 0 := by omega
            have hrz : (r : Int) < (n : Int) := by omega
            have hnb : b ≠ wa.heap.size := by omega
            clear ex hrx
            by_cases hr0 : r = 0
            · have hr1 : ¬ 0 < (r : Int) := by omega
              clear hbel hr0
              go_wp2_with fail
              go_roundw
              case rel => exact ⟨r + 1, by omega, by go_num, (World.rowIs.set HRW.out x _).congr (fun j hj => by rw [rnk_stepT (gtQ_weak q).ord HPM.out HST.out hrn hj, EX.out]; by_cases e : j = x; (· rw [if_pos e, if_pos e]); (· rw [if_neg e, if_neg e])), HBZ.out.setCell (Nat.le_refl _) _⟩
              case measure => simp [intOf]; omega
            · obtain ⟨m, hm⟩ : ∃ m, r - 1 = m := ⟨_, rfl⟩
              have hmn : m < n := by omega
              have hr1 : 0 < (r : Int) := by omega
              have hwm : IntKind.i64.wrap ((r : Int) - 1) = (m : Int) := by rw [IntKind.wrap_i64]; omega
              have hwm2 : IntKind.i64.wrap (m : Int) = (m : Int) := by rw [IntKind.wrap_i64]; omega
              have hmz : (m : Int) < (n : Int) := by omega
              have c3 := (hbel.cell (p := ⟨b, m, none⟩) hb2).trans (HDK.out m hmn)
              obtain ⟨y, ey⟩ : ∃ y, d m = y := ⟨_, rfl⟩
              have hy : y < n := by rw [← ey]; exact HPM.out.lt m hmn
              rw [ey] at c3
              have hyz : (y : Int) < (n : Int) := by omega
              have HGT := Lib.hid (show q x < q y ∨ (q x = q y ∧ y < x) by rw [← EX.out, ← ey]; exact gt_key (HST.out m r (Nat.zero_le _) (by omega) hrn))
              clear ey hm
              have HAr := Lib.hid (HA.out.below hbel)
              have hN9 : N ≤ wr.heap.size := by omega
              obtain ⟨b0, off, rfl, ho⟩ := HAr.out.2.2 (by omega)
              obtain ⟨sy, ry, rny, rcy, dy, dny, dcy, gy0, gy1, gy2, hyt⟩ := ho y hy
              obtain ⟨sx, rx, rnx, rcx, dx, dnx, dcx, gx0, gx1, gx2, hxt⟩ := ho x hx
              have hle : b0 < wr.heap.size := World.block_lt_of_cell? wr _ gx0
              have hlB : b0 < wa.heap.size := by have := HA.out.2.2 (by omega); obtain ⟨b9, o9, e9, k9⟩ := this; cases e9; exact World.block_lt_of_cell? wa _ (k9 x hx).choose_spec.choose_spec.choose_spec.choose_spec.choose_spec.choose_spec.choose_spec.1
              have HSET := Lib.hid (show Kp N wr (wr.setCell ⟨wa.heap.size, x, none⟩ (.bool true)) from (Kp.refl _ _).set (by omega) (T := 4) (by obtain ⟨c, h1, _⟩ := HRW.out; exact ⟨c, _, h1⟩) (by decide) _)
              have HX := Lib.hid (hxt.keep HSET.out)
              have HY := Lib.hid (hyt.keep HSET.out)
              have HRW3 := Lib.hid ((World.rowIs.set HRW.out x (.bool true)).congr (g := fun v => .bool (decide (rnk (keyT (gtQ q)) n v < r + 1))) (fun j hj => by rw [rnk_stepT (gtQ_weak q).ord HPM.out HST.out hrn hj, EX.out]; by_cases e : j = x; (· rw [if_pos e, if_pos e]); (· rw [if_neg e, if_neg e])))
              have HBZ3 := Lib.hid (HBZ.out.setCell (Nat.le_refl _) (p := ⟨wa.heap.size, x, none⟩) (.bool true))
              have hso : ∀ (p : Addr) v, p.block ≠ wa.heap.size → wr.cell? p = some v → (wr.setCell ⟨wa.heap.size, x, none⟩ (.bool true)).cell? p = some v := fun p v hp hv => (World.cell?_setCell_other _ _ _ _ (by rintro rfl; exact hp rfl)).trans hv
              have HSO := Lib.hid hso
              clear ho hxt hyt hso hbel HAr
              rcases HGT.out with hg | ⟨hg, hg2⟩
              · obtain ⟨κ, hκ⟩ : ∃ κ, cmpQ (q y) (q x) = κ := ⟨_, rfl⟩
                have d1 : decide (κ < 0) = false := by rw [← hκ]; exact decide_eq_false (fun hh => by have := (cmp_negF _ _).1 hh; grind)
                have d2 : (κ == 0) = false := by rw [← hκ]; exact cmp_beqF _ _ _ (decide_eq_false (by grind))
                have HK := Lib.hid hκ
                clear hκ
                go_wp2_with fail
                refine region_name fun W3 hW => ?_
                have c3' : W3.cell? ⟨b, m, none⟩ = some (.int .i64 ((y : Nat) : Int)) := by rw [← hW]; exact HSO.out _ _ (by first | exact hnb | (dsimp only; omega)) c3
                have c1' : W3.cell? ⟨b, r, none⟩ = some (.int .i64 ((x : Nat) : Int)) := by rw [← hW]; exact HSO.out _ _ (by first | exact hnb | (dsimp only; omega)) c1
                have gy0' : W3.cell? ⟨b0, off + y * 3, none⟩ = some (.bool sy) := by rw [← hW]; exact HSO.out _ _ (by first | exact hnb | (dsimp only; omega)) gy0
                have gy1' : W3.cell? ⟨b0, off + y * 3 + 1, none⟩ = some (.slice ry rny rcy) := by rw [← hW]; exact HSO.out _ _ (by first | exact hnb | (dsimp only; omega)) gy1
                have gy2' : W3.cell? ⟨b0, off + y * 3 + 2, none⟩ = some (.slice dy dny dcy) := by rw [← hW]; exact HSO.out _ _ (by first | exact hnb | (dsimp only; omega)) gy2
                have gx0' : W3.cell? ⟨b0, off + x * 3, none⟩ = some (.bool sx) := by rw [← hW]; exact HSO.out _ _ (by first | exact hnb | (dsimp only; omega)) gx0
                have gx1' : W3.cell? ⟨b0, off + x * 3 + 1, none⟩ = some (.slice rx rnx rcx) := by rw [← hW]; exact HSO.out _ _ (by first | exact hnb | (dsimp only; omega)) gx1
                have gx2' : W3.cell? ⟨b0, off + x * 3 + 2, none⟩ = some (.slice dx dnx dcx) := by rw [← hW]; exact HSO.out _ _ (by first | exact hnb | (dsimp only; omega)) gx2
                have HX' := Lib.hid (show Rt N W3 _ _ _ _ _ _ _ _ 20 by rw [← hW]; exact HX.out)
                have HY' := Lib.hid (show Rt N W3 _ _ _ _ _ _ _ _ 20 by rw [← hW]; exact HY.out)
                have HRW' := Lib.hid (show W3.rowIs wa.heap.size 4 n (fun v => .bool (decide (rnk (keyT (gtQ q)) n v < r + 1))) by rw [← hW]; exact HRW3.out)
                have HBZ' := Lib.hid (show Below wa.heap.size wa W3 by rw [← hW]; exact HBZ3.out)
                have hN : N ≤ W3.heap.size := by rw [← hW]; simp [World.setCell]; omega
                have hle' : b0 < W3.heap.size := by rw [← hW]; simp [World.setCell]; omega
                have hlb : b < W3.heap.size := by rw [← hW]; simp [World.setCell]; omega
                have hsW : wa.heap.size ≤ W3.heap.size := by rw [← hW]; simp [World.setCell]; omega
                clear hW HX HY HRW HRW3 HBZ HBZ3 HSET HSO c1 c2 c3 f2 gx0 gx1 gx2 gy0 gy1 gy2 hle hlr hsz2
                have c3 := c3'
                have c1 := c1'
                have gy0 := gy0'
                have gy1 := gy1'
                have gy2 := gy2'
                have gx0 := gx0'
                have gx1 := gx1'
                have gx2 := gx2'
                have HX := HX'
                have HY := HY'
                have HRW := HRW'
                have HBZ := HBZ'
                have hle := hle'
                clear c3' c1' gy0' gy1' gy2' gx0' gx1' gx2' HX' HY' HRW' HBZ' hle'
                have HB := Lib.hid (Below.refl W3.heap.size W3)
                have hs0 : W3.heap.size ≤ W3.heap.size := Nat.le_refl _
                go_region_held3 (fun w' => w'.cell? ⟨b, m, none⟩ = some (.int .i64 ((y : Nat) : Int)) ∧ w'.cell? ⟨b, r, none⟩ = some (.int .i64 ((x : Nat) : Int)) ∧ w'.cell? ⟨b0, off + y * 3, none⟩ = some (.bool sy) ∧ w'.cell? ⟨b0, off + y * 3 + 1, none⟩ = some (.slice ry rny rcy) ∧ w'.cell? ⟨b0, off + y * 3 + 2, none⟩ = some (.slice dy dny dcy) ∧ w'.cell? ⟨b0, off + x * 3, none⟩ = some (.bool sx) ∧ w'.cell? ⟨b0, off + x * 3 + 1, none⟩ = some (.slice rx rnx rcx) ∧ w'.cell? ⟨b0, off + x * 3 + 2, none⟩ = some (.slice dx dnx dcx))
                  (first | (go_keep; done) | ((try dsimp only); (repeat' apply And.intro) <;> (first | (go_keep; done) | (exact cell_keep_alloc_drew (by first | omega | (simp; omega)) (by first | assumption | go_simp)) | (exact cell_keep_alloc (by first | omega | (simp; omega)) (by first | assumption | go_simp)) | (rw [cell_set2 _ _ _ _ _ _ _ _ (by omega)]; assumption) | (rw [cell_set3 _ _ _ _ _ _ _ _ _ _ (by omega)]; assumption))))
                  (first
                    | (go_at_call 14; refine (rcmp_any (N := N) _ _ _ _ _ _ _ _ _ _ _ _ _ _ 20 20 (q y) (q x) _ (by exact hN) (by exact HY.out) (by exact HX.out) (by omega) (by omega)).mono ?_; rw [HK.out]; rintro e wc ⟨rfl, hb⟩; replace hb : Below W3.heap.size W3 wc := (by first | exact hb | exact bel_of_drew hb); have c3' : wc.cell? ⟨b, m, none⟩ = some (.int .i64 ((y : Nat) : Int)) := (hb.cell (p := ⟨b, m, none⟩) hlb).trans c3; have c1' : wc.cell? ⟨b, r, none⟩ = some (.int .i64 ((x : Nat) : Int)) := (hb.cell (p := ⟨b, r, none⟩) hlb).trans c1; have gy0' : wc.cell? ⟨b0, off + y * 3, none⟩ = some (.bool sy) := (hb.cell (p := ⟨b0, off + y * 3, none⟩) hle).trans gy0; have gy1' : wc.cell? ⟨b0, off + y * 3 + 1, none⟩ = some (.slice ry rny rcy) := (hb.cell (p := ⟨b0, off + y * 3 + 1, none⟩) hle).trans gy1; have gy2' : wc.cell? ⟨b0, off + y * 3 + 2, none⟩ = some (.slice dy dny dcy) := (hb.cell (p := ⟨b0, off + y * 3 + 2, none⟩) hle).trans gy2; have gx0' : wc.cell? ⟨b0, off + x * 3, none⟩ = some (.bool sx) := (hb.cell (p := ⟨b0, off + x * 3, none⟩) hle).trans gx0; have gx1' : wc.cell? ⟨b0, off + x * 3 + 1, none⟩ = some (.slice rx rnx rcx) := (hb.cell (p := ⟨b0, off + x * 3 + 1, none⟩) hle).trans gx1; have gx2' : wc.cell? ⟨b0, off + x * 3 + 2, none⟩ = some (.slice dx dnx dcx) := (hb.cell (p := ⟨b0, off + x * 3 + 2, none⟩) hle).trans gx2; have HRWc := Lib.hid (World.rowIs.of_block HRW.out (hb.block _ (World.rowIs.lt HRW.out))); have HBZc := Lib.hid (HBZ.out.trans (hb.mono hsW)); have hs_wc : W3.heap.size ≤ wc.heap.size := hb.size; replace HX := Lib.hid (HX.out.below hb); replace HY := Lib.hid (HY.out.below hb); replace HB := Lib.hid (HB.out.trans (hb.mono hs0)); replace hN : N ≤ wc.heap.size := Nat.le_trans hN hb.size; replace hs0 : W3.heap.size ≤ wc.heap.size := Nat.le_trans hs0 hb.size; clear hb; skip))
                go_wp2_with fail
                go_quiet (fail)
                go_wp2_with fail
                go_roundw
                case rel => exact ⟨r + 1, by omega, by go_num, World.rowIs.of_block HRWc.out (by first | rfl | exact (bel_drewN _ _ _).block _ (World.rowIs.lt HRWc.out)), below_drewN HBZc.out _⟩
                case measure => simp [intOf]; omega
              · obtain ⟨κ, hκ⟩ : ∃ κ, cmpQ (q y) (q x) = κ := ⟨_, rfl⟩
                have d1 : decide (κ < 0) = false := by rw [← hκ]; exact decide_eq_false (fun hh => by have := (cmp_negF _ _).1 hh; grind)
                have d2 : (κ == 0) = true := by rw [← hκ]; exact cmp_beqF _ _ _ (decide_eq_true (by grind))
                have d3 : decide ((x : Int) < (y : Int)) = false := decide_eq_false (by omega)
                have d3' : decide (x < y) = false := decide_eq_false (by omega)
                have HK := Lib.hid hκ
                clear hκ
                go_wp2_with fail
                refine region_name fun W3 hW => ?_
                have c3' : W3.cell? ⟨b, m, none⟩ = some (.int .i64 ((y : Nat) : Int)) := by rw [← hW]; exact HSO.out _ _ (by first | exact hnb | (dsimp only; omega)) c3
                have c1' : W3.cell? ⟨b, r, none⟩ = some (.int .i64 ((x : Nat) : Int)) := by rw [← hW]; exact HSO.out _ _ (by first | exact hnb | (dsimp only; omega)) c1
                have gy0' : W3.cell? ⟨b0, off + y * 3, none⟩ = some (.bool sy) := by rw [← hW]; exact HSO.out _ _ (by first | exact hnb | (dsimp only; omega)) gy0
                have gy1' : W3.cell? ⟨b0, off + y * 3 + 1, none⟩ = some (.slice ry rny rcy) := by rw [← hW]; exact HSO.out _ _ (by first | exact hnb | (dsimp only; omega)) gy1
                have gy2' : W3.cell? ⟨b0, off + y * 3 + 2, none⟩ = some (.slice dy dny dcy) := by rw [← hW]; exact HSO.out _ _ (by first | exact hnb | (dsimp only; omega)) gy2
                have gx0' : W3.cell? ⟨b0, off + x * 3, none⟩ = some (.bool sx) := by rw [← hW]; exact HSO.out _ _ (by first | exact hnb | (dsimp only; omega)) gx0
                have gx1' : W3.cell? ⟨b0, off + x * 3 + 1, none⟩ = some (.slice rx rnx rcx) := by rw [← hW]; exact HSO.out _ _ (by first | exact hnb | (dsimp only; omega)) gx1
                have gx2' : W3.cell? ⟨b0, off + x * 3 + 2, none⟩ = some (.slice dx dnx dcx) := by rw [← hW]; exact HSO.out _ _ (by first | exact hnb | (dsimp only; omega)) gx2
                have HX' := Lib.hid (show Rt N W3 _ _ _ _ _ _ _ _ 20 by rw [← hW]; exact HX.out)
                have HY' := Lib.hid (show Rt N W3 _ _ _ _ _ _ _ _ 20 by rw [← hW]; exact HY.out)
                have HRW' := Lib.hid (show W3.rowIs wa.heap.size 4 n (fun v => .bool (decide (rnk (keyT (gtQ q)) n v < r + 1))) by rw [← hW]; exact HRW3.out)
                have HBZ' := Lib.hid (show Below wa.heap.size wa W3 by rw [← hW]; exact HBZ3.out)
                have hN : N ≤ W3.heap.size := by rw [← hW]; simp [World.setCell]; omega
                have hle' : b0 < W3.heap.size := by rw [← hW]; simp [World.setCell]; omega
                have hlb : b < W3.heap.size := by rw [← hW]; simp [World.setCell]; omega
                have hsW : wa.heap.size ≤ W3.heap.size := by rw [← hW]; simp [World.setCell]; omega
                clear hW HX HY HRW HRW3 HBZ HBZ3 HSET HSO c1 c2 c3 f2 gx0 gx1 gx2 gy0 gy1 gy2 hle hlr hsz2
                have c3 := c3'
                have c1 := c1'
                have gy0 := gy0'
                have gy1 := gy1'
                have gy2 := gy2'
                have gx0 := gx0'
                have gx1 := gx1'
                have gx2 := gx2'
                have HX := HX'
                have HY := HY'
                have HRW := HRW'
                have HBZ := HBZ'
                have hle := hle'
                clear c3' c1' gy0' gy1' gy2' gx0' gx1' gx2' HX' HY' HRW' HBZ' hle'
                have HB := Lib.hid (Below.refl W3.heap.size W3)
                have hs0 : W3.heap.size ≤ W3.heap.size := Nat.le_refl _
                go_region_held3 (fun w' => w'.cell? ⟨b, m, none⟩ = some (.int .i64 ((y : Nat) : Int)) ∧ w'.cell? ⟨b, r, none⟩ = some (.int .i64 ((x : Nat) : Int)) ∧ w'.cell? ⟨b0, off + y * 3, none⟩ = some (.bool sy) ∧ w'.cell? ⟨b0, off + y * 3 + 1, none⟩ = some (.slice ry rny rcy) ∧ w'.cell? ⟨b0, off + y * 3 + 2, none⟩ = some (.slice dy dny dcy) ∧ w'.cell? ⟨b0, off + x * 3, none⟩ = some (.bool sx) ∧ w'.cell? ⟨b0, off + x * 3 + 1, none⟩ = some (.slice rx rnx rcx) ∧ w'.cell? ⟨b0, off + x * 3 + 2, none⟩ = some (.slice dx dnx dcx))
                  (first | (go_keep; done) | ((try dsimp only); (repeat' apply And.intro) <;> (first | (go_keep; done) | (exact cell_keep_alloc_drew (by first | omega | (simp; omega)) (by first | assumption | go_simp)) | (exact cell_keep_alloc (by first | omega | (simp; omega)) (by first | assumption | go_simp)) | (rw [cell_set2 _ _ _ _ _ _ _ _ (by omega)]; assumption) | (rw [cell_set3 _ _ _ _ _ _ _ _ _ _ (by omega)]; assumption))))
                  (first
                    | (go_at_call 14; refine (rcmp_any (N := N) _ _ _ _ _ _ _ _ _ _ _ _ _ _ 20 20 (q y) (q x) _ (by exact hN) (by exact HY.out) (by exact HX.out) (by omega) (by omega)).mono ?_; rw [HK.out]; rintro e wc ⟨rfl, hb⟩; replace hb : Below W3.heap.size W3 wc := (by first | exact hb | exact bel_of_drew hb); have c3' : wc.cell? ⟨b, m, none⟩ = some (.int .i64 ((y : Nat) : Int)) := (hb.cell (p := ⟨b, m, none⟩) hlb).trans c3; have c1' : wc.cell? ⟨b, r, none⟩ = some (.int .i64 ((x : Nat) : Int)) := (hb.cell (p := ⟨b, r, none⟩) hlb).trans c1; have gy0' : wc.cell? ⟨b0, off + y * 3, none⟩ = some (.bool sy) := (hb.cell (p := ⟨b0, off + y * 3, none⟩) hle).trans gy0; have gy1' : wc.cell? ⟨b0, off + y * 3 + 1, none⟩ = some (.slice ry rny rcy) := (hb.cell (p := ⟨b0, off + y * 3 + 1, none⟩) hle).trans gy1; have gy2' : wc.cell? ⟨b0, off + y * 3 + 2, none⟩ = some (.slice dy dny dcy) := (hb.cell (p := ⟨b0, off + y * 3 + 2, none⟩) hle).trans gy2; have gx0' : wc.cell? ⟨b0, off + x * 3, none⟩ = some (.bool sx) := (hb.cell (p := ⟨b0, off + x * 3, none⟩) hle).trans gx0; have gx1' : wc.cell? ⟨b0, off + x * 3 + 1, none⟩ = some (.slice rx rnx rcx) := (hb.cell (p := ⟨b0, off + x * 3 + 1, none⟩) hle).trans gx1; have gx2' : wc.cell? ⟨b0, off + x * 3 + 2, none⟩ = some (.slice dx dnx dcx) := (hb.cell (p := ⟨b0, off + x * 3 + 2, none⟩) hle).trans gx2; have HRWc := Lib.hid (World.rowIs.of_block HRW.out (hb.block _ (World.rowIs.lt HRW.out))); have HBZc := Lib.hid (HBZ.out.trans (hb.mono hsW)); have hs_wc : W3.heap.size ≤ wc.heap.size := hb.size; replace HX := Lib.hid (HX.out.below hb); replace HY := Lib.hid (HY.out.below hb); replace HB := Lib.hid (HB.out.trans (hb.mono hs0)); replace hN : N ≤ wc.heap.size := Nat.le_trans hN hb.size; replace hs0 : W3.heap.size ≤ wc.heap.size := Nat.le_trans hs0 hb.size; clear hb; skip))
                go_wp2_with fail
                go_quiet (fail)
                go_wp2_with fail
                go_roundw
                case rel => exact ⟨r + 1, by omega, by go_num, World.rowIs.of_block HRWc.out (by first | rfl | exact (bel_drewN _ _ _).block _ (World.rowIs.lt HRWc.out)), below_drewN HBZc.out _⟩
                case measure => simp [intOf]; omega
          · obtain rfl : n = r := by omega
            go_wp2_with fail
            go_ret
            exact ⟨rfl, HB.out.trans (HBZ.out.mono (by omega))⟩
      · obtain ⟨c, hcc⟩ : ∃ c, chkF q n = c := ⟨_, rfl⟩
        rw [hcc] at hc
        have HC := Lib.hid hcc
        have z0 : (c == 0) = false := by simpa using hc
        clear hcc
        go_wp2_with fail
        refine calls_name fun W1 hW => ?_
        have hs_W1 : wr.heap.size ≤ W1.heap.size := by rw [← hW]; (first | omega | (simp; done) | (simp; omega))
        have HL_W1 := Lib.hid (show Below wr.heap.size wr W1 by rw [← hW]; exact BlA)
        replace HB := Lib.hid (show Below wr.heap.size wr W1 by rw [← hW]; exact BlA)
        replace hN : N ≤ W1.heap.size := by rw [← hW]; (first | omega | (simp; done) | (simp; omega))
        have hs0 : wr.heap.size ≤ W1.heap.size := by rw [← hW]; (first | omega | (simp; done) | (simp; omega))
        replace HA := Lib.hid (HA.out.below HL_W1.out)
        clear HL_W1
        clear hW
        refine (order_bad (N := N) _ n _ q 20 _ hN HA.out (by omega) c HC.out hc).mono ?_
        rintro e wa ⟨rfl, hb⟩
        have hs_wa : W1.heap.size ≤ wa.heap.size := hb.size
        replace HB := Lib.hid (HB.out.trans (hb.mono hs0))
        replace hN : N ≤ wa.heap.size := Nat.le_trans hN hb.size
        replace hs0 : wr.heap.size ≤ wa.heap.size := Nat.le_trans hs0 hb.size
        replace HA := Lib.hid (HA.out.below hb)
        clear hb
        go_wp2_with fail
        refine calls_name fun W2 hW => ?_
        have hs_W2 : wa.heap.size ≤ W2.heap.size := by rw [← hW]; (first | omega | (simp; done) | (simp; omega))
        have HL_W2 := Lib.hid (show Below wa.heap.size wa W2 by rw [← hW]; exact BlA)
        replace HB := Lib.hid (show Below wr.heap.size wr W2 by rw [← hW]; exact BlA)
        replace hN : N ≤ W2.heap.size := by rw [← hW]; (first | omega | (simp; done) | (simp; omega))
        replace hs0 : wr.heap.size ≤ W2.heap.size := by rw [← hW]; (first | omega | (simp; done) | (simp; omega))
        replace HA := Lib.hid (HA.out.below HL_W2.out)
        clear HL_W2
        clear hW
        refine (null_bad (N := N) _ n _ q 20 _ hN HA.out (by omega) c HC.out hc).mono ?_
        rintro e wb ⟨rfl, hb⟩
        have hs_wb : W2.heap.size ≤ wb.heap.size := hb.size
        replace HB := Lib.hid (HB.out.trans (hb.mono hs0))
        replace hN : N ≤ wb.heap.size := Nat.le_trans hN hb.size
        replace hs0 : wr.heap.size ≤ wb.heap.size := Nat.le_trans hs0 hb.size
        replace HA := Lib.hid (HA.out.below hb)
        clear hb
        go_wp2_with fail
        go_ret
        exact ⟨rfl, HB.out⟩

end Go.Proofs.Ytnillajhhimeiaa
