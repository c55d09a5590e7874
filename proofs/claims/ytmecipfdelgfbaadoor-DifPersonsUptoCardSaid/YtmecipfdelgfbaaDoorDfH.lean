/- Contract of dif.Purify, for at most 12 persons and 5 items. Lists of at most 2^40 elements. -/
import Derived.Test.YtmecipfdelgfbaaDoorDfD
import Derived.Test.YtmecipfdelgfbaaDoorDfF
namespace Go.Proofs.YtmecipfdelgfbaaDoor
open Go.RowKit

theorem Tryd.underBoolsD : Tryd.prog.underlying 44 = some (.slice 4) := by kernel_rfl
theorem Tryd.infoBoolD : (Tryd.prog.info? 4).map (fun i => (i.zero, i.size, i.bytes)) = some (some (.bool false), 1, 1) := by kernel_rfl
theorem make_boolsD (n : Nat) (h : n ≤ 100000) (w : World) :
    (Instr.makeSlice 44 (.int .i64 (n : Int)) (.int .i64 (n : Int))).run Tryd.prog w = .ok (.slice (some ⟨w.heap.size, 0, none⟩) n n) (w.alloc (.cells (madeCells #[.bool false] n) 4)) :=
  run_make_row' (P := Tryd.prog) 44 4 (.bool false) 1 Tryd.underBoolsD Tryd.infoBoolD rfl .i64 .i64 n (by omega) (by omega) w
/-- a list of tables -/
def IsTz (n L : Nat) (t : Nat → Nat → Nat) (u : Value) (w : World) : Prop := ∃ b, u = .slice (some ⟨b, 0, none⟩) n L ∧ Tz w (some ⟨b, 0, none⟩) n L t
theorem IsTz.below {n L : Nat} {t : Nat → Nat → Nat} {u : Value} {w w' : World} (h : IsTz n L t u w) (hb : Below w.heap.size w w') : IsTz n L t u w' := by
  obtain ⟨b, e, h⟩ := h
  exact ⟨b, e, h.below hb⟩
theorem tbS_cnt (z : Nat → Nat → Int) (f u : Nat → Bool) (i I R n : Nat) (hR : R ≤ 30) : cntS (tbS z f u i I R) n := fun T _ c _ => Nat.le_trans (tbS_le z f u i I R T c) hR
theorem tbS_sup (z : Nat → Nat → Int) (f u : Nat → Bool) (i I R : Nat) (hR : R ≤ 12) : supS (tbS z f u i I R) (laS z u i I R) ≤ 121 := by
  have h1 := wdS_sum (tbS z f u i I R) (laS z u i I R)
  have h2 := tbS_sum z f u i I R 0 (by decide)
  have h3 := tbS_sum z f u i I R 2 (by decide)
  have h4 := cnB_le (fun q => decide (ctS (z q i) (f q) = 0)) R
  have h5 := cnB_le (fun q => decide (ctS (z q i) (f q) = 2)) R
  rw [h2, h3] at h1
  unfold supS
  omega
/-- what Purify answers -/
def PurPost (P I R nf : Nat) (zp zi : Nat → Int) (rn : Nat → Nat) (z : Nat → Nat → Int) (al : Rat) (w : World) (e : Ending) (w' : World) : Prop :=
  ((∃ c : Int, c ≠ 0 ∧ e = .returned (.tuple #[.slice none 0 0, .int .i64 0, .int .i64 c]) ∧ ¬ (GdM P I R zp zi rn z ∧ nf = P ∧ prb al = true)) ∨ (∃ (b r : Nat) (g : Nat → Bool), e = .returned (.tuple #[.slice (some ⟨b, 0, none⟩) I I, .int .i64 (r : Nat), .int .i64 0]) ∧ 1 ≤ r ∧ r ≤ 20 ∧ (r = 1 → ∀ j, j < I → g j = false) ∧ (I = 0 → r = 1) ∧ Bs w' (some ⟨b, 0, none⟩) I I g)) ∧ Below w.heap.size w w'
def PurJ (_gM _gA gU k nt I R fc P pc ic cc : Nat) (fa pa ia ca : Option Addr) (tt : Nat → Nat → Nat) (c : Int) (s2 : Bool) (a2 d2 : Option Addr) (na2 ca2 nd2 cd2 : Nat) (W : World) (z0 : Act) (L : Nat → Bool) (z1 : Act) (w : World) : Prop :=
  ∃ u66 u67 u68 u69 u70 u71 u72 u65 u73 u74 u17 u18, z1 = ((((((((((((z0.put (some 66) u66).put (some 67) u67).put (some 68) u68).put (some 69) u69).put (some 70) u70).put (some 71) u71).put (some 72) u72).put (some 65) u65).put (some 73) u73).put (some 74) u74).put (some 17) u17).put (some 18) u18) ∧ Since W w ∧ (L 0 = true → u66 = .agg #[.slice pa P pc, .slice ia I ic, .slice ca R cc]) ∧ (L 1 = true → u67 = .int .i64 ((k : Nat) : Int)) ∧ (L 2 = true → u68 = .slice fa R fc) ∧ (L 3 = true → u69 = .slice (some ⟨gU, 0, none⟩) I I) ∧ (L 4 = true → IsTz nt (I + 1) tt u70 w) ∧ (L 5 = true → u71 = .agg #[.bool s2, .slice a2 na2 ca2, .slice d2 nd2 cd2]) ∧ (L 6 = true → u72 = .tuple #[.int .i64 c, .int .i64 0]) ∧ (L 7 = true → u65 = .tuple #[.int .i64 c, .int .i64 0]) ∧ (L 8 = true → u73 = .int .i64 c) ∧ (L 9 = true → u74 = .int .i64 0) ∧ (L 10 = true → u17 = .int .i64 c) ∧ (L 11 = true → u18 = .int .i64 0)


set_option maxRecDepth 20000 in
set_option maxHeartbeats 8000000 in
theorem Purify_any {N : Nat} (pa ia ca : Option Addr) (P pc I ic R cc : Nat) (zp zi : Nat → Int) (ra : Nat → Option Addr) (rn rc : Nat → Nat) (z : Nat → Nat → Int) (w : World) (hN : N ≤ w.heap.size) (hp : Is w pa P pc zp) (hi : Is w ia I ic zi) (hc : Rw w ca R cc ra rn rc z) (fa : Option Addr) (nf fc : Nat) (f : Nat → Bool) (hf : Bs w fa nf fc f) (s2 : Bool) (a2 d2 : Option Addr) (na2 ca2 nd2 cd2 L : Nat) (al : Rat) (h2 : Rt N w s2 a2 na2 ca2 d2 nd2 cd2 al L) (hL : L ≤ 2097152) (hP12 : P ≤ 12) (hI5 : I ≤ 5) (b0 : Bool) (hb0 : prb al = b0) :
    Calls Tryd.prog 15 #[.agg #[.slice pa P pc, .slice ia I ic, .slice ca R cc], .slice fa nf fc, .agg #[.bool s2, .slice a2 na2 ca2, .slice d2 nd2 cd2]] w (PurPost P I R nf zp zi rn z al w) := by
  have HPB := Lib.hid hb0
  have hI60 : I ≤ 60 := by omega
  clear hb0
  have HP := Lib.hid hp
  have HI := Lib.hid hi
  have HC := Lib.hid hc
  have b1 := hp.1
  have b2 := hp.2.1
  have b3 := hi.1
  have b4 := hi.2.1
  have b5 := hc.1
  have b6 := hc.2.1
  have HF := Lib.hid hf
  have b7 := hf.1
  have b8 := hf.2.1
  have HAL := Lib.hid h2
  unfold maxLen at b2 b4 b6 b8
  clear hp hi hc hf h2
  have HB := Lib.hid (Below.refl w.heap.size w)
  have hmk := make_boolsD I (by omega)
  go_enter Tryd.func15, Tryd.ntmps15
  go_wp2_with fail
  refine region_name fun W0 hW => ?_
  have hs_W0 : w.heap.size ≤ W0.heap.size := by rw [← hW]; (first | omega | (simp; done) | (simp; omega))
  have HL_W0 := Lib.hid (show Below w.heap.size w W0 by rw [← hW]; exact BlA)
  have k_M_0 : W0.cell? ⟨w.heap.size, 0, none⟩ = some (.slice pa P pc) := by rw [← hW]; (first | (go_simp; done) | (simp; done) | (simp [go_sem]; done) | (simp [go_sem]; done))
  have k_M_1 : W0.cell? ⟨w.heap.size, 1, none⟩ = some (.slice ia I ic) := by rw [← hW]; (first | (go_simp; done) | (simp; done) | (simp [go_sem]; done) | (simp [go_sem]; done))
  have k_M_2 : W0.cell? ⟨w.heap.size, 2, none⟩ = some (.slice ca R cc) := by rw [← hW]; (first | (go_simp; done) | (simp; done) | (simp [go_sem]; done) | (simp [go_sem]; done))
  have f_M : ∀ o, W0.frozen? ⟨w.heap.size, o, none⟩ = false := by intro o; rw [← hW]; (first | (go_simp; done) | (simp; done) | (simp [go_sem]; done) | (simp [go_sem]; done))
  have HX_M := Lib.hid (show Bn W0 (w.heap.size) by rw [← hW]; exact KpA)
  have k_A_0 : W0.cell? ⟨w.heap.size + 1, 0, none⟩ = some (.bool s2) := by rw [← hW]; (first | (go_simp; done) | (simp; done) | (simp [go_sem]; done) | (simp [go_sem]; done))
  have k_A_1 : W0.cell? ⟨w.heap.size + 1, 1, none⟩ = some (.slice a2 na2 ca2) := by rw [← hW]; (first | (go_simp; done) | (simp; done) | (simp [go_sem]; done) | (simp [go_sem]; done))
  have k_A_2 : W0.cell? ⟨w.heap.size + 1, 2, none⟩ = some (.slice d2 nd2 cd2) := by rw [← hW]; (first | (go_simp; done) | (simp; done) | (simp [go_sem]; done) | (simp [go_sem]; done))
  have f_A : ∀ o, W0.frozen? ⟨w.heap.size + 1, o, none⟩ = false := by intro o; rw [← hW]; (first | (go_simp; done) | (simp; done) | (simp [go_sem]; done) | (simp [go_sem]; done))
  have HX_A := Lib.hid (show Bn W0 (w.heap.size + 1) by rw [← hW]; exact KpA)
  replace HB := Lib.hid (show Below w.heap.size w W0 by rw [← hW]; exact BlA)
  replace hN : N ≤ W0.heap.size := by rw [← hW]; (first | omega | (simp; done) | (simp; omega))
  have hs0 : w.heap.size ≤ W0.heap.size := by rw [← hW]; (first | omega | (simp; done) | (simp; omega))
  have hl_M : w.heap.size < W0.heap.size := by rw [← hW]; (first | omega | (simp; done) | (simp; omega))
  have hl_A : w.heap.size + 1 < W0.heap.size := by rw [← hW]; (first | omega | (simp; done) | (simp; omega))
  replace HP := Lib.hid (HP.out.below HL_W0.out)
  replace HI := Lib.hid (HI.out.below HL_W0.out)
  replace HC := Lib.hid (HC.out.below HL_W0.out)
  replace HF := Lib.hid (HF.out.below HL_W0.out)
  replace HAL := Lib.hid (HAL.out.below HL_W0.out)
  clear HL_W0
  clear hW
  go_region_held3 (fun w' => w'.cell? ⟨w.heap.size, 0, none⟩ = some (.slice pa P pc) ∧ w'.cell? ⟨w.heap.size, 1, none⟩ = some (.slice ia I ic) ∧ w'.cell? ⟨w.heap.size, 2, none⟩ = some (.slice ca R cc))
    (first | (go_keep; done) | ((try dsimp only); (repeat' apply And.intro) <;> (first | (go_keep; done) | (exact cell_keep_alloc_drew (by first | omega | (simp; omega)) (by first | assumption | go_simp)) | (exact cell_keep_alloc (by first | omega | (simp; omega)) (by first | assumption | go_simp)) | (rw [cell_set2 _ _ _ _ _ _ _ _ (by omega)]; assumption) | (rw [cell_set3 _ _ _ _ _ _ _ _ _ _ (by omega)]; assumption))))
    (first
      | (go_at_call 40; refine (binary_any _ _ _ _ _ _ _ _ _ _ (by omega)).mono ?_; rintro e wa ⟨bq, rfl, hq1, hq2, hq, hb⟩; replace hb : Below W0.heap.size W0 wa := (by first | exact hb | exact bel_of_drew hb); have HQ := Lib.hid hq; clear hq; have hs_wa : W0.heap.size ≤ wa.heap.size := hb.size; replace k_M_0 : wa.cell? ⟨w.heap.size, 0, none⟩ = some (.slice pa P pc) := (hb.cell (p := ⟨w.heap.size, 0, none⟩) hl_M).trans k_M_0; replace k_M_1 : wa.cell? ⟨w.heap.size, 1, none⟩ = some (.slice ia I ic) := (hb.cell (p := ⟨w.heap.size, 1, none⟩) hl_M).trans k_M_1; replace k_M_2 : wa.cell? ⟨w.heap.size, 2, none⟩ = some (.slice ca R cc) := (hb.cell (p := ⟨w.heap.size, 2, none⟩) hl_M).trans k_M_2; replace f_M : ∀ o, wa.frozen? ⟨w.heap.size, o, none⟩ = false := fun o => (hb.frozen (p := ⟨w.heap.size, o, none⟩) hl_M).trans (f_M o); replace HX_M := Lib.hid (HX_M.out.below hb); replace k_A_0 : wa.cell? ⟨w.heap.size + 1, 0, none⟩ = some (.bool s2) := (hb.cell (p := ⟨w.heap.size + 1, 0, none⟩) hl_A).trans k_A_0; replace k_A_1 : wa.cell? ⟨w.heap.size + 1, 1, none⟩ = some (.slice a2 na2 ca2) := (hb.cell (p := ⟨w.heap.size + 1, 1, none⟩) hl_A).trans k_A_1; replace k_A_2 : wa.cell? ⟨w.heap.size + 1, 2, none⟩ = some (.slice d2 nd2 cd2) := (hb.cell (p := ⟨w.heap.size + 1, 2, none⟩) hl_A).trans k_A_2; replace f_A : ∀ o, wa.frozen? ⟨w.heap.size + 1, o, none⟩ = false := fun o => (hb.frozen (p := ⟨w.heap.size + 1, o, none⟩) hl_A).trans (f_A o); replace HX_A := Lib.hid (HX_A.out.below hb); replace HB := Lib.hid (HB.out.trans (hb.mono hs0)); replace hN : N ≤ wa.heap.size := Nat.le_trans hN hb.size; replace hs0 : w.heap.size ≤ wa.heap.size := Nat.le_trans hs0 hb.size; replace hl_M : w.heap.size < wa.heap.size := Nat.lt_of_lt_of_le hl_M hb.size; replace hl_A : w.heap.size + 1 < wa.heap.size := Nat.lt_of_lt_of_le hl_A hb.size; replace HP := Lib.hid (HP.out.below hb); replace HI := Lib.hid (HI.out.below hb); replace HC := Lib.hid (HC.out.below hb); replace HF := Lib.hid (HF.out.below hb); replace HAL := Lib.hid (HAL.out.below hb); clear hb; skip)
      | (go_at_call 39; refine (mxvalid_any _ _ _ _ _ _ _ _ _ zp zi _ _ _ z _ (by exact HP.out) (by exact HI.out) (by exact HC.out) _ _ (by exact HQ.out)).mono ?_; rintro e wb ⟨v, rfl, hv, hb⟩; replace hb : Below wa.heap.size wa wb := (by first | exact hb | exact bel_of_drew hb); have hs_wb : wa.heap.size ≤ wb.heap.size := hb.size; replace k_M_0 : wb.cell? ⟨w.heap.size, 0, none⟩ = some (.slice pa P pc) := (hb.cell (p := ⟨w.heap.size, 0, none⟩) hl_M).trans k_M_0; replace k_M_1 : wb.cell? ⟨w.heap.size, 1, none⟩ = some (.slice ia I ic) := (hb.cell (p := ⟨w.heap.size, 1, none⟩) hl_M).trans k_M_1; replace k_M_2 : wb.cell? ⟨w.heap.size, 2, none⟩ = some (.slice ca R cc) := (hb.cell (p := ⟨w.heap.size, 2, none⟩) hl_M).trans k_M_2; replace f_M : ∀ o, wb.frozen? ⟨w.heap.size, o, none⟩ = false := fun o => (hb.frozen (p := ⟨w.heap.size, o, none⟩) hl_M).trans (f_M o); replace HX_M := Lib.hid (HX_M.out.below hb); replace k_A_0 : wb.cell? ⟨w.heap.size + 1, 0, none⟩ = some (.bool s2) := (hb.cell (p := ⟨w.heap.size + 1, 0, none⟩) hl_A).trans k_A_0; replace k_A_1 : wb.cell? ⟨w.heap.size + 1, 1, none⟩ = some (.slice a2 na2 ca2) := (hb.cell (p := ⟨w.heap.size + 1, 1, none⟩) hl_A).trans k_A_1; replace k_A_2 : wb.cell? ⟨w.heap.size + 1, 2, none⟩ = some (.slice d2 nd2 cd2) := (hb.cell (p := ⟨w.heap.size + 1, 2, none⟩) hl_A).trans k_A_2; replace f_A : ∀ o, wb.frozen? ⟨w.heap.size + 1, o, none⟩ = false := fun o => (hb.frozen (p := ⟨w.heap.size + 1, o, none⟩) hl_A).trans (f_A o); replace HX_A := Lib.hid (HX_A.out.below hb); replace HB := Lib.hid (HB.out.trans (hb.mono hs0)); replace hN : N ≤ wb.heap.size := Nat.le_trans hN hb.size; replace hs0 : w.heap.size ≤ wb.heap.size := Nat.le_trans hs0 hb.size; replace hl_M : w.heap.size < wb.heap.size := Nat.lt_of_lt_of_le hl_M hb.size; replace hl_A : w.heap.size + 1 < wb.heap.size := Nat.lt_of_lt_of_le hl_A hb.size; replace HP := Lib.hid (HP.out.below hb); replace HI := Lib.hid (HI.out.below hb); replace HC := Lib.hid (HC.out.below hb); replace HF := Lib.hid (HF.out.below hb); replace HAL := Lib.hid (HAL.out.below hb); clear hb; skip))
  by_cases hv0 : v = 0
  · subst hv0
    have HGD := Lib.hid (hv.1 rfl)
    clear hv
    by_cases f1 : nf = P
    · subst f1
      obtain ⟨h1, h2', h3, h4, h5, h6, h7⟩ := HGD.out
      have HRN := Lib.hid h6
      subst h5
      clear h3 h4 h6 h7
      go_wp2_with fail
      refine calls_name fun W1 hW => ?_
      have HL_W1 := Lib.hid (show Below wb.heap.size wb W1 by rw [← hW]; exact BlA)
      have hs_W1 : wb.heap.size ≤ W1.heap.size := by rw [← hW]; (first | omega | (simp; done) | (simp; omega))
      replace k_M_0 : W1.cell? ⟨w.heap.size, 0, none⟩ = some (.slice pa R pc) := (HL_W1.out.cell (p := ⟨w.heap.size, 0, none⟩) hl_M).trans k_M_0
      replace k_M_1 : W1.cell? ⟨w.heap.size, 1, none⟩ = some (.slice ia I ic) := (HL_W1.out.cell (p := ⟨w.heap.size, 1, none⟩) hl_M).trans k_M_1
      replace k_M_2 : W1.cell? ⟨w.heap.size, 2, none⟩ = some (.slice ca R cc) := (HL_W1.out.cell (p := ⟨w.heap.size, 2, none⟩) hl_M).trans k_M_2
      replace f_M : ∀ o, W1.frozen? ⟨w.heap.size, o, none⟩ = false := fun o => (HL_W1.out.frozen (p := ⟨w.heap.size, o, none⟩) hl_M).trans (f_M o)
      replace HX_M := Lib.hid (show Bn W1 (w.heap.size) by rw [← hW]; exact KpA)
      replace k_A_0 : W1.cell? ⟨w.heap.size + 1, 0, none⟩ = some (.bool s2) := (HL_W1.out.cell (p := ⟨w.heap.size + 1, 0, none⟩) hl_A).trans k_A_0
      replace k_A_1 : W1.cell? ⟨w.heap.size + 1, 1, none⟩ = some (.slice a2 na2 ca2) := (HL_W1.out.cell (p := ⟨w.heap.size + 1, 1, none⟩) hl_A).trans k_A_1
      replace k_A_2 : W1.cell? ⟨w.heap.size + 1, 2, none⟩ = some (.slice d2 nd2 cd2) := (HL_W1.out.cell (p := ⟨w.heap.size + 1, 2, none⟩) hl_A).trans k_A_2
      replace f_A : ∀ o, W1.frozen? ⟨w.heap.size + 1, o, none⟩ = false := fun o => (HL_W1.out.frozen (p := ⟨w.heap.size + 1, o, none⟩) hl_A).trans (f_A o)
      replace HX_A := Lib.hid (show Bn W1 (w.heap.size + 1) by rw [← hW]; exact KpA)
      replace HB := Lib.hid (show Below w.heap.size w W1 by rw [← hW]; exact BlA)
      replace hN : N ≤ W1.heap.size := by rw [← hW]; (first | omega | (simp; done) | (simp; omega))
      replace hs0 : w.heap.size ≤ W1.heap.size := by rw [← hW]; (first | omega | (simp; done) | (simp; omega))
      replace hl_M : w.heap.size < W1.heap.size := by rw [← hW]; (first | omega | (simp; done) | (simp; omega))
      replace hl_A : w.heap.size + 1 < W1.heap.size := by rw [← hW]; (first | omega | (simp; done) | (simp; omega))
      replace HP := Lib.hid (HP.out.below HL_W1.out)
      replace HI := Lib.hid (HI.out.below HL_W1.out)
      replace HC := Lib.hid (HC.out.below HL_W1.out)
      replace HF := Lib.hid (HF.out.below HL_W1.out)
      replace HAL := Lib.hid (HAL.out.below HL_W1.out)
      clear HL_W1
      clear hW
      cases b0
      · refine (fshare_any (N := N) _ _ _ _ _ _ _ L al _ hN HAL.out (by omega) false HPB.out).mono ?_
        rintro e wc ⟨rfl, hb⟩
        have hs_wc : W1.heap.size ≤ wc.heap.size := hb.size
        replace k_M_0 : wc.cell? ⟨w.heap.size, 0, none⟩ = some (.slice pa R pc) := (hb.cell (p := ⟨w.heap.size, 0, none⟩) hl_M).trans k_M_0
        replace k_M_1 : wc.cell? ⟨w.heap.size, 1, none⟩ = some (.slice ia I ic) := (hb.cell (p := ⟨w.heap.size, 1, none⟩) hl_M).trans k_M_1
        replace k_M_2 : wc.cell? ⟨w.heap.size, 2, none⟩ = some (.slice ca R cc) := (hb.cell (p := ⟨w.heap.size, 2, none⟩) hl_M).trans k_M_2
        replace f_M : ∀ o, wc.frozen? ⟨w.heap.size, o, none⟩ = false := fun o => (hb.frozen (p := ⟨w.heap.size, o, none⟩) hl_M).trans (f_M o)
        replace HX_M := Lib.hid (HX_M.out.below hb)
        replace k_A_0 : wc.cell? ⟨w.heap.size + 1, 0, none⟩ = some (.bool s2) := (hb.cell (p := ⟨w.heap.size + 1, 0, none⟩) hl_A).trans k_A_0
        replace k_A_1 : wc.cell? ⟨w.heap.size + 1, 1, none⟩ = some (.slice a2 na2 ca2) := (hb.cell (p := ⟨w.heap.size + 1, 1, none⟩) hl_A).trans k_A_1
        replace k_A_2 : wc.cell? ⟨w.heap.size + 1, 2, none⟩ = some (.slice d2 nd2 cd2) := (hb.cell (p := ⟨w.heap.size + 1, 2, none⟩) hl_A).trans k_A_2
        replace f_A : ∀ o, wc.frozen? ⟨w.heap.size + 1, o, none⟩ = false := fun o => (hb.frozen (p := ⟨w.heap.size + 1, o, none⟩) hl_A).trans (f_A o)
        replace HX_A := Lib.hid (HX_A.out.below hb)
        replace HB := Lib.hid (HB.out.trans (hb.mono hs0))
        replace hN : N ≤ wc.heap.size := Nat.le_trans hN hb.size
        replace hs0 : w.heap.size ≤ wc.heap.size := Nat.le_trans hs0 hb.size
        replace hl_M : w.heap.size < wc.heap.size := Nat.lt_of_lt_of_le hl_M hb.size
        replace hl_A : w.heap.size + 1 < wc.heap.size := Nat.lt_of_lt_of_le hl_A hb.size
        replace HP := Lib.hid (HP.out.below hb)
        replace HI := Lib.hid (HI.out.below hb)
        replace HC := Lib.hid (HC.out.below hb)
        replace HF := Lib.hid (HF.out.below hb)
        replace HAL := Lib.hid (HAL.out.below hb)
        clear hb
        go_wp2_with fail
        refine bodyPost_ret (v := .tuple #[.slice none 0 0, .int .i64 0, .int .i64 (3)]) (by simp [results, Tryd.results15, go_sem]) rfl ⟨.inl ⟨3, by decide, rfl, fun h => by have := h.2.2; rw [HPB.out] at this; cases this⟩, HB.out⟩
      · refine (fshare_any (N := N) _ _ _ _ _ _ _ L al _ hN HAL.out (by omega) true HPB.out).mono ?_
        rintro e wc ⟨rfl, hb⟩
        have hs_wc : W1.heap.size ≤ wc.heap.size := hb.size
        replace k_M_0 : wc.cell? ⟨w.heap.size, 0, none⟩ = some (.slice pa R pc) := (hb.cell (p := ⟨w.heap.size, 0, none⟩) hl_M).trans k_M_0
        replace k_M_1 : wc.cell? ⟨w.heap.size, 1, none⟩ = some (.slice ia I ic) := (hb.cell (p := ⟨w.heap.size, 1, none⟩) hl_M).trans k_M_1
        replace k_M_2 : wc.cell? ⟨w.heap.size, 2, none⟩ = some (.slice ca R cc) := (hb.cell (p := ⟨w.heap.size, 2, none⟩) hl_M).trans k_M_2
        replace f_M : ∀ o, wc.frozen? ⟨w.heap.size, o, none⟩ = false := fun o => (hb.frozen (p := ⟨w.heap.size, o, none⟩) hl_M).trans (f_M o)
        replace HX_M := Lib.hid (HX_M.out.below hb)
        replace k_A_0 : wc.cell? ⟨w.heap.size + 1, 0, none⟩ = some (.bool s2) := (hb.cell (p := ⟨w.heap.size + 1, 0, none⟩) hl_A).trans k_A_0
        replace k_A_1 : wc.cell? ⟨w.heap.size + 1, 1, none⟩ = some (.slice a2 na2 ca2) := (hb.cell (p := ⟨w.heap.size + 1, 1, none⟩) hl_A).trans k_A_1
        replace k_A_2 : wc.cell? ⟨w.heap.size + 1, 2, none⟩ = some (.slice d2 nd2 cd2) := (hb.cell (p := ⟨w.heap.size + 1, 2, none⟩) hl_A).trans k_A_2
        replace f_A : ∀ o, wc.frozen? ⟨w.heap.size + 1, o, none⟩ = false := fun o => (hb.frozen (p := ⟨w.heap.size + 1, o, none⟩) hl_A).trans (f_A o)
        replace HX_A := Lib.hid (HX_A.out.below hb)
        replace HB := Lib.hid (HB.out.trans (hb.mono hs0))
        replace hN : N ≤ wc.heap.size := Nat.le_trans hN hb.size
        replace hs0 : w.heap.size ≤ wc.heap.size := Nat.le_trans hs0 hb.size
        replace hl_M : w.heap.size < wc.heap.size := Nat.lt_of_lt_of_le hl_M hb.size
        replace hl_A : w.heap.size + 1 < wc.heap.size := Nat.lt_of_lt_of_le hl_A hb.size
        replace HP := Lib.hid (HP.out.below hb)
        replace HI := Lib.hid (HI.out.below hb)
        replace HC := Lib.hid (HC.out.below hb)
        replace HF := Lib.hid (HF.out.below hb)
        replace HAL := Lib.hid (HAL.out.below hb)
        clear hb
        go_wp2_with fail
        clear HP
        clear HI
        have hgw : w.heap.size ≤ wc.heap.size := hs0
        go_loopw [10, 11] (fun bf rd wr => ∃ (r b : Nat) (g : Nat → Bool), 1 ≤ r ∧ r ≤ 20 ∧ rd = .int .i64 (r : Nat) ∧ bf = .slice (some ⟨b, 0, none⟩) I I ∧ Bs wr (some ⟨b, 0, none⟩) I I g ∧ Hid (r = 1 → ∀ j, j < I → g j = false) ∧ Hid (I = 0 → r = 1) ∧ Since wc wr) (fun _ rd _ => 21 - (intOf rd).toNat)
        case atStart => exact ⟨1, wc.heap.size, fun _ => false, by omega, by omega, rfl, rfl, Lb.bs (w := wc.alloc (.cells (madeCells #[.bool false] I) 4)) (World.rowIs_made wc (.bool false) I 4) (by unfold maxLen; omega), Lib.hid (fun _ _ _ => rfl), Lib.hid (fun _ => rfl), bel1 _ _, by simp⟩
        case round =>
          obtain ⟨r, b, g, hr1, hr20, rfl, rfl, hbs, hone, hzero, hsc⟩ := hrel
          have hbel := hsc.1
          have HSC := Lib.hid hsc
          clear hsc
          have HBF := Lib.hid hbs
          clear hbs
          obtain ⟨WA, rfl⟩ : ∃ x : World, x = wr := ⟨_, rfl⟩
          have hs_WA : wc.heap.size ≤ WA.heap.size := hbel.size
          replace k_M_0 : WA.cell? ⟨w.heap.size, 0, none⟩ = some (.slice pa R pc) := (hbel.cell (p := ⟨w.heap.size, 0, none⟩) hl_M).trans k_M_0
          replace k_M_1 : WA.cell? ⟨w.heap.size, 1, none⟩ = some (.slice ia I ic) := (hbel.cell (p := ⟨w.heap.size, 1, none⟩) hl_M).trans k_M_1
          replace k_M_2 : WA.cell? ⟨w.heap.size, 2, none⟩ = some (.slice ca R cc) := (hbel.cell (p := ⟨w.heap.size, 2, none⟩) hl_M).trans k_M_2
          replace f_M : ∀ o, WA.frozen? ⟨w.heap.size, o, none⟩ = false := fun o => (hbel.frozen (p := ⟨w.heap.size, o, none⟩) hl_M).trans (f_M o)
          replace HX_M := Lib.hid (HX_M.out.below hbel)
          replace k_A_0 : WA.cell? ⟨w.heap.size + 1, 0, none⟩ = some (.bool s2) := (hbel.cell (p := ⟨w.heap.size + 1, 0, none⟩) hl_A).trans k_A_0
          replace k_A_1 : WA.cell? ⟨w.heap.size + 1, 1, none⟩ = some (.slice a2 na2 ca2) := (hbel.cell (p := ⟨w.heap.size + 1, 1, none⟩) hl_A).trans k_A_1
          replace k_A_2 : WA.cell? ⟨w.heap.size + 1, 2, none⟩ = some (.slice d2 nd2 cd2) := (hbel.cell (p := ⟨w.heap.size + 1, 2, none⟩) hl_A).trans k_A_2
          replace f_A : ∀ o, WA.frozen? ⟨w.heap.size + 1, o, none⟩ = false := fun o => (hbel.frozen (p := ⟨w.heap.size + 1, o, none⟩) hl_A).trans (f_A o)
          replace HX_A := Lib.hid (HX_A.out.below hbel)
          replace HB := Lib.hid (HB.out.trans (hbel.mono hs0))
          replace hN : N ≤ WA.heap.size := Nat.le_trans hN hbel.size
          replace hs0 : w.heap.size ≤ WA.heap.size := Nat.le_trans hs0 hbel.size
          replace hl_M : w.heap.size < WA.heap.size := Nat.lt_of_lt_of_le hl_M hbel.size
          replace hl_A : w.heap.size + 1 < WA.heap.size := Nat.lt_of_lt_of_le hl_A hbel.size
          replace HC := Lib.hid (HC.out.below hbel)
          replace HF := Lib.hid (HF.out.below hbel)
          replace HAL := Lib.hid (HAL.out.below hbel)
          clear hbel
          go_wp2_with fail
          go_loopw [46] (fun ix wr => ∃ k : Nat, k ≤ I ∧ ix = .int .i64 k ∧ wr.rowIs WA.heap.size 4 I (fun j => .bool (if j < k then !(g j) else false)) ∧ Below WA.heap.size WA wr) (fun ix _ => I - (intOf ix).toNat)
          case atStart => exact ⟨0, Nat.zero_le _, rfl, (World.rowIs_made WA (.bool false) I 4).congr (fun j hj => by simp), bel1 _ _⟩
          case round =>
            obtain ⟨k, hk, rfl, hrow, hbel⟩ := hrel
            have HRW := Lib.hid hrow
            have HB2 := Lib.hid hbel
            have hsz := hbel.size
            have hgl := World.rowIs.lt hrow
            have hfz := World.rowIs.frozen hrow
            clear hrow
            by_cases hkn : k < I
            · obtain ⟨b9, o9, hb9, hc9⟩ := (HBF.out.below hbel).2.2 (by omega)
              obtain ⟨rfl, rfl⟩ : b = b9 ∧ 0 = o9 := by simpa using hb9
              have hck := hc9 k hkn
              obtain ⟨gk, hgk⟩ : ∃ x, g k = x := ⟨_, rfl⟩
              rw [hgk] at hck
              rw [Nat.zero_add] at hck
              have HGK := Lib.hid hgk
              have c1 := World.rowIs.cell HRW.out hkn
              clear hb9 hc9 hgk hbel
              have hix0 : (0 : Int) ≤ (k : Int) := by omega
              have hix1 : (k : Int) < (I : Int) := by omega
              go_wp2_with fail
              go_roundw
              case rel =>
                refine ⟨k + 1, by omega, by go_num, (World.rowIs.set HRW.out k _).congr (fun j hj => ?_), ?_⟩
                · by_cases e : j = k
                  · subst e; rw [if_pos rfl, if_pos (by omega), HGK.out]
                  · rw [if_neg e]
                    by_cases e2 : j < k
                    · rw [if_pos e2, if_pos (by omega)]
                    · rw [if_neg e2, if_neg (by omega)]
                · exact BlA
              case measure => simp [intOf]; omega
            · obtain rfl : k = I := by omega
              have hus := (Lb.bs (World.rowIs.congr HRW.out (g := fun j => .bool (!(g j))) (fun j hj => by rw [if_pos hj])) (by unfold maxLen; omega))
              have HUS := Lib.hid hus
              clear hus HRW HB2 hfz
              obtain ⟨WB, rfl⟩ : ∃ x : World, x = wr := ⟨_, rfl⟩
              have hs_WB : WA.heap.size ≤ WB.heap.size := hbel.size
              replace k_M_0 : WB.cell? ⟨w.heap.size, 0, none⟩ = some (.slice pa R pc) := (hbel.cell (p := ⟨w.heap.size, 0, none⟩) hl_M).trans k_M_0
              replace k_M_1 : WB.cell? ⟨w.heap.size, 1, none⟩ = some (.slice ia k ic) := (hbel.cell (p := ⟨w.heap.size, 1, none⟩) hl_M).trans k_M_1
              replace k_M_2 : WB.cell? ⟨w.heap.size, 2, none⟩ = some (.slice ca R cc) := (hbel.cell (p := ⟨w.heap.size, 2, none⟩) hl_M).trans k_M_2
              replace f_M : ∀ o, WB.frozen? ⟨w.heap.size, o, none⟩ = false := fun o => (hbel.frozen (p := ⟨w.heap.size, o, none⟩) hl_M).trans (f_M o)
              replace HX_M := Lib.hid (HX_M.out.below hbel)
              replace k_A_0 : WB.cell? ⟨w.heap.size + 1, 0, none⟩ = some (.bool s2) := (hbel.cell (p := ⟨w.heap.size + 1, 0, none⟩) hl_A).trans k_A_0
              replace k_A_1 : WB.cell? ⟨w.heap.size + 1, 1, none⟩ = some (.slice a2 na2 ca2) := (hbel.cell (p := ⟨w.heap.size + 1, 1, none⟩) hl_A).trans k_A_1
              replace k_A_2 : WB.cell? ⟨w.heap.size + 1, 2, none⟩ = some (.slice d2 nd2 cd2) := (hbel.cell (p := ⟨w.heap.size + 1, 2, none⟩) hl_A).trans k_A_2
              replace f_A : ∀ o, WB.frozen? ⟨w.heap.size + 1, o, none⟩ = false := fun o => (hbel.frozen (p := ⟨w.heap.size + 1, o, none⟩) hl_A).trans (f_A o)
              replace HX_A := Lib.hid (HX_A.out.below hbel)
              replace HB := Lib.hid (HB.out.trans (hbel.mono hs0))
              replace hN : N ≤ WB.heap.size := Nat.le_trans hN hbel.size
              replace hs0 : w.heap.size ≤ WB.heap.size := Nat.le_trans hs0 hbel.size
              replace hl_M : w.heap.size < WB.heap.size := Nat.lt_of_lt_of_le hl_M hbel.size
              replace hl_A : w.heap.size + 1 < WB.heap.size := Nat.lt_of_lt_of_le hl_A hbel.size
              replace HC := Lib.hid (HC.out.below hbel)
              replace HF := Lib.hid (HF.out.below hbel)
              replace HAL := Lib.hid (HAL.out.below hbel)
              replace HBF := Lib.hid (HBF.out.below hbel)
              replace HSC := Lib.hid (HSC.out.below hbel)
              clear hbel
              go_wp2_with fail
              go_loopw [62] (fun ix wr => ∃ (k1 : Nat) (fl : Nat → Bool), k1 ≤ k ∧ ix = .int .i64 k1 ∧ wr.rowIs WB.heap.size 4 k (fun j => .bool (fl j)) ∧ Below WB.heap.size WB wr) (fun ix _ => k - (intOf ix).toNat)
              case atStart => exact ⟨0, fun _ => false, Nat.zero_le _, rfl, World.rowIs_made WB (.bool false) k 4, bel1 _ _⟩
              case round =>
                obtain ⟨k1, fl, hk1, rfl, hrow, hbel⟩ := hrel
                have HRW := Lib.hid hrow
                have hsz3 := hbel.size
                have hgl3 := World.rowIs.lt hrow
                clear hrow
                obtain ⟨WD, rfl⟩ : ∃ x : World, x = wr := ⟨_, rfl⟩
                have HBD := Lib.hid hbel
                have hs_WD : WB.heap.size ≤ WD.heap.size := hbel.size
                replace k_M_0 : WD.cell? ⟨w.heap.size, 0, none⟩ = some (.slice pa R pc) := (hbel.cell (p := ⟨w.heap.size, 0, none⟩) hl_M).trans k_M_0
                replace k_M_1 : WD.cell? ⟨w.heap.size, 1, none⟩ = some (.slice ia k ic) := (hbel.cell (p := ⟨w.heap.size, 1, none⟩) hl_M).trans k_M_1
                replace k_M_2 : WD.cell? ⟨w.heap.size, 2, none⟩ = some (.slice ca R cc) := (hbel.cell (p := ⟨w.heap.size, 2, none⟩) hl_M).trans k_M_2
                replace f_M : ∀ o, WD.frozen? ⟨w.heap.size, o, none⟩ = false := fun o => (hbel.frozen (p := ⟨w.heap.size, o, none⟩) hl_M).trans (f_M o)
                replace HX_M := Lib.hid (HX_M.out.below hbel)
                replace k_A_0 : WD.cell? ⟨w.heap.size + 1, 0, none⟩ = some (.bool s2) := (hbel.cell (p := ⟨w.heap.size + 1, 0, none⟩) hl_A).trans k_A_0
                replace k_A_1 : WD.cell? ⟨w.heap.size + 1, 1, none⟩ = some (.slice a2 na2 ca2) := (hbel.cell (p := ⟨w.heap.size + 1, 1, none⟩) hl_A).trans k_A_1
                replace k_A_2 : WD.cell? ⟨w.heap.size + 1, 2, none⟩ = some (.slice d2 nd2 cd2) := (hbel.cell (p := ⟨w.heap.size + 1, 2, none⟩) hl_A).trans k_A_2
                replace f_A : ∀ o, WD.frozen? ⟨w.heap.size + 1, o, none⟩ = false := fun o => (hbel.frozen (p := ⟨w.heap.size + 1, o, none⟩) hl_A).trans (f_A o)
                replace HX_A := Lib.hid (HX_A.out.below hbel)
                replace HB := Lib.hid (HB.out.trans (hbel.mono hs0))
                replace hN : N ≤ WD.heap.size := Nat.le_trans hN hbel.size
                replace hs0 : w.heap.size ≤ WD.heap.size := Nat.le_trans hs0 hbel.size
                replace hl_M : w.heap.size < WD.heap.size := Nat.lt_of_lt_of_le hl_M hbel.size
                replace hl_A : w.heap.size + 1 < WD.heap.size := Nat.lt_of_lt_of_le hl_A hbel.size
                replace HC := Lib.hid (HC.out.below hbel)
                replace HF := Lib.hid (HF.out.below hbel)
                replace HAL := Lib.hid (HAL.out.below hbel)
                replace HBF := Lib.hid (HBF.out.below hbel)
                replace HSC := Lib.hid (HSC.out.below hbel)
                replace HUS := Lib.hid (HUS.out.below hbel)
                clear hbel
                by_cases hkn : k1 < k
                · obtain ⟨nt, hnt'⟩ : ∃ x, laS z (fun j => !(g j)) k1 k R = x := ⟨_, rfl⟩
                  obtain ⟨tt, htt⟩ : ∃ x, tbS z f (fun j => !(g j)) k1 k R = x := ⟨_, rfl⟩
                  have hnl := laS_le z (fun j => !(g j)) k1 k R
                  rw [hnt'] at hnl
                  have hnt : nt ≤ 20 := by omega
                  have HNT := Lib.hid hnt'
                  have HTT := Lib.hid htt
                  have HCT := Lib.hid (show cntS tt nt by rw [← htt]; exact tbS_cnt _ _ _ _ _ _ _ (by omega))
                  have HST := Lib.hid (show supS tt nt ≤ 121 by rw [← htt, ← hnt']; exact tbS_sup z f (fun j => !(g j)) k1 k R (by omega))
                  obtain ⟨c, hcc⟩ : ∃ c, claS (tstS tt nt) al (sQ (onmS tt) nt) (sQ (odnS tt) nt) = c := ⟨_, rfl⟩
                  have HCC := Lib.hid hcc
                  clear hnt' htt hcc
                  have hix0 : (0 : Int) ≤ (k1 : Int) := by omega
                  have hix1 : (k1 : Int) < (k : Int) := by omega
                  go_wp2_with fail
                  refine region_name fun W5 hW => ?_
                  have HL_W5 := Lib.hid (show Below WD.heap.size WD W5 by rw [← hW]; exact BlA)
                  have hs_W5 : WD.heap.size ≤ W5.heap.size := by rw [← hW]; (first | omega | (simp; done) | (simp; omega))
                  rw [hW] at hgl3
                  replace HRW := Lib.hid (show World.rowIs W5 WB.heap.size 4 k (fun j => .bool (fl j)) by rw [← hW]; exact HRW.out)
                  replace HBD := Lib.hid (show Below WB.heap.size WB W5 by rw [← hW]; exact HBD.out)
                  replace k_M_0 : W5.cell? ⟨w.heap.size, 0, none⟩ = some (.slice pa R pc) := (HL_W5.out.cell (p := ⟨w.heap.size, 0, none⟩) hl_M).trans k_M_0
                  replace k_M_1 : W5.cell? ⟨w.heap.size, 1, none⟩ = some (.slice ia k ic) := (HL_W5.out.cell (p := ⟨w.heap.size, 1, none⟩) hl_M).trans k_M_1
                  replace k_M_2 : W5.cell? ⟨w.heap.size, 2, none⟩ = some (.slice ca R cc) := (HL_W5.out.cell (p := ⟨w.heap.size, 2, none⟩) hl_M).trans k_M_2
                  replace f_M : ∀ o, W5.frozen? ⟨w.heap.size, o, none⟩ = false := fun o => (HL_W5.out.frozen (p := ⟨w.heap.size, o, none⟩) hl_M).trans (f_M o)
                  replace HX_M := Lib.hid (show Bn W5 (w.heap.size) by rw [← hW]; exact KpA)
                  replace k_A_0 : W5.cell? ⟨w.heap.size + 1, 0, none⟩ = some (.bool s2) := (HL_W5.out.cell (p := ⟨w.heap.size + 1, 0, none⟩) hl_A).trans k_A_0
                  replace k_A_1 : W5.cell? ⟨w.heap.size + 1, 1, none⟩ = some (.slice a2 na2 ca2) := (HL_W5.out.cell (p := ⟨w.heap.size + 1, 1, none⟩) hl_A).trans k_A_1
                  replace k_A_2 : W5.cell? ⟨w.heap.size + 1, 2, none⟩ = some (.slice d2 nd2 cd2) := (HL_W5.out.cell (p := ⟨w.heap.size + 1, 2, none⟩) hl_A).trans k_A_2
                  replace f_A : ∀ o, W5.frozen? ⟨w.heap.size + 1, o, none⟩ = false := fun o => (HL_W5.out.frozen (p := ⟨w.heap.size + 1, o, none⟩) hl_A).trans (f_A o)
                  replace HX_A := Lib.hid (show Bn W5 (w.heap.size + 1) by rw [← hW]; exact KpA)
                  replace HB := Lib.hid (show Below w.heap.size w W5 by rw [← hW]; exact BlA)
                  replace hN : N ≤ W5.heap.size := by rw [← hW]; (first | omega | (simp; done) | (simp; omega))
                  replace hs0 : w.heap.size ≤ W5.heap.size := by rw [← hW]; (first | omega | (simp; done) | (simp; omega))
                  replace hl_M : w.heap.size < W5.heap.size := by rw [← hW]; (first | omega | (simp; done) | (simp; omega))
                  replace hl_A : w.heap.size + 1 < W5.heap.size := by rw [← hW]; (first | omega | (simp; done) | (simp; omega))
                  replace HC := Lib.hid (HC.out.below HL_W5.out)
                  replace HF := Lib.hid (HF.out.below HL_W5.out)
                  replace HAL := Lib.hid (HAL.out.below HL_W5.out)
                  replace HBF := Lib.hid (HBF.out.below HL_W5.out)
                  replace HSC := Lib.hid (HSC.out.below HL_W5.out)
                  replace HUS := Lib.hid (HUS.out.below HL_W5.out)
                  clear HL_W5
                  clear hW
                  refine region_inv3 (by kernel_rfl) (PurJ w.heap.size (w.heap.size + 1) WA.heap.size k1 nt k R fc R pc ic cc fa pa ia ca tt c s2 a2 d2 na2 ca2 nd2 cd2 (W5)) ?_ ?_ ?_ ?_
                  · exact ⟨u66, u67, u68, u69, u70, u71, u72, u65, u73, u74, u17, u18, by simp only [Act.put, List.setIfInBounds_toArray, List.set_cons_zero, List.set_cons_succ], Since.drawn _, (fun h => by cases h), (fun h => by cases h), (fun h => by cases h), (fun h => by cases h), (fun h => by cases h), (fun h => by cases h), (fun h => by cases h), (fun h => by cases h), (fun h => by cases h), (fun h => by cases h), (fun h => by cases h), (fun h => by cases h)⟩
                  · exact acyc3_spec (by kernel_rfl)
                  · intro Ls a0 wq i o ho hLi hafter hJ
                    obtain ⟨u66, u67, u68, u69, u70, u71, u72, u65, u73, u74, u17, u18, rfl, hS, p0, p1, p2, p3, p4, p5, p6, p7, p8, p9, p10, p11⟩ := hJ
                    have hi : i < 12 := (Array.getElem?_eq_some_iff.1 ho).1
                    obtain rfl | rfl | rfl | rfl | rfl | rfl | rfl | rfl | rfl | rfl | rfl | rfl : i = 0 ∨ i = 1 ∨ i = 2 ∨ i = 3 ∨ i = 4 ∨ i = 5 ∨ i = 6 ∨ i = 7 ∨ i = 8 ∨ i = 9 ∨ i = 10 ∨ i = 11 := by omega
                    · simp only [List.getElem?_toArray, List.getElem?_cons_zero, Option.some.injEq] at ho
                      subst ho
                      have c0 := (hS.1.cell (p := ⟨w.heap.size, 0, none⟩) hl_M).trans k_M_0
                      have c1 := (hS.1.cell (p := ⟨w.heap.size, 1, none⟩) hl_M).trans k_M_1
                      have c2 := (hS.1.cell (p := ⟨w.heap.size, 2, none⟩) hl_M).trans k_M_2
                      have P0 := Lib.hid p0
                      have P1 := Lib.hid p1
                      have P2 := Lib.hid p2
                      have P3 := Lib.hid p3
                      have P4 := Lib.hid p4
                      have P5 := Lib.hid p5
                      have P6 := Lib.hid p6
                      have P7 := Lib.hid p7
                      have P8 := Lib.hid p8
                      have P9 := Lib.hid p9
                      have P10 := Lib.hid p10
                      have P11 := Lib.hid p11
                      have HS := Lib.hid hS
                      clear hS hLi hafter p0 p1 p2 p3 p4 p5 p6 p7 p8 p9 p10 p11
                      simp only [Act.put, List.setIfInBounds_toArray, List.set_cons_zero, List.set_cons_succ]
                      go_wp2_with fail
                      exact ⟨.agg #[.slice pa R pc, .slice ia k ic, .slice ca R cc], u67, u68, u69, u70, u71, u72, u65, u73, u74, u17, u18, by simp only [Act.put, List.setIfInBounds_toArray, List.set_cons_zero, List.set_cons_succ], HS.out, (fun _ => rfl), (fun h => by first | rfl | exact P1.out (by simpa using h)), (fun h => by first | rfl | exact P2.out (by simpa using h)), (fun h => by first | rfl | exact P3.out (by simpa using h)), (fun h => P4.out (by simpa using h)), (fun h => by first | rfl | exact P5.out (by simpa using h)), (fun h => by first | rfl | exact P6.out (by simpa using h)), (fun h => by first | rfl | exact P7.out (by simpa using h)), (fun h => by first | rfl | exact P8.out (by simpa using h)), (fun h => by first | rfl | exact P9.out (by simpa using h)), (fun h => by first | rfl | exact P10.out (by simpa using h)), (fun h => by first | rfl | exact P11.out (by simpa using h))⟩
                    · simp only [List.getElem?_toArray, List.getElem?_cons_zero, List.getElem?_cons_succ, Option.some.injEq] at ho
                      subst ho
                      have P0 := Lib.hid p0
                      have P1 := Lib.hid p1
                      have P2 := Lib.hid p2
                      have P3 := Lib.hid p3
                      have P4 := Lib.hid p4
                      have P5 := Lib.hid p5
                      have P6 := Lib.hid p6
                      have P7 := Lib.hid p7
                      have P8 := Lib.hid p8
                      have P9 := Lib.hid p9
                      have P10 := Lib.hid p10
                      have P11 := Lib.hid p11
                      have HS := Lib.hid hS
                      clear hS hLi hafter p0 p1 p2 p3 p4 p5 p6 p7 p8 p9 p10 p11
                      simp only [Act.put, List.setIfInBounds_toArray, List.set_cons_zero, List.set_cons_succ]
                      go_wp2_with fail
                      exact ⟨u66, .int .i64 ((k1 : Nat) : Int), u68, u69, u70, u71, u72, u65, u73, u74, u17, u18, by simp only [Act.put, List.setIfInBounds_toArray, List.set_cons_zero, List.set_cons_succ], HS.out, (fun h => by first | rfl | exact P0.out (by simpa using h)), (fun _ => rfl), (fun h => by first | rfl | exact P2.out (by simpa using h)), (fun h => by first | rfl | exact P3.out (by simpa using h)), (fun h => P4.out (by simpa using h)), (fun h => by first | rfl | exact P5.out (by simpa using h)), (fun h => by first | rfl | exact P6.out (by simpa using h)), (fun h => by first | rfl | exact P7.out (by simpa using h)), (fun h => by first | rfl | exact P8.out (by simpa using h)), (fun h => by first | rfl | exact P9.out (by simpa using h)), (fun h => by first | rfl | exact P10.out (by simpa using h)), (fun h => by first | rfl | exact P11.out (by simpa using h))⟩
                    · simp only [List.getElem?_toArray, List.getElem?_cons_zero, List.getElem?_cons_succ, Option.some.injEq] at ho
                      subst ho
                      have P0 := Lib.hid p0
                      have P1 := Lib.hid p1
                      have P2 := Lib.hid p2
                      have P3 := Lib.hid p3
                      have P4 := Lib.hid p4
                      have P5 := Lib.hid p5
                      have P6 := Lib.hid p6
                      have P7 := Lib.hid p7
                      have P8 := Lib.hid p8
                      have P9 := Lib.hid p9
                      have P10 := Lib.hid p10
                      have P11 := Lib.hid p11
                      have HS := Lib.hid hS
                      clear hS hLi hafter p0 p1 p2 p3 p4 p5 p6 p7 p8 p9 p10 p11
                      simp only [Act.put, List.setIfInBounds_toArray, List.set_cons_zero, List.set_cons_succ]
                      go_wp2_with fail
                      exact ⟨u66, u67, .slice fa R fc, u69, u70, u71, u72, u65, u73, u74, u17, u18, by simp only [Act.put, List.setIfInBounds_toArray, List.set_cons_zero, List.set_cons_succ], HS.out, (fun h => by first | rfl | exact P0.out (by simpa using h)), (fun h => by first | rfl | exact P1.out (by simpa using h)), (fun _ => rfl), (fun h => by first | rfl | exact P3.out (by simpa using h)), (fun h => P4.out (by simpa using h)), (fun h => by first | rfl | exact P5.out (by simpa using h)), (fun h => by first | rfl | exact P6.out (by simpa using h)), (fun h => by first | rfl | exact P7.out (by simpa using h)), (fun h => by first | rfl | exact P8.out (by simpa using h)), (fun h => by first | rfl | exact P9.out (by simpa using h)), (fun h => by first | rfl | exact P10.out (by simpa using h)), (fun h => by first | rfl | exact P11.out (by simpa using h))⟩
                    · simp only [List.getElem?_toArray, List.getElem?_cons_zero, List.getElem?_cons_succ, Option.some.injEq] at ho
                      subst ho
                      have P0 := Lib.hid p0
                      have P1 := Lib.hid p1
                      have P2 := Lib.hid p2
                      have P3 := Lib.hid p3
                      have P4 := Lib.hid p4
                      have P5 := Lib.hid p5
                      have P6 := Lib.hid p6
                      have P7 := Lib.hid p7
                      have P8 := Lib.hid p8
                      have P9 := Lib.hid p9
                      have P10 := Lib.hid p10
                      have P11 := Lib.hid p11
                      have HS := Lib.hid hS
                      clear hS hLi hafter p0 p1 p2 p3 p4 p5 p6 p7 p8 p9 p10 p11
                      simp only [Act.put, List.setIfInBounds_toArray, List.set_cons_zero, List.set_cons_succ]
                      go_wp2_with fail
                      exact ⟨u66, u67, u68, .slice (some ⟨WA.heap.size, 0, none⟩) k k, u70, u71, u72, u65, u73, u74, u17, u18, by simp only [Act.put, List.setIfInBounds_toArray, List.set_cons_zero, List.set_cons_succ], HS.out, (fun h => by first | rfl | exact P0.out (by simpa using h)), (fun h => by first | rfl | exact P1.out (by simpa using h)), (fun h => by first | rfl | exact P2.out (by simpa using h)), (fun _ => rfl), (fun h => P4.out (by simpa using h)), (fun h => by first | rfl | exact P5.out (by simpa using h)), (fun h => by first | rfl | exact P6.out (by simpa using h)), (fun h => by first | rfl | exact P7.out (by simpa using h)), (fun h => by first | rfl | exact P8.out (by simpa using h)), (fun h => by first | rfl | exact P9.out (by simpa using h)), (fun h => by first | rfl | exact P10.out (by simpa using h)), (fun h => by first | rfl | exact P11.out (by simpa using h))⟩
                    · simp only [List.getElem?_toArray, List.getElem?_cons_zero, List.getElem?_cons_succ, Option.some.injEq] at ho
                      subst ho
                      obtain rfl := p0 (hafter ⟨0, .data⟩ (by simp) rfl)
                      obtain rfl := p1 (hafter ⟨1, .data⟩ (by simp) rfl)
                      obtain rfl := p2 (hafter ⟨2, .data⟩ (by simp) rfl)
                      obtain rfl := p3 (hafter ⟨3, .data⟩ (by simp) rfl)
                      have P0 := Lib.hid p0
                      have P1 := Lib.hid p1
                      have P2 := Lib.hid p2
                      have P3 := Lib.hid p3
                      have P4 := Lib.hid p4
                      have P5 := Lib.hid p5
                      have P6 := Lib.hid p6
                      have P7 := Lib.hid p7
                      have P8 := Lib.hid p8
                      have P9 := Lib.hid p9
                      have P10 := Lib.hid p10
                      have P11 := Lib.hid p11
                      have HS := Lib.hid hS
                      clear hS hLi hafter p0 p1 p2 p3 p4 p5 p6 p7 p8 p9 p10 p11
                      simp only [Act.put, List.setIfInBounds_toArray, List.set_cons_zero, List.set_cons_succ]
                      go_wp2_with fail
                      refine (strata_ok _ _ _ _ _ _ _ R _ _ _ _ z _ (HC.out.below HS.out.1) hI60 (by omega) HRN.out _ _ f (HF.out.below HS.out.1) _ _ (fun j => !(g j)) (HUS.out.below HS.out.1) k1 hkn).mono ?_
                      rw [HNT.out, HTT.out]
                      rintro e wn ⟨bt, rfl, ht1, ht2, ht, hb⟩
                      have HT := Lib.hid ht
                      have Hb := Lib.hid hb
                      clear ht1 ht2 ht hb
                      go_wp2_with fail
                      exact ⟨.agg #[.slice pa R pc, .slice ia k ic, .slice ca R cc], .int .i64 ((k1 : Nat) : Int), .slice fa R fc, .slice (some ⟨WA.heap.size, 0, none⟩) k k, _, u71, u72, u65, u73, u74, u17, u18, by simp only [Act.put, List.setIfInBounds_toArray, List.set_cons_zero, List.set_cons_succ], HS.out.below Hb.out, (fun h => by first | rfl | exact P0.out (by simpa using h)), (fun h => by first | rfl | exact P1.out (by simpa using h)), (fun h => by first | rfl | exact P2.out (by simpa using h)), (fun h => by first | rfl | exact P3.out (by simpa using h)), (fun _ => ⟨bt, rfl, HT.out⟩), (fun h => by first | rfl | exact P5.out (by simpa using h)), (fun h => by first | rfl | exact P6.out (by simpa using h)), (fun h => by first | rfl | exact P7.out (by simpa using h)), (fun h => by first | rfl | exact P8.out (by simpa using h)), (fun h => by first | rfl | exact P9.out (by simpa using h)), (fun h => by first | rfl | exact P10.out (by simpa using h)), (fun h => by first | rfl | exact P11.out (by simpa using h))⟩
                    · simp only [List.getElem?_toArray, List.getElem?_cons_zero, List.getElem?_cons_succ, Option.some.injEq] at ho
                      subst ho
                      have c0 := (hS.1.cell (p := ⟨(w.heap.size + 1), 0, none⟩) hl_A).trans k_A_0
                      have c1 := (hS.1.cell (p := ⟨(w.heap.size + 1), 1, none⟩) hl_A).trans k_A_1
                      have c2 := (hS.1.cell (p := ⟨(w.heap.size + 1), 2, none⟩) hl_A).trans k_A_2
                      have P0 := Lib.hid p0
                      have P1 := Lib.hid p1
                      have P2 := Lib.hid p2
                      have P3 := Lib.hid p3
                      have P4 := Lib.hid p4
                      have P5 := Lib.hid p5
                      have P6 := Lib.hid p6
                      have P7 := Lib.hid p7
                      have P8 := Lib.hid p8
                      have P9 := Lib.hid p9
                      have P10 := Lib.hid p10
                      have P11 := Lib.hid p11
                      have HS := Lib.hid hS
                      clear hS hLi hafter p0 p1 p2 p3 p4 p5 p6 p7 p8 p9 p10 p11
                      simp only [Act.put, List.setIfInBounds_toArray, List.set_cons_zero, List.set_cons_succ]
                      go_wp2_with fail
                      exact ⟨u66, u67, u68, u69, u70, .agg #[.bool s2, .slice a2 na2 ca2, .slice d2 nd2 cd2], u72, u65, u73, u74, u17, u18, by simp only [Act.put, List.setIfInBounds_toArray, List.set_cons_zero, List.set_cons_succ], HS.out, (fun h => by first | rfl | exact P0.out (by simpa using h)), (fun h => by first | rfl | exact P1.out (by simpa using h)), (fun h => by first | rfl | exact P2.out (by simpa using h)), (fun h => by first | rfl | exact P3.out (by simpa using h)), (fun h => P4.out (by simpa using h)), (fun _ => rfl), (fun h => by first | rfl | exact P6.out (by simpa using h)), (fun h => by first | rfl | exact P7.out (by simpa using h)), (fun h => by first | rfl | exact P8.out (by simpa using h)), (fun h => by first | rfl | exact P9.out (by simpa using h)), (fun h => by first | rfl | exact P10.out (by simpa using h)), (fun h => by first | rfl | exact P11.out (by simpa using h))⟩
                    · simp only [List.getElem?_toArray, List.getElem?_cons_zero, List.getElem?_cons_succ, Option.some.injEq] at ho
                      subst ho
                      obtain ⟨b4, rfl, ht4⟩ := p4 (hafter ⟨4, .data⟩ (by simp) rfl)
                      have HT4 := Lib.hid ht4
                      clear ht4
                      obtain rfl := p5 (hafter ⟨5, .data⟩ (by simp) rfl)
                      have P0 := Lib.hid p0
                      have P1 := Lib.hid p1
                      have P2 := Lib.hid p2
                      have P3 := Lib.hid p3
                      have P4 := Lib.hid p4
                      have P5 := Lib.hid p5
                      have P6 := Lib.hid p6
                      have P7 := Lib.hid p7
                      have P8 := Lib.hid p8
                      have P9 := Lib.hid p9
                      have P10 := Lib.hid p10
                      have P11 := Lib.hid p11
                      have HS := Lib.hid hS
                      clear hS hLi hafter p0 p1 p2 p3 p4 p5 p6 p7 p8 p9 p10 p11
                      simp only [Act.put, List.setIfInBounds_toArray, List.set_cons_zero, List.set_cons_succ]
                      go_wp2_with fail
                      refine (class_ok (N := N) _ nt _ tt _ (by have := HS.out.2; omega) HT4.out hnt HCT.out HST.out _ _ _ _ _ _ _ L al (HAL.out.below HS.out.1) hL true HPB.out c HCC.out).mono ?_
                      rintro e wn ⟨rfl, hb⟩
                      have Hb := Lib.hid hb
                      clear hb
                      go_wp2_with fail
                      exact ⟨u66, u67, u68, u69, _, .agg #[.bool s2, .slice a2 na2 ca2, .slice d2 nd2 cd2], .tuple #[.int .i64 c, .int .i64 0], u65, u73, u74, u17, u18, by simp only [Act.put, List.setIfInBounds_toArray, List.set_cons_zero, List.set_cons_succ], HS.out.below Hb.out, (fun h => by first | rfl | exact P0.out (by simpa using h)), (fun h => by first | rfl | exact P1.out (by simpa using h)), (fun h => by first | rfl | exact P2.out (by simpa using h)), (fun h => by first | rfl | exact P3.out (by simpa using h)), (fun h => (P4.out (by simpa using h)).below Hb.out), (fun h => by first | rfl | exact P5.out (by simpa using h)), (fun _ => rfl), (fun h => by first | rfl | exact P7.out (by simpa using h)), (fun h => by first | rfl | exact P8.out (by simpa using h)), (fun h => by first | rfl | exact P9.out (by simpa using h)), (fun h => by first | rfl | exact P10.out (by simpa using h)), (fun h => by first | rfl | exact P11.out (by simpa using h))⟩
                    · simp only [List.getElem?_toArray, List.getElem?_cons_zero, List.getElem?_cons_succ, Option.some.injEq] at ho
                      subst ho
                      obtain rfl := p6 (hafter ⟨6, .data⟩ (by simp) rfl)
                      have P0 := Lib.hid p0
                      have P1 := Lib.hid p1
                      have P2 := Lib.hid p2
                      have P3 := Lib.hid p3
                      have P4 := Lib.hid p4
                      have P5 := Lib.hid p5
                      have P6 := Lib.hid p6
                      have P7 := Lib.hid p7
                      have P8 := Lib.hid p8
                      have P9 := Lib.hid p9
                      have P10 := Lib.hid p10
                      have P11 := Lib.hid p11
                      have HS := Lib.hid hS
                      clear hS hLi hafter p0 p1 p2 p3 p4 p5 p6 p7 p8 p9 p10 p11
                      simp only [Act.put, List.setIfInBounds_toArray, List.set_cons_zero, List.set_cons_succ]
                      go_wp2_with fail
                      exact ⟨u66, u67, u68, u69, u70, u71, .tuple #[.int .i64 c, .int .i64 0], .tuple #[.int .i64 c, .int .i64 0], u73, u74, u17, u18, by simp only [Act.put, List.setIfInBounds_toArray, List.set_cons_zero, List.set_cons_succ], HS.out, (fun h => by first | rfl | exact P0.out (by simpa using h)), (fun h => by first | rfl | exact P1.out (by simpa using h)), (fun h => by first | rfl | exact P2.out (by simpa using h)), (fun h => by first | rfl | exact P3.out (by simpa using h)), (fun h => P4.out (by simpa using h)), (fun h => by first | rfl | exact P5.out (by simpa using h)), (fun h => by first | rfl | exact P6.out (by simpa using h)), (fun _ => rfl), (fun h => by first | rfl | exact P8.out (by simpa using h)), (fun h => by first | rfl | exact P9.out (by simpa using h)), (fun h => by first | rfl | exact P10.out (by simpa using h)), (fun h => by first | rfl | exact P11.out (by simpa using h))⟩
                    · simp only [List.getElem?_toArray, List.getElem?_cons_zero, List.getElem?_cons_succ, Option.some.injEq] at ho
                      subst ho
                      obtain rfl := p7 (hafter ⟨7, .data⟩ (by simp) rfl)
                      have P0 := Lib.hid p0
                      have P1 := Lib.hid p1
                      have P2 := Lib.hid p2
                      have P3 := Lib.hid p3
                      have P4 := Lib.hid p4
                      have P5 := Lib.hid p5
                      have P6 := Lib.hid p6
                      have P7 := Lib.hid p7
                      have P8 := Lib.hid p8
                      have P9 := Lib.hid p9
                      have P10 := Lib.hid p10
                      have P11 := Lib.hid p11
                      have HS := Lib.hid hS
                      clear hS hLi hafter p0 p1 p2 p3 p4 p5 p6 p7 p8 p9 p10 p11
                      simp only [Act.put, List.setIfInBounds_toArray, List.set_cons_zero, List.set_cons_succ]
                      go_wp2_with fail
                      exact ⟨u66, u67, u68, u69, u70, u71, u72, .tuple #[.int .i64 c, .int .i64 0], .int .i64 c, u74, u17, u18, by simp only [Act.put, List.setIfInBounds_toArray, List.set_cons_zero, List.set_cons_succ], HS.out, (fun h => by first | rfl | exact P0.out (by simpa using h)), (fun h => by first | rfl | exact P1.out (by simpa using h)), (fun h => by first | rfl | exact P2.out (by simpa using h)), (fun h => by first | rfl | exact P3.out (by simpa using h)), (fun h => P4.out (by simpa using h)), (fun h => by first | rfl | exact P5.out (by simpa using h)), (fun h => by first | rfl | exact P6.out (by simpa using h)), (fun h => by first | rfl | exact P7.out (by simpa using h)), (fun _ => rfl), (fun h => by first | rfl | exact P9.out (by simpa using h)), (fun h => by first | rfl | exact P10.out (by simpa using h)), (fun h => by first | rfl | exact P11.out (by simpa using h))⟩
                    · simp only [List.getElem?_toArray, List.getElem?_cons_zero, List.getElem?_cons_succ, Option.some.injEq] at ho
                      subst ho
                      obtain rfl := p7 (hafter ⟨7, .data⟩ (by simp) rfl)
                      have P0 := Lib.hid p0
                      have P1 := Lib.hid p1
                      have P2 := Lib.hid p2
                      have P3 := Lib.hid p3
                      have P4 := Lib.hid p4
                      have P5 := Lib.hid p5
                      have P6 := Lib.hid p6
                      have P7 := Lib.hid p7
                      have P8 := Lib.hid p8
                      have P9 := Lib.hid p9
                      have P10 := Lib.hid p10
                      have P11 := Lib.hid p11
                      have HS := Lib.hid hS
                      clear hS hLi hafter p0 p1 p2 p3 p4 p5 p6 p7 p8 p9 p10 p11
                      simp only [Act.put, List.setIfInBounds_toArray, List.set_cons_zero, List.set_cons_succ]
                      go_wp2_with fail
                      exact ⟨u66, u67, u68, u69, u70, u71, u72, .tuple #[.int .i64 c, .int .i64 0], u73, .int .i64 0, u17, u18, by simp only [Act.put, List.setIfInBounds_toArray, List.set_cons_zero, List.set_cons_succ], HS.out, (fun h => by first | rfl | exact P0.out (by simpa using h)), (fun h => by first | rfl | exact P1.out (by simpa using h)), (fun h => by first | rfl | exact P2.out (by simpa using h)), (fun h => by first | rfl | exact P3.out (by simpa using h)), (fun h => P4.out (by simpa using h)), (fun h => by first | rfl | exact P5.out (by simpa using h)), (fun h => by first | rfl | exact P6.out (by simpa using h)), (fun h => by first | rfl | exact P7.out (by simpa using h)), (fun h => by first | rfl | exact P8.out (by simpa using h)), (fun _ => rfl), (fun h => by first | rfl | exact P10.out (by simpa using h)), (fun h => by first | rfl | exact P11.out (by simpa using h))⟩
                    · simp only [List.getElem?_toArray, List.getElem?_cons_zero, List.getElem?_cons_succ, Option.some.injEq] at ho
                      subst ho
                      obtain rfl := p8 (hafter ⟨8, .data⟩ (by simp) rfl)
                      have P0 := Lib.hid p0
                      have P1 := Lib.hid p1
                      have P2 := Lib.hid p2
                      have P3 := Lib.hid p3
                      have P4 := Lib.hid p4
                      have P5 := Lib.hid p5
                      have P6 := Lib.hid p6
                      have P7 := Lib.hid p7
                      have P8 := Lib.hid p8
                      have P9 := Lib.hid p9
                      have P10 := Lib.hid p10
                      have P11 := Lib.hid p11
                      have HS := Lib.hid hS
                      clear hS hLi hafter p0 p1 p2 p3 p4 p5 p6 p7 p8 p9 p10 p11
                      simp only [Act.put, List.setIfInBounds_toArray, List.set_cons_zero, List.set_cons_succ]
                      go_wp2_with fail
                      exact ⟨u66, u67, u68, u69, u70, u71, u72, u65, .int .i64 c, u74, .int .i64 c, u18, by simp only [Act.put, List.setIfInBounds_toArray, List.set_cons_zero, List.set_cons_succ], HS.out, (fun h => by first | rfl | exact P0.out (by simpa using h)), (fun h => by first | rfl | exact P1.out (by simpa using h)), (fun h => by first | rfl | exact P2.out (by simpa using h)), (fun h => by first | rfl | exact P3.out (by simpa using h)), (fun h => P4.out (by simpa using h)), (fun h => by first | rfl | exact P5.out (by simpa using h)), (fun h => by first | rfl | exact P6.out (by simpa using h)), (fun h => by first | rfl | exact P7.out (by simpa using h)), (fun h => by first | rfl | exact P8.out (by simpa using h)), (fun h => by first | rfl | exact P9.out (by simpa using h)), (fun _ => rfl), (fun h => by first | rfl | exact P11.out (by simpa using h))⟩
                    · simp only [List.getElem?_toArray, List.getElem?_cons_zero, List.getElem?_cons_succ, Option.some.injEq] at ho
                      subst ho
                      obtain rfl := p9 (hafter ⟨9, .data⟩ (by simp) rfl)
                      have P0 := Lib.hid p0
                      have P1 := Lib.hid p1
                      have P2 := Lib.hid p2
                      have P3 := Lib.hid p3
                      have P4 := Lib.hid p4
                      have P5 := Lib.hid p5
                      have P6 := Lib.hid p6
                      have P7 := Lib.hid p7
                      have P8 := Lib.hid p8
                      have P9 := Lib.hid p9
                      have P10 := Lib.hid p10
                      have P11 := Lib.hid p11
                      have HS := Lib.hid hS
                      clear hS hLi hafter p0 p1 p2 p3 p4 p5 p6 p7 p8 p9 p10 p11
                      simp only [Act.put, List.setIfInBounds_toArray, List.set_cons_zero, List.set_cons_succ]
                      go_wp2_with fail
                      exact ⟨u66, u67, u68, u69, u70, u71, u72, u65, u73, .int .i64 0, u17, .int .i64 0, by simp only [Act.put, List.setIfInBounds_toArray, List.set_cons_zero, List.set_cons_succ], HS.out, (fun h => by first | rfl | exact P0.out (by simpa using h)), (fun h => by first | rfl | exact P1.out (by simpa using h)), (fun h => by first | rfl | exact P2.out (by simpa using h)), (fun h => by first | rfl | exact P3.out (by simpa using h)), (fun h => P4.out (by simpa using h)), (fun h => by first | rfl | exact P5.out (by simpa using h)), (fun h => by first | rfl | exact P6.out (by simpa using h)), (fun h => by first | rfl | exact P7.out (by simpa using h)), (fun h => by first | rfl | exact P8.out (by simpa using h)), (fun h => by first | rfl | exact P9.out (by simpa using h)), (fun h => by first | rfl | exact P10.out (by simpa using h)), (fun _ => rfl)⟩
                  · intro Ls a0 wq hall hJ
                    obtain ⟨u66, u67, u68, u69, u70, u71, u72, u65, u73, u74, u17, u18, rfl, hS, p0, p1, p2, p3, p4, p5, p6, p7, p8, p9, p10, p11⟩ := hJ
                    replace p0 := p0 (hall 0 (by decide))
                    replace p1 := p1 (hall 1 (by decide))
                    replace p2 := p2 (hall 2 (by decide))
                    replace p3 := p3 (hall 3 (by decide))
                    replace p4 := p4 (hall 4 (by decide))
                    replace p5 := p5 (hall 5 (by decide))
                    replace p6 := p6 (hall 6 (by decide))
                    replace p7 := p7 (hall 7 (by decide))
                    replace p8 := p8 (hall 8 (by decide))
                    replace p9 := p9 (hall 9 (by decide))
                    replace p10 := p10 (hall 10 (by decide))
                    replace p11 := p11 (hall 11 (by decide))
                    have hb := hS.1
                    obtain rfl := p10
                    obtain rfl := p11
                    clear hS p0 p1 p2 p3 p4 p5 p6 p7 p8 p9
                    have hrw := World.rowIs.of_block HRW.out (hb.block _ hgl3)
                    have HBD2 := Lib.hid (HBD.out.trans (hb.mono (by omega)))
                    have hgl4 := World.rowIs.lt hrw
                    have hsz5 : WB.heap.size ≤ wq.heap.size := by have := hb.size; omega
                    have hfz := World.rowIs.frozen hrw
                    have HRW2 := Lib.hid hrw
                    have c1 := World.rowIs.cell hrw hkn
                    clear hrw HRW HBD
                    have hs_wq : W5.heap.size ≤ wq.heap.size := hb.size
                    replace k_M_0 : wq.cell? ⟨w.heap.size, 0, none⟩ = some (.slice pa R pc) := (hb.cell (p := ⟨w.heap.size, 0, none⟩) hl_M).trans k_M_0
                    replace k_M_1 : wq.cell? ⟨w.heap.size, 1, none⟩ = some (.slice ia k ic) := (hb.cell (p := ⟨w.heap.size, 1, none⟩) hl_M).trans k_M_1
                    replace k_M_2 : wq.cell? ⟨w.heap.size, 2, none⟩ = some (.slice ca R cc) := (hb.cell (p := ⟨w.heap.size, 2, none⟩) hl_M).trans k_M_2
                    replace f_M : ∀ o, wq.frozen? ⟨w.heap.size, o, none⟩ = false := fun o => (hb.frozen (p := ⟨w.heap.size, o, none⟩) hl_M).trans (f_M o)
                    replace HX_M := Lib.hid (HX_M.out.below hb)
                    replace k_A_0 : wq.cell? ⟨w.heap.size + 1, 0, none⟩ = some (.bool s2) := (hb.cell (p := ⟨w.heap.size + 1, 0, none⟩) hl_A).trans k_A_0
                    replace k_A_1 : wq.cell? ⟨w.heap.size + 1, 1, none⟩ = some (.slice a2 na2 ca2) := (hb.cell (p := ⟨w.heap.size + 1, 1, none⟩) hl_A).trans k_A_1
                    replace k_A_2 : wq.cell? ⟨w.heap.size + 1, 2, none⟩ = some (.slice d2 nd2 cd2) := (hb.cell (p := ⟨w.heap.size + 1, 2, none⟩) hl_A).trans k_A_2
                    replace f_A : ∀ o, wq.frozen? ⟨w.heap.size + 1, o, none⟩ = false := fun o => (hb.frozen (p := ⟨w.heap.size + 1, o, none⟩) hl_A).trans (f_A o)
                    replace HX_A := Lib.hid (HX_A.out.below hb)
                    replace HB := Lib.hid (HB.out.trans (hb.mono hs0))
                    replace hN : N ≤ wq.heap.size := Nat.le_trans hN hb.size
                    replace hs0 : w.heap.size ≤ wq.heap.size := Nat.le_trans hs0 hb.size
                    replace hl_M : w.heap.size < wq.heap.size := Nat.lt_of_lt_of_le hl_M hb.size
                    replace hl_A : w.heap.size + 1 < wq.heap.size := Nat.lt_of_lt_of_le hl_A hb.size
                    replace HC := Lib.hid (HC.out.below hb)
                    replace HF := Lib.hid (HF.out.below hb)
                    replace HAL := Lib.hid (HAL.out.below hb)
                    replace HBF := Lib.hid (HBF.out.below hb)
                    replace HSC := Lib.hid (HSC.out.below hb)
                    replace HUS := Lib.hid (HUS.out.below hb)
                    clear hb
                    simp only [Act.put, List.setIfInBounds_toArray, List.set_cons_zero, List.set_cons_succ]
                    by_cases hc0 : c = 0
                    · subst hc0
                      go_wp2_with fail
                      go_roundw
                      case rel =>
                        refine ⟨k1 + 1, fun j => if j = k1 then false else fl j, by omega, by go_num, (World.rowIs.set HRW2.out k1 _).congr (fun j hj => ?_), ?_⟩
                        · by_cases e : j = k1
                          · subst e; simp
                          · simp [e]
                        · exact BlA
                      case measure => simp [intOf]; omega
                    · have cb : (c == 0) = false := by simpa using hc0
                      have cc' : (c != 0) = true := by simpa using hc0
                      go_wp2_with fail
                      go_roundw
                      case rel =>
                        refine ⟨k1 + 1, fun j => if j = k1 then true else fl j, by omega, by go_num, (World.rowIs.set HRW2.out k1 _).congr (fun j hj => ?_), ?_⟩
                        · by_cases e : j = k1
                          · subst e; simp
                          · simp [e]
                        · exact BlA
                      case measure => simp [intOf]; omega
                · obtain rfl : k1 = k := by omega
                  have hfb := Lb.bs HRW.out (by unfold maxLen; omega)
                  have HFB := Lib.hid hfb
                  clear hfb
                  by_cases r20 : r = 20
                  · have r20b : ((r : Int) == 20) = true := by simp; omega
                    have HR20 := Lib.hid r20
                    clear r20
                    go_wp2_with fail
                    refine bodyPost_ret (v := .tuple #[.slice (some ⟨WB.heap.size, 0, none⟩) k1 k1, .int .i64 (r : Nat), .int .i64 0]) (by simp [results, Tryd.results15, go_sem]) rfl ⟨.inr ⟨WB.heap.size, r, fl, rfl, hr1, hr20, fun h => absurd h (by have := HR20.out; omega), hzero.out, HFB.out⟩, HB.out⟩
                  · have r20b : ((r : Int) == 20) = false := by simp; omega
                    go_wp2_with fail
                    refine calls_name fun W6 hW => ?_
                    have HL_W6 := Lib.hid (show Below WD.heap.size WD W6 by rw [← hW]; exact BlA)
                    have hs_W6 : WD.heap.size ≤ W6.heap.size := by rw [← hW]; (first | omega | (simp; done) | (simp; omega))
                    replace k_M_0 : W6.cell? ⟨w.heap.size, 0, none⟩ = some (.slice pa R pc) := (HL_W6.out.cell (p := ⟨w.heap.size, 0, none⟩) hl_M).trans k_M_0
                    replace k_M_1 : W6.cell? ⟨w.heap.size, 1, none⟩ = some (.slice ia k1 ic) := (HL_W6.out.cell (p := ⟨w.heap.size, 1, none⟩) hl_M).trans k_M_1
                    replace k_M_2 : W6.cell? ⟨w.heap.size, 2, none⟩ = some (.slice ca R cc) := (HL_W6.out.cell (p := ⟨w.heap.size, 2, none⟩) hl_M).trans k_M_2
                    replace f_M : ∀ o, W6.frozen? ⟨w.heap.size, o, none⟩ = false := fun o => (HL_W6.out.frozen (p := ⟨w.heap.size, o, none⟩) hl_M).trans (f_M o)
                    replace HX_M := Lib.hid (show Bn W6 (w.heap.size) by rw [← hW]; exact KpA)
                    replace k_A_0 : W6.cell? ⟨w.heap.size + 1, 0, none⟩ = some (.bool s2) := (HL_W6.out.cell (p := ⟨w.heap.size + 1, 0, none⟩) hl_A).trans k_A_0
                    replace k_A_1 : W6.cell? ⟨w.heap.size + 1, 1, none⟩ = some (.slice a2 na2 ca2) := (HL_W6.out.cell (p := ⟨w.heap.size + 1, 1, none⟩) hl_A).trans k_A_1
                    replace k_A_2 : W6.cell? ⟨w.heap.size + 1, 2, none⟩ = some (.slice d2 nd2 cd2) := (HL_W6.out.cell (p := ⟨w.heap.size + 1, 2, none⟩) hl_A).trans k_A_2
                    replace f_A : ∀ o, W6.frozen? ⟨w.heap.size + 1, o, none⟩ = false := fun o => (HL_W6.out.frozen (p := ⟨w.heap.size + 1, o, none⟩) hl_A).trans (f_A o)
                    replace HX_A := Lib.hid (show Bn W6 (w.heap.size + 1) by rw [← hW]; exact KpA)
                    replace HB := Lib.hid (show Below w.heap.size w W6 by rw [← hW]; exact BlA)
                    replace hN : N ≤ W6.heap.size := by rw [← hW]; (first | omega | (simp; done) | (simp; omega))
                    replace hs0 : w.heap.size ≤ W6.heap.size := by rw [← hW]; (first | omega | (simp; done) | (simp; omega))
                    replace hl_M : w.heap.size < W6.heap.size := by rw [← hW]; (first | omega | (simp; done) | (simp; omega))
                    replace hl_A : w.heap.size + 1 < W6.heap.size := by rw [← hW]; (first | omega | (simp; done) | (simp; omega))
                    replace HC := Lib.hid (HC.out.below HL_W6.out)
                    replace HF := Lib.hid (HF.out.below HL_W6.out)
                    replace HAL := Lib.hid (HAL.out.below HL_W6.out)
                    replace HBF := Lib.hid (HBF.out.below HL_W6.out)
                    replace HSC := Lib.hid (HSC.out.below HL_W6.out)
                    replace HUS := Lib.hid (HUS.out.below HL_W6.out)
                    replace HFB := Lib.hid (HFB.out.below HL_W6.out)
                    clear HL_W6
                    clear hW
                    refine (equal_any _ _ _ _ _ fl g _ HFB.out HBF.out).mono ?_
                    rintro e wf ⟨v, rfl, hv, hb⟩
                    have hs_wf : W6.heap.size ≤ wf.heap.size := hb.size
                    replace k_M_0 : wf.cell? ⟨w.heap.size, 0, none⟩ = some (.slice pa R pc) := (hb.cell (p := ⟨w.heap.size, 0, none⟩) hl_M).trans k_M_0
                    replace k_M_1 : wf.cell? ⟨w.heap.size, 1, none⟩ = some (.slice ia k1 ic) := (hb.cell (p := ⟨w.heap.size, 1, none⟩) hl_M).trans k_M_1
                    replace k_M_2 : wf.cell? ⟨w.heap.size, 2, none⟩ = some (.slice ca R cc) := (hb.cell (p := ⟨w.heap.size, 2, none⟩) hl_M).trans k_M_2
                    replace f_M : ∀ o, wf.frozen? ⟨w.heap.size, o, none⟩ = false := fun o => (hb.frozen (p := ⟨w.heap.size, o, none⟩) hl_M).trans (f_M o)
                    replace HX_M := Lib.hid (HX_M.out.below hb)
                    replace k_A_0 : wf.cell? ⟨w.heap.size + 1, 0, none⟩ = some (.bool s2) := (hb.cell (p := ⟨w.heap.size + 1, 0, none⟩) hl_A).trans k_A_0
                    replace k_A_1 : wf.cell? ⟨w.heap.size + 1, 1, none⟩ = some (.slice a2 na2 ca2) := (hb.cell (p := ⟨w.heap.size + 1, 1, none⟩) hl_A).trans k_A_1
                    replace k_A_2 : wf.cell? ⟨w.heap.size + 1, 2, none⟩ = some (.slice d2 nd2 cd2) := (hb.cell (p := ⟨w.heap.size + 1, 2, none⟩) hl_A).trans k_A_2
                    replace f_A : ∀ o, wf.frozen? ⟨w.heap.size + 1, o, none⟩ = false := fun o => (hb.frozen (p := ⟨w.heap.size + 1, o, none⟩) hl_A).trans (f_A o)
                    replace HX_A := Lib.hid (HX_A.out.below hb)
                    replace HB := Lib.hid (HB.out.trans (hb.mono hs0))
                    replace hN : N ≤ wf.heap.size := Nat.le_trans hN hb.size
                    replace hs0 : w.heap.size ≤ wf.heap.size := Nat.le_trans hs0 hb.size
                    replace hl_M : w.heap.size < wf.heap.size := Nat.lt_of_lt_of_le hl_M hb.size
                    replace hl_A : w.heap.size + 1 < wf.heap.size := Nat.lt_of_lt_of_le hl_A hb.size
                    replace HC := Lib.hid (HC.out.below hb)
                    replace HF := Lib.hid (HF.out.below hb)
                    replace HAL := Lib.hid (HAL.out.below hb)
                    replace HBF := Lib.hid (HBF.out.below hb)
                    replace HSC := Lib.hid (HSC.out.below hb)
                    replace HUS := Lib.hid (HUS.out.below hb)
                    replace HFB := Lib.hid (HFB.out.below hb)
                    clear hb
                    have HV := Lib.hid hv
                    clear hv
                    cases v
                    · go_wp2_with fail
                      go_roundw
                      case rel =>
                        exact ⟨r + 1, WB.heap.size, fl, by omega, by omega, by go_num, rfl, HFB.out, Lib.hid (fun h => absurd h (by omega)), Lib.hid (fun h => absurd (HV.out.2 (fun j hj => by omega)) (by simp)), HSC.out⟩
                      case measure => simp [intOf]; omega
                    · go_wp2_with fail
                      refine bodyPost_ret (v := .tuple #[.slice (some ⟨WB.heap.size, 0, none⟩) k1 k1, .int .i64 (r : Nat), .int .i64 0]) (by simp [results, Tryd.results15, go_sem]) rfl ⟨.inr ⟨WB.heap.size, r, fl, rfl, hr1, hr20, fun h j hj => (HV.out.1 (by trivial) j hj).trans (hone.out h j hj), hzero.out, HFB.out⟩, HB.out⟩
    · have d1 : ¬ (nf : Int) = (P : Int) := by omega
      have d1b : ((nf : Int) == (P : Int)) = false := by simp; omega
      have d1c : ((nf : Int) != (P : Int)) = true := by simp; omega
      go_wp2_with fail
      refine bodyPost_ret (v := .tuple #[.slice none 0 0, .int .i64 0, .int .i64 (1)]) (by simp [results, Tryd.results15, go_sem]) rfl ⟨.inl ⟨1, by decide, rfl, fun h => f1 h.2.1⟩, HB.out⟩
  · have HNG := Lib.hid (fun h => hv0 (hv.2 h))
    have zb : (v == 0) = false := by simpa using hv0
    have zc : (v != 0) = true := by simpa using hv0
    go_wp2_with fail
    refine bodyPost_ret (v := .tuple #[.slice none 0 0, .int .i64 0, .int .i64 (v)]) (by simp [results, Tryd.results15, go_sem]) rfl ⟨.inl ⟨v, hv0, rfl, fun h => HNG.out h.1⟩, HB.out⟩

end Go.Proofs.YtmecipfdelgfbaaDoor
