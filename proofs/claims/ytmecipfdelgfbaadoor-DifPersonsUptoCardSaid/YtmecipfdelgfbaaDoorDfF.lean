/- Contracts of dif.binary, law30.twos, slices.Equal and dif.Strata. Lists of at most 2^40 elements. -/
import Derived.Test.YtmecipfdelgfbaaDoorDfE
namespace Go.Proofs.YtmecipfdelgfbaaDoor
open Go.RowKit

theorem Tryd.underIntsM : Tryd.prog.underlying 40 = some (.slice 3) := by kernel_rfl
theorem Tryd.infoIntM : (Tryd.prog.info? 3).map (fun i => (i.zero, i.size, i.bytes)) = some (some (.int .i64 0), 1, 8) := by kernel_rfl
theorem make_intsM (n : Nat) (h : n ≤ 1099511627776) (w : World) :
    (Instr.makeSlice 40 (.int .i64 (n : Int)) (.int .i64 (n : Int))).run Tryd.prog w = .ok (.slice (some ⟨w.heap.size, 0, none⟩) n n) (w.alloc (.cells (madeCells #[.int .i64 0] n) 3)) :=
  run_make_row' (P := Tryd.prog) 40 3 (.int .i64 0) 8 Tryd.underIntsM Tryd.infoIntM rfl .i64 .i64 n (by omega) (by omega) w
theorem row_is {w : World} {b n : Nat} {z : Nat → Int} (h : w.rowIs b 3 n (fun i => .int .i64 (z i))) (hn : n ≤ maxLen) : Is w (some ⟨b, 0, none⟩) n n z :=
  ⟨Nat.le_refl _, hn, fun _ => ⟨b, 0, rfl, fun i hi => by rw [Nat.zero_add]; exact World.rowIs.cell h hi⟩⟩
theorem Is.congr2 {w : World} {a : Option Addr} {n cap : Nat} {z z' : Nat → Int} (h : Is w a n cap z) (e : ∀ i, i < n → z i = z' i) : Is w a n cap z' :=
  ⟨h.1, h.2.1, fun hn => by obtain ⟨b, off, e1, hc⟩ := h.2.2 hn; exact ⟨b, off, e1, fun i hi => by rw [← e i hi]; exact hc i hi⟩⟩
def TwoPost (w : World) (n : Nat) (e : Ending) (w' : World) : Prop := ∃ b, e = .returned (.slice (some ⟨b, 0, none⟩) n n) ∧ w.heap.size ≤ b ∧ b < w'.heap.size ∧ Is w' (some ⟨b, 0, none⟩) n n (fun _ => 2) ∧ Below w.heap.size w w'

set_option maxRecDepth 20000 in
set_option maxHeartbeats 2000000 in
theorem binary_any (pa ia ca : Option Addr) (P pc I ic R cc : Nat) (w : World) (hI : I ≤ 1099511627776) :
    Calls Tryd.prog 40 #[.agg #[.slice pa P pc, .slice ia I ic, .slice ca R cc]] w (TwoPost w I) := by
  have hmk := make_intsM I hI
  go_enter Tryd.func40, Tryd.ntmps40
  go_wp2_with fail
  go_loopw [11] (fun ix wr => ∃ k : Nat, k ≤ I ∧ ix = .int .i64 k ∧ wr.rowIs (w.heap.size + 1) 3 I (fun j => .int .i64 (if j < k then 2 else 0)) ∧ Below w.heap.size w wr) (fun ix _ => I - (intOf ix).toNat)
  case atStart => exact ⟨0, Nat.zero_le _, rfl, by have := (World.rowIs_made (w.alloc (.cells #[.slice pa P pc, .slice ia I ic, .slice ca R cc] 43)) (.int .i64 0) I 3).congr (g := fun j => .int .i64 (if j < 0 then 2 else 0)) (fun j hj => by simp); simpa using this, bel2 w _ _⟩
  case round =>
    obtain ⟨k, hk, rfl, hrow, hbel⟩ := hrel
    have HB2 := Lib.hid hbel
    have HRW := Lib.hid hrow
    have hs0 : w.heap.size ≤ wr.heap.size := hbel.size
    have hgl := World.rowIs.lt hrow
    have hfz := World.rowIs.frozen hrow
    clear hbel hrow
    by_cases hkn : k < I
    · have c1 := World.rowIs.cell HRW.out hkn
      have hix0 : (0 : Int) ≤ (k : Int) := by omega
      have hix1 : (k : Int) < (I : Int) := by omega
      go_wp2_with fail
      go_roundw
      case rel =>
        refine ⟨k + 1, by omega, by go_num, (World.rowIs.set HRW.out k _).congr (fun j hj => ?_), ?_⟩
        · by_cases e : j = k
          · subst e; rw [if_pos rfl, if_pos (by omega)]
          · rw [if_neg e]
            by_cases e2 : j < k
            · rw [if_pos e2, if_pos (by omega)]
            · rw [if_neg e2, if_neg (by omega)]
        · exact BlA
      case measure => simp [intOf]; omega
    · obtain rfl : k = I := by omega
      go_wp2_with fail
      go_ret
      exact ⟨_, rfl, by omega, hgl, (row_is HRW.out (by unfold maxLen; omega)).congr2 (fun j hj => if_pos hj), HB2.out⟩

set_option maxRecDepth 20000 in
set_option maxHeartbeats 2000000 in
theorem twos_any (I : Nat) (w : World) (hI : I ≤ 60) :
    Calls Tryd.prog 23 #[.int .i64 (I : Nat)] w (TwoPost w I) := by
  have hmk := make_intsM I (by omega)
  have em : min (I : Int) 61 = (I : Int) := by omega
  go_enter Tryd.func23, Tryd.ntmps23
  go_wp2_with fail
  go_loopw [10] (fun ix wr => ∃ k : Nat, k ≤ I ∧ ix = .int .i64 k ∧ wr.rowIs (w.heap.size) 3 I (fun j => .int .i64 (if j < k then 2 else 0)) ∧ Below w.heap.size w wr) (fun ix _ => I - (intOf ix).toNat)
  case atStart => exact ⟨0, Nat.zero_le _, rfl, by have := (World.rowIs_made w (.int .i64 0) I 3).congr (g := fun j => .int .i64 (if j < 0 then 2 else 0)) (fun j hj => by simp); simpa using this, bel1 w _⟩
  case round =>
    obtain ⟨k, hk, rfl, hrow, hbel⟩ := hrel
    have HB2 := Lib.hid hbel
    have HRW := Lib.hid hrow
    have hs0 : w.heap.size ≤ wr.heap.size := hbel.size
    have hgl := World.rowIs.lt hrow
    have hfz := World.rowIs.frozen hrow
    clear hbel hrow
    by_cases hkn : k < I
    · have c1 := World.rowIs.cell HRW.out hkn
      have hix0 : (0 : Int) ≤ (k : Int) := by omega
      have hix1 : (k : Int) < (I : Int) := by omega
      go_wp2_with fail
      go_roundw
      case rel =>
        refine ⟨k + 1, by omega, by go_num, (World.rowIs.set HRW.out k _).congr (fun j hj => ?_), ?_⟩
        · by_cases e : j = k
          · subst e; rw [if_pos rfl, if_pos (by omega)]
          · rw [if_neg e]
            by_cases e2 : j < k
            · rw [if_pos e2, if_pos (by omega)]
            · rw [if_neg e2, if_neg (by omega)]
        · exact BlA
      case measure => simp [intOf]; omega
    · obtain rfl : k = I := by omega
      go_wp2_with fail
      go_ret
      exact ⟨_, rfl, by omega, hgl, (row_is HRW.out (by unfold maxLen; omega)).congr2 (fun j hj => if_pos hj), HB2.out⟩

set_option maxHeartbeats 2000000 in
theorem equal_any (a b : Option Addr) (n ca cb : Nat) (f g : Nat → Bool) (w : World) (h : Bs w a n ca f) (h' : Bs w b n cb g) :
    Calls Tryd.prog 42 #[.slice a n ca, .slice b n cb] w fun e w' => ∃ v, e = .returned (.bool v) ∧ (v = true ↔ ∀ j, j < n → f j = g j) ∧ Below w.heap.size w w' := by
  have HA := Lib.hid h
  have HA2 := Lib.hid h'
  have b1 := h.1
  have b2 := h.2.1
  have b3 := h'.1
  have b4 := h'.2.1
  unfold maxLen at b2 b4
  clear h h'
  go_enter Tryd.func42, Tryd.ntmps42
  go_wp2_with fail
  go_loopw [13] (fun ix wr => ∃ k : Nat, k ≤ n ∧ ix = .int .i64 k ∧ Hid (∀ j, j < k → f j = g j) ∧ Below w.heap.size w wr) (fun ix _ => n - (intOf ix).toNat)
  case atStart => exact ⟨0, Nat.zero_le _, rfl, Lib.hid (fun j hj => by omega), Below.refl _ _⟩
  case round =>
    obtain ⟨k, hk, rfl, hin, hbel⟩ := hrel
    have HB := Lib.hid hbel
    by_cases hkn : k < n
    · obtain ⟨b1', o1, rfl, hc1⟩ := (HA.out.below hbel).2.2 (by omega)
      obtain ⟨b2', o2, rfl, hc2⟩ := (HA2.out.below hbel).2.2 (by omega)
      have g1 := hc1 k hkn
      have g2 := hc2 k hkn
      obtain ⟨x, hx⟩ : ∃ v, f k = v := ⟨_, rfl⟩
      obtain ⟨y, hy⟩ : ∃ v, g k = v := ⟨_, rfl⟩
      rw [hx] at g1
      rw [hy] at g2
      have HX := Lib.hid hx
      have HY := Lib.hid hy
      clear hc1 hc2 hx hy hbel
      have hix0 : (0 : Int) ≤ (k : Int) := by omega
      have hix1 : (k : Int) < (n : Int) := by omega
      cases x
      · cases y
        · have HIN := Lib.hid (all_lt_succ (Q := fun j => f j = g j) hin.out (by rw [HX.out, HY.out]))
          go_wp2_with fail
          go_quiet (fail)
          go_wp2_with fail
          go_roundw
          case rel =>
            exact ⟨k + 1, by omega, by go_num, HIN, below_drewN HB.out _⟩
          case measure => simp [intOf]; omega
        · go_wp2_with fail
          go_quiet (fail)
          go_wp2_with fail
          go_ret
          exact ⟨false, rfl, ⟨fun h => absurd h (by decide), fun h => by have := h k hkn; rw [HX.out, HY.out] at this; cases this⟩, below_drewN HB.out _⟩
      · cases y
        · go_wp2_with fail
          go_quiet (fail)
          go_wp2_with fail
          go_ret
          exact ⟨false, rfl, ⟨fun h => absurd h (by decide), fun h => by have := h k hkn; rw [HX.out, HY.out] at this; cases this⟩, below_drewN HB.out _⟩
        · have HIN := Lib.hid (all_lt_succ (Q := fun j => f j = g j) hin.out (by rw [HX.out, HY.out]))
          go_wp2_with fail
          go_quiet (fail)
          go_wp2_with fail
          go_roundw
          case rel =>
            exact ⟨k + 1, by omega, by go_num, HIN, below_drewN HB.out _⟩
          case measure => simp [intOf]; omega
    · obtain rfl : k = n := by omega
      clear hbel
      go_wp2_with fail
      go_ret
      exact ⟨true, rfl, ⟨fun _ => hin.out, fun _ => rfl⟩, HB.out⟩

/-- what Strata answers -/
def StrPost (P I R nf nu : Nat) (zp zi : Nat → Int) (rn : Nat → Nat) (z : Nat → Nat → Int) (f u : Nat → Bool) (i : Int) (w : World) (e : Ending) (w' : World) : Prop :=
  ((∃ c : Int, c ≠ 0 ∧ e = .returned (.tuple #[.slice none 0 0, .int .i64 c])) ∨ (GdM P I R zp zi rn z ∧ ∃ k : Nat, i = (k : Int) ∧ k < I ∧ nf = P ∧ nu = I ∧ ∃ b, e = .returned (.tuple #[.slice (some ⟨b, 0, none⟩) (laS z u k I R) (I + 1), .int .i64 0]) ∧ Tz w' (some ⟨b, 0, none⟩) (laS z u k I R) (I + 1) (tbS z f u k I R))) ∧ Below w.heap.size w w'

set_option maxRecDepth 20000 in
set_option maxHeartbeats 4000000 in
theorem Strata_any (pa ia ca : Option Addr) (P pc I ic R cc : Nat) (zp zi : Nat → Int) (ra : Nat → Option Addr) (rn rc : Nat → Nat) (z : Nat → Nat → Int) (w : World) (hp : Is w pa P pc zp) (hi : Is w ia I ic zi) (hc : Rw w ca R cc ra rn rc z) (fa ua : Option Addr) (nf fc nu uc : Nat) (f u : Nat → Bool) (hf : Bs w fa nf fc f) (hu : Bs w ua nu uc u) (i : Int) (hI : I ≤ 1099511627776) :
    Calls Tryd.prog 21 #[.agg #[.slice pa P pc, .slice ia I ic, .slice ca R cc], .int .i64 i, .slice fa nf fc, .slice ua nu uc] w (StrPost P I R nf nu zp zi rn z f u i w) := by
  have HP := Lib.hid hp
  have HI := Lib.hid hi
  have HC := Lib.hid hc
  have b1 := hp.1
  have b2 := hp.2.1
  have b3 := hi.1
  have b4 := hi.2.1
  have b5 := hc.1
  have b6 := hc.2.1
  have HF := Lib.hid hf
  have b7 := hf.1
  have b8 := hf.2.1
  have HU := Lib.hid hu
  have b9 := hu.1
  have b10 := hu.2.1
  unfold maxLen at b2 b4 b6 b8 b10
  clear hp hi hc hf hu
  have HB := Lib.hid (Below.refl w.heap.size w)
  go_enter Tryd.func21, Tryd.ntmps21
  go_wp2_with fail
  refine region_name fun W0 hW => ?_
  have hs_W0 : w.heap.size ≤ W0.heap.size := by rw [← hW]; (first | omega | (simp; done) | (simp; omega))
  have HL_W0 := Lib.hid (show Below w.heap.size w W0 by rw [← hW]; exact BlA)
  have k_M_0 : W0.cell? ⟨w.heap.size, 0, none⟩ = some (.slice pa P pc) := by rw [← hW]; (first | (go_simp; done) | (simp; done) | (simp [go_sem]; done) | (simp [go_sem]; done))
  have k_M_1 : W0.cell? ⟨w.heap.size, 1, none⟩ = some (.slice ia I ic) := by rw [← hW]; (first | (go_simp; done) | (simp; done) | (simp [go_sem]; done) | (simp [go_sem]; done))
  have k_M_2 : W0.cell? ⟨w.heap.size, 2, none⟩ = some (.slice ca R cc) := by rw [← hW]; (first | (go_simp; done) | (simp; done) | (simp [go_sem]; done) | (simp [go_sem]; done))
  have f_M : ∀ o, W0.frozen? ⟨w.heap.size, o, none⟩ = false := by intro o; rw [← hW]; (first | (go_simp; done) | (simp; done) | (simp [go_sem]; done) | (simp [go_sem]; done))
  have HX_M := Lib.hid (show Bn W0 (w.heap.size) by rw [← hW]; exact KpA)
  replace HB := Lib.hid (show Below w.heap.size w W0 by rw [← hW]; exact BlA)
  have hs0 : w.heap.size ≤ W0.heap.size := by rw [← hW]; (first | omega | (simp; done) | (simp; omega))
  have hl_M : w.heap.size < W0.heap.size := by rw [← hW]; (first | omega | (simp; done) | (simp; omega))
  replace HP := Lib.hid (HP.out.below HL_W0.out)
  replace HI := Lib.hid (HI.out.below HL_W0.out)
  replace HC := Lib.hid (HC.out.below HL_W0.out)
  replace HF := Lib.hid (HF.out.below HL_W0.out)
  replace HU := Lib.hid (HU.out.below HL_W0.out)
  clear HL_W0
  clear hW
  go_region_held3 (fun w' => w'.cell? ⟨w.heap.size, 0, none⟩ = some (.slice pa P pc) ∧ w'.cell? ⟨w.heap.size, 1, none⟩ = some (.slice ia I ic) ∧ w'.cell? ⟨w.heap.size, 2, none⟩ = some (.slice ca R cc))
    (first | (go_keep; done) | ((try dsimp only); (repeat' apply And.intro) <;> (first | (go_keep; done) | (exact cell_keep_alloc_drew (by first | omega | (simp; omega)) (by first | assumption | go_simp)) | (exact cell_keep_alloc (by first | omega | (simp; omega)) (by first | assumption | go_simp)) | (rw [cell_set2 _ _ _ _ _ _ _ _ (by omega)]; assumption) | (rw [cell_set3 _ _ _ _ _ _ _ _ _ _ (by omega)]; assumption))))
    (first
      | (go_at_call 40; refine (binary_any _ _ _ _ _ _ _ _ _ _ hI).mono ?_; rintro e wa ⟨bq, rfl, hq1, hq2, hq, hb⟩; replace hb : Below W0.heap.size W0 wa := (by first | exact hb | exact bel_of_drew hb); have HQ := Lib.hid hq; clear hq; have hs_wa : W0.heap.size ≤ wa.heap.size := hb.size; replace k_M_0 : wa.cell? ⟨w.heap.size, 0, none⟩ = some (.slice pa P pc) := (hb.cell (p := ⟨w.heap.size, 0, none⟩) hl_M).trans k_M_0; replace k_M_1 : wa.cell? ⟨w.heap.size, 1, none⟩ = some (.slice ia I ic) := (hb.cell (p := ⟨w.heap.size, 1, none⟩) hl_M).trans k_M_1; replace k_M_2 : wa.cell? ⟨w.heap.size, 2, none⟩ = some (.slice ca R cc) := (hb.cell (p := ⟨w.heap.size, 2, none⟩) hl_M).trans k_M_2; replace f_M : ∀ o, wa.frozen? ⟨w.heap.size, o, none⟩ = false := fun o => (hb.frozen (p := ⟨w.heap.size, o, none⟩) hl_M).trans (f_M o); replace HX_M := Lib.hid (HX_M.out.below hb); replace HB := Lib.hid (HB.out.trans (hb.mono hs0)); replace hs0 : w.heap.size ≤ wa.heap.size := Nat.le_trans hs0 hb.size; replace hl_M : w.heap.size < wa.heap.size := Nat.lt_of_lt_of_le hl_M hb.size; replace HP := Lib.hid (HP.out.below hb); replace HI := Lib.hid (HI.out.below hb); replace HC := Lib.hid (HC.out.below hb); replace HF := Lib.hid (HF.out.below hb); replace HU := Lib.hid (HU.out.below hb); clear hb; skip)
      | (go_at_call 39; refine (mxvalid_any _ _ _ _ _ _ _ _ _ zp zi _ _ _ z _ (by exact HP.out) (by exact HI.out) (by exact HC.out) _ _ (by exact HQ.out)).mono ?_; rintro e wb ⟨v, rfl, hv, hb⟩; replace hb : Below wa.heap.size wa wb := (by first | exact hb | exact bel_of_drew hb); have hs_wb : wa.heap.size ≤ wb.heap.size := hb.size; replace k_M_0 : wb.cell? ⟨w.heap.size, 0, none⟩ = some (.slice pa P pc) := (hb.cell (p := ⟨w.heap.size, 0, none⟩) hl_M).trans k_M_0; replace k_M_1 : wb.cell? ⟨w.heap.size, 1, none⟩ = some (.slice ia I ic) := (hb.cell (p := ⟨w.heap.size, 1, none⟩) hl_M).trans k_M_1; replace k_M_2 : wb.cell? ⟨w.heap.size, 2, none⟩ = some (.slice ca R cc) := (hb.cell (p := ⟨w.heap.size, 2, none⟩) hl_M).trans k_M_2; replace f_M : ∀ o, wb.frozen? ⟨w.heap.size, o, none⟩ = false := fun o => (hb.frozen (p := ⟨w.heap.size, o, none⟩) hl_M).trans (f_M o); replace HX_M := Lib.hid (HX_M.out.below hb); replace HB := Lib.hid (HB.out.trans (hb.mono hs0)); replace hs0 : w.heap.size ≤ wb.heap.size := Nat.le_trans hs0 hb.size; replace hl_M : w.heap.size < wb.heap.size := Nat.lt_of_lt_of_le hl_M hb.size; replace HP := Lib.hid (HP.out.below hb); replace HI := Lib.hid (HI.out.below hb); replace HC := Lib.hid (HC.out.below hb); replace HF := Lib.hid (HF.out.below hb); replace HU := Lib.hid (HU.out.below hb); clear hb; skip))
  by_cases hv0 : v = 0
  · subst hv0
    have HGD := Lib.hid (hv.1 rfl)
    clear hv
    by_cases i0 : i < 0
    · go_wp2_with fail
      refine bodyPost_ret (v := .tuple #[.slice none 0 0, .int .i64 (3)]) (by simp [results, Tryd.results21, go_sem]) rfl ⟨.inl ⟨3, by decide, rfl⟩, HB.out⟩
    · by_cases i1 : (I : Int) ≤ i
      · go_wp2_with fail
        refine bodyPost_ret (v := .tuple #[.slice none 0 0, .int .i64 (3)]) (by simp [results, Tryd.results21, go_sem]) rfl ⟨.inl ⟨3, by decide, rfl⟩, HB.out⟩
      · by_cases f1 : nf = P
        · by_cases u1 : nu = I
          · obtain ⟨k, hk⟩ : ∃ k : Nat, i = (k : Int) := ⟨i.toNat, by omega⟩
            subst hk
            subst f1 u1
            obtain ⟨h1, h2, h3, h4, h5, h6, h7⟩ := HGD.out
            subst h5
            go_wp2_with fail
            refine calls_name fun W3 hW => ?_
            have HL_W3 := Lib.hid (show Below wb.heap.size wb W3 by rw [← hW]; exact BlA)
            have hs_W3 : wb.heap.size ≤ W3.heap.size := by rw [← hW]; (first | omega | (simp; done) | (simp; omega))
            replace k_M_0 : W3.cell? ⟨w.heap.size, 0, none⟩ = some (.slice pa R pc) := (HL_W3.out.cell (p := ⟨w.heap.size, 0, none⟩) hl_M).trans k_M_0
            replace k_M_1 : W3.cell? ⟨w.heap.size, 1, none⟩ = some (.slice ia nu ic) := (HL_W3.out.cell (p := ⟨w.heap.size, 1, none⟩) hl_M).trans k_M_1
            replace k_M_2 : W3.cell? ⟨w.heap.size, 2, none⟩ = some (.slice ca R cc) := (HL_W3.out.cell (p := ⟨w.heap.size, 2, none⟩) hl_M).trans k_M_2
            replace f_M : ∀ o, W3.frozen? ⟨w.heap.size, o, none⟩ = false := fun o => (HL_W3.out.frozen (p := ⟨w.heap.size, o, none⟩) hl_M).trans (f_M o)
            replace HX_M := Lib.hid (show Bn W3 (w.heap.size) by rw [← hW]; exact KpA)
            replace HB := Lib.hid (show Below w.heap.size w W3 by rw [← hW]; exact BlA)
            replace hs0 : w.heap.size ≤ W3.heap.size := by rw [← hW]; (first | omega | (simp; done) | (simp; omega))
            replace hl_M : w.heap.size < W3.heap.size := by rw [← hW]; (first | omega | (simp; done) | (simp; omega))
            replace HP := Lib.hid (HP.out.below HL_W3.out)
            replace HI := Lib.hid (HI.out.below HL_W3.out)
            replace HC := Lib.hid (HC.out.below HL_W3.out)
            replace HF := Lib.hid (HF.out.below HL_W3.out)
            replace HU := Lib.hid (HU.out.below HL_W3.out)
            clear HL_W3
            clear hW
            refine (strata_ok _ _ _ _ _ _ _ R _ _ _ _ z _ HC.out h2 (by omega) h6 _ _ f HF.out _ _ u HU.out k (by omega)).mono ?_
            rintro e wc ⟨bt, rfl, ht1, ht2, ht, hb⟩
            have hs_wc : W3.heap.size ≤ wc.heap.size := hb.size
            replace k_M_0 : wc.cell? ⟨w.heap.size, 0, none⟩ = some (.slice pa R pc) := (hb.cell (p := ⟨w.heap.size, 0, none⟩) hl_M).trans k_M_0
            replace k_M_1 : wc.cell? ⟨w.heap.size, 1, none⟩ = some (.slice ia nu ic) := (hb.cell (p := ⟨w.heap.size, 1, none⟩) hl_M).trans k_M_1
            replace k_M_2 : wc.cell? ⟨w.heap.size, 2, none⟩ = some (.slice ca R cc) := (hb.cell (p := ⟨w.heap.size, 2, none⟩) hl_M).trans k_M_2
            replace f_M : ∀ o, wc.frozen? ⟨w.heap.size, o, none⟩ = false := fun o => (hb.frozen (p := ⟨w.heap.size, o, none⟩) hl_M).trans (f_M o)
            replace HX_M := Lib.hid (HX_M.out.below hb)
            replace HB := Lib.hid (HB.out.trans (hb.mono hs0))
            replace hs0 : w.heap.size ≤ wc.heap.size := Nat.le_trans hs0 hb.size
            replace hl_M : w.heap.size < wc.heap.size := Nat.lt_of_lt_of_le hl_M hb.size
            replace HP := Lib.hid (HP.out.below hb)
            replace HI := Lib.hid (HI.out.below hb)
            replace HC := Lib.hid (HC.out.below hb)
            replace HF := Lib.hid (HF.out.below hb)
            replace HU := Lib.hid (HU.out.below hb)
            clear hb
            have HT := Lib.hid ht
            clear ht
            go_wp2_with fail
            refine bodyPost_ret (v := .tuple #[.slice (some ⟨bt, 0, none⟩) (laS z u k nu R) (nu + 1), .int .i64 0]) (by simp [results, Tryd.results21, go_sem]) rfl ⟨.inr ⟨HGD.out, k, rfl, by omega, rfl, rfl, bt, rfl, HT.out⟩, HB.out⟩
          · have d2 : ¬ (nu : Int) = (I : Int) := by omega
            have d2b : ((nu : Int) == (I : Int)) = false := by simp; omega
            have d2c : ((nu : Int) != (I : Int)) = true := by simp; omega
            go_wp2_with fail
            refine bodyPost_ret (v := .tuple #[.slice none 0 0, .int .i64 (1)]) (by simp [results, Tryd.results21, go_sem]) rfl ⟨.inl ⟨1, by decide, rfl⟩, HB.out⟩
        · have d1 : ¬ (nf : Int) = (P : Int) := by omega
          have d1b : ((nf : Int) == (P : Int)) = false := by simp; omega
          have d1c : ((nf : Int) != (P : Int)) = true := by simp; omega
          go_wp2_with fail
          refine bodyPost_ret (v := .tuple #[.slice none 0 0, .int .i64 (1)]) (by simp [results, Tryd.results21, go_sem]) rfl ⟨.inl ⟨1, by decide, rfl⟩, HB.out⟩
  · have zb : (v == 0) = false := by simpa using hv0
    have zc : (v != 0) = true := by simpa using hv0
    go_wp2_with fail
    refine bodyPost_ret (v := .tuple #[.slice none 0 0, .int .i64 (v)]) (by simp [results, Tryd.results21, go_sem]) rfl ⟨.inl ⟨v, hv0, rfl⟩, HB.out⟩

end Go.Proofs.YtmecipfdelgfbaaDoor
