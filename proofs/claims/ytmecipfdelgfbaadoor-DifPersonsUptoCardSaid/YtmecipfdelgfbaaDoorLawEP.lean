/- DifPersons returns true: the walk. The table of powers of ten must lie in memory; lists of at most 2^40 elements. -/
import Derived.Test.YtmecipfdelgfbaaDoorDfI
namespace Go.Proofs.YtmecipfdelgfbaaDoor
open Go.RowKit

/-- a list of twos -/
def IsTwo (n : Nat) (u : Value) (w : World) : Prop := ∃ b, u = .slice (some ⟨b, 0, none⟩) n n ∧ Is w (some ⟨b, 0, none⟩) n n (fun _ => 2)
theorem IsTwo.below {n : Nat} {u : Value} {w w' : World} (h : IsTwo n u w) (hb : Below w.heap.size w w') : IsTwo n u w' := by
  obtain ⟨b, e, h⟩ := h
  exact ⟨b, e, h.below hb⟩
theorem IsTwo.ex {n : Nat} {u : Value} {w : World} (h : IsTwo n u w) : ∃ b, u = .slice (some ⟨b, 0, none⟩) n n ∧ Is w (some ⟨b, 0, none⟩) n n (fun _ => 2) := h
theorem xmxvalid_two (pa ia ca : Option Addr) (P pc I ic R cc : Nat) (zp zi : Nat → Int) (ra : Nat → Option Addr) (rn rc : Nat → Nat) (z : Nat → Nat → Int) (w : World) (hp : Is w pa P pc zp) (hi : Is w ia I ic zi) (hc : Rw w ca R cc ra rn rc z) (q : Value) (hq : IsTwo I q w) :
    Calls Tryd.prog 22 #[.agg #[.slice pa P pc, .slice ia I ic, .slice ca R cc], q] w fun e w' => ∃ v, e = .returned (.int .i64 v) ∧ (v = 0 ↔ GdM P I R zp zi rn z) ∧ Below w.heap.size w w' := by
  obtain ⟨b, rfl, h⟩ := hq
  exact xmxvalid_any pa ia ca P pc I ic R cc zp zi ra rn rc z w hp hi hc _ _ h
/-- the sums of the first k tables -/
def smT (t : Nat → Nat → Nat) (k c : Nat) : Nat := sN (fun T => t T c) k
theorem smT_succ (t : Nat → Nat → Nat) (k c : Nat) : smT t (k + 1) c = smT t k c + t k c := rfl
/-- persons that are still counted -/
def lfB (z : Nat → Nat → Int) (f : Nat → Bool) (i R k c : Nat) : Nat := cnB (fun q => decide (ctS (z q i) (f q) = c)) R - cnB (fun q => decide (ctS (z q i) (f q) = c)) k
theorem lfB_skip {z : Nat → Nat → Int} {f : Nat → Bool} {i R k c : Nat} (h : ctS (z k i) (f k) ≠ c) : lfB z f i R (k + 1) c = lfB z f i R k c := by
  unfold lfB; simp only [cnB]; rw [if_neg (by simpa using h)]; rfl
theorem lfB_hit {z : Nat → Nat → Int} {f : Nat → Bool} {i R k c : Nat} (hk : k < R) (h : ctS (z k i) (f k) = c) : lfB z f i R k c = lfB z f i R (k + 1) c + 1 := by
  have h2 := cnB_mono (fun q => decide (ctS (z q i) (f q) = c)) (show k + 1 ≤ R by omega)
  unfold lfB
  have e : cnB (fun q => decide (ctS (z q i) (f q) = c)) (k + 1) = cnB (fun q => decide (ctS (z q i) (f q) = c)) k + 1 := by simp only [cnB]; rw [if_pos (by simpa using h)]
  omega
theorem lfB_end (z : Nat → Nat → Int) (f : Nat → Bool) (i R c : Nat) : lfB z f i R R c = 0 := Nat.sub_self _
theorem lfB_le (z : Nat → Nat → Int) (f : Nat → Bool) (i R k c : Nat) : lfB z f i R k c ≤ R := Nat.le_trans (Nat.sub_le _ _) (cnB_le _ _)
/-- block g holds four counts -/
def Fc (w : World) (g : Nat) (v : Nat → Nat) : Prop := w.rowIs g 50 4 (fun c => .int .i64 ((v c : Nat) : Int))
theorem Fc.cell {w : World} {g c x : Nat} {v : Nat → Nat} (h : Fc w g v) (hc : c < 4) (hx : v c = x) : w.cell? ⟨g, c, none⟩ = some (.int .i64 ((x : Nat) : Int)) := by
  rw [← hx]; exact World.rowIs.cell h hc
theorem Fc.new (w : World) (v : Nat → Nat) (h : ∀ c, v c = 0) : Fc (w.alloc (.cells #[.int .i64 0, .int .i64 0, .int .i64 0, .int .i64 0] 50)) w.heap.size v := by
  refine World.rowIs_alloc w #[.int .i64 0, .int .i64 0, .int .i64 0, .int .i64 0] _ _ (fun i hi => ?_)
  rw [h]
  have hi4 : i < 4 := hi
  obtain rfl | rfl | rfl | rfl : i = 0 ∨ i = 1 ∨ i = 2 ∨ i = 3 := by omega
  all_goals rfl
theorem Fc.dec {w : World} {g c x : Nat} {v v' : Nat → Nat} (h : Fc w g v) (hc : v c = x + 1) (h2 : v' c = x) (he : ∀ d, d ≠ c → v' d = v d) : Fc (w.setCell ⟨g, c, none⟩ (.int .i64 (x : Nat))) g v' := by
  refine World.rowIs.congr (World.rowIs.set h c _) (fun j hj => ?_)
  by_cases e : j = c
  · subst e; rw [if_pos rfl, h2]
  · rw [if_neg e, he j e]
def PerJ (gM gB k nL LL I R fc P pc ic cc : Nat) (fa pa ia ca : Option Addr) (W : World) (z0 : Act) (L : Nat → Bool) (z1 : Act) (w : World) : Prop :=
  ∃ u32 u33 u34 u35 u36 u37 u38 u39 u40 u41 u42 u43 u44 u45 u46 u47 u48 u49 u50 u51 u52 u53 u54 u55 u56 u57 u58 u59 u60 u61 u62 u63 u64 u65 u66, z1 = (((((((((((((((((((((((((((((((((((z0.put (some 32) u32).put (some 33) u33).put (some 34) u34).put (some 35) u35).put (some 36) u36).put (some 37) u37).put (some 38) u38).put (some 39) u39).put (some 40) u40).put (some 41) u41).put (some 42) u42).put (some 43) u43).put (some 44) u44).put (some 45) u45).put (some 46) u46).put (some 47) u47).put (some 48) u48).put (some 49) u49).put (some 50) u50).put (some 51) u51).put (some 52) u52).put (some 53) u53).put (some 54) u54).put (some 55) u55).put (some 56) u56).put (some 57) u57).put (some 58) u58).put (some 59) u59).put (some 60) u60).put (some 61) u61).put (some 62) u62).put (some 63) u63).put (some 64) u64).put (some 65) u65).put (some 66) u66) ∧ Since W w ∧ (L 0 = true → u32 = .int .i64 ((k : Nat) : Int)) ∧ (L 1 = true → u33 = .bool false) ∧ (L 2 = true → u34 = .bool false) ∧ (L 3 = true → u35 = .int .i64 ((k : Nat) : Int)) ∧ (L 4 = true → u36 = .pointer (some ⟨gM, 1, none⟩)) ∧ (L 5 = true → u37 = .slice ia I ic) ∧ (L 6 = true → u38 = .int .i64 ((I : Nat) : Int)) ∧ (L 7 = true → u39 = .bool false) ∧ (L 8 = true → u40 = .bool false) ∧ (L 9 = true → u41 = .bool false) ∧ (L 10 = true → u42 = .slice fa R fc) ∧ (L 11 = true → u43 = .int .i64 ((R : Nat) : Int)) ∧ (L 12 = true → u44 = .pointer (some ⟨gM, 2, none⟩)) ∧ (L 13 = true → u45 = .slice ca R cc) ∧ (L 14 = true → u46 = .int .i64 ((R : Nat) : Int)) ∧ (L 15 = true → u47 = .bool false) ∧ (L 16 = true → u48 = .bool false) ∧ (L 17 = true → u49 = .bool false) ∧ (L 18 = true → u50 = .agg #[.slice pa P pc, .slice ia I ic, .slice ca R cc]) ∧ (L 19 = true → u51 = .pointer (some ⟨gM, 1, none⟩)) ∧ (L 20 = true → u52 = .slice ia I ic) ∧ (L 21 = true → u53 = .int .i64 ((I : Nat) : Int)) ∧ (L 22 = true → IsTwo I u54 w) ∧ (L 23 = true → u55 = .int .i64 0) ∧ (L 24 = true → u56 = .bool false) ∧ (L 25 = true → u57 = .bool false) ∧ (L 26 = true → u58 = .bool false) ∧ (L 27 = true → u59 = .slice (some ⟨gB, 0, none⟩) nL LL) ∧ (L 28 = true → u60 = .int .i64 ((nL : Nat) : Int)) ∧ (L 29 = true → u61 = .pointer (some ⟨gM, 1, none⟩)) ∧ (L 30 = true → u62 = .slice ia I ic) ∧ (L 31 = true → u63 = .int .i64 ((I : Nat) : Int)) ∧ (L 32 = true → u64 = .int .i64 ((LL : Nat) : Int)) ∧ (L 33 = true → u65 = .bool false) ∧ (L 34 = true → u66 = .bool false)

theorem smT_le (t : Nat → Nat → Nat) (R : Nat) (h : ∀ T c, t T c ≤ R) : ∀ k c, smT t k c ≤ k * R
  | 0, _ => Nat.zero_le _
  | k + 1, c => by
    have h1 := smT_le t R h k c
    have h2 := h k c
    rw [smT_succ, Nat.add_mul]; omega

set_option maxRecDepth 20000 in
set_option maxHeartbeats 16000000 in
theorem difPersons_walk {N : Nat} (pa ia ca : Option Addr) (P pc I ic R cc : Nat) (zp zi : Nat → Int) (ra : Nat → Option Addr) (rn rc : Nat → Nat) (z : Nat → Nat → Int) (i : Int) (fa ua : Option Addr) (nf fc nu uc : Nat) (f u : Nat → Bool) (w : World) (hN : N ≤ w.heap.size) (hp : Is w pa P pc zp) (hi : Is w ia I ic zi) (hc : Rw w ca R cc ra rn rc z) (hf : Bs w fa nf fc f) (hu : Bs w ua nu uc u) (hI : I ≤ 1099511627776) (htab : TabW w) :
    Calls Tryd.prog 6 #[.agg #[.slice pa P pc, .slice ia I ic, .slice ca R cc], .int .i64 i, .slice fa nf fc, .slice ua nu uc] w fun e w' => e = .returned (.bool true) ∧ Below w.heap.size w w' := by
  have HP := Lib.hid hp
  have HI := Lib.hid hi
  have HC := Lib.hid hc
  have HF := Lib.hid hf
  have HU := Lib.hid hu
  have HT := Lib.hid htab
  have b1 := hp.1
  have b2 := hp.2.1
  have b3 := hi.1
  have b4 := hi.2.1
  have b5 := hc.1
  have b6 := hc.2.1
  have b7 := hf.1
  have b8 := hf.2.1
  have b9 := hu.1
  have b10 := hu.2.1
  unfold maxLen at b2 b4 b6 b8 b10
  clear hp hi hc hf hu htab
  have hN0 := hN
  have HB := Lib.hid (Below.refl w.heap.size w)
  go_enter Tryd.func6, Tryd.ntmps6
  go_wp2_with fail
  refine calls_name fun W0 hW => ?_
  have hs_W0 : w.heap.size ≤ W0.heap.size := by rw [← hW]; (first | omega | (simp; done) | (simp; omega))
  have HL_W0 := Lib.hid (show Below w.heap.size w W0 by rw [← hW]; exact BlA)
  have k_M_0 : W0.cell? ⟨w.heap.size, 0, none⟩ = some (.slice pa P pc) := by rw [← hW]; (first | (go_simp; done) | (simp; done) | (simp [go_sem]; done) | (simp [go_sem]; done))
  have k_M_1 : W0.cell? ⟨w.heap.size, 1, none⟩ = some (.slice ia I ic) := by rw [← hW]; (first | (go_simp; done) | (simp; done) | (simp [go_sem]; done) | (simp [go_sem]; done))
  have k_M_2 : W0.cell? ⟨w.heap.size, 2, none⟩ = some (.slice ca R cc) := by rw [← hW]; (first | (go_simp; done) | (simp; done) | (simp [go_sem]; done) | (simp [go_sem]; done))
  have f_M : ∀ o, W0.frozen? ⟨w.heap.size, o, none⟩ = false := by intro o; rw [← hW]; (first | (go_simp; done) | (simp; done) | (simp [go_sem]; done) | (simp [go_sem]; done))
  have HX_M := Lib.hid (show Bn W0 (w.heap.size) by rw [← hW]; exact KpA)
  replace HB := Lib.hid (show Below w.heap.size w W0 by rw [← hW]; exact BlA)
  replace hN : N ≤ W0.heap.size := by rw [← hW]; (first | omega | (simp; done) | (simp; omega))
  have hs0 : w.heap.size ≤ W0.heap.size := by rw [← hW]; (first | omega | (simp; done) | (simp; omega))
  have hl_M : w.heap.size < W0.heap.size := by rw [← hW]; (first | omega | (simp; done) | (simp; omega))
  replace HP := Lib.hid (HP.out.below HL_W0.out)
  replace HI := Lib.hid (HI.out.below HL_W0.out)
  replace HC := Lib.hid (HC.out.below HL_W0.out)
  replace HF := Lib.hid (HF.out.below HL_W0.out)
  replace HU := Lib.hid (HU.out.below HL_W0.out)
  replace HT := Lib.hid (HT.out.below HL_W0.out)
  clear HL_W0
  clear hW
  refine (Strata_any _ _ _ _ _ _ _ R _ zp zi _ _ _ z _ HP.out HI.out HC.out _ _ _ _ _ _ f u HF.out HU.out i hI).mono ?_
  rintro e wa ⟨hres, hb⟩
  have hs_wa : W0.heap.size ≤ wa.heap.size := hb.size
  replace k_M_0 : wa.cell? ⟨w.heap.size, 0, none⟩ = some (.slice pa P pc) := (hb.cell (p := ⟨w.heap.size, 0, none⟩) hl_M).trans k_M_0
  replace k_M_1 : wa.cell? ⟨w.heap.size, 1, none⟩ = some (.slice ia I ic) := (hb.cell (p := ⟨w.heap.size, 1, none⟩) hl_M).trans k_M_1
  replace k_M_2 : wa.cell? ⟨w.heap.size, 2, none⟩ = some (.slice ca R cc) := (hb.cell (p := ⟨w.heap.size, 2, none⟩) hl_M).trans k_M_2
  replace f_M : ∀ o, wa.frozen? ⟨w.heap.size, o, none⟩ = false := fun o => (hb.frozen (p := ⟨w.heap.size, o, none⟩) hl_M).trans (f_M o)
  replace HX_M := Lib.hid (HX_M.out.below hb)
  replace HB := Lib.hid (HB.out.trans (hb.mono hs0))
  replace hN : N ≤ wa.heap.size := Nat.le_trans hN hb.size
  replace hs0 : w.heap.size ≤ wa.heap.size := Nat.le_trans hs0 hb.size
  replace hl_M : w.heap.size < wa.heap.size := Nat.lt_of_lt_of_le hl_M hb.size
  replace HP := Lib.hid (HP.out.below hb)
  replace HI := Lib.hid (HI.out.below hb)
  replace HC := Lib.hid (HC.out.below hb)
  replace HF := Lib.hid (HF.out.below hb)
  replace HU := Lib.hid (HU.out.below hb)
  replace HT := Lib.hid (HT.out.below hb)
  clear hb
  rcases hres with ⟨c, hc0, rfl⟩ | ⟨hgd, k, rfl, hki, hnf, hnu, bt, rfl, htz⟩
  · have cb : (c == 0) = false := by simpa using hc0
    have cc' : (c != 0) = true := by simpa using hc0
    go_wp2_with fail
    refine calls_name fun WA1 hW => ?_
    have HL_WA1 := Lib.hid (show Below wa.heap.size wa WA1 by rw [← hW]; exact BlA)
    have hs_WA1 : wa.heap.size ≤ WA1.heap.size := by rw [← hW]; (first | omega | (simp; done) | (simp; omega))
    replace k_M_0 : WA1.cell? ⟨w.heap.size, 0, none⟩ = some (.slice pa P pc) := (HL_WA1.out.cell (p := ⟨w.heap.size, 0, none⟩) hl_M).trans k_M_0
    replace k_M_1 : WA1.cell? ⟨w.heap.size, 1, none⟩ = some (.slice ia I ic) := (HL_WA1.out.cell (p := ⟨w.heap.size, 1, none⟩) hl_M).trans k_M_1
    replace k_M_2 : WA1.cell? ⟨w.heap.size, 2, none⟩ = some (.slice ca R cc) := (HL_WA1.out.cell (p := ⟨w.heap.size, 2, none⟩) hl_M).trans k_M_2
    replace f_M : ∀ o, WA1.frozen? ⟨w.heap.size, o, none⟩ = false := fun o => (HL_WA1.out.frozen (p := ⟨w.heap.size, o, none⟩) hl_M).trans (f_M o)
    replace HX_M := Lib.hid (show Bn WA1 (w.heap.size) by rw [← hW]; exact KpA)
    replace HB := Lib.hid (show Below w.heap.size w WA1 by rw [← hW]; exact BlA)
    replace hN : N ≤ WA1.heap.size := by rw [← hW]; (first | omega | (simp; done) | (simp; omega))
    replace hs0 : w.heap.size ≤ WA1.heap.size := by rw [← hW]; (first | omega | (simp; done) | (simp; omega))
    replace hl_M : w.heap.size < WA1.heap.size := by rw [← hW]; (first | omega | (simp; done) | (simp; omega))
    replace HP := Lib.hid (HP.out.below HL_WA1.out)
    replace HI := Lib.hid (HI.out.below HL_WA1.out)
    replace HC := Lib.hid (HC.out.below HL_WA1.out)
    replace HF := Lib.hid (HF.out.below HL_WA1.out)
    replace HU := Lib.hid (HU.out.below HL_WA1.out)
    replace HT := Lib.hid (HT.out.below HL_WA1.out)
    clear HL_WA1
    clear hW
    refine (fawake_any (N := N) _ hN HT.out).mono ?_
    rintro e wz2 ⟨rfl, hb⟩
    have hs_wz2 : WA1.heap.size ≤ wz2.heap.size := hb.size
    replace k_M_0 : wz2.cell? ⟨w.heap.size, 0, none⟩ = some (.slice pa P pc) := (hb.cell (p := ⟨w.heap.size, 0, none⟩) hl_M).trans k_M_0
    replace k_M_1 : wz2.cell? ⟨w.heap.size, 1, none⟩ = some (.slice ia I ic) := (hb.cell (p := ⟨w.heap.size, 1, none⟩) hl_M).trans k_M_1
    replace k_M_2 : wz2.cell? ⟨w.heap.size, 2, none⟩ = some (.slice ca R cc) := (hb.cell (p := ⟨w.heap.size, 2, none⟩) hl_M).trans k_M_2
    replace f_M : ∀ o, wz2.frozen? ⟨w.heap.size, o, none⟩ = false := fun o => (hb.frozen (p := ⟨w.heap.size, o, none⟩) hl_M).trans (f_M o)
    replace HX_M := Lib.hid (HX_M.out.below hb)
    replace HB := Lib.hid (HB.out.trans (hb.mono hs0))
    replace hN : N ≤ wz2.heap.size := Nat.le_trans hN hb.size
    replace hs0 : w.heap.size ≤ wz2.heap.size := Nat.le_trans hs0 hb.size
    replace hl_M : w.heap.size < wz2.heap.size := Nat.lt_of_lt_of_le hl_M hb.size
    replace HP := Lib.hid (HP.out.below hb)
    replace HI := Lib.hid (HI.out.below hb)
    replace HC := Lib.hid (HC.out.below hb)
    replace HF := Lib.hid (HF.out.below hb)
    replace HU := Lib.hid (HU.out.below hb)
    replace HT := Lib.hid (HT.out.below hb)
    clear hb
    go_wp2_with fail
    go_ret
    exact ⟨rfl, HB.out⟩
  · obtain rfl : P = nf := hnf.symm
    obtain rfl : I = nu := hnu.symm
    have HGD := Lib.hid hgd
    obtain ⟨h1, h2, h3, h4, h5, h6, h7⟩ := hgd
    have HRN := Lib.hid h6
    have HZ7 := Lib.hid h7
    subst h5
    clear h3 h4 h6 h7
    have HTZ := Lib.hid htz
    have hI60 : I ≤ 60 := h2
    clear htz
    obtain ⟨LL, hL⟩ : ∃ L, I + 1 = L := ⟨_, rfl⟩
    obtain ⟨nL, hnL⟩ : ∃ n, laS z u k I R = n := ⟨_, rfl⟩
    obtain ⟨tt, htt⟩ : ∃ t, tbS z f u k I R = t := ⟨_, rfl⟩
    have hle := laS_le z u k I R
    have HTS := Lib.hid (show ∀ c, c < 4 → smT tt nL c = lfB z f k R 0 c by intro c hc; rw [← htt, ← hnL]; exact tbS_sum z f u k I R c hc)
    have HTL := Lib.hid (show 0 < nL → ∃ c, c < 4 ∧ 0 < tt (nL - 1) c by intro h; rw [← htt, ← hnL]; exact laS_last z f u k I R (by rw [hnL]; exact h))
    have HTB := Lib.hid (show ∀ T c, tt T c ≤ R by intro T c; rw [← htt]; exact tbS_le z f u k I R T c)
    rw [hL, hnL, htt] at HTZ
    rw [hL, hnL]
    rw [hnL] at hle
    have hnl2 : nL ≤ LL := by omega
    have hl61 : LL ≤ 61 := by omega
    have eL : (I : Int) + 1 = (LL : Int) := by omega
    have hkz0 : ¬ (k : Int) < 0 := by omega
    have hkz1 : ¬ (I : Int) ≤ (k : Int) := by omega
    have hnz : ¬ (LL : Int) < (nL : Int) := by omega
    have hkd0 : decide ((k : Int) < 0) = false := decide_eq_false (by omega)
    have hkd1 : decide ((I : Int) ≤ (k : Int)) = false := decide_eq_false (by omega)
    have hkd2 : decide ((LL : Int) < (nL : Int)) = false := decide_eq_false (by omega)
    have hkd3 : decide (I ≤ k) = false := decide_eq_false (by omega)
    have hkd4 : decide (LL < nL) = false := decide_eq_false (by omega)
    clear hL hnL htt
    go_wp2_with fail
    refine region_name fun W1 hW => ?_
    have HL_W1 := Lib.hid (show Below wa.heap.size wa W1 by rw [← hW]; exact BlA)
    have hs_W1 : wa.heap.size ≤ W1.heap.size := by rw [← hW]; (first | omega | (simp; done) | (simp; omega))
    replace k_M_0 : W1.cell? ⟨w.heap.size, 0, none⟩ = some (.slice pa R pc) := (HL_W1.out.cell (p := ⟨w.heap.size, 0, none⟩) hl_M).trans k_M_0
    replace k_M_1 : W1.cell? ⟨w.heap.size, 1, none⟩ = some (.slice ia I ic) := (HL_W1.out.cell (p := ⟨w.heap.size, 1, none⟩) hl_M).trans k_M_1
    replace k_M_2 : W1.cell? ⟨w.heap.size, 2, none⟩ = some (.slice ca R cc) := (HL_W1.out.cell (p := ⟨w.heap.size, 2, none⟩) hl_M).trans k_M_2
    replace f_M : ∀ o, W1.frozen? ⟨w.heap.size, o, none⟩ = false := fun o => (HL_W1.out.frozen (p := ⟨w.heap.size, o, none⟩) hl_M).trans (f_M o)
    replace HX_M := Lib.hid (show Bn W1 (w.heap.size) by rw [← hW]; exact KpA)
    replace HB := Lib.hid (show Below w.heap.size w W1 by rw [← hW]; exact BlA)
    replace hN : N ≤ W1.heap.size := by rw [← hW]; (first | omega | (simp; done) | (simp; omega))
    replace hs0 : w.heap.size ≤ W1.heap.size := by rw [← hW]; (first | omega | (simp; done) | (simp; omega))
    replace hl_M : w.heap.size < W1.heap.size := by rw [← hW]; (first | omega | (simp; done) | (simp; omega))
    replace HP := Lib.hid (HP.out.below HL_W1.out)
    replace HI := Lib.hid (HI.out.below HL_W1.out)
    replace HC := Lib.hid (HC.out.below HL_W1.out)
    replace HF := Lib.hid (HF.out.below HL_W1.out)
    replace HU := Lib.hid (HU.out.below HL_W1.out)
    replace HT := Lib.hid (HT.out.below HL_W1.out)
    replace HTZ := Lib.hid (HTZ.out.below HL_W1.out)
    clear HL_W1
    clear hW
    refine region_inv3 (by kernel_rfl) (PerJ w.heap.size bt k nL LL I R fc R pc ic cc fa pa ia ca (W1)) ?_ ?_ ?_ ?_
    · exact ⟨undef, undef, undef, undef, undef, undef, undef, undef, undef, undef, undef, undef, undef, undef, undef, undef, undef, undef, undef, undef, undef, undef, undef, undef, undef, undef, undef, undef, undef, undef, undef, undef, undef, undef, undef, by simp only [Act.put, List.setIfInBounds_toArray, List.set_cons_zero, List.set_cons_succ], Since.drawn _, (fun h => by cases h), (fun h => by cases h), (fun h => by cases h), (fun h => by cases h), (fun h => by cases h), (fun h => by cases h), (fun h => by cases h), (fun h => by cases h), (fun h => by cases h), (fun h => by cases h), (fun h => by cases h), (fun h => by cases h), (fun h => by cases h), (fun h => by cases h), (fun h => by cases h), (fun h => by cases h), (fun h => by cases h), (fun h => by cases h), (fun h => by cases h), (fun h => by cases h), (fun h => by cases h), (fun h => by cases h), (fun h => by cases h), (fun h => by cases h), (fun h => by cases h), (fun h => by cases h), (fun h => by cases h), (fun h => by cases h), (fun h => by cases h), (fun h => by cases h), (fun h => by cases h), (fun h => by cases h), (fun h => by cases h), (fun h => by cases h), (fun h => by cases h)⟩
    · exact acyc3_spec (by kernel_rfl)
    · intro Ls a0 wq i o ho hLi hafter hJ
      obtain ⟨u32, u33, u34, u35, u36, u37, u38, u39, u40, u41, u42, u43, u44, u45, u46, u47, u48, u49, u50, u51, u52, u53, u54, u55, u56, u57, u58, u59, u60, u61, u62, u63, u64, u65, u66, rfl, hS, p0, p1, p2, p3, p4, p5, p6, p7, p8, p9, p10, p11, p12, p13, p14, p15, p16, p17, p18, p19, p20, p21, p22, p23, p24, p25, p26, p27, p28, p29, p30, p31, p32, p33, p34⟩ := hJ
      have hi : i < 35 := (Array.getElem?_eq_some_iff.1 ho).1
      obtain rfl | rfl | rfl | rfl | rfl | rfl | rfl | rfl | rfl | rfl | rfl | rfl | rfl | rfl | rfl | rfl | rfl | rfl | rfl | rfl | rfl | rfl | rfl | rfl | rfl | rfl | rfl | rfl | rfl | rfl | rfl | rfl | rfl | rfl | rfl : i = 0 ∨ i = 1 ∨ i = 2 ∨ i = 3 ∨ i = 4 ∨ i = 5 ∨ i = 6 ∨ i = 7 ∨ i = 8 ∨ i = 9 ∨ i = 10 ∨ i = 11 ∨ i = 12 ∨ i = 13 ∨ i = 14 ∨ i = 15 ∨ i = 16 ∨ i = 17 ∨ i = 18 ∨ i = 19 ∨ i = 20 ∨ i = 21 ∨ i = 22 ∨ i = 23 ∨ i = 24 ∨ i = 25 ∨ i = 26 ∨ i = 27 ∨ i = 28 ∨ i = 29 ∨ i = 30 ∨ i = 31 ∨ i = 32 ∨ i = 33 ∨ i = 34 := by omega
      · simp only [List.getElem?_toArray, List.getElem?_cons_zero, Option.some.injEq] at ho
        subst ho
        have P0 := Lib.hid p0
        have P1 := Lib.hid p1
        have P2 := Lib.hid p2
        have P3 := Lib.hid p3
        have P4 := Lib.hid p4
        have P5 := Lib.hid p5
        have P6 := Lib.hid p6
        have P7 := Lib.hid p7
        have P8 := Lib.hid p8
        have P9 := Lib.hid p9
        have P10 := Lib.hid p10
        have P11 := Lib.hid p11
        have P12 := Lib.hid p12
        have P13 := Lib.hid p13
        have P14 := Lib.hid p14
        have P15 := Lib.hid p15
        have P16 := Lib.hid p16
        have P17 := Lib.hid p17
        have P18 := Lib.hid p18
        have P19 := Lib.hid p19
        have P20 := Lib.hid p20
        have P21 := Lib.hid p21
        have P22 := Lib.hid p22
        have P23 := Lib.hid p23
        have P24 := Lib.hid p24
        have P25 := Lib.hid p25
        have P26 := Lib.hid p26
        have P27 := Lib.hid p27
        have P28 := Lib.hid p28
        have P29 := Lib.hid p29
        have P30 := Lib.hid p30
        have P31 := Lib.hid p31
        have P32 := Lib.hid p32
        have P33 := Lib.hid p33
        have P34 := Lib.hid p34
        have HS := Lib.hid hS
        clear hS hLi hafter p0 p1 p2 p3 p4 p5 p6 p7 p8 p9 p10 p11 p12 p13 p14 p15 p16 p17 p18 p19 p20 p21 p22 p23 p24 p25 p26 p27 p28 p29 p30 p31 p32 p33 p34
        simp only [Act.put, List.setIfInBounds_toArray, List.set_cons_zero, List.set_cons_succ]
        go_wp2_with fail
        exact ⟨.int .i64 ((k : Nat) : Int), u33, u34, u35, u36, u37, u38, u39, u40, u41, u42, u43, u44, u45, u46, u47, u48, u49, u50, u51, u52, u53, u54, u55, u56, u57, u58, u59, u60, u61, u62, u63, u64, u65, u66, by simp only [Act.put, List.setIfInBounds_toArray, List.set_cons_zero, List.set_cons_succ], HS.out, (fun _ => rfl), (fun h => by first | rfl | exact P1.out (by simpa using h)), (fun h => by first | rfl | exact P2.out (by simpa using h)), (fun h => by first | rfl | exact P3.out (by simpa using h)), (fun h => by first | rfl | exact P4.out (by simpa using h)), (fun h => by first | rfl | exact P5.out (by simpa using h)), (fun h => by first | rfl | exact P6.out (by simpa using h)), (fun h => by first | rfl | exact P7.out (by simpa using h)), (fun h => by first | rfl | exact P8.out (by simpa using h)), (fun h => by first | rfl | exact P9.out (by simpa using h)), (fun h => by first | rfl | exact P10.out (by simpa using h)), (fun h => by first | rfl | exact P11.out (by simpa using h)), (fun h => by first | rfl | exact P12.out (by simpa using h)), (fun h => by first | rfl | exact P13.out (by simpa using h)), (fun h => by first | rfl | exact P14.out (by simpa using h)), (fun h => by first | rfl | exact P15.out (by simpa using h)), (fun h => by first | rfl | exact P16.out (by simpa using h)), (fun h => by first | rfl | exact P17.out (by simpa using h)), (fun h => by first | rfl | exact P18.out (by simpa using h)), (fun h => by first | rfl | exact P19.out (by simpa using h)), (fun h => by first | rfl | exact P20.out (by simpa using h)), (fun h => by first | rfl | exact P21.out (by simpa using h)), (fun h => P22.out (by simpa using h)), (fun h => by first | rfl | exact P23.out (by simpa using h)), (fun h => by first | rfl | exact P24.out (by simpa using h)), (fun h => by first | rfl | exact P25.out (by simpa using h)), (fun h => by first | rfl | exact P26.out (by simpa using h)), (fun h => by first | rfl | exact P27.out (by simpa using h)), (fun h => by first | rfl | exact P28.out (by simpa using h)), (fun h => by first | rfl | exact P29.out (by simpa using h)), (fun h => by first | rfl | exact P30.out (by simpa using h)), (fun h => by first | rfl | exact P31.out (by simpa using h)), (fun h => by first | rfl | exact P32.out (by simpa using h)), (fun h => by first | rfl | exact P33.out (by simpa using h)), (fun h => by first | rfl | exact P34.out (by simpa using h))⟩
      · simp only [List.getElem?_toArray, List.getElem?_cons_zero, List.getElem?_cons_succ, Option.some.injEq] at ho
        subst ho
        obtain rfl := p0 (hafter ⟨0, .data⟩ (by simp) rfl)
        have P0 := Lib.hid p0
        have P1 := Lib.hid p1
        have P2 := Lib.hid p2
        have P3 := Lib.hid p3
        have P4 := Lib.hid p4
        have P5 := Lib.hid p5
        have P6 := Lib.hid p6
        have P7 := Lib.hid p7
        have P8 := Lib.hid p8
        have P9 := Lib.hid p9
        have P10 := Lib.hid p10
        have P11 := Lib.hid p11
        have P12 := Lib.hid p12
        have P13 := Lib.hid p13
        have P14 := Lib.hid p14
        have P15 := Lib.hid p15
        have P16 := Lib.hid p16
        have P17 := Lib.hid p17
        have P18 := Lib.hid p18
        have P19 := Lib.hid p19
        have P20 := Lib.hid p20
        have P21 := Lib.hid p21
        have P22 := Lib.hid p22
        have P23 := Lib.hid p23
        have P24 := Lib.hid p24
        have P25 := Lib.hid p25
        have P26 := Lib.hid p26
        have P27 := Lib.hid p27
        have P28 := Lib.hid p28
        have P29 := Lib.hid p29
        have P30 := Lib.hid p30
        have P31 := Lib.hid p31
        have P32 := Lib.hid p32
        have P33 := Lib.hid p33
        have P34 := Lib.hid p34
        have HS := Lib.hid hS
        clear hS hLi hafter p0 p1 p2 p3 p4 p5 p6 p7 p8 p9 p10 p11 p12 p13 p14 p15 p16 p17 p18 p19 p20 p21 p22 p23 p24 p25 p26 p27 p28 p29 p30 p31 p32 p33 p34
        simp only [Act.put, List.setIfInBounds_toArray, List.set_cons_zero, List.set_cons_succ]
        go_wp2_with fail
        exact ⟨.int .i64 ((k : Nat) : Int), .bool false, u34, u35, u36, u37, u38, u39, u40, u41, u42, u43, u44, u45, u46, u47, u48, u49, u50, u51, u52, u53, u54, u55, u56, u57, u58, u59, u60, u61, u62, u63, u64, u65, u66, by simp only [Act.put, List.setIfInBounds_toArray, List.set_cons_zero, List.set_cons_succ], HS.out, (fun h => by first | rfl | exact P0.out (by simpa using h)), (fun _ => rfl), (fun h => by first | rfl | exact P2.out (by simpa using h)), (fun h => by first | rfl | exact P3.out (by simpa using h)), (fun h => by first | rfl | exact P4.out (by simpa using h)), (fun h => by first | rfl | exact P5.out (by simpa using h)), (fun h => by first | rfl | exact P6.out (by simpa using h)), (fun h => by first | rfl | exact P7.out (by simpa using h)), (fun h => by first | rfl | exact P8.out (by simpa using h)), (fun h => by first | rfl | exact P9.out (by simpa using h)), (fun h => by first | rfl | exact P10.out (by simpa using h)), (fun h => by first | rfl | exact P11.out (by simpa using h)), (fun h => by first | rfl | exact P12.out (by simpa using h)), (fun h => by first | rfl | exact P13.out (by simpa using h)), (fun h => by first | rfl | exact P14.out (by simpa using h)), (fun h => by first | rfl | exact P15.out (by simpa using h)), (fun h => by first | rfl | exact P16.out (by simpa using h)), (fun h => by first | rfl | exact P17.out (by simpa using h)), (fun h => by first | rfl | exact P18.out (by simpa using h)), (fun h => by first | rfl | exact P19.out (by simpa using h)), (fun h => by first | rfl | exact P20.out (by simpa using h)), (fun h => by first | rfl | exact P21.out (by simpa using h)), (fun h => P22.out (by simpa using h)), (fun h => by first | rfl | exact P23.out (by simpa using h)), (fun h => by first | rfl | exact P24.out (by simpa using h)), (fun h => by first | rfl | exact P25.out (by simpa using h)), (fun h => by first | rfl | exact P26.out (by simpa using h)), (fun h => by first | rfl | exact P27.out (by simpa using h)), (fun h => by first | rfl | exact P28.out (by simpa using h)), (fun h => by first | rfl | exact P29.out (by simpa using h)), (fun h => by first | rfl | exact P30.out (by simpa using h)), (fun h => by first | rfl | exact P31.out (by simpa using h)), (fun h => by first | rfl | exact P32.out (by simpa using h)), (fun h => by first | rfl | exact P33.out (by simpa using h)), (fun h => by first | rfl | exact P34.out (by simpa using h))⟩
      · simp only [List.getElem?_toArray, List.getElem?_cons_zero, List.getElem?_cons_succ, Option.some.injEq] at ho
        subst ho
        obtain rfl := p1 (hafter ⟨1, .data⟩ (by simp) rfl)
        have P0 := Lib.hid p0
        have P1 := Lib.hid p1
        have P2 := Lib.hid p2
        have P3 := Lib.hid p3
        have P4 := Lib.hid p4
        have P5 := Lib.hid p5
        have P6 := Lib.hid p6
        have P7 := Lib.hid p7
        have P8 := Lib.hid p8
        have P9 := Lib.hid p9
        have P10 := Lib.hid p10
        have P11 := Lib.hid p11
        have P12 := Lib.hid p12
        have P13 := Lib.hid p13
        have P14 := Lib.hid p14
        have P15 := Lib.hid p15
        have P16 := Lib.hid p16
        have P17 := Lib.hid p17
        have P18 := Lib.hid p18
        have P19 := Lib.hid p19
        have P20 := Lib.hid p20
        have P21 := Lib.hid p21
        have P22 := Lib.hid p22
        have P23 := Lib.hid p23
        have P24 := Lib.hid p24
        have P25 := Lib.hid p25
        have P26 := Lib.hid p26
        have P27 := Lib.hid p27
        have P28 := Lib.hid p28
        have P29 := Lib.hid p29
        have P30 := Lib.hid p30
        have P31 := Lib.hid p31
        have P32 := Lib.hid p32
        have P33 := Lib.hid p33
        have P34 := Lib.hid p34
        have HS := Lib.hid hS
        clear hS hLi hafter p0 p1 p2 p3 p4 p5 p6 p7 p8 p9 p10 p11 p12 p13 p14 p15 p16 p17 p18 p19 p20 p21 p22 p23 p24 p25 p26 p27 p28 p29 p30 p31 p32 p33 p34
        simp only [Act.put, List.setIfInBounds_toArray, List.set_cons_zero, List.set_cons_succ]
        go_wp2_with fail
        exact ⟨u32, .bool false, .bool false, u35, u36, u37, u38, u39, u40, u41, u42, u43, u44, u45, u46, u47, u48, u49, u50, u51, u52, u53, u54, u55, u56, u57, u58, u59, u60, u61, u62, u63, u64, u65, u66, by simp only [Act.put, List.setIfInBounds_toArray, List.set_cons_zero, List.set_cons_succ], HS.out, (fun h => by first | rfl | exact P0.out (by simpa using h)), (fun h => by first | rfl | exact P1.out (by simpa using h)), (fun _ => rfl), (fun h => by first | rfl | exact P3.out (by simpa using h)), (fun h => by first | rfl | exact P4.out (by simpa using h)), (fun h => by first | rfl | exact P5.out (by simpa using h)), (fun h => by first | rfl | exact P6.out (by simpa using h)), (fun h => by first | rfl | exact P7.out (by simpa using h)), (fun h => by first | rfl | exact P8.out (by simpa using h)), (fun h => by first | rfl | exact P9.out (by simpa using h)), (fun h => by first | rfl | exact P10.out (by simpa using h)), (fun h => by first | rfl | exact P11.out (by simpa using h)), (fun h => by first | rfl | exact P12.out (by simpa using h)), (fun h => by first | rfl | exact P13.out (by simpa using h)), (fun h => by first | rfl | exact P14.out (by simpa using h)), (fun h => by first | rfl | exact P15.out (by simpa using h)), (fun h => by first | rfl | exact P16.out (by simpa using h)), (fun h => by first | rfl | exact P17.out (by simpa using h)), (fun h => by first | rfl | exact P18.out (by simpa using h)), (fun h => by first | rfl | exact P19.out (by simpa using h)), (fun h => by first | rfl | exact P20.out (by simpa using h)), (fun h => by first | rfl | exact P21.out (by simpa using h)), (fun h => P22.out (by simpa using h)), (fun h => by first | rfl | exact P23.out (by simpa using h)), (fun h => by first | rfl | exact P24.out (by simpa using h)), (fun h => by first | rfl | exact P25.out (by simpa using h)), (fun h => by first | rfl | exact P26.out (by simpa using h)), (fun h => by first | rfl | exact P27.out (by simpa using h)), (fun h => by first | rfl | exact P28.out (by simpa using h)), (fun h => by first | rfl | exact P29.out (by simpa using h)), (fun h => by first | rfl | exact P30.out (by simpa using h)), (fun h => by first | rfl | exact P31.out (by simpa using h)), (fun h => by first | rfl | exact P32.out (by simpa using h)), (fun h => by first | rfl | exact P33.out (by simpa using h)), (fun h => by first | rfl | exact P34.out (by simpa using h))⟩
      · simp only [List.getElem?_toArray, List.getElem?_cons_zero, List.getElem?_cons_succ, Option.some.injEq] at ho
        subst ho
        obtain rfl := p2 (hafter ⟨2, .guard⟩ (by simp) rfl)
        have P0 := Lib.hid p0
        have P1 := Lib.hid p1
        have P2 := Lib.hid p2
        have P3 := Lib.hid p3
        have P4 := Lib.hid p4
        have P5 := Lib.hid p5
        have P6 := Lib.hid p6
        have P7 := Lib.hid p7
        have P8 := Lib.hid p8
        have P9 := Lib.hid p9
        have P10 := Lib.hid p10
        have P11 := Lib.hid p11
        have P12 := Lib.hid p12
        have P13 := Lib.hid p13
        have P14 := Lib.hid p14
        have P15 := Lib.hid p15
        have P16 := Lib.hid p16
        have P17 := Lib.hid p17
        have P18 := Lib.hid p18
        have P19 := Lib.hid p19
        have P20 := Lib.hid p20
        have P21 := Lib.hid p21
        have P22 := Lib.hid p22
        have P23 := Lib.hid p23
        have P24 := Lib.hid p24
        have P25 := Lib.hid p25
        have P26 := Lib.hid p26
        have P27 := Lib.hid p27
        have P28 := Lib.hid p28
        have P29 := Lib.hid p29
        have P30 := Lib.hid p30
        have P31 := Lib.hid p31
        have P32 := Lib.hid p32
        have P33 := Lib.hid p33
        have P34 := Lib.hid p34
        have HS := Lib.hid hS
        clear hS hLi hafter p0 p1 p2 p3 p4 p5 p6 p7 p8 p9 p10 p11 p12 p13 p14 p15 p16 p17 p18 p19 p20 p21 p22 p23 p24 p25 p26 p27 p28 p29 p30 p31 p32 p33 p34
        simp only [Act.put, List.setIfInBounds_toArray, List.set_cons_zero, List.set_cons_succ]
        go_wp2_with fail
        exact ⟨u32, u33, .bool false, .int .i64 ((k : Nat) : Int), u36, u37, u38, u39, u40, u41, u42, u43, u44, u45, u46, u47, u48, u49, u50, u51, u52, u53, u54, u55, u56, u57, u58, u59, u60, u61, u62, u63, u64, u65, u66, by simp only [Act.put, List.setIfInBounds_toArray, List.set_cons_zero, List.set_cons_succ], HS.out, (fun h => by first | rfl | exact P0.out (by simpa using h)), (fun h => by first | rfl | exact P1.out (by simpa using h)), (fun h => by first | rfl | exact P2.out (by simpa using h)), (fun _ => rfl), (fun h => by first | rfl | exact P4.out (by simpa using h)), (fun h => by first | rfl | exact P5.out (by simpa using h)), (fun h => by first | rfl | exact P6.out (by simpa using h)), (fun h => by first | rfl | exact P7.out (by simpa using h)), (fun h => by first | rfl | exact P8.out (by simpa using h)), (fun h => by first | rfl | exact P9.out (by simpa using h)), (fun h => by first | rfl | exact P10.out (by simpa using h)), (fun h => by first | rfl | exact P11.out (by simpa using h)), (fun h => by first | rfl | exact P12.out (by simpa using h)), (fun h => by first | rfl | exact P13.out (by simpa using h)), (fun h => by first | rfl | exact P14.out (by simpa using h)), (fun h => by first | rfl | exact P15.out (by simpa using h)), (fun h => by first | rfl | exact P16.out (by simpa using h)), (fun h => by first | rfl | exact P17.out (by simpa using h)), (fun h => by first | rfl | exact P18.out (by simpa using h)), (fun h => by first | rfl | exact P19.out (by simpa using h)), (fun h => by first | rfl | exact P20.out (by simpa using h)), (fun h => by first | rfl | exact P21.out (by simpa using h)), (fun h => P22.out (by simpa using h)), (fun h => by first | rfl | exact P23.out (by simpa using h)), (fun h => by first | rfl | exact P24.out (by simpa using h)), (fun h => by first | rfl | exact P25.out (by simpa using h)), (fun h => by first | rfl | exact P26.out (by simpa using h)), (fun h => by first | rfl | exact P27.out (by simpa using h)), (fun h => by first | rfl | exact P28.out (by simpa using h)), (fun h => by first | rfl | exact P29.out (by simpa using h)), (fun h => by first | rfl | exact P30.out (by simpa using h)), (fun h => by first | rfl | exact P31.out (by simpa using h)), (fun h => by first | rfl | exact P32.out (by simpa using h)), (fun h => by first | rfl | exact P33.out (by simpa using h)), (fun h => by first | rfl | exact P34.out (by simpa using h))⟩
      · simp only [List.getElem?_toArray, List.getElem?_cons_zero, List.getElem?_cons_succ, Option.some.injEq] at ho
        subst ho
        obtain rfl := p2 (hafter ⟨2, .guard⟩ (by simp) rfl)
        have P0 := Lib.hid p0
        have P1 := Lib.hid p1
        have P2 := Lib.hid p2
        have P3 := Lib.hid p3
        have P4 := Lib.hid p4
        have P5 := Lib.hid p5
        have P6 := Lib.hid p6
        have P7 := Lib.hid p7
        have P8 := Lib.hid p8
        have P9 := Lib.hid p9
        have P10 := Lib.hid p10
        have P11 := Lib.hid p11
        have P12 := Lib.hid p12
        have P13 := Lib.hid p13
        have P14 := Lib.hid p14
        have P15 := Lib.hid p15
        have P16 := Lib.hid p16
        have P17 := Lib.hid p17
        have P18 := Lib.hid p18
        have P19 := Lib.hid p19
        have P20 := Lib.hid p20
        have P21 := Lib.hid p21
        have P22 := Lib.hid p22
        have P23 := Lib.hid p23
        have P24 := Lib.hid p24
        have P25 := Lib.hid p25
        have P26 := Lib.hid p26
        have P27 := Lib.hid p27
        have P28 := Lib.hid p28
        have P29 := Lib.hid p29
        have P30 := Lib.hid p30
        have P31 := Lib.hid p31
        have P32 := Lib.hid p32
        have P33 := Lib.hid p33
        have P34 := Lib.hid p34
        have HS := Lib.hid hS
        clear hS hLi hafter p0 p1 p2 p3 p4 p5 p6 p7 p8 p9 p10 p11 p12 p13 p14 p15 p16 p17 p18 p19 p20 p21 p22 p23 p24 p25 p26 p27 p28 p29 p30 p31 p32 p33 p34
        simp only [Act.put, List.setIfInBounds_toArray, List.set_cons_zero, List.set_cons_succ]
        go_wp2_with fail
        exact ⟨u32, u33, .bool false, u35, .pointer (some ⟨w.heap.size, 1, none⟩), u37, u38, u39, u40, u41, u42, u43, u44, u45, u46, u47, u48, u49, u50, u51, u52, u53, u54, u55, u56, u57, u58, u59, u60, u61, u62, u63, u64, u65, u66, by simp only [Act.put, List.setIfInBounds_toArray, List.set_cons_zero, List.set_cons_succ], HS.out, (fun h => by first | rfl | exact P0.out (by simpa using h)), (fun h => by first | rfl | exact P1.out (by simpa using h)), (fun h => by first | rfl | exact P2.out (by simpa using h)), (fun h => by first | rfl | exact P3.out (by simpa using h)), (fun _ => rfl), (fun h => by first | rfl | exact P5.out (by simpa using h)), (fun h => by first | rfl | exact P6.out (by simpa using h)), (fun h => by first | rfl | exact P7.out (by simpa using h)), (fun h => by first | rfl | exact P8.out (by simpa using h)), (fun h => by first | rfl | exact P9.out (by simpa using h)), (fun h => by first | rfl | exact P10.out (by simpa using h)), (fun h => by first | rfl | exact P11.out (by simpa using h)), (fun h => by first | rfl | exact P12.out (by simpa using h)), (fun h => by first | rfl | exact P13.out (by simpa using h)), (fun h => by first | rfl | exact P14.out (by simpa using h)), (fun h => by first | rfl | exact P15.out (by simpa using h)), (fun h => by first | rfl | exact P16.out (by simpa using h)), (fun h => by first | rfl | exact P17.out (by simpa using h)), (fun h => by first | rfl | exact P18.out (by simpa using h)), (fun h => by first | rfl | exact P19.out (by simpa using h)), (fun h => by first | rfl | exact P20.out (by simpa using h)), (fun h => by first | rfl | exact P21.out (by simpa using h)), (fun h => P22.out (by simpa using h)), (fun h => by first | rfl | exact P23.out (by simpa using h)), (fun h => by first | rfl | exact P24.out (by simpa using h)), (fun h => by first | rfl | exact P25.out (by simpa using h)), (fun h => by first | rfl | exact P26.out (by simpa using h)), (fun h => by first | rfl | exact P27.out (by simpa using h)), (fun h => by first | rfl | exact P28.out (by simpa using h)), (fun h => by first | rfl | exact P29.out (by simpa using h)), (fun h => by first | rfl | exact P30.out (by simpa using h)), (fun h => by first | rfl | exact P31.out (by simpa using h)), (fun h => by first | rfl | exact P32.out (by simpa using h)), (fun h => by first | rfl | exact P33.out (by simpa using h)), (fun h => by first | rfl | exact P34.out (by simpa using h))⟩
      · simp only [List.getElem?_toArray, List.getElem?_cons_zero, List.getElem?_cons_succ, Option.some.injEq] at ho
        subst ho
        obtain rfl := p4 (hafter ⟨4, .data⟩ (by simp) rfl)
        obtain rfl := p2 (hafter ⟨2, .guard⟩ (by simp) rfl)
        have c1 := (hS.1.cell (p := ⟨w.heap.size, 1, none⟩) hl_M).trans k_M_1
        have P0 := Lib.hid p0
        have P1 := Lib.hid p1
        have P2 := Lib.hid p2
        have P3 := Lib.hid p3
        have P4 := Lib.hid p4
        have P5 := Lib.hid p5
        have P6 := Lib.hid p6
        have P7 := Lib.hid p7
        have P8 := Lib.hid p8
        have P9 := Lib.hid p9
        have P10 := Lib.hid p10
        have P11 := Lib.hid p11
        have P12 := Lib.hid p12
        have P13 := Lib.hid p13
        have P14 := Lib.hid p14
        have P15 := Lib.hid p15
        have P16 := Lib.hid p16
        have P17 := Lib.hid p17
        have P18 := Lib.hid p18
        have P19 := Lib.hid p19
        have P20 := Lib.hid p20
        have P21 := Lib.hid p21
        have P22 := Lib.hid p22
        have P23 := Lib.hid p23
        have P24 := Lib.hid p24
        have P25 := Lib.hid p25
        have P26 := Lib.hid p26
        have P27 := Lib.hid p27
        have P28 := Lib.hid p28
        have P29 := Lib.hid p29
        have P30 := Lib.hid p30
        have P31 := Lib.hid p31
        have P32 := Lib.hid p32
        have P33 := Lib.hid p33
        have P34 := Lib.hid p34
        have HS := Lib.hid hS
        clear hS hLi hafter p0 p1 p2 p3 p4 p5 p6 p7 p8 p9 p10 p11 p12 p13 p14 p15 p16 p17 p18 p19 p20 p21 p22 p23 p24 p25 p26 p27 p28 p29 p30 p31 p32 p33 p34
        simp only [Act.put, List.setIfInBounds_toArray, List.set_cons_zero, List.set_cons_succ]
        go_wp2_with fail
        exact ⟨u32, u33, .bool false, u35, .pointer (some ⟨w.heap.size, 1, none⟩), .slice ia I ic, u38, u39, u40, u41, u42, u43, u44, u45, u46, u47, u48, u49, u50, u51, u52, u53, u54, u55, u56, u57, u58, u59, u60, u61, u62, u63, u64, u65, u66, by simp only [Act.put, List.setIfInBounds_toArray, List.set_cons_zero, List.set_cons_succ], HS.out, (fun h => by first | rfl | exact P0.out (by simpa using h)), (fun h => by first | rfl | exact P1.out (by simpa using h)), (fun h => by first | rfl | exact P2.out (by simpa using h)), (fun h => by first | rfl | exact P3.out (by simpa using h)), (fun h => by first | rfl | exact P4.out (by simpa using h)), (fun _ => rfl), (fun h => by first | rfl | exact P6.out (by simpa using h)), (fun h => by first | rfl | exact P7.out (by simpa using h)), (fun h => by first | rfl | exact P8.out (by simpa using h)), (fun h => by first | rfl | exact P9.out (by simpa using h)), (fun h => by first | rfl | exact P10.out (by simpa using h)), (fun h => by first | rfl | exact P11.out (by simpa using h)), (fun h => by first | rfl | exact P12.out (by simpa using h)), (fun h => by first | rfl | exact P13.out (by simpa using h)), (fun h => by first | rfl | exact P14.out (by simpa using h)), (fun h => by first | rfl | exact P15.out (by simpa using h)), (fun h => by first | rfl | exact P16.out (by simpa using h)), (fun h => by first | rfl | exact P17.out (by simpa using h)), (fun h => by first | rfl | exact P18.out (by simpa using h)), (fun h => by first | rfl | exact P19.out (by simpa using h)), (fun h => by first | rfl | exact P20.out (by simpa using h)), (fun h => by first | rfl | exact P21.out (by simpa using h)), (fun h => P22.out (by simpa using h)), (fun h => by first | rfl | exact P23.out (by simpa using h)), (fun h => by first | rfl | exact P24.out (by simpa using h)), (fun h => by first | rfl | exact P25.out (by simpa using h)), (fun h => by first | rfl | exact P26.out (by simpa using h)), (fun h => by first | rfl | exact P27.out (by simpa using h)), (fun h => by first | rfl | exact P28.out (by simpa using h)), (fun h => by first | rfl | exact P29.out (by simpa using h)), (fun h => by first | rfl | exact P30.out (by simpa using h)), (fun h => by first | rfl | exact P31.out (by simpa using h)), (fun h => by first | rfl | exact P32.out (by simpa using h)), (fun h => by first | rfl | exact P33.out (by simpa using h)), (fun h => by first | rfl | exact P34.out (by simpa using h))⟩
      · simp only [List.getElem?_toArray, List.getElem?_cons_zero, List.getElem?_cons_succ, Option.some.injEq] at ho
        subst ho
        obtain rfl := p5 (hafter ⟨5, .data⟩ (by simp) rfl)
        obtain rfl := p2 (hafter ⟨2, .guard⟩ (by simp) rfl)
        have P0 := Lib.hid p0
        have P1 := Lib.hid p1
        have P2 := Lib.hid p2
        have P3 := Lib.hid p3
        have P4 := Lib.hid p4
        have P5 := Lib.hid p5
        have P6 := Lib.hid p6
        have P7 := Lib.hid p7
        have P8 := Lib.hid p8
        have P9 := Lib.hid p9
        have P10 := Lib.hid p10
        have P11 := Lib.hid p11
        have P12 := Lib.hid p12
        have P13 := Lib.hid p13
        have P14 := Lib.hid p14
        have P15 := Lib.hid p15
        have P16 := Lib.hid p16
        have P17 := Lib.hid p17
        have P18 := Lib.hid p18
        have P19 := Lib.hid p19
        have P20 := Lib.hid p20
        have P21 := Lib.hid p21
        have P22 := Lib.hid p22
        have P23 := Lib.hid p23
        have P24 := Lib.hid p24
        have P25 := Lib.hid p25
        have P26 := Lib.hid p26
        have P27 := Lib.hid p27
        have P28 := Lib.hid p28
        have P29 := Lib.hid p29
        have P30 := Lib.hid p30
        have P31 := Lib.hid p31
        have P32 := Lib.hid p32
        have P33 := Lib.hid p33
        have P34 := Lib.hid p34
        have HS := Lib.hid hS
        clear hS hLi hafter p0 p1 p2 p3 p4 p5 p6 p7 p8 p9 p10 p11 p12 p13 p14 p15 p16 p17 p18 p19 p20 p21 p22 p23 p24 p25 p26 p27 p28 p29 p30 p31 p32 p33 p34
        simp only [Act.put, List.setIfInBounds_toArray, List.set_cons_zero, List.set_cons_succ]
        go_wp2_with fail
        exact ⟨u32, u33, .bool false, u35, u36, .slice ia I ic, .int .i64 ((I : Nat) : Int), u39, u40, u41, u42, u43, u44, u45, u46, u47, u48, u49, u50, u51, u52, u53, u54, u55, u56, u57, u58, u59, u60, u61, u62, u63, u64, u65, u66, by simp only [Act.put, List.setIfInBounds_toArray, List.set_cons_zero, List.set_cons_succ], HS.out, (fun h => by first | rfl | exact P0.out (by simpa using h)), (fun h => by first | rfl | exact P1.out (by simpa using h)), (fun h => by first | rfl | exact P2.out (by simpa using h)), (fun h => by first | rfl | exact P3.out (by simpa using h)), (fun h => by first | rfl | exact P4.out (by simpa using h)), (fun h => by first | rfl | exact P5.out (by simpa using h)), (fun _ => rfl), (fun h => by first | rfl | exact P7.out (by simpa using h)), (fun h => by first | rfl | exact P8.out (by simpa using h)), (fun h => by first | rfl | exact P9.out (by simpa using h)), (fun h => by first | rfl | exact P10.out (by simpa using h)), (fun h => by first | rfl | exact P11.out (by simpa using h)), (fun h => by first | rfl | exact P12.out (by simpa using h)), (fun h => by first | rfl | exact P13.out (by simpa using h)), (fun h => by first | rfl | exact P14.out (by simpa using h)), (fun h => by first | rfl | exact P15.out (by simpa using h)), (fun h => by first | rfl | exact P16.out (by simpa using h)), (fun h => by first | rfl | exact P17.out (by simpa using h)), (fun h => by first | rfl | exact P18.out (by simpa using h)), (fun h => by first | rfl | exact P19.out (by simpa using h)), (fun h => by first | rfl | exact P20.out (by simpa using h)), (fun h => by first | rfl | exact P21.out (by simpa using h)), (fun h => P22.out (by simpa using h)), (fun h => by first | rfl | exact P23.out (by simpa using h)), (fun h => by first | rfl | exact P24.out (by simpa using h)), (fun h => by first | rfl | exact P25.out (by simpa using h)), (fun h => by first | rfl | exact P26.out (by simpa using h)), (fun h => by first | rfl | exact P27.out (by simpa using h)), (fun h => by first | rfl | exact P28.out (by simpa using h)), (fun h => by first | rfl | exact P29.out (by simpa using h)), (fun h => by first | rfl | exact P30.out (by simpa using h)), (fun h => by first | rfl | exact P31.out (by simpa using h)), (fun h => by first | rfl | exact P32.out (by simpa using h)), (fun h => by first | rfl | exact P33.out (by simpa using h)), (fun h => by first | rfl | exact P34.out (by simpa using h))⟩
      · simp only [List.getElem?_toArray, List.getElem?_cons_zero, List.getElem?_cons_succ, Option.some.injEq] at ho
        subst ho
        obtain rfl := p3 (hafter ⟨3, .data⟩ (by simp) rfl)
        obtain rfl := p6 (hafter ⟨6, .data⟩ (by simp) rfl)
        obtain rfl := p2 (hafter ⟨2, .guard⟩ (by simp) rfl)
        have P0 := Lib.hid p0
        have P1 := Lib.hid p1
        have P2 := Lib.hid p2
        have P3 := Lib.hid p3
        have P4 := Lib.hid p4
        have P5 := Lib.hid p5
        have P6 := Lib.hid p6
        have P7 := Lib.hid p7
        have P8 := Lib.hid p8
        have P9 := Lib.hid p9
        have P10 := Lib.hid p10
        have P11 := Lib.hid p11
        have P12 := Lib.hid p12
        have P13 := Lib.hid p13
        have P14 := Lib.hid p14
        have P15 := Lib.hid p15
        have P16 := Lib.hid p16
        have P17 := Lib.hid p17
        have P18 := Lib.hid p18
        have P19 := Lib.hid p19
        have P20 := Lib.hid p20
        have P21 := Lib.hid p21
        have P22 := Lib.hid p22
        have P23 := Lib.hid p23
        have P24 := Lib.hid p24
        have P25 := Lib.hid p25
        have P26 := Lib.hid p26
        have P27 := Lib.hid p27
        have P28 := Lib.hid p28
        have P29 := Lib.hid p29
        have P30 := Lib.hid p30
        have P31 := Lib.hid p31
        have P32 := Lib.hid p32
        have P33 := Lib.hid p33
        have P34 := Lib.hid p34
        have HS := Lib.hid hS
        clear hS hLi hafter p0 p1 p2 p3 p4 p5 p6 p7 p8 p9 p10 p11 p12 p13 p14 p15 p16 p17 p18 p19 p20 p21 p22 p23 p24 p25 p26 p27 p28 p29 p30 p31 p32 p33 p34
        simp only [Act.put, List.setIfInBounds_toArray, List.set_cons_zero, List.set_cons_succ]
        go_wp2_with fail
        exact ⟨u32, u33, .bool false, .int .i64 ((k : Nat) : Int), u36, u37, .int .i64 ((I : Nat) : Int), .bool false, u40, u41, u42, u43, u44, u45, u46, u47, u48, u49, u50, u51, u52, u53, u54, u55, u56, u57, u58, u59, u60, u61, u62, u63, u64, u65, u66, by simp only [Act.put, List.setIfInBounds_toArray, List.set_cons_zero, List.set_cons_succ], HS.out, (fun h => by first | rfl | exact P0.out (by simpa using h)), (fun h => by first | rfl | exact P1.out (by simpa using h)), (fun h => by first | rfl | exact P2.out (by simpa using h)), (fun h => by first | rfl | exact P3.out (by simpa using h)), (fun h => by first | rfl | exact P4.out (by simpa using h)), (fun h => by first | rfl | exact P5.out (by simpa using h)), (fun h => by first | rfl | exact P6.out (by simpa using h)), (fun _ => rfl), (fun h => by first | rfl | exact P8.out (by simpa using h)), (fun h => by first | rfl | exact P9.out (by simpa using h)), (fun h => by first | rfl | exact P10.out (by simpa using h)), (fun h => by first | rfl | exact P11.out (by simpa using h)), (fun h => by first | rfl | exact P12.out (by simpa using h)), (fun h => by first | rfl | exact P13.out (by simpa using h)), (fun h => by first | rfl | exact P14.out (by simpa using h)), (fun h => by first | rfl | exact P15.out (by simpa using h)), (fun h => by first | rfl | exact P16.out (by simpa using h)), (fun h => by first | rfl | exact P17.out (by simpa using h)), (fun h => by first | rfl | exact P18.out (by simpa using h)), (fun h => by first | rfl | exact P19.out (by simpa using h)), (fun h => by first | rfl | exact P20.out (by simpa using h)), (fun h => by first | rfl | exact P21.out (by simpa using h)), (fun h => P22.out (by simpa using h)), (fun h => by first | rfl | exact P23.out (by simpa using h)), (fun h => by first | rfl | exact P24.out (by simpa using h)), (fun h => by first | rfl | exact P25.out (by simpa using h)), (fun h => by first | rfl | exact P26.out (by simpa using h)), (fun h => by first | rfl | exact P27.out (by simpa using h)), (fun h => by first | rfl | exact P28.out (by simpa using h)), (fun h => by first | rfl | exact P29.out (by simpa using h)), (fun h => by first | rfl | exact P30.out (by simpa using h)), (fun h => by first | rfl | exact P31.out (by simpa using h)), (fun h => by first | rfl | exact P32.out (by simpa using h)), (fun h => by first | rfl | exact P33.out (by simpa using h)), (fun h => by first | rfl | exact P34.out (by simpa using h))⟩
      · simp only [List.getElem?_toArray, List.getElem?_cons_zero, List.getElem?_cons_succ, Option.some.injEq] at ho
        subst ho
        obtain rfl := p2 (hafter ⟨2, .data⟩ (by simp) rfl)
        obtain rfl := p7 (hafter ⟨7, .data⟩ (by simp) rfl)
        have P0 := Lib.hid p0
        have P1 := Lib.hid p1
        have P2 := Lib.hid p2
        have P3 := Lib.hid p3
        have P4 := Lib.hid p4
        have P5 := Lib.hid p5
        have P6 := Lib.hid p6
        have P7 := Lib.hid p7
        have P8 := Lib.hid p8
        have P9 := Lib.hid p9
        have P10 := Lib.hid p10
        have P11 := Lib.hid p11
        have P12 := Lib.hid p12
        have P13 := Lib.hid p13
        have P14 := Lib.hid p14
        have P15 := Lib.hid p15
        have P16 := Lib.hid p16
        have P17 := Lib.hid p17
        have P18 := Lib.hid p18
        have P19 := Lib.hid p19
        have P20 := Lib.hid p20
        have P21 := Lib.hid p21
        have P22 := Lib.hid p22
        have P23 := Lib.hid p23
        have P24 := Lib.hid p24
        have P25 := Lib.hid p25
        have P26 := Lib.hid p26
        have P27 := Lib.hid p27
        have P28 := Lib.hid p28
        have P29 := Lib.hid p29
        have P30 := Lib.hid p30
        have P31 := Lib.hid p31
        have P32 := Lib.hid p32
        have P33 := Lib.hid p33
        have P34 := Lib.hid p34
        have HS := Lib.hid hS
        clear hS hLi hafter p0 p1 p2 p3 p4 p5 p6 p7 p8 p9 p10 p11 p12 p13 p14 p15 p16 p17 p18 p19 p20 p21 p22 p23 p24 p25 p26 p27 p28 p29 p30 p31 p32 p33 p34
        simp only [Act.put, List.setIfInBounds_toArray, List.set_cons_zero, List.set_cons_succ]
        go_wp2_with fail
        exact ⟨u32, u33, .bool false, u35, u36, u37, u38, .bool false, .bool false, u41, u42, u43, u44, u45, u46, u47, u48, u49, u50, u51, u52, u53, u54, u55, u56, u57, u58, u59, u60, u61, u62, u63, u64, u65, u66, by simp only [Act.put, List.setIfInBounds_toArray, List.set_cons_zero, List.set_cons_succ], HS.out, (fun h => by first | rfl | exact P0.out (by simpa using h)), (fun h => by first | rfl | exact P1.out (by simpa using h)), (fun h => by first | rfl | exact P2.out (by simpa using h)), (fun h => by first | rfl | exact P3.out (by simpa using h)), (fun h => by first | rfl | exact P4.out (by simpa using h)), (fun h => by first | rfl | exact P5.out (by simpa using h)), (fun h => by first | rfl | exact P6.out (by simpa using h)), (fun h => by first | rfl | exact P7.out (by simpa using h)), (fun _ => rfl), (fun h => by first | rfl | exact P9.out (by simpa using h)), (fun h => by first | rfl | exact P10.out (by simpa using h)), (fun h => by first | rfl | exact P11.out (by simpa using h)), (fun h => by first | rfl | exact P12.out (by simpa using h)), (fun h => by first | rfl | exact P13.out (by simpa using h)), (fun h => by first | rfl | exact P14.out (by simpa using h)), (fun h => by first | rfl | exact P15.out (by simpa using h)), (fun h => by first | rfl | exact P16.out (by simpa using h)), (fun h => by first | rfl | exact P17.out (by simpa using h)), (fun h => by first | rfl | exact P18.out (by simpa using h)), (fun h => by first | rfl | exact P19.out (by simpa using h)), (fun h => by first | rfl | exact P20.out (by simpa using h)), (fun h => by first | rfl | exact P21.out (by simpa using h)), (fun h => P22.out (by simpa using h)), (fun h => by first | rfl | exact P23.out (by simpa using h)), (fun h => by first | rfl | exact P24.out (by simpa using h)), (fun h => by first | rfl | exact P25.out (by simpa using h)), (fun h => by first | rfl | exact P26.out (by simpa using h)), (fun h => by first | rfl | exact P27.out (by simpa using h)), (fun h => by first | rfl | exact P28.out (by simpa using h)), (fun h => by first | rfl | exact P29.out (by simpa using h)), (fun h => by first | rfl | exact P30.out (by simpa using h)), (fun h => by first | rfl | exact P31.out (by simpa using h)), (fun h => by first | rfl | exact P32.out (by simpa using h)), (fun h => by first | rfl | exact P33.out (by simpa using h)), (fun h => by first | rfl | exact P34.out (by simpa using h))⟩
      · simp only [List.getElem?_toArray, List.getElem?_cons_zero, List.getElem?_cons_succ, Option.some.injEq] at ho
        subst ho
        obtain rfl := p8 (hafter ⟨8, .data⟩ (by simp) rfl)
        have P0 := Lib.hid p0
        have P1 := Lib.hid p1
        have P2 := Lib.hid p2
        have P3 := Lib.hid p3
        have P4 := Lib.hid p4
        have P5 := Lib.hid p5
        have P6 := Lib.hid p6
        have P7 := Lib.hid p7
        have P8 := Lib.hid p8
        have P9 := Lib.hid p9
        have P10 := Lib.hid p10
        have P11 := Lib.hid p11
        have P12 := Lib.hid p12
        have P13 := Lib.hid p13
        have P14 := Lib.hid p14
        have P15 := Lib.hid p15
        have P16 := Lib.hid p16
        have P17 := Lib.hid p17
        have P18 := Lib.hid p18
        have P19 := Lib.hid p19
        have P20 := Lib.hid p20
        have P21 := Lib.hid p21
        have P22 := Lib.hid p22
        have P23 := Lib.hid p23
        have P24 := Lib.hid p24
        have P25 := Lib.hid p25
        have P26 := Lib.hid p26
        have P27 := Lib.hid p27
        have P28 := Lib.hid p28
        have P29 := Lib.hid p29
        have P30 := Lib.hid p30
        have P31 := Lib.hid p31
        have P32 := Lib.hid p32
        have P33 := Lib.hid p33
        have P34 := Lib.hid p34
        have HS := Lib.hid hS
        clear hS hLi hafter p0 p1 p2 p3 p4 p5 p6 p7 p8 p9 p10 p11 p12 p13 p14 p15 p16 p17 p18 p19 p20 p21 p22 p23 p24 p25 p26 p27 p28 p29 p30 p31 p32 p33 p34
        simp only [Act.put, List.setIfInBounds_toArray, List.set_cons_zero, List.set_cons_succ]
        go_wp2_with fail
        exact ⟨u32, u33, u34, u35, u36, u37, u38, u39, .bool false, .bool false, u42, u43, u44, u45, u46, u47, u48, u49, u50, u51, u52, u53, u54, u55, u56, u57, u58, u59, u60, u61, u62, u63, u64, u65, u66, by simp only [Act.put, List.setIfInBounds_toArray, List.set_cons_zero, List.set_cons_succ], HS.out, (fun h => by first | rfl | exact P0.out (by simpa using h)), (fun h => by first | rfl | exact P1.out (by simpa using h)), (fun h => by first | rfl | exact P2.out (by simpa using h)), (fun h => by first | rfl | exact P3.out (by simpa using h)), (fun h => by first | rfl | exact P4.out (by simpa using h)), (fun h => by first | rfl | exact P5.out (by simpa using h)), (fun h => by first | rfl | exact P6.out (by simpa using h)), (fun h => by first | rfl | exact P7.out (by simpa using h)), (fun h => by first | rfl | exact P8.out (by simpa using h)), (fun _ => rfl), (fun h => by first | rfl | exact P10.out (by simpa using h)), (fun h => by first | rfl | exact P11.out (by simpa using h)), (fun h => by first | rfl | exact P12.out (by simpa using h)), (fun h => by first | rfl | exact P13.out (by simpa using h)), (fun h => by first | rfl | exact P14.out (by simpa using h)), (fun h => by first | rfl | exact P15.out (by simpa using h)), (fun h => by first | rfl | exact P16.out (by simpa using h)), (fun h => by first | rfl | exact P17.out (by simpa using h)), (fun h => by first | rfl | exact P18.out (by simpa using h)), (fun h => by first | rfl | exact P19.out (by simpa using h)), (fun h => by first | rfl | exact P20.out (by simpa using h)), (fun h => by first | rfl | exact P21.out (by simpa using h)), (fun h => P22.out (by simpa using h)), (fun h => by first | rfl | exact P23.out (by simpa using h)), (fun h => by first | rfl | exact P24.out (by simpa using h)), (fun h => by first | rfl | exact P25.out (by simpa using h)), (fun h => by first | rfl | exact P26.out (by simpa using h)), (fun h => by first | rfl | exact P27.out (by simpa using h)), (fun h => by first | rfl | exact P28.out (by simpa using h)), (fun h => by first | rfl | exact P29.out (by simpa using h)), (fun h => by first | rfl | exact P30.out (by simpa using h)), (fun h => by first | rfl | exact P31.out (by simpa using h)), (fun h => by first | rfl | exact P32.out (by simpa using h)), (fun h => by first | rfl | exact P33.out (by simpa using h)), (fun h => by first | rfl | exact P34.out (by simpa using h))⟩
      · simp only [List.getElem?_toArray, List.getElem?_cons_zero, List.getElem?_cons_succ, Option.some.injEq] at ho
        subst ho
        obtain rfl := p9 (hafter ⟨9, .guard⟩ (by simp) rfl)
        have P0 := Lib.hid p0
        have P1 := Lib.hid p1
        have P2 := Lib.hid p2
        have P3 := Lib.hid p3
        have P4 := Lib.hid p4
        have P5 := Lib.hid p5
        have P6 := Lib.hid p6
        have P7 := Lib.hid p7
        have P8 := Lib.hid p8
        have P9 := Lib.hid p9
        have P10 := Lib.hid p10
        have P11 := Lib.hid p11
        have P12 := Lib.hid p12
        have P13 := Lib.hid p13
        have P14 := Lib.hid p14
        have P15 := Lib.hid p15
        have P16 := Lib.hid p16
        have P17 := Lib.hid p17
        have P18 := Lib.hid p18
        have P19 := Lib.hid p19
        have P20 := Lib.hid p20
        have P21 := Lib.hid p21
        have P22 := Lib.hid p22
        have P23 := Lib.hid p23
        have P24 := Lib.hid p24
        have P25 := Lib.hid p25
        have P26 := Lib.hid p26
        have P27 := Lib.hid p27
        have P28 := Lib.hid p28
        have P29 := Lib.hid p29
        have P30 := Lib.hid p30
        have P31 := Lib.hid p31
        have P32 := Lib.hid p32
        have P33 := Lib.hid p33
        have P34 := Lib.hid p34
        have HS := Lib.hid hS
        clear hS hLi hafter p0 p1 p2 p3 p4 p5 p6 p7 p8 p9 p10 p11 p12 p13 p14 p15 p16 p17 p18 p19 p20 p21 p22 p23 p24 p25 p26 p27 p28 p29 p30 p31 p32 p33 p34
        simp only [Act.put, List.setIfInBounds_toArray, List.set_cons_zero, List.set_cons_succ]
        go_wp2_with fail
        exact ⟨u32, u33, u34, u35, u36, u37, u38, u39, u40, .bool false, .slice fa R fc, u43, u44, u45, u46, u47, u48, u49, u50, u51, u52, u53, u54, u55, u56, u57, u58, u59, u60, u61, u62, u63, u64, u65, u66, by simp only [Act.put, List.setIfInBounds_toArray, List.set_cons_zero, List.set_cons_succ], HS.out, (fun h => by first | rfl | exact P0.out (by simpa using h)), (fun h => by first | rfl | exact P1.out (by simpa using h)), (fun h => by first | rfl | exact P2.out (by simpa using h)), (fun h => by first | rfl | exact P3.out (by simpa using h)), (fun h => by first | rfl | exact P4.out (by simpa using h)), (fun h => by first | rfl | exact P5.out (by simpa using h)), (fun h => by first | rfl | exact P6.out (by simpa using h)), (fun h => by first | rfl | exact P7.out (by simpa using h)), (fun h => by first | rfl | exact P8.out (by simpa using h)), (fun h => by first | rfl | exact P9.out (by simpa using h)), (fun _ => rfl), (fun h => by first | rfl | exact P11.out (by simpa using h)), (fun h => by first | rfl | exact P12.out (by simpa using h)), (fun h => by first | rfl | exact P13.out (by simpa using h)), (fun h => by first | rfl | exact P14.out (by simpa using h)), (fun h => by first | rfl | exact P15.out (by simpa using h)), (fun h => by first | rfl | exact P16.out (by simpa using h)), (fun h => by first | rfl | exact P17.out (by simpa using h)), (fun h => by first | rfl | exact P18.out (by simpa using h)), (fun h => by first | rfl | exact P19.out (by simpa using h)), (fun h => by first | rfl | exact P20.out (by simpa using h)), (fun h => by first | rfl | exact P21.out (by simpa using h)), (fun h => P22.out (by simpa using h)), (fun h => by first | rfl | exact P23.out (by simpa using h)), (fun h => by first | rfl | exact P24.out (by simpa using h)), (fun h => by first | rfl | exact P25.out (by simpa using h)), (fun h => by first | rfl | exact P26.out (by simpa using h)), (fun h => by first | rfl | exact P27.out (by simpa using h)), (fun h => by first | rfl | exact P28.out (by simpa using h)), (fun h => by first | rfl | exact P29.out (by simpa using h)), (fun h => by first | rfl | exact P30.out (by simpa using h)), (fun h => by first | rfl | exact P31.out (by simpa using h)), (fun h => by first | rfl | exact P32.out (by simpa using h)), (fun h => by first | rfl | exact P33.out (by simpa using h)), (fun h => by first | rfl | exact P34.out (by simpa using h))⟩
      · simp only [List.getElem?_toArray, List.getElem?_cons_zero, List.getElem?_cons_succ, Option.some.injEq] at ho
        subst ho
        obtain rfl := p10 (hafter ⟨10, .data⟩ (by simp) rfl)
        obtain rfl := p9 (hafter ⟨9, .guard⟩ (by simp) rfl)
        have P0 := Lib.hid p0
        have P1 := Lib.hid p1
        have P2 := Lib.hid p2
        have P3 := Lib.hid p3
        have P4 := Lib.hid p4
        have P5 := Lib.hid p5
        have P6 := Lib.hid p6
        have P7 := Lib.hid p7
        have P8 := Lib.hid p8
        have P9 := Lib.hid p9
        have P10 := Lib.hid p10
        have P11 := Lib.hid p11
        have P12 := Lib.hid p12
        have P13 := Lib.hid p13
        have P14 := Lib.hid p14
        have P15 := Lib.hid p15
        have P16 := Lib.hid p16
        have P17 := Lib.hid p17
        have P18 := Lib.hid p18
        have P19 := Lib.hid p19
        have P20 := Lib.hid p20
        have P21 := Lib.hid p21
        have P22 := Lib.hid p22
        have P23 := Lib.hid p23
        have P24 := Lib.hid p24
        have P25 := Lib.hid p25
        have P26 := Lib.hid p26
        have P27 := Lib.hid p27
        have P28 := Lib.hid p28
        have P29 := Lib.hid p29
        have P30 := Lib.hid p30
        have P31 := Lib.hid p31
        have P32 := Lib.hid p32
        have P33 := Lib.hid p33
        have P34 := Lib.hid p34
        have HS := Lib.hid hS
        clear hS hLi hafter p0 p1 p2 p3 p4 p5 p6 p7 p8 p9 p10 p11 p12 p13 p14 p15 p16 p17 p18 p19 p20 p21 p22 p23 p24 p25 p26 p27 p28 p29 p30 p31 p32 p33 p34
        simp only [Act.put, List.setIfInBounds_toArray, List.set_cons_zero, List.set_cons_succ]
        go_wp2_with fail
        exact ⟨u32, u33, u34, u35, u36, u37, u38, u39, u40, .bool false, .slice fa R fc, .int .i64 ((R : Nat) : Int), u44, u45, u46, u47, u48, u49, u50, u51, u52, u53, u54, u55, u56, u57, u58, u59, u60, u61, u62, u63, u64, u65, u66, by simp only [Act.put, List.setIfInBounds_toArray, List.set_cons_zero, List.set_cons_succ], HS.out, (fun h => by first | rfl | exact P0.out (by simpa using h)), (fun h => by first | rfl | exact P1.out (by simpa using h)), (fun h => by first | rfl | exact P2.out (by simpa using h)), (fun h => by first | rfl | exact P3.out (by simpa using h)), (fun h => by first | rfl | exact P4.out (by simpa using h)), (fun h => by first | rfl | exact P5.out (by simpa using h)), (fun h => by first | rfl | exact P6.out (by simpa using h)), (fun h => by first | rfl | exact P7.out (by simpa using h)), (fun h => by first | rfl | exact P8.out (by simpa using h)), (fun h => by first | rfl | exact P9.out (by simpa using h)), (fun h => by first | rfl | exact P10.out (by simpa using h)), (fun _ => rfl), (fun h => by first | rfl | exact P12.out (by simpa using h)), (fun h => by first | rfl | exact P13.out (by simpa using h)), (fun h => by first | rfl | exact P14.out (by simpa using h)), (fun h => by first | rfl | exact P15.out (by simpa using h)), (fun h => by first | rfl | exact P16.out (by simpa using h)), (fun h => by first | rfl | exact P17.out (by simpa using h)), (fun h => by first | rfl | exact P18.out (by simpa using h)), (fun h => by first | rfl | exact P19.out (by simpa using h)), (fun h => by first | rfl | exact P20.out (by simpa using h)), (fun h => by first | rfl | exact P21.out (by simpa using h)), (fun h => P22.out (by simpa using h)), (fun h => by first | rfl | exact P23.out (by simpa using h)), (fun h => by first | rfl | exact P24.out (by simpa using h)), (fun h => by first | rfl | exact P25.out (by simpa using h)), (fun h => by first | rfl | exact P26.out (by simpa using h)), (fun h => by first | rfl | exact P27.out (by simpa using h)), (fun h => by first | rfl | exact P28.out (by simpa using h)), (fun h => by first | rfl | exact P29.out (by simpa using h)), (fun h => by first | rfl | exact P30.out (by simpa using h)), (fun h => by first | rfl | exact P31.out (by simpa using h)), (fun h => by first | rfl | exact P32.out (by simpa using h)), (fun h => by first | rfl | exact P33.out (by simpa using h)), (fun h => by first | rfl | exact P34.out (by simpa using h))⟩
      · simp only [List.getElem?_toArray, List.getElem?_cons_zero, List.getElem?_cons_succ, Option.some.injEq] at ho
        subst ho
        obtain rfl := p9 (hafter ⟨9, .guard⟩ (by simp) rfl)
        have P0 := Lib.hid p0
        have P1 := Lib.hid p1
        have P2 := Lib.hid p2
        have P3 := Lib.hid p3
        have P4 := Lib.hid p4
        have P5 := Lib.hid p5
        have P6 := Lib.hid p6
        have P7 := Lib.hid p7
        have P8 := Lib.hid p8
        have P9 := Lib.hid p9
        have P10 := Lib.hid p10
        have P11 := Lib.hid p11
        have P12 := Lib.hid p12
        have P13 := Lib.hid p13
        have P14 := Lib.hid p14
        have P15 := Lib.hid p15
        have P16 := Lib.hid p16
        have P17 := Lib.hid p17
        have P18 := Lib.hid p18
        have P19 := Lib.hid p19
        have P20 := Lib.hid p20
        have P21 := Lib.hid p21
        have P22 := Lib.hid p22
        have P23 := Lib.hid p23
        have P24 := Lib.hid p24
        have P25 := Lib.hid p25
        have P26 := Lib.hid p26
        have P27 := Lib.hid p27
        have P28 := Lib.hid p28
        have P29 := Lib.hid p29
        have P30 := Lib.hid p30
        have P31 := Lib.hid p31
        have P32 := Lib.hid p32
        have P33 := Lib.hid p33
        have P34 := Lib.hid p34
        have HS := Lib.hid hS
        clear hS hLi hafter p0 p1 p2 p3 p4 p5 p6 p7 p8 p9 p10 p11 p12 p13 p14 p15 p16 p17 p18 p19 p20 p21 p22 p23 p24 p25 p26 p27 p28 p29 p30 p31 p32 p33 p34
        simp only [Act.put, List.setIfInBounds_toArray, List.set_cons_zero, List.set_cons_succ]
        go_wp2_with fail
        exact ⟨u32, u33, u34, u35, u36, u37, u38, u39, u40, .bool false, u42, u43, .pointer (some ⟨w.heap.size, 2, none⟩), u45, u46, u47, u48, u49, u50, u51, u52, u53, u54, u55, u56, u57, u58, u59, u60, u61, u62, u63, u64, u65, u66, by simp only [Act.put, List.setIfInBounds_toArray, List.set_cons_zero, List.set_cons_succ], HS.out, (fun h => by first | rfl | exact P0.out (by simpa using h)), (fun h => by first | rfl | exact P1.out (by simpa using h)), (fun h => by first | rfl | exact P2.out (by simpa using h)), (fun h => by first | rfl | exact P3.out (by simpa using h)), (fun h => by first | rfl | exact P4.out (by simpa using h)), (fun h => by first | rfl | exact P5.out (by simpa using h)), (fun h => by first | rfl | exact P6.out (by simpa using h)), (fun h => by first | rfl | exact P7.out (by simpa using h)), (fun h => by first | rfl | exact P8.out (by simpa using h)), (fun h => by first | rfl | exact P9.out (by simpa using h)), (fun h => by first | rfl | exact P10.out (by simpa using h)), (fun h => by first | rfl | exact P11.out (by simpa using h)), (fun _ => rfl), (fun h => by first | rfl | exact P13.out (by simpa using h)), (fun h => by first | rfl | exact P14.out (by simpa using h)), (fun h => by first | rfl | exact P15.out (by simpa using h)), (fun h => by first | rfl | exact P16.out (by simpa using h)), (fun h => by first | rfl | exact P17.out (by simpa using h)), (fun h => by first | rfl | exact P18.out (by simpa using h)), (fun h => by first | rfl | exact P19.out (by simpa using h)), (fun h => by first | rfl | exact P20.out (by simpa using h)), (fun h => by first | rfl | exact P21.out (by simpa using h)), (fun h => P22.out (by simpa using h)), (fun h => by first | rfl | exact P23.out (by simpa using h)), (fun h => by first | rfl | exact P24.out (by simpa using h)), (fun h => by first | rfl | exact P25.out (by simpa using h)), (fun h => by first | rfl | exact P26.out (by simpa using h)), (fun h => by first | rfl | exact P27.out (by simpa using h)), (fun h => by first | rfl | exact P28.out (by simpa using h)), (fun h => by first | rfl | exact P29.out (by simpa using h)), (fun h => by first | rfl | exact P30.out (by simpa using h)), (fun h => by first | rfl | exact P31.out (by simpa using h)), (fun h => by first | rfl | exact P32.out (by simpa using h)), (fun h => by first | rfl | exact P33.out (by simpa using h)), (fun h => by first | rfl | exact P34.out (by simpa using h))⟩
      · simp only [List.getElem?_toArray, List.getElem?_cons_zero, List.getElem?_cons_succ, Option.some.injEq] at ho
        subst ho
        obtain rfl := p12 (hafter ⟨12, .data⟩ (by simp) rfl)
        obtain rfl := p9 (hafter ⟨9, .guard⟩ (by simp) rfl)
        have c2 := (hS.1.cell (p := ⟨w.heap.size, 2, none⟩) hl_M).trans k_M_2
        have P0 := Lib.hid p0
        have P1 := Lib.hid p1
        have P2 := Lib.hid p2
        have P3 := Lib.hid p3
        have P4 := Lib.hid p4
        have P5 := Lib.hid p5
        have P6 := Lib.hid p6
        have P7 := Lib.hid p7
        have P8 := Lib.hid p8
        have P9 := Lib.hid p9
        have P10 := Lib.hid p10
        have P11 := Lib.hid p11
        have P12 := Lib.hid p12
        have P13 := Lib.hid p13
        have P14 := Lib.hid p14
        have P15 := Lib.hid p15
        have P16 := Lib.hid p16
        have P17 := Lib.hid p17
        have P18 := Lib.hid p18
        have P19 := Lib.hid p19
        have P20 := Lib.hid p20
        have P21 := Lib.hid p21
        have P22 := Lib.hid p22
        have P23 := Lib.hid p23
        have P24 := Lib.hid p24
        have P25 := Lib.hid p25
        have P26 := Lib.hid p26
        have P27 := Lib.hid p27
        have P28 := Lib.hid p28
        have P29 := Lib.hid p29
        have P30 := Lib.hid p30
        have P31 := Lib.hid p31
        have P32 := Lib.hid p32
        have P33 := Lib.hid p33
        have P34 := Lib.hid p34
        have HS := Lib.hid hS
        clear hS hLi hafter p0 p1 p2 p3 p4 p5 p6 p7 p8 p9 p10 p11 p12 p13 p14 p15 p16 p17 p18 p19 p20 p21 p22 p23 p24 p25 p26 p27 p28 p29 p30 p31 p32 p33 p34
        simp only [Act.put, List.setIfInBounds_toArray, List.set_cons_zero, List.set_cons_succ]
        go_wp2_with fail
        exact ⟨u32, u33, u34, u35, u36, u37, u38, u39, u40, .bool false, u42, u43, .pointer (some ⟨w.heap.size, 2, none⟩), .slice ca R cc, u46, u47, u48, u49, u50, u51, u52, u53, u54, u55, u56, u57, u58, u59, u60, u61, u62, u63, u64, u65, u66, by simp only [Act.put, List.setIfInBounds_toArray, List.set_cons_zero, List.set_cons_succ], HS.out, (fun h => by first | rfl | exact P0.out (by simpa using h)), (fun h => by first | rfl | exact P1.out (by simpa using h)), (fun h => by first | rfl | exact P2.out (by simpa using h)), (fun h => by first | rfl | exact P3.out (by simpa using h)), (fun h => by first | rfl | exact P4.out (by simpa using h)), (fun h => by first | rfl | exact P5.out (by simpa using h)), (fun h => by first | rfl | exact P6.out (by simpa using h)), (fun h => by first | rfl | exact P7.out (by simpa using h)), (fun h => by first | rfl | exact P8.out (by simpa using h)), (fun h => by first | rfl | exact P9.out (by simpa using h)), (fun h => by first | rfl | exact P10.out (by simpa using h)), (fun h => by first | rfl | exact P11.out (by simpa using h)), (fun h => by first | rfl | exact P12.out (by simpa using h)), (fun _ => rfl), (fun h => by first | rfl | exact P14.out (by simpa using h)), (fun h => by first | rfl | exact P15.out (by simpa using h)), (fun h => by first | rfl | exact P16.out (by simpa using h)), (fun h => by first | rfl | exact P17.out (by simpa using h)), (fun h => by first | rfl | exact P18.out (by simpa using h)), (fun h => by first | rfl | exact P19.out (by simpa using h)), (fun h => by first | rfl | exact P20.out (by simpa using h)), (fun h => by first | rfl | exact P21.out (by simpa using h)), (fun h => P22.out (by simpa using h)), (fun h => by first | rfl | exact P23.out (by simpa using h)), (fun h => by first | rfl | exact P24.out (by simpa using h)), (fun h => by first | rfl | exact P25.out (by simpa using h)), (fun h => by first | rfl | exact P26.out (by simpa using h)), (fun h => by first | rfl | exact P27.out (by simpa using h)), (fun h => by first | rfl | exact P28.out (by simpa using h)), (fun h => by first | rfl | exact P29.out (by simpa using h)), (fun h => by first | rfl | exact P30.out (by simpa using h)), (fun h => by first | rfl | exact P31.out (by simpa using h)), (fun h => by first | rfl | exact P32.out (by simpa using h)), (fun h => by first | rfl | exact P33.out (by simpa using h)), (fun h => by first | rfl | exact P34.out (by simpa using h))⟩
      · simp only [List.getElem?_toArray, List.getElem?_cons_zero, List.getElem?_cons_succ, Option.some.injEq] at ho
        subst ho
        obtain rfl := p13 (hafter ⟨13, .data⟩ (by simp) rfl)
        obtain rfl := p9 (hafter ⟨9, .guard⟩ (by simp) rfl)
        have P0 := Lib.hid p0
        have P1 := Lib.hid p1
        have P2 := Lib.hid p2
        have P3 := Lib.hid p3
        have P4 := Lib.hid p4
        have P5 := Lib.hid p5
        have P6 := Lib.hid p6
        have P7 := Lib.hid p7
        have P8 := Lib.hid p8
        have P9 := Lib.hid p9
        have P10 := Lib.hid p10
        have P11 := Lib.hid p11
        have P12 := Lib.hid p12
        have P13 := Lib.hid p13
        have P14 := Lib.hid p14
        have P15 := Lib.hid p15
        have P16 := Lib.hid p16
        have P17 := Lib.hid p17
        have P18 := Lib.hid p18
        have P19 := Lib.hid p19
        have P20 := Lib.hid p20
        have P21 := Lib.hid p21
        have P22 := Lib.hid p22
        have P23 := Lib.hid p23
        have P24 := Lib.hid p24
        have P25 := Lib.hid p25
        have P26 := Lib.hid p26
        have P27 := Lib.hid p27
        have P28 := Lib.hid p28
        have P29 := Lib.hid p29
        have P30 := Lib.hid p30
        have P31 := Lib.hid p31
        have P32 := Lib.hid p32
        have P33 := Lib.hid p33
        have P34 := Lib.hid p34
        have HS := Lib.hid hS
        clear hS hLi hafter p0 p1 p2 p3 p4 p5 p6 p7 p8 p9 p10 p11 p12 p13 p14 p15 p16 p17 p18 p19 p20 p21 p22 p23 p24 p25 p26 p27 p28 p29 p30 p31 p32 p33 p34
        simp only [Act.put, List.setIfInBounds_toArray, List.set_cons_zero, List.set_cons_succ]
        go_wp2_with fail
        exact ⟨u32, u33, u34, u35, u36, u37, u38, u39, u40, .bool false, u42, u43, u44, .slice ca R cc, .int .i64 ((R : Nat) : Int), u47, u48, u49, u50, u51, u52, u53, u54, u55, u56, u57, u58, u59, u60, u61, u62, u63, u64, u65, u66, by simp only [Act.put, List.setIfInBounds_toArray, List.set_cons_zero, List.set_cons_succ], HS.out, (fun h => by first | rfl | exact P0.out (by simpa using h)), (fun h => by first | rfl | exact P1.out (by simpa using h)), (fun h => by first | rfl | exact P2.out (by simpa using h)), (fun h => by first | rfl | exact P3.out (by simpa using h)), (fun h => by first | rfl | exact P4.out (by simpa using h)), (fun h => by first | rfl | exact P5.out (by simpa using h)), (fun h => by first | rfl | exact P6.out (by simpa using h)), (fun h => by first | rfl | exact P7.out (by simpa using h)), (fun h => by first | rfl | exact P8.out (by simpa using h)), (fun h => by first | rfl | exact P9.out (by simpa using h)), (fun h => by first | rfl | exact P10.out (by simpa using h)), (fun h => by first | rfl | exact P11.out (by simpa using h)), (fun h => by first | rfl | exact P12.out (by simpa using h)), (fun h => by first | rfl | exact P13.out (by simpa using h)), (fun _ => rfl), (fun h => by first | rfl | exact P15.out (by simpa using h)), (fun h => by first | rfl | exact P16.out (by simpa using h)), (fun h => by first | rfl | exact P17.out (by simpa using h)), (fun h => by first | rfl | exact P18.out (by simpa using h)), (fun h => by first | rfl | exact P19.out (by simpa using h)), (fun h => by first | rfl | exact P20.out (by simpa using h)), (fun h => by first | rfl | exact P21.out (by simpa using h)), (fun h => P22.out (by simpa using h)), (fun h => by first | rfl | exact P23.out (by simpa using h)), (fun h => by first | rfl | exact P24.out (by simpa using h)), (fun h => by first | rfl | exact P25.out (by simpa using h)), (fun h => by first | rfl | exact P26.out (by simpa using h)), (fun h => by first | rfl | exact P27.out (by simpa using h)), (fun h => by first | rfl | exact P28.out (by simpa using h)), (fun h => by first | rfl | exact P29.out (by simpa using h)), (fun h => by first | rfl | exact P30.out (by simpa using h)), (fun h => by first | rfl | exact P31.out (by simpa using h)), (fun h => by first | rfl | exact P32.out (by simpa using h)), (fun h => by first | rfl | exact P33.out (by simpa using h)), (fun h => by first | rfl | exact P34.out (by simpa using h))⟩
      · simp only [List.getElem?_toArray, List.getElem?_cons_zero, List.getElem?_cons_succ, Option.some.injEq] at ho
        subst ho
        obtain rfl := p11 (hafter ⟨11, .data⟩ (by simp) rfl)
        obtain rfl := p14 (hafter ⟨14, .data⟩ (by simp) rfl)
        obtain rfl := p9 (hafter ⟨9, .guard⟩ (by simp) rfl)
        have P0 := Lib.hid p0
        have P1 := Lib.hid p1
        have P2 := Lib.hid p2
        have P3 := Lib.hid p3
        have P4 := Lib.hid p4
        have P5 := Lib.hid p5
        have P6 := Lib.hid p6
        have P7 := Lib.hid p7
        have P8 := Lib.hid p8
        have P9 := Lib.hid p9
        have P10 := Lib.hid p10
        have P11 := Lib.hid p11
        have P12 := Lib.hid p12
        have P13 := Lib.hid p13
        have P14 := Lib.hid p14
        have P15 := Lib.hid p15
        have P16 := Lib.hid p16
        have P17 := Lib.hid p17
        have P18 := Lib.hid p18
        have P19 := Lib.hid p19
        have P20 := Lib.hid p20
        have P21 := Lib.hid p21
        have P22 := Lib.hid p22
        have P23 := Lib.hid p23
        have P24 := Lib.hid p24
        have P25 := Lib.hid p25
        have P26 := Lib.hid p26
        have P27 := Lib.hid p27
        have P28 := Lib.hid p28
        have P29 := Lib.hid p29
        have P30 := Lib.hid p30
        have P31 := Lib.hid p31
        have P32 := Lib.hid p32
        have P33 := Lib.hid p33
        have P34 := Lib.hid p34
        have HS := Lib.hid hS
        clear hS hLi hafter p0 p1 p2 p3 p4 p5 p6 p7 p8 p9 p10 p11 p12 p13 p14 p15 p16 p17 p18 p19 p20 p21 p22 p23 p24 p25 p26 p27 p28 p29 p30 p31 p32 p33 p34
        simp only [Act.put, List.setIfInBounds_toArray, List.set_cons_zero, List.set_cons_succ]
        go_wp2_with fail
        exact ⟨u32, u33, u34, u35, u36, u37, u38, u39, u40, .bool false, u42, .int .i64 ((R : Nat) : Int), u44, u45, .int .i64 ((R : Nat) : Int), .bool false, u48, u49, u50, u51, u52, u53, u54, u55, u56, u57, u58, u59, u60, u61, u62, u63, u64, u65, u66, by simp only [Act.put, List.setIfInBounds_toArray, List.set_cons_zero, List.set_cons_succ], HS.out, (fun h => by first | rfl | exact P0.out (by simpa using h)), (fun h => by first | rfl | exact P1.out (by simpa using h)), (fun h => by first | rfl | exact P2.out (by simpa using h)), (fun h => by first | rfl | exact P3.out (by simpa using h)), (fun h => by first | rfl | exact P4.out (by simpa using h)), (fun h => by first | rfl | exact P5.out (by simpa using h)), (fun h => by first | rfl | exact P6.out (by simpa using h)), (fun h => by first | rfl | exact P7.out (by simpa using h)), (fun h => by first | rfl | exact P8.out (by simpa using h)), (fun h => by first | rfl | exact P9.out (by simpa using h)), (fun h => by first | rfl | exact P10.out (by simpa using h)), (fun h => by first | rfl | exact P11.out (by simpa using h)), (fun h => by first | rfl | exact P12.out (by simpa using h)), (fun h => by first | rfl | exact P13.out (by simpa using h)), (fun h => by first | rfl | exact P14.out (by simpa using h)), (fun _ => rfl), (fun h => by first | rfl | exact P16.out (by simpa using h)), (fun h => by first | rfl | exact P17.out (by simpa using h)), (fun h => by first | rfl | exact P18.out (by simpa using h)), (fun h => by first | rfl | exact P19.out (by simpa using h)), (fun h => by first | rfl | exact P20.out (by simpa using h)), (fun h => by first | rfl | exact P21.out (by simpa using h)), (fun h => P22.out (by simpa using h)), (fun h => by first | rfl | exact P23.out (by simpa using h)), (fun h => by first | rfl | exact P24.out (by simpa using h)), (fun h => by first | rfl | exact P25.out (by simpa using h)), (fun h => by first | rfl | exact P26.out (by simpa using h)), (fun h => by first | rfl | exact P27.out (by simpa using h)), (fun h => by first | rfl | exact P28.out (by simpa using h)), (fun h => by first | rfl | exact P29.out (by simpa using h)), (fun h => by first | rfl | exact P30.out (by simpa using h)), (fun h => by first | rfl | exact P31.out (by simpa using h)), (fun h => by first | rfl | exact P32.out (by simpa using h)), (fun h => by first | rfl | exact P33.out (by simpa using h)), (fun h => by first | rfl | exact P34.out (by simpa using h))⟩
      · simp only [List.getElem?_toArray, List.getElem?_cons_zero, List.getElem?_cons_succ, Option.some.injEq] at ho
        subst ho
        obtain rfl := p9 (hafter ⟨9, .data⟩ (by simp) rfl)
        obtain rfl := p15 (hafter ⟨15, .data⟩ (by simp) rfl)
        have P0 := Lib.hid p0
        have P1 := Lib.hid p1
        have P2 := Lib.hid p2
        have P3 := Lib.hid p3
        have P4 := Lib.hid p4
        have P5 := Lib.hid p5
        have P6 := Lib.hid p6
        have P7 := Lib.hid p7
        have P8 := Lib.hid p8
        have P9 := Lib.hid p9
        have P10 := Lib.hid p10
        have P11 := Lib.hid p11
        have P12 := Lib.hid p12
        have P13 := Lib.hid p13
        have P14 := Lib.hid p14
        have P15 := Lib.hid p15
        have P16 := Lib.hid p16
        have P17 := Lib.hid p17
        have P18 := Lib.hid p18
        have P19 := Lib.hid p19
        have P20 := Lib.hid p20
        have P21 := Lib.hid p21
        have P22 := Lib.hid p22
        have P23 := Lib.hid p23
        have P24 := Lib.hid p24
        have P25 := Lib.hid p25
        have P26 := Lib.hid p26
        have P27 := Lib.hid p27
        have P28 := Lib.hid p28
        have P29 := Lib.hid p29
        have P30 := Lib.hid p30
        have P31 := Lib.hid p31
        have P32 := Lib.hid p32
        have P33 := Lib.hid p33
        have P34 := Lib.hid p34
        have HS := Lib.hid hS
        clear hS hLi hafter p0 p1 p2 p3 p4 p5 p6 p7 p8 p9 p10 p11 p12 p13 p14 p15 p16 p17 p18 p19 p20 p21 p22 p23 p24 p25 p26 p27 p28 p29 p30 p31 p32 p33 p34
        simp only [Act.put, List.setIfInBounds_toArray, List.set_cons_zero, List.set_cons_succ]
        go_wp2_with fail
        exact ⟨u32, u33, u34, u35, u36, u37, u38, u39, u40, .bool false, u42, u43, u44, u45, u46, .bool false, .bool false, u49, u50, u51, u52, u53, u54, u55, u56, u57, u58, u59, u60, u61, u62, u63, u64, u65, u66, by simp only [Act.put, List.setIfInBounds_toArray, List.set_cons_zero, List.set_cons_succ], HS.out, (fun h => by first | rfl | exact P0.out (by simpa using h)), (fun h => by first | rfl | exact P1.out (by simpa using h)), (fun h => by first | rfl | exact P2.out (by simpa using h)), (fun h => by first | rfl | exact P3.out (by simpa using h)), (fun h => by first | rfl | exact P4.out (by simpa using h)), (fun h => by first | rfl | exact P5.out (by simpa using h)), (fun h => by first | rfl | exact P6.out (by simpa using h)), (fun h => by first | rfl | exact P7.out (by simpa using h)), (fun h => by first | rfl | exact P8.out (by simpa using h)), (fun h => by first | rfl | exact P9.out (by simpa using h)), (fun h => by first | rfl | exact P10.out (by simpa using h)), (fun h => by first | rfl | exact P11.out (by simpa using h)), (fun h => by first | rfl | exact P12.out (by simpa using h)), (fun h => by first | rfl | exact P13.out (by simpa using h)), (fun h => by first | rfl | exact P14.out (by simpa using h)), (fun h => by first | rfl | exact P15.out (by simpa using h)), (fun _ => rfl), (fun h => by first | rfl | exact P17.out (by simpa using h)), (fun h => by first | rfl | exact P18.out (by simpa using h)), (fun h => by first | rfl | exact P19.out (by simpa using h)), (fun h => by first | rfl | exact P20.out (by simpa using h)), (fun h => by first | rfl | exact P21.out (by simpa using h)), (fun h => P22.out (by simpa using h)), (fun h => by first | rfl | exact P23.out (by simpa using h)), (fun h => by first | rfl | exact P24.out (by simpa using h)), (fun h => by first | rfl | exact P25.out (by simpa using h)), (fun h => by first | rfl | exact P26.out (by simpa using h)), (fun h => by first | rfl | exact P27.out (by simpa using h)), (fun h => by first | rfl | exact P28.out (by simpa using h)), (fun h => by first | rfl | exact P29.out (by simpa using h)), (fun h => by first | rfl | exact P30.out (by simpa using h)), (fun h => by first | rfl | exact P31.out (by simpa using h)), (fun h => by first | rfl | exact P32.out (by simpa using h)), (fun h => by first | rfl | exact P33.out (by simpa using h)), (fun h => by first | rfl | exact P34.out (by simpa using h))⟩
      · simp only [List.getElem?_toArray, List.getElem?_cons_zero, List.getElem?_cons_succ, Option.some.injEq] at ho
        subst ho
        obtain rfl := p16 (hafter ⟨16, .data⟩ (by simp) rfl)
        have P0 := Lib.hid p0
        have P1 := Lib.hid p1
        have P2 := Lib.hid p2
        have P3 := Lib.hid p3
        have P4 := Lib.hid p4
        have P5 := Lib.hid p5
        have P6 := Lib.hid p6
        have P7 := Lib.hid p7
        have P8 := Lib.hid p8
        have P9 := Lib.hid p9
        have P10 := Lib.hid p10
        have P11 := Lib.hid p11
        have P12 := Lib.hid p12
        have P13 := Lib.hid p13
        have P14 := Lib.hid p14
        have P15 := Lib.hid p15
        have P16 := Lib.hid p16
        have P17 := Lib.hid p17
        have P18 := Lib.hid p18
        have P19 := Lib.hid p19
        have P20 := Lib.hid p20
        have P21 := Lib.hid p21
        have P22 := Lib.hid p22
        have P23 := Lib.hid p23
        have P24 := Lib.hid p24
        have P25 := Lib.hid p25
        have P26 := Lib.hid p26
        have P27 := Lib.hid p27
        have P28 := Lib.hid p28
        have P29 := Lib.hid p29
        have P30 := Lib.hid p30
        have P31 := Lib.hid p31
        have P32 := Lib.hid p32
        have P33 := Lib.hid p33
        have P34 := Lib.hid p34
        have HS := Lib.hid hS
        clear hS hLi hafter p0 p1 p2 p3 p4 p5 p6 p7 p8 p9 p10 p11 p12 p13 p14 p15 p16 p17 p18 p19 p20 p21 p22 p23 p24 p25 p26 p27 p28 p29 p30 p31 p32 p33 p34
        simp only [Act.put, List.setIfInBounds_toArray, List.set_cons_zero, List.set_cons_succ]
        go_wp2_with fail
        exact ⟨u32, u33, u34, u35, u36, u37, u38, u39, u40, u41, u42, u43, u44, u45, u46, u47, .bool false, .bool false, u50, u51, u52, u53, u54, u55, u56, u57, u58, u59, u60, u61, u62, u63, u64, u65, u66, by simp only [Act.put, List.setIfInBounds_toArray, List.set_cons_zero, List.set_cons_succ], HS.out, (fun h => by first | rfl | exact P0.out (by simpa using h)), (fun h => by first | rfl | exact P1.out (by simpa using h)), (fun h => by first | rfl | exact P2.out (by simpa using h)), (fun h => by first | rfl | exact P3.out (by simpa using h)), (fun h => by first | rfl | exact P4.out (by simpa using h)), (fun h => by first | rfl | exact P5.out (by simpa using h)), (fun h => by first | rfl | exact P6.out (by simpa using h)), (fun h => by first | rfl | exact P7.out (by simpa using h)), (fun h => by first | rfl | exact P8.out (by simpa using h)), (fun h => by first | rfl | exact P9.out (by simpa using h)), (fun h => by first | rfl | exact P10.out (by simpa using h)), (fun h => by first | rfl | exact P11.out (by simpa using h)), (fun h => by first | rfl | exact P12.out (by simpa using h)), (fun h => by first | rfl | exact P13.out (by simpa using h)), (fun h => by first | rfl | exact P14.out (by simpa using h)), (fun h => by first | rfl | exact P15.out (by simpa using h)), (fun h => by first | rfl | exact P16.out (by simpa using h)), (fun _ => rfl), (fun h => by first | rfl | exact P18.out (by simpa using h)), (fun h => by first | rfl | exact P19.out (by simpa using h)), (fun h => by first | rfl | exact P20.out (by simpa using h)), (fun h => by first | rfl | exact P21.out (by simpa using h)), (fun h => P22.out (by simpa using h)), (fun h => by first | rfl | exact P23.out (by simpa using h)), (fun h => by first | rfl | exact P24.out (by simpa using h)), (fun h => by first | rfl | exact P25.out (by simpa using h)), (fun h => by first | rfl | exact P26.out (by simpa using h)), (fun h => by first | rfl | exact P27.out (by simpa using h)), (fun h => by first | rfl | exact P28.out (by simpa using h)), (fun h => by first | rfl | exact P29.out (by simpa using h)), (fun h => by first | rfl | exact P30.out (by simpa using h)), (fun h => by first | rfl | exact P31.out (by simpa using h)), (fun h => by first | rfl | exact P32.out (by simpa using h)), (fun h => by first | rfl | exact P33.out (by simpa using h)), (fun h => by first | rfl | exact P34.out (by simpa using h))⟩
      · simp only [List.getElem?_toArray, List.getElem?_cons_zero, List.getElem?_cons_succ, Option.some.injEq] at ho
        subst ho
        obtain rfl := p17 (hafter ⟨17, .guard⟩ (by simp) rfl)
        have c0 := (hS.1.cell (p := ⟨w.heap.size, 0, none⟩) hl_M).trans k_M_0
        have c1 := (hS.1.cell (p := ⟨w.heap.size, 1, none⟩) hl_M).trans k_M_1
        have c2 := (hS.1.cell (p := ⟨w.heap.size, 2, none⟩) hl_M).trans k_M_2
        have P0 := Lib.hid p0
        have P1 := Lib.hid p1
        have P2 := Lib.hid p2
        have P3 := Lib.hid p3
        have P4 := Lib.hid p4
        have P5 := Lib.hid p5
        have P6 := Lib.hid p6
        have P7 := Lib.hid p7
        have P8 := Lib.hid p8
        have P9 := Lib.hid p9
        have P10 := Lib.hid p10
        have P11 := Lib.hid p11
        have P12 := Lib.hid p12
        have P13 := Lib.hid p13
        have P14 := Lib.hid p14
        have P15 := Lib.hid p15
        have P16 := Lib.hid p16
        have P17 := Lib.hid p17
        have P18 := Lib.hid p18
        have P19 := Lib.hid p19
        have P20 := Lib.hid p20
        have P21 := Lib.hid p21
        have P22 := Lib.hid p22
        have P23 := Lib.hid p23
        have P24 := Lib.hid p24
        have P25 := Lib.hid p25
        have P26 := Lib.hid p26
        have P27 := Lib.hid p27
        have P28 := Lib.hid p28
        have P29 := Lib.hid p29
        have P30 := Lib.hid p30
        have P31 := Lib.hid p31
        have P32 := Lib.hid p32
        have P33 := Lib.hid p33
        have P34 := Lib.hid p34
        have HS := Lib.hid hS
        clear hS hLi hafter p0 p1 p2 p3 p4 p5 p6 p7 p8 p9 p10 p11 p12 p13 p14 p15 p16 p17 p18 p19 p20 p21 p22 p23 p24 p25 p26 p27 p28 p29 p30 p31 p32 p33 p34
        simp only [Act.put, List.setIfInBounds_toArray, List.set_cons_zero, List.set_cons_succ]
        go_wp2_with fail
        exact ⟨u32, u33, u34, u35, u36, u37, u38, u39, u40, u41, u42, u43, u44, u45, u46, u47, u48, .bool false, .agg #[.slice pa R pc, .slice ia I ic, .slice ca R cc], u51, u52, u53, u54, u55, u56, u57, u58, u59, u60, u61, u62, u63, u64, u65, u66, by simp only [Act.put, List.setIfInBounds_toArray, List.set_cons_zero, List.set_cons_succ], HS.out, (fun h => by first | rfl | exact P0.out (by simpa using h)), (fun h => by first | rfl | exact P1.out (by simpa using h)), (fun h => by first | rfl | exact P2.out (by simpa using h)), (fun h => by first | rfl | exact P3.out (by simpa using h)), (fun h => by first | rfl | exact P4.out (by simpa using h)), (fun h => by first | rfl | exact P5.out (by simpa using h)), (fun h => by first | rfl | exact P6.out (by simpa using h)), (fun h => by first | rfl | exact P7.out (by simpa using h)), (fun h => by first | rfl | exact P8.out (by simpa using h)), (fun h => by first | rfl | exact P9.out (by simpa using h)), (fun h => by first | rfl | exact P10.out (by simpa using h)), (fun h => by first | rfl | exact P11.out (by simpa using h)), (fun h => by first | rfl | exact P12.out (by simpa using h)), (fun h => by first | rfl | exact P13.out (by simpa using h)), (fun h => by first | rfl | exact P14.out (by simpa using h)), (fun h => by first | rfl | exact P15.out (by simpa using h)), (fun h => by first | rfl | exact P16.out (by simpa using h)), (fun h => by first | rfl | exact P17.out (by simpa using h)), (fun _ => rfl), (fun h => by first | rfl | exact P19.out (by simpa using h)), (fun h => by first | rfl | exact P20.out (by simpa using h)), (fun h => by first | rfl | exact P21.out (by simpa using h)), (fun h => P22.out (by simpa using h)), (fun h => by first | rfl | exact P23.out (by simpa using h)), (fun h => by first | rfl | exact P24.out (by simpa using h)), (fun h => by first | rfl | exact P25.out (by simpa using h)), (fun h => by first | rfl | exact P26.out (by simpa using h)), (fun h => by first | rfl | exact P27.out (by simpa using h)), (fun h => by first | rfl | exact P28.out (by simpa using h)), (fun h => by first | rfl | exact P29.out (by simpa using h)), (fun h => by first | rfl | exact P30.out (by simpa using h)), (fun h => by first | rfl | exact P31.out (by simpa using h)), (fun h => by first | rfl | exact P32.out (by simpa using h)), (fun h => by first | rfl | exact P33.out (by simpa using h)), (fun h => by first | rfl | exact P34.out (by simpa using h))⟩
      · simp only [List.getElem?_toArray, List.getElem?_cons_zero, List.getElem?_cons_succ, Option.some.injEq] at ho
        subst ho
        obtain rfl := p17 (hafter ⟨17, .guard⟩ (by simp) rfl)
        have P0 := Lib.hid p0
        have P1 := Lib.hid p1
        have P2 := Lib.hid p2
        have P3 := Lib.hid p3
        have P4 := Lib.hid p4
        have P5 := Lib.hid p5
        have P6 := Lib.hid p6
        have P7 := Lib.hid p7
        have P8 := Lib.hid p8
        have P9 := Lib.hid p9
        have P10 := Lib.hid p10
        have P11 := Lib.hid p11
        have P12 := Lib.hid p12
        have P13 := Lib.hid p13
        have P14 := Lib.hid p14
        have P15 := Lib.hid p15
        have P16 := Lib.hid p16
        have P17 := Lib.hid p17
        have P18 := Lib.hid p18
        have P19 := Lib.hid p19
        have P20 := Lib.hid p20
        have P21 := Lib.hid p21
        have P22 := Lib.hid p22
        have P23 := Lib.hid p23
        have P24 := Lib.hid p24
        have P25 := Lib.hid p25
        have P26 := Lib.hid p26
        have P27 := Lib.hid p27
        have P28 := Lib.hid p28
        have P29 := Lib.hid p29
        have P30 := Lib.hid p30
        have P31 := Lib.hid p31
        have P32 := Lib.hid p32
        have P33 := Lib.hid p33
        have P34 := Lib.hid p34
        have HS := Lib.hid hS
        clear hS hLi hafter p0 p1 p2 p3 p4 p5 p6 p7 p8 p9 p10 p11 p12 p13 p14 p15 p16 p17 p18 p19 p20 p21 p22 p23 p24 p25 p26 p27 p28 p29 p30 p31 p32 p33 p34
        simp only [Act.put, List.setIfInBounds_toArray, List.set_cons_zero, List.set_cons_succ]
        go_wp2_with fail
        exact ⟨u32, u33, u34, u35, u36, u37, u38, u39, u40, u41, u42, u43, u44, u45, u46, u47, u48, .bool false, u50, .pointer (some ⟨w.heap.size, 1, none⟩), u52, u53, u54, u55, u56, u57, u58, u59, u60, u61, u62, u63, u64, u65, u66, by simp only [Act.put, List.setIfInBounds_toArray, List.set_cons_zero, List.set_cons_succ], HS.out, (fun h => by first | rfl | exact P0.out (by simpa using h)), (fun h => by first | rfl | exact P1.out (by simpa using h)), (fun h => by first | rfl | exact P2.out (by simpa using h)), (fun h => by first | rfl | exact P3.out (by simpa using h)), (fun h => by first | rfl | exact P4.out (by simpa using h)), (fun h => by first | rfl | exact P5.out (by simpa using h)), (fun h => by first | rfl | exact P6.out (by simpa using h)), (fun h => by first | rfl | exact P7.out (by simpa using h)), (fun h => by first | rfl | exact P8.out (by simpa using h)), (fun h => by first | rfl | exact P9.out (by simpa using h)), (fun h => by first | rfl | exact P10.out (by simpa using h)), (fun h => by first | rfl | exact P11.out (by simpa using h)), (fun h => by first | rfl | exact P12.out (by simpa using h)), (fun h => by first | rfl | exact P13.out (by simpa using h)), (fun h => by first | rfl | exact P14.out (by simpa using h)), (fun h => by first | rfl | exact P15.out (by simpa using h)), (fun h => by first | rfl | exact P16.out (by simpa using h)), (fun h => by first | rfl | exact P17.out (by simpa using h)), (fun h => by first | rfl | exact P18.out (by simpa using h)), (fun _ => rfl), (fun h => by first | rfl | exact P20.out (by simpa using h)), (fun h => by first | rfl | exact P21.out (by simpa using h)), (fun h => P22.out (by simpa using h)), (fun h => by first | rfl | exact P23.out (by simpa using h)), (fun h => by first | rfl | exact P24.out (by simpa using h)), (fun h => by first | rfl | exact P25.out (by simpa using h)), (fun h => by first | rfl | exact P26.out (by simpa using h)), (fun h => by first | rfl | exact P27.out (by simpa using h)), (fun h => by first | rfl | exact P28.out (by simpa using h)), (fun h => by first | rfl | exact P29.out (by simpa using h)), (fun h => by first | rfl | exact P30.out (by simpa using h)), (fun h => by first | rfl | exact P31.out (by simpa using h)), (fun h => by first | rfl | exact P32.out (by simpa using h)), (fun h => by first | rfl | exact P33.out (by simpa using h)), (fun h => by first | rfl | exact P34.out (by simpa using h))⟩
      · simp only [List.getElem?_toArray, List.getElem?_cons_zero, List.getElem?_cons_succ, Option.some.injEq] at ho
        subst ho
        obtain rfl := p19 (hafter ⟨19, .data⟩ (by simp) rfl)
        obtain rfl := p17 (hafter ⟨17, .guard⟩ (by simp) rfl)
        have c1 := (hS.1.cell (p := ⟨w.heap.size, 1, none⟩) hl_M).trans k_M_1
        have P0 := Lib.hid p0
        have P1 := Lib.hid p1
        have P2 := Lib.hid p2
        have P3 := Lib.hid p3
        have P4 := Lib.hid p4
        have P5 := Lib.hid p5
        have P6 := Lib.hid p6
        have P7 := Lib.hid p7
        have P8 := Lib.hid p8
        have P9 := Lib.hid p9
        have P10 := Lib.hid p10
        have P11 := Lib.hid p11
        have P12 := Lib.hid p12
        have P13 := Lib.hid p13
        have P14 := Lib.hid p14
        have P15 := Lib.hid p15
        have P16 := Lib.hid p16
        have P17 := Lib.hid p17
        have P18 := Lib.hid p18
        have P19 := Lib.hid p19
        have P20 := Lib.hid p20
        have P21 := Lib.hid p21
        have P22 := Lib.hid p22
        have P23 := Lib.hid p23
        have P24 := Lib.hid p24
        have P25 := Lib.hid p25
        have P26 := Lib.hid p26
        have P27 := Lib.hid p27
        have P28 := Lib.hid p28
        have P29 := Lib.hid p29
        have P30 := Lib.hid p30
        have P31 := Lib.hid p31
        have P32 := Lib.hid p32
        have P33 := Lib.hid p33
        have P34 := Lib.hid p34
        have HS := Lib.hid hS
        clear hS hLi hafter p0 p1 p2 p3 p4 p5 p6 p7 p8 p9 p10 p11 p12 p13 p14 p15 p16 p17 p18 p19 p20 p21 p22 p23 p24 p25 p26 p27 p28 p29 p30 p31 p32 p33 p34
        simp only [Act.put, List.setIfInBounds_toArray, List.set_cons_zero, List.set_cons_succ]
        go_wp2_with fail
        exact ⟨u32, u33, u34, u35, u36, u37, u38, u39, u40, u41, u42, u43, u44, u45, u46, u47, u48, .bool false, u50, .pointer (some ⟨w.heap.size, 1, none⟩), .slice ia I ic, u53, u54, u55, u56, u57, u58, u59, u60, u61, u62, u63, u64, u65, u66, by simp only [Act.put, List.setIfInBounds_toArray, List.set_cons_zero, List.set_cons_succ], HS.out, (fun h => by first | rfl | exact P0.out (by simpa using h)), (fun h => by first | rfl | exact P1.out (by simpa using h)), (fun h => by first | rfl | exact P2.out (by simpa using h)), (fun h => by first | rfl | exact P3.out (by simpa using h)), (fun h => by first | rfl | exact P4.out (by simpa using h)), (fun h => by first | rfl | exact P5.out (by simpa using h)), (fun h => by first | rfl | exact P6.out (by simpa using h)), (fun h => by first | rfl | exact P7.out (by simpa using h)), (fun h => by first | rfl | exact P8.out (by simpa using h)), (fun h => by first | rfl | exact P9.out (by simpa using h)), (fun h => by first | rfl | exact P10.out (by simpa using h)), (fun h => by first | rfl | exact P11.out (by simpa using h)), (fun h => by first | rfl | exact P12.out (by simpa using h)), (fun h => by first | rfl | exact P13.out (by simpa using h)), (fun h => by first | rfl | exact P14.out (by simpa using h)), (fun h => by first | rfl | exact P15.out (by simpa using h)), (fun h => by first | rfl | exact P16.out (by simpa using h)), (fun h => by first | rfl | exact P17.out (by simpa using h)), (fun h => by first | rfl | exact P18.out (by simpa using h)), (fun h => by first | rfl | exact P19.out (by simpa using h)), (fun _ => rfl), (fun h => by first | rfl | exact P21.out (by simpa using h)), (fun h => P22.out (by simpa using h)), (fun h => by first | rfl | exact P23.out (by simpa using h)), (fun h => by first | rfl | exact P24.out (by simpa using h)), (fun h => by first | rfl | exact P25.out (by simpa using h)), (fun h => by first | rfl | exact P26.out (by simpa using h)), (fun h => by first | rfl | exact P27.out (by simpa using h)), (fun h => by first | rfl | exact P28.out (by simpa using h)), (fun h => by first | rfl | exact P29.out (by simpa using h)), (fun h => by first | rfl | exact P30.out (by simpa using h)), (fun h => by first | rfl | exact P31.out (by simpa using h)), (fun h => by first | rfl | exact P32.out (by simpa using h)), (fun h => by first | rfl | exact P33.out (by simpa using h)), (fun h => by first | rfl | exact P34.out (by simpa using h))⟩
      · simp only [List.getElem?_toArray, List.getElem?_cons_zero, List.getElem?_cons_succ, Option.some.injEq] at ho
        subst ho
        obtain rfl := p20 (hafter ⟨20, .data⟩ (by simp) rfl)
        obtain rfl := p17 (hafter ⟨17, .guard⟩ (by simp) rfl)
        have P0 := Lib.hid p0
        have P1 := Lib.hid p1
        have P2 := Lib.hid p2
        have P3 := Lib.hid p3
        have P4 := Lib.hid p4
        have P5 := Lib.hid p5
        have P6 := Lib.hid p6
        have P7 := Lib.hid p7
        have P8 := Lib.hid p8
        have P9 := Lib.hid p9
        have P10 := Lib.hid p10
        have P11 := Lib.hid p11
        have P12 := Lib.hid p12
        have P13 := Lib.hid p13
        have P14 := Lib.hid p14
        have P15 := Lib.hid p15
        have P16 := Lib.hid p16
        have P17 := Lib.hid p17
        have P18 := Lib.hid p18
        have P19 := Lib.hid p19
        have P20 := Lib.hid p20
        have P21 := Lib.hid p21
        have P22 := Lib.hid p22
        have P23 := Lib.hid p23
        have P24 := Lib.hid p24
        have P25 := Lib.hid p25
        have P26 := Lib.hid p26
        have P27 := Lib.hid p27
        have P28 := Lib.hid p28
        have P29 := Lib.hid p29
        have P30 := Lib.hid p30
        have P31 := Lib.hid p31
        have P32 := Lib.hid p32
        have P33 := Lib.hid p33
        have P34 := Lib.hid p34
        have HS := Lib.hid hS
        clear hS hLi hafter p0 p1 p2 p3 p4 p5 p6 p7 p8 p9 p10 p11 p12 p13 p14 p15 p16 p17 p18 p19 p20 p21 p22 p23 p24 p25 p26 p27 p28 p29 p30 p31 p32 p33 p34
        simp only [Act.put, List.setIfInBounds_toArray, List.set_cons_zero, List.set_cons_succ]
        go_wp2_with fail
        exact ⟨u32, u33, u34, u35, u36, u37, u38, u39, u40, u41, u42, u43, u44, u45, u46, u47, u48, .bool false, u50, u51, .slice ia I ic, .int .i64 ((I : Nat) : Int), u54, u55, u56, u57, u58, u59, u60, u61, u62, u63, u64, u65, u66, by simp only [Act.put, List.setIfInBounds_toArray, List.set_cons_zero, List.set_cons_succ], HS.out, (fun h => by first | rfl | exact P0.out (by simpa using h)), (fun h => by first | rfl | exact P1.out (by simpa using h)), (fun h => by first | rfl | exact P2.out (by simpa using h)), (fun h => by first | rfl | exact P3.out (by simpa using h)), (fun h => by first | rfl | exact P4.out (by simpa using h)), (fun h => by first | rfl | exact P5.out (by simpa using h)), (fun h => by first | rfl | exact P6.out (by simpa using h)), (fun h => by first | rfl | exact P7.out (by simpa using h)), (fun h => by first | rfl | exact P8.out (by simpa using h)), (fun h => by first | rfl | exact P9.out (by simpa using h)), (fun h => by first | rfl | exact P10.out (by simpa using h)), (fun h => by first | rfl | exact P11.out (by simpa using h)), (fun h => by first | rfl | exact P12.out (by simpa using h)), (fun h => by first | rfl | exact P13.out (by simpa using h)), (fun h => by first | rfl | exact P14.out (by simpa using h)), (fun h => by first | rfl | exact P15.out (by simpa using h)), (fun h => by first | rfl | exact P16.out (by simpa using h)), (fun h => by first | rfl | exact P17.out (by simpa using h)), (fun h => by first | rfl | exact P18.out (by simpa using h)), (fun h => by first | rfl | exact P19.out (by simpa using h)), (fun h => by first | rfl | exact P20.out (by simpa using h)), (fun _ => rfl), (fun h => P22.out (by simpa using h)), (fun h => by first | rfl | exact P23.out (by simpa using h)), (fun h => by first | rfl | exact P24.out (by simpa using h)), (fun h => by first | rfl | exact P25.out (by simpa using h)), (fun h => by first | rfl | exact P26.out (by simpa using h)), (fun h => by first | rfl | exact P27.out (by simpa using h)), (fun h => by first | rfl | exact P28.out (by simpa using h)), (fun h => by first | rfl | exact P29.out (by simpa using h)), (fun h => by first | rfl | exact P30.out (by simpa using h)), (fun h => by first | rfl | exact P31.out (by simpa using h)), (fun h => by first | rfl | exact P32.out (by simpa using h)), (fun h => by first | rfl | exact P33.out (by simpa using h)), (fun h => by first | rfl | exact P34.out (by simpa using h))⟩
      · simp only [List.getElem?_toArray, List.getElem?_cons_zero, List.getElem?_cons_succ, Option.some.injEq] at ho
        subst ho
        obtain rfl := p21 (hafter ⟨21, .data⟩ (by simp) rfl)
        obtain rfl := p17 (hafter ⟨17, .guard⟩ (by simp) rfl)
        have P0 := Lib.hid p0
        have P1 := Lib.hid p1
        have P2 := Lib.hid p2
        have P3 := Lib.hid p3
        have P4 := Lib.hid p4
        have P5 := Lib.hid p5
        have P6 := Lib.hid p6
        have P7 := Lib.hid p7
        have P8 := Lib.hid p8
        have P9 := Lib.hid p9
        have P10 := Lib.hid p10
        have P11 := Lib.hid p11
        have P12 := Lib.hid p12
        have P13 := Lib.hid p13
        have P14 := Lib.hid p14
        have P15 := Lib.hid p15
        have P16 := Lib.hid p16
        have P17 := Lib.hid p17
        have P18 := Lib.hid p18
        have P19 := Lib.hid p19
        have P20 := Lib.hid p20
        have P21 := Lib.hid p21
        have P22 := Lib.hid p22
        have P23 := Lib.hid p23
        have P24 := Lib.hid p24
        have P25 := Lib.hid p25
        have P26 := Lib.hid p26
        have P27 := Lib.hid p27
        have P28 := Lib.hid p28
        have P29 := Lib.hid p29
        have P30 := Lib.hid p30
        have P31 := Lib.hid p31
        have P32 := Lib.hid p32
        have P33 := Lib.hid p33
        have P34 := Lib.hid p34
        have HS := Lib.hid hS
        clear hS hLi hafter p0 p1 p2 p3 p4 p5 p6 p7 p8 p9 p10 p11 p12 p13 p14 p15 p16 p17 p18 p19 p20 p21 p22 p23 p24 p25 p26 p27 p28 p29 p30 p31 p32 p33 p34
        simp only [Act.put, List.setIfInBounds_toArray, List.set_cons_zero, List.set_cons_succ]
        go_wp2_with fail
        refine (twos_any I _ hI60).mono ?_
        rintro e wn ⟨bt, rfl, ht1, ht2, ht, hb⟩
        have HT2 := Lib.hid ht
        have Hb := Lib.hid hb
        clear ht1 ht2 ht hb
        go_wp2_with fail
        exact ⟨u32, u33, u34, u35, u36, u37, u38, u39, u40, u41, u42, u43, u44, u45, u46, u47, u48, .bool false, u50, u51, u52, .int .i64 ((I : Nat) : Int), _, u55, u56, u57, u58, u59, u60, u61, u62, u63, u64, u65, u66, by simp only [Act.put, List.setIfInBounds_toArray, List.set_cons_zero, List.set_cons_succ], HS.out.below Hb.out, (fun h => by first | rfl | exact P0.out (by simpa using h)), (fun h => by first | rfl | exact P1.out (by simpa using h)), (fun h => by first | rfl | exact P2.out (by simpa using h)), (fun h => by first | rfl | exact P3.out (by simpa using h)), (fun h => by first | rfl | exact P4.out (by simpa using h)), (fun h => by first | rfl | exact P5.out (by simpa using h)), (fun h => by first | rfl | exact P6.out (by simpa using h)), (fun h => by first | rfl | exact P7.out (by simpa using h)), (fun h => by first | rfl | exact P8.out (by simpa using h)), (fun h => by first | rfl | exact P9.out (by simpa using h)), (fun h => by first | rfl | exact P10.out (by simpa using h)), (fun h => by first | rfl | exact P11.out (by simpa using h)), (fun h => by first | rfl | exact P12.out (by simpa using h)), (fun h => by first | rfl | exact P13.out (by simpa using h)), (fun h => by first | rfl | exact P14.out (by simpa using h)), (fun h => by first | rfl | exact P15.out (by simpa using h)), (fun h => by first | rfl | exact P16.out (by simpa using h)), (fun h => by first | rfl | exact P17.out (by simpa using h)), (fun h => by first | rfl | exact P18.out (by simpa using h)), (fun h => by first | rfl | exact P19.out (by simpa using h)), (fun h => by first | rfl | exact P20.out (by simpa using h)), (fun h => by first | rfl | exact P21.out (by simpa using h)), (fun _ => ⟨bt, rfl, HT2.out⟩), (fun h => by first | rfl | exact P23.out (by simpa using h)), (fun h => by first | rfl | exact P24.out (by simpa using h)), (fun h => by first | rfl | exact P25.out (by simpa using h)), (fun h => by first | rfl | exact P26.out (by simpa using h)), (fun h => by first | rfl | exact P27.out (by simpa using h)), (fun h => by first | rfl | exact P28.out (by simpa using h)), (fun h => by first | rfl | exact P29.out (by simpa using h)), (fun h => by first | rfl | exact P30.out (by simpa using h)), (fun h => by first | rfl | exact P31.out (by simpa using h)), (fun h => by first | rfl | exact P32.out (by simpa using h)), (fun h => by first | rfl | exact P33.out (by simpa using h)), (fun h => by first | rfl | exact P34.out (by simpa using h))⟩
      · simp only [List.getElem?_toArray, List.getElem?_cons_zero, List.getElem?_cons_succ, Option.some.injEq] at ho
        subst ho
        obtain rfl := p18 (hafter ⟨18, .data⟩ (by simp) rfl)
        have HQ22 := Lib.hid (p22 (hafter ⟨22, .data⟩ (by simp) rfl))
        obtain rfl := p17 (hafter ⟨17, .guard⟩ (by simp) rfl)
        have P0 := Lib.hid p0
        have P1 := Lib.hid p1
        have P2 := Lib.hid p2
        have P3 := Lib.hid p3
        have P4 := Lib.hid p4
        have P5 := Lib.hid p5
        have P6 := Lib.hid p6
        have P7 := Lib.hid p7
        have P8 := Lib.hid p8
        have P9 := Lib.hid p9
        have P10 := Lib.hid p10
        have P11 := Lib.hid p11
        have P12 := Lib.hid p12
        have P13 := Lib.hid p13
        have P14 := Lib.hid p14
        have P15 := Lib.hid p15
        have P16 := Lib.hid p16
        have P17 := Lib.hid p17
        have P18 := Lib.hid p18
        have P19 := Lib.hid p19
        have P20 := Lib.hid p20
        have P21 := Lib.hid p21
        have P22 := Lib.hid p22
        have P23 := Lib.hid p23
        have P24 := Lib.hid p24
        have P25 := Lib.hid p25
        have P26 := Lib.hid p26
        have P27 := Lib.hid p27
        have P28 := Lib.hid p28
        have P29 := Lib.hid p29
        have P30 := Lib.hid p30
        have P31 := Lib.hid p31
        have P32 := Lib.hid p32
        have P33 := Lib.hid p33
        have P34 := Lib.hid p34
        have HS := Lib.hid hS
        clear hS hLi hafter p0 p1 p2 p3 p4 p5 p6 p7 p8 p9 p10 p11 p12 p13 p14 p15 p16 p17 p18 p19 p20 p21 p22 p23 p24 p25 p26 p27 p28 p29 p30 p31 p32 p33 p34
        simp only [Act.put, List.setIfInBounds_toArray, List.set_cons_zero, List.set_cons_succ]
        go_wp2_with fail
        refine (xmxvalid_two _ _ _ _ _ _ _ R _ zp zi _ _ _ z _ (HP.out.below HS.out.1) (HI.out.below HS.out.1) (HC.out.below HS.out.1) _ HQ22.out).mono ?_
        rintro e wn ⟨v, rfl, hv, hb⟩
        obtain rfl := hv.2 HGD.out
        have Hb := Lib.hid hb
        clear hv hb
        go_wp2_with fail
        exact ⟨u32, u33, u34, u35, u36, u37, u38, u39, u40, u41, u42, u43, u44, u45, u46, u47, u48, .bool false, .agg #[.slice pa R pc, .slice ia I ic, .slice ca R cc], u51, u52, u53, _, .int .i64 0, u56, u57, u58, u59, u60, u61, u62, u63, u64, u65, u66, by simp only [Act.put, List.setIfInBounds_toArray, List.set_cons_zero, List.set_cons_succ], HS.out.below Hb.out, (fun h => by first | rfl | exact P0.out (by simpa using h)), (fun h => by first | rfl | exact P1.out (by simpa using h)), (fun h => by first | rfl | exact P2.out (by simpa using h)), (fun h => by first | rfl | exact P3.out (by simpa using h)), (fun h => by first | rfl | exact P4.out (by simpa using h)), (fun h => by first | rfl | exact P5.out (by simpa using h)), (fun h => by first | rfl | exact P6.out (by simpa using h)), (fun h => by first | rfl | exact P7.out (by simpa using h)), (fun h => by first | rfl | exact P8.out (by simpa using h)), (fun h => by first | rfl | exact P9.out (by simpa using h)), (fun h => by first | rfl | exact P10.out (by simpa using h)), (fun h => by first | rfl | exact P11.out (by simpa using h)), (fun h => by first | rfl | exact P12.out (by simpa using h)), (fun h => by first | rfl | exact P13.out (by simpa using h)), (fun h => by first | rfl | exact P14.out (by simpa using h)), (fun h => by first | rfl | exact P15.out (by simpa using h)), (fun h => by first | rfl | exact P16.out (by simpa using h)), (fun h => by first | rfl | exact P17.out (by simpa using h)), (fun h => by first | rfl | exact P18.out (by simpa using h)), (fun h => by first | rfl | exact P19.out (by simpa using h)), (fun h => by first | rfl | exact P20.out (by simpa using h)), (fun h => by first | rfl | exact P21.out (by simpa using h)), (fun h => (P22.out (by simpa using h)).below Hb.out), (fun _ => rfl), (fun h => by first | rfl | exact P24.out (by simpa using h)), (fun h => by first | rfl | exact P25.out (by simpa using h)), (fun h => by first | rfl | exact P26.out (by simpa using h)), (fun h => by first | rfl | exact P27.out (by simpa using h)), (fun h => by first | rfl | exact P28.out (by simpa using h)), (fun h => by first | rfl | exact P29.out (by simpa using h)), (fun h => by first | rfl | exact P30.out (by simpa using h)), (fun h => by first | rfl | exact P31.out (by simpa using h)), (fun h => by first | rfl | exact P32.out (by simpa using h)), (fun h => by first | rfl | exact P33.out (by simpa using h)), (fun h => by first | rfl | exact P34.out (by simpa using h))⟩
      · simp only [List.getElem?_toArray, List.getElem?_cons_zero, List.getElem?_cons_succ, Option.some.injEq] at ho
        subst ho
        obtain rfl := p23 (hafter ⟨23, .data⟩ (by simp) rfl)
        obtain rfl := p17 (hafter ⟨17, .guard⟩ (by simp) rfl)
        have P0 := Lib.hid p0
        have P1 := Lib.hid p1
        have P2 := Lib.hid p2
        have P3 := Lib.hid p3
        have P4 := Lib.hid p4
        have P5 := Lib.hid p5
        have P6 := Lib.hid p6
        have P7 := Lib.hid p7
        have P8 := Lib.hid p8
        have P9 := Lib.hid p9
        have P10 := Lib.hid p10
        have P11 := Lib.hid p11
        have P12 := Lib.hid p12
        have P13 := Lib.hid p13
        have P14 := Lib.hid p14
        have P15 := Lib.hid p15
        have P16 := Lib.hid p16
        have P17 := Lib.hid p17
        have P18 := Lib.hid p18
        have P19 := Lib.hid p19
        have P20 := Lib.hid p20
        have P21 := Lib.hid p21
        have P22 := Lib.hid p22
        have P23 := Lib.hid p23
        have P24 := Lib.hid p24
        have P25 := Lib.hid p25
        have P26 := Lib.hid p26
        have P27 := Lib.hid p27
        have P28 := Lib.hid p28
        have P29 := Lib.hid p29
        have P30 := Lib.hid p30
        have P31 := Lib.hid p31
        have P32 := Lib.hid p32
        have P33 := Lib.hid p33
        have P34 := Lib.hid p34
        have HS := Lib.hid hS
        clear hS hLi hafter p0 p1 p2 p3 p4 p5 p6 p7 p8 p9 p10 p11 p12 p13 p14 p15 p16 p17 p18 p19 p20 p21 p22 p23 p24 p25 p26 p27 p28 p29 p30 p31 p32 p33 p34
        simp only [Act.put, List.setIfInBounds_toArray, List.set_cons_zero, List.set_cons_succ]
        go_wp2_with fail
        exact ⟨u32, u33, u34, u35, u36, u37, u38, u39, u40, u41, u42, u43, u44, u45, u46, u47, u48, .bool false, u50, u51, u52, u53, u54, .int .i64 0, .bool false, u57, u58, u59, u60, u61, u62, u63, u64, u65, u66, by simp only [Act.put, List.setIfInBounds_toArray, List.set_cons_zero, List.set_cons_succ], HS.out, (fun h => by first | rfl | exact P0.out (by simpa using h)), (fun h => by first | rfl | exact P1.out (by simpa using h)), (fun h => by first | rfl | exact P2.out (by simpa using h)), (fun h => by first | rfl | exact P3.out (by simpa using h)), (fun h => by first | rfl | exact P4.out (by simpa using h)), (fun h => by first | rfl | exact P5.out (by simpa using h)), (fun h => by first | rfl | exact P6.out (by simpa using h)), (fun h => by first | rfl | exact P7.out (by simpa using h)), (fun h => by first | rfl | exact P8.out (by simpa using h)), (fun h => by first | rfl | exact P9.out (by simpa using h)), (fun h => by first | rfl | exact P10.out (by simpa using h)), (fun h => by first | rfl | exact P11.out (by simpa using h)), (fun h => by first | rfl | exact P12.out (by simpa using h)), (fun h => by first | rfl | exact P13.out (by simpa using h)), (fun h => by first | rfl | exact P14.out (by simpa using h)), (fun h => by first | rfl | exact P15.out (by simpa using h)), (fun h => by first | rfl | exact P16.out (by simpa using h)), (fun h => by first | rfl | exact P17.out (by simpa using h)), (fun h => by first | rfl | exact P18.out (by simpa using h)), (fun h => by first | rfl | exact P19.out (by simpa using h)), (fun h => by first | rfl | exact P20.out (by simpa using h)), (fun h => by first | rfl | exact P21.out (by simpa using h)), (fun h => P22.out (by simpa using h)), (fun h => by first | rfl | exact P23.out (by simpa using h)), (fun _ => rfl), (fun h => by first | rfl | exact P25.out (by simpa using h)), (fun h => by first | rfl | exact P26.out (by simpa using h)), (fun h => by first | rfl | exact P27.out (by simpa using h)), (fun h => by first | rfl | exact P28.out (by simpa using h)), (fun h => by first | rfl | exact P29.out (by simpa using h)), (fun h => by first | rfl | exact P30.out (by simpa using h)), (fun h => by first | rfl | exact P31.out (by simpa using h)), (fun h => by first | rfl | exact P32.out (by simpa using h)), (fun h => by first | rfl | exact P33.out (by simpa using h)), (fun h => by first | rfl | exact P34.out (by simpa using h))⟩
      · simp only [List.getElem?_toArray, List.getElem?_cons_zero, List.getElem?_cons_succ, Option.some.injEq] at ho
        subst ho
        obtain rfl := p17 (hafter ⟨17, .data⟩ (by simp) rfl)
        obtain rfl := p24 (hafter ⟨24, .data⟩ (by simp) rfl)
        have P0 := Lib.hid p0
        have P1 := Lib.hid p1
        have P2 := Lib.hid p2
        have P3 := Lib.hid p3
        have P4 := Lib.hid p4
        have P5 := Lib.hid p5
        have P6 := Lib.hid p6
        have P7 := Lib.hid p7
        have P8 := Lib.hid p8
        have P9 := Lib.hid p9
        have P10 := Lib.hid p10
        have P11 := Lib.hid p11
        have P12 := Lib.hid p12
        have P13 := Lib.hid p13
        have P14 := Lib.hid p14
        have P15 := Lib.hid p15
        have P16 := Lib.hid p16
        have P17 := Lib.hid p17
        have P18 := Lib.hid p18
        have P19 := Lib.hid p19
        have P20 := Lib.hid p20
        have P21 := Lib.hid p21
        have P22 := Lib.hid p22
        have P23 := Lib.hid p23
        have P24 := Lib.hid p24
        have P25 := Lib.hid p25
        have P26 := Lib.hid p26
        have P27 := Lib.hid p27
        have P28 := Lib.hid p28
        have P29 := Lib.hid p29
        have P30 := Lib.hid p30
        have P31 := Lib.hid p31
        have P32 := Lib.hid p32
        have P33 := Lib.hid p33
        have P34 := Lib.hid p34
        have HS := Lib.hid hS
        clear hS hLi hafter p0 p1 p2 p3 p4 p5 p6 p7 p8 p9 p10 p11 p12 p13 p14 p15 p16 p17 p18 p19 p20 p21 p22 p23 p24 p25 p26 p27 p28 p29 p30 p31 p32 p33 p34
        simp only [Act.put, List.setIfInBounds_toArray, List.set_cons_zero, List.set_cons_succ]
        go_wp2_with fail
        exact ⟨u32, u33, u34, u35, u36, u37, u38, u39, u40, u41, u42, u43, u44, u45, u46, u47, u48, .bool false, u50, u51, u52, u53, u54, u55, .bool false, .bool false, u58, u59, u60, u61, u62, u63, u64, u65, u66, by simp only [Act.put, List.setIfInBounds_toArray, List.set_cons_zero, List.set_cons_succ], HS.out, (fun h => by first | rfl | exact P0.out (by simpa using h)), (fun h => by first | rfl | exact P1.out (by simpa using h)), (fun h => by first | rfl | exact P2.out (by simpa using h)), (fun h => by first | rfl | exact P3.out (by simpa using h)), (fun h => by first | rfl | exact P4.out (by simpa using h)), (fun h => by first | rfl | exact P5.out (by simpa using h)), (fun h => by first | rfl | exact P6.out (by simpa using h)), (fun h => by first | rfl | exact P7.out (by simpa using h)), (fun h => by first | rfl | exact P8.out (by simpa using h)), (fun h => by first | rfl | exact P9.out (by simpa using h)), (fun h => by first | rfl | exact P10.out (by simpa using h)), (fun h => by first | rfl | exact P11.out (by simpa using h)), (fun h => by first | rfl | exact P12.out (by simpa using h)), (fun h => by first | rfl | exact P13.out (by simpa using h)), (fun h => by first | rfl | exact P14.out (by simpa using h)), (fun h => by first | rfl | exact P15.out (by simpa using h)), (fun h => by first | rfl | exact P16.out (by simpa using h)), (fun h => by first | rfl | exact P17.out (by simpa using h)), (fun h => by first | rfl | exact P18.out (by simpa using h)), (fun h => by first | rfl | exact P19.out (by simpa using h)), (fun h => by first | rfl | exact P20.out (by simpa using h)), (fun h => by first | rfl | exact P21.out (by simpa using h)), (fun h => P22.out (by simpa using h)), (fun h => by first | rfl | exact P23.out (by simpa using h)), (fun h => by first | rfl | exact P24.out (by simpa using h)), (fun _ => rfl), (fun h => by first | rfl | exact P26.out (by simpa using h)), (fun h => by first | rfl | exact P27.out (by simpa using h)), (fun h => by first | rfl | exact P28.out (by simpa using h)), (fun h => by first | rfl | exact P29.out (by simpa using h)), (fun h => by first | rfl | exact P30.out (by simpa using h)), (fun h => by first | rfl | exact P31.out (by simpa using h)), (fun h => by first | rfl | exact P32.out (by simpa using h)), (fun h => by first | rfl | exact P33.out (by simpa using h)), (fun h => by first | rfl | exact P34.out (by simpa using h))⟩
      · simp only [List.getElem?_toArray, List.getElem?_cons_zero, List.getElem?_cons_succ, Option.some.injEq] at ho
        subst ho
        obtain rfl := p25 (hafter ⟨25, .data⟩ (by simp) rfl)
        have P0 := Lib.hid p0
        have P1 := Lib.hid p1
        have P2 := Lib.hid p2
        have P3 := Lib.hid p3
        have P4 := Lib.hid p4
        have P5 := Lib.hid p5
        have P6 := Lib.hid p6
        have P7 := Lib.hid p7
        have P8 := Lib.hid p8
        have P9 := Lib.hid p9
        have P10 := Lib.hid p10
        have P11 := Lib.hid p11
        have P12 := Lib.hid p12
        have P13 := Lib.hid p13
        have P14 := Lib.hid p14
        have P15 := Lib.hid p15
        have P16 := Lib.hid p16
        have P17 := Lib.hid p17
        have P18 := Lib.hid p18
        have P19 := Lib.hid p19
        have P20 := Lib.hid p20
        have P21 := Lib.hid p21
        have P22 := Lib.hid p22
        have P23 := Lib.hid p23
        have P24 := Lib.hid p24
        have P25 := Lib.hid p25
        have P26 := Lib.hid p26
        have P27 := Lib.hid p27
        have P28 := Lib.hid p28
        have P29 := Lib.hid p29
        have P30 := Lib.hid p30
        have P31 := Lib.hid p31
        have P32 := Lib.hid p32
        have P33 := Lib.hid p33
        have P34 := Lib.hid p34
        have HS := Lib.hid hS
        clear hS hLi hafter p0 p1 p2 p3 p4 p5 p6 p7 p8 p9 p10 p11 p12 p13 p14 p15 p16 p17 p18 p19 p20 p21 p22 p23 p24 p25 p26 p27 p28 p29 p30 p31 p32 p33 p34
        simp only [Act.put, List.setIfInBounds_toArray, List.set_cons_zero, List.set_cons_succ]
        go_wp2_with fail
        exact ⟨u32, u33, u34, u35, u36, u37, u38, u39, u40, u41, u42, u43, u44, u45, u46, u47, u48, u49, u50, u51, u52, u53, u54, u55, u56, .bool false, .bool false, u59, u60, u61, u62, u63, u64, u65, u66, by simp only [Act.put, List.setIfInBounds_toArray, List.set_cons_zero, List.set_cons_succ], HS.out, (fun h => by first | rfl | exact P0.out (by simpa using h)), (fun h => by first | rfl | exact P1.out (by simpa using h)), (fun h => by first | rfl | exact P2.out (by simpa using h)), (fun h => by first | rfl | exact P3.out (by simpa using h)), (fun h => by first | rfl | exact P4.out (by simpa using h)), (fun h => by first | rfl | exact P5.out (by simpa using h)), (fun h => by first | rfl | exact P6.out (by simpa using h)), (fun h => by first | rfl | exact P7.out (by simpa using h)), (fun h => by first | rfl | exact P8.out (by simpa using h)), (fun h => by first | rfl | exact P9.out (by simpa using h)), (fun h => by first | rfl | exact P10.out (by simpa using h)), (fun h => by first | rfl | exact P11.out (by simpa using h)), (fun h => by first | rfl | exact P12.out (by simpa using h)), (fun h => by first | rfl | exact P13.out (by simpa using h)), (fun h => by first | rfl | exact P14.out (by simpa using h)), (fun h => by first | rfl | exact P15.out (by simpa using h)), (fun h => by first | rfl | exact P16.out (by simpa using h)), (fun h => by first | rfl | exact P17.out (by simpa using h)), (fun h => by first | rfl | exact P18.out (by simpa using h)), (fun h => by first | rfl | exact P19.out (by simpa using h)), (fun h => by first | rfl | exact P20.out (by simpa using h)), (fun h => by first | rfl | exact P21.out (by simpa using h)), (fun h => P22.out (by simpa using h)), (fun h => by first | rfl | exact P23.out (by simpa using h)), (fun h => by first | rfl | exact P24.out (by simpa using h)), (fun h => by first | rfl | exact P25.out (by simpa using h)), (fun _ => rfl), (fun h => by first | rfl | exact P27.out (by simpa using h)), (fun h => by first | rfl | exact P28.out (by simpa using h)), (fun h => by first | rfl | exact P29.out (by simpa using h)), (fun h => by first | rfl | exact P30.out (by simpa using h)), (fun h => by first | rfl | exact P31.out (by simpa using h)), (fun h => by first | rfl | exact P32.out (by simpa using h)), (fun h => by first | rfl | exact P33.out (by simpa using h)), (fun h => by first | rfl | exact P34.out (by simpa using h))⟩
      · simp only [List.getElem?_toArray, List.getElem?_cons_zero, List.getElem?_cons_succ, Option.some.injEq] at ho
        subst ho
        obtain rfl := p26 (hafter ⟨26, .guard⟩ (by simp) rfl)
        have P0 := Lib.hid p0
        have P1 := Lib.hid p1
        have P2 := Lib.hid p2
        have P3 := Lib.hid p3
        have P4 := Lib.hid p4
        have P5 := Lib.hid p5
        have P6 := Lib.hid p6
        have P7 := Lib.hid p7
        have P8 := Lib.hid p8
        have P9 := Lib.hid p9
        have P10 := Lib.hid p10
        have P11 := Lib.hid p11
        have P12 := Lib.hid p12
        have P13 := Lib.hid p13
        have P14 := Lib.hid p14
        have P15 := Lib.hid p15
        have P16 := Lib.hid p16
        have P17 := Lib.hid p17
        have P18 := Lib.hid p18
        have P19 := Lib.hid p19
        have P20 := Lib.hid p20
        have P21 := Lib.hid p21
        have P22 := Lib.hid p22
        have P23 := Lib.hid p23
        have P24 := Lib.hid p24
        have P25 := Lib.hid p25
        have P26 := Lib.hid p26
        have P27 := Lib.hid p27
        have P28 := Lib.hid p28
        have P29 := Lib.hid p29
        have P30 := Lib.hid p30
        have P31 := Lib.hid p31
        have P32 := Lib.hid p32
        have P33 := Lib.hid p33
        have P34 := Lib.hid p34
        have HS := Lib.hid hS
        clear hS hLi hafter p0 p1 p2 p3 p4 p5 p6 p7 p8 p9 p10 p11 p12 p13 p14 p15 p16 p17 p18 p19 p20 p21 p22 p23 p24 p25 p26 p27 p28 p29 p30 p31 p32 p33 p34
        simp only [Act.put, List.setIfInBounds_toArray, List.set_cons_zero, List.set_cons_succ]
        go_wp2_with fail
        exact ⟨u32, u33, u34, u35, u36, u37, u38, u39, u40, u41, u42, u43, u44, u45, u46, u47, u48, u49, u50, u51, u52, u53, u54, u55, u56, u57, .bool false, .slice (some ⟨bt, 0, none⟩) nL LL, u60, u61, u62, u63, u64, u65, u66, by simp only [Act.put, List.setIfInBounds_toArray, List.set_cons_zero, List.set_cons_succ], HS.out, (fun h => by first | rfl | exact P0.out (by simpa using h)), (fun h => by first | rfl | exact P1.out (by simpa using h)), (fun h => by first | rfl | exact P2.out (by simpa using h)), (fun h => by first | rfl | exact P3.out (by simpa using h)), (fun h => by first | rfl | exact P4.out (by simpa using h)), (fun h => by first | rfl | exact P5.out (by simpa using h)), (fun h => by first | rfl | exact P6.out (by simpa using h)), (fun h => by first | rfl | exact P7.out (by simpa using h)), (fun h => by first | rfl | exact P8.out (by simpa using h)), (fun h => by first | rfl | exact P9.out (by simpa using h)), (fun h => by first | rfl | exact P10.out (by simpa using h)), (fun h => by first | rfl | exact P11.out (by simpa using h)), (fun h => by first | rfl | exact P12.out (by simpa using h)), (fun h => by first | rfl | exact P13.out (by simpa using h)), (fun h => by first | rfl | exact P14.out (by simpa using h)), (fun h => by first | rfl | exact P15.out (by simpa using h)), (fun h => by first | rfl | exact P16.out (by simpa using h)), (fun h => by first | rfl | exact P17.out (by simpa using h)), (fun h => by first | rfl | exact P18.out (by simpa using h)), (fun h => by first | rfl | exact P19.out (by simpa using h)), (fun h => by first | rfl | exact P20.out (by simpa using h)), (fun h => by first | rfl | exact P21.out (by simpa using h)), (fun h => P22.out (by simpa using h)), (fun h => by first | rfl | exact P23.out (by simpa using h)), (fun h => by first | rfl | exact P24.out (by simpa using h)), (fun h => by first | rfl | exact P25.out (by simpa using h)), (fun h => by first | rfl | exact P26.out (by simpa using h)), (fun _ => rfl), (fun h => by first | rfl | exact P28.out (by simpa using h)), (fun h => by first | rfl | exact P29.out (by simpa using h)), (fun h => by first | rfl | exact P30.out (by simpa using h)), (fun h => by first | rfl | exact P31.out (by simpa using h)), (fun h => by first | rfl | exact P32.out (by simpa using h)), (fun h => by first | rfl | exact P33.out (by simpa using h)), (fun h => by first | rfl | exact P34.out (by simpa using h))⟩
      · simp only [List.getElem?_toArray, List.getElem?_cons_zero, List.getElem?_cons_succ, Option.some.injEq] at ho
        subst ho
        obtain rfl := p27 (hafter ⟨27, .data⟩ (by simp) rfl)
        obtain rfl := p26 (hafter ⟨26, .guard⟩ (by simp) rfl)
        have P0 := Lib.hid p0
        have P1 := Lib.hid p1
        have P2 := Lib.hid p2
        have P3 := Lib.hid p3
        have P4 := Lib.hid p4
        have P5 := Lib.hid p5
        have P6 := Lib.hid p6
        have P7 := Lib.hid p7
        have P8 := Lib.hid p8
        have P9 := Lib.hid p9
        have P10 := Lib.hid p10
        have P11 := Lib.hid p11
        have P12 := Lib.hid p12
        have P13 := Lib.hid p13
        have P14 := Lib.hid p14
        have P15 := Lib.hid p15
        have P16 := Lib.hid p16
        have P17 := Lib.hid p17
        have P18 := Lib.hid p18
        have P19 := Lib.hid p19
        have P20 := Lib.hid p20
        have P21 := Lib.hid p21
        have P22 := Lib.hid p22
        have P23 := Lib.hid p23
        have P24 := Lib.hid p24
        have P25 := Lib.hid p25
        have P26 := Lib.hid p26
        have P27 := Lib.hid p27
        have P28 := Lib.hid p28
        have P29 := Lib.hid p29
        have P30 := Lib.hid p30
        have P31 := Lib.hid p31
        have P32 := Lib.hid p32
        have P33 := Lib.hid p33
        have P34 := Lib.hid p34
        have HS := Lib.hid hS
        clear hS hLi hafter p0 p1 p2 p3 p4 p5 p6 p7 p8 p9 p10 p11 p12 p13 p14 p15 p16 p17 p18 p19 p20 p21 p22 p23 p24 p25 p26 p27 p28 p29 p30 p31 p32 p33 p34
        simp only [Act.put, List.setIfInBounds_toArray, List.set_cons_zero, List.set_cons_succ]
        go_wp2_with fail
        exact ⟨u32, u33, u34, u35, u36, u37, u38, u39, u40, u41, u42, u43, u44, u45, u46, u47, u48, u49, u50, u51, u52, u53, u54, u55, u56, u57, .bool false, .slice (some ⟨bt, 0, none⟩) nL LL, .int .i64 ((nL : Nat) : Int), u61, u62, u63, u64, u65, u66, by simp only [Act.put, List.setIfInBounds_toArray, List.set_cons_zero, List.set_cons_succ], HS.out, (fun h => by first | rfl | exact P0.out (by simpa using h)), (fun h => by first | rfl | exact P1.out (by simpa using h)), (fun h => by first | rfl | exact P2.out (by simpa using h)), (fun h => by first | rfl | exact P3.out (by simpa using h)), (fun h => by first | rfl | exact P4.out (by simpa using h)), (fun h => by first | rfl | exact P5.out (by simpa using h)), (fun h => by first | rfl | exact P6.out (by simpa using h)), (fun h => by first | rfl | exact P7.out (by simpa using h)), (fun h => by first | rfl | exact P8.out (by simpa using h)), (fun h => by first | rfl | exact P9.out (by simpa using h)), (fun h => by first | rfl | exact P10.out (by simpa using h)), (fun h => by first | rfl | exact P11.out (by simpa using h)), (fun h => by first | rfl | exact P12.out (by simpa using h)), (fun h => by first | rfl | exact P13.out (by simpa using h)), (fun h => by first | rfl | exact P14.out (by simpa using h)), (fun h => by first | rfl | exact P15.out (by simpa using h)), (fun h => by first | rfl | exact P16.out (by simpa using h)), (fun h => by first | rfl | exact P17.out (by simpa using h)), (fun h => by first | rfl | exact P18.out (by simpa using h)), (fun h => by first | rfl | exact P19.out (by simpa using h)), (fun h => by first | rfl | exact P20.out (by simpa using h)), (fun h => by first | rfl | exact P21.out (by simpa using h)), (fun h => P22.out (by simpa using h)), (fun h => by first | rfl | exact P23.out (by simpa using h)), (fun h => by first | rfl | exact P24.out (by simpa using h)), (fun h => by first | rfl | exact P25.out (by simpa using h)), (fun h => by first | rfl | exact P26.out (by simpa using h)), (fun h => by first | rfl | exact P27.out (by simpa using h)), (fun _ => rfl), (fun h => by first | rfl | exact P29.out (by simpa using h)), (fun h => by first | rfl | exact P30.out (by simpa using h)), (fun h => by first | rfl | exact P31.out (by simpa using h)), (fun h => by first | rfl | exact P32.out (by simpa using h)), (fun h => by first | rfl | exact P33.out (by simpa using h)), (fun h => by first | rfl | exact P34.out (by simpa using h))⟩
      · simp only [List.getElem?_toArray, List.getElem?_cons_zero, List.getElem?_cons_succ, Option.some.injEq] at ho
        subst ho
        obtain rfl := p26 (hafter ⟨26, .guard⟩ (by simp) rfl)
        have P0 := Lib.hid p0
        have P1 := Lib.hid p1
        have P2 := Lib.hid p2
        have P3 := Lib.hid p3
        have P4 := Lib.hid p4
        have P5 := Lib.hid p5
        have P6 := Lib.hid p6
        have P7 := Lib.hid p7
        have P8 := Lib.hid p8
        have P9 := Lib.hid p9
        have P10 := Lib.hid p10
        have P11 := Lib.hid p11
        have P12 := Lib.hid p12
        have P13 := Lib.hid p13
        have P14 := Lib.hid p14
        have P15 := Lib.hid p15
        have P16 := Lib.hid p16
        have P17 := Lib.hid p17
        have P18 := Lib.hid p18
        have P19 := Lib.hid p19
        have P20 := Lib.hid p20
        have P21 := Lib.hid p21
        have P22 := Lib.hid p22
        have P23 := Lib.hid p23
        have P24 := Lib.hid p24
        have P25 := Lib.hid p25
        have P26 := Lib.hid p26
        have P27 := Lib.hid p27
        have P28 := Lib.hid p28
        have P29 := Lib.hid p29
        have P30 := Lib.hid p30
        have P31 := Lib.hid p31
        have P32 := Lib.hid p32
        have P33 := Lib.hid p33
        have P34 := Lib.hid p34
        have HS := Lib.hid hS
        clear hS hLi hafter p0 p1 p2 p3 p4 p5 p6 p7 p8 p9 p10 p11 p12 p13 p14 p15 p16 p17 p18 p19 p20 p21 p22 p23 p24 p25 p26 p27 p28 p29 p30 p31 p32 p33 p34
        simp only [Act.put, List.setIfInBounds_toArray, List.set_cons_zero, List.set_cons_succ]
        go_wp2_with fail
        exact ⟨u32, u33, u34, u35, u36, u37, u38, u39, u40, u41, u42, u43, u44, u45, u46, u47, u48, u49, u50, u51, u52, u53, u54, u55, u56, u57, .bool false, u59, u60, .pointer (some ⟨w.heap.size, 1, none⟩), u62, u63, u64, u65, u66, by simp only [Act.put, List.setIfInBounds_toArray, List.set_cons_zero, List.set_cons_succ], HS.out, (fun h => by first | rfl | exact P0.out (by simpa using h)), (fun h => by first | rfl | exact P1.out (by simpa using h)), (fun h => by first | rfl | exact P2.out (by simpa using h)), (fun h => by first | rfl | exact P3.out (by simpa using h)), (fun h => by first | rfl | exact P4.out (by simpa using h)), (fun h => by first | rfl | exact P5.out (by simpa using h)), (fun h => by first | rfl | exact P6.out (by simpa using h)), (fun h => by first | rfl | exact P7.out (by simpa using h)), (fun h => by first | rfl | exact P8.out (by simpa using h)), (fun h => by first | rfl | exact P9.out (by simpa using h)), (fun h => by first | rfl | exact P10.out (by simpa using h)), (fun h => by first | rfl | exact P11.out (by simpa using h)), (fun h => by first | rfl | exact P12.out (by simpa using h)), (fun h => by first | rfl | exact P13.out (by simpa using h)), (fun h => by first | rfl | exact P14.out (by simpa using h)), (fun h => by first | rfl | exact P15.out (by simpa using h)), (fun h => by first | rfl | exact P16.out (by simpa using h)), (fun h => by first | rfl | exact P17.out (by simpa using h)), (fun h => by first | rfl | exact P18.out (by simpa using h)), (fun h => by first | rfl | exact P19.out (by simpa using h)), (fun h => by first | rfl | exact P20.out (by simpa using h)), (fun h => by first | rfl | exact P21.out (by simpa using h)), (fun h => P22.out (by simpa using h)), (fun h => by first | rfl | exact P23.out (by simpa using h)), (fun h => by first | rfl | exact P24.out (by simpa using h)), (fun h => by first | rfl | exact P25.out (by simpa using h)), (fun h => by first | rfl | exact P26.out (by simpa using h)), (fun h => by first | rfl | exact P27.out (by simpa using h)), (fun h => by first | rfl | exact P28.out (by simpa using h)), (fun _ => rfl), (fun h => by first | rfl | exact P30.out (by simpa using h)), (fun h => by first | rfl | exact P31.out (by simpa using h)), (fun h => by first | rfl | exact P32.out (by simpa using h)), (fun h => by first | rfl | exact P33.out (by simpa using h)), (fun h => by first | rfl | exact P34.out (by simpa using h))⟩
      · simp only [List.getElem?_toArray, List.getElem?_cons_zero, List.getElem?_cons_succ, Option.some.injEq] at ho
        subst ho
        obtain rfl := p29 (hafter ⟨29, .data⟩ (by simp) rfl)
        obtain rfl := p26 (hafter ⟨26, .guard⟩ (by simp) rfl)
        have c1 := (hS.1.cell (p := ⟨w.heap.size, 1, none⟩) hl_M).trans k_M_1
        have P0 := Lib.hid p0
        have P1 := Lib.hid p1
        have P2 := Lib.hid p2
        have P3 := Lib.hid p3
        have P4 := Lib.hid p4
        have P5 := Lib.hid p5
        have P6 := Lib.hid p6
        have P7 := Lib.hid p7
        have P8 := Lib.hid p8
        have P9 := Lib.hid p9
        have P10 := Lib.hid p10
        have P11 := Lib.hid p11
        have P12 := Lib.hid p12
        have P13 := Lib.hid p13
        have P14 := Lib.hid p14
        have P15 := Lib.hid p15
        have P16 := Lib.hid p16
        have P17 := Lib.hid p17
        have P18 := Lib.hid p18
        have P19 := Lib.hid p19
        have P20 := Lib.hid p20
        have P21 := Lib.hid p21
        have P22 := Lib.hid p22
        have P23 := Lib.hid p23
        have P24 := Lib.hid p24
        have P25 := Lib.hid p25
        have P26 := Lib.hid p26
        have P27 := Lib.hid p27
        have P28 := Lib.hid p28
        have P29 := Lib.hid p29
        have P30 := Lib.hid p30
        have P31 := Lib.hid p31
        have P32 := Lib.hid p32
        have P33 := Lib.hid p33
        have P34 := Lib.hid p34
        have HS := Lib.hid hS
        clear hS hLi hafter p0 p1 p2 p3 p4 p5 p6 p7 p8 p9 p10 p11 p12 p13 p14 p15 p16 p17 p18 p19 p20 p21 p22 p23 p24 p25 p26 p27 p28 p29 p30 p31 p32 p33 p34
        simp only [Act.put, List.setIfInBounds_toArray, List.set_cons_zero, List.set_cons_succ]
        go_wp2_with fail
        exact ⟨u32, u33, u34, u35, u36, u37, u38, u39, u40, u41, u42, u43, u44, u45, u46, u47, u48, u49, u50, u51, u52, u53, u54, u55, u56, u57, .bool false, u59, u60, .pointer (some ⟨w.heap.size, 1, none⟩), .slice ia I ic, u63, u64, u65, u66, by simp only [Act.put, List.setIfInBounds_toArray, List.set_cons_zero, List.set_cons_succ], HS.out, (fun h => by first | rfl | exact P0.out (by simpa using h)), (fun h => by first | rfl | exact P1.out (by simpa using h)), (fun h => by first | rfl | exact P2.out (by simpa using h)), (fun h => by first | rfl | exact P3.out (by simpa using h)), (fun h => by first | rfl | exact P4.out (by simpa using h)), (fun h => by first | rfl | exact P5.out (by simpa using h)), (fun h => by first | rfl | exact P6.out (by simpa using h)), (fun h => by first | rfl | exact P7.out (by simpa using h)), (fun h => by first | rfl | exact P8.out (by simpa using h)), (fun h => by first | rfl | exact P9.out (by simpa using h)), (fun h => by first | rfl | exact P10.out (by simpa using h)), (fun h => by first | rfl | exact P11.out (by simpa using h)), (fun h => by first | rfl | exact P12.out (by simpa using h)), (fun h => by first | rfl | exact P13.out (by simpa using h)), (fun h => by first | rfl | exact P14.out (by simpa using h)), (fun h => by first | rfl | exact P15.out (by simpa using h)), (fun h => by first | rfl | exact P16.out (by simpa using h)), (fun h => by first | rfl | exact P17.out (by simpa using h)), (fun h => by first | rfl | exact P18.out (by simpa using h)), (fun h => by first | rfl | exact P19.out (by simpa using h)), (fun h => by first | rfl | exact P20.out (by simpa using h)), (fun h => by first | rfl | exact P21.out (by simpa using h)), (fun h => P22.out (by simpa using h)), (fun h => by first | rfl | exact P23.out (by simpa using h)), (fun h => by first | rfl | exact P24.out (by simpa using h)), (fun h => by first | rfl | exact P25.out (by simpa using h)), (fun h => by first | rfl | exact P26.out (by simpa using h)), (fun h => by first | rfl | exact P27.out (by simpa using h)), (fun h => by first | rfl | exact P28.out (by simpa using h)), (fun h => by first | rfl | exact P29.out (by simpa using h)), (fun _ => rfl), (fun h => by first | rfl | exact P31.out (by simpa using h)), (fun h => by first | rfl | exact P32.out (by simpa using h)), (fun h => by first | rfl | exact P33.out (by simpa using h)), (fun h => by first | rfl | exact P34.out (by simpa using h))⟩
      · simp only [List.getElem?_toArray, List.getElem?_cons_zero, List.getElem?_cons_succ, Option.some.injEq] at ho
        subst ho
        obtain rfl := p30 (hafter ⟨30, .data⟩ (by simp) rfl)
        obtain rfl := p26 (hafter ⟨26, .guard⟩ (by simp) rfl)
        have P0 := Lib.hid p0
        have P1 := Lib.hid p1
        have P2 := Lib.hid p2
        have P3 := Lib.hid p3
        have P4 := Lib.hid p4
        have P5 := Lib.hid p5
        have P6 := Lib.hid p6
        have P7 := Lib.hid p7
        have P8 := Lib.hid p8
        have P9 := Lib.hid p9
        have P10 := Lib.hid p10
        have P11 := Lib.hid p11
        have P12 := Lib.hid p12
        have P13 := Lib.hid p13
        have P14 := Lib.hid p14
        have P15 := Lib.hid p15
        have P16 := Lib.hid p16
        have P17 := Lib.hid p17
        have P18 := Lib.hid p18
        have P19 := Lib.hid p19
        have P20 := Lib.hid p20
        have P21 := Lib.hid p21
        have P22 := Lib.hid p22
        have P23 := Lib.hid p23
        have P24 := Lib.hid p24
        have P25 := Lib.hid p25
        have P26 := Lib.hid p26
        have P27 := Lib.hid p27
        have P28 := Lib.hid p28
        have P29 := Lib.hid p29
        have P30 := Lib.hid p30
        have P31 := Lib.hid p31
        have P32 := Lib.hid p32
        have P33 := Lib.hid p33
        have P34 := Lib.hid p34
        have HS := Lib.hid hS
        clear hS hLi hafter p0 p1 p2 p3 p4 p5 p6 p7 p8 p9 p10 p11 p12 p13 p14 p15 p16 p17 p18 p19 p20 p21 p22 p23 p24 p25 p26 p27 p28 p29 p30 p31 p32 p33 p34
        simp only [Act.put, List.setIfInBounds_toArray, List.set_cons_zero, List.set_cons_succ]
        go_wp2_with fail
        exact ⟨u32, u33, u34, u35, u36, u37, u38, u39, u40, u41, u42, u43, u44, u45, u46, u47, u48, u49, u50, u51, u52, u53, u54, u55, u56, u57, .bool false, u59, u60, u61, .slice ia I ic, .int .i64 ((I : Nat) : Int), u64, u65, u66, by simp only [Act.put, List.setIfInBounds_toArray, List.set_cons_zero, List.set_cons_succ], HS.out, (fun h => by first | rfl | exact P0.out (by simpa using h)), (fun h => by first | rfl | exact P1.out (by simpa using h)), (fun h => by first | rfl | exact P2.out (by simpa using h)), (fun h => by first | rfl | exact P3.out (by simpa using h)), (fun h => by first | rfl | exact P4.out (by simpa using h)), (fun h => by first | rfl | exact P5.out (by simpa using h)), (fun h => by first | rfl | exact P6.out (by simpa using h)), (fun h => by first | rfl | exact P7.out (by simpa using h)), (fun h => by first | rfl | exact P8.out (by simpa using h)), (fun h => by first | rfl | exact P9.out (by simpa using h)), (fun h => by first | rfl | exact P10.out (by simpa using h)), (fun h => by first | rfl | exact P11.out (by simpa using h)), (fun h => by first | rfl | exact P12.out (by simpa using h)), (fun h => by first | rfl | exact P13.out (by simpa using h)), (fun h => by first | rfl | exact P14.out (by simpa using h)), (fun h => by first | rfl | exact P15.out (by simpa using h)), (fun h => by first | rfl | exact P16.out (by simpa using h)), (fun h => by first | rfl | exact P17.out (by simpa using h)), (fun h => by first | rfl | exact P18.out (by simpa using h)), (fun h => by first | rfl | exact P19.out (by simpa using h)), (fun h => by first | rfl | exact P20.out (by simpa using h)), (fun h => by first | rfl | exact P21.out (by simpa using h)), (fun h => P22.out (by simpa using h)), (fun h => by first | rfl | exact P23.out (by simpa using h)), (fun h => by first | rfl | exact P24.out (by simpa using h)), (fun h => by first | rfl | exact P25.out (by simpa using h)), (fun h => by first | rfl | exact P26.out (by simpa using h)), (fun h => by first | rfl | exact P27.out (by simpa using h)), (fun h => by first | rfl | exact P28.out (by simpa using h)), (fun h => by first | rfl | exact P29.out (by simpa using h)), (fun h => by first | rfl | exact P30.out (by simpa using h)), (fun _ => rfl), (fun h => by first | rfl | exact P32.out (by simpa using h)), (fun h => by first | rfl | exact P33.out (by simpa using h)), (fun h => by first | rfl | exact P34.out (by simpa using h))⟩
      · simp only [List.getElem?_toArray, List.getElem?_cons_zero, List.getElem?_cons_succ, Option.some.injEq] at ho
        subst ho
        obtain rfl := p31 (hafter ⟨31, .data⟩ (by simp) rfl)
        obtain rfl := p26 (hafter ⟨26, .guard⟩ (by simp) rfl)
        have P0 := Lib.hid p0
        have P1 := Lib.hid p1
        have P2 := Lib.hid p2
        have P3 := Lib.hid p3
        have P4 := Lib.hid p4
        have P5 := Lib.hid p5
        have P6 := Lib.hid p6
        have P7 := Lib.hid p7
        have P8 := Lib.hid p8
        have P9 := Lib.hid p9
        have P10 := Lib.hid p10
        have P11 := Lib.hid p11
        have P12 := Lib.hid p12
        have P13 := Lib.hid p13
        have P14 := Lib.hid p14
        have P15 := Lib.hid p15
        have P16 := Lib.hid p16
        have P17 := Lib.hid p17
        have P18 := Lib.hid p18
        have P19 := Lib.hid p19
        have P20 := Lib.hid p20
        have P21 := Lib.hid p21
        have P22 := Lib.hid p22
        have P23 := Lib.hid p23
        have P24 := Lib.hid p24
        have P25 := Lib.hid p25
        have P26 := Lib.hid p26
        have P27 := Lib.hid p27
        have P28 := Lib.hid p28
        have P29 := Lib.hid p29
        have P30 := Lib.hid p30
        have P31 := Lib.hid p31
        have P32 := Lib.hid p32
        have P33 := Lib.hid p33
        have P34 := Lib.hid p34
        have HS := Lib.hid hS
        clear hS hLi hafter p0 p1 p2 p3 p4 p5 p6 p7 p8 p9 p10 p11 p12 p13 p14 p15 p16 p17 p18 p19 p20 p21 p22 p23 p24 p25 p26 p27 p28 p29 p30 p31 p32 p33 p34
        simp only [Act.put, List.setIfInBounds_toArray, List.set_cons_zero, List.set_cons_succ]
        go_wp2_with fail
        exact ⟨u32, u33, u34, u35, u36, u37, u38, u39, u40, u41, u42, u43, u44, u45, u46, u47, u48, u49, u50, u51, u52, u53, u54, u55, u56, u57, .bool false, u59, u60, u61, u62, .int .i64 ((I : Nat) : Int), .int .i64 ((LL : Nat) : Int), u65, u66, by simp only [Act.put, List.setIfInBounds_toArray, List.set_cons_zero, List.set_cons_succ], HS.out, (fun h => by first | rfl | exact P0.out (by simpa using h)), (fun h => by first | rfl | exact P1.out (by simpa using h)), (fun h => by first | rfl | exact P2.out (by simpa using h)), (fun h => by first | rfl | exact P3.out (by simpa using h)), (fun h => by first | rfl | exact P4.out (by simpa using h)), (fun h => by first | rfl | exact P5.out (by simpa using h)), (fun h => by first | rfl | exact P6.out (by simpa using h)), (fun h => by first | rfl | exact P7.out (by simpa using h)), (fun h => by first | rfl | exact P8.out (by simpa using h)), (fun h => by first | rfl | exact P9.out (by simpa using h)), (fun h => by first | rfl | exact P10.out (by simpa using h)), (fun h => by first | rfl | exact P11.out (by simpa using h)), (fun h => by first | rfl | exact P12.out (by simpa using h)), (fun h => by first | rfl | exact P13.out (by simpa using h)), (fun h => by first | rfl | exact P14.out (by simpa using h)), (fun h => by first | rfl | exact P15.out (by simpa using h)), (fun h => by first | rfl | exact P16.out (by simpa using h)), (fun h => by first | rfl | exact P17.out (by simpa using h)), (fun h => by first | rfl | exact P18.out (by simpa using h)), (fun h => by first | rfl | exact P19.out (by simpa using h)), (fun h => by first | rfl | exact P20.out (by simpa using h)), (fun h => by first | rfl | exact P21.out (by simpa using h)), (fun h => P22.out (by simpa using h)), (fun h => by first | rfl | exact P23.out (by simpa using h)), (fun h => by first | rfl | exact P24.out (by simpa using h)), (fun h => by first | rfl | exact P25.out (by simpa using h)), (fun h => by first | rfl | exact P26.out (by simpa using h)), (fun h => by first | rfl | exact P27.out (by simpa using h)), (fun h => by first | rfl | exact P28.out (by simpa using h)), (fun h => by first | rfl | exact P29.out (by simpa using h)), (fun h => by first | rfl | exact P30.out (by simpa using h)), (fun h => by first | rfl | exact P31.out (by simpa using h)), (fun _ => rfl), (fun h => by first | rfl | exact P33.out (by simpa using h)), (fun h => by first | rfl | exact P34.out (by simpa using h))⟩
      · simp only [List.getElem?_toArray, List.getElem?_cons_zero, List.getElem?_cons_succ, Option.some.injEq] at ho
        subst ho
        obtain rfl := p28 (hafter ⟨28, .data⟩ (by simp) rfl)
        obtain rfl := p32 (hafter ⟨32, .data⟩ (by simp) rfl)
        obtain rfl := p26 (hafter ⟨26, .guard⟩ (by simp) rfl)
        have P0 := Lib.hid p0
        have P1 := Lib.hid p1
        have P2 := Lib.hid p2
        have P3 := Lib.hid p3
        have P4 := Lib.hid p4
        have P5 := Lib.hid p5
        have P6 := Lib.hid p6
        have P7 := Lib.hid p7
        have P8 := Lib.hid p8
        have P9 := Lib.hid p9
        have P10 := Lib.hid p10
        have P11 := Lib.hid p11
        have P12 := Lib.hid p12
        have P13 := Lib.hid p13
        have P14 := Lib.hid p14
        have P15 := Lib.hid p15
        have P16 := Lib.hid p16
        have P17 := Lib.hid p17
        have P18 := Lib.hid p18
        have P19 := Lib.hid p19
        have P20 := Lib.hid p20
        have P21 := Lib.hid p21
        have P22 := Lib.hid p22
        have P23 := Lib.hid p23
        have P24 := Lib.hid p24
        have P25 := Lib.hid p25
        have P26 := Lib.hid p26
        have P27 := Lib.hid p27
        have P28 := Lib.hid p28
        have P29 := Lib.hid p29
        have P30 := Lib.hid p30
        have P31 := Lib.hid p31
        have P32 := Lib.hid p32
        have P33 := Lib.hid p33
        have P34 := Lib.hid p34
        have HS := Lib.hid hS
        clear hS hLi hafter p0 p1 p2 p3 p4 p5 p6 p7 p8 p9 p10 p11 p12 p13 p14 p15 p16 p17 p18 p19 p20 p21 p22 p23 p24 p25 p26 p27 p28 p29 p30 p31 p32 p33 p34
        simp only [Act.put, List.setIfInBounds_toArray, List.set_cons_zero, List.set_cons_succ]
        go_wp2_with fail
        exact ⟨u32, u33, u34, u35, u36, u37, u38, u39, u40, u41, u42, u43, u44, u45, u46, u47, u48, u49, u50, u51, u52, u53, u54, u55, u56, u57, .bool false, u59, .int .i64 ((nL : Nat) : Int), u61, u62, u63, .int .i64 ((LL : Nat) : Int), .bool false, u66, by simp only [Act.put, List.setIfInBounds_toArray, List.set_cons_zero, List.set_cons_succ], HS.out, (fun h => by first | rfl | exact P0.out (by simpa using h)), (fun h => by first | rfl | exact P1.out (by simpa using h)), (fun h => by first | rfl | exact P2.out (by simpa using h)), (fun h => by first | rfl | exact P3.out (by simpa using h)), (fun h => by first | rfl | exact P4.out (by simpa using h)), (fun h => by first | rfl | exact P5.out (by simpa using h)), (fun h => by first | rfl | exact P6.out (by simpa using h)), (fun h => by first | rfl | exact P7.out (by simpa using h)), (fun h => by first | rfl | exact P8.out (by simpa using h)), (fun h => by first | rfl | exact P9.out (by simpa using h)), (fun h => by first | rfl | exact P10.out (by simpa using h)), (fun h => by first | rfl | exact P11.out (by simpa using h)), (fun h => by first | rfl | exact P12.out (by simpa using h)), (fun h => by first | rfl | exact P13.out (by simpa using h)), (fun h => by first | rfl | exact P14.out (by simpa using h)), (fun h => by first | rfl | exact P15.out (by simpa using h)), (fun h => by first | rfl | exact P16.out (by simpa using h)), (fun h => by first | rfl | exact P17.out (by simpa using h)), (fun h => by first | rfl | exact P18.out (by simpa using h)), (fun h => by first | rfl | exact P19.out (by simpa using h)), (fun h => by first | rfl | exact P20.out (by simpa using h)), (fun h => by first | rfl | exact P21.out (by simpa using h)), (fun h => P22.out (by simpa using h)), (fun h => by first | rfl | exact P23.out (by simpa using h)), (fun h => by first | rfl | exact P24.out (by simpa using h)), (fun h => by first | rfl | exact P25.out (by simpa using h)), (fun h => by first | rfl | exact P26.out (by simpa using h)), (fun h => by first | rfl | exact P27.out (by simpa using h)), (fun h => by first | rfl | exact P28.out (by simpa using h)), (fun h => by first | rfl | exact P29.out (by simpa using h)), (fun h => by first | rfl | exact P30.out (by simpa using h)), (fun h => by first | rfl | exact P31.out (by simpa using h)), (fun h => by first | rfl | exact P32.out (by simpa using h)), (fun _ => rfl), (fun h => by first | rfl | exact P34.out (by simpa using h))⟩
      · simp only [List.getElem?_toArray, List.getElem?_cons_zero, List.getElem?_cons_succ, Option.some.injEq] at ho
        subst ho
        obtain rfl := p26 (hafter ⟨26, .data⟩ (by simp) rfl)
        obtain rfl := p33 (hafter ⟨33, .data⟩ (by simp) rfl)
        have P0 := Lib.hid p0
        have P1 := Lib.hid p1
        have P2 := Lib.hid p2
        have P3 := Lib.hid p3
        have P4 := Lib.hid p4
        have P5 := Lib.hid p5
        have P6 := Lib.hid p6
        have P7 := Lib.hid p7
        have P8 := Lib.hid p8
        have P9 := Lib.hid p9
        have P10 := Lib.hid p10
        have P11 := Lib.hid p11
        have P12 := Lib.hid p12
        have P13 := Lib.hid p13
        have P14 := Lib.hid p14
        have P15 := Lib.hid p15
        have P16 := Lib.hid p16
        have P17 := Lib.hid p17
        have P18 := Lib.hid p18
        have P19 := Lib.hid p19
        have P20 := Lib.hid p20
        have P21 := Lib.hid p21
        have P22 := Lib.hid p22
        have P23 := Lib.hid p23
        have P24 := Lib.hid p24
        have P25 := Lib.hid p25
        have P26 := Lib.hid p26
        have P27 := Lib.hid p27
        have P28 := Lib.hid p28
        have P29 := Lib.hid p29
        have P30 := Lib.hid p30
        have P31 := Lib.hid p31
        have P32 := Lib.hid p32
        have P33 := Lib.hid p33
        have P34 := Lib.hid p34
        have HS := Lib.hid hS
        clear hS hLi hafter p0 p1 p2 p3 p4 p5 p6 p7 p8 p9 p10 p11 p12 p13 p14 p15 p16 p17 p18 p19 p20 p21 p22 p23 p24 p25 p26 p27 p28 p29 p30 p31 p32 p33 p34
        simp only [Act.put, List.setIfInBounds_toArray, List.set_cons_zero, List.set_cons_succ]
        go_wp2_with fail
        exact ⟨u32, u33, u34, u35, u36, u37, u38, u39, u40, u41, u42, u43, u44, u45, u46, u47, u48, u49, u50, u51, u52, u53, u54, u55, u56, u57, .bool false, u59, u60, u61, u62, u63, u64, .bool false, .bool false, by simp only [Act.put, List.setIfInBounds_toArray, List.set_cons_zero, List.set_cons_succ], HS.out, (fun h => by first | rfl | exact P0.out (by simpa using h)), (fun h => by first | rfl | exact P1.out (by simpa using h)), (fun h => by first | rfl | exact P2.out (by simpa using h)), (fun h => by first | rfl | exact P3.out (by simpa using h)), (fun h => by first | rfl | exact P4.out (by simpa using h)), (fun h => by first | rfl | exact P5.out (by simpa using h)), (fun h => by first | rfl | exact P6.out (by simpa using h)), (fun h => by first | rfl | exact P7.out (by simpa using h)), (fun h => by first | rfl | exact P8.out (by simpa using h)), (fun h => by first | rfl | exact P9.out (by simpa using h)), (fun h => by first | rfl | exact P10.out (by simpa using h)), (fun h => by first | rfl | exact P11.out (by simpa using h)), (fun h => by first | rfl | exact P12.out (by simpa using h)), (fun h => by first | rfl | exact P13.out (by simpa using h)), (fun h => by first | rfl | exact P14.out (by simpa using h)), (fun h => by first | rfl | exact P15.out (by simpa using h)), (fun h => by first | rfl | exact P16.out (by simpa using h)), (fun h => by first | rfl | exact P17.out (by simpa using h)), (fun h => by first | rfl | exact P18.out (by simpa using h)), (fun h => by first | rfl | exact P19.out (by simpa using h)), (fun h => by first | rfl | exact P20.out (by simpa using h)), (fun h => by first | rfl | exact P21.out (by simpa using h)), (fun h => P22.out (by simpa using h)), (fun h => by first | rfl | exact P23.out (by simpa using h)), (fun h => by first | rfl | exact P24.out (by simpa using h)), (fun h => by first | rfl | exact P25.out (by simpa using h)), (fun h => by first | rfl | exact P26.out (by simpa using h)), (fun h => by first | rfl | exact P27.out (by simpa using h)), (fun h => by first | rfl | exact P28.out (by simpa using h)), (fun h => by first | rfl | exact P29.out (by simpa using h)), (fun h => by first | rfl | exact P30.out (by simpa using h)), (fun h => by first | rfl | exact P31.out (by simpa using h)), (fun h => by first | rfl | exact P32.out (by simpa using h)), (fun h => by first | rfl | exact P33.out (by simpa using h)), (fun _ => rfl)⟩
    · intro Ls a0 wq hall hJ
      obtain ⟨u32, u33, u34, u35, u36, u37, u38, u39, u40, u41, u42, u43, u44, u45, u46, u47, u48, u49, u50, u51, u52, u53, u54, u55, u56, u57, u58, u59, u60, u61, u62, u63, u64, u65, u66, rfl, hS, p0, p1, p2, p3, p4, p5, p6, p7, p8, p9, p10, p11, p12, p13, p14, p15, p16, p17, p18, p19, p20, p21, p22, p23, p24, p25, p26, p27, p28, p29, p30, p31, p32, p33, p34⟩ := hJ
      replace p0 := p0 (hall 0 (by decide))
      replace p1 := p1 (hall 1 (by decide))
      replace p2 := p2 (hall 2 (by decide))
      replace p3 := p3 (hall 3 (by decide))
      replace p4 := p4 (hall 4 (by decide))
      replace p5 := p5 (hall 5 (by decide))
      replace p6 := p6 (hall 6 (by decide))
      replace p7 := p7 (hall 7 (by decide))
      replace p8 := p8 (hall 8 (by decide))
      replace p9 := p9 (hall 9 (by decide))
      replace p10 := p10 (hall 10 (by decide))
      replace p11 := p11 (hall 11 (by decide))
      replace p12 := p12 (hall 12 (by decide))
      replace p13 := p13 (hall 13 (by decide))
      replace p14 := p14 (hall 14 (by decide))
      replace p15 := p15 (hall 15 (by decide))
      replace p16 := p16 (hall 16 (by decide))
      replace p17 := p17 (hall 17 (by decide))
      replace p18 := p18 (hall 18 (by decide))
      replace p19 := p19 (hall 19 (by decide))
      replace p20 := p20 (hall 20 (by decide))
      replace p21 := p21 (hall 21 (by decide))
      replace p22 := p22 (hall 22 (by decide))
      replace p23 := p23 (hall 23 (by decide))
      replace p24 := p24 (hall 24 (by decide))
      replace p25 := p25 (hall 25 (by decide))
      replace p26 := p26 (hall 26 (by decide))
      replace p27 := p27 (hall 27 (by decide))
      replace p28 := p28 (hall 28 (by decide))
      replace p29 := p29 (hall 29 (by decide))
      replace p30 := p30 (hall 30 (by decide))
      replace p31 := p31 (hall 31 (by decide))
      replace p32 := p32 (hall 32 (by decide))
      replace p33 := p33 (hall 33 (by decide))
      replace p34 := p34 (hall 34 (by decide))
      have hb := hS.1
      subst p34
      clear hall hS p0 p1 p2 p3 p4 p5 p6 p7 p8 p9 p10 p11 p12 p13 p14 p15 p16 p17 p18 p19 p20 p21 p22 p23 p24 p25 p26 p27 p28 p29 p30 p31 p32 p33
      have hs_wq : W1.heap.size ≤ wq.heap.size := hb.size
      replace k_M_0 : wq.cell? ⟨w.heap.size, 0, none⟩ = some (.slice pa R pc) := (hb.cell (p := ⟨w.heap.size, 0, none⟩) hl_M).trans k_M_0
      replace k_M_1 : wq.cell? ⟨w.heap.size, 1, none⟩ = some (.slice ia I ic) := (hb.cell (p := ⟨w.heap.size, 1, none⟩) hl_M).trans k_M_1
      replace k_M_2 : wq.cell? ⟨w.heap.size, 2, none⟩ = some (.slice ca R cc) := (hb.cell (p := ⟨w.heap.size, 2, none⟩) hl_M).trans k_M_2
      replace f_M : ∀ o, wq.frozen? ⟨w.heap.size, o, none⟩ = false := fun o => (hb.frozen (p := ⟨w.heap.size, o, none⟩) hl_M).trans (f_M o)
      replace HX_M := Lib.hid (HX_M.out.below hb)
      replace HB := Lib.hid (HB.out.trans (hb.mono hs0))
      replace hN : N ≤ wq.heap.size := Nat.le_trans hN hb.size
      replace hs0 : w.heap.size ≤ wq.heap.size := Nat.le_trans hs0 hb.size
      replace hl_M : w.heap.size < wq.heap.size := Nat.lt_of_lt_of_le hl_M hb.size
      replace HP := Lib.hid (HP.out.below hb)
      replace HI := Lib.hid (HI.out.below hb)
      replace HC := Lib.hid (HC.out.below hb)
      replace HF := Lib.hid (HF.out.below hb)
      replace HU := Lib.hid (HU.out.below hb)
      replace HT := Lib.hid (HT.out.below hb)
      replace HTZ := Lib.hid (HTZ.out.below hb)
      clear hb
      simp only [Act.put, List.setIfInBounds_toArray, List.set_cons_zero, List.set_cons_succ]
      have HCq := HC
      have HFq := HF
      have HTq := HT
      have HTZq := HTZ
      have HBw := HB
      have hNq := hN
      go_wp2_with fail
      go_loopw [13, 69] (fun _ ix wr => ∃ j : Nat, j ≤ nL ∧ ix = .int .i64 j ∧ Fc wr wq.heap.size (smT tt j) ∧ Below wq.heap.size wq wr) (fun _ ix _ => nL - (intOf ix).toNat)
      case atStart => exact ⟨0, Nat.zero_le _, rfl, Fc.new wq _ (fun _ => rfl), bel1 _ _⟩
      case round =>
        obtain ⟨j, hj, rfl, hfc, hbel⟩ := hrel
        have HFC := Lib.hid hfc
        have HB2 := Lib.hid hbel
        have hsz := hbel.size
        have hgl := World.rowIs.lt hfc
        have hfz := World.rowIs.frozen hfc
        clear hfc
        by_cases hjn : j < nL
        · obtain ⟨b', off, hpb, hcc⟩ := (HTZ.out.below hbel).2.2 (by omega)
          obtain ⟨rfl, rfl⟩ : bt = b' ∧ 0 = off := by simpa using hpb
          obtain ⟨g0, g1, g2, g3⟩ := hcc j hjn
          rw [Nat.zero_add] at g0 g1 g2 g3
          clear hcc hpb
          obtain ⟨x0, ex0⟩ : ∃ x, tt j 0 = x := ⟨_, rfl⟩
          have hx0 : x0 ≤ 200 := by rw [← ex0]; exact Nat.le_trans (HTB.out j 0) h1
          rw [ex0] at g0
          obtain ⟨y0, ey0⟩ : ∃ x, smT tt j 0 = x := ⟨_, rfl⟩
          have q0 := HFC.out.cell (c := 0) (by decide) ey0
          have hy0 : y0 ≤ 100000 := by rw [← ey0]; exact Nat.le_trans (smT_le tt R HTB.out j 0) (Nat.le_trans (Nat.mul_le_mul (Nat.le_trans hj (by omega)) h1) (by decide : 61 * 200 ≤ 100000))
          have EY0 := Lib.hid (show smT tt (j + 1) 0 = y0 + x0 by rw [smT_succ, ey0, ex0])
          clear ex0 ey0
          obtain ⟨x1, ex1⟩ : ∃ x, tt j 1 = x := ⟨_, rfl⟩
          have hx1 : x1 ≤ 200 := by rw [← ex1]; exact Nat.le_trans (HTB.out j 1) h1
          rw [ex1] at g1
          obtain ⟨y1, ey1⟩ : ∃ x, smT tt j 1 = x := ⟨_, rfl⟩
          have q1 := HFC.out.cell (c := 1) (by decide) ey1
          have hy1 : y1 ≤ 100000 := by rw [← ey1]; exact Nat.le_trans (smT_le tt R HTB.out j 1) (Nat.le_trans (Nat.mul_le_mul (Nat.le_trans hj (by omega)) h1) (by decide : 61 * 200 ≤ 100000))
          have EY1 := Lib.hid (show smT tt (j + 1) 1 = y1 + x1 by rw [smT_succ, ey1, ex1])
          clear ex1 ey1
          obtain ⟨x2, ex2⟩ : ∃ x, tt j 2 = x := ⟨_, rfl⟩
          have hx2 : x2 ≤ 200 := by rw [← ex2]; exact Nat.le_trans (HTB.out j 2) h1
          rw [ex2] at g2
          obtain ⟨y2, ey2⟩ : ∃ x, smT tt j 2 = x := ⟨_, rfl⟩
          have q2 := HFC.out.cell (c := 2) (by decide) ey2
          have hy2 : y2 ≤ 100000 := by rw [← ey2]; exact Nat.le_trans (smT_le tt R HTB.out j 2) (Nat.le_trans (Nat.mul_le_mul (Nat.le_trans hj (by omega)) h1) (by decide : 61 * 200 ≤ 100000))
          have EY2 := Lib.hid (show smT tt (j + 1) 2 = y2 + x2 by rw [smT_succ, ey2, ex2])
          clear ex2 ey2
          obtain ⟨x3, ex3⟩ : ∃ x, tt j 3 = x := ⟨_, rfl⟩
          have hx3 : x3 ≤ 200 := by rw [← ex3]; exact Nat.le_trans (HTB.out j 3) h1
          rw [ex3] at g3
          obtain ⟨y3, ey3⟩ : ∃ x, smT tt j 3 = x := ⟨_, rfl⟩
          have q3 := HFC.out.cell (c := 3) (by decide) ey3
          have hy3 : y3 ≤ 100000 := by rw [← ey3]; exact Nat.le_trans (smT_le tt R HTB.out j 3) (Nat.le_trans (Nat.mul_le_mul (Nat.le_trans hj (by omega)) h1) (by decide : 61 * 200 ≤ 100000))
          have EY3 := Lib.hid (show smT tt (j + 1) 3 = y3 + x3 by rw [smT_succ, ey3, ex3])
          clear ex3 ey3
          have hix0 : (0 : Int) ≤ (j : Int) := by omega
          have hix1 : (j : Int) < (nL : Int) := by omega
          clear hbel
          go_wp2_with fail
          go_roundw
          case rel =>
            refine ⟨j + 1, by omega, by go_num, World.rowIs.congr (World.rowIs.alloc (World.rowIs.set (World.rowIs.set (World.rowIs.set (World.rowIs.set HFC.out 0 _) 1 _) 2 _) 3 _) _) (fun c hc => ?_), ?_⟩
            · obtain rfl | rfl | rfl | rfl : c = 0 ∨ c = 1 ∨ c = 2 ∨ c = 3 := by omega
              · rw [EY0.out]; simp
              · rw [EY1.out]; simp
              · rw [EY2.out]; simp
              · rw [EY3.out]; simp
            · exact BlA
          case measure => simp [intOf]; omega
        · obtain rfl : j = nL := by omega
          have hf0 := World.rowIs.congr HFC.out (g := fun c => .int .i64 ((lfB z f k R 0 c : Nat) : Int)) (fun c hc => by rw [HTS.out c hc])
          have HF0 := Lib.hid (show Fc wr wq.heap.size (lfB z f k R 0) from hf0)
          clear hf0 HFC hfz
          have k_M_0' := (hbel.cell (p := ⟨w.heap.size, 0, none⟩) hl_M).trans k_M_0
          have k_M_1' := (hbel.cell (p := ⟨w.heap.size, 1, none⟩) hl_M).trans k_M_1
          have k_M_2' := (hbel.cell (p := ⟨w.heap.size, 2, none⟩) hl_M).trans k_M_2
          clear hbel
          go_wp2_with fail
          go_loopw [14, 15, 101] (fun _ _ ix wr => ∃ p : Nat, p ≤ R ∧ ix = .int .i64 p ∧ Fc wr wq.heap.size (lfB z f k R p) ∧ Below wq.heap.size wq wr) (fun _ _ ix _ => R - (intOf ix).toNat)
          case atStart => exact ⟨0, Nat.zero_le _, rfl, HF0.out, HB2.out⟩
          case round =>
            obtain ⟨p, hp, rfl, hfc, hbel⟩ := hrel
            have HFC := Lib.hid hfc
            have HB3 := Lib.hid hbel
            have hsz3 := hbel.size
            have hgl3 := World.rowIs.lt hfc
            have hfz := World.rowIs.frozen hfc
            clear hfc
            by_cases hpn : p < R
            · obtain ⟨b', off, hpb, hcc⟩ := (HCq.out.below hbel).2.2 (by omega)
              obtain ⟨hcell, hrow⟩ := hcc p hpn
              rw [HRN.out p hpn] at hcell hrow
              subst hpb
              obtain ⟨b2', off2, hra, hc2⟩ := hrow.2.2 (by omega)
              have r1 := hrow.1
              have r2 := hrow.2.1
              unfold maxLen at r2
              rw [hra] at hcell
              have hci := hc2 k hki
              have hz := HZ7.out p hpn k hki
              obtain ⟨x, hx⟩ : ∃ x, z p k = x := ⟨_, rfl⟩
              rw [hx] at hci hz
              have HX := Lib.hid hx
              obtain ⟨bf, of, hfa, hcf⟩ := (HFq.out.below hbel).2.2 (by omega)
              have hfk := hcf p hpn
              obtain ⟨fk, hfke⟩ : ∃ x, f p = x := ⟨_, rfl⟩
              rw [hfke] at hfk
              have HFK := Lib.hid hfke
              subst hfa
              clear hcc hrow hra hc2 hx hcf hfke hbel
              have hix0 : (0 : Int) ≤ (p : Int) := by omega
              have hix1 : (p : Int) < (R : Int) := by omega
              have hii0 : (0 : Int) ≤ (k : Int) := by omega
              have hii1 : (k : Int) < (I : Int) := by omega
              by_cases hneg : x < 0
              · have x1 : (x == 1) = false := by simp; omega
                have x0 : (x == 0) = false := by simp; omega
                have HCT := Lib.hid (show ctS (z p k) (f p) = 4 by rw [HX.out]; exact if_pos hneg)
                go_wp2_with fail
                go_roundw
                case rel =>
                  refine ⟨p + 1, by omega, by go_num, World.rowIs.congr HFC.out (fun c hc => ?_), HB3.out⟩
                  rw [lfB_skip (by rw [HCT.out]; omega)]
                case measure => simp [intOf]; omega
              · by_cases hx1 : x = 1
                · subst hx1
                  cases fk
                  · have HCT := Lib.hid (show ctS (z p k) (f p) = 0 by rw [HX.out, HFK.out]; rfl)
                    obtain ⟨y, hy⟩ : ∃ y, lfB z f k R (p + 1) 0 = y := ⟨_, rfl⟩
                    have hq := HFC.out.cell (c := 0) (x := y + 1) (by decide) (by rw [lfB_hit hpn HCT.out, hy])
                    have hyl : y ≤ 200 := by rw [← hy]; exact Nat.le_trans (lfB_le z f k R (p + 1) 0) h1
                    have HY := Lib.hid hy
                    have eq1 : ((y + 1 : Nat) : Int) - 1 = (y : Int) := by omega
                    have eq2 : (y : Int) + 1 - 1 = (y : Int) := by omega
                    clear hy
                    go_wp2_with fail
                    go_roundw
                    case rel =>
                      refine ⟨p + 1, by omega, by go_num, ?_, ?_⟩
                      · exact HFC.out.dec (c := 0) (x := y) (by rw [lfB_hit hpn HCT.out, HY.out]) HY.out (fun d hd => lfB_skip (by rw [HCT.out]; exact fun h => hd h.symm))
                      · exact BlA
                    case measure => simp [intOf]; omega
                  · have HCT := Lib.hid (show ctS (z p k) (f p) = 2 by rw [HX.out, HFK.out]; rfl)
                    obtain ⟨y, hy⟩ : ∃ y, lfB z f k R (p + 1) 2 = y := ⟨_, rfl⟩
                    have hq := HFC.out.cell (c := 2) (x := y + 1) (by decide) (by rw [lfB_hit hpn HCT.out, hy])
                    have hyl : y ≤ 200 := by rw [← hy]; exact Nat.le_trans (lfB_le z f k R (p + 1) 2) h1
                    have HY := Lib.hid hy
                    have eq1 : ((y + 1 : Nat) : Int) - 1 = (y : Int) := by omega
                    have eq2 : (y : Int) + 1 - 1 = (y : Int) := by omega
                    clear hy
                    go_wp2_with fail
                    go_roundw
                    case rel =>
                      refine ⟨p + 1, by omega, by go_num, ?_, ?_⟩
                      · exact HFC.out.dec (c := 2) (x := y) (by rw [lfB_hit hpn HCT.out, HY.out]) HY.out (fun d hd => lfB_skip (by rw [HCT.out]; exact fun h => hd h.symm))
                      · exact BlA
                    case measure => simp [intOf]; omega
                · obtain rfl : x = 0 := by omega
                  cases fk
                  · have HCT := Lib.hid (show ctS (z p k) (f p) = 1 by rw [HX.out, HFK.out]; rfl)
                    obtain ⟨y, hy⟩ : ∃ y, lfB z f k R (p + 1) 1 = y := ⟨_, rfl⟩
                    have hq := HFC.out.cell (c := 1) (x := y + 1) (by decide) (by rw [lfB_hit hpn HCT.out, hy])
                    have hyl : y ≤ 200 := by rw [← hy]; exact Nat.le_trans (lfB_le z f k R (p + 1) 1) h1
                    have HY := Lib.hid hy
                    have eq1 : ((y + 1 : Nat) : Int) - 1 = (y : Int) := by omega
                    have eq2 : (y : Int) + 1 - 1 = (y : Int) := by omega
                    clear hy
                    go_wp2_with fail
                    go_roundw
                    case rel =>
                      refine ⟨p + 1, by omega, by go_num, ?_, ?_⟩
                      · exact HFC.out.dec (c := 1) (x := y) (by rw [lfB_hit hpn HCT.out, HY.out]) HY.out (fun d hd => lfB_skip (by rw [HCT.out]; exact fun h => hd h.symm))
                      · exact BlA
                    case measure => simp [intOf]; omega
                  · have HCT := Lib.hid (show ctS (z p k) (f p) = 3 by rw [HX.out, HFK.out]; rfl)
                    obtain ⟨y, hy⟩ : ∃ y, lfB z f k R (p + 1) 3 = y := ⟨_, rfl⟩
                    have hq := HFC.out.cell (c := 3) (x := y + 1) (by decide) (by rw [lfB_hit hpn HCT.out, hy])
                    have hyl : y ≤ 200 := by rw [← hy]; exact Nat.le_trans (lfB_le z f k R (p + 1) 3) h1
                    have HY := Lib.hid hy
                    have eq1 : ((y + 1 : Nat) : Int) - 1 = (y : Int) := by omega
                    have eq2 : (y : Int) + 1 - 1 = (y : Int) := by omega
                    clear hy
                    go_wp2_with fail
                    go_roundw
                    case rel =>
                      refine ⟨p + 1, by omega, by go_num, ?_, ?_⟩
                      · exact HFC.out.dec (c := 3) (x := y) (by rw [lfB_hit hpn HCT.out, HY.out]) HY.out (fun d hd => lfB_skip (by rw [HCT.out]; exact fun h => hd h.symm))
                      · exact BlA
                    case measure => simp [intOf]; omega
            · obtain rfl : p = R := by omega
              have HBX := Lib.hid (show Below w.heap.size w wr from HBw.out.trans (hbel.mono (by omega)))
              have hNr : N ≤ wr.heap.size := by omega
              have HTr := Lib.hid (HTq.out.below hbel)
              have HTZr := Lib.hid (HTZq.out.below hbel)
              have q0 : wr.cell? ⟨wq.heap.size, 0, none⟩ = some (.int .i64 0) := HFC.out.cell (c := 0) (x := 0) (by decide) (lfB_end z f k p 0)
              have q1 : wr.cell? ⟨wq.heap.size, 1, none⟩ = some (.int .i64 0) := HFC.out.cell (c := 1) (x := 0) (by decide) (lfB_end z f k p 1)
              have q2 : wr.cell? ⟨wq.heap.size, 2, none⟩ = some (.int .i64 0) := HFC.out.cell (c := 2) (x := 0) (by decide) (lfB_end z f k p 2)
              have q3 : wr.cell? ⟨wq.heap.size, 3, none⟩ = some (.int .i64 0) := HFC.out.cell (c := 3) (x := 0) (by decide) (lfB_end z f k p 3)
              clear hbel
              have HB := HBX
              have hs0 : w.heap.size ≤ wr.heap.size := HBX.out.size
              have hN := hNr
              by_cases hn0 : j = 0
              · subst hn0
                go_wp2_with fail
                refine calls_name fun WA3 hW => ?_
                have hs_WA3 : wr.heap.size ≤ WA3.heap.size := by rw [← hW]; (first | omega | (simp; done) | (simp; omega))
                have HL_WA3 := Lib.hid (show Below wr.heap.size wr WA3 by rw [← hW]; exact BlA)
                replace HB := Lib.hid (show Below w.heap.size w WA3 by rw [← hW]; exact BlA)
                replace hN : N ≤ WA3.heap.size := by rw [← hW]; (first | omega | (simp; done) | (simp; omega))
                replace hs0 : w.heap.size ≤ WA3.heap.size := by rw [← hW]; (first | omega | (simp; done) | (simp; omega))
                replace HTr := Lib.hid (HTr.out.below HL_WA3.out)
                clear HL_WA3
                clear hW
                refine (fawake_any (N := N) _ hN HTr.out).mono ?_
                rintro e wz4 ⟨rfl, hb⟩
                have hs_wz4 : WA3.heap.size ≤ wz4.heap.size := hb.size
                replace HB := Lib.hid (HB.out.trans (hb.mono hs0))
                replace hN : N ≤ wz4.heap.size := Nat.le_trans hN hb.size
                replace hs0 : w.heap.size ≤ wz4.heap.size := Nat.le_trans hs0 hb.size
                replace HTr := Lib.hid (HTr.out.below hb)
                clear hb
                go_wp2_with fail
                go_ret
                exact ⟨rfl, HB.out⟩
              · obtain ⟨b', off, hpb, hcc⟩ := HTZr.out.2.2 (by omega)
                obtain ⟨rfl, rfl⟩ : bt = b' ∧ 0 = off := by simpa using hpb
                obtain ⟨T, hT⟩ : ∃ T, j = T + 1 := ⟨j - 1, by omega⟩
                obtain ⟨g0, g1, g2, g3⟩ := hcc T (by omega)
                rw [Nat.zero_add] at g0 g1 g2 g3
                clear hcc hpb
                have eT : (j : Int) - 1 = (T : Int) := by omega
                have hT0 : (0 : Int) ≤ (T : Int) := by omega
                have hT1 : (T : Int) < (j : Int) := by omega
                have hnb : ((j : Int) == 0) = false := by simp; omega
                obtain ⟨c, hc4, hcp⟩ := HTL.out (by omega)
                rw [show j - 1 = T by omega] at hcp
                obtain ⟨y0, ey0⟩ : ∃ x, tt T 0 = x := ⟨_, rfl⟩
                rw [ey0] at g0
                obtain ⟨y1, ey1⟩ : ∃ x, tt T 1 = x := ⟨_, rfl⟩
                rw [ey1] at g1
                obtain ⟨y2, ey2⟩ : ∃ x, tt T 2 = x := ⟨_, rfl⟩
                rw [ey2] at g2
                obtain ⟨y3, ey3⟩ : ∃ x, tt T 3 = x := ⟨_, rfl⟩
                rw [ey3] at g3
                have hyy : ¬ (y0 = 0 ∧ y1 = 0 ∧ y2 = 0 ∧ y3 = 0) := by
                  rintro ⟨rfl, rfl, rfl, rfl⟩
                  obtain rfl | rfl | rfl | rfl : c = 0 ∨ c = 1 ∨ c = 2 ∨ c = 3 := by omega
                  all_goals omega
                clear hcp ey0 ey1 ey2 ey3 hT
                by_cases h0 : y0 = 0
                · by_cases h1' : y1 = 0
                  · by_cases h2' : y2 = 0
                    · by_cases h3' : y3 = 0
                      · exact absurd ⟨h0, h1', h2', h3'⟩ hyy
                      · have d3 : ((y3 : Int) == 0) = false := by simp; omega
                        have d3' : ¬ (y3 : Int) = 0 := by omega
                        go_wp2_with fail
                        refine calls_name fun WA11 hW => ?_
                        have hs_WA11 : wr.heap.size ≤ WA11.heap.size := by rw [← hW]; (first | omega | (simp; done) | (simp; omega))
                        have HL_WA11 := Lib.hid (show Below wr.heap.size wr WA11 by rw [← hW]; exact BlA)
                        replace HB := Lib.hid (show Below w.heap.size w WA11 by rw [← hW]; exact BlA)
                        replace hN : N ≤ WA11.heap.size := by rw [← hW]; (first | omega | (simp; done) | (simp; omega))
                        replace hs0 : w.heap.size ≤ WA11.heap.size := by rw [← hW]; (first | omega | (simp; done) | (simp; omega))
                        replace HTr := Lib.hid (HTr.out.below HL_WA11.out)
                        clear HL_WA11
                        clear hW
                        refine (fawake_any (N := N) _ hN HTr.out).mono ?_
                        rintro e wz12 ⟨rfl, hb⟩
                        have hs_wz12 : WA11.heap.size ≤ wz12.heap.size := hb.size
                        replace HB := Lib.hid (HB.out.trans (hb.mono hs0))
                        replace hN : N ≤ wz12.heap.size := Nat.le_trans hN hb.size
                        replace hs0 : w.heap.size ≤ wz12.heap.size := Nat.le_trans hs0 hb.size
                        replace HTr := Lib.hid (HTr.out.below hb)
                        clear hb
                        go_wp2_with fail
                        go_ret
                        exact ⟨rfl, HB.out⟩
                    · have d2 : ((y2 : Int) == 0) = false := by simp; omega
                      have d2' : ¬ (y2 : Int) = 0 := by omega
                      go_wp2_with fail
                      refine calls_name fun WA9 hW => ?_
                      have hs_WA9 : wr.heap.size ≤ WA9.heap.size := by rw [← hW]; (first | omega | (simp; done) | (simp; omega))
                      have HL_WA9 := Lib.hid (show Below wr.heap.size wr WA9 by rw [← hW]; exact BlA)
                      replace HB := Lib.hid (show Below w.heap.size w WA9 by rw [← hW]; exact BlA)
                      replace hN : N ≤ WA9.heap.size := by rw [← hW]; (first | omega | (simp; done) | (simp; omega))
                      replace hs0 : w.heap.size ≤ WA9.heap.size := by rw [← hW]; (first | omega | (simp; done) | (simp; omega))
                      replace HTr := Lib.hid (HTr.out.below HL_WA9.out)
                      clear HL_WA9
                      clear hW
                      refine (fawake_any (N := N) _ hN HTr.out).mono ?_
                      rintro e wz10 ⟨rfl, hb⟩
                      have hs_wz10 : WA9.heap.size ≤ wz10.heap.size := hb.size
                      replace HB := Lib.hid (HB.out.trans (hb.mono hs0))
                      replace hN : N ≤ wz10.heap.size := Nat.le_trans hN hb.size
                      replace hs0 : w.heap.size ≤ wz10.heap.size := Nat.le_trans hs0 hb.size
                      replace HTr := Lib.hid (HTr.out.below hb)
                      clear hb
                      go_wp2_with fail
                      go_ret
                      exact ⟨rfl, HB.out⟩
                  · have d1 : ((y1 : Int) == 0) = false := by simp; omega
                    have d1' : ¬ (y1 : Int) = 0 := by omega
                    go_wp2_with fail
                    refine calls_name fun WA7 hW => ?_
                    have hs_WA7 : wr.heap.size ≤ WA7.heap.size := by rw [← hW]; (first | omega | (simp; done) | (simp; omega))
                    have HL_WA7 := Lib.hid (show Below wr.heap.size wr WA7 by rw [← hW]; exact BlA)
                    replace HB := Lib.hid (show Below w.heap.size w WA7 by rw [← hW]; exact BlA)
                    replace hN : N ≤ WA7.heap.size := by rw [← hW]; (first | omega | (simp; done) | (simp; omega))
                    replace hs0 : w.heap.size ≤ WA7.heap.size := by rw [← hW]; (first | omega | (simp; done) | (simp; omega))
                    replace HTr := Lib.hid (HTr.out.below HL_WA7.out)
                    clear HL_WA7
                    clear hW
                    refine (fawake_any (N := N) _ hN HTr.out).mono ?_
                    rintro e wz8 ⟨rfl, hb⟩
                    have hs_wz8 : WA7.heap.size ≤ wz8.heap.size := hb.size
                    replace HB := Lib.hid (HB.out.trans (hb.mono hs0))
                    replace hN : N ≤ wz8.heap.size := Nat.le_trans hN hb.size
                    replace hs0 : w.heap.size ≤ wz8.heap.size := Nat.le_trans hs0 hb.size
                    replace HTr := Lib.hid (HTr.out.below hb)
                    clear hb
                    go_wp2_with fail
                    go_ret
                    exact ⟨rfl, HB.out⟩
                · have d0 : ((y0 : Int) == 0) = false := by simp; omega
                  have d0' : ¬ (y0 : Int) = 0 := by omega
                  go_wp2_with fail
                  refine calls_name fun WA5 hW => ?_
                  have hs_WA5 : wr.heap.size ≤ WA5.heap.size := by rw [← hW]; (first | omega | (simp; done) | (simp; omega))
                  have HL_WA5 := Lib.hid (show Below wr.heap.size wr WA5 by rw [← hW]; exact BlA)
                  replace HB := Lib.hid (show Below w.heap.size w WA5 by rw [← hW]; exact BlA)
                  replace hN : N ≤ WA5.heap.size := by rw [← hW]; (first | omega | (simp; done) | (simp; omega))
                  replace hs0 : w.heap.size ≤ WA5.heap.size := by rw [← hW]; (first | omega | (simp; done) | (simp; omega))
                  replace HTr := Lib.hid (HTr.out.below HL_WA5.out)
                  clear HL_WA5
                  clear hW
                  refine (fawake_any (N := N) _ hN HTr.out).mono ?_
                  rintro e wz6 ⟨rfl, hb⟩
                  have hs_wz6 : WA5.heap.size ≤ wz6.heap.size := hb.size
                  replace HB := Lib.hid (HB.out.trans (hb.mono hs0))
                  replace hN : N ≤ wz6.heap.size := Nat.le_trans hN hb.size
                  replace hs0 : w.heap.size ≤ wz6.heap.size := Nat.le_trans hs0 hb.size
                  replace HTr := Lib.hid (HTr.out.below hb)
                  clear hb
                  go_wp2_with fail
                  go_ret
                  exact ⟨rfl, HB.out⟩

end Go.Proofs.YtmecipfdelgfbaaDoor
