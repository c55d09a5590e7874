import Derived.Test.YtjobopafcgnljaaGreatAl
import Derived.Test.YtjobopafcgnljaaGreatMdA
namespace Go.Proofs.YtjobopafcgnljaaGreat
open Go.RowKit
structure MdD where
 R : Nat → Nat
 ra : Nat → Option Addr
 rc : Nat → Nat
 ta : Nat → Nat → Option Addr
 rn : Nat → Nat → Nat
 tc : Nat → Nat → Nat
 z : Nat → Nat → Nat → Int
def Ms (w : World) (a : Option Addr) (n cap : Nat) (D : MdD) : Prop :=
 n ≤ cap ∧ cap ≤ maxLen ∧ (0 < n → ∃ b off, a = some ⟨b, off, none⟩ ∧ ∀ i, i < n → w.cell? ⟨b, off + i, none⟩ = some (.slice (D.ra i) (D.R i) (D.rc i)) ∧ Rw w (D.ra i) (D.R i) (D.rc i) (D.ta i) (D.rn i) (D.tc i) (D.z i))
theorem Ms.below {w w' : World} {a : Option Addr} {n cap : Nat} {D : MdD} (h : Ms w a n cap D) (hb : Below w.heap.size w w') : Ms w' a n cap D := by
 obtain ⟨h0, h1, h2⟩ := h
 refine ⟨h0, h1, fun hn => ?_⟩
 obtain ⟨b, off, e, hc⟩ := h2 hn
 exact ⟨b, off, e, fun i hi => ⟨cell_mono (hc i hi).1 hb, (hc i hi).2.below hb⟩⟩
noncomputable def vcd (D : MdD) (i : Nat) : Int := vldC (D.R i) (D.R 0) (D.rn i) (D.z i)
theorem vcd_zero {D : MdD} {i : Nat} (h : vcd D i = 0) : 0 < D.R i ∧ D.R i = D.R 0 ∧ D.R i ≤ 21 ∧ 2 ≤ D.rn i 0 ∧ D.rn i 0 ≤ 6 ∧ ∀ k, k < D.R i → rowMd (D.rn i 0) (D.rn i k) (D.z i k) = 0 := by
 unfold vcd vldC at h
 by_cases h1 : D.R 0 < 1 ∨ 21 < D.R 0 ∨ D.R i ≠ D.R 0
 ·rw [if_pos h1] at h; exact absurd h (by decide)
 ·rw [if_neg h1] at h
  by_cases h2 : D.rn i 0 < 2 ∨ 6 < D.rn i 0
  ·rw [if_pos h2] at h; exact absurd h (by decide)
  ·rw [if_neg h2] at h
   exact ⟨by omega, by omega, by omega, by omega, by omega, fun k hk => fstC_zero h k hk⟩
open Classical in
noncomputable def chkM (D : MdD) (n m : Nat) (ks : Nat → Int) (q : Int) : Int :=
 if 60 < n then 5 else if fstC (vcd D) n ≠ 0 then fstC (vcd D) n else if ¬ (∀ i, i < n → D.rn i 0 ≤ 2) then 19 else if m ≠ n then 1 else if n = 0 ∨ q < 0 ∨ (D.R 0 : Int) ≤ q then 3 else if ¬ (∀ i, i < m → -2 ≤ ks i ∧ ks i ≤ 1) then 3 else 0
def lftN (ks : Nat → Int) : Nat → Nat
 | 0 => 0
 | k + 1 => lftN ks k + if 0 ≤ ks k then 1 else 0
theorem lftN_le (ks : Nat → Int) : ∀ k, lftN ks k ≤ k
 | 0 => Nat.le_refl _
 | k + 1 => by have := lftN_le ks k; show _ + _ ≤ _; split <;> omega
open Classical in
noncomputable def chkP (D : MdD) (n m : Nat) (ks : Nat → Int) (q : Int) : Int := if chkM D n m ks q ≠ 0 then chkM D n m ks q else if 20 < lftN ks m then 5 else 0
theorem chkP_of {D : MdD} {n m : Nat} {ks : Nat → Int} {q c : Int} (h : chkM D n m ks q = c) (h0 : c ≠ 0) : chkP D n m ks q = c := by unfold chkP; rw [if_pos (by rw [h]; exact h0), h]
theorem chkM_60 {D : MdD} {n m : Nat} {ks : Nat → Int} {q : Int} (h : 60 < n) : chkM D n m ks q = 5 := by unfold chkM; rw [if_pos h]
theorem chkM_v {D : MdD} {n m k : Nat} {ks : Nat → Int} {q c : Int} (h : ¬ 60 < n) (h1 : fstC (vcd D) k = 0) (h2 : vcd D k = c) (h0 : c ≠ 0) (hk : k < n) : chkM D n m ks q = c := by
 have e := fstC_hit h1 (by rw [h2]; exact h0) n hk
 unfold chkM; rw [if_neg h, e, h2, if_pos h0]
theorem chkM_c {D : MdD} {n m k : Nat} {ks : Nat → Int} {q : Int} (h : ¬ 60 < n) (h1 : fstC (vcd D) n = 0) (hk : k < n) (h2 : 2 < D.rn k 0) : chkM D n m ks q = 19 := by
 unfold chkM; rw [if_neg h, if_neg (fun hh => hh h1), if_pos (fun hh => by have := hh k hk; omega)]
theorem chkM_m {D : MdD} {n m : Nat} {ks : Nat → Int} {q : Int} (h : ¬ 60 < n) (h1 : fstC (vcd D) n = 0) (h2 : ∀ i, i < n → D.rn i 0 ≤ 2) (h3 : m ≠ n) : chkM D n m ks q = 1 := by
 unfold chkM; rw [if_neg h, if_neg (fun hh => hh h1), if_neg (fun hh => hh h2), if_pos h3]
theorem chkM_q {D : MdD} {n : Nat} {ks : Nat → Int} {q : Int} (h : ¬ 60 < n) (h1 : fstC (vcd D) n = 0) (h2 : ∀ i, i < n → D.rn i 0 ≤ 2) (h3 : n = 0 ∨ q < 0 ∨ (D.R 0 : Int) ≤ q) : chkM D n n ks q = 3 := by
 unfold chkM; rw [if_neg h, if_neg (fun hh => hh h1), if_neg (fun hh => hh h2), if_neg (fun hh => hh rfl), if_pos h3]
theorem chkM_k {D : MdD} {n k : Nat} {ks : Nat → Int} {q : Int} (h : ¬ 60 < n) (h1 : fstC (vcd D) n = 0) (h2 : ∀ i, i < n → D.rn i 0 ≤ 2) (h3 : ¬ (n = 0 ∨ q < 0 ∨ (D.R 0 : Int) ≤ q)) (hk : k < n) (h4 : ¬ (-2 ≤ ks k ∧ ks k ≤ 1)) : chkM D n n ks q = 3 := by
 unfold chkM; rw [if_neg h, if_neg (fun hh => hh h1), if_neg (fun hh => hh h2), if_neg (fun hh => hh rfl), if_neg h3, if_pos (fun hh => h4 (hh k hk))]
theorem chkM_0 {D : MdD} {n : Nat} {ks : Nat → Int} {q : Int} (h : ¬ 60 < n) (h1 : fstC (vcd D) n = 0) (h2 : ∀ i, i < n → D.rn i 0 ≤ 2) (h3 : ¬ (n = 0 ∨ q < 0 ∨ (D.R 0 : Int) ≤ q)) (h4 : ∀ i, i < n → -2 ≤ ks i ∧ ks i ≤ 1) : chkM D n n ks q = 0 := by
 unfold chkM; rw [if_neg h, if_neg (fun hh => hh h1), if_neg (fun hh => hh h2), if_neg (fun hh => hh rfl), if_neg h3, if_neg (fun hh => hh h4)]
theorem block_nameB {P : Program} {Q : Exit → Act → World → Prop} {c : Code} {a : Act} {w : World} (h : ∀ W, w = W → c.wp P Q a W) : c.wp P Q a w := h w rfl
set_option maxHeartbeats 8000000 in
set_option maxRecDepth 20000 in
theorem checkP_any (am ak : Option Addr) (n cm m ck : Nat) (D : MdD) (ks : Nat → Int) (q : Int) (w : World) (h : Ms w am n cm D) (hk : Is w ak m ck ks) :
  Calls Tryz.prog 7 #[.slice am n cm, .slice ak m ck, .int .i64 q] w fun e w' => e = .returned (.int .i64 (chkP D n m ks q)) ∧ Below w.heap.size w w' := by
 have HA := Lib.hid h
 have HK := Lib.hid hk
 have bc := h.1
 have bm := h.2.1
 have kc := hk.1
 have km := hk.2.1
 unfold maxLen at bm km
 clear h hk
 have HB := Lib.hid (Below.refl w.heap.size w)
 by_cases h60 : 60 < n
 ·have HE := Lib.hid (show chkP D n m ks q = 5 from chkP_of (chkM_60 h60) (by decide))
  go_enter Tryz.func7, Tryz.ntmps7
  go_wp2_with fail
  go_ret
  rw [HE.out]
  exact ⟨rfl, HB.out⟩
 ·go_enter Tryz.func7, Tryz.ntmps7
  go_wp2_with fail
  go_loopw [20] (fun i wr => ∃ k : Nat, k ≤ n ∧ i = .int .i64 k ∧ Hid (fstC (vcd D) k = 0) ∧ Below w.heap.size w wr) (fun i _ => n - (intOf i).toNat)
  case atStart => exact ⟨0, Nat.zero_le _, rfl, Lib.hid rfl, Below.refl _ _⟩
  case round =>
   clear HB
   obtain ⟨k, hkn, rfl, hin, hbel⟩ := hrel
   have HB := Lib.hid hbel
   have hs0 : w.heap.size ≤ wr.heap.size := hbel.size
   clear hbel
   by_cases hlt : k < n
   ·obtain ⟨b, off, rfl, hc⟩ := (HA.out.below HB.out).2.2 (by omega)
    obtain ⟨g0, hr0⟩ := hc k hlt
    obtain ⟨g1, _⟩ := hc 0 (by omega)
    rw [Nat.add_zero] at g1
    have HR := Lib.hid hr0
    obtain ⟨R0, hR0⟩ : ∃ x, D.R 0 = x := ⟨_, rfl⟩
    obtain ⟨ra0, hra0⟩ : ∃ x, D.ra 0 = x := ⟨_, rfl⟩
    obtain ⟨rc0, hrc0⟩ : ∃ x, D.rc 0 = x := ⟨_, rfl⟩
    obtain ⟨v, hv⟩ : ∃ v, vcd D k = v := ⟨_, rfl⟩
    have HV := Lib.hid hv
    have HVX := Lib.hid (show vldC (D.R k) R0 (D.rn k) (D.z k) = v by rw [← hR0]; exact hv)
    rw [hR0, hra0, hrc0] at g1
    have hlb : b < wr.heap.size := World.block_lt_of_cell? wr _ g0
    have hkz : (k : Int) < (n : Int) := by omega
    have hk0 : (0 : Int) ≤ (k : Int) := by omega
    have hn0 : (0 : Int) < (n : Int) := by omega
    have hn0n : 0 < n := by omega
    have HR00 := Lib.hid hR0
    clear hc hr0 hv hR0 hra0 hrc0
    by_cases hv0 : v = 0
    ·subst hv0
     have HIN := Lib.hid (fstC_step hin.out HV.out)
     go_wp2_with fail
     refine region_name fun W1 hW => ?_
     have hs_W1 : wr.heap.size ≤ W1.heap.size := by rw [← hW]; exact OmT
     have g1' : W1.cell? ⟨b, off, none⟩ = some (.slice ra0 R0 rc0) := by rw [← hW]; exact cell_mono g1 (bel1 wr _)
     have hlb' : b < W1.heap.size := by rw [← hW]; exact OmT
     clear g0 g1 hlb
     have g1 := g1'
     have hlb := hlb'
     have HL_W1 := Lib.hid (show Below wr.heap.size wr W1 by rw [← hW]; exact BlA)
     have k_M_0 : W1.cell? ⟨wr.heap.size, 0, none⟩ = some (.slice (D.ra k) (D.R k) (D.rc k)) := by rw [← hW]; exact CeA
     have f_M : ∀ o, W1.frozen? ⟨wr.heap.size, o, none⟩ = false := by intro o; rw [← hW]; exact CeA
     have HX_M := Lib.hid (show Bn W1 (wr.heap.size) by rw [← hW]; exact KpA)
     replace HB := Lib.hid (show Below w.heap.size w W1 by rw [← hW]; exact BlA)
     replace hs0 : w.heap.size ≤ W1.heap.size := by rw [← hW]; exact OmT
     have hl_M : wr.heap.size < W1.heap.size := by rw [← hW]; exact OmT
     replace HR := Lib.hid (HR.out.below HL_W1.out)
     clear g1' hlb'
     clear HL_W1
     clear hW
     go_region_held3 (fun w' => w'.cell? ⟨b, off, none⟩ = some (.slice ra0 R0 rc0) ∧ w'.cell? ⟨wr.heap.size, 0, none⟩ = some (.slice (D.ra k) (D.R k) (D.rc k)))
      (first | (go_keep; done) | ((try dsimp only); (repeat' apply And.intro) <;> (first | (go_keep; done) | (exact cell_keep_alloc_drew (by first | omega | (simp; omega)) (by first | assumption | go_simp)) | (exact cell_keep_alloc (by first | omega | (simp; omega)) (by first | assumption | go_simp)) | (rw [cell_set2 _ _ _ _ _ _ _ _ (by omega)]; assumption) | (rw [cell_set3 _ _ _ _ _ _ _ _ _ _ (by omega)]; assumption))))
      (first
       | (go_at_call 18; refine (mvalid_any _ _ _ _ _ _ _ _ _ (by exact HR.out)).mono ?_; rw [HVX.out]; rintro e wc ⟨rfl, hb⟩; replace hb : Below W1.heap.size W1 wc := (by first | exact hb | exact bel_of_drew hb); have g1' : wc.cell? ⟨b, off, none⟩ = some (.slice ra0 R0 rc0) := (hb.cell (p := ⟨b, off, none⟩) hlb).trans g1; have k_M_0' : wc.cell? ⟨wr.heap.size, 0, none⟩ = some (.slice (D.ra k) (D.R k) (D.rc k)) := (hb.cell (p := ⟨wr.heap.size, 0, none⟩) hl_M).trans k_M_0; have hs_wc : W1.heap.size ≤ wc.heap.size := hb.size; replace k_M_0 : wc.cell? ⟨wr.heap.size, 0, none⟩ = some (.slice (D.ra k) (D.R k) (D.rc k)) := (hb.cell (p := ⟨wr.heap.size, 0, none⟩) hl_M).trans k_M_0; replace f_M : ∀ o, wc.frozen? ⟨wr.heap.size, o, none⟩ = false := fun o => (hb.frozen (p := ⟨wr.heap.size, o, none⟩) hl_M).trans (f_M o); replace HX_M := Lib.hid (HX_M.out.below hb); replace HB := Lib.hid (HB.out.trans (hb.mono hs0)); replace hs0 : w.heap.size ≤ wc.heap.size := Nat.le_trans hs0 hb.size; replace hl_M : wr.heap.size < wc.heap.size := Nat.lt_of_lt_of_le hl_M hb.size; replace HR := Lib.hid (HR.out.below hb); clear hb; skip))
     go_wp2_with fail
     go_roundw
     case rel => exact ⟨k + 1, by omega, by go_num, HIN, HB.out⟩
     case measure => simp [intOf]; omega
    ·have z0 : (v == 0) = false := by simpa using hv0
     have HE := Lib.hid (show chkP D n m ks q = v from chkP_of (chkM_v h60 hin.out HV.out hv0 hlt) (hv0))
     go_wp2_with fail
     refine region_name fun W1 hW => ?_
     have hs_W1 : wr.heap.size ≤ W1.heap.size := by rw [← hW]; exact OmT
     have g1' : W1.cell? ⟨b, off, none⟩ = some (.slice ra0 R0 rc0) := by rw [← hW]; exact cell_mono g1 (bel1 wr _)
     have hlb' : b < W1.heap.size := by rw [← hW]; exact OmT
     clear g0 g1 hlb
     have g1 := g1'
     have hlb := hlb'
     have HL_W1 := Lib.hid (show Below wr.heap.size wr W1 by rw [← hW]; exact BlA)
     have k_M_0 : W1.cell? ⟨wr.heap.size, 0, none⟩ = some (.slice (D.ra k) (D.R k) (D.rc k)) := by rw [← hW]; exact CeA
     have f_M : ∀ o, W1.frozen? ⟨wr.heap.size, o, none⟩ = false := by intro o; rw [← hW]; exact CeA
     have HX_M := Lib.hid (show Bn W1 (wr.heap.size) by rw [← hW]; exact KpA)
     replace HB := Lib.hid (show Below w.heap.size w W1 by rw [← hW]; exact BlA)
     replace hs0 : w.heap.size ≤ W1.heap.size := by rw [← hW]; exact OmT
     have hl_M : wr.heap.size < W1.heap.size := by rw [← hW]; exact OmT
     replace HR := Lib.hid (HR.out.below HL_W1.out)
     clear g1' hlb'
     clear HL_W1
     clear hW
     go_region_held3 (fun w' => w'.cell? ⟨b, off, none⟩ = some (.slice ra0 R0 rc0) ∧ w'.cell? ⟨wr.heap.size, 0, none⟩ = some (.slice (D.ra k) (D.R k) (D.rc k)))
      (first | (go_keep; done) | ((try dsimp only); (repeat' apply And.intro) <;> (first | (go_keep; done) | (exact cell_keep_alloc_drew (by first | omega | (simp; omega)) (by first | assumption | go_simp)) | (exact cell_keep_alloc (by first | omega | (simp; omega)) (by first | assumption | go_simp)) | (rw [cell_set2 _ _ _ _ _ _ _ _ (by omega)]; assumption) | (rw [cell_set3 _ _ _ _ _ _ _ _ _ _ (by omega)]; assumption))))
      (first
       | (go_at_call 18; refine (mvalid_any _ _ _ _ _ _ _ _ _ (by exact HR.out)).mono ?_; rw [HVX.out]; rintro e wc ⟨rfl, hb⟩; replace hb : Below W1.heap.size W1 wc := (by first | exact hb | exact bel_of_drew hb); have g1' : wc.cell? ⟨b, off, none⟩ = some (.slice ra0 R0 rc0) := (hb.cell (p := ⟨b, off, none⟩) hlb).trans g1; have k_M_0' : wc.cell? ⟨wr.heap.size, 0, none⟩ = some (.slice (D.ra k) (D.R k) (D.rc k)) := (hb.cell (p := ⟨wr.heap.size, 0, none⟩) hl_M).trans k_M_0; have hs_wc : W1.heap.size ≤ wc.heap.size := hb.size; replace k_M_0 : wc.cell? ⟨wr.heap.size, 0, none⟩ = some (.slice (D.ra k) (D.R k) (D.rc k)) := (hb.cell (p := ⟨wr.heap.size, 0, none⟩) hl_M).trans k_M_0; replace f_M : ∀ o, wc.frozen? ⟨wr.heap.size, o, none⟩ = false := fun o => (hb.frozen (p := ⟨wr.heap.size, o, none⟩) hl_M).trans (f_M o); replace HX_M := Lib.hid (HX_M.out.below hb); replace HB := Lib.hid (HB.out.trans (hb.mono hs0)); replace hs0 : w.heap.size ≤ wc.heap.size := Nat.le_trans hs0 hb.size; replace hl_M : wr.heap.size < wc.heap.size := Nat.lt_of_lt_of_le hl_M hb.size; replace HR := Lib.hid (HR.out.below hb); clear hb; skip))
     go_wp2_with fail
     go_ret
     rw [HE.out]
     exact ⟨rfl, HB.out⟩
   ·obtain rfl : k = n := by omega
    have HALL := Lib.hid (fun i (hi : i < k) => vcd_zero (fstC_zero hin.out i hi))
    obtain ⟨wv, rfl⟩ : ∃ x : World, x = wr := ⟨_, rfl⟩
    go_wp2_with fail
    go_loopw [37] (fun i wr => ∃ j : Nat, j ≤ k ∧ i = .int .i64 j ∧ Hid (∀ x, x < j → D.rn x 0 ≤ 2) ∧ Below w.heap.size w wr) (fun i _ => k - (intOf i).toNat)
    case atStart => exact ⟨0, Nat.zero_le _, rfl, Lib.hid (fun x hx => by omega), HB.out⟩
    case round =>
     clear HB hs0
     obtain ⟨j, hjk, rfl, hin2, hbel⟩ := hrel
     have HB := Lib.hid hbel
     have hs0 : w.heap.size ≤ wr.heap.size := hbel.size
     clear hbel
     by_cases hjl : j < k
     ·obtain ⟨b, off, rfl, hc⟩ := (HA.out.below HB.out).2.2 (by omega)
      obtain ⟨g0, hr0⟩ := hc j hjl
      have HR := Lib.hid hr0
      have hRj := (HALL.out j hjl).1
      obtain ⟨K, hK⟩ : ∃ K, D.rn j 0 = K := ⟨_, rfl⟩
      have HKK := Lib.hid hK
      have hK6 := (HALL.out j hjl).2.2.2.2.1
      rw [hK] at hK6
      have hjz : (j : Int) < (k : Int) := by omega
      have hj0 : (0 : Int) ≤ (j : Int) := by omega
      clear hc hr0 hK
      by_cases h2 : K ≤ 2
      ·go_wp2_with fail
       refine calls_name fun W2 hW => ?_
       have hs_W2 : wr.heap.size ≤ W2.heap.size := by rw [← hW]; exact OmT
       have HL_W2 := Lib.hid (show Below wr.heap.size wr W2 by rw [← hW]; exact BlA)
       replace HB := Lib.hid (show Below w.heap.size w W2 by rw [← hW]; exact BlA)
       replace hs0 : w.heap.size ≤ W2.heap.size := by rw [← hW]; exact OmT
       replace HR := Lib.hid (HR.out.below HL_W2.out)
       clear HL_W2
       clear hW
       refine (mcats_any _ _ _ _ _ _ _ _ HR.out hRj).mono ?_
       rw [HKK.out]
       rintro e wd ⟨rfl, hb⟩
       have hs_wd : W2.heap.size ≤ wd.heap.size := hb.size
       replace HB := Lib.hid (HB.out.trans (hb.mono hs0))
       replace hs0 : w.heap.size ≤ wd.heap.size := Nat.le_trans hs0 hb.size
       replace HR := Lib.hid (HR.out.below hb)
       clear hb
       go_wp2_with fail
       go_roundw
       case rel => exact ⟨j + 1, by omega, by go_num, Lib.hid (fun x hx => by by_cases e : x = j; (· subst e; rw [HKK.out]; exact h2); (· exact hin2.out x (by omega))), HB.out⟩
       case measure => simp [intOf]; omega
      ·have HE := Lib.hid (show chkP D k m ks q = 19 from chkP_of (chkM_c h60 hin.out hjl (by rw [HKK.out]; omega)) (by decide))
       go_wp2_with fail
       refine calls_name fun W2 hW => ?_
       have hs_W2 : wr.heap.size ≤ W2.heap.size := by rw [← hW]; exact OmT
       have HL_W2 := Lib.hid (show Below wr.heap.size wr W2 by rw [← hW]; exact BlA)
       replace HB := Lib.hid (show Below w.heap.size w W2 by rw [← hW]; exact BlA)
       replace hs0 : w.heap.size ≤ W2.heap.size := by rw [← hW]; exact OmT
       replace HR := Lib.hid (HR.out.below HL_W2.out)
       clear HL_W2
       clear hW
       refine (mcats_any _ _ _ _ _ _ _ _ HR.out hRj).mono ?_
       rw [HKK.out]
       rintro e wd ⟨rfl, hb⟩
       have hs_wd : W2.heap.size ≤ wd.heap.size := hb.size
       replace HB := Lib.hid (HB.out.trans (hb.mono hs0))
       replace hs0 : w.heap.size ≤ wd.heap.size := Nat.le_trans hs0 hb.size
       replace HR := Lib.hid (HR.out.below hb)
       clear hb
       go_wp2_with fail
       go_ret
       rw [HE.out]
       exact ⟨rfl, HB.out⟩
     ·obtain rfl : j = k := by omega
      have HC2 := hin2
      by_cases hm : m = j
      ·subst hm
       by_cases hj0 : m = 0
       ·have hz : (m : Int) = 0 := by omega
        have HE := Lib.hid (show chkP D m m ks q = 3 from chkP_of (chkM_q h60 hin.out HC2.out (.inl hj0)) (by decide))
        go_wp2_with fail
        go_ret
        rw [HE.out]
        exact ⟨rfl, HB.out⟩
       ·have hz : ¬ (m : Int) = 0 := by omega
        have hz2 : ((m : Int) == 0) = false := by simp; omega
        obtain ⟨b, off, rfl, hc⟩ := (HA.out.below HB.out).2.2 (by omega)
        obtain ⟨g1, _⟩ := hc 0 (by omega)
        rw [Nat.add_zero] at g1
        have hn0 : (0 : Int) < (m : Int) := by omega
        have hn0n : 0 < m := by omega
        clear hc
        obtain ⟨R0, hR0⟩ : ∃ x, D.R 0 = x := ⟨_, rfl⟩
        have HR00 := Lib.hid hR0
        rw [hR0] at g1
        clear hR0
        have hR6 := (HALL.out 0 (by omega)).2.2.1
        rw [HR00.out] at hR6
        by_cases hq : q < 0
        ·have HE := Lib.hid (show chkP D m m ks q = 3 from chkP_of (chkM_q h60 hin.out HC2.out (.inr (.inl hq))) (by decide))
         go_wp2_with fail
         go_ret
         rw [HE.out]
         exact ⟨rfl, HB.out⟩
        by_cases hq2 : (R0 : Int) ≤ q
        ·have HE := Lib.hid (show chkP D m m ks q = 3 from chkP_of (chkM_q h60 hin.out HC2.out (.inr (.inr (by rw [HR00.out]; exact hq2)))) (by decide))
         go_wp2_with fail
         go_ret
         rw [HE.out]
         exact ⟨rfl, HB.out⟩
        have HQ := Lib.hid (show ¬ (m = 0 ∨ q < 0 ∨ (D.R 0 : Int) ≤ q) by rw [HR00.out]; omega)
        go_wp2_with fail
        go_loopw [12, 68] (fun lf i wz => ∃ j : Nat, j ≤ m ∧ i = .int .i64 j ∧ lf = .int .i64 ((lftN ks j : Nat) : Int) ∧ Hid (∀ x, x < j → -2 ≤ ks x ∧ ks x ≤ 1) ∧ wr = wz) (fun _ i _ => m - (intOf i).toNat)
        case atStart => exact ⟨0, Nat.zero_le _, rfl, rfl, Lib.hid (fun x hx => by omega), rfl⟩
        case round =>
         obtain ⟨x, hx, rfl, rfl, hin3, rfl⟩ := hrel
         have hlf := lftN_le ks x
         obtain ⟨lf, hlf2⟩ : ∃ l, lftN ks x = l := ⟨_, rfl⟩
         rw [hlf2] at hlf
         rw [hlf2]
         have HLF := Lib.hid hlf2
         clear hlf2
         by_cases hxm : x < m
         ·obtain ⟨b2, off2, rfl, hc2⟩ := (HK.out.below HB.out).2.2 (by omega)
          have hcell := hc2 x hxm
          obtain ⟨v, hv⟩ : ∃ v, ks x = v := ⟨_, rfl⟩
          rw [hv] at hcell
          have HV := Lib.hid hv
          have hxz : (x : Int) < (m : Int) := by omega
          have hx0 : (0 : Int) ≤ (x : Int) := by omega
          clear hc2 hv
          by_cases h1 : v = 0
          ·obtain rfl : v = 0 := by omega
           go_wp2_with fail
           go_roundw
           case rel => exact ⟨x + 1, by omega, by go_num, by show _ = Value.int .i64 ((lftN ks x + (if 0 ≤ ks x then 1 else 0) : Nat) : Int); rw [HV.out, if_pos (by decide), HLF.out]; go_num, Lib.hid (fun y hy => by by_cases e : y = x; (· subst e; rw [HV.out]; omega); (· exact hin3.out y (by omega))), by first | rfl | trivial⟩
           case measure => simp [intOf]; omega
          by_cases h2 : v = 1
          ·obtain rfl : v = 1 := by omega
           go_wp2_with fail
           go_roundw
           case rel => exact ⟨x + 1, by omega, by go_num, by show _ = Value.int .i64 ((lftN ks x + (if 0 ≤ ks x then 1 else 0) : Nat) : Int); rw [HV.out, if_pos (by decide), HLF.out]; go_num, Lib.hid (fun y hy => by by_cases e : y = x; (· subst e; rw [HV.out]; omega); (· exact hin3.out y (by omega))), by first | rfl | trivial⟩
           case measure => simp [intOf]; omega
          by_cases h3 : v = -1
          ·obtain rfl : v = (-1) := by omega
           go_wp2_with fail
           go_roundw
           case rel => exact ⟨x + 1, by omega, by go_num, by show _ = Value.int .i64 ((lftN ks x + (if 0 ≤ ks x then 1 else 0) : Nat) : Int); rw [HV.out, if_neg (by decide), HLF.out]; go_num, Lib.hid (fun y hy => by by_cases e : y = x; (· subst e; rw [HV.out]; omega); (· exact hin3.out y (by omega))), by first | rfl | trivial⟩
           case measure => simp [intOf]; omega
          by_cases h4 : v = -2
          ·obtain rfl : v = (-2) := by omega
           go_wp2_with fail
           go_roundw
           case rel => exact ⟨x + 1, by omega, by go_num, by show _ = Value.int .i64 ((lftN ks x + (if 0 ≤ ks x then 1 else 0) : Nat) : Int); rw [HV.out, if_neg (by decide), HLF.out]; go_num, Lib.hid (fun y hy => by by_cases e : y = x; (· subst e; rw [HV.out]; omega); (· exact hin3.out y (by omega))), by first | rfl | trivial⟩
           case measure => simp [intOf]; omega
          have HE := Lib.hid (show chkP D m m ks q = 3 from chkP_of (chkM_k h60 hin.out HC2.out HQ.out hxm (by rw [HV.out]; omega)) (by decide))
          have e1 : (v == 0) = false := by simpa using h1
          have e2 : (v == 1) = false := by simpa using h2
          have e3 : (v == -1) = false := by simpa using h3
          have e4 : (v == -2) = false := by simpa using h4
          go_wp2_with fail
          go_ret
          rw [HE.out]
          exact ⟨rfl, HB.out⟩
         ·obtain rfl : x = m := by omega
          have HC0 := Lib.hid (chkM_0 (ks := ks) h60 hin.out HC2.out HQ.out hin3.out)
          by_cases hl : 20 < lf
          ·have HE := Lib.hid (show chkP D x x ks q = 5 by unfold chkP; rw [if_neg (fun hh => hh HC0.out), if_pos (by rw [HLF.out]; exact hl)])
           go_wp2_with fail
           go_ret
           rw [HE.out]
           exact ⟨rfl, HB.out⟩
          ·have HE := Lib.hid (show chkP D x x ks q = 0 by unfold chkP; rw [if_neg (fun hh => hh HC0.out), if_neg (by rw [HLF.out]; exact hl)])
           go_wp2_with fail
           go_ret
           rw [HE.out]
           exact ⟨rfl, HB.out⟩
      ·have d1 : ¬ (m : Int) = (j : Int) := by omega
       have HE := Lib.hid (show chkP D j m ks q = 1 from chkP_of (chkM_m h60 hin.out HC2.out hm) (by decide))
       go_wp2_with fail
       go_ret
       rw [HE.out]
       exact ⟨rfl, HB.out⟩
set_option maxHeartbeats 8000000 in
set_option maxRecDepth 20000 in
theorem models_any (am ak : Option Addr) (n cm m ck : Nat) (D : MdD) (ks : Nat → Int) (q : Int) (w : World) (h : Ms w am n cm D) (hk : Is w ak m ck ks) :
  Calls Tryz.prog 12 #[.slice am n cm, .slice ak m ck, .int .i64 q] w fun e w' => e = .returned (.int .i64 (chkM D n m ks q)) ∧ Below w.heap.size w w' := by
 have HA := Lib.hid h
 have HK := Lib.hid hk
 have bc := h.1
 have bm := h.2.1
 have kc := hk.1
 have km := hk.2.1
 unfold maxLen at bm km
 clear h hk
 have HB := Lib.hid (Below.refl w.heap.size w)
 by_cases h60 : 60 < n
 ·have HE := Lib.hid (show chkM D n m ks q = 5 from chkM_60 h60)
  go_enter Tryz.func12, Tryz.ntmps12
  go_wp2_with fail
  go_ret
  rw [HE.out]
  exact ⟨rfl, HB.out⟩
 ·go_enter Tryz.func12, Tryz.ntmps12
  go_wp2_with fail
  go_loopw [7, 8] (fun nn i wr => ∃ (k : Nat) (V : Int), k ≤ n ∧ i = .int .i64 k ∧ nn = .int .i64 V ∧ Hid ((k = 0 → V = 0) ∧ (0 < k → V = (D.R 0 : Int))) ∧ Hid (fstC (vcd D) k = 0) ∧ Below w.heap.size w wr) (fun _ i _ => n - (intOf i).toNat)
  case atStart => exact ⟨0, 0, Nat.zero_le _, rfl, rfl, Lib.hid ⟨fun _ => rfl, fun h => by omega⟩, Lib.hid rfl, Below.refl _ _⟩
  case round =>
   clear HB
   obtain ⟨k, V, hkn, rfl, rfl, hV, hin, hbel⟩ := hrel
   have HB := Lib.hid hbel
   have hs0 : w.heap.size ≤ wr.heap.size := hbel.size
   clear hbel
   by_cases hlt : k < n
   ·obtain ⟨b, off, rfl, hc⟩ := (HA.out.below HB.out).2.2 (by omega)
    obtain ⟨g0, hr0⟩ := hc k hlt
    obtain ⟨g1, _⟩ := hc 0 (by omega)
    rw [Nat.add_zero] at g1
    have HR := Lib.hid hr0
    obtain ⟨R0, hR0⟩ : ∃ x, D.R 0 = x := ⟨_, rfl⟩
    obtain ⟨ra0, hra0⟩ : ∃ x, D.ra 0 = x := ⟨_, rfl⟩
    obtain ⟨rc0, hrc0⟩ : ∃ x, D.rc 0 = x := ⟨_, rfl⟩
    obtain ⟨v, hv⟩ : ∃ v, vcd D k = v := ⟨_, rfl⟩
    have HV := Lib.hid hv
    have HVX := Lib.hid (show vldC (D.R k) R0 (D.rn k) (D.z k) = v by rw [← hR0]; exact hv)
    rw [hR0, hra0, hrc0] at g1
    have hlb : b < wr.heap.size := World.block_lt_of_cell? wr _ g0
    have hkz : (k : Int) < (n : Int) := by omega
    have hk0 : (0 : Int) ≤ (k : Int) := by omega
    have hn0 : (0 : Int) < (n : Int) := by omega
    have hn0n : 0 < n := by omega
    have HR00 := Lib.hid hR0
    clear hc hr0 hv hR0 hra0 hrc0
    by_cases hk00 : k = 0
    ·have hk2 : ((k : Int) == 0) = true := by simp; omega
     have HK00 := Lib.hid hk00
     clear hk00
     by_cases hv0 : v = 0
     ·subst hv0
      have HIN := Lib.hid (fstC_step hin.out HV.out)
      go_wp2_with fail
      refine calls_name fun W1 hW => ?_
      have hs_W1 : wr.heap.size ≤ W1.heap.size := by rw [← hW]; exact OmT
      have HL_W1 := Lib.hid (show Below wr.heap.size wr W1 by rw [← hW]; exact BlA)
      replace HB := Lib.hid (show Below w.heap.size w W1 by rw [← hW]; exact BlA)
      replace hs0 : w.heap.size ≤ W1.heap.size := by rw [← hW]; exact OmT
      replace HR := Lib.hid (HR.out.below HL_W1.out)
      clear HL_W1
      clear hW
      refine (xmvalid_any _ _ _ _ _ _ _ _ _ HR.out).mono ?_
      rw [HVX.out]
      rintro e wc ⟨rfl, hb⟩
      have hs_wc : W1.heap.size ≤ wc.heap.size := hb.size
      replace HB := Lib.hid (HB.out.trans (hb.mono hs0))
      replace hs0 : w.heap.size ≤ wc.heap.size := Nat.le_trans hs0 hb.size
      replace HR := Lib.hid (HR.out.below hb)
      clear hb
      go_wp2_with fail
      go_roundw
      case rel => exact ⟨k + 1, _, by omega, by go_num, rfl, Lib.hid ⟨fun h => by omega, fun _ => by rw [HR00.out]⟩, HIN, HB.out⟩
      case measure => simp [intOf]; omega
     ·have z0 : (v == 0) = false := by simpa using hv0
      have HE := Lib.hid (show chkM D n m ks q = v from chkM_v h60 hin.out HV.out hv0 hlt)
      go_wp2_with fail
      refine calls_name fun W1 hW => ?_
      have hs_W1 : wr.heap.size ≤ W1.heap.size := by rw [← hW]; exact OmT
      have HL_W1 := Lib.hid (show Below wr.heap.size wr W1 by rw [← hW]; exact BlA)
      replace HB := Lib.hid (show Below w.heap.size w W1 by rw [← hW]; exact BlA)
      replace hs0 : w.heap.size ≤ W1.heap.size := by rw [← hW]; exact OmT
      replace HR := Lib.hid (HR.out.below HL_W1.out)
      clear HL_W1
      clear hW
      refine (xmvalid_any _ _ _ _ _ _ _ _ _ HR.out).mono ?_
      rw [HVX.out]
      rintro e wc ⟨rfl, hb⟩
      have hs_wc : W1.heap.size ≤ wc.heap.size := hb.size
      replace HB := Lib.hid (HB.out.trans (hb.mono hs0))
      replace hs0 : w.heap.size ≤ wc.heap.size := Nat.le_trans hs0 hb.size
      replace HR := Lib.hid (HR.out.below hb)
      clear hb
      go_wp2_with fail
      go_ret
      rw [HE.out]
      exact ⟨rfl, HB.out⟩
    ·have hk1 : ¬ (k : Int) = 0 := by omega
     have hk2 : ((k : Int) == 0) = false := by simp; omega
     obtain rfl : V = (R0 : Int) := by rw [← HR00.out]; exact hV.out.2 (by omega)
     by_cases hv0 : v = 0
     ·subst hv0
      have HIN := Lib.hid (fstC_step hin.out HV.out)
      go_wp2_with fail
      refine calls_name fun W1 hW => ?_
      have hs_W1 : wr.heap.size ≤ W1.heap.size := by rw [← hW]; exact OmT
      have HL_W1 := Lib.hid (show Below wr.heap.size wr W1 by rw [← hW]; exact BlA)
      replace HB := Lib.hid (show Below w.heap.size w W1 by rw [← hW]; exact BlA)
      replace hs0 : w.heap.size ≤ W1.heap.size := by rw [← hW]; exact OmT
      replace HR := Lib.hid (HR.out.below HL_W1.out)
      clear HL_W1
      clear hW
      refine (xmvalid_any _ _ _ _ _ _ _ _ _ HR.out).mono ?_
      rw [HVX.out]
      rintro e wc ⟨rfl, hb⟩
      have hs_wc : W1.heap.size ≤ wc.heap.size := hb.size
      replace HB := Lib.hid (HB.out.trans (hb.mono hs0))
      replace hs0 : w.heap.size ≤ wc.heap.size := Nat.le_trans hs0 hb.size
      replace HR := Lib.hid (HR.out.below hb)
      clear hb
      go_wp2_with fail
      go_roundw
      case rel => exact ⟨k + 1, _, by omega, by go_num, rfl, Lib.hid ⟨fun h => by omega, fun _ => by rw [HR00.out]⟩, HIN, HB.out⟩
      case measure => simp [intOf]; omega
     ·have z0 : (v == 0) = false := by simpa using hv0
      have HE := Lib.hid (show chkM D n m ks q = v from chkM_v h60 hin.out HV.out hv0 hlt)
      go_wp2_with fail
      refine calls_name fun W1 hW => ?_
      have hs_W1 : wr.heap.size ≤ W1.heap.size := by rw [← hW]; exact OmT
      have HL_W1 := Lib.hid (show Below wr.heap.size wr W1 by rw [← hW]; exact BlA)
      replace HB := Lib.hid (show Below w.heap.size w W1 by rw [← hW]; exact BlA)
      replace hs0 : w.heap.size ≤ W1.heap.size := by rw [← hW]; exact OmT
      replace HR := Lib.hid (HR.out.below HL_W1.out)
      clear HL_W1
      clear hW
      refine (xmvalid_any _ _ _ _ _ _ _ _ _ HR.out).mono ?_
      rw [HVX.out]
      rintro e wc ⟨rfl, hb⟩
      have hs_wc : W1.heap.size ≤ wc.heap.size := hb.size
      replace HB := Lib.hid (HB.out.trans (hb.mono hs0))
      replace hs0 : w.heap.size ≤ wc.heap.size := Nat.le_trans hs0 hb.size
      replace HR := Lib.hid (HR.out.below hb)
      clear hb
      go_wp2_with fail
      go_ret
      rw [HE.out]
      exact ⟨rfl, HB.out⟩
   ·obtain rfl : k = n := by omega
    have HALL := Lib.hid (fun i (hi : i < k) => vcd_zero (fstC_zero hin.out i hi))
    obtain ⟨wv, rfl⟩ : ∃ x : World, x = wr := ⟨_, rfl⟩
    go_wp2_with fail
    go_loopw [10] (fun i wr => ∃ j : Nat, j ≤ k ∧ i = .int .i64 j ∧ Hid (∀ x, x < j → D.rn x 0 ≤ 2) ∧ Below w.heap.size w wr) (fun i _ => k - (intOf i).toNat)
    case atStart => exact ⟨0, Nat.zero_le _, rfl, Lib.hid (fun x hx => by omega), HB.out⟩
    case round =>
     clear HB hs0
     obtain ⟨j, hjk, rfl, hin2, hbel⟩ := hrel
     have HB := Lib.hid hbel
     have hs0 : w.heap.size ≤ wr.heap.size := hbel.size
     clear hbel
     by_cases hjl : j < k
     ·obtain ⟨b, off, rfl, hc⟩ := (HA.out.below HB.out).2.2 (by omega)
      obtain ⟨g0, hr0⟩ := hc j hjl
      have HR := Lib.hid hr0
      have hRj := (HALL.out j hjl).1
      obtain ⟨K, hK⟩ : ∃ K, D.rn j 0 = K := ⟨_, rfl⟩
      have HKK := Lib.hid hK
      have hK6 := (HALL.out j hjl).2.2.2.2.1
      rw [hK] at hK6
      have hjz : (j : Int) < (k : Int) := by omega
      have hj0 : (0 : Int) ≤ (j : Int) := by omega
      clear hc hr0 hK
      by_cases h2 : K ≤ 2
      ·go_wp2_with fail
       refine calls_name fun W2 hW => ?_
       have hs_W2 : wr.heap.size ≤ W2.heap.size := by rw [← hW]; exact OmT
       have HL_W2 := Lib.hid (show Below wr.heap.size wr W2 by rw [← hW]; exact BlA)
       replace HB := Lib.hid (show Below w.heap.size w W2 by rw [← hW]; exact BlA)
       replace hs0 : w.heap.size ≤ W2.heap.size := by rw [← hW]; exact OmT
       replace HR := Lib.hid (HR.out.below HL_W2.out)
       clear HL_W2
       clear hW
       refine (xmcats_any _ _ _ _ _ _ _ _ HR.out hRj).mono ?_
       rw [HKK.out]
       rintro e wd ⟨rfl, hb⟩
       have hs_wd : W2.heap.size ≤ wd.heap.size := hb.size
       replace HB := Lib.hid (HB.out.trans (hb.mono hs0))
       replace hs0 : w.heap.size ≤ wd.heap.size := Nat.le_trans hs0 hb.size
       replace HR := Lib.hid (HR.out.below hb)
       clear hb
       go_wp2_with fail
       go_roundw
       case rel => exact ⟨j + 1, by omega, by go_num, Lib.hid (fun x hx => by by_cases e : x = j; (· subst e; rw [HKK.out]; exact h2); (· exact hin2.out x (by omega))), HB.out⟩
       case measure => simp [intOf]; omega
      ·have HE := Lib.hid (show chkM D k m ks q = 19 from chkM_c h60 hin.out hjl (by rw [HKK.out]; omega))
       go_wp2_with fail
       refine calls_name fun W2 hW => ?_
       have hs_W2 : wr.heap.size ≤ W2.heap.size := by rw [← hW]; exact OmT
       have HL_W2 := Lib.hid (show Below wr.heap.size wr W2 by rw [← hW]; exact BlA)
       replace HB := Lib.hid (show Below w.heap.size w W2 by rw [← hW]; exact BlA)
       replace hs0 : w.heap.size ≤ W2.heap.size := by rw [← hW]; exact OmT
       replace HR := Lib.hid (HR.out.below HL_W2.out)
       clear HL_W2
       clear hW
       refine (xmcats_any _ _ _ _ _ _ _ _ HR.out hRj).mono ?_
       rw [HKK.out]
       rintro e wd ⟨rfl, hb⟩
       have hs_wd : W2.heap.size ≤ wd.heap.size := hb.size
       replace HB := Lib.hid (HB.out.trans (hb.mono hs0))
       replace hs0 : w.heap.size ≤ wd.heap.size := Nat.le_trans hs0 hb.size
       replace HR := Lib.hid (HR.out.below hb)
       clear hb
       go_wp2_with fail
       go_ret
       rw [HE.out]
       exact ⟨rfl, HB.out⟩
     ·obtain rfl : j = k := by omega
      have HC2 := hin2
      by_cases hm : m = j
      ·subst hm
       by_cases hj0 : m = 0
       ·subst hj0
        have HE := Lib.hid (show chkM D 0 0 ks q = 3 from chkM_q h60 hin.out HC2.out (.inl rfl))
        obtain rfl : V = 0 := hV.out.1 rfl
        by_cases hq : q < 0
        ·go_wp2_with fail
         go_ret
         rw [HE.out]
         exact ⟨rfl, HB.out⟩
        ·go_wp2_with fail
         go_ret
         rw [HE.out]
         exact ⟨rfl, HB.out⟩
       ·have hz : ¬ (m : Int) = 0 := by omega
        have hz2 : ((m : Int) == 0) = false := by simp; omega
        obtain ⟨R0, hR0⟩ : ∃ x, D.R 0 = x := ⟨_, rfl⟩
        have HR00 := Lib.hid hR0
        clear hR0
        have hR6 := (HALL.out 0 (by omega)).2.2.1
        rw [HR00.out] at hR6
        obtain rfl : V = (R0 : Int) := by rw [← HR00.out]; exact hV.out.2 (by omega)
        by_cases hq : q < 0
        ·have HE := Lib.hid (show chkM D m m ks q = 3 from chkM_q h60 hin.out HC2.out (.inr (.inl hq)))
         go_wp2_with fail
         go_ret
         rw [HE.out]
         exact ⟨rfl, HB.out⟩
        by_cases hq2 : (R0 : Int) ≤ q
        ·have HE := Lib.hid (show chkM D m m ks q = 3 from chkM_q h60 hin.out HC2.out (.inr (.inr (by rw [HR00.out]; exact hq2))))
         go_wp2_with fail
         go_ret
         rw [HE.out]
         exact ⟨rfl, HB.out⟩
        have HQ := Lib.hid (show ¬ (m = 0 ∨ q < 0 ∨ (D.R 0 : Int) ≤ q) by rw [HR00.out]; omega)
        go_wp2_with fail
        go_loopw [11] (fun i wz => ∃ j : Nat, j ≤ m ∧ i = .int .i64 j ∧ Hid (∀ x, x < j → -2 ≤ ks x ∧ ks x ≤ 1) ∧ wr = wz) (fun i _ => m - (intOf i).toNat)
        case atStart => exact ⟨0, Nat.zero_le _, rfl, Lib.hid (fun x hx => by omega), rfl⟩
        case round =>
         obtain ⟨x, hx, rfl, hin3, rfl⟩ := hrel
         by_cases hxm : x < m
         ·obtain ⟨b2, off2, rfl, hc2⟩ := (HK.out.below HB.out).2.2 (by omega)
          have hcell := hc2 x hxm
          obtain ⟨v, hv⟩ : ∃ v, ks x = v := ⟨_, rfl⟩
          rw [hv] at hcell
          have HV := Lib.hid hv
          have hxz : (x : Int) < (m : Int) := by omega
          have hx0 : (0 : Int) ≤ (x : Int) := by omega
          clear hc2 hv
          by_cases h1 : v < -2
          ·have HE := Lib.hid (show chkM D m m ks q = 3 from chkM_k h60 hin.out HC2.out HQ.out hxm (by rw [HV.out]; omega))
           go_wp2_with fail
           go_ret
           rw [HE.out]
           exact ⟨rfl, HB.out⟩
          by_cases h2 : 1 < v
          ·have HE := Lib.hid (show chkM D m m ks q = 3 from chkM_k h60 hin.out HC2.out HQ.out hxm (by rw [HV.out]; omega))
           go_wp2_with fail
           go_ret
           rw [HE.out]
           exact ⟨rfl, HB.out⟩
          go_wp2_with fail
          go_roundw
          case rel => exact ⟨x + 1, by omega, by go_num, Lib.hid (fun y hy => by by_cases e : y = x; (· subst e; rw [HV.out]; omega); (· exact hin3.out y (by omega))), by first | rfl | trivial⟩
          case measure => simp [intOf]; omega
         ·obtain rfl : x = m := by omega
          have HE := Lib.hid (show chkM D x x ks q = 0 from chkM_0 (ks := ks) h60 hin.out HC2.out HQ.out hin3.out)
          go_wp2_with fail
          go_ret
          rw [HE.out]
          exact ⟨rfl, HB.out⟩
      ·have d1 : ¬ (m : Int) = (j : Int) := by omega
       have HE := Lib.hid (show chkM D j m ks q = 1 from chkM_m h60 hin.out HC2.out hm)
       go_wp2_with fail
       go_ret
       rw [HE.out]
       exact ⟨rfl, HB.out⟩
end Go.Proofs.YtjobopafcgnljaaGreat
