import Derived.Test.YtnillajhhimeiaaGreatDoorRfF
namespace Go.Proofs.YtnillajhhimeiaaGreatDoor
open Go.RowKit
theorem bothT_rsz (q : Nat → Rat) (L k i : Nat) (h : rsz (q i) ≤ L) : rsz (if q i ≤ q k then q i else 0) ≤ L := by
  by_cases hh : q i ≤ q k
  · rw [if_pos hh];exact h
  · rw [if_neg hh]
    have h4 : rsz (0 : Rat) ≤ 1 := by decide +kernel
    have h5 := rsz_pos (q i)
    omega
def BothJ (N g : Nat) (ps pn : Rat) (rs rs2 : Option Addr) (cs cs2 : Nat) (s' : Bool) (ra da : Option Addr) (rnn rc dn dc b0 o0 n cap j : Nat) (W : World) (z0 : Act) (L : Nat → Bool) (z1 : Act) (w : World) : Prop :=
  ∃ u38 u39 u40 u41 u42 u43,z1 = ((((((z0.put (some 38) u38).put (some 39) u39).put (some 40) u40).put (some 41) u41).put (some 42) u42).put (some 43) u43) ∧
    ((L 6 = false ∧ Since W w ∧ (L 0 = true → u38 = .agg #[.bool (decide ((ps).num < 0)),.slice rs (nlen (ps).num.natAbs) cs,.slice rs2 (nlen (ps).den) cs2]) ∧ (L 1 = true → u39 = .slice (some ⟨b0,o0,none⟩) n cap) ∧ (L 2 = true → u40 = .int .i64 j) ∧ (L 3 = true → u41 = .pointer (some ⟨b0,o0 + j * 3,none⟩)) ∧ (L 4 = true → u42 = .agg #[.bool s',.slice ra rnn rc,.slice da dn dc]) ∧ (L 5 = true → IsRat N pn u43 w)) ∨
     (L 6 = true ∧ (∀ j,j < 6 → L j = true) ∧ CutSet N W g pn w))
set_option maxHeartbeats 8000000 in
theorem xBoth_in {N : Nat} (a : Option Addr) (n cap : Nat) (q : Nat → Rat) (L : Nat) (w : World) (hN : N ≤ w.heap.size) (h : Rs N w a n cap q L) (hL : L ≤ 2097152) (hv : valid q n = true) (k : Nat) (hkn : k < n) (p : Rat) (hp : bothQ q n k = p) : Calls Tryz.prog 25 #[.slice a n cap,.int .i64 k] w (RatOk N w p) := by
  have d0 : decide ((k : Int) < 0) = false := by simp
  have d1 : decide ((n : Int) ≤ (k : Int)) = false := by simp;omega
  have d1' : decide (n ≤ k) = false := by simp;omega
  have hn121 := (valid_iff.1 hv).2.1
  obtain ⟨p0,hp0⟩ : ∃ p : Rat,((0 : Nat) : Rat) = p := ⟨_,rfl⟩
  have HE0 := Lib.hid (show sQ (fun i => if q i ≤ q k then q i else 0) 0 = p0 from (natQ_zero p0 hp0).symm)
  have HP0 := Lib.hid hp0
  have HP := Lib.hid hp
  have HV := Lib.hid hv
  have HLim := Lib.hid h.lim
  clear hp0 hp hv
  have hN0 := hN
  have HA := Lib.hid h
  have bc1 := h.1
  have bc2 := h.2.1
  unfold maxLen at bc2
  clear h
  have HB := Lib.hid (Below.refl w.heap.size w)
  go_enter Tryz.func25,Tryz.ntmps25
  go_wp2_with fail
  refine calls_name fun W0 hW => ?_
  have hs_W0 : w.heap.size ≤ W0.heap.size := by rw [← hW];(first | omega | (simp;done) | (simp;omega))
  have k_R_0 : W0.cell? ⟨w.heap.size,0,none⟩ = some (.bool false) := by rw [← hW];(first | (go_simp;done) | (simp;done) | (simp [go_sem];done) | (simp [go_sem];done))
  have k_R_1 : W0.cell? ⟨w.heap.size,1,none⟩ = some (.slice none 0 0) := by rw [← hW];(first | (go_simp;done) | (simp;done) | (simp [go_sem];done) | (simp [go_sem];done))
  have k_R_2 : W0.cell? ⟨w.heap.size,2,none⟩ = some (.slice none 0 0) := by rw [← hW];(first | (go_simp;done) | (simp;done) | (simp [go_sem];done) | (simp [go_sem];done))
  have f_R : ∀ o,W0.frozen? ⟨w.heap.size,o,none⟩ = false := by intro o;rw [← hW];(first | (go_simp;done) | (simp;done) | (simp [go_sem];done) | (simp [go_sem];done))
  have HX_R := Lib.hid (show Bn W0 (w.heap.size) by rw [← hW];exact KpA)
  replace HB := Lib.hid (show Below w.heap.size w W0 by rw [← hW];exact BlA)
  replace hN : N ≤ W0.heap.size := by rw [← hW];(first | omega | (simp;done) | (simp;omega))
  have hs0 : w.heap.size ≤ W0.heap.size := by rw [← hW];(first | omega | (simp;done) | (simp;omega))
  have hl_R : w.heap.size < W0.heap.size := by rw [← hW];(first | omega | (simp;done) | (simp;omega))
  clear hW
  refine (xvalid_any (N := N) _ n _ q L _ hN (HA.out.below HB.out) hL true HV.out).mono ?_
  rintro e wa ⟨rfl,hb⟩
  have hs_wa : W0.heap.size ≤ wa.heap.size := hb.size
  replace k_R_0 : wa.cell? ⟨w.heap.size,0,none⟩ = some (.bool false) := (hb.cell (p := ⟨w.heap.size,0,none⟩) hl_R).trans k_R_0
  replace k_R_1 : wa.cell? ⟨w.heap.size,1,none⟩ = some (.slice none 0 0) := (hb.cell (p := ⟨w.heap.size,1,none⟩) hl_R).trans k_R_1
  replace k_R_2 : wa.cell? ⟨w.heap.size,2,none⟩ = some (.slice none 0 0) := (hb.cell (p := ⟨w.heap.size,2,none⟩) hl_R).trans k_R_2
  replace f_R : ∀ o,wa.frozen? ⟨w.heap.size,o,none⟩ = false := fun o => (hb.frozen (p := ⟨w.heap.size,o,none⟩) hl_R).trans (f_R o)
  replace HX_R := Lib.hid (HX_R.out.below hb)
  replace HB := Lib.hid (HB.out.trans (hb.mono hs0))
  replace hN : N ≤ wa.heap.size := Nat.le_trans hN hb.size
  replace hs0 : w.heap.size ≤ wa.heap.size := Nat.le_trans hs0 hb.size
  replace hl_R : w.heap.size < wa.heap.size := Nat.lt_of_lt_of_le hl_R hb.size
  clear hb
  go_wp2_with fail
  refine calls_name fun W1 hW => ?_
  have HL_W1 := Lib.hid (show Below wa.heap.size wa W1 by rw [← hW];exact BlA)
  have hs_W1 : wa.heap.size ≤ W1.heap.size := by rw [← hW];(first | omega | (simp;done) | (simp;omega))
  replace k_R_0 : W1.cell? ⟨w.heap.size,0,none⟩ = some (.bool false) := (HL_W1.out.cell (p := ⟨w.heap.size,0,none⟩) hl_R).trans k_R_0
  replace k_R_1 : W1.cell? ⟨w.heap.size,1,none⟩ = some (.slice none 0 0) := (HL_W1.out.cell (p := ⟨w.heap.size,1,none⟩) hl_R).trans k_R_1
  replace k_R_2 : W1.cell? ⟨w.heap.size,2,none⟩ = some (.slice none 0 0) := (HL_W1.out.cell (p := ⟨w.heap.size,2,none⟩) hl_R).trans k_R_2
  replace f_R : ∀ o,W1.frozen? ⟨w.heap.size,o,none⟩ = false := fun o => (HL_W1.out.frozen (p := ⟨w.heap.size,o,none⟩) hl_R).trans (f_R o)
  replace HX_R := Lib.hid (show Bn W1 (w.heap.size) by rw [← hW];exact KpA)
  replace HB := Lib.hid (show Below w.heap.size w W1 by rw [← hW];exact BlA)
  replace hN : N ≤ W1.heap.size := by rw [← hW];(first | omega | (simp;done) | (simp;omega))
  replace hs0 : w.heap.size ≤ W1.heap.size := by rw [← hW];(first | omega | (simp;done) | (simp;omega))
  replace hl_R : w.heap.size < W1.heap.size := by rw [← hW];(first | omega | (simp;done) | (simp;omega))
  clear HL_W1
  clear hW
  refine (Whole_z (N := N) 0 0 rfl _ hN (by omega) p0 HP0.out).mono ?_
  rintro e wb ⟨rz,cz,rz2,cz2,rfl,hn,hn',hb⟩
  have hs_wb : W1.heap.size ≤ wb.heap.size := hb.size
  replace k_R_0 : wb.cell? ⟨w.heap.size,0,none⟩ = some (.bool false) := (hb.cell (p := ⟨w.heap.size,0,none⟩) hl_R).trans k_R_0
  replace k_R_1 : wb.cell? ⟨w.heap.size,1,none⟩ = some (.slice none 0 0) := (hb.cell (p := ⟨w.heap.size,1,none⟩) hl_R).trans k_R_1
  replace k_R_2 : wb.cell? ⟨w.heap.size,2,none⟩ = some (.slice none 0 0) := (hb.cell (p := ⟨w.heap.size,2,none⟩) hl_R).trans k_R_2
  replace f_R : ∀ o,wb.frozen? ⟨w.heap.size,o,none⟩ = false := fun o => (hb.frozen (p := ⟨w.heap.size,o,none⟩) hl_R).trans (f_R o)
  replace HX_R := Lib.hid (HX_R.out.below hb)
  replace HB := Lib.hid (HB.out.trans (hb.mono hs0))
  replace hN : N ≤ wb.heap.size := Nat.le_trans hN hb.size
  replace hs0 : w.heap.size ≤ wb.heap.size := Nat.le_trans hs0 hb.size
  replace hl_R : w.heap.size < wb.heap.size := Nat.lt_of_lt_of_le hl_R hb.size
  clear hb
  have HS1 := Lib.hid hn
  clear hn
  have HS2 := Lib.hid hn'
  clear hn'
  go_wp2_with fail
  go_loopw [7] (fun i wr => ∃ j ps,j ≤ n ∧ i = .int .i64 ((j : Nat) : Int) ∧ sQ (fun i => if q i ≤ q k then q i else 0) j = ps ∧ NBox N wr wb.heap.size ps ∧ Box3 wr w.heap.size (.bool false) (.slice none 0 0) (.slice none 0 0) ∧ Below w.heap.size w wr ∧ w.heap.size ≤ wr.heap.size) (fun i _ => n - (intOf i).toNat)
  case atStart =>
    refine ⟨0,p0,Nat.zero_le _,rfl,HE0.out,⟨rz,cz,rz2,cz2,⟨by first | omega | (simp;done) | (simp;omega),by exact KpA,fun o => by first | (go_simp;done) | (simp;done) | (simp [go_sem];done) | (simp [go_sem,k_R_0,k_R_1,k_R_2,f_R,hl_R];done),by first | with_reducible assumption | (go_simp;done) | (simp;done) | (simp [go_sem];done) | (simp [go_sem,k_R_0,k_R_1,k_R_2,f_R,hl_R];done),by first | with_reducible assumption | (go_simp;done) | (simp;done) | (simp [go_sem];done) | (simp [go_sem,k_R_0,k_R_1,k_R_2,f_R,hl_R];done),by first | with_reducible assumption | (go_simp;done) | (simp;done) | (simp [go_sem];done) | (simp [go_sem,k_R_0,k_R_1,k_R_2,f_R,hl_R];done)⟩,HS1.out.keep ?_,HS2.out.keep ?_⟩,⟨by first | omega | (simp;done) | (simp;omega),by exact KpA,fun o => by first | with_reducible exact f_R o | (simp [go_sem,f_R];done) | (simp [go_sem,f_R,hl_R];done) | (go_simp;done) | (simp;done) | (simp [go_sem];done) | (simp [go_sem,k_R_0,k_R_1,k_R_2,f_R,hl_R];done),by first | with_reducible assumption | (simp [go_sem,k_R_0];done) | (simp [go_sem,k_R_0,hl_R];done) | (go_simp;done) | (simp;done) | (simp [go_sem];done) | (simp [go_sem,k_R_0,k_R_1,k_R_2,f_R,hl_R];done),by first | with_reducible assumption | (simp [go_sem,k_R_1];done) | (simp [go_sem,k_R_1,hl_R];done) | (go_simp;done) | (simp;done) | (simp [go_sem];done) | (simp [go_sem,k_R_0,k_R_1,k_R_2,f_R,hl_R];done),by first | with_reducible assumption | (simp [go_sem,k_R_2];done) | (simp [go_sem,k_R_2,hl_R];done) | (go_simp;done) | (simp;done) | (simp [go_sem];done) | (simp [go_sem,k_R_0,k_R_1,k_R_2,f_R,hl_R];done)⟩,?_,?_⟩
    all_goals exact KBA
  case round =>
    obtain ⟨j,ps,hj,rfl,hps,⟨rs,cs,rs2,cs2,hbx,hn1,hn2⟩,hbr,hbel,hsz⟩ := hrel
    have hd_S_R := hl_R
    clear hl_R f_R HX_R k_R_0 k_R_1 k_R_2
    obtain ⟨hl_S,bn_S,f_S,k_S_0,k_S_1,k_S_2⟩ := hbx
    have HX_S := Lib.hid bn_S
    clear bn_S
    obtain ⟨hl_R,bn_R,f_R,k_R_0,k_R_1,k_R_2⟩ := hbr
    have HX_R := Lib.hid bn_R
    clear bn_R
    have HPS := Lib.hid hps
    have HT1 := Lib.hid hn1
    have HT2 := Lib.hid hn2
    have HAr := Lib.hid (HA.out.below hbel)
    clear hn1 hn2 HS1 HS2 HB hs0 hN
    have HB := Lib.hid hbel
    have hs0 := hsz
    have hN : N ≤ wr.heap.size := by omega
    clear hbel
    have HZS := Lib.hid (show rsz ps ≤ 253755515 by rw [← hps];have h1 := sQ_rsz (q := (fun i => if q i ≤ q k then q i else 0)) (k := j) (L := L) (fun i hi => bothT_rsz q L k i (HLim.out i (by omega)));have h2 : j * (L + 1) ≤ 121 * (L + 1) := Nat.mul_le_mul_right _ (by omega);omega)
    clear hps
    by_cases hjn : j < n
    · obtain ⟨b0,o0,rfl,hc⟩ := HAr.out.2.2 (by omega)
      obtain ⟨s',ra,rnn,rc,da,dn,dc,g0,g1,g2,hr⟩ := hc j hjn
      obtain ⟨s3,ra3,rnn3,rc3,da3,dn3,dc3,g3,g4,g5,hr3⟩ := hc k hkn
      have HR := Lib.hid hr
      have HRk := Lib.hid hr3
      have hlb : b0 < wr.heap.size := World.block_lt_of_cell? wr _ g0
      clear hc hr hr3 HAr
      have hix0 : (0 : Int) ≤ (j : Int) := by omega
      have hix1 : (j : Int) < (n : Int) := by omega
      have hix2 : (k : Int) < (n : Int) := by omega
      obtain ⟨κ,hκ⟩ : ∃ κ,cmpQ (q j) (q k) = κ := ⟨_,rfl⟩
      have HK := Lib.hid hκ
      by_cases hle : q j ≤ q k
      · have dk : decide (κ ≤ 0) = true := by rw [← hκ,cmp_le];exact decide_eq_true hle
        obtain ⟨pn,hpn⟩ : ∃ p,ps + q j = p := ⟨_,rfl⟩
        have HPN := Lib.hid hpn
        have HSN := Lib.hid (show sQ (fun i => if q i ≤ q k then q i else 0) (j + 1) = pn by show sQ _ j + _ = pn;simp only [if_pos hle];rw [HPS.out];exact hpn)
        clear hκ hle hpn
        go_wp2_with fail
        go_region_held3 (fun w' => w'.cell? ⟨b0,o0 + j * 3,none⟩ = some (.bool s') ∧ w'.cell? ⟨b0,o0 + j * 3 + 1,none⟩ = some (.slice ra rnn rc) ∧ w'.cell? ⟨b0,o0 + j * 3 + 2,none⟩ = some (.slice da dn dc) ∧ w'.cell? ⟨b0,o0 + k * 3,none⟩ = some (.bool s3) ∧ w'.cell? ⟨b0,o0 + k * 3 + 1,none⟩ = some (.slice ra3 rnn3 rc3) ∧ w'.cell? ⟨b0,o0 + k * 3 + 2,none⟩ = some (.slice da3 dn3 dc3))
          (first | (go_keep;done) | ((try dsimp only);(repeat' apply And.intro) <;> (first | (go_keep;done) | (exact cell_keep_alloc_drew (by first | omega | (simp;omega)) (by first | assumption | go_simp)) | (exact cell_keep_alloc (by first | omega | (simp;omega)) (by first | assumption | go_simp)) | (rw [cell_set2 _ _ _ _ _ _ _ _ (by omega)];assumption) | (rw [cell_set3 _ _ _ _ _ _ _ _ _ _ (by omega)];assumption))))
          (first
            | (go_at_call 55;refine (xrcmp_any (N := N) _ _ _ _ _ _ _ _ _ _ _ _ _ _ L L (q j) (q k) _ (by exact hN) (by exact HR.out) (by exact HRk.out) (by omega) (by omega)).mono ?_;rw [HK.out];rintro e wc ⟨rfl,hb⟩;replace hb : Below wr.heap.size wr wc := (by first | exact hb | exact bel_of_drew hb);have g0' : wc.cell? ⟨b0,o0 + j * 3,none⟩ = some (.bool s') := (hb.cell (p := ⟨b0,o0 + j * 3,none⟩) hlb).trans g0;have g1' : wc.cell? ⟨b0,o0 + j * 3 + 1,none⟩ = some (.slice ra rnn rc) := (hb.cell (p := ⟨b0,o0 + j * 3 + 1,none⟩) hlb).trans g1;have g2' : wc.cell? ⟨b0,o0 + j * 3 + 2,none⟩ = some (.slice da dn dc) := (hb.cell (p := ⟨b0,o0 + j * 3 + 2,none⟩) hlb).trans g2;have g3' : wc.cell? ⟨b0,o0 + k * 3,none⟩ = some (.bool s3) := (hb.cell (p := ⟨b0,o0 + k * 3,none⟩) hlb).trans g3;have g4' : wc.cell? ⟨b0,o0 + k * 3 + 1,none⟩ = some (.slice ra3 rnn3 rc3) := (hb.cell (p := ⟨b0,o0 + k * 3 + 1,none⟩) hlb).trans g4;have g5' : wc.cell? ⟨b0,o0 + k * 3 + 2,none⟩ = some (.slice da3 dn3 dc3) := (hb.cell (p := ⟨b0,o0 + k * 3 + 2,none⟩) hlb).trans g5;have hlb' : b0 < wc.heap.size := Nat.lt_of_lt_of_le hlb hb.size;have hs_wc : wr.heap.size ≤ wc.heap.size := hb.size;replace k_S_0 : wc.cell? ⟨wb.heap.size,0,none⟩ = some (.bool (decide ((ps).num < 0))) := (hb.cell (p := ⟨wb.heap.size,0,none⟩) hl_S).trans k_S_0;replace k_S_1 : wc.cell? ⟨wb.heap.size,1,none⟩ = some (.slice rs (nlen (ps).num.natAbs) cs) := (hb.cell (p := ⟨wb.heap.size,1,none⟩) hl_S).trans k_S_1;replace k_S_2 : wc.cell? ⟨wb.heap.size,2,none⟩ = some (.slice rs2 (nlen (ps).den) cs2) := (hb.cell (p := ⟨wb.heap.size,2,none⟩) hl_S).trans k_S_2;replace f_S : ∀ o,wc.frozen? ⟨wb.heap.size,o,none⟩ = false := fun o => (hb.frozen (p := ⟨wb.heap.size,o,none⟩) hl_S).trans (f_S o);replace HX_S := Lib.hid (HX_S.out.below hb);replace k_R_0 : wc.cell? ⟨w.heap.size,0,none⟩ = some (.bool false) := (hb.cell (p := ⟨w.heap.size,0,none⟩) hl_R).trans k_R_0;replace k_R_1 : wc.cell? ⟨w.heap.size,1,none⟩ = some (.slice none 0 0) := (hb.cell (p := ⟨w.heap.size,1,none⟩) hl_R).trans k_R_1;replace k_R_2 : wc.cell? ⟨w.heap.size,2,none⟩ = some (.slice none 0 0) := (hb.cell (p := ⟨w.heap.size,2,none⟩) hl_R).trans k_R_2;replace f_R : ∀ o,wc.frozen? ⟨w.heap.size,o,none⟩ = false := fun o => (hb.frozen (p := ⟨w.heap.size,o,none⟩) hl_R).trans (f_R o);replace HX_R := Lib.hid (HX_R.out.below hb);replace HT1 := Lib.hid (HT1.out.below hb);replace HT2 := Lib.hid (HT2.out.below hb);replace HR := Lib.hid (HR.out.below hb);replace HRk := Lib.hid (HRk.out.below hb);replace HB := Lib.hid (HB.out.trans (hb.mono hs0));replace hN : N ≤ wc.heap.size := Nat.le_trans hN hb.size;replace hs0 : w.heap.size ≤ wc.heap.size := Nat.le_trans hs0 hb.size;replace hl_S : wb.heap.size < wc.heap.size := Nat.lt_of_lt_of_le hl_S hb.size;replace hl_R : w.heap.size < wc.heap.size := Nat.lt_of_lt_of_le hl_R hb.size;clear hb;skip))
        go_wp2_with fail
        clear g0 g1 g2 g3 g4 g5 hlb
        have g0 := g0'
        have g1 := g1'
        have g2 := g2'
        have hlb := hlb'
        clear g0' g1' g2' g3' g4' g5' hlb'
        refine region_name fun W2 hW => ?_
        have HL_W2 := Lib.hid (show Below wc.heap.size wc W2 by rw [← hW];exact BlA)
        have hs_W2 : wc.heap.size ≤ W2.heap.size := by rw [← hW];(first | omega | (simp;done) | (simp;omega))
        have HK_W2 := Lib.hid (show Kp N wc W2 by rw [← hW];exact KpA)
        rw [hW] at g0 g1 g2 hlb
        replace k_S_0 : W2.cell? ⟨wb.heap.size,0,none⟩ = some (.bool (decide ((ps).num < 0))) := (HL_W2.out.cell (p := ⟨wb.heap.size,0,none⟩) hl_S).trans k_S_0
        replace k_S_1 : W2.cell? ⟨wb.heap.size,1,none⟩ = some (.slice rs (nlen (ps).num.natAbs) cs) := (HL_W2.out.cell (p := ⟨wb.heap.size,1,none⟩) hl_S).trans k_S_1
        replace k_S_2 : W2.cell? ⟨wb.heap.size,2,none⟩ = some (.slice rs2 (nlen (ps).den) cs2) := (HL_W2.out.cell (p := ⟨wb.heap.size,2,none⟩) hl_S).trans k_S_2
        replace f_S : ∀ o,W2.frozen? ⟨wb.heap.size,o,none⟩ = false := fun o => (HL_W2.out.frozen (p := ⟨wb.heap.size,o,none⟩) hl_S).trans (f_S o)
        replace HX_S := Lib.hid (show Bn W2 (wb.heap.size) by rw [← hW];exact KpA)
        replace k_R_0 : W2.cell? ⟨w.heap.size,0,none⟩ = some (.bool false) := (HL_W2.out.cell (p := ⟨w.heap.size,0,none⟩) hl_R).trans k_R_0
        replace k_R_1 : W2.cell? ⟨w.heap.size,1,none⟩ = some (.slice none 0 0) := (HL_W2.out.cell (p := ⟨w.heap.size,1,none⟩) hl_R).trans k_R_1
        replace k_R_2 : W2.cell? ⟨w.heap.size,2,none⟩ = some (.slice none 0 0) := (HL_W2.out.cell (p := ⟨w.heap.size,2,none⟩) hl_R).trans k_R_2
        replace f_R : ∀ o,W2.frozen? ⟨w.heap.size,o,none⟩ = false := fun o => (HL_W2.out.frozen (p := ⟨w.heap.size,o,none⟩) hl_R).trans (f_R o)
        replace HX_R := Lib.hid (show Bn W2 (w.heap.size) by rw [← hW];exact KpA)
        replace HT1 := Lib.hid (HT1.out.keep HK_W2.out)
        replace HT2 := Lib.hid (HT2.out.keep HK_W2.out)
        replace HR := Lib.hid (HR.out.keep HK_W2.out)
        replace HRk := Lib.hid (HRk.out.keep HK_W2.out)
        replace HB := Lib.hid (show Below w.heap.size w W2 by rw [← hW];exact BlA)
        replace hN : N ≤ W2.heap.size := by rw [← hW];(first | omega | (simp;done) | (simp;omega))
        replace hs0 : w.heap.size ≤ W2.heap.size := by rw [← hW];(first | omega | (simp;done) | (simp;omega))
        replace hl_S : wb.heap.size < W2.heap.size := by rw [← hW];(first | omega | (simp;done) | (simp;omega))
        replace hl_R : w.heap.size < W2.heap.size := by rw [← hW];(first | omega | (simp;done) | (simp;omega))
        clear HL_W2
        clear hW HK_W2
        refine region_inv2 (by kernel_rfl) (BothJ N wb.heap.size ps pn rs rs2 cs cs2 s' ra da rnn rc dn dc b0 o0 n cap j (W2)) ?_ ?_ ?_ ?_
        · exact ⟨u38,u39,u40,u41,u42,u43,by simp only [Act.put,List.setIfInBounds_toArray,List.set_cons_zero,List.set_cons_succ],.inl ⟨rfl,Since.drawn _,(fun h => by cases h),(fun h => by cases h),(fun h => by cases h),(fun h => by cases h),(fun h => by cases h),(fun h => by cases h)⟩⟩
        · exact acyc_spec (by kernel_rfl)
        · intro Ls a0 wq i o ho hLi hafter hJ
          obtain ⟨u38,u39,u40,u41,u42,u43,rfl,hJ | ⟨h10,hall,_⟩⟩ := hJ
          · obtain ⟨hLl,hS,p0,p1,p2,p3,p4,p5⟩ := hJ
            have hi : i < 7 := (Array.getElem?_eq_some_iff.1 ho).1
            obtain rfl | rfl | rfl | rfl | rfl | rfl | rfl : i = 0 ∨ i = 1 ∨ i = 2 ∨ i = 3 ∨ i = 4 ∨ i = 5 ∨ i = 6 := by omega
            · simp only [List.getElem?_toArray,List.getElem?_cons_zero,Option.some.injEq] at ho
              subst ho
              have c0 := (hS.1.cell (p := ⟨wb.heap.size,0,none⟩) hl_S).trans k_S_0
              have c1 := (hS.1.cell (p := ⟨wb.heap.size,1,none⟩) hl_S).trans k_S_1
              have c2 := (hS.1.cell (p := ⟨wb.heap.size,2,none⟩) hl_S).trans k_S_2
              have P0 := Lib.hid p0
              have P1 := Lib.hid p1
              have P2 := Lib.hid p2
              have P3 := Lib.hid p3
              have P4 := Lib.hid p4
              have P5 := Lib.hid p5
              have HS := Lib.hid hS
              clear hS hLi hafter p0 p1 p2 p3 p4 p5
              simp only [Act.put,List.setIfInBounds_toArray,List.set_cons_zero,List.set_cons_succ]
              go_wp2_with fail
              exact ⟨.agg #[.bool (decide ((ps).num < 0)),.slice rs (nlen (ps).num.natAbs) cs,.slice rs2 (nlen (ps).den) cs2],u39,u40,u41,u42,u43,by simp only [Act.put,List.setIfInBounds_toArray,List.set_cons_zero,List.set_cons_succ],.inl ⟨by simpa using hLl,HS.out,(fun _ => rfl),(fun h => by first | rfl | exact P1.out (by simpa using h)),(fun h => by first | rfl | exact P2.out (by simpa using h)),(fun h => by first | rfl | exact P3.out (by simpa using h)),(fun h => by first | rfl | exact P4.out (by simpa using h)),(fun h => P5.out (by simpa using h))⟩⟩
            · simp only [List.getElem?_toArray,List.getElem?_cons_zero,List.getElem?_cons_succ,Option.some.injEq] at ho
              subst ho
              have P0 := Lib.hid p0
              have P1 := Lib.hid p1
              have P2 := Lib.hid p2
              have P3 := Lib.hid p3
              have P4 := Lib.hid p4
              have P5 := Lib.hid p5
              have HS := Lib.hid hS
              clear hS hLi hafter p0 p1 p2 p3 p4 p5
              simp only [Act.put,List.setIfInBounds_toArray,List.set_cons_zero,List.set_cons_succ]
              go_wp2_with fail
              exact ⟨u38,.slice (some ⟨b0,o0,none⟩) n cap,u40,u41,u42,u43,by simp only [Act.put,List.setIfInBounds_toArray,List.set_cons_zero,List.set_cons_succ],.inl ⟨by simpa using hLl,HS.out,(fun h => by first | rfl | exact P0.out (by simpa using h)),(fun _ => rfl),(fun h => by first | rfl | exact P2.out (by simpa using h)),(fun h => by first | rfl | exact P3.out (by simpa using h)),(fun h => by first | rfl | exact P4.out (by simpa using h)),(fun h => P5.out (by simpa using h))⟩⟩
            · simp only [List.getElem?_toArray,List.getElem?_cons_zero,List.getElem?_cons_succ,Option.some.injEq] at ho
              subst ho
              have P0 := Lib.hid p0
              have P1 := Lib.hid p1
              have P2 := Lib.hid p2
              have P3 := Lib.hid p3
              have P4 := Lib.hid p4
              have P5 := Lib.hid p5
              have HS := Lib.hid hS
              clear hS hLi hafter p0 p1 p2 p3 p4 p5
              simp only [Act.put,List.setIfInBounds_toArray,List.set_cons_zero,List.set_cons_succ]
              go_wp2_with fail
              exact ⟨u38,u39,.int .i64 j,u41,u42,u43,by simp only [Act.put,List.setIfInBounds_toArray,List.set_cons_zero,List.set_cons_succ],.inl ⟨by simpa using hLl,HS.out,(fun h => by first | rfl | exact P0.out (by simpa using h)),(fun h => by first | rfl | exact P1.out (by simpa using h)),(fun _ => rfl),(fun h => by first | rfl | exact P3.out (by simpa using h)),(fun h => by first | rfl | exact P4.out (by simpa using h)),(fun h => P5.out (by simpa using h))⟩⟩
            · simp only [List.getElem?_toArray,List.getElem?_cons_zero,List.getElem?_cons_succ,Option.some.injEq] at ho
              subst ho
              obtain rfl := p1 (hafter ⟨1,.data⟩ (by simp) rfl)
              obtain rfl := p2 (hafter ⟨2,.data⟩ (by simp) rfl)
              have P0 := Lib.hid p0
              have P1 := Lib.hid p1
              have P2 := Lib.hid p2
              have P3 := Lib.hid p3
              have P4 := Lib.hid p4
              have P5 := Lib.hid p5
              have HS := Lib.hid hS
              clear hS hLi hafter p0 p1 p2 p3 p4 p5
              simp only [Act.put,List.setIfInBounds_toArray,List.set_cons_zero,List.set_cons_succ]
              go_wp2_with fail
              exact ⟨u38,.slice (some ⟨b0,o0,none⟩) n cap,.int .i64 j,.pointer (some ⟨b0,o0 + j * 3,none⟩),u42,u43,by simp only [Act.put,List.setIfInBounds_toArray,List.set_cons_zero,List.set_cons_succ],.inl ⟨by simpa using hLl,HS.out,(fun h => by first | rfl | exact P0.out (by simpa using h)),(fun h => by first | rfl | exact P1.out (by simpa using h)),(fun h => by first | rfl | exact P2.out (by simpa using h)),(fun _ => rfl),(fun h => by first | rfl | exact P4.out (by simpa using h)),(fun h => P5.out (by simpa using h))⟩⟩
            · simp only [List.getElem?_toArray,List.getElem?_cons_zero,List.getElem?_cons_succ,Option.some.injEq] at ho
              subst ho
              obtain rfl := p3 (hafter ⟨3,.data⟩ (by simp) rfl)
              have c0 := (hS.1.cell (p := ⟨b0,o0 + j * 3,none⟩) hlb).trans g0
              have c1 := (hS.1.cell (p := ⟨b0,o0 + j * 3 + 1,none⟩) hlb).trans g1
              have c2 := (hS.1.cell (p := ⟨b0,o0 + j * 3 + 2,none⟩) hlb).trans g2
              have P0 := Lib.hid p0
              have P1 := Lib.hid p1
              have P2 := Lib.hid p2
              have P3 := Lib.hid p3
              have P4 := Lib.hid p4
              have P5 := Lib.hid p5
              have HS := Lib.hid hS
              clear hS hLi hafter p0 p1 p2 p3 p4 p5
              simp only [Act.put,List.setIfInBounds_toArray,List.set_cons_zero,List.set_cons_succ]
              go_wp2_with fail
              exact ⟨u38,u39,u40,.pointer (some ⟨b0,o0 + j * 3,none⟩),.agg #[.bool s',.slice ra rnn rc,.slice da dn dc],u43,by simp only [Act.put,List.setIfInBounds_toArray,List.set_cons_zero,List.set_cons_succ],.inl ⟨by simpa using hLl,HS.out,(fun h => by first | rfl | exact P0.out (by simpa using h)),(fun h => by first | rfl | exact P1.out (by simpa using h)),(fun h => by first | rfl | exact P2.out (by simpa using h)),(fun h => by first | rfl | exact P3.out (by simpa using h)),(fun _ => rfl),(fun h => P5.out (by simpa using h))⟩⟩
            · simp only [List.getElem?_toArray,List.getElem?_cons_zero,List.getElem?_cons_succ,Option.some.injEq] at ho
              subst ho
              obtain rfl := p0 (hafter ⟨0,.data⟩ (by simp) rfl)
              obtain rfl := p4 (hafter ⟨4,.data⟩ (by simp) rfl)
              have P0 := Lib.hid p0
              have P1 := Lib.hid p1
              have P2 := Lib.hid p2
              have P3 := Lib.hid p3
              have P4 := Lib.hid p4
              have P5 := Lib.hid p5
              have HS := Lib.hid hS
              clear hS hLi hafter p0 p1 p2 p3 p4 p5
              simp only [Act.put,List.setIfInBounds_toArray,List.set_cons_zero,List.set_cons_succ]
              go_wp2_with fail
              refine (xradd_any (N := N) _ _ _ _ _ _ _ _ _ _ _ _ _ _ 253755515 L ps (q j) _ (by have := HS.out.2;omega) (Rt.of_norm (HT1.out.below HS.out.1) (HT2.out.below HS.out.1) _ HZS.out) (HR.out.below HS.out.1) (by omega) (by omega) pn HPN.out).mono ?_
              rintro e wn ⟨r,c,r2,c2,rfl,hn,hn',hb⟩
              have HN := Lib.hid hn
              have HM := Lib.hid hn'
              have Hb := Lib.hid hb
              clear hn hn' hb
              go_wp2_with fail
              exact ⟨.agg #[.bool (decide ((ps).num < 0)),.slice rs (nlen (ps).num.natAbs) cs,.slice rs2 (nlen (ps).den) cs2],u39,u40,u41,.agg #[.bool s',.slice ra rnn rc,.slice da dn dc],_,by simp only [Act.put,List.setIfInBounds_toArray,List.set_cons_zero,List.set_cons_succ],.inl ⟨by simpa using hLl,HS.out.below Hb.out,(fun h => by first | rfl | exact P0.out (by simpa using h)),(fun h => by first | rfl | exact P1.out (by simpa using h)),(fun h => by first | rfl | exact P2.out (by simpa using h)),(fun h => by first | rfl | exact P3.out (by simpa using h)),(fun h => by first | rfl | exact P4.out (by simpa using h)),(fun _ => ⟨r,c,r2,c2,rfl,HN.out,HM.out⟩)⟩⟩
            · simp only [List.getElem?_toArray,List.getElem?_cons_zero,List.getElem?_cons_succ,Option.some.injEq] at ho
              subst ho
              have hall : ∀ j,j < 6 → Ls j = true := by
                intro j hj
                obtain rfl | rfl | rfl | rfl | rfl | rfl : j = 0 ∨ j = 1 ∨ j = 2 ∨ j = 3 ∨ j = 4 ∨ j = 5 := by omega
                all_goals first | (refine hafter ⟨_,.phase⟩ ?_ rfl;simp;done) | (refine hafter ⟨_,.data⟩ ?_ rfl;simp;done)
              have HALL := Lib.hid hall
              clear hall
              obtain ⟨r5,c5,t5,d5,rfl,hn5,hm5⟩ := p5 (hafter ⟨5,.data⟩ (by simp) rfl)
              have HN5 := Lib.hid hn5
              have HM5 := Lib.hid hm5
              clear hn5 hm5
              have c0 := (hS.1.cell (p := ⟨wb.heap.size,0,none⟩) hl_S).trans k_S_0
              have c1 := (hS.1.cell (p := ⟨wb.heap.size,1,none⟩) hl_S).trans k_S_1
              have c2 := (hS.1.cell (p := ⟨wb.heap.size,2,none⟩) hl_S).trans k_S_2
              have fz : ∀ o,wq.frozen? ⟨wb.heap.size,o,none⟩ = false := fun o => (hS.1.frozen (p := ⟨wb.heap.size,o,none⟩) hl_S).trans (f_S o)
              have P0 := Lib.hid p0
              have P1 := Lib.hid p1
              have P2 := Lib.hid p2
              have P3 := Lib.hid p3
              have P4 := Lib.hid p4
              have P5 := Lib.hid p5
              have HS := Lib.hid hS
              clear hS hLi hafter p0 p1 p2 p3 p4 p5
              simp only [Act.put,List.setIfInBounds_toArray,List.set_cons_zero,List.set_cons_succ]
              go_wp2_with fail
              exact ⟨u38,u39,u40,u41,u42,.agg #[.bool (decide ((pn).num < 0)),.slice r5 (nlen (pn).num.natAbs) c5,.slice t5 (nlen (pn).den) d5],by simp only [Act.put,List.setIfInBounds_toArray,List.set_cons_zero,List.set_cons_succ],.inr ⟨by simp,fun j hj => by simp [HALL.out j hj],⟨_,_,_,_,_,HS.out,HN5.out,HM5.out,rfl⟩⟩⟩
          · exfalso
            have hi : i < 7 := (Array.getElem?_eq_some_iff.1 ho).1
            rcases Nat.lt_or_ge i 6 with h | h
            · rw [hall i h] at hLi;cases hLi
            · obtain rfl : i = 6 := by omega
              rw [h10] at hLi;cases hLi
        · intro Ls a0 wq hall hJ
          obtain ⟨u38,u39,u40,u41,u42,u43,rfl,⟨h10,_⟩ | ⟨_,_,hcut⟩⟩ := hJ
          · rw [hall 6 (by decide)] at h10;cases h10
          · obtain ⟨wd,rn,cn,rn2,cn2,hs,hn,hn',rfl⟩ := hcut
            have hb := hs.1
            clear hs
            have hs_wd : W2.heap.size ≤ wd.heap.size := hb.size
            replace k_S_0 : wd.cell? ⟨wb.heap.size,0,none⟩ = some (.bool (decide ((ps).num < 0))) := (hb.cell (p := ⟨wb.heap.size,0,none⟩) hl_S).trans k_S_0
            replace k_S_1 : wd.cell? ⟨wb.heap.size,1,none⟩ = some (.slice rs (nlen (ps).num.natAbs) cs) := (hb.cell (p := ⟨wb.heap.size,1,none⟩) hl_S).trans k_S_1
            replace k_S_2 : wd.cell? ⟨wb.heap.size,2,none⟩ = some (.slice rs2 (nlen (ps).den) cs2) := (hb.cell (p := ⟨wb.heap.size,2,none⟩) hl_S).trans k_S_2
            replace f_S : ∀ o,wd.frozen? ⟨wb.heap.size,o,none⟩ = false := fun o => (hb.frozen (p := ⟨wb.heap.size,o,none⟩) hl_S).trans (f_S o)
            replace HX_S := Lib.hid (HX_S.out.below hb)
            replace k_R_0 : wd.cell? ⟨w.heap.size,0,none⟩ = some (.bool false) := (hb.cell (p := ⟨w.heap.size,0,none⟩) hl_R).trans k_R_0
            replace k_R_1 : wd.cell? ⟨w.heap.size,1,none⟩ = some (.slice none 0 0) := (hb.cell (p := ⟨w.heap.size,1,none⟩) hl_R).trans k_R_1
            replace k_R_2 : wd.cell? ⟨w.heap.size,2,none⟩ = some (.slice none 0 0) := (hb.cell (p := ⟨w.heap.size,2,none⟩) hl_R).trans k_R_2
            replace f_R : ∀ o,wd.frozen? ⟨w.heap.size,o,none⟩ = false := fun o => (hb.frozen (p := ⟨w.heap.size,o,none⟩) hl_R).trans (f_R o)
            replace HX_R := Lib.hid (HX_R.out.below hb)
            replace HT1 := Lib.hid (HT1.out.below hb)
            replace HT2 := Lib.hid (HT2.out.below hb)
            replace HR := Lib.hid (HR.out.below hb)
            replace HRk := Lib.hid (HRk.out.below hb)
            replace HB := Lib.hid (HB.out.trans (hb.mono hs0))
            replace hN : N ≤ wd.heap.size := Nat.le_trans hN hb.size
            replace hs0 : w.heap.size ≤ wd.heap.size := Nat.le_trans hs0 hb.size
            replace hl_S : wb.heap.size < wd.heap.size := Nat.lt_of_lt_of_le hl_S hb.size
            replace hl_R : w.heap.size < wd.heap.size := Nat.lt_of_lt_of_le hl_R hb.size
            clear hb
            have Hn1 := Lib.hid hn
            have Hn2 := Lib.hid hn'
            clear hn hn'
            simp only [Act.put,List.setIfInBounds_toArray,List.set_cons_zero,List.set_cons_succ]
            go_wp2_with fail
            go_roundw
            case rel =>
              refine ⟨j + 1,pn,by omega,by go_num,HSN.out,⟨rn,cn,rn2,cn2,⟨by first | omega | (simp;done) | (simp;omega),by exact KpA,fun o => by first | with_reducible exact f_S o | (simp [go_sem,f_S];done) | (simp [go_sem,f_S,hl_S];done) | (go_simp;done) | (simp;done) | (simp [go_sem];done) | (simp [go_sem,k_S_0,k_S_1,k_S_2,k_R_0,k_R_1,k_R_2,f_S,f_R,hl_S,hl_R];done),by first | with_reducible assumption | (simp [go_sem,k_S_0];done) | (simp [go_sem,k_S_0,hl_S];done) | (go_simp;done) | (simp;done) | (simp [go_sem];done) | (simp [go_sem,k_S_0,k_S_1,k_S_2,k_R_0,k_R_1,k_R_2,f_S,f_R,hl_S,hl_R];done),by first | with_reducible assumption | (simp [go_sem,k_S_1];done) | (simp [go_sem,k_S_1,hl_S];done) | (go_simp;done) | (simp;done) | (simp [go_sem];done) | (simp [go_sem,k_S_0,k_S_1,k_S_2,k_R_0,k_R_1,k_R_2,f_S,f_R,hl_S,hl_R];done),by first | with_reducible assumption | (simp [go_sem,k_S_2];done) | (simp [go_sem,k_S_2,hl_S];done) | (go_simp;done) | (simp;done) | (simp [go_sem];done) | (simp [go_sem,k_S_0,k_S_1,k_S_2,k_R_0,k_R_1,k_R_2,f_S,f_R,hl_S,hl_R];done)⟩,Hn1.out.keep ?_,Hn2.out.keep ?_⟩,⟨by first | omega | (simp;done) | (simp;omega),by exact KpA,fun o => by first | with_reducible exact f_R o | (simp [go_sem,f_R];done) | (simp [go_sem,f_R,hl_R];done) | (go_simp;done) | (simp;done) | (simp [go_sem];done) | (simp [go_sem,k_S_0,k_S_1,k_S_2,k_R_0,k_R_1,k_R_2,f_S,f_R,hl_S,hl_R];done),by first | with_reducible assumption | (simp [go_sem,k_R_0];done) | (simp [go_sem,k_R_0,hl_R];done) | (go_simp;done) | (simp;done) | (simp [go_sem];done) | (simp [go_sem,k_S_0,k_S_1,k_S_2,k_R_0,k_R_1,k_R_2,f_S,f_R,hl_S,hl_R];done),by first | with_reducible assumption | (simp [go_sem,k_R_1];done) | (simp [go_sem,k_R_1,hl_R];done) | (go_simp;done) | (simp;done) | (simp [go_sem];done) | (simp [go_sem,k_S_0,k_S_1,k_S_2,k_R_0,k_R_1,k_R_2,f_S,f_R,hl_S,hl_R];done),by first | with_reducible assumption | (simp [go_sem,k_R_2];done) | (simp [go_sem,k_R_2,hl_R];done) | (go_simp;done) | (simp;done) | (simp [go_sem];done) | (simp [go_sem,k_S_0,k_S_1,k_S_2,k_R_0,k_R_1,k_R_2,f_S,f_R,hl_S,hl_R];done)⟩,?_,?_⟩
              all_goals exact KBA
            case measure => simp [intOf];omega
      · have dk : decide (κ ≤ 0) = false := by rw [← hκ,cmp_le];exact decide_eq_false hle
        have HSN := Lib.hid (show sQ (fun i => if q i ≤ q k then q i else 0) (j + 1) = ps by show sQ _ j + _ = ps;simp only [if_neg hle];rw [HPS.out];grind)
        clear hκ hle
        go_wp2_with fail
        go_region_held3 (fun w' => w'.cell? ⟨b0,o0 + j * 3,none⟩ = some (.bool s') ∧ w'.cell? ⟨b0,o0 + j * 3 + 1,none⟩ = some (.slice ra rnn rc) ∧ w'.cell? ⟨b0,o0 + j * 3 + 2,none⟩ = some (.slice da dn dc) ∧ w'.cell? ⟨b0,o0 + k * 3,none⟩ = some (.bool s3) ∧ w'.cell? ⟨b0,o0 + k * 3 + 1,none⟩ = some (.slice ra3 rnn3 rc3) ∧ w'.cell? ⟨b0,o0 + k * 3 + 2,none⟩ = some (.slice da3 dn3 dc3))
          (first | (go_keep;done) | ((try dsimp only);(repeat' apply And.intro) <;> (first | (go_keep;done) | (exact cell_keep_alloc_drew (by first | omega | (simp;omega)) (by first | assumption | go_simp)) | (exact cell_keep_alloc (by first | omega | (simp;omega)) (by first | assumption | go_simp)) | (rw [cell_set2 _ _ _ _ _ _ _ _ (by omega)];assumption) | (rw [cell_set3 _ _ _ _ _ _ _ _ _ _ (by omega)];assumption))))
          (first
            | (go_at_call 55;refine (xrcmp_any (N := N) _ _ _ _ _ _ _ _ _ _ _ _ _ _ L L (q j) (q k) _ (by exact hN) (by exact HR.out) (by exact HRk.out) (by omega) (by omega)).mono ?_;rw [HK.out];rintro e wc ⟨rfl,hb⟩;replace hb : Below wr.heap.size wr wc := (by first | exact hb | exact bel_of_drew hb);have g0' : wc.cell? ⟨b0,o0 + j * 3,none⟩ = some (.bool s') := (hb.cell (p := ⟨b0,o0 + j * 3,none⟩) hlb).trans g0;have g1' : wc.cell? ⟨b0,o0 + j * 3 + 1,none⟩ = some (.slice ra rnn rc) := (hb.cell (p := ⟨b0,o0 + j * 3 + 1,none⟩) hlb).trans g1;have g2' : wc.cell? ⟨b0,o0 + j * 3 + 2,none⟩ = some (.slice da dn dc) := (hb.cell (p := ⟨b0,o0 + j * 3 + 2,none⟩) hlb).trans g2;have g3' : wc.cell? ⟨b0,o0 + k * 3,none⟩ = some (.bool s3) := (hb.cell (p := ⟨b0,o0 + k * 3,none⟩) hlb).trans g3;have g4' : wc.cell? ⟨b0,o0 + k * 3 + 1,none⟩ = some (.slice ra3 rnn3 rc3) := (hb.cell (p := ⟨b0,o0 + k * 3 + 1,none⟩) hlb).trans g4;have g5' : wc.cell? ⟨b0,o0 + k * 3 + 2,none⟩ = some (.slice da3 dn3 dc3) := (hb.cell (p := ⟨b0,o0 + k * 3 + 2,none⟩) hlb).trans g5;have hlb' : b0 < wc.heap.size := Nat.lt_of_lt_of_le hlb hb.size;have hs_wc : wr.heap.size ≤ wc.heap.size := hb.size;replace k_S_0 : wc.cell? ⟨wb.heap.size,0,none⟩ = some (.bool (decide ((ps).num < 0))) := (hb.cell (p := ⟨wb.heap.size,0,none⟩) hl_S).trans k_S_0;replace k_S_1 : wc.cell? ⟨wb.heap.size,1,none⟩ = some (.slice rs (nlen (ps).num.natAbs) cs) := (hb.cell (p := ⟨wb.heap.size,1,none⟩) hl_S).trans k_S_1;replace k_S_2 : wc.cell? ⟨wb.heap.size,2,none⟩ = some (.slice rs2 (nlen (ps).den) cs2) := (hb.cell (p := ⟨wb.heap.size,2,none⟩) hl_S).trans k_S_2;replace f_S : ∀ o,wc.frozen? ⟨wb.heap.size,o,none⟩ = false := fun o => (hb.frozen (p := ⟨wb.heap.size,o,none⟩) hl_S).trans (f_S o);replace HX_S := Lib.hid (HX_S.out.below hb);replace k_R_0 : wc.cell? ⟨w.heap.size,0,none⟩ = some (.bool false) := (hb.cell (p := ⟨w.heap.size,0,none⟩) hl_R).trans k_R_0;replace k_R_1 : wc.cell? ⟨w.heap.size,1,none⟩ = some (.slice none 0 0) := (hb.cell (p := ⟨w.heap.size,1,none⟩) hl_R).trans k_R_1;replace k_R_2 : wc.cell? ⟨w.heap.size,2,none⟩ = some (.slice none 0 0) := (hb.cell (p := ⟨w.heap.size,2,none⟩) hl_R).trans k_R_2;replace f_R : ∀ o,wc.frozen? ⟨w.heap.size,o,none⟩ = false := fun o => (hb.frozen (p := ⟨w.heap.size,o,none⟩) hl_R).trans (f_R o);replace HX_R := Lib.hid (HX_R.out.below hb);replace HT1 := Lib.hid (HT1.out.below hb);replace HT2 := Lib.hid (HT2.out.below hb);replace HR := Lib.hid (HR.out.below hb);replace HRk := Lib.hid (HRk.out.below hb);replace HB := Lib.hid (HB.out.trans (hb.mono hs0));replace hN : N ≤ wc.heap.size := Nat.le_trans hN hb.size;replace hs0 : w.heap.size ≤ wc.heap.size := Nat.le_trans hs0 hb.size;replace hl_S : wb.heap.size < wc.heap.size := Nat.lt_of_lt_of_le hl_S hb.size;replace hl_R : w.heap.size < wc.heap.size := Nat.lt_of_lt_of_le hl_R hb.size;clear hb;skip))
        go_wp2_with fail
        go_roundw
        case rel =>
          refine ⟨j + 1,ps,by omega,by go_num,HSN.out,⟨rs,cs,rs2,cs2,⟨by first | omega | (simp;done) | (simp;omega),by exact KpA,fun o => by first | with_reducible exact f_S o | (simp [go_sem,f_S];done) | (simp [go_sem,f_S,hl_S];done) | (go_simp;done) | (simp;done) | (simp [go_sem];done) | (simp [go_sem,k_S_0,k_S_1,k_S_2,k_R_0,k_R_1,k_R_2,f_S,f_R,hl_S,hl_R];done),by first | with_reducible assumption | (simp [go_sem,k_S_0];done) | (simp [go_sem,k_S_0,hl_S];done) | (go_simp;done) | (simp;done) | (simp [go_sem];done) | (simp [go_sem,k_S_0,k_S_1,k_S_2,k_R_0,k_R_1,k_R_2,f_S,f_R,hl_S,hl_R];done),by first | with_reducible assumption | (simp [go_sem,k_S_1];done) | (simp [go_sem,k_S_1,hl_S];done) | (go_simp;done) | (simp;done) | (simp [go_sem];done) | (simp [go_sem,k_S_0,k_S_1,k_S_2,k_R_0,k_R_1,k_R_2,f_S,f_R,hl_S,hl_R];done),by first | with_reducible assumption | (simp [go_sem,k_S_2];done) | (simp [go_sem,k_S_2,hl_S];done) | (go_simp;done) | (simp;done) | (simp [go_sem];done) | (simp [go_sem,k_S_0,k_S_1,k_S_2,k_R_0,k_R_1,k_R_2,f_S,f_R,hl_S,hl_R];done)⟩,HT1.out.keep ?_,HT2.out.keep ?_⟩,⟨by first | omega | (simp;done) | (simp;omega),by exact KpA,fun o => by first | with_reducible exact f_R o | (simp [go_sem,f_R];done) | (simp [go_sem,f_R,hl_R];done) | (go_simp;done) | (simp;done) | (simp [go_sem];done) | (simp [go_sem,k_S_0,k_S_1,k_S_2,k_R_0,k_R_1,k_R_2,f_S,f_R,hl_S,hl_R];done),by first | with_reducible assumption | (simp [go_sem,k_R_0];done) | (simp [go_sem,k_R_0,hl_R];done) | (go_simp;done) | (simp;done) | (simp [go_sem];done) | (simp [go_sem,k_S_0,k_S_1,k_S_2,k_R_0,k_R_1,k_R_2,f_S,f_R,hl_S,hl_R];done),by first | with_reducible assumption | (simp [go_sem,k_R_1];done) | (simp [go_sem,k_R_1,hl_R];done) | (go_simp;done) | (simp;done) | (simp [go_sem];done) | (simp [go_sem,k_S_0,k_S_1,k_S_2,k_R_0,k_R_1,k_R_2,f_S,f_R,hl_S,hl_R];done),by first | with_reducible assumption | (simp [go_sem,k_R_2];done) | (simp [go_sem,k_R_2,hl_R];done) | (go_simp;done) | (simp;done) | (simp [go_sem];done) | (simp [go_sem,k_S_0,k_S_1,k_S_2,k_R_0,k_R_1,k_R_2,f_S,f_R,hl_S,hl_R];done)⟩,?_,?_⟩
          all_goals first | with_reducible exact Kp.refl _ _ | with_reducible exact HB.out | omega
        case measure => simp [intOf];omega
    · obtain rfl : n = j := by omega
      obtain rfl : ps = p := HPS.out.symm.trans HP.out
      go_wp2_with fail
      refine bodyPost_ret (v := .tuple #[.agg #[.bool (decide ((ps).num < 0)),.slice rs (nlen (ps).num.natAbs) cs,.slice rs2 (nlen (ps).den) cs2],.int .i64 0]) (by simp [results,Tryz.results25,go_sem,k_R_0,k_R_1,k_R_2]) rfl ⟨_,_,_,_,rfl,HT1.out.keep ?_,HT2.out.keep ?_,?_⟩
      all_goals exact KBA
end Go.Proofs.YtnillajhhimeiaaGreatDoor
