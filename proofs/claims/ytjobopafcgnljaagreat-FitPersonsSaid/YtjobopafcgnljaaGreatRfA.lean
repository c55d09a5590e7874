import Derived.Test.YtjobopafcgnljaaGreatAl
import Derived.Test.YtjobopafcgnljaaGreatRefV
import Derived.Test.YtjobopafcgnljaaGreatJoX
namespace Go.Proofs.YtjobopafcgnljaaGreat
open Go.RowKit
theorem whole_post {N : Nat} {w w' : World} (n : Nat) (p : Rat) (hp : ((n : Nat) : Rat) = p) {r r2 : Option Addr} {c : Nat} (h1 : Nt N w' r (nlen n) c n) (h2 : Nt N w' r2 1 1 1) (hb : Below w.heap.size w w') :
  RatPost N w p (.returned (.agg #[.bool false, .slice r (nlen n) c, .slice r2 1 1])) w' := by
 have e1 : p.num = (n : Int) := by rw [← hp]; rfl
 have e2 : p.den = 1 := by rw [← hp]; rfl
 have e3 : p.num.natAbs = n := by rw [e1]; rfl
 have e4 : nlen 1 = 1 := by decide +kernel
 have e5 : decide (p.num < 0) = false := by rw [e1]; simp
 refine ⟨r, c, r2, 1, ?_, ?_, ?_, hb⟩
 ·rw [e5, e3, e2, e4]
 ·rw [e3]; exact h1
 ·rw [e2, e4]; exact h2
theorem rsz_addx (p q : Rat) : rsz (p + q) ≤ rsz p + rsz q + 1 := by
 have h := rsz_subx p (-q)
 rw [rsz_neg] at h
 have e : p - -q = p + q := by grind
 rwa [e] at h
theorem sQ_rsz {q : Nat → Rat} {L : Nat} : ∀ {k : Nat}, (∀ i, i < k → rsz (q i) ≤ L) → rsz (sQ q k) ≤ k * (L + 1) + 1
 | 0, _ => by
  have : rsz (0 : Rat) ≤ 1 := by decide +kernel
  simpa [sQ] using this
 | k + 1, h => by
  have h1 := sQ_rsz (k := k) (fun i hi => h i (by omega))
  have h2 := h k (by omega)
  have h3 := rsz_addx (sQ q k) (q k)
  have e : (k + 1) * (L + 1) = k * (L + 1) + (L + 1) := Nat.succ_mul _ _
  show rsz (sQ q k + q k) ≤ _
  omega
theorem rsz_nat (n : Nat) (h : n < 4294967296) (p : Rat) (hp : ((n : Nat) : Rat) = p) : rsz p ≤ 1 := by
 have e1 : p.num.natAbs = n := by rw [← hp]; rfl
 have e2 : p.den = 1 := by rw [← hp]; rfl
 unfold rsz
 rw [e1, e2]
 have := nlen_small h
 have := nlen_small (show 1 < 4294967296 by decide)
 omega
theorem natQ_one (p : Rat) (hp : ((1 : Nat) : Rat) = p) : p = 1 := by rw [← hp]; rfl
theorem natQ_zero (p : Rat) (hp : ((0 : Nat) : Rat) = p) : p = 0 := by rw [← hp]; rfl
set_option maxHeartbeats 1000000 in
theorem Whole_z {N : Nat} (z : Int) (n : Nat) (hz : z = (n : Int)) (w : World) (hN : N ≤ w.heap.size) (hn : n ≤ 4611686018427387904) (p : Rat) (hp : ((n : Nat) : Rat) = p) :
  Calls Tryz.prog 69 #[.int .i64 z] w (RatPost N w p) := by
 have hN0 := hN
 subst hz
 have HP := Lib.hid hp
 clear hp
 have hmx : max (n : Int) 0 = (n : Int) := by omega
 have HB := Lib.hid (Below.refl w.heap.size w)
 go_enter Tryz.func69, Tryz.ntmps69
 go_wp2_with fail
 refine calls_name fun W0 hW => ?_
 have hs_W0 : w.heap.size ≤ W0.heap.size := by rw [← hW]; exact OmT
 have k_R_0 : W0.cell? ⟨w.heap.size, 0, none⟩ = some (.bool false) := by rw [← hW]; exact CeA
 have k_R_1 : W0.cell? ⟨w.heap.size, 1, none⟩ = some (.slice none 0 0) := by rw [← hW]; exact CeA
 have k_R_2 : W0.cell? ⟨w.heap.size, 2, none⟩ = some (.slice none 0 0) := by rw [← hW]; exact CeA
 have f_R : ∀ o, W0.frozen? ⟨w.heap.size, o, none⟩ = false := by intro o; rw [← hW]; exact CeA
 have HX_R := Lib.hid (show Bn W0 (w.heap.size) by rw [← hW]; exact KpA)
 replace HB := Lib.hid (show Below w.heap.size w W0 by rw [← hW]; exact BlA)
 replace hN : N ≤ W0.heap.size := by rw [← hW]; exact OmT
 have hs0 : w.heap.size ≤ W0.heap.size := by rw [← hW]; exact OmT
 have hl_R : w.heap.size < W0.heap.size := by rw [← hW]; exact OmT
 clear hW
 refine (xof_any (N := N) n _ (by omega)).mono ?_
 rintro e wa ⟨rx, cx, rfl, hn, hb⟩
 have hs_wa : W0.heap.size ≤ wa.heap.size := hb.size
 replace k_R_0 : wa.cell? ⟨w.heap.size, 0, none⟩ = some (.bool false) := (hb.cell (p := ⟨w.heap.size, 0, none⟩) hl_R).trans k_R_0
 replace k_R_1 : wa.cell? ⟨w.heap.size, 1, none⟩ = some (.slice none 0 0) := (hb.cell (p := ⟨w.heap.size, 1, none⟩) hl_R).trans k_R_1
 replace k_R_2 : wa.cell? ⟨w.heap.size, 2, none⟩ = some (.slice none 0 0) := (hb.cell (p := ⟨w.heap.size, 2, none⟩) hl_R).trans k_R_2
 replace f_R : ∀ o, wa.frozen? ⟨w.heap.size, o, none⟩ = false := fun o => (hb.frozen (p := ⟨w.heap.size, o, none⟩) hl_R).trans (f_R o)
 replace HX_R := Lib.hid (HX_R.out.below hb)
 replace HB := Lib.hid (HB.out.trans (hb.mono hs0))
 replace hN : N ≤ wa.heap.size := Nat.le_trans hN hb.size
 replace hs0 : w.heap.size ≤ wa.heap.size := Nat.le_trans hs0 hb.size
 replace hl_R : w.heap.size < wa.heap.size := Nat.lt_of_lt_of_le hl_R hb.size
 clear hb
 have HX1 := Lib.hid hn
 clear hn
 go_wp2_with fail
 refine bodyPost_ret (v := .agg #[.bool false, .slice rx (nlen n) cx, .slice (some ⟨wa.heap.size, 0, none⟩) 1 1]) (by simp [results, Tryz.results69, go_sem, k_R_0, k_R_1, k_R_2, hl_R]) rfl (whole_post n p HP.out (HX1.out.keep ?_) (Nt.lit _ 1 wa.heap.size (by simp [World.setCell]) (by decide)) ?_)
 all_goals exact KBA
set_option maxHeartbeats 1000000 in
theorem xvalid_len {N : Nat} (a : Option Addr) (n cap : Nat) (q : Nat → Rat) (L : Nat) (w : World) (hN : N ≤ w.heap.size) (h : Rs N w a n cap q L) (hL : L ≤ 2097152) (hn : n < 1 ∨ 121 < n) : Calls Tryz.prog 68 #[.slice a n cap] w fun e w' => e = .returned (.bool false) ∧ Below w.heap.size w w' := by
 have _ := hL
 by_cases h1 : n < 1
 ·have d1 : decide ((n : Int) < 1) = true := by simp; omega
  have hN0 := hN
  have HA := Lib.hid h
  have bc1 := h.1
  have bc2 := h.2.1
  unfold maxLen at bc2
  clear h
  have HB := Lib.hid (Below.refl w.heap.size w)
  go_enter Tryz.func68, Tryz.ntmps68
  go_wp2_with fail
  go_ret
  exact ⟨rfl, HB.out⟩
 ·have d1 : decide ((n : Int) < 1) = false := by simp; omega
  have d2 : decide (121 < (n : Int)) = true := by simp; omega
  have hN0 := hN
  have HA := Lib.hid h
  have bc1 := h.1
  have bc2 := h.2.1
  unfold maxLen at bc2
  clear h
  have HB := Lib.hid (Below.refl w.heap.size w)
  go_enter Tryz.func68, Tryz.ntmps68
  go_wp2_with fail
  go_ret
  exact ⟨rfl, HB.out⟩
def CutSet (N : Nat) (W : World) (g : Nat) (q : Rat) (w : World) : Prop :=
 ∃ w1 r c r2 c2, Since W w1 ∧ Nt N w1 r (nlen q.num.natAbs) c q.num.natAbs ∧ Nt N w1 r2 (nlen q.den) c2 q.den ∧ w = ((w1.setCell ⟨g, 0, none⟩ (.bool (decide (q.num < 0)))).setCell ⟨g, 1, none⟩ (.slice r (nlen q.num.natAbs) c)).setCell ⟨g, 2, none⟩ (.slice r2 (nlen q.den) c2)
def ValJ (N g : Nat) (pk pn : Rat) (rs rs2 : Option Addr) (cs cs2 : Nat) (s' : Bool) (ra da : Option Addr) (rnn rc dn dc b0 o0 n cap k : Nat) (W : World) (z0 : Act) (L : Nat → Bool) (z1 : Act) (w : World) : Prop :=
 ∃ u26 u27 u28 u29 u30 u31, z1 = ((((((z0.put (some 26) u26).put (some 27) u27).put (some 28) u28).put (some 29) u29).put (some 30) u30).put (some 31) u31) ∧
  ((L 6 = false ∧ Since W w ∧ (L 0 = true → u26 = .agg #[.bool (decide ((pk).num < 0)), .slice rs (nlen (pk).num.natAbs) cs, .slice rs2 (nlen (pk).den) cs2]) ∧ (L 1 = true → u27 = .slice (some ⟨b0, o0, none⟩) n cap) ∧ (L 2 = true → u28 = .int .i64 k) ∧ (L 3 = true → u29 = .pointer (some ⟨b0, o0 + k * 3, none⟩)) ∧ (L 4 = true → u30 = .agg #[.bool s', .slice ra rnn rc, .slice da dn dc]) ∧ (L 5 = true → IsRat N pn u31 w)) ∨
  (L 6 = true ∧ (∀ j, j < 6 → L j = true) ∧ CutSet N W g pn w))
theorem cmp_eq0 (p q : Rat) : (cmpQ p q == 0) = decide (p = q) := by
 unfold cmpQ
 by_cases h1 : p < q
 ·rw [if_pos h1, decide_eq_false (by grind)]; rfl
 ·rw [if_neg h1]
  by_cases h2 : q < p
  ·rw [if_pos h2, decide_eq_false (by grind)]; rfl
  ·rw [if_neg h2, decide_eq_true (by grind)]; rfl
theorem valid_cmp (q : Nat → Rat) (n : Nat) (n0 : 0 < n) (n1 : n ≤ 121) (h : ∀ j, j < n → 0 ≤ q j) : (cmpQ (sQ q n) 1 == 0) = valid q n := by
 rw [cmp_eq0]
 unfold valid
 exact decide_eq_decide.2 ⟨fun e => ⟨n0, n1, h, e⟩, fun e => e.2.2.2⟩
set_option maxHeartbeats 8000000 in
theorem xvalid_main {N : Nat} (a : Option Addr) (n cap : Nat) (q : Nat → Rat) (L : Nat) (w : World) (hN : N ≤ w.heap.size) (h : Rs N w a n cap q L) (hL : L ≤ 2097152) (n0 : 0 < n) (n121 : n ≤ 121) (v : Bool) (hv : valid q n = v) : Calls Tryz.prog 68 #[.slice a n cap] w fun e w' => e = .returned (.bool v) ∧ Below w.heap.size w w' := by
 have d1 : decide ((n : Int) < 1) = false := by simp; omega
 have d2 : decide (121 < (n : Int)) = false := by simp; omega
 obtain ⟨p0, hp0⟩ : ∃ p : Rat, ((0 : Nat) : Rat) = p := ⟨_, rfl⟩
 have e0 := natQ_zero p0 hp0
 have HP0 := Lib.hid hp0
 have HE0 := Lib.hid (show sQ q 0 = p0 from e0.symm)
 obtain ⟨p1, hp1⟩ : ∃ p : Rat, ((1 : Nat) : Rat) = p := ⟨_, rfl⟩
 have HP1 := Lib.hid hp1
 have HE1 := Lib.hid (natQ_one p1 hp1)
 have HZ1 := Lib.hid (rsz_nat 1 (by decide) p1 hp1)
 have HV := Lib.hid hv
 have HLim := Lib.hid h.lim
 clear hp0 e0 hp1 hv
 have hN0 := hN
 have HA := Lib.hid h
 have bc1 := h.1
 have bc2 := h.2.1
 unfold maxLen at bc2
 clear h
 have HB := Lib.hid (Below.refl w.heap.size w)
 go_enter Tryz.func68, Tryz.ntmps68
 go_wp2_with fail
 refine calls_name fun W0 hW => ?_
 have hs_W0 : w.heap.size ≤ W0.heap.size := by rw [← hW]; exact OmT
 replace HB := Lib.hid (show Below w.heap.size w W0 by rw [← hW]; exact BlA)
 replace hN : N ≤ W0.heap.size := by rw [← hW]; exact OmT
 have hs0 : w.heap.size ≤ W0.heap.size := by rw [← hW]; exact OmT
 clear hW
 refine (Whole_z (N := N) 0 0 rfl _ hN (by omega) p0 HP0.out).mono ?_
 rintro e wa ⟨rz, cz, rz2, cz2, rfl, hn, hn', hb⟩
 have hs_wa : W0.heap.size ≤ wa.heap.size := hb.size
 replace HB := Lib.hid (HB.out.trans (hb.mono hs0))
 replace hN : N ≤ wa.heap.size := Nat.le_trans hN hb.size
 replace hs0 : w.heap.size ≤ wa.heap.size := Nat.le_trans hs0 hb.size
 clear hb
 have HS1 := Lib.hid hn
 clear hn
 have HS2 := Lib.hid hn'
 clear hn'
 go_wp2_with fail
 go_loopw [4] (fun i wr => ∃ k pk, k ≤ n ∧ i = .int .i64 ((k : Nat) : Int) ∧ sQ q k = pk ∧ NBox N wr wa.heap.size pk ∧ (∀ j, j < k → 0 ≤ q j) ∧ Below w.heap.size w wr ∧ w.heap.size ≤ wr.heap.size) (fun i _ => n - (intOf i).toNat)
 case atStart =>
  refine ⟨0, p0, Nat.zero_le _, rfl, HE0.out, ⟨rz, cz, rz2, cz2, ⟨by first | omega | (simp; done) | (simp; omega), by exact KpA, fun o => by first | (go_simp; done) | (simp; done) | (simp [go_sem]; done) | (simp [go_sem]; done), by first | with_reducible assumption | (go_simp; done) | (simp; done) | (simp [go_sem]; done) | (simp [go_sem]; done), by first | with_reducible assumption | (go_simp; done) | (simp; done) | (simp [go_sem]; done) | (simp [go_sem]; done), by first | with_reducible assumption | (go_simp; done) | (simp; done) | (simp [go_sem]; done) | (simp [go_sem]; done)⟩, HS1.out.keep ?_, HS2.out.keep ?_⟩, fun j hj => by omega, ?_, ?_⟩
  all_goals exact KBA
 case round =>
  obtain ⟨k, pk, hk, rfl, hpk, ⟨rs, cs, rs2, cs2, hbx, hn1, hn2⟩, hnn, hbel, hsz⟩ := hrel
  obtain ⟨hl_S, bn_S, f_S, k_S_0, k_S_1, k_S_2⟩ := hbx
  have HX_S := Lib.hid bn_S
  clear bn_S
  have HPK := Lib.hid hpk
  have HNN := Lib.hid hnn
  have HT1 := Lib.hid hn1
  have HT2 := Lib.hid hn2
  have HAr := Lib.hid (HA.out.below hbel)
  clear hnn hn1 hn2 HS1 HS2 HB hs0
  have hNw := hN0
  clear hN
  have HB := Lib.hid hbel
  have hs0 := hsz
  have hN : N ≤ wr.heap.size := by omega
  clear hbel
  have HZK := Lib.hid (show rsz pk ≤ 253755515 by rw [← hpk]; have h1 := sQ_rsz (q := q) (k := k) (fun i hi => HLim.out i (by omega)); have h2 : k * (L + 1) ≤ 121 * (L + 1) := Nat.mul_le_mul_right _ (by omega); omega)
  clear hpk
  by_cases hkn : k < n
  ·obtain ⟨b0, o0, rfl, hc⟩ := HAr.out.2.2 (by omega)
   obtain ⟨s', ra, rnn, rc, da, dn, dc, g0, g1, g2, hr⟩ := hc k hkn
   have HR := Lib.hid hr
   have hlb : b0 < wr.heap.size := World.block_lt_of_cell? wr _ g0
   clear hc hr
   have hix0 : (0 : Int) ≤ (k : Int) := by omega
   have hix1 : (k : Int) < (n : Int) := by omega
   obtain ⟨σ, hσ⟩ : ∃ σ, (q k).num.sign = σ := ⟨_, rfl⟩
   have HSG := Lib.hid hσ
   by_cases h0 : q k < 0
   ·have d3 : decide (σ < 0) = true := by rw [← hσ]; exact sgn_lt2 _ h0
    have hv0 : false = v := by rw [← HV.out]; cases hvv : valid q n; (· rfl); (· have := (valid_iff.1 hvv).2.2.1 k hkn; grind)
    subst hv0
    clear hσ h0 HV
    go_wp2_with fail
    refine calls_name fun W1 hW => ?_
    have HL_W1 := Lib.hid (show Below wr.heap.size wr W1 by rw [← hW]; exact BlA)
    have hs_W1 : wr.heap.size ≤ W1.heap.size := by rw [← hW]; exact OmT
    have HK_W1 := Lib.hid (show Kp N wr W1 by rw [← hW]; exact KpA)
    replace k_S_0 : W1.cell? ⟨wa.heap.size, 0, none⟩ = some (.bool (decide ((pk).num < 0))) := (HL_W1.out.cell (p := ⟨wa.heap.size, 0, none⟩) hl_S).trans k_S_0
    replace k_S_1 : W1.cell? ⟨wa.heap.size, 1, none⟩ = some (.slice rs (nlen (pk).num.natAbs) cs) := (HL_W1.out.cell (p := ⟨wa.heap.size, 1, none⟩) hl_S).trans k_S_1
    replace k_S_2 : W1.cell? ⟨wa.heap.size, 2, none⟩ = some (.slice rs2 (nlen (pk).den) cs2) := (HL_W1.out.cell (p := ⟨wa.heap.size, 2, none⟩) hl_S).trans k_S_2
    replace f_S : ∀ o, W1.frozen? ⟨wa.heap.size, o, none⟩ = false := fun o => (HL_W1.out.frozen (p := ⟨wa.heap.size, o, none⟩) hl_S).trans (f_S o)
    replace HX_S := Lib.hid (show Bn W1 (wa.heap.size) by rw [← hW]; exact KpA)
    replace HT1 := Lib.hid (HT1.out.keep HK_W1.out)
    replace HT2 := Lib.hid (HT2.out.keep HK_W1.out)
    replace HR := Lib.hid (HR.out.keep HK_W1.out)
    replace HB := Lib.hid (show Below w.heap.size w W1 by rw [← hW]; exact BlA)
    replace hN : N ≤ W1.heap.size := by rw [← hW]; exact OmT
    replace hs0 : w.heap.size ≤ W1.heap.size := by rw [← hW]; exact OmT
    replace hl_S : wa.heap.size < W1.heap.size := by rw [← hW]; exact OmT
    replace HAr := Lib.hid (HAr.out.below HL_W1.out)
    clear HL_W1
    clear hW HK_W1
    refine (xrsign_any (N := N) _ _ _ _ _ _ _ L (q k) _ hN HR.out (by omega)).mono ?_
    rw [HSG.out]
    rintro e wb ⟨rfl, hb⟩
    have hs_wb : W1.heap.size ≤ wb.heap.size := hb.size
    replace k_S_0 : wb.cell? ⟨wa.heap.size, 0, none⟩ = some (.bool (decide ((pk).num < 0))) := (hb.cell (p := ⟨wa.heap.size, 0, none⟩) hl_S).trans k_S_0
    replace k_S_1 : wb.cell? ⟨wa.heap.size, 1, none⟩ = some (.slice rs (nlen (pk).num.natAbs) cs) := (hb.cell (p := ⟨wa.heap.size, 1, none⟩) hl_S).trans k_S_1
    replace k_S_2 : wb.cell? ⟨wa.heap.size, 2, none⟩ = some (.slice rs2 (nlen (pk).den) cs2) := (hb.cell (p := ⟨wa.heap.size, 2, none⟩) hl_S).trans k_S_2
    replace f_S : ∀ o, wb.frozen? ⟨wa.heap.size, o, none⟩ = false := fun o => (hb.frozen (p := ⟨wa.heap.size, o, none⟩) hl_S).trans (f_S o)
    replace HX_S := Lib.hid (HX_S.out.below hb)
    replace HT1 := Lib.hid (HT1.out.below hb)
    replace HT2 := Lib.hid (HT2.out.below hb)
    replace HR := Lib.hid (HR.out.below hb)
    replace HB := Lib.hid (HB.out.trans (hb.mono hs0))
    replace hN : N ≤ wb.heap.size := Nat.le_trans hN hb.size
    replace hs0 : w.heap.size ≤ wb.heap.size := Nat.le_trans hs0 hb.size
    replace hl_S : wa.heap.size < wb.heap.size := Nat.lt_of_lt_of_le hl_S hb.size
    replace HAr := Lib.hid (HAr.out.below hb)
    clear hb
    go_wp2_with fail
    go_ret
    exact ⟨rfl, HB.out⟩
   ·have h1 : 0 ≤ q k := by grind
    have d3 : decide (σ < 0) = false := by rw [← hσ]; exact sgn_ge2 _ h1
    have HNN2 := Lib.hid (all_succ HNN.out h1)
    obtain ⟨pn, hpn⟩ : ∃ p, pk + q k = p := ⟨_, rfl⟩
    have HPN := Lib.hid hpn
    have HSN := Lib.hid (show sQ q (k + 1) = pn by rw [← hpn, ← HPK.out]; rfl)
    clear hσ h0 h1 hpn
    go_wp2_with fail
    refine calls_name fun W1 hW => ?_
    have HL_W1 := Lib.hid (show Below wr.heap.size wr W1 by rw [← hW]; exact BlA)
    have hs_W1 : wr.heap.size ≤ W1.heap.size := by rw [← hW]; exact OmT
    have HK_W1 := Lib.hid (show Kp N wr W1 by rw [← hW]; exact KpA)
    rw [hW] at g0 g1 g2 hlb
    replace k_S_0 : W1.cell? ⟨wa.heap.size, 0, none⟩ = some (.bool (decide ((pk).num < 0))) := (HL_W1.out.cell (p := ⟨wa.heap.size, 0, none⟩) hl_S).trans k_S_0
    replace k_S_1 : W1.cell? ⟨wa.heap.size, 1, none⟩ = some (.slice rs (nlen (pk).num.natAbs) cs) := (HL_W1.out.cell (p := ⟨wa.heap.size, 1, none⟩) hl_S).trans k_S_1
    replace k_S_2 : W1.cell? ⟨wa.heap.size, 2, none⟩ = some (.slice rs2 (nlen (pk).den) cs2) := (HL_W1.out.cell (p := ⟨wa.heap.size, 2, none⟩) hl_S).trans k_S_2
    replace f_S : ∀ o, W1.frozen? ⟨wa.heap.size, o, none⟩ = false := fun o => (HL_W1.out.frozen (p := ⟨wa.heap.size, o, none⟩) hl_S).trans (f_S o)
    replace HX_S := Lib.hid (show Bn W1 (wa.heap.size) by rw [← hW]; exact KpA)
    replace HT1 := Lib.hid (HT1.out.keep HK_W1.out)
    replace HT2 := Lib.hid (HT2.out.keep HK_W1.out)
    replace HR := Lib.hid (HR.out.keep HK_W1.out)
    replace HB := Lib.hid (show Below w.heap.size w W1 by rw [← hW]; exact BlA)
    replace hN : N ≤ W1.heap.size := by rw [← hW]; exact OmT
    replace hs0 : w.heap.size ≤ W1.heap.size := by rw [← hW]; exact OmT
    replace hl_S : wa.heap.size < W1.heap.size := by rw [← hW]; exact OmT
    replace HAr := Lib.hid (HAr.out.below HL_W1.out)
    clear HL_W1
    clear hW HK_W1
    refine (xrsign_any (N := N) _ _ _ _ _ _ _ L (q k) _ hN HR.out (by omega)).mono ?_
    rw [HSG.out]
    rintro e wb ⟨rfl, hb⟩
    have g0wb : wb.cell? ⟨b0, o0 + k * 3, none⟩ = some (.bool s') := (hb.cell (p := ⟨b0, o0 + k * 3, none⟩) hlb).trans g0
    have g1wb : wb.cell? ⟨b0, o0 + k * 3 + 1, none⟩ = some (.slice ra rnn rc) := (hb.cell (p := ⟨b0, o0 + k * 3 + 1, none⟩) hlb).trans g1
    have g2wb : wb.cell? ⟨b0, o0 + k * 3 + 2, none⟩ = some (.slice da dn dc) := (hb.cell (p := ⟨b0, o0 + k * 3 + 2, none⟩) hlb).trans g2
    have hlbwb : b0 < wb.heap.size := Nat.lt_of_lt_of_le hlb hb.size
    clear g0 g1 g2 hlb
    have g0 := g0wb
    have g1 := g1wb
    have g2 := g2wb
    have hlb := hlbwb
    clear g0wb g1wb g2wb hlbwb
    have hs_wb : W1.heap.size ≤ wb.heap.size := hb.size
    replace k_S_0 : wb.cell? ⟨wa.heap.size, 0, none⟩ = some (.bool (decide ((pk).num < 0))) := (hb.cell (p := ⟨wa.heap.size, 0, none⟩) hl_S).trans k_S_0
    replace k_S_1 : wb.cell? ⟨wa.heap.size, 1, none⟩ = some (.slice rs (nlen (pk).num.natAbs) cs) := (hb.cell (p := ⟨wa.heap.size, 1, none⟩) hl_S).trans k_S_1
    replace k_S_2 : wb.cell? ⟨wa.heap.size, 2, none⟩ = some (.slice rs2 (nlen (pk).den) cs2) := (hb.cell (p := ⟨wa.heap.size, 2, none⟩) hl_S).trans k_S_2
    replace f_S : ∀ o, wb.frozen? ⟨wa.heap.size, o, none⟩ = false := fun o => (hb.frozen (p := ⟨wa.heap.size, o, none⟩) hl_S).trans (f_S o)
    replace HX_S := Lib.hid (HX_S.out.below hb)
    replace HT1 := Lib.hid (HT1.out.below hb)
    replace HT2 := Lib.hid (HT2.out.below hb)
    replace HR := Lib.hid (HR.out.below hb)
    replace HB := Lib.hid (HB.out.trans (hb.mono hs0))
    replace hN : N ≤ wb.heap.size := Nat.le_trans hN hb.size
    replace hs0 : w.heap.size ≤ wb.heap.size := Nat.le_trans hs0 hb.size
    replace hl_S : wa.heap.size < wb.heap.size := Nat.lt_of_lt_of_le hl_S hb.size
    replace HAr := Lib.hid (HAr.out.below hb)
    clear hb
    go_wp2_with fail
    refine region_name fun W2 hW => ?_
    have HL_W2 := Lib.hid (show Below wb.heap.size wb W2 by rw [← hW]; exact BlA)
    have hs_W2 : wb.heap.size ≤ W2.heap.size := by rw [← hW]; exact OmT
    have HK_W2 := Lib.hid (show Kp N wb W2 by rw [← hW]; exact KpA)
    rw [hW] at g0 g1 g2 hlb
    replace k_S_0 : W2.cell? ⟨wa.heap.size, 0, none⟩ = some (.bool (decide ((pk).num < 0))) := (HL_W2.out.cell (p := ⟨wa.heap.size, 0, none⟩) hl_S).trans k_S_0
    replace k_S_1 : W2.cell? ⟨wa.heap.size, 1, none⟩ = some (.slice rs (nlen (pk).num.natAbs) cs) := (HL_W2.out.cell (p := ⟨wa.heap.size, 1, none⟩) hl_S).trans k_S_1
    replace k_S_2 : W2.cell? ⟨wa.heap.size, 2, none⟩ = some (.slice rs2 (nlen (pk).den) cs2) := (HL_W2.out.cell (p := ⟨wa.heap.size, 2, none⟩) hl_S).trans k_S_2
    replace f_S : ∀ o, W2.frozen? ⟨wa.heap.size, o, none⟩ = false := fun o => (HL_W2.out.frozen (p := ⟨wa.heap.size, o, none⟩) hl_S).trans (f_S o)
    replace HX_S := Lib.hid (show Bn W2 (wa.heap.size) by rw [← hW]; exact KpA)
    replace HT1 := Lib.hid (HT1.out.keep HK_W2.out)
    replace HT2 := Lib.hid (HT2.out.keep HK_W2.out)
    replace HR := Lib.hid (HR.out.keep HK_W2.out)
    replace HB := Lib.hid (show Below w.heap.size w W2 by rw [← hW]; exact BlA)
    replace hN : N ≤ W2.heap.size := by rw [← hW]; exact OmT
    replace hs0 : w.heap.size ≤ W2.heap.size := by rw [← hW]; exact OmT
    replace hl_S : wa.heap.size < W2.heap.size := by rw [← hW]; exact OmT
    replace HAr := Lib.hid (HAr.out.below HL_W2.out)
    clear HL_W2
    clear hW HK_W2
    refine region_inv2 (by kernel_rfl) (ValJ N wa.heap.size pk pn rs rs2 cs cs2 s' ra da rnn rc dn dc b0 o0 n cap k (W2)) ?_ ?_ ?_ ?_
    ·exact ⟨u26, u27, u28, u29, u30, u31, by simp only [Act.put, aT, aZ, aS], .inl ⟨rfl, Since.drawn _, NoR⟩⟩
    ·exact acyc_spec (by kernel_rfl)
    ·intro Ls a0 wq i o ho hLi hafter hJ
     obtain ⟨u26, u27, u28, u29, u30, u31, rfl, hJ | ⟨h10, hall, _⟩⟩ := hJ
     ·obtain ⟨hLl, hS, p0, p1, p2, p3, p4, p5⟩ := hJ
      have P0 := Lib.hid p0; have P1 := Lib.hid p1; have P2 := Lib.hid p2; have P3 := Lib.hid p3; have P4 := Lib.hid p4; have P5 := Lib.hid p5; have HS := Lib.hid hS; clear hS p0 p1 p2 p3 p4 p5
      have hi : i < 7 := (Array.getElem?_eq_some_iff.1 ho).1
      obtain rfl | rfl | rfl | rfl | rfl | rfl | rfl : i = 0 ∨ i = 1 ∨ i = 2 ∨ i = 3 ∨ i = 4 ∨ i = 5 ∨ i = 6 := by omega
      ·simp only [gT, gZ, Option.some.injEq] at ho
       subst ho
       have c0 := (HS.out.1.cell (p := ⟨wa.heap.size, 0, none⟩) hl_S).trans k_S_0
       have c1 := (HS.out.1.cell (p := ⟨wa.heap.size, 1, none⟩) hl_S).trans k_S_1
       have c2 := (HS.out.1.cell (p := ⟨wa.heap.size, 2, none⟩) hl_S).trans k_S_2
       clear hLi hafter
       simp only [Act.put, aT, aZ, aS]
       go_wp2_with fail
       exact ⟨.agg #[.bool (decide ((pk).num < 0)), .slice rs (nlen (pk).num.natAbs) cs, .slice rs2 (nlen (pk).den) cs2], u27, u28, u29, u30, u31, by simp only [Act.put, aT, aZ, aS], .inl ⟨by simpa using hLl, HS.out, (fun _ => rfl), PvR⟩⟩
      ·simp only [gT, gZ, gS, Option.some.injEq] at ho
       subst ho
       clear hLi hafter
       simp only [Act.put, aT, aZ, aS]
       go_wp2_with fail
       exact ⟨u26, .slice (some ⟨b0, o0, none⟩) n cap, u28, u29, u30, u31, by simp only [Act.put, aT, aZ, aS], .inl ⟨by simpa using hLl, HS.out, PvA, (fun _ => rfl), PvR⟩⟩
      ·simp only [gT, gZ, gS, Option.some.injEq] at ho
       subst ho
       clear hLi hafter
       simp only [Act.put, aT, aZ, aS]
       go_wp2_with fail
       exact ⟨u26, u27, .int .i64 k, u29, u30, u31, by simp only [Act.put, aT, aZ, aS], .inl ⟨by simpa using hLl, HS.out, PvA, PvA, (fun _ => rfl), PvR⟩⟩
      ·simp only [gT, gZ, gS, Option.some.injEq] at ho
       subst ho
       obtain rfl := P1.out (hafter ⟨1, .data⟩ (by simp) rfl)
       obtain rfl := P2.out (hafter ⟨2, .data⟩ (by simp) rfl)
       clear hLi hafter
       simp only [Act.put, aT, aZ, aS]
       go_wp2_with fail
       exact ⟨u26, .slice (some ⟨b0, o0, none⟩) n cap, .int .i64 k, .pointer (some ⟨b0, o0 + k * 3, none⟩), u30, u31, by simp only [Act.put, aT, aZ, aS], .inl ⟨by simpa using hLl, HS.out, PvA, PvA, PvA, (fun _ => rfl), PvR⟩⟩
      ·simp only [gT, gZ, gS, Option.some.injEq] at ho
       subst ho
       obtain rfl := P3.out (hafter ⟨3, .data⟩ (by simp) rfl)
       have c0 := (HS.out.1.cell (p := ⟨b0, o0 + k * 3, none⟩) hlb).trans g0
       have c1 := (HS.out.1.cell (p := ⟨b0, o0 + k * 3 + 1, none⟩) hlb).trans g1
       have c2 := (HS.out.1.cell (p := ⟨b0, o0 + k * 3 + 2, none⟩) hlb).trans g2
       clear hLi hafter
       simp only [Act.put, aT, aZ, aS]
       go_wp2_with fail
       exact ⟨u26, u27, u28, .pointer (some ⟨b0, o0 + k * 3, none⟩), .agg #[.bool s', .slice ra rnn rc, .slice da dn dc], u31, by simp only [Act.put, aT, aZ, aS], .inl ⟨by simpa using hLl, HS.out, PvA, PvA, PvA, PvA, (fun _ => rfl), PvA⟩⟩
      ·simp only [gT, gZ, gS, Option.some.injEq] at ho
       subst ho
       obtain rfl := P0.out (hafter ⟨0, .data⟩ (by simp) rfl)
       obtain rfl := P4.out (hafter ⟨4, .data⟩ (by simp) rfl)
       clear hLi hafter
       simp only [Act.put, aT, aZ, aS]
       go_wp2_with fail
       refine (xradd_any (N := N) _ _ _ _ _ _ _ _ _ _ _ _ _ _ 253755515 L pk (q k) _ (by have := HS.out.2; omega) (Rt.of_norm (HT1.out.below HS.out.1) (HT2.out.below HS.out.1) _ HZK.out) (HR.out.below HS.out.1) (by omega) (by omega) pn HPN.out).mono ?_
       rintro e wn ⟨r, c, r2, c2, rfl, hn, hn', hb⟩
       have HN := Lib.hid hn
       have HM := Lib.hid hn'
       have Hb := Lib.hid hb
       clear hn hn' hb
       go_wp2_with fail
       exact ⟨.agg #[.bool (decide ((pk).num < 0)), .slice rs (nlen (pk).num.natAbs) cs, .slice rs2 (nlen (pk).den) cs2], u27, u28, u29, .agg #[.bool s', .slice ra rnn rc, .slice da dn dc], _, by simp only [Act.put, aT, aZ, aS], .inl ⟨by simpa using hLl, HS.out.below Hb.out, PvA, PvA, PvA, PvA, PvA, (fun _ => ⟨r, c, r2, c2, rfl, HN.out, HM.out⟩)⟩⟩
      ·simp only [gT, gZ, gS, Option.some.injEq] at ho
       subst ho
       have hall : ∀ j, j < 6 → Ls j = true := by
        intro j hj
        obtain rfl | rfl | rfl | rfl | rfl | rfl : j = 0 ∨ j = 1 ∨ j = 2 ∨ j = 3 ∨ j = 4 ∨ j = 5 := by omega
        all_goals exact hafter ⟨_, .phase⟩ (by simp) rfl
       have HALL := Lib.hid hall
       clear hall
       obtain ⟨r5, c5, t5, d5, rfl, hn5, hm5⟩ := P5.out (hafter ⟨5, .data⟩ (by simp) rfl)
       have HN5 := Lib.hid hn5
       have HM5 := Lib.hid hm5
       clear hn5 hm5
       have c0 := (HS.out.1.cell (p := ⟨wa.heap.size, 0, none⟩) hl_S).trans k_S_0
       have c1 := (HS.out.1.cell (p := ⟨wa.heap.size, 1, none⟩) hl_S).trans k_S_1
       have c2 := (HS.out.1.cell (p := ⟨wa.heap.size, 2, none⟩) hl_S).trans k_S_2
       have fz : ∀ o, wq.frozen? ⟨wa.heap.size, o, none⟩ = false := fun o => (HS.out.1.frozen (p := ⟨wa.heap.size, o, none⟩) hl_S).trans (f_S o)
       clear hLi hafter
       simp only [Act.put, aT, aZ, aS]
       go_wp2_with fail
       exact ⟨u26, u27, u28, u29, u30, .agg #[.bool (decide ((pn).num < 0)), .slice r5 (nlen (pn).num.natAbs) c5, .slice t5 (nlen (pn).den) d5], by simp only [Act.put, aT, aZ, aS], .inr ⟨by simp, fun j hj => by simp [HALL.out j hj], ⟨_, _, _, _, _, HS.out, HN5.out, HM5.out, rfl⟩⟩⟩
     ·exfalso
      have hi : i < 7 := (Array.getElem?_eq_some_iff.1 ho).1
      rcases Nat.lt_or_ge i 6 with h | h
      ·rw [hall i h] at hLi; cases hLi
      ·obtain rfl : i = 6 := by omega
       rw [h10] at hLi; cases hLi
    ·intro Ls a0 wq hall hJ
     obtain ⟨u26, u27, u28, u29, u30, u31, rfl, ⟨h10, _⟩ | ⟨_, _, hcut⟩⟩ := hJ
     ·rw [hall 6 (by decide)] at h10; cases h10
     ·obtain ⟨wc, rn, cn, rn2, cn2, hs, hn, hn', rfl⟩ := hcut
      have hb := hs.1
      clear hs
      have hs_wc : W2.heap.size ≤ wc.heap.size := hb.size
      replace k_S_0 : wc.cell? ⟨wa.heap.size, 0, none⟩ = some (.bool (decide ((pk).num < 0))) := (hb.cell (p := ⟨wa.heap.size, 0, none⟩) hl_S).trans k_S_0
      replace k_S_1 : wc.cell? ⟨wa.heap.size, 1, none⟩ = some (.slice rs (nlen (pk).num.natAbs) cs) := (hb.cell (p := ⟨wa.heap.size, 1, none⟩) hl_S).trans k_S_1
      replace k_S_2 : wc.cell? ⟨wa.heap.size, 2, none⟩ = some (.slice rs2 (nlen (pk).den) cs2) := (hb.cell (p := ⟨wa.heap.size, 2, none⟩) hl_S).trans k_S_2
      replace f_S : ∀ o, wc.frozen? ⟨wa.heap.size, o, none⟩ = false := fun o => (hb.frozen (p := ⟨wa.heap.size, o, none⟩) hl_S).trans (f_S o)
      replace HX_S := Lib.hid (HX_S.out.below hb)
      replace HT1 := Lib.hid (HT1.out.below hb)
      replace HT2 := Lib.hid (HT2.out.below hb)
      replace HR := Lib.hid (HR.out.below hb)
      replace HB := Lib.hid (HB.out.trans (hb.mono hs0))
      replace hN : N ≤ wc.heap.size := Nat.le_trans hN hb.size
      replace hs0 : w.heap.size ≤ wc.heap.size := Nat.le_trans hs0 hb.size
      replace hl_S : wa.heap.size < wc.heap.size := Nat.lt_of_lt_of_le hl_S hb.size
      replace HAr := Lib.hid (HAr.out.below hb)
      clear hb
      have HN1 := Lib.hid hn
      have HN2 := Lib.hid hn'
      clear hn hn'
      simp only [Act.put, aT, aZ, aS]
      go_wp2_with fail
      go_roundw
      case rel =>
       refine ⟨k + 1, pn, by omega, by go_num, HSN.out, ⟨rn, cn, rn2, cn2, ⟨by first | omega | (simp; done) | (simp; omega), by exact KpA, fun o => by first | with_reducible exact f_S o | (simp [go_sem, f_S]; done) | (simp [go_sem, f_S, hl_S]; done) | (go_simp; done) | (simp; done) | (simp [go_sem]; done) | (simp [go_sem, k_S_0, k_S_1, k_S_2, f_S, hl_S]; done), by first | with_reducible assumption | (simp [go_sem, k_S_0]; done) | (simp [go_sem, k_S_0, hl_S]; done) | (go_simp; done) | (simp; done) | (simp [go_sem]; done) | (simp [go_sem, k_S_0, k_S_1, k_S_2, f_S, hl_S]; done), by first | with_reducible assumption | (simp [go_sem, k_S_1]; done) | (simp [go_sem, k_S_1, hl_S]; done) | (go_simp; done) | (simp; done) | (simp [go_sem]; done) | (simp [go_sem, k_S_0, k_S_1, k_S_2, f_S, hl_S]; done), by first | with_reducible assumption | (simp [go_sem, k_S_2]; done) | (simp [go_sem, k_S_2, hl_S]; done) | (go_simp; done) | (simp; done) | (simp [go_sem]; done) | (simp [go_sem, k_S_0, k_S_1, k_S_2, f_S, hl_S]; done)⟩, HN1.out.keep ?_, HN2.out.keep ?_⟩, HNN2.out, ?_, ?_⟩
       all_goals exact KBA
      case measure => simp [intOf]; omega
  ·obtain rfl : k = n := by omega
   obtain ⟨κ, hκ⟩ : ∃ κ, cmpQ pk p1 = κ := ⟨_, rfl⟩
   have HKA := Lib.hid hκ
   have dk : (κ == 0) = v := by rw [← hκ, HE1.out, ← HV.out, ← HPK.out]; exact valid_cmp q k (by omega) n121 HNN.out
   clear hκ
   go_wp2_with fail
   refine region_name fun W3 hW => ?_
   have HL_W3 := Lib.hid (show Below wr.heap.size wr W3 by rw [← hW]; exact BlA)
   have hs_W3 : wr.heap.size ≤ W3.heap.size := by rw [← hW]; exact OmT
   have HK_W3 := Lib.hid (show Kp N wr W3 by rw [← hW]; exact KpA)
   replace k_S_0 : W3.cell? ⟨wa.heap.size, 0, none⟩ = some (.bool (decide ((pk).num < 0))) := (HL_W3.out.cell (p := ⟨wa.heap.size, 0, none⟩) hl_S).trans k_S_0
   replace k_S_1 : W3.cell? ⟨wa.heap.size, 1, none⟩ = some (.slice rs (nlen (pk).num.natAbs) cs) := (HL_W3.out.cell (p := ⟨wa.heap.size, 1, none⟩) hl_S).trans k_S_1
   replace k_S_2 : W3.cell? ⟨wa.heap.size, 2, none⟩ = some (.slice rs2 (nlen (pk).den) cs2) := (HL_W3.out.cell (p := ⟨wa.heap.size, 2, none⟩) hl_S).trans k_S_2
   replace f_S : ∀ o, W3.frozen? ⟨wa.heap.size, o, none⟩ = false := fun o => (HL_W3.out.frozen (p := ⟨wa.heap.size, o, none⟩) hl_S).trans (f_S o)
   replace HX_S := Lib.hid (show Bn W3 (wa.heap.size) by rw [← hW]; exact KpA)
   replace HT1 := Lib.hid (HT1.out.keep HK_W3.out)
   replace HT2 := Lib.hid (HT2.out.keep HK_W3.out)
   replace HB := Lib.hid (show Below w.heap.size w W3 by rw [← hW]; exact BlA)
   replace hN : N ≤ W3.heap.size := by rw [← hW]; exact OmT
   replace hs0 : w.heap.size ≤ W3.heap.size := by rw [← hW]; exact OmT
   replace hl_S : wa.heap.size < W3.heap.size := by rw [← hW]; exact OmT
   clear HL_W3
   clear hW HK_W3
   go_region_held3 (fun w' => w'.cell? ⟨wa.heap.size, 0, none⟩ = some (.bool (decide ((pk).num < 0))) ∧ w'.cell? ⟨wa.heap.size, 1, none⟩ = some (.slice rs (nlen (pk).num.natAbs) cs) ∧ w'.cell? ⟨wa.heap.size, 2, none⟩ = some (.slice rs2 (nlen (pk).den) cs2))
    (first | (go_keep; done) | ((try dsimp only); (repeat' apply And.intro) <;> (first | (go_keep; done) | (exact cell_keep_alloc_drew (by first | omega | (simp; omega)) (by first | assumption | go_simp)) | (exact cell_keep_alloc (by first | omega | (simp; omega)) (by first | assumption | go_simp)) | (rw [cell_set2 _ _ _ _ _ _ _ _ (by omega)]; assumption) | (rw [cell_set3 _ _ _ _ _ _ _ _ _ _ (by omega)]; assumption))))
    (first
     | (go_at_call 69; refine (Whole_z (N := N) 1 1 rfl _ (by exact hN) (by omega) p1 HP1.out).mono ?_; rintro e wb ⟨rx, cx, rx2, cx2, rfl, hn, hn', hb⟩; replace hb : Below W3.heap.size W3 wb := (by first | exact hb | exact bel_of_drew hb); have hs_wb : W3.heap.size ≤ wb.heap.size := hb.size; replace k_S_0 : wb.cell? ⟨wa.heap.size, 0, none⟩ = some (.bool (decide ((pk).num < 0))) := (hb.cell (p := ⟨wa.heap.size, 0, none⟩) hl_S).trans k_S_0; replace k_S_1 : wb.cell? ⟨wa.heap.size, 1, none⟩ = some (.slice rs (nlen (pk).num.natAbs) cs) := (hb.cell (p := ⟨wa.heap.size, 1, none⟩) hl_S).trans k_S_1; replace k_S_2 : wb.cell? ⟨wa.heap.size, 2, none⟩ = some (.slice rs2 (nlen (pk).den) cs2) := (hb.cell (p := ⟨wa.heap.size, 2, none⟩) hl_S).trans k_S_2; replace f_S : ∀ o, wb.frozen? ⟨wa.heap.size, o, none⟩ = false := fun o => (hb.frozen (p := ⟨wa.heap.size, o, none⟩) hl_S).trans (f_S o); replace HX_S := Lib.hid (HX_S.out.below hb); replace HT1 := Lib.hid (HT1.out.below hb); replace HT2 := Lib.hid (HT2.out.below hb); replace HB := Lib.hid (HB.out.trans (hb.mono hs0)); replace hN : N ≤ wb.heap.size := Nat.le_trans hN hb.size; replace hs0 : w.heap.size ≤ wb.heap.size := Nat.le_trans hs0 hb.size; replace hl_S : wa.heap.size < wb.heap.size := Nat.lt_of_lt_of_le hl_S hb.size; clear hb; have HX1 := Lib.hid hn; clear hn; have HX2 := Lib.hid hn'; clear hn'; skip)
     | (go_at_call 34; refine (xrcmp_any (N := N) _ _ _ _ _ _ _ _ _ _ _ _ _ _ 253755515 1 pk p1 _ (by exact hN) (by exact Rt.of_norm HT1.out HT2.out _ HZK.out) (by exact Rt.of_norm HX1.out HX2.out 1 HZ1.out) (by omega) (by omega)).mono ?_; rw [HKA.out]; rintro e wc ⟨rfl, hb⟩; replace hb : Below wb.heap.size wb wc := (by first | exact hb | exact bel_of_drew hb); have hs_wc : wb.heap.size ≤ wc.heap.size := hb.size; replace k_S_0 : wc.cell? ⟨wa.heap.size, 0, none⟩ = some (.bool (decide ((pk).num < 0))) := (hb.cell (p := ⟨wa.heap.size, 0, none⟩) hl_S).trans k_S_0; replace k_S_1 : wc.cell? ⟨wa.heap.size, 1, none⟩ = some (.slice rs (nlen (pk).num.natAbs) cs) := (hb.cell (p := ⟨wa.heap.size, 1, none⟩) hl_S).trans k_S_1; replace k_S_2 : wc.cell? ⟨wa.heap.size, 2, none⟩ = some (.slice rs2 (nlen (pk).den) cs2) := (hb.cell (p := ⟨wa.heap.size, 2, none⟩) hl_S).trans k_S_2; replace f_S : ∀ o, wc.frozen? ⟨wa.heap.size, o, none⟩ = false := fun o => (hb.frozen (p := ⟨wa.heap.size, o, none⟩) hl_S).trans (f_S o); replace HX_S := Lib.hid (HX_S.out.below hb); replace HT1 := Lib.hid (HT1.out.below hb); replace HT2 := Lib.hid (HT2.out.below hb); replace HX1 := Lib.hid (HX1.out.below hb); replace HX2 := Lib.hid (HX2.out.below hb); replace HB := Lib.hid (HB.out.trans (hb.mono hs0)); replace hN : N ≤ wc.heap.size := Nat.le_trans hN hb.size; replace hs0 : w.heap.size ≤ wc.heap.size := Nat.le_trans hs0 hb.size; replace hl_S : wa.heap.size < wc.heap.size := Nat.lt_of_lt_of_le hl_S hb.size; clear hb; skip))
   go_wp2_with fail
   go_ret
   exact ⟨rfl, HB.out⟩
theorem xvalid_any {N : Nat} (a : Option Addr) (n cap : Nat) (q : Nat → Rat) (L : Nat) (w : World) (hN : N ≤ w.heap.size) (h : Rs N w a n cap q L) (hL : L ≤ 2097152) (v : Bool) (hv : valid q n = v) : Calls Tryz.prog 68 #[.slice a n cap] w fun e w' => e = .returned (.bool v) ∧ Below w.heap.size w w' := by
  by_cases hn : n < 1 ∨ 121 < n
  · obtain rfl : false = v := by
      rw [← hv]; cases hvv : valid q n
      · rfl
      · have := valid_iff.1 hvv; omega
    exact xvalid_len a n cap q L w hN h hL hn
  · exact xvalid_main a n cap q L w hN h hL (by omega) (by omega) v hv
end Go.Proofs.YtjobopafcgnljaaGreat
