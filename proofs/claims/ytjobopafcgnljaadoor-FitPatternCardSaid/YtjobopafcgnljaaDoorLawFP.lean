/- FitPattern returns true: the walk. No condition but that the table of powers of ten lies in memory. -/
import Derived.Test.YtjobopafcgnljaaDoorTstD
import Derived.Test.YtjobopafcgnljaaDoorSmA
import Derived.Test.YtjobopafcgnljaaDoorJoPr
namespace Go.Proofs.YtjobopafcgnljaaDoor
open Go.RowKit

theorem txt_zeroF : txt 0 = [48] := by
  unfold txt
  rw [if_pos (show (0 : Rat).den = 1 from rfl), show (0 : Rat).num.natAbs = 0 from rfl]
  exact dec_zero
theorem zero_smallF : 0 ≤ (0 : Rat).num ∧ (0 : Rat).num.natAbs < 1000000000 ∧ (0 : Rat).den < 1000000000 := ⟨by decide, by decide, by decide⟩
theorem cmpQ_leF (p po : Rat) (h : p ≤ po) : decide (0 < cmpQ p po) = false := by
  unfold cmpQ
  by_cases h1 : p < po
  · rw [if_pos h1]; rfl
  · rw [if_neg h1]
    by_cases h2 : po < p
    · exact absurd h (Rat.not_le.2 h2)
    · rw [if_neg h2]; rfl
theorem cmpQ_le2F (p po : Rat) (h : p ≤ po) : decide (cmpQ p po ≤ 0) = true := by rw [cmp_le, decide_eq_true h]
theorem up_all1 (q : Nat → Rat) (n : Nat) : upQ q n 0 = sQ q n := by
  unfold upQ
  rw [Nat.sub_zero]
  exact sQ_congr fun i _ => by rw [Nat.zero_add]
theorem up_step1 (q : Nat → Rat) (n k : Nat) (h : k < n) : upQ q n k = q k + upQ q n (k + 1) := by
  unfold upQ
  rw [show n - k = (n - (k + 1)) + 1 by omega, sQ_first, Nat.add_zero]
  congr 1
  exact sQ_congr fun i _ => by rw [show k + (i + 1) = k + 1 + i by omega]
theorem up_mono (q : Nat → Rat) (n : Nat) (h : ∀ i, 0 ≤ q i) (j : Nat) : ∀ d, j + d ≤ n → upQ q n (j + d) ≤ upQ q n j
  | 0, _ => Rat.le_refl
  | d + 1, hd => by
    have h1 := up_mono q n h j d (by omega)
    have h2 := up_step1 q n (j + d) (by omega)
    have h3 := h (j + d)
    have h4 : upQ q n (j + (d + 1)) = upQ q n (j + d + 1) := rfl
    grind
theorem rsz_addF (p q : Rat) : rsz (p + q) ≤ rsz p + rsz q + 1 := by
  have e : p + q = mkRat (p.num * q.den + q.num * p.den) (p.den * q.den) := by
    have h := Rat.mkRat_add_mkRat p.num q.num (d₁ := p.den) (d₂ := q.den) p.den_nz q.den_nz
    rw [Rat.mkRat_self, Rat.mkRat_self] at h
    exact h
  rw [e]
  have h1 : nlen p.num.natAbs ≤ rsz p ∧ nlen p.den ≤ rsz p := by unfold rsz; omega
  have h2 : nlen q.num.natAbs ≤ rsz q ∧ nlen q.den ≤ rsz q := by unfold rsz; omega
  have a1 := nlen_mul p.num.natAbs q.den
  have a2 := nlen_mul q.num.natAbs p.den
  have a3 := nlen_mul p.den q.den
  have b1 : (p.num * q.den + q.num * p.den).natAbs ≤ p.num.natAbs * q.den + q.num.natAbs * p.den := by
    have := Int.natAbs_add_le (p.num * q.den) (q.num * p.den)
    rw [Int.natAbs_mul, Int.natAbs_mul, Int.natAbs_natCast, Int.natAbs_natCast] at this
    exact this
  have b2 := nlen_mono b1
  have b3 := nlen_add (p.num.natAbs * q.den) (q.num.natAbs * p.den)
  exact rsz_mk _ _ _ (by omega) (by omega) (by omega)
theorem up_rsz (q : Nat → Rat) (n k L : Nat) (h : ∀ i, rsz (q i) ≤ L) : rsz (upQ q n k) ≤ (n - k) * (L + 1) + 1 := by
  unfold upQ
  have : ∀ m, rsz (sQ (fun i => q (k + i)) m) ≤ m * (L + 1) + 1 := by
    intro m
    induction m with
    | zero => have : rsz (0 : Rat) ≤ 1 := by decide +kernel
              simpa [sQ] using this
    | succ m ih =>
      have h3 := rsz_addF (sQ (fun i => q (k + i)) m) (q (k + m))
      have h2 := h (k + m)
      have e : (m + 1) * (L + 1) = m * (L + 1) + (L + 1) := Nat.succ_mul _ _
      show rsz (sQ (fun i => q (k + i)) m + q (k + m)) ≤ _
      omega
  exact this _
/-- what Test returns, wherever it is called from here on -/
def TstIs (N : Nat) (w0 : World) (b a : Option Addr) (m cb n ca : Nat) (p : Rat) (c : Int) : Prop := ∀ w, Below w0.heap.size w0 w → N ≤ w.heap.size → Calls Tryd.prog 6 #[.slice b m cb, .slice a n ca] w (RcPost N w p c)

set_option maxRecDepth 100000 in
set_option maxHeartbeats 4000000 in
theorem pat_bad {N : Nat} (ax ay a : Option Addr) (n cx cy ca : Nat) (x y : Nat → Bool) (q : Nat → Rat) (ln ld : Nat → Nat) (w : World) (hN : N ≤ w.heap.size) (h : Ru N w a n ca q ln ld) (_hx : Sl w ax n cx (fun i => .bool (x i))) (_hy : Sl w ay n cy (fun i => .bool (y i))) (htab : TabW w) (c : Int) (hc0 : c ≠ 0) (ht1 : TstIs N w ax a n cx n ca 0 c) (ht2 : TstIs N w ay a n cy n ca 0 c) :
    Calls Tryd.prog 3 #[.slice ax n cx, .slice ay n cy, .slice a n ca] w fun e w' => e = .returned (.bool true) ∧ Below w.heap.size w w' := by
  have HU := Lib.hid h
  have HTab := Lib.hid htab
  have bc := h.1
  have bm := h.2.1
  unfold maxLen at bm
  clear h htab
  obtain ⟨po, hpo⟩ : ∃ p : Rat, ((1 : Int) : Rat) / ((1 : Int) : Rat) = p := ⟨_, rfl⟩
  have hpo1 : po = 1 := by rw [← hpo]; (first | grind | decide | (simp; done))
  have HPO1 := Lib.hid hpo1
  have HPo := Lib.hid ((mk_div 1 1).trans hpo)
  have Zpo := Lib.hid (show rsz po ≤ 2 by rw [hpo1]; have := rsz_one; omega)
  clear hpo hpo1
  have hN0 := hN
  have hs0 : w.heap.size ≤ w.heap.size := Nat.le_refl _
  have HB := Lib.hid (Below.refl w.heap.size w)
  have HT1 := Lib.hid ht1
  have HT2 := Lib.hid ht2
  have z0 : (c != 0) = true := by simpa using hc0
  have z1 : (c == 0) = false := by simpa using hc0
  clear ht1 ht2
  obtain ⟨p, hp⟩ : ∃ p : Rat, 0 = p := ⟨_, rfl⟩
  rw [hp] at HT1 HT2
  have HP0 := Lib.hid hp.symm
  have Zp := Lib.hid (show rsz p ≤ 1 by rw [← hp]; decide +kernel)
  clear hp
  go_enter Tryd.func3, Tryd.ntmps3
  go_wp2_with fail
  refine (heavy_any (N := N) _ _ _ q ln ld _ HU.out).mono ?_
  rintro e w' ⟨b, rfl, rfl, hv⟩
  cases b
  case true =>
    go_wp2_with fail
    go_ret
    exact ⟨rfl, Below.refl _ _⟩
  case false =>
    clear hv
    go_wp2_with fail
    refine (rof_any (N := N) 1 1 _ hN (by omega) (by omega) (by omega) (by omega) po HPo.out).mono ?_
    rintro e wa ⟨ro, co, ro2, co2, rfl, hn, hn', hb⟩
    have hs_wa : w.heap.size ≤ wa.heap.size := hb.size
    replace HB := Lib.hid (HB.out.trans (hb.mono hs0))
    replace hN : N ≤ wa.heap.size := Nat.le_trans hN hb.size
    replace hs0 : w.heap.size ≤ wa.heap.size := Nat.le_trans hs0 hb.size
    replace HTab := Lib.hid (HTab.out.below hb)
    clear hb
    have HO1 := Lib.hid hn
    clear hn
    have HO2 := Lib.hid hn'
    clear hn'
    go_wp2_with fail
    refine calls_name fun WA hW => ?_
    have hs_WA : wa.heap.size ≤ WA.heap.size := by rw [← hW]; (first | omega | (simp; done) | (simp; omega))
    have HK_WA := Lib.hid (show Kp N wa WA by rw [← hW]; exact KpA)
    have HL_WA := Lib.hid (show Below wa.heap.size wa WA by rw [← hW]; exact BlA)
    have k_N1_0 : WA.cell? ⟨wa.heap.size, 0, none⟩ = some (.bool (decide ((po).num < 0))) := by rw [← hW]; (first | (go_simp; done) | (simp; done) | (simp [go_sem]; done) | (simp [go_sem]; done))
    have k_N1_1 : WA.cell? ⟨wa.heap.size, 1, none⟩ = some (.slice ro (nlen (po).num.natAbs) co) := by rw [← hW]; (first | (go_simp; done) | (simp; done) | (simp [go_sem]; done) | (simp [go_sem]; done))
    have k_N1_2 : WA.cell? ⟨wa.heap.size, 2, none⟩ = some (.slice ro2 (nlen (po).den) co2) := by rw [← hW]; (first | (go_simp; done) | (simp; done) | (simp [go_sem]; done) | (simp [go_sem]; done))
    have f_N1 : ∀ o, WA.frozen? ⟨wa.heap.size, o, none⟩ = false := by intro o; rw [← hW]; (first | (go_simp; done) | (simp; done) | (simp [go_sem]; done) | (simp [go_sem]; done))
    have HX_N1 := Lib.hid (show Bn WA (wa.heap.size) by rw [← hW]; exact KpA)
    replace HO1 := Lib.hid (HO1.out.keep HK_WA.out)
    replace HO2 := Lib.hid (HO2.out.keep HK_WA.out)
    replace HB := Lib.hid (show Below w.heap.size w WA by rw [← hW]; exact BlA)
    replace hN : N ≤ WA.heap.size := by rw [← hW]; (first | omega | (simp; done) | (simp; omega))
    replace hs0 : w.heap.size ≤ WA.heap.size := by rw [← hW]; (first | omega | (simp; done) | (simp; omega))
    have hl_N1 : wa.heap.size < WA.heap.size := by rw [← hW]; (first | omega | (simp; done) | (simp; omega))
    replace HTab := Lib.hid (HTab.out.below HL_WA.out)
    clear HL_WA
    clear hW HK_WA
    refine (HT1.out _ HB.out hN).mono ?_
    rintro e wb ⟨rp, cp, rp2, cp2, rfl, hn, hn', hb⟩
    have hs_wb : WA.heap.size ≤ wb.heap.size := hb.size
    replace k_N1_0 : wb.cell? ⟨wa.heap.size, 0, none⟩ = some (.bool (decide ((po).num < 0))) := (hb.cell (p := ⟨wa.heap.size, 0, none⟩) hl_N1).trans k_N1_0
    replace k_N1_1 : wb.cell? ⟨wa.heap.size, 1, none⟩ = some (.slice ro (nlen (po).num.natAbs) co) := (hb.cell (p := ⟨wa.heap.size, 1, none⟩) hl_N1).trans k_N1_1
    replace k_N1_2 : wb.cell? ⟨wa.heap.size, 2, none⟩ = some (.slice ro2 (nlen (po).den) co2) := (hb.cell (p := ⟨wa.heap.size, 2, none⟩) hl_N1).trans k_N1_2
    replace f_N1 : ∀ o, wb.frozen? ⟨wa.heap.size, o, none⟩ = false := fun o => (hb.frozen (p := ⟨wa.heap.size, o, none⟩) hl_N1).trans (f_N1 o)
    replace HX_N1 := Lib.hid (HX_N1.out.below hb)
    replace HO1 := Lib.hid (HO1.out.below hb)
    replace HO2 := Lib.hid (HO2.out.below hb)
    replace HB := Lib.hid (HB.out.trans (hb.mono hs0))
    replace hN : N ≤ wb.heap.size := Nat.le_trans hN hb.size
    replace hs0 : w.heap.size ≤ wb.heap.size := Nat.le_trans hs0 hb.size
    replace hl_N1 : wa.heap.size < wb.heap.size := Nat.lt_of_lt_of_le hl_N1 hb.size
    replace HTab := Lib.hid (HTab.out.below hb)
    clear hb
    have HP1 := Lib.hid hn
    clear hn
    have HP2 := Lib.hid hn'
    clear hn'
    go_wp2_with fail
    refine calls_name fun WB hW => ?_
    have HL_WB := Lib.hid (show Below wb.heap.size wb WB by rw [← hW]; exact BlA)
    have hs_WB : wb.heap.size ≤ WB.heap.size := by rw [← hW]; (first | omega | (simp; done) | (simp; omega))
    have hd_N1_P : wa.heap.size < wb.heap.size := by omega
    have HK_WB := Lib.hid (show Kp N wb WB by rw [← hW]; exact KpA)
    replace k_N1_0 : WB.cell? ⟨wa.heap.size, 0, none⟩ = some (.bool (decide ((po).num < 0))) := (HL_WB.out.cell (p := ⟨wa.heap.size, 0, none⟩) hl_N1).trans k_N1_0
    replace k_N1_1 : WB.cell? ⟨wa.heap.size, 1, none⟩ = some (.slice ro (nlen (po).num.natAbs) co) := (HL_WB.out.cell (p := ⟨wa.heap.size, 1, none⟩) hl_N1).trans k_N1_1
    replace k_N1_2 : WB.cell? ⟨wa.heap.size, 2, none⟩ = some (.slice ro2 (nlen (po).den) co2) := (HL_WB.out.cell (p := ⟨wa.heap.size, 2, none⟩) hl_N1).trans k_N1_2
    replace f_N1 : ∀ o, WB.frozen? ⟨wa.heap.size, o, none⟩ = false := fun o => (HL_WB.out.frozen (p := ⟨wa.heap.size, o, none⟩) hl_N1).trans (f_N1 o)
    replace HX_N1 := Lib.hid (show Bn WB (wa.heap.size) by rw [← hW]; exact KpA)
    have k_P_0 : WB.cell? ⟨wb.heap.size, 0, none⟩ = some (.bool (decide ((p).num < 0))) := by rw [← hW]; (first | (go_simp; done) | (simp; done) | (simp [go_sem]; done) | (simp [go_sem, k_N1_0, k_N1_1, k_N1_2, f_N1, hl_N1]; done))
    have k_P_1 : WB.cell? ⟨wb.heap.size, 1, none⟩ = some (.slice rp (nlen (p).num.natAbs) cp) := by rw [← hW]; (first | (go_simp; done) | (simp; done) | (simp [go_sem]; done) | (simp [go_sem, k_N1_0, k_N1_1, k_N1_2, f_N1, hl_N1]; done))
    have k_P_2 : WB.cell? ⟨wb.heap.size, 2, none⟩ = some (.slice rp2 (nlen (p).den) cp2) := by rw [← hW]; (first | (go_simp; done) | (simp; done) | (simp [go_sem]; done) | (simp [go_sem, k_N1_0, k_N1_1, k_N1_2, f_N1, hl_N1]; done))
    have f_P : ∀ o, WB.frozen? ⟨wb.heap.size, o, none⟩ = false := by intro o; rw [← hW]; (first | (go_simp; done) | (simp; done) | (simp [go_sem]; done) | (simp [go_sem, k_N1_0, k_N1_1, k_N1_2, f_N1, hl_N1]; done))
    have HX_P := Lib.hid (show Bn WB (wb.heap.size) by rw [← hW]; exact KpA)
    replace HO1 := Lib.hid (HO1.out.keep HK_WB.out)
    replace HO2 := Lib.hid (HO2.out.keep HK_WB.out)
    replace HP1 := Lib.hid (HP1.out.keep HK_WB.out)
    replace HP2 := Lib.hid (HP2.out.keep HK_WB.out)
    replace HB := Lib.hid (show Below w.heap.size w WB by rw [← hW]; exact BlA)
    replace hN : N ≤ WB.heap.size := by rw [← hW]; (first | omega | (simp; done) | (simp; omega))
    replace hs0 : w.heap.size ≤ WB.heap.size := by rw [← hW]; (first | omega | (simp; done) | (simp; omega))
    replace hl_N1 : wa.heap.size < WB.heap.size := by rw [← hW]; (first | omega | (simp; done) | (simp; omega))
    have hl_P : wb.heap.size < WB.heap.size := by rw [← hW]; (first | omega | (simp; done) | (simp; omega))
    replace HTab := Lib.hid (HTab.out.below HL_WB.out)
    clear HL_WB
    clear hW HK_WB
    refine (HT2.out _ HB.out hN).mono ?_
    rintro e wc ⟨rr, cr, rr2, cr2, rfl, hn, hn', hb⟩
    have hs_wc : WB.heap.size ≤ wc.heap.size := hb.size
    replace k_N1_0 : wc.cell? ⟨wa.heap.size, 0, none⟩ = some (.bool (decide ((po).num < 0))) := (hb.cell (p := ⟨wa.heap.size, 0, none⟩) hl_N1).trans k_N1_0
    replace k_N1_1 : wc.cell? ⟨wa.heap.size, 1, none⟩ = some (.slice ro (nlen (po).num.natAbs) co) := (hb.cell (p := ⟨wa.heap.size, 1, none⟩) hl_N1).trans k_N1_1
    replace k_N1_2 : wc.cell? ⟨wa.heap.size, 2, none⟩ = some (.slice ro2 (nlen (po).den) co2) := (hb.cell (p := ⟨wa.heap.size, 2, none⟩) hl_N1).trans k_N1_2
    replace f_N1 : ∀ o, wc.frozen? ⟨wa.heap.size, o, none⟩ = false := fun o => (hb.frozen (p := ⟨wa.heap.size, o, none⟩) hl_N1).trans (f_N1 o)
    replace HX_N1 := Lib.hid (HX_N1.out.below hb)
    replace k_P_0 : wc.cell? ⟨wb.heap.size, 0, none⟩ = some (.bool (decide ((p).num < 0))) := (hb.cell (p := ⟨wb.heap.size, 0, none⟩) hl_P).trans k_P_0
    replace k_P_1 : wc.cell? ⟨wb.heap.size, 1, none⟩ = some (.slice rp (nlen (p).num.natAbs) cp) := (hb.cell (p := ⟨wb.heap.size, 1, none⟩) hl_P).trans k_P_1
    replace k_P_2 : wc.cell? ⟨wb.heap.size, 2, none⟩ = some (.slice rp2 (nlen (p).den) cp2) := (hb.cell (p := ⟨wb.heap.size, 2, none⟩) hl_P).trans k_P_2
    replace f_P : ∀ o, wc.frozen? ⟨wb.heap.size, o, none⟩ = false := fun o => (hb.frozen (p := ⟨wb.heap.size, o, none⟩) hl_P).trans (f_P o)
    replace HX_P := Lib.hid (HX_P.out.below hb)
    replace HO1 := Lib.hid (HO1.out.below hb)
    replace HO2 := Lib.hid (HO2.out.below hb)
    replace HP1 := Lib.hid (HP1.out.below hb)
    replace HP2 := Lib.hid (HP2.out.below hb)
    replace HB := Lib.hid (HB.out.trans (hb.mono hs0))
    replace hN : N ≤ wc.heap.size := Nat.le_trans hN hb.size
    replace hs0 : w.heap.size ≤ wc.heap.size := Nat.le_trans hs0 hb.size
    replace hl_N1 : wa.heap.size < wc.heap.size := Nat.lt_of_lt_of_le hl_N1 hb.size
    replace hl_P : wb.heap.size < wc.heap.size := Nat.lt_of_lt_of_le hl_P hb.size
    replace HTab := Lib.hid (HTab.out.below hb)
    clear hb
    have HR1 := Lib.hid hn
    clear hn
    have HR2 := Lib.hid hn'
    clear hn'
    go_wp2_with fail
    refine calls_name fun WC hW => ?_
    have HL_WC := Lib.hid (show Below wc.heap.size wc WC by rw [← hW]; exact BlA)
    have hs_WC : wc.heap.size ≤ WC.heap.size := by rw [← hW]; (first | omega | (simp; done) | (simp; omega))
    have hd_N1_Q : wa.heap.size < wc.heap.size := by omega
    have hd_P_Q : wb.heap.size < wc.heap.size := by omega
    have HK_WC := Lib.hid (show Kp N wc WC by rw [← hW]; exact KpA)
    replace k_N1_0 : WC.cell? ⟨wa.heap.size, 0, none⟩ = some (.bool (decide ((po).num < 0))) := (HL_WC.out.cell (p := ⟨wa.heap.size, 0, none⟩) hl_N1).trans k_N1_0
    replace k_N1_1 : WC.cell? ⟨wa.heap.size, 1, none⟩ = some (.slice ro (nlen (po).num.natAbs) co) := (HL_WC.out.cell (p := ⟨wa.heap.size, 1, none⟩) hl_N1).trans k_N1_1
    replace k_N1_2 : WC.cell? ⟨wa.heap.size, 2, none⟩ = some (.slice ro2 (nlen (po).den) co2) := (HL_WC.out.cell (p := ⟨wa.heap.size, 2, none⟩) hl_N1).trans k_N1_2
    replace f_N1 : ∀ o, WC.frozen? ⟨wa.heap.size, o, none⟩ = false := fun o => (HL_WC.out.frozen (p := ⟨wa.heap.size, o, none⟩) hl_N1).trans (f_N1 o)
    replace HX_N1 := Lib.hid (show Bn WC (wa.heap.size) by rw [← hW]; exact KpA)
    replace k_P_0 : WC.cell? ⟨wb.heap.size, 0, none⟩ = some (.bool (decide ((p).num < 0))) := (HL_WC.out.cell (p := ⟨wb.heap.size, 0, none⟩) hl_P).trans k_P_0
    replace k_P_1 : WC.cell? ⟨wb.heap.size, 1, none⟩ = some (.slice rp (nlen (p).num.natAbs) cp) := (HL_WC.out.cell (p := ⟨wb.heap.size, 1, none⟩) hl_P).trans k_P_1
    replace k_P_2 : WC.cell? ⟨wb.heap.size, 2, none⟩ = some (.slice rp2 (nlen (p).den) cp2) := (HL_WC.out.cell (p := ⟨wb.heap.size, 2, none⟩) hl_P).trans k_P_2
    replace f_P : ∀ o, WC.frozen? ⟨wb.heap.size, o, none⟩ = false := fun o => (HL_WC.out.frozen (p := ⟨wb.heap.size, o, none⟩) hl_P).trans (f_P o)
    replace HX_P := Lib.hid (show Bn WC (wb.heap.size) by rw [← hW]; exact KpA)
    have k_Q_0 : WC.cell? ⟨wc.heap.size, 0, none⟩ = some (.bool (decide ((p).num < 0))) := by rw [← hW]; (first | (go_simp; done) | (simp; done) | (simp [go_sem]; done) | (simp [go_sem, k_N1_0, k_N1_1, k_N1_2, k_P_0, k_P_1, k_P_2, f_N1, f_P, hl_N1, hl_P]; done))
    have k_Q_1 : WC.cell? ⟨wc.heap.size, 1, none⟩ = some (.slice rr (nlen (p).num.natAbs) cr) := by rw [← hW]; (first | (go_simp; done) | (simp; done) | (simp [go_sem]; done) | (simp [go_sem, k_N1_0, k_N1_1, k_N1_2, k_P_0, k_P_1, k_P_2, f_N1, f_P, hl_N1, hl_P]; done))
    have k_Q_2 : WC.cell? ⟨wc.heap.size, 2, none⟩ = some (.slice rr2 (nlen (p).den) cr2) := by rw [← hW]; (first | (go_simp; done) | (simp; done) | (simp [go_sem]; done) | (simp [go_sem, k_N1_0, k_N1_1, k_N1_2, k_P_0, k_P_1, k_P_2, f_N1, f_P, hl_N1, hl_P]; done))
    have f_Q : ∀ o, WC.frozen? ⟨wc.heap.size, o, none⟩ = false := by intro o; rw [← hW]; (first | (go_simp; done) | (simp; done) | (simp [go_sem]; done) | (simp [go_sem, k_N1_0, k_N1_1, k_N1_2, k_P_0, k_P_1, k_P_2, f_N1, f_P, hl_N1, hl_P]; done))
    have HX_Q := Lib.hid (show Bn WC (wc.heap.size) by rw [← hW]; exact KpA)
    replace HO1 := Lib.hid (HO1.out.keep HK_WC.out)
    replace HO2 := Lib.hid (HO2.out.keep HK_WC.out)
    replace HP1 := Lib.hid (HP1.out.keep HK_WC.out)
    replace HP2 := Lib.hid (HP2.out.keep HK_WC.out)
    replace HR1 := Lib.hid (HR1.out.keep HK_WC.out)
    replace HR2 := Lib.hid (HR2.out.keep HK_WC.out)
    replace HB := Lib.hid (show Below w.heap.size w WC by rw [← hW]; exact BlA)
    replace hN : N ≤ WC.heap.size := by rw [← hW]; (first | omega | (simp; done) | (simp; omega))
    replace hs0 : w.heap.size ≤ WC.heap.size := by rw [← hW]; (first | omega | (simp; done) | (simp; omega))
    replace hl_N1 : wa.heap.size < WC.heap.size := by rw [← hW]; (first | omega | (simp; done) | (simp; omega))
    replace hl_P : wb.heap.size < WC.heap.size := by rw [← hW]; (first | omega | (simp; done) | (simp; omega))
    have hl_Q : wc.heap.size < WC.heap.size := by rw [← hW]; (first | omega | (simp; done) | (simp; omega))
    replace HTab := Lib.hid (HTab.out.below HL_WC.out)
    clear HL_WC
    clear hW HK_WC
    refine (ratPrint_any (N := N) _ _ _ _ _ _ _ 1 p _ hN (Rt.of_norm HP1.out HP2.out 1 Zp.out) (by omega) (HTab.out)).mono ?_
    rintro e wy ⟨l, rfl, l0, l2, hb⟩
    have hs_wy : WC.heap.size ≤ wy.heap.size := hb.size
    replace k_N1_0 : wy.cell? ⟨wa.heap.size, 0, none⟩ = some (.bool (decide ((po).num < 0))) := (hb.cell (p := ⟨wa.heap.size, 0, none⟩) hl_N1).trans k_N1_0
    replace k_N1_1 : wy.cell? ⟨wa.heap.size, 1, none⟩ = some (.slice ro (nlen (po).num.natAbs) co) := (hb.cell (p := ⟨wa.heap.size, 1, none⟩) hl_N1).trans k_N1_1
    replace k_N1_2 : wy.cell? ⟨wa.heap.size, 2, none⟩ = some (.slice ro2 (nlen (po).den) co2) := (hb.cell (p := ⟨wa.heap.size, 2, none⟩) hl_N1).trans k_N1_2
    replace f_N1 : ∀ o, wy.frozen? ⟨wa.heap.size, o, none⟩ = false := fun o => (hb.frozen (p := ⟨wa.heap.size, o, none⟩) hl_N1).trans (f_N1 o)
    replace HX_N1 := Lib.hid (HX_N1.out.below hb)
    replace k_P_0 : wy.cell? ⟨wb.heap.size, 0, none⟩ = some (.bool (decide ((p).num < 0))) := (hb.cell (p := ⟨wb.heap.size, 0, none⟩) hl_P).trans k_P_0
    replace k_P_1 : wy.cell? ⟨wb.heap.size, 1, none⟩ = some (.slice rp (nlen (p).num.natAbs) cp) := (hb.cell (p := ⟨wb.heap.size, 1, none⟩) hl_P).trans k_P_1
    replace k_P_2 : wy.cell? ⟨wb.heap.size, 2, none⟩ = some (.slice rp2 (nlen (p).den) cp2) := (hb.cell (p := ⟨wb.heap.size, 2, none⟩) hl_P).trans k_P_2
    replace f_P : ∀ o, wy.frozen? ⟨wb.heap.size, o, none⟩ = false := fun o => (hb.frozen (p := ⟨wb.heap.size, o, none⟩) hl_P).trans (f_P o)
    replace HX_P := Lib.hid (HX_P.out.below hb)
    replace k_Q_0 : wy.cell? ⟨wc.heap.size, 0, none⟩ = some (.bool (decide ((p).num < 0))) := (hb.cell (p := ⟨wc.heap.size, 0, none⟩) hl_Q).trans k_Q_0
    replace k_Q_1 : wy.cell? ⟨wc.heap.size, 1, none⟩ = some (.slice rr (nlen (p).num.natAbs) cr) := (hb.cell (p := ⟨wc.heap.size, 1, none⟩) hl_Q).trans k_Q_1
    replace k_Q_2 : wy.cell? ⟨wc.heap.size, 2, none⟩ = some (.slice rr2 (nlen (p).den) cr2) := (hb.cell (p := ⟨wc.heap.size, 2, none⟩) hl_Q).trans k_Q_2
    replace f_Q : ∀ o, wy.frozen? ⟨wc.heap.size, o, none⟩ = false := fun o => (hb.frozen (p := ⟨wc.heap.size, o, none⟩) hl_Q).trans (f_Q o)
    replace HX_Q := Lib.hid (HX_Q.out.below hb)
    replace HO1 := Lib.hid (HO1.out.below hb)
    replace HO2 := Lib.hid (HO2.out.below hb)
    replace HP1 := Lib.hid (HP1.out.below hb)
    replace HP2 := Lib.hid (HP2.out.below hb)
    replace HR1 := Lib.hid (HR1.out.below hb)
    replace HR2 := Lib.hid (HR2.out.below hb)
    replace HB := Lib.hid (HB.out.trans (hb.mono hs0))
    replace hN : N ≤ wy.heap.size := Nat.le_trans hN hb.size
    replace hs0 : w.heap.size ≤ wy.heap.size := Nat.le_trans hs0 hb.size
    replace hl_N1 : wa.heap.size < wy.heap.size := Nat.lt_of_lt_of_le hl_N1 hb.size
    replace hl_P : wb.heap.size < wy.heap.size := Nat.lt_of_lt_of_le hl_P hb.size
    replace hl_Q : wc.heap.size < wy.heap.size := Nat.lt_of_lt_of_le hl_Q hb.size
    replace HTab := Lib.hid (HTab.out.below hb)
    clear hb
    rw [HP0.out] at l2
    obtain rfl : l = [48] := (l2 zero_smallF.1 zero_smallF.2.1 zero_smallF.2.2).trans txt_zeroF
    clear l2 l0
    obtain ⟨sv, hsv⟩ : ∃ sv : ByteArray, (⟨[48].toArray⟩ : ByteArray) = sv := ⟨_, rfl⟩
    rw [hsv]
    have hs1 : (sv.toList == [48]) = true := by rw [← hsv, ByteArray.toList_eq]; exact beq_self_eq_true _
    have hs3 : (sv.toList == ByteArray.toList ⟨#[48]⟩) = true := by rw [← hsv]; exact beq_self_eq_true _
    clear hsv
    go_wp2_with fail
    go_ret
    exact ⟨rfl, HB.out⟩
set_option maxRecDepth 100000 in
set_option maxHeartbeats 8000000 in
theorem pat_ok {N : Nat} (ax ay a : Option Addr) (n cx cy ca : Nat) (x y : Nat → Bool) (q : Nat → Rat) (ln ld : Nat → Nat) (w : World) (hN : N ≤ w.heap.size) (h : Ru N w a n ca q ln ld) (hx : Sl w ax n cx (fun i => .bool (x i))) (hy : Sl w ay n cy (fun i => .bool (y i))) (htab : TabW w) (h20 : n ≤ 20) (p r : Rat) (ht1 : TstIs N w ax a n cx n ca p 0) (ht2 : TstIs N w ay a n cy n ca r 0) (p0 : 0 ≤ p) (p1 : p ≤ 1) (hp1 : erN x n = 0 → p = 1) (hpr : erN y n ≤ erN x n → p ≤ r) (hzp : rsz p ≤ 2000) (hzr : rsz r ≤ 2000) :
    Calls Tryd.prog 3 #[.slice ax n cx, .slice ay n cy, .slice a n ca] w fun e w' => e = .returned (.bool true) ∧ Below w.heap.size w w' := by
  have HU := Lib.hid h
  have HTab := Lib.hid htab
  have bc := h.1
  have bm := h.2.1
  unfold maxLen at bm
  clear h htab
  obtain ⟨po, hpo⟩ : ∃ p : Rat, ((1 : Int) : Rat) / ((1 : Int) : Rat) = p := ⟨_, rfl⟩
  have hpo1 : po = 1 := by rw [← hpo]; (first | grind | decide | (simp; done))
  have HPO1 := Lib.hid hpo1
  have HPo := Lib.hid ((mk_div 1 1).trans hpo)
  have Zpo := Lib.hid (show rsz po ≤ 2 by rw [hpo1]; have := rsz_one; omega)
  clear hpo hpo1
  have hN0 := hN
  have hs0 : w.heap.size ≤ w.heap.size := Nat.le_refl _
  have HB := Lib.hid (Below.refl w.heap.size w)
  have HT1 := Lib.hid ht1
  have HT2 := Lib.hid ht2
  have HX := Lib.hid hx
  have HY := Lib.hid hy
  have Zp := Lib.hid hzp
  have Zr := Lib.hid hzr
  obtain ⟨g1, hg1⟩ : ∃ g, erN x n = g := ⟨_, rfl⟩
  obtain ⟨g2, hg2⟩ : ∃ g, erN y n = g := ⟨_, rfl⟩
  rw [hg1, hg2] at hpr
  rw [hg1] at hp1
  have HG1 := Lib.hid hg1
  have HG2 := Lib.hid hg2
  have b1 : g1 ≤ 400 := by have := erN_le x n; have := Nat.mul_le_mul h20 h20; omega
  have b2 : g2 ≤ 400 := by have := erN_le y n; have := Nat.mul_le_mul h20 h20; omega
  obtain ⟨k1, hk1⟩ : ∃ i, cmpQ p po = i := ⟨_, rfl⟩
  have HK1 := Lib.hid hk1
  have d1 : decide (0 < k1) = false := by rw [← hk1]; exact cmpQ_leF p po (by rw [HPO1.out]; exact p1)
  obtain ⟨sg, hsg⟩ : ∃ i, p.num.sign = i := ⟨_, rfl⟩
  have HSG := Lib.hid hsg
  have d2 : decide (sg < 0) = false := by rw [← hsg]; rw [decide_eq_false_iff_not, Int.not_lt, Int.sign_nonneg_iff]; exact Rat.num_nonneg.2 p0
  obtain ⟨k2, hk2⟩ : ∃ i, cmpQ p r = i := ⟨_, rfl⟩
  have HK2 := Lib.hid hk2
  have d3 : ¬ g1 < g2 → decide (k2 ≤ 0) = true := fun hh => by rw [← hk2]; exact cmpQ_le2F p r (hpr (by omega))
  have hq1 : g1 = 0 → p = po := fun hh => (hp1 hh).trans HPO1.out.symm
  have H20 := Lib.hid h20
  clear ht1 ht2 hx hy hzp hzr hg1 hg2 hpr hp1 hk1 hk2 hsg p0 p1
  go_enter Tryd.func3, Tryd.ntmps3
  go_wp2_with fail
  refine (heavy_any (N := N) _ _ _ q ln ld _ HU.out).mono ?_
  rintro e w' ⟨b, rfl, rfl, hv⟩
  cases b
  case true =>
    go_wp2_with fail
    go_ret
    exact ⟨rfl, Below.refl _ _⟩
  case false =>
    clear hv
    go_wp2_with fail
    refine (rof_any (N := N) 1 1 _ hN (by omega) (by omega) (by omega) (by omega) po HPo.out).mono ?_
    rintro e wa ⟨ro, co, ro2, co2, rfl, hn, hn', hb⟩
    have hs_wa : w.heap.size ≤ wa.heap.size := hb.size
    replace HB := Lib.hid (HB.out.trans (hb.mono hs0))
    replace hN : N ≤ wa.heap.size := Nat.le_trans hN hb.size
    replace hs0 : w.heap.size ≤ wa.heap.size := Nat.le_trans hs0 hb.size
    replace HTab := Lib.hid (HTab.out.below hb)
    clear hb
    have HO1 := Lib.hid hn
    clear hn
    have HO2 := Lib.hid hn'
    clear hn'
    go_wp2_with fail
    refine calls_name fun WA hW => ?_
    have hs_WA : wa.heap.size ≤ WA.heap.size := by rw [← hW]; (first | omega | (simp; done) | (simp; omega))
    have HK_WA := Lib.hid (show Kp N wa WA by rw [← hW]; exact KpA)
    have HL_WA := Lib.hid (show Below wa.heap.size wa WA by rw [← hW]; exact BlA)
    have k_N1_0 : WA.cell? ⟨wa.heap.size, 0, none⟩ = some (.bool (decide ((po).num < 0))) := by rw [← hW]; (first | (go_simp; done) | (simp; done) | (simp [go_sem]; done) | (simp [go_sem]; done))
    have k_N1_1 : WA.cell? ⟨wa.heap.size, 1, none⟩ = some (.slice ro (nlen (po).num.natAbs) co) := by rw [← hW]; (first | (go_simp; done) | (simp; done) | (simp [go_sem]; done) | (simp [go_sem]; done))
    have k_N1_2 : WA.cell? ⟨wa.heap.size, 2, none⟩ = some (.slice ro2 (nlen (po).den) co2) := by rw [← hW]; (first | (go_simp; done) | (simp; done) | (simp [go_sem]; done) | (simp [go_sem]; done))
    have f_N1 : ∀ o, WA.frozen? ⟨wa.heap.size, o, none⟩ = false := by intro o; rw [← hW]; (first | (go_simp; done) | (simp; done) | (simp [go_sem]; done) | (simp [go_sem]; done))
    have HX_N1 := Lib.hid (show Bn WA (wa.heap.size) by rw [← hW]; exact KpA)
    replace HO1 := Lib.hid (HO1.out.keep HK_WA.out)
    replace HO2 := Lib.hid (HO2.out.keep HK_WA.out)
    replace HB := Lib.hid (show Below w.heap.size w WA by rw [← hW]; exact BlA)
    replace hN : N ≤ WA.heap.size := by rw [← hW]; (first | omega | (simp; done) | (simp; omega))
    replace hs0 : w.heap.size ≤ WA.heap.size := by rw [← hW]; (first | omega | (simp; done) | (simp; omega))
    have hl_N1 : wa.heap.size < WA.heap.size := by rw [← hW]; (first | omega | (simp; done) | (simp; omega))
    replace HTab := Lib.hid (HTab.out.below HL_WA.out)
    clear HL_WA
    clear hW HK_WA
    refine (HT1.out _ HB.out hN).mono ?_
    rintro e wb ⟨rp, cp, rp2, cp2, rfl, hn, hn', hb⟩
    have hs_wb : WA.heap.size ≤ wb.heap.size := hb.size
    replace k_N1_0 : wb.cell? ⟨wa.heap.size, 0, none⟩ = some (.bool (decide ((po).num < 0))) := (hb.cell (p := ⟨wa.heap.size, 0, none⟩) hl_N1).trans k_N1_0
    replace k_N1_1 : wb.cell? ⟨wa.heap.size, 1, none⟩ = some (.slice ro (nlen (po).num.natAbs) co) := (hb.cell (p := ⟨wa.heap.size, 1, none⟩) hl_N1).trans k_N1_1
    replace k_N1_2 : wb.cell? ⟨wa.heap.size, 2, none⟩ = some (.slice ro2 (nlen (po).den) co2) := (hb.cell (p := ⟨wa.heap.size, 2, none⟩) hl_N1).trans k_N1_2
    replace f_N1 : ∀ o, wb.frozen? ⟨wa.heap.size, o, none⟩ = false := fun o => (hb.frozen (p := ⟨wa.heap.size, o, none⟩) hl_N1).trans (f_N1 o)
    replace HX_N1 := Lib.hid (HX_N1.out.below hb)
    replace HO1 := Lib.hid (HO1.out.below hb)
    replace HO2 := Lib.hid (HO2.out.below hb)
    replace HB := Lib.hid (HB.out.trans (hb.mono hs0))
    replace hN : N ≤ wb.heap.size := Nat.le_trans hN hb.size
    replace hs0 : w.heap.size ≤ wb.heap.size := Nat.le_trans hs0 hb.size
    replace hl_N1 : wa.heap.size < wb.heap.size := Nat.lt_of_lt_of_le hl_N1 hb.size
    replace HTab := Lib.hid (HTab.out.below hb)
    clear hb
    have HP1 := Lib.hid hn
    clear hn
    have HP2 := Lib.hid hn'
    clear hn'
    go_wp2_with fail
    refine calls_name fun WB hW => ?_
    have HL_WB := Lib.hid (show Below wb.heap.size wb WB by rw [← hW]; exact BlA)
    have hs_WB : wb.heap.size ≤ WB.heap.size := by rw [← hW]; (first | omega | (simp; done) | (simp; omega))
    have hd_N1_P : wa.heap.size < wb.heap.size := by omega
    have HK_WB := Lib.hid (show Kp N wb WB by rw [← hW]; exact KpA)
    replace k_N1_0 : WB.cell? ⟨wa.heap.size, 0, none⟩ = some (.bool (decide ((po).num < 0))) := (HL_WB.out.cell (p := ⟨wa.heap.size, 0, none⟩) hl_N1).trans k_N1_0
    replace k_N1_1 : WB.cell? ⟨wa.heap.size, 1, none⟩ = some (.slice ro (nlen (po).num.natAbs) co) := (HL_WB.out.cell (p := ⟨wa.heap.size, 1, none⟩) hl_N1).trans k_N1_1
    replace k_N1_2 : WB.cell? ⟨wa.heap.size, 2, none⟩ = some (.slice ro2 (nlen (po).den) co2) := (HL_WB.out.cell (p := ⟨wa.heap.size, 2, none⟩) hl_N1).trans k_N1_2
    replace f_N1 : ∀ o, WB.frozen? ⟨wa.heap.size, o, none⟩ = false := fun o => (HL_WB.out.frozen (p := ⟨wa.heap.size, o, none⟩) hl_N1).trans (f_N1 o)
    replace HX_N1 := Lib.hid (show Bn WB (wa.heap.size) by rw [← hW]; exact KpA)
    have k_P_0 : WB.cell? ⟨wb.heap.size, 0, none⟩ = some (.bool (decide ((p).num < 0))) := by rw [← hW]; (first | (go_simp; done) | (simp; done) | (simp [go_sem]; done) | (simp [go_sem, k_N1_0, k_N1_1, k_N1_2, f_N1, hl_N1]; done))
    have k_P_1 : WB.cell? ⟨wb.heap.size, 1, none⟩ = some (.slice rp (nlen (p).num.natAbs) cp) := by rw [← hW]; (first | (go_simp; done) | (simp; done) | (simp [go_sem]; done) | (simp [go_sem, k_N1_0, k_N1_1, k_N1_2, f_N1, hl_N1]; done))
    have k_P_2 : WB.cell? ⟨wb.heap.size, 2, none⟩ = some (.slice rp2 (nlen (p).den) cp2) := by rw [← hW]; (first | (go_simp; done) | (simp; done) | (simp [go_sem]; done) | (simp [go_sem, k_N1_0, k_N1_1, k_N1_2, f_N1, hl_N1]; done))
    have f_P : ∀ o, WB.frozen? ⟨wb.heap.size, o, none⟩ = false := by intro o; rw [← hW]; (first | (go_simp; done) | (simp; done) | (simp [go_sem]; done) | (simp [go_sem, k_N1_0, k_N1_1, k_N1_2, f_N1, hl_N1]; done))
    have HX_P := Lib.hid (show Bn WB (wb.heap.size) by rw [← hW]; exact KpA)
    replace HO1 := Lib.hid (HO1.out.keep HK_WB.out)
    replace HO2 := Lib.hid (HO2.out.keep HK_WB.out)
    replace HP1 := Lib.hid (HP1.out.keep HK_WB.out)
    replace HP2 := Lib.hid (HP2.out.keep HK_WB.out)
    replace HB := Lib.hid (show Below w.heap.size w WB by rw [← hW]; exact BlA)
    replace hN : N ≤ WB.heap.size := by rw [← hW]; (first | omega | (simp; done) | (simp; omega))
    replace hs0 : w.heap.size ≤ WB.heap.size := by rw [← hW]; (first | omega | (simp; done) | (simp; omega))
    replace hl_N1 : wa.heap.size < WB.heap.size := by rw [← hW]; (first | omega | (simp; done) | (simp; omega))
    have hl_P : wb.heap.size < WB.heap.size := by rw [← hW]; (first | omega | (simp; done) | (simp; omega))
    replace HTab := Lib.hid (HTab.out.below HL_WB.out)
    clear HL_WB
    clear hW HK_WB
    refine (HT2.out _ HB.out hN).mono ?_
    rintro e wc ⟨rr, cr, rr2, cr2, rfl, hn, hn', hb⟩
    have hs_wc : WB.heap.size ≤ wc.heap.size := hb.size
    replace k_N1_0 : wc.cell? ⟨wa.heap.size, 0, none⟩ = some (.bool (decide ((po).num < 0))) := (hb.cell (p := ⟨wa.heap.size, 0, none⟩) hl_N1).trans k_N1_0
    replace k_N1_1 : wc.cell? ⟨wa.heap.size, 1, none⟩ = some (.slice ro (nlen (po).num.natAbs) co) := (hb.cell (p := ⟨wa.heap.size, 1, none⟩) hl_N1).trans k_N1_1
    replace k_N1_2 : wc.cell? ⟨wa.heap.size, 2, none⟩ = some (.slice ro2 (nlen (po).den) co2) := (hb.cell (p := ⟨wa.heap.size, 2, none⟩) hl_N1).trans k_N1_2
    replace f_N1 : ∀ o, wc.frozen? ⟨wa.heap.size, o, none⟩ = false := fun o => (hb.frozen (p := ⟨wa.heap.size, o, none⟩) hl_N1).trans (f_N1 o)
    replace HX_N1 := Lib.hid (HX_N1.out.below hb)
    replace k_P_0 : wc.cell? ⟨wb.heap.size, 0, none⟩ = some (.bool (decide ((p).num < 0))) := (hb.cell (p := ⟨wb.heap.size, 0, none⟩) hl_P).trans k_P_0
    replace k_P_1 : wc.cell? ⟨wb.heap.size, 1, none⟩ = some (.slice rp (nlen (p).num.natAbs) cp) := (hb.cell (p := ⟨wb.heap.size, 1, none⟩) hl_P).trans k_P_1
    replace k_P_2 : wc.cell? ⟨wb.heap.size, 2, none⟩ = some (.slice rp2 (nlen (p).den) cp2) := (hb.cell (p := ⟨wb.heap.size, 2, none⟩) hl_P).trans k_P_2
    replace f_P : ∀ o, wc.frozen? ⟨wb.heap.size, o, none⟩ = false := fun o => (hb.frozen (p := ⟨wb.heap.size, o, none⟩) hl_P).trans (f_P o)
    replace HX_P := Lib.hid (HX_P.out.below hb)
    replace HO1 := Lib.hid (HO1.out.below hb)
    replace HO2 := Lib.hid (HO2.out.below hb)
    replace HP1 := Lib.hid (HP1.out.below hb)
    replace HP2 := Lib.hid (HP2.out.below hb)
    replace HB := Lib.hid (HB.out.trans (hb.mono hs0))
    replace hN : N ≤ wc.heap.size := Nat.le_trans hN hb.size
    replace hs0 : w.heap.size ≤ wc.heap.size := Nat.le_trans hs0 hb.size
    replace hl_N1 : wa.heap.size < wc.heap.size := Nat.lt_of_lt_of_le hl_N1 hb.size
    replace hl_P : wb.heap.size < wc.heap.size := Nat.lt_of_lt_of_le hl_P hb.size
    replace HTab := Lib.hid (HTab.out.below hb)
    clear hb
    have HR1 := Lib.hid hn
    clear hn
    have HR2 := Lib.hid hn'
    clear hn'
    go_wp2_with fail
    refine calls_name fun WC hW => ?_
    have HL_WC := Lib.hid (show Below wc.heap.size wc WC by rw [← hW]; exact BlA)
    have hs_WC : wc.heap.size ≤ WC.heap.size := by rw [← hW]; (first | omega | (simp; done) | (simp; omega))
    have hd_N1_Q : wa.heap.size < wc.heap.size := by omega
    have hd_P_Q : wb.heap.size < wc.heap.size := by omega
    have HK_WC := Lib.hid (show Kp N wc WC by rw [← hW]; exact KpA)
    replace k_N1_0 : WC.cell? ⟨wa.heap.size, 0, none⟩ = some (.bool (decide ((po).num < 0))) := (HL_WC.out.cell (p := ⟨wa.heap.size, 0, none⟩) hl_N1).trans k_N1_0
    replace k_N1_1 : WC.cell? ⟨wa.heap.size, 1, none⟩ = some (.slice ro (nlen (po).num.natAbs) co) := (HL_WC.out.cell (p := ⟨wa.heap.size, 1, none⟩) hl_N1).trans k_N1_1
    replace k_N1_2 : WC.cell? ⟨wa.heap.size, 2, none⟩ = some (.slice ro2 (nlen (po).den) co2) := (HL_WC.out.cell (p := ⟨wa.heap.size, 2, none⟩) hl_N1).trans k_N1_2
    replace f_N1 : ∀ o, WC.frozen? ⟨wa.heap.size, o, none⟩ = false := fun o => (HL_WC.out.frozen (p := ⟨wa.heap.size, o, none⟩) hl_N1).trans (f_N1 o)
    replace HX_N1 := Lib.hid (show Bn WC (wa.heap.size) by rw [← hW]; exact KpA)
    replace k_P_0 : WC.cell? ⟨wb.heap.size, 0, none⟩ = some (.bool (decide ((p).num < 0))) := (HL_WC.out.cell (p := ⟨wb.heap.size, 0, none⟩) hl_P).trans k_P_0
    replace k_P_1 : WC.cell? ⟨wb.heap.size, 1, none⟩ = some (.slice rp (nlen (p).num.natAbs) cp) := (HL_WC.out.cell (p := ⟨wb.heap.size, 1, none⟩) hl_P).trans k_P_1
    replace k_P_2 : WC.cell? ⟨wb.heap.size, 2, none⟩ = some (.slice rp2 (nlen (p).den) cp2) := (HL_WC.out.cell (p := ⟨wb.heap.size, 2, none⟩) hl_P).trans k_P_2
    replace f_P : ∀ o, WC.frozen? ⟨wb.heap.size, o, none⟩ = false := fun o => (HL_WC.out.frozen (p := ⟨wb.heap.size, o, none⟩) hl_P).trans (f_P o)
    replace HX_P := Lib.hid (show Bn WC (wb.heap.size) by rw [← hW]; exact KpA)
    have k_Q_0 : WC.cell? ⟨wc.heap.size, 0, none⟩ = some (.bool (decide ((r).num < 0))) := by rw [← hW]; (first | (go_simp; done) | (simp; done) | (simp [go_sem]; done) | (simp [go_sem, k_N1_0, k_N1_1, k_N1_2, k_P_0, k_P_1, k_P_2, f_N1, f_P, hl_N1, hl_P]; done))
    have k_Q_1 : WC.cell? ⟨wc.heap.size, 1, none⟩ = some (.slice rr (nlen (r).num.natAbs) cr) := by rw [← hW]; (first | (go_simp; done) | (simp; done) | (simp [go_sem]; done) | (simp [go_sem, k_N1_0, k_N1_1, k_N1_2, k_P_0, k_P_1, k_P_2, f_N1, f_P, hl_N1, hl_P]; done))
    have k_Q_2 : WC.cell? ⟨wc.heap.size, 2, none⟩ = some (.slice rr2 (nlen (r).den) cr2) := by rw [← hW]; (first | (go_simp; done) | (simp; done) | (simp [go_sem]; done) | (simp [go_sem, k_N1_0, k_N1_1, k_N1_2, k_P_0, k_P_1, k_P_2, f_N1, f_P, hl_N1, hl_P]; done))
    have f_Q : ∀ o, WC.frozen? ⟨wc.heap.size, o, none⟩ = false := by intro o; rw [← hW]; (first | (go_simp; done) | (simp; done) | (simp [go_sem]; done) | (simp [go_sem, k_N1_0, k_N1_1, k_N1_2, k_P_0, k_P_1, k_P_2, f_N1, f_P, hl_N1, hl_P]; done))
    have HX_Q := Lib.hid (show Bn WC (wc.heap.size) by rw [← hW]; exact KpA)
    replace HO1 := Lib.hid (HO1.out.keep HK_WC.out)
    replace HO2 := Lib.hid (HO2.out.keep HK_WC.out)
    replace HP1 := Lib.hid (HP1.out.keep HK_WC.out)
    replace HP2 := Lib.hid (HP2.out.keep HK_WC.out)
    replace HR1 := Lib.hid (HR1.out.keep HK_WC.out)
    replace HR2 := Lib.hid (HR2.out.keep HK_WC.out)
    replace HB := Lib.hid (show Below w.heap.size w WC by rw [← hW]; exact BlA)
    replace hN : N ≤ WC.heap.size := by rw [← hW]; (first | omega | (simp; done) | (simp; omega))
    replace hs0 : w.heap.size ≤ WC.heap.size := by rw [← hW]; (first | omega | (simp; done) | (simp; omega))
    replace hl_N1 : wa.heap.size < WC.heap.size := by rw [← hW]; (first | omega | (simp; done) | (simp; omega))
    replace hl_P : wb.heap.size < WC.heap.size := by rw [← hW]; (first | omega | (simp; done) | (simp; omega))
    have hl_Q : wc.heap.size < WC.heap.size := by rw [← hW]; (first | omega | (simp; done) | (simp; omega))
    replace HTab := Lib.hid (HTab.out.below HL_WC.out)
    clear HL_WC
    clear hW HK_WC
    refine (gut_any _ _ _ x _ H20.out (HX.out.below HB.out)).mono ?_
    rw [HG1.out]
    rintro e w' ⟨rfl, rfl⟩
    go_wp2_with fail
    refine (gut_any _ _ _ y _ H20.out (HY.out.below HB.out)).mono ?_
    rw [HG2.out]
    rintro e w' ⟨rfl, rfl⟩
    go_wp2_with fail
    refine (rcmp_any (N := N) _ _ _ _ _ _ _ _ _ _ _ _ _ _ 2000 2 p po _ hN (Rt.of_norm HP1.out HP2.out 2000 Zp.out) (Rt.of_norm HO1.out HO2.out 2 Zpo.out) (by omega) (by omega)).mono ?_
    rw [HK1.out]
    rintro e wd ⟨rfl, hb⟩
    have hs_wd : WC.heap.size ≤ wd.heap.size := hb.size
    replace k_N1_0 : wd.cell? ⟨wa.heap.size, 0, none⟩ = some (.bool (decide ((po).num < 0))) := (hb.cell (p := ⟨wa.heap.size, 0, none⟩) hl_N1).trans k_N1_0
    replace k_N1_1 : wd.cell? ⟨wa.heap.size, 1, none⟩ = some (.slice ro (nlen (po).num.natAbs) co) := (hb.cell (p := ⟨wa.heap.size, 1, none⟩) hl_N1).trans k_N1_1
    replace k_N1_2 : wd.cell? ⟨wa.heap.size, 2, none⟩ = some (.slice ro2 (nlen (po).den) co2) := (hb.cell (p := ⟨wa.heap.size, 2, none⟩) hl_N1).trans k_N1_2
    replace f_N1 : ∀ o, wd.frozen? ⟨wa.heap.size, o, none⟩ = false := fun o => (hb.frozen (p := ⟨wa.heap.size, o, none⟩) hl_N1).trans (f_N1 o)
    replace HX_N1 := Lib.hid (HX_N1.out.below hb)
    replace k_P_0 : wd.cell? ⟨wb.heap.size, 0, none⟩ = some (.bool (decide ((p).num < 0))) := (hb.cell (p := ⟨wb.heap.size, 0, none⟩) hl_P).trans k_P_0
    replace k_P_1 : wd.cell? ⟨wb.heap.size, 1, none⟩ = some (.slice rp (nlen (p).num.natAbs) cp) := (hb.cell (p := ⟨wb.heap.size, 1, none⟩) hl_P).trans k_P_1
    replace k_P_2 : wd.cell? ⟨wb.heap.size, 2, none⟩ = some (.slice rp2 (nlen (p).den) cp2) := (hb.cell (p := ⟨wb.heap.size, 2, none⟩) hl_P).trans k_P_2
    replace f_P : ∀ o, wd.frozen? ⟨wb.heap.size, o, none⟩ = false := fun o => (hb.frozen (p := ⟨wb.heap.size, o, none⟩) hl_P).trans (f_P o)
    replace HX_P := Lib.hid (HX_P.out.below hb)
    replace k_Q_0 : wd.cell? ⟨wc.heap.size, 0, none⟩ = some (.bool (decide ((r).num < 0))) := (hb.cell (p := ⟨wc.heap.size, 0, none⟩) hl_Q).trans k_Q_0
    replace k_Q_1 : wd.cell? ⟨wc.heap.size, 1, none⟩ = some (.slice rr (nlen (r).num.natAbs) cr) := (hb.cell (p := ⟨wc.heap.size, 1, none⟩) hl_Q).trans k_Q_1
    replace k_Q_2 : wd.cell? ⟨wc.heap.size, 2, none⟩ = some (.slice rr2 (nlen (r).den) cr2) := (hb.cell (p := ⟨wc.heap.size, 2, none⟩) hl_Q).trans k_Q_2
    replace f_Q : ∀ o, wd.frozen? ⟨wc.heap.size, o, none⟩ = false := fun o => (hb.frozen (p := ⟨wc.heap.size, o, none⟩) hl_Q).trans (f_Q o)
    replace HX_Q := Lib.hid (HX_Q.out.below hb)
    replace HO1 := Lib.hid (HO1.out.below hb)
    replace HO2 := Lib.hid (HO2.out.below hb)
    replace HP1 := Lib.hid (HP1.out.below hb)
    replace HP2 := Lib.hid (HP2.out.below hb)
    replace HR1 := Lib.hid (HR1.out.below hb)
    replace HR2 := Lib.hid (HR2.out.below hb)
    replace HB := Lib.hid (HB.out.trans (hb.mono hs0))
    replace hN : N ≤ wd.heap.size := Nat.le_trans hN hb.size
    replace hs0 : w.heap.size ≤ wd.heap.size := Nat.le_trans hs0 hb.size
    replace hl_N1 : wa.heap.size < wd.heap.size := Nat.lt_of_lt_of_le hl_N1 hb.size
    replace hl_P : wb.heap.size < wd.heap.size := Nat.lt_of_lt_of_le hl_P hb.size
    replace hl_Q : wc.heap.size < wd.heap.size := Nat.lt_of_lt_of_le hl_Q hb.size
    replace HTab := Lib.hid (HTab.out.below hb)
    clear hb
    go_wp2_with fail
    refine (rsign_any (N := N) _ _ _ _ _ _ _ 2000 p _ hN (Rt.of_norm HP1.out HP2.out 2000 Zp.out)).mono ?_
    rw [HSG.out]
    rintro e we ⟨rfl, hb⟩
    have hs_we : wd.heap.size ≤ we.heap.size := hb.size
    replace k_N1_0 : we.cell? ⟨wa.heap.size, 0, none⟩ = some (.bool (decide ((po).num < 0))) := (hb.cell (p := ⟨wa.heap.size, 0, none⟩) hl_N1).trans k_N1_0
    replace k_N1_1 : we.cell? ⟨wa.heap.size, 1, none⟩ = some (.slice ro (nlen (po).num.natAbs) co) := (hb.cell (p := ⟨wa.heap.size, 1, none⟩) hl_N1).trans k_N1_1
    replace k_N1_2 : we.cell? ⟨wa.heap.size, 2, none⟩ = some (.slice ro2 (nlen (po).den) co2) := (hb.cell (p := ⟨wa.heap.size, 2, none⟩) hl_N1).trans k_N1_2
    replace f_N1 : ∀ o, we.frozen? ⟨wa.heap.size, o, none⟩ = false := fun o => (hb.frozen (p := ⟨wa.heap.size, o, none⟩) hl_N1).trans (f_N1 o)
    replace HX_N1 := Lib.hid (HX_N1.out.below hb)
    replace k_P_0 : we.cell? ⟨wb.heap.size, 0, none⟩ = some (.bool (decide ((p).num < 0))) := (hb.cell (p := ⟨wb.heap.size, 0, none⟩) hl_P).trans k_P_0
    replace k_P_1 : we.cell? ⟨wb.heap.size, 1, none⟩ = some (.slice rp (nlen (p).num.natAbs) cp) := (hb.cell (p := ⟨wb.heap.size, 1, none⟩) hl_P).trans k_P_1
    replace k_P_2 : we.cell? ⟨wb.heap.size, 2, none⟩ = some (.slice rp2 (nlen (p).den) cp2) := (hb.cell (p := ⟨wb.heap.size, 2, none⟩) hl_P).trans k_P_2
    replace f_P : ∀ o, we.frozen? ⟨wb.heap.size, o, none⟩ = false := fun o => (hb.frozen (p := ⟨wb.heap.size, o, none⟩) hl_P).trans (f_P o)
    replace HX_P := Lib.hid (HX_P.out.below hb)
    replace k_Q_0 : we.cell? ⟨wc.heap.size, 0, none⟩ = some (.bool (decide ((r).num < 0))) := (hb.cell (p := ⟨wc.heap.size, 0, none⟩) hl_Q).trans k_Q_0
    replace k_Q_1 : we.cell? ⟨wc.heap.size, 1, none⟩ = some (.slice rr (nlen (r).num.natAbs) cr) := (hb.cell (p := ⟨wc.heap.size, 1, none⟩) hl_Q).trans k_Q_1
    replace k_Q_2 : we.cell? ⟨wc.heap.size, 2, none⟩ = some (.slice rr2 (nlen (r).den) cr2) := (hb.cell (p := ⟨wc.heap.size, 2, none⟩) hl_Q).trans k_Q_2
    replace f_Q : ∀ o, we.frozen? ⟨wc.heap.size, o, none⟩ = false := fun o => (hb.frozen (p := ⟨wc.heap.size, o, none⟩) hl_Q).trans (f_Q o)
    replace HX_Q := Lib.hid (HX_Q.out.below hb)
    replace HO1 := Lib.hid (HO1.out.below hb)
    replace HO2 := Lib.hid (HO2.out.below hb)
    replace HP1 := Lib.hid (HP1.out.below hb)
    replace HP2 := Lib.hid (HP2.out.below hb)
    replace HR1 := Lib.hid (HR1.out.below hb)
    replace HR2 := Lib.hid (HR2.out.below hb)
    replace HB := Lib.hid (HB.out.trans (hb.mono hs0))
    replace hN : N ≤ we.heap.size := Nat.le_trans hN hb.size
    replace hs0 : w.heap.size ≤ we.heap.size := Nat.le_trans hs0 hb.size
    replace hl_N1 : wa.heap.size < we.heap.size := Nat.lt_of_lt_of_le hl_N1 hb.size
    replace hl_P : wb.heap.size < we.heap.size := Nat.lt_of_lt_of_le hl_P hb.size
    replace hl_Q : wc.heap.size < we.heap.size := Nat.lt_of_lt_of_le hl_Q hb.size
    replace HTab := Lib.hid (HTab.out.below hb)
    clear hb
    go_wp2_with fail
    refine (ratPrint_any (N := N) _ _ _ _ _ _ _ 2000 p _ hN (Rt.of_norm HP1.out HP2.out 2000 Zp.out) (by omega) (HTab.out)).mono ?_
    rintro e wf ⟨l, rfl, l0, _, hb⟩
    have hs_wf : we.heap.size ≤ wf.heap.size := hb.size
    replace k_N1_0 : wf.cell? ⟨wa.heap.size, 0, none⟩ = some (.bool (decide ((po).num < 0))) := (hb.cell (p := ⟨wa.heap.size, 0, none⟩) hl_N1).trans k_N1_0
    replace k_N1_1 : wf.cell? ⟨wa.heap.size, 1, none⟩ = some (.slice ro (nlen (po).num.natAbs) co) := (hb.cell (p := ⟨wa.heap.size, 1, none⟩) hl_N1).trans k_N1_1
    replace k_N1_2 : wf.cell? ⟨wa.heap.size, 2, none⟩ = some (.slice ro2 (nlen (po).den) co2) := (hb.cell (p := ⟨wa.heap.size, 2, none⟩) hl_N1).trans k_N1_2
    replace f_N1 : ∀ o, wf.frozen? ⟨wa.heap.size, o, none⟩ = false := fun o => (hb.frozen (p := ⟨wa.heap.size, o, none⟩) hl_N1).trans (f_N1 o)
    replace HX_N1 := Lib.hid (HX_N1.out.below hb)
    replace k_P_0 : wf.cell? ⟨wb.heap.size, 0, none⟩ = some (.bool (decide ((p).num < 0))) := (hb.cell (p := ⟨wb.heap.size, 0, none⟩) hl_P).trans k_P_0
    replace k_P_1 : wf.cell? ⟨wb.heap.size, 1, none⟩ = some (.slice rp (nlen (p).num.natAbs) cp) := (hb.cell (p := ⟨wb.heap.size, 1, none⟩) hl_P).trans k_P_1
    replace k_P_2 : wf.cell? ⟨wb.heap.size, 2, none⟩ = some (.slice rp2 (nlen (p).den) cp2) := (hb.cell (p := ⟨wb.heap.size, 2, none⟩) hl_P).trans k_P_2
    replace f_P : ∀ o, wf.frozen? ⟨wb.heap.size, o, none⟩ = false := fun o => (hb.frozen (p := ⟨wb.heap.size, o, none⟩) hl_P).trans (f_P o)
    replace HX_P := Lib.hid (HX_P.out.below hb)
    replace k_Q_0 : wf.cell? ⟨wc.heap.size, 0, none⟩ = some (.bool (decide ((r).num < 0))) := (hb.cell (p := ⟨wc.heap.size, 0, none⟩) hl_Q).trans k_Q_0
    replace k_Q_1 : wf.cell? ⟨wc.heap.size, 1, none⟩ = some (.slice rr (nlen (r).num.natAbs) cr) := (hb.cell (p := ⟨wc.heap.size, 1, none⟩) hl_Q).trans k_Q_1
    replace k_Q_2 : wf.cell? ⟨wc.heap.size, 2, none⟩ = some (.slice rr2 (nlen (r).den) cr2) := (hb.cell (p := ⟨wc.heap.size, 2, none⟩) hl_Q).trans k_Q_2
    replace f_Q : ∀ o, wf.frozen? ⟨wc.heap.size, o, none⟩ = false := fun o => (hb.frozen (p := ⟨wc.heap.size, o, none⟩) hl_Q).trans (f_Q o)
    replace HX_Q := Lib.hid (HX_Q.out.below hb)
    replace HO1 := Lib.hid (HO1.out.below hb)
    replace HO2 := Lib.hid (HO2.out.below hb)
    replace HP1 := Lib.hid (HP1.out.below hb)
    replace HP2 := Lib.hid (HP2.out.below hb)
    replace HR1 := Lib.hid (HR1.out.below hb)
    replace HR2 := Lib.hid (HR2.out.below hb)
    replace HB := Lib.hid (HB.out.trans (hb.mono hs0))
    replace hN : N ≤ wf.heap.size := Nat.le_trans hN hb.size
    replace hs0 : w.heap.size ≤ wf.heap.size := Nat.le_trans hs0 hb.size
    replace hl_N1 : wa.heap.size < wf.heap.size := Nat.lt_of_lt_of_le hl_N1 hb.size
    replace hl_P : wb.heap.size < wf.heap.size := Nat.lt_of_lt_of_le hl_P hb.size
    replace hl_Q : wc.heap.size < wf.heap.size := Nat.lt_of_lt_of_le hl_Q hb.size
    replace HTab := Lib.hid (HTab.out.below hb)
    clear hb
    obtain ⟨sv, hsv⟩ : ∃ sv : ByteArray, (⟨l.toArray⟩ : ByteArray) = sv := ⟨_, rfl⟩
    rw [hsv]
    have hne : sv.toList ≠ [] := by rw [← hsv, ByteArray.toList_eq]; intro e; rw [show l = [] by simpa using e] at l0; exact absurd l0 (by decide)
    have hs1 : (sv.toList == []) = false := by simpa using hne
    have hs2 : sv.toList.isEmpty = false := by simpa using hne
    have hs3 : (sv.toList == ByteArray.toList ⟨#[]⟩) = false := by rw [ByteArray.toList_eq ⟨#[]⟩]; simpa using hne
    clear hsv hne l0
    by_cases hz : g1 = 0
    · have z1 : ((g1 : Int) == 0) = true := by simp; omega
      have z2 : (g1 == 0) = true := by simp; omega
      obtain rfl : p = po := hq1 hz
      clear hq1 hz
      go_wp2_with fail
      refine (same31_any (N := N) _ _ _ _ _ _ p.num.natAbs _ p.den _ _ _ _ _ HP1.out HP2.out HO1.out HO2.out).mono ?_
      rintro e wg ⟨rfl, hb⟩
      have hs_wg : wf.heap.size ≤ wg.heap.size := hb.size
      replace k_N1_0 : wg.cell? ⟨wa.heap.size, 0, none⟩ = some (.bool (decide ((p).num < 0))) := (hb.cell (p := ⟨wa.heap.size, 0, none⟩) hl_N1).trans k_N1_0
      replace k_N1_1 : wg.cell? ⟨wa.heap.size, 1, none⟩ = some (.slice ro (nlen (p).num.natAbs) co) := (hb.cell (p := ⟨wa.heap.size, 1, none⟩) hl_N1).trans k_N1_1
      replace k_N1_2 : wg.cell? ⟨wa.heap.size, 2, none⟩ = some (.slice ro2 (nlen (p).den) co2) := (hb.cell (p := ⟨wa.heap.size, 2, none⟩) hl_N1).trans k_N1_2
      replace f_N1 : ∀ o, wg.frozen? ⟨wa.heap.size, o, none⟩ = false := fun o => (hb.frozen (p := ⟨wa.heap.size, o, none⟩) hl_N1).trans (f_N1 o)
      replace HX_N1 := Lib.hid (HX_N1.out.below hb)
      replace k_P_0 : wg.cell? ⟨wb.heap.size, 0, none⟩ = some (.bool (decide ((p).num < 0))) := (hb.cell (p := ⟨wb.heap.size, 0, none⟩) hl_P).trans k_P_0
      replace k_P_1 : wg.cell? ⟨wb.heap.size, 1, none⟩ = some (.slice rp (nlen (p).num.natAbs) cp) := (hb.cell (p := ⟨wb.heap.size, 1, none⟩) hl_P).trans k_P_1
      replace k_P_2 : wg.cell? ⟨wb.heap.size, 2, none⟩ = some (.slice rp2 (nlen (p).den) cp2) := (hb.cell (p := ⟨wb.heap.size, 2, none⟩) hl_P).trans k_P_2
      replace f_P : ∀ o, wg.frozen? ⟨wb.heap.size, o, none⟩ = false := fun o => (hb.frozen (p := ⟨wb.heap.size, o, none⟩) hl_P).trans (f_P o)
      replace HX_P := Lib.hid (HX_P.out.below hb)
      replace k_Q_0 : wg.cell? ⟨wc.heap.size, 0, none⟩ = some (.bool (decide ((r).num < 0))) := (hb.cell (p := ⟨wc.heap.size, 0, none⟩) hl_Q).trans k_Q_0
      replace k_Q_1 : wg.cell? ⟨wc.heap.size, 1, none⟩ = some (.slice rr (nlen (r).num.natAbs) cr) := (hb.cell (p := ⟨wc.heap.size, 1, none⟩) hl_Q).trans k_Q_1
      replace k_Q_2 : wg.cell? ⟨wc.heap.size, 2, none⟩ = some (.slice rr2 (nlen (r).den) cr2) := (hb.cell (p := ⟨wc.heap.size, 2, none⟩) hl_Q).trans k_Q_2
      replace f_Q : ∀ o, wg.frozen? ⟨wc.heap.size, o, none⟩ = false := fun o => (hb.frozen (p := ⟨wc.heap.size, o, none⟩) hl_Q).trans (f_Q o)
      replace HX_Q := Lib.hid (HX_Q.out.below hb)
      replace HO1 := Lib.hid (HO1.out.below hb)
      replace HO2 := Lib.hid (HO2.out.below hb)
      replace HP1 := Lib.hid (HP1.out.below hb)
      replace HP2 := Lib.hid (HP2.out.below hb)
      replace HR1 := Lib.hid (HR1.out.below hb)
      replace HR2 := Lib.hid (HR2.out.below hb)
      replace HB := Lib.hid (HB.out.trans (hb.mono hs0))
      replace hN : N ≤ wg.heap.size := Nat.le_trans hN hb.size
      replace hs0 : w.heap.size ≤ wg.heap.size := Nat.le_trans hs0 hb.size
      replace hl_N1 : wa.heap.size < wg.heap.size := Nat.lt_of_lt_of_le hl_N1 hb.size
      replace hl_P : wb.heap.size < wg.heap.size := Nat.lt_of_lt_of_le hl_P hb.size
      replace hl_Q : wc.heap.size < wg.heap.size := Nat.lt_of_lt_of_le hl_Q hb.size
      replace HTab := Lib.hid (HTab.out.below hb)
      clear hb
      by_cases hlt : g1 < g2
      · have e1 : decide ((g1 : Int) < (g2 : Int)) = true := by simp; omega
        have e2 : decide (g1 < g2) = true := by simp; omega
        clear d3
        go_wp2_with fail
        go_ret
        exact ⟨rfl, HB.out⟩
      · have e1 : decide ((g1 : Int) < (g2 : Int)) = false := by simp; omega
        have e2 : decide (g1 < g2) = false := by simp; omega
        have d3' := d3 hlt
        clear d3
        go_wp2_with fail
        refine (rcmp_any (N := N) _ _ _ _ _ _ _ _ _ _ _ _ _ _ 2000 2000 p r _ hN (Rt.of_norm HP1.out HP2.out 2000 Zp.out) (Rt.of_norm HR1.out HR2.out 2000 Zr.out) (by omega) (by omega)).mono ?_
        rw [HK2.out]
        rintro e wh ⟨rfl, hb⟩
        have hs_wh : wg.heap.size ≤ wh.heap.size := hb.size
        replace k_N1_0 : wh.cell? ⟨wa.heap.size, 0, none⟩ = some (.bool (decide ((p).num < 0))) := (hb.cell (p := ⟨wa.heap.size, 0, none⟩) hl_N1).trans k_N1_0
        replace k_N1_1 : wh.cell? ⟨wa.heap.size, 1, none⟩ = some (.slice ro (nlen (p).num.natAbs) co) := (hb.cell (p := ⟨wa.heap.size, 1, none⟩) hl_N1).trans k_N1_1
        replace k_N1_2 : wh.cell? ⟨wa.heap.size, 2, none⟩ = some (.slice ro2 (nlen (p).den) co2) := (hb.cell (p := ⟨wa.heap.size, 2, none⟩) hl_N1).trans k_N1_2
        replace f_N1 : ∀ o, wh.frozen? ⟨wa.heap.size, o, none⟩ = false := fun o => (hb.frozen (p := ⟨wa.heap.size, o, none⟩) hl_N1).trans (f_N1 o)
        replace HX_N1 := Lib.hid (HX_N1.out.below hb)
        replace k_P_0 : wh.cell? ⟨wb.heap.size, 0, none⟩ = some (.bool (decide ((p).num < 0))) := (hb.cell (p := ⟨wb.heap.size, 0, none⟩) hl_P).trans k_P_0
        replace k_P_1 : wh.cell? ⟨wb.heap.size, 1, none⟩ = some (.slice rp (nlen (p).num.natAbs) cp) := (hb.cell (p := ⟨wb.heap.size, 1, none⟩) hl_P).trans k_P_1
        replace k_P_2 : wh.cell? ⟨wb.heap.size, 2, none⟩ = some (.slice rp2 (nlen (p).den) cp2) := (hb.cell (p := ⟨wb.heap.size, 2, none⟩) hl_P).trans k_P_2
        replace f_P : ∀ o, wh.frozen? ⟨wb.heap.size, o, none⟩ = false := fun o => (hb.frozen (p := ⟨wb.heap.size, o, none⟩) hl_P).trans (f_P o)
        replace HX_P := Lib.hid (HX_P.out.below hb)
        replace k_Q_0 : wh.cell? ⟨wc.heap.size, 0, none⟩ = some (.bool (decide ((r).num < 0))) := (hb.cell (p := ⟨wc.heap.size, 0, none⟩) hl_Q).trans k_Q_0
        replace k_Q_1 : wh.cell? ⟨wc.heap.size, 1, none⟩ = some (.slice rr (nlen (r).num.natAbs) cr) := (hb.cell (p := ⟨wc.heap.size, 1, none⟩) hl_Q).trans k_Q_1
        replace k_Q_2 : wh.cell? ⟨wc.heap.size, 2, none⟩ = some (.slice rr2 (nlen (r).den) cr2) := (hb.cell (p := ⟨wc.heap.size, 2, none⟩) hl_Q).trans k_Q_2
        replace f_Q : ∀ o, wh.frozen? ⟨wc.heap.size, o, none⟩ = false := fun o => (hb.frozen (p := ⟨wc.heap.size, o, none⟩) hl_Q).trans (f_Q o)
        replace HX_Q := Lib.hid (HX_Q.out.below hb)
        replace HO1 := Lib.hid (HO1.out.below hb)
        replace HO2 := Lib.hid (HO2.out.below hb)
        replace HP1 := Lib.hid (HP1.out.below hb)
        replace HP2 := Lib.hid (HP2.out.below hb)
        replace HR1 := Lib.hid (HR1.out.below hb)
        replace HR2 := Lib.hid (HR2.out.below hb)
        replace HB := Lib.hid (HB.out.trans (hb.mono hs0))
        replace hN : N ≤ wh.heap.size := Nat.le_trans hN hb.size
        replace hs0 : w.heap.size ≤ wh.heap.size := Nat.le_trans hs0 hb.size
        replace hl_N1 : wa.heap.size < wh.heap.size := Nat.lt_of_lt_of_le hl_N1 hb.size
        replace hl_P : wb.heap.size < wh.heap.size := Nat.lt_of_lt_of_le hl_P hb.size
        replace hl_Q : wc.heap.size < wh.heap.size := Nat.lt_of_lt_of_le hl_Q hb.size
        replace HTab := Lib.hid (HTab.out.below hb)
        clear hb
        go_wp2_with fail
        go_ret
        exact ⟨rfl, HB.out⟩
    · have z1 : ((g1 : Int) == 0) = false := by simp; omega
      have z2 : (g1 == 0) = false := by simp; omega
      clear hq1 hz
      by_cases hlt : g1 < g2
      · have e1 : decide ((g1 : Int) < (g2 : Int)) = true := by simp; omega
        have e2 : decide (g1 < g2) = true := by simp; omega
        clear d3
        go_wp2_with fail
        go_ret
        exact ⟨rfl, HB.out⟩
      · have e1 : decide ((g1 : Int) < (g2 : Int)) = false := by simp; omega
        have e2 : decide (g1 < g2) = false := by simp; omega
        have d3' := d3 hlt
        clear d3
        go_wp2_with fail
        refine (rcmp_any (N := N) _ _ _ _ _ _ _ _ _ _ _ _ _ _ 2000 2000 p r _ hN (Rt.of_norm HP1.out HP2.out 2000 Zp.out) (Rt.of_norm HR1.out HR2.out 2000 Zr.out) (by omega) (by omega)).mono ?_
        rw [HK2.out]
        rintro e wh ⟨rfl, hb⟩
        have hs_wh : wf.heap.size ≤ wh.heap.size := hb.size
        replace k_N1_0 : wh.cell? ⟨wa.heap.size, 0, none⟩ = some (.bool (decide ((po).num < 0))) := (hb.cell (p := ⟨wa.heap.size, 0, none⟩) hl_N1).trans k_N1_0
        replace k_N1_1 : wh.cell? ⟨wa.heap.size, 1, none⟩ = some (.slice ro (nlen (po).num.natAbs) co) := (hb.cell (p := ⟨wa.heap.size, 1, none⟩) hl_N1).trans k_N1_1
        replace k_N1_2 : wh.cell? ⟨wa.heap.size, 2, none⟩ = some (.slice ro2 (nlen (po).den) co2) := (hb.cell (p := ⟨wa.heap.size, 2, none⟩) hl_N1).trans k_N1_2
        replace f_N1 : ∀ o, wh.frozen? ⟨wa.heap.size, o, none⟩ = false := fun o => (hb.frozen (p := ⟨wa.heap.size, o, none⟩) hl_N1).trans (f_N1 o)
        replace HX_N1 := Lib.hid (HX_N1.out.below hb)
        replace k_P_0 : wh.cell? ⟨wb.heap.size, 0, none⟩ = some (.bool (decide ((p).num < 0))) := (hb.cell (p := ⟨wb.heap.size, 0, none⟩) hl_P).trans k_P_0
        replace k_P_1 : wh.cell? ⟨wb.heap.size, 1, none⟩ = some (.slice rp (nlen (p).num.natAbs) cp) := (hb.cell (p := ⟨wb.heap.size, 1, none⟩) hl_P).trans k_P_1
        replace k_P_2 : wh.cell? ⟨wb.heap.size, 2, none⟩ = some (.slice rp2 (nlen (p).den) cp2) := (hb.cell (p := ⟨wb.heap.size, 2, none⟩) hl_P).trans k_P_2
        replace f_P : ∀ o, wh.frozen? ⟨wb.heap.size, o, none⟩ = false := fun o => (hb.frozen (p := ⟨wb.heap.size, o, none⟩) hl_P).trans (f_P o)
        replace HX_P := Lib.hid (HX_P.out.below hb)
        replace k_Q_0 : wh.cell? ⟨wc.heap.size, 0, none⟩ = some (.bool (decide ((r).num < 0))) := (hb.cell (p := ⟨wc.heap.size, 0, none⟩) hl_Q).trans k_Q_0
        replace k_Q_1 : wh.cell? ⟨wc.heap.size, 1, none⟩ = some (.slice rr (nlen (r).num.natAbs) cr) := (hb.cell (p := ⟨wc.heap.size, 1, none⟩) hl_Q).trans k_Q_1
        replace k_Q_2 : wh.cell? ⟨wc.heap.size, 2, none⟩ = some (.slice rr2 (nlen (r).den) cr2) := (hb.cell (p := ⟨wc.heap.size, 2, none⟩) hl_Q).trans k_Q_2
        replace f_Q : ∀ o, wh.frozen? ⟨wc.heap.size, o, none⟩ = false := fun o => (hb.frozen (p := ⟨wc.heap.size, o, none⟩) hl_Q).trans (f_Q o)
        replace HX_Q := Lib.hid (HX_Q.out.below hb)
        replace HO1 := Lib.hid (HO1.out.below hb)
        replace HO2 := Lib.hid (HO2.out.below hb)
        replace HP1 := Lib.hid (HP1.out.below hb)
        replace HP2 := Lib.hid (HP2.out.below hb)
        replace HR1 := Lib.hid (HR1.out.below hb)
        replace HR2 := Lib.hid (HR2.out.below hb)
        replace HB := Lib.hid (HB.out.trans (hb.mono hs0))
        replace hN : N ≤ wh.heap.size := Nat.le_trans hN hb.size
        replace hs0 : w.heap.size ≤ wh.heap.size := Nat.le_trans hs0 hb.size
        replace hl_N1 : wa.heap.size < wh.heap.size := Nat.lt_of_lt_of_le hl_N1 hb.size
        replace hl_P : wb.heap.size < wh.heap.size := Nat.lt_of_lt_of_le hl_P hb.size
        replace hl_Q : wc.heap.size < wh.heap.size := Nat.lt_of_lt_of_le hl_Q hb.size
        replace HTab := Lib.hid (HTab.out.below hb)
        clear hb
        go_wp2_with fail
        go_ret
        exact ⟨rfl, HB.out⟩
set_option maxRecDepth 100000 in
set_option maxHeartbeats 4000000 in
theorem pat_len {N : Nat} (ax ay a : Option Addr) (m k n cx cy ca : Nat) (_x _y : Nat → Bool) (q : Nat → Rat) (ln ld : Nat → Nat) (w : World) (_hN : N ≤ w.heap.size) (h : Ru N w a n ca q ln ld) (_hm : m ≤ maxLen) (_hk : k ≤ maxLen) (hne : ¬ (m = n ∧ k = n)) :
    Calls Tryd.prog 3 #[.slice ax m cx, .slice ay k cy, .slice a n ca] w fun e w' => e = .returned (.bool true) ∧ Below w.heap.size w w' := by
  have HU := Lib.hid h
  have bc := h.1
  have bm := h.2.1
  unfold maxLen at bm
  clear h
  by_cases hmn : m = n
  · subst hmn
    have e1 : decide (k = m) = false := by simp; omega
    have e2 : (k == m) = false := by simp; omega
    have e3 : ((k : Int) == (m : Int)) = false := by simp; omega
    go_enter Tryd.func3, Tryd.ntmps3
    go_wp2_with fail
    refine (heavy_any (N := N) _ _ _ q ln ld _ HU.out).mono ?_
    rintro e w' ⟨b, rfl, rfl, hv⟩
    clear hv
    cases b
    all_goals
      go_wp2_with fail
      go_ret
      exact ⟨rfl, Below.refl _ _⟩
  · have e1 : decide (m = n) = false := by simp; omega
    have e2 : (m == n) = false := by simp; omega
    have e3 : ((m : Int) == (n : Int)) = false := by simp; omega
    go_enter Tryd.func3, Tryd.ntmps3
    go_wp2_with fail
    refine (heavy_any (N := N) _ _ _ q ln ld _ HU.out).mono ?_
    rintro e w' ⟨b, rfl, rfl, hv⟩
    clear hv
    cases b
    all_goals
      go_wp2_with fail
      go_ret
      exact ⟨rfl, Below.refl _ _⟩

end Go.Proofs.YtjobopafcgnljaaDoor
