/- ExposureCap returns true for every input; no condition. -/
import Derived.Test.YtmljfaplohbjcaaRecW
import Derived.Test.YtmljfaplohbjcaaOrdP
import Derived.Test.YtmljfaplohbjcaaFrP
import Derived.Test.YtmljfaplohbjcaaExpB
namespace Go.Proofs.Ytmljfaplohbjcaa
open Go.RowKit Go.ChangeShapes Go.WideShapes Go.ChangeAt Go.Deep

theorem rcmp_is {N : Nat} (s : Bool) (a d : Option Addr) (na ca nd cd L : Nat) (q p : Rat) (u : Value) (w : World) (hN : N ≤ w.heap.size) (h : Rt N w s a na ca d nd cd q L) (hL : L ≤ 68719476736) (hu : IsRat N p u w) (hz : rsz p ≤ 21) (κ : Int) (hk : cmpQ q p = κ) :
    Calls Try.prog 15 #[.agg #[.bool s, .slice a na ca, .slice d nd cd], u] w fun e w' => e = .returned (.int .i64 κ) ∧ Below w.heap.size w w' := by
  obtain ⟨r, c, r2, c2, rfl, h1, h2⟩ := hu
  rw [← hk]
  exact rcmp_any (N := N) s _ a d _ _ na ca nd cd _ _ _ _ L 21 q p w hN h (Rt.of_norm h1 h2 21 hz) hL (by decide)
/-- a slice of truth values -/
def Bz (w : World) (a : Option Addr) (n cap : Nat) (f : Nat → Bool) : Prop :=
  n ≤ cap ∧ cap ≤ maxLen ∧ (0 < n → ∃ b off, a = some ⟨b, off, none⟩ ∧ ∀ i, i < n → w.cell? ⟨b, off + i, none⟩ = some (.bool (f i)))
theorem Bz.below {w w' : World} {a : Option Addr} {n cap : Nat} {f : Nat → Bool} (h : Bz w a n cap f) (hb : Below w.heap.size w w') : Bz w' a n cap f := by
  obtain ⟨h1, h2, h3⟩ := h
  refine ⟨h1, h2, fun hn => ?_⟩
  obtain ⟨b, off, e, hc⟩ := h3 hn
  exact ⟨b, off, e, fun j hj => cell_mono (hc j hj) hb⟩
theorem sg_lt (q : Rat) (h : q < 0) : q.num.sign < 0 := by
  have h1 : q.num < 0 := by
    rcases Int.lt_or_le q.num 0 with h1 | h1
    · exact h1
    · have := Rat.num_nonneg.1 h1; grind
  rw [Int.sign_eq_neg_one_of_neg h1]; decide
theorem sg_ge (q : Rat) (h : ¬ q.num.sign < 0) : 0 ≤ q := by
  by_cases h0 : q < 0
  · exact absurd (sg_lt q h0) h
  · grind
/-- the uses of the one item -/
def repL (c : Int) : List (Int × Int) := if c = 0 then [] else [(7, c)]
def itR (c : Int) : Nat → Int := fun j => ((repL c).getD j (0, 0)).1
def ctR (c : Int) : Nat → Int := fun j => ((repL c).getD j (0, 0)).2
theorem repL_len (c : Int) : (repL c).length ≤ 1 := by unfold repL; split <;> simp
theorem repL_cnt (c x : Int) (h0 : 0 ≤ c) (h1 : c ≤ 1000000) : cntN (itR c) (ctR c) x (repL c).length = if x = 7 then c else 0 := by
  unfold itR ctR
  by_cases e : c = 0
  · subst e; simp [repL, cntN]
  · by_cases e2 : x = 7
    · subst e2
      simp [repL, e, cntN]
      unfold lim; omega
    · have e3 : ¬ (7 : Int) = x := fun h => e2 h.symm
      simp [repL, e, cntN, e2, e3]
theorem repL_64 (c : Int) : ∀ i, i < (repL c).length → W64 (itR c i) := by
  intro i hi
  have h1 := repL_len c
  obtain rfl : i = 0 := by omega
  have hc : c ≠ 0 := by rintro rfl; simp [repL] at hi
  simp [itR, repL, hc, W64]
theorem repL_rec (c : Int) (h0 : 0 ≤ c) (h1 : c < 1000000) : RecL (recF (cntF (itR c) (ctR c) (repL c).length) (fun _ => 7) 1) (repL (c + 1)) := by
  have e : c + 1 ≠ 0 := by omega
  have hF : ∀ x, recF (cntF (itR c) (ctR c) (repL c).length) (fun _ => 7) 1 x = if x = 7 then c + 1 else 0 := by
    intro x
    unfold recF cntF
    rw [repL_cnt c x h0 (by omega)]
    by_cases e2 : x = 7
    · subst e2
      have hb : hasB (fun _ => 7) 1 7 = true := hasB_iff.2 ⟨0, by omega, rfl⟩
      rw [hb]; simp; unfold lim; omega
    · have hb : hasB (fun _ => 7) 1 x = false := hasB_false.2 fun i hi h => e2 h.symm
      rw [hb]; simp [e2]
  rw [show repL (c + 1) = [(7, c + 1)] from if_neg e]
  refine ⟨by simp, fun x d => ?_⟩
  rw [hF]
  constructor
  · intro h
    have h := List.mem_singleton.1 h
    cases h
    exact ⟨by unfold W64; omega, by simp, by omega⟩
  · rintro ⟨_, b, d0⟩
    by_cases e2 : x = 7
    · subst e2; simp at b; subst b; exact List.mem_singleton.2 rfl
    · simp [e2] at b; omega
theorem cap_step {q : Rat} {c k s : Int} (hq : 0 ≤ q) (h : (c : Rat) ≤ q * ((k + s : Int) : Rat)) : (c : Rat) ≤ q * ((k + 1 + s : Int) : Rat) :=
  Rat.le_trans h (Rat.mul_le_mul_of_nonneg_left (Rat.intCast_le_intCast.2 (by omega)) hq)
theorem elig_cap {q : Rat} {c k s : Int} (h : elig c k q s = true) (c0 : 0 ≤ c) (c1 : c ≤ 1000000) (k0 : 0 ≤ k) (k1 : k ≤ 1000000) (s0 : 0 ≤ s) (s1 : s ≤ 1000000) : ((c + 1 : Int) : Rat) ≤ q * ((k + 1 + s : Int) : Rat) := by
  unfold elig at h
  rw [lim_id c c0 c1, lim_id k k0 k1, lim_id s s0 s1] at h
  exact of_decide_eq_true h
theorem cmp_cap {p r : Rat} (h : p ≤ r) : ¬ (0 : Int) < cmpQ p r := by
  have := cmpQ_le p r
  rw [decide_eq_true h] at this
  have := of_decide_eq_true this
  omega
theorem rat_one (c : Int) (p : Rat) (hp : (c : Rat) / ((1 : Int) : Rat) = p) : p = (c : Rat) := by rw [← hp]; grind
theorem cap_zero {q : Rat} {s : Int} (hq : 0 ≤ q) (hs : 0 ≤ s) : ((0 : Int) : Rat) ≤ q * ((((0 : Nat) : Int) + s : Int) : Rat) := by
  have h1 : (0 : Rat) ≤ ((((0 : Nat) : Int) + s : Int) : Rat) := by
    have := Rat.intCast_le_intCast.2 (show (0 : Int) ≤ ((0 : Nat) : Int) + s by omega)
    simpa using this
  have := Rat.mul_nonneg hq h1
  simpa using this
theorem zs_seven {w : World} {g : Nat} (h : w.cell? ⟨g, 0, none⟩ = some (.int .i64 7)) : Zs w (some ⟨g, 0, none⟩) 1 1 (fun _ => 7) :=
  ⟨Nat.le_refl _, by decide, fun _ => ⟨g, 0, rfl, fun i hi => by obtain rfl : i = 0 := by omega
                                                                 exact h⟩⟩
theorem cap_post {c : Int} {ln : Nat} {e : Ending} {w : World} (h0 : 0 ≤ c) (h1 : c < 1000000) (hl : (repL c).length = ln) (h : RecPost (fun _ => 7) 1 (recF (cntF (itR c) (ctR c) ln) (fun _ => 7) 1) e w) :
    ∃ a cap, e = .returned (.tuple #[.slice a (repL (c + 1)).length cap, .int .i64 0]) ∧ Us w a (repL (c + 1)).length cap (itR (c + 1)) (ctR (c + 1)) := by
  subst hl
  rcases h with ⟨h2, _⟩ | ⟨_, h2, _⟩ | ⟨_, _, v, L, rfl, hu, hr⟩
  · exact absurd (fun i j hij hj => by omega) h2
  · exact absurd (fun i hi => by simp) h2
  · obtain rfl := hr.unique (repL_rec c h0 h1) (fun _ _ => rfl)
    obtain ⟨a, cap, rfl, hu⟩ := hu
    exact ⟨a, cap, rfl, hu⟩
def CapJ (N : Nat) (s : Bool) (a d : Option Addr) (na ca nd cd : Nat) (p1 p2 p3 : Rat) (rk rk2 rl rl2 : Option Addr) (ck ck2 cl cl2 : Nat) (κ : Int) (W : World) (z0 : Act) (L : Nat → Bool) (z1 : Act) (w : World) : Prop :=
  ∃ u94 u95 u96 u97 u98 u99 u100 u101 u102 u103 u104 u105 u106 u107, z1 = ((((((((((((((z0.put (some 94) u94).put (some 95) u95).put (some 96) u96).put (some 97) u97).put (some 98) u98).put (some 99) u99).put (some 100) u100).put (some 101) u101).put (some 102) u102).put (some 103) u103).put (some 104) u104).put (some 105) u105).put (some 106) u106).put (some 107) u107) ∧ Since W w ∧ (L 0 = true → u94 = .bool true) ∧ (L 1 = true → u95 = .bool false) ∧ (L 2 = true → u96 = .bool false) ∧ (L 3 = true → u97 = .bool true) ∧ (L 4 = true → u98 = .bool false) ∧ (L 5 = true → u99 = .bool false) ∧ (L 6 = true → u100 = .bool false) ∧ (L 7 = true → u101 = .agg #[.bool (decide ((p1).num < 0)), .slice rk (nlen (p1).num.natAbs) ck, .slice rk2 (nlen (p1).den) ck2]) ∧ (L 8 = true → u102 = .agg #[.bool s, .slice a na ca, .slice d nd cd]) ∧ (L 9 = true → u103 = .agg #[.bool (decide ((p2).num < 0)), .slice rl (nlen (p2).num.natAbs) cl, .slice rl2 (nlen (p2).den) cl2]) ∧ (L 10 = true → IsRat N p3 u104 w) ∧ (L 11 = true → u105 = .int .i64 κ) ∧ (L 12 = true → u106 = .bool false) ∧ (L 13 = true → u107 = .bool false)


set_option maxRecDepth 20000 in
set_option maxHeartbeats 16000000 in
theorem cap_walk {N : Nat} (s : Bool) (a d : Option Addr) (na ca nd cd : Nat) (slack : Int) (wa : Option Addr) (n wc : Nat) (f : Nat → Bool) (w : World) (mn md : Nat) (hN : N ≤ w.heap.size) (ha : Nt N w a na ca mn) (hd : Nt N w d nd cd md) (hw : Bz w wa n wc f) :
    Calls Try.prog 5 #[.agg #[.bool s, .slice a na ca, .slice d nd cd], .int .i64 slack, .slice wa n wc] w fun e w' => e = .returned (.bool true) ∧ Below w.heap.size w w' := by
  have HW := Lib.hid hw
  have b1 := hw.1
  have b2 := hw.2.1
  unfold maxLen at b2
  clear hw
  have HB := Lib.hid (Below.refl w.heap.size w)
  by_cases hl : 20 < na ∨ 20 < nd
  · have HLG := Lib.hid (show (decide (20 < na) || decide (20 < nd)) = true by simpa using hl)
    clear ha hd hl
    go_enter Try.func5, Try.ntmps5
    go_wp2_with fail
    refine calls_name fun W0 hW => ?_
    have hs_W0 : w.heap.size ≤ W0.heap.size := by rw [← hW]; (first | omega | (simp; done) | (simp; omega))
    have k_R_0 : W0.cell? ⟨w.heap.size, 0, none⟩ = some (.bool s) := by rw [← hW]; (first | (go_simp; done) | (simp; done) | (simp [go_sem]; done) | (simp [go_sem]; done))
    have k_R_1 : W0.cell? ⟨w.heap.size, 1, none⟩ = some (.slice a na ca) := by rw [← hW]; (first | (go_simp; done) | (simp; done) | (simp [go_sem]; done) | (simp [go_sem]; done))
    have k_R_2 : W0.cell? ⟨w.heap.size, 2, none⟩ = some (.slice d nd cd) := by rw [← hW]; (first | (go_simp; done) | (simp; done) | (simp [go_sem]; done) | (simp [go_sem]; done))
    have f_R : ∀ o, W0.frozen? ⟨w.heap.size, o, none⟩ = false := by intro o; rw [← hW]; (first | (go_simp; done) | (simp; done) | (simp [go_sem]; done) | (simp [go_sem]; done))
    have HX_R := Lib.hid (show Bn W0 (w.heap.size) by rw [← hW]; exact KpA)
    replace HB := Lib.hid (show Below w.heap.size w W0 by rw [← hW]; exact BlA)
    replace hN : N ≤ W0.heap.size := by rw [← hW]; (first | omega | (simp; done) | (simp; omega))
    have hs0 : w.heap.size ≤ W0.heap.size := by rw [← hW]; (first | omega | (simp; done) | (simp; omega))
    have hl_R : w.heap.size < W0.heap.size := by rw [← hW]; (first | omega | (simp; done) | (simp; omega))
    clear hW
    refine (large_any _ _ _ _ _ _ _ _).mono ?_
    rw [HLG.out]
    rintro e wa ⟨rfl, hb⟩
    have hs_wa : W0.heap.size ≤ wa.heap.size := hb.size
    replace k_R_0 : wa.cell? ⟨w.heap.size, 0, none⟩ = some (.bool s) := (hb.cell (p := ⟨w.heap.size, 0, none⟩) hl_R).trans k_R_0
    replace k_R_1 : wa.cell? ⟨w.heap.size, 1, none⟩ = some (.slice a na ca) := (hb.cell (p := ⟨w.heap.size, 1, none⟩) hl_R).trans k_R_1
    replace k_R_2 : wa.cell? ⟨w.heap.size, 2, none⟩ = some (.slice d nd cd) := (hb.cell (p := ⟨w.heap.size, 2, none⟩) hl_R).trans k_R_2
    replace f_R : ∀ o, wa.frozen? ⟨w.heap.size, o, none⟩ = false := fun o => (hb.frozen (p := ⟨w.heap.size, o, none⟩) hl_R).trans (f_R o)
    replace HX_R := Lib.hid (HX_R.out.below hb)
    replace HB := Lib.hid (HB.out.trans (hb.mono hs0))
    replace hN : N ≤ wa.heap.size := Nat.le_trans hN hb.size
    replace hs0 : w.heap.size ≤ wa.heap.size := Nat.le_trans hs0 hb.size
    replace hl_R : w.heap.size < wa.heap.size := Nat.lt_of_lt_of_le hl_R hb.size
    clear hb
    go_wp2_with fail
    go_ret
    exact ⟨rfl, HB.out⟩
  · have HLG := Lib.hid (show (decide (20 < na) || decide (20 < nd)) = false by simpa using hl)
    have HR := Lib.hid (show Rt N w s a na ca d nd cd (mkRat (zI s mn) md) 20 from ⟨by decide, by omega, by omega, mn, md, ha, hd, rfl⟩)
    clear ha hd hl
    obtain ⟨q, hq⟩ : ∃ q, mkRat (zI s mn) md = q := ⟨_, rfl⟩
    rw [hq] at HR
    clear hq
    obtain ⟨σ, hσ⟩ : ∃ σ, q.num.sign = σ := ⟨_, rfl⟩
    have HSG := Lib.hid hσ
    have hsig : ¬ σ < 0 → 0 ≤ q := fun h => sg_ge q (by rw [hσ]; exact h)
    have HSI := Lib.hid hsig
    clear hσ hsig
    go_enter Try.func5, Try.ntmps5
    go_wp2_with fail
    refine calls_name fun W0 hW => ?_
    have hs_W0 : w.heap.size ≤ W0.heap.size := by rw [← hW]; (first | omega | (simp; done) | (simp; omega))
    have HK_W0 := Lib.hid (show Kp N w W0 by rw [← hW]; exact KpA)
    have HL_W0 := Lib.hid (show Below w.heap.size w W0 by rw [← hW]; exact BlA)
    have k_R_0 : W0.cell? ⟨w.heap.size, 0, none⟩ = some (.bool s) := by rw [← hW]; (first | (go_simp; done) | (simp; done) | (simp [go_sem]; done) | (simp [go_sem]; done))
    have k_R_1 : W0.cell? ⟨w.heap.size, 1, none⟩ = some (.slice a na ca) := by rw [← hW]; (first | (go_simp; done) | (simp; done) | (simp [go_sem]; done) | (simp [go_sem]; done))
    have k_R_2 : W0.cell? ⟨w.heap.size, 2, none⟩ = some (.slice d nd cd) := by rw [← hW]; (first | (go_simp; done) | (simp; done) | (simp [go_sem]; done) | (simp [go_sem]; done))
    have f_R : ∀ o, W0.frozen? ⟨w.heap.size, o, none⟩ = false := by intro o; rw [← hW]; (first | (go_simp; done) | (simp; done) | (simp [go_sem]; done) | (simp [go_sem]; done))
    have HX_R := Lib.hid (show Bn W0 (w.heap.size) by rw [← hW]; exact KpA)
    replace HR := Lib.hid (HR.out.keep HK_W0.out)
    replace HB := Lib.hid (show Below w.heap.size w W0 by rw [← hW]; exact BlA)
    replace hN : N ≤ W0.heap.size := by rw [← hW]; (first | omega | (simp; done) | (simp; omega))
    have hs0 : w.heap.size ≤ W0.heap.size := by rw [← hW]; (first | omega | (simp; done) | (simp; omega))
    have hl_R : w.heap.size < W0.heap.size := by rw [← hW]; (first | omega | (simp; done) | (simp; omega))
    replace HW := Lib.hid (HW.out.below HL_W0.out)
    clear HL_W0
    clear hW HK_W0
    refine (large_any _ _ _ _ _ _ _ _).mono ?_
    rw [HLG.out]
    rintro e wa ⟨rfl, hb⟩
    have hs_wa : W0.heap.size ≤ wa.heap.size := hb.size
    replace k_R_0 : wa.cell? ⟨w.heap.size, 0, none⟩ = some (.bool s) := (hb.cell (p := ⟨w.heap.size, 0, none⟩) hl_R).trans k_R_0
    replace k_R_1 : wa.cell? ⟨w.heap.size, 1, none⟩ = some (.slice a na ca) := (hb.cell (p := ⟨w.heap.size, 1, none⟩) hl_R).trans k_R_1
    replace k_R_2 : wa.cell? ⟨w.heap.size, 2, none⟩ = some (.slice d nd cd) := (hb.cell (p := ⟨w.heap.size, 2, none⟩) hl_R).trans k_R_2
    replace f_R : ∀ o, wa.frozen? ⟨w.heap.size, o, none⟩ = false := fun o => (hb.frozen (p := ⟨w.heap.size, o, none⟩) hl_R).trans (f_R o)
    replace HX_R := Lib.hid (HX_R.out.below hb)
    replace HR := Lib.hid (HR.out.below hb)
    replace HB := Lib.hid (HB.out.trans (hb.mono hs0))
    replace hN : N ≤ wa.heap.size := Nat.le_trans hN hb.size
    replace hs0 : w.heap.size ≤ wa.heap.size := Nat.le_trans hs0 hb.size
    replace hl_R : w.heap.size < wa.heap.size := Nat.lt_of_lt_of_le hl_R hb.size
    replace HW := Lib.hid (HW.out.below hb)
    clear hb
    go_wp2_with fail
    refine calls_name fun W1 hW => ?_
    have HL_W1 := Lib.hid (show Below wa.heap.size wa W1 by rw [← hW]; exact BlA)
    have hs_W1 : wa.heap.size ≤ W1.heap.size := by rw [← hW]; (first | omega | (simp; done) | (simp; omega))
    have HK_W1 := Lib.hid (show Kp N wa W1 by rw [← hW]; exact KpA)
    replace k_R_0 : W1.cell? ⟨w.heap.size, 0, none⟩ = some (.bool s) := (HL_W1.out.cell (p := ⟨w.heap.size, 0, none⟩) hl_R).trans k_R_0
    replace k_R_1 : W1.cell? ⟨w.heap.size, 1, none⟩ = some (.slice a na ca) := (HL_W1.out.cell (p := ⟨w.heap.size, 1, none⟩) hl_R).trans k_R_1
    replace k_R_2 : W1.cell? ⟨w.heap.size, 2, none⟩ = some (.slice d nd cd) := (HL_W1.out.cell (p := ⟨w.heap.size, 2, none⟩) hl_R).trans k_R_2
    replace f_R : ∀ o, W1.frozen? ⟨w.heap.size, o, none⟩ = false := fun o => (HL_W1.out.frozen (p := ⟨w.heap.size, o, none⟩) hl_R).trans (f_R o)
    replace HX_R := Lib.hid (show Bn W1 (w.heap.size) by rw [← hW]; exact KpA)
    replace HR := Lib.hid (HR.out.keep HK_W1.out)
    replace HB := Lib.hid (show Below w.heap.size w W1 by rw [← hW]; exact BlA)
    replace hN : N ≤ W1.heap.size := by rw [← hW]; (first | omega | (simp; done) | (simp; omega))
    replace hs0 : w.heap.size ≤ W1.heap.size := by rw [← hW]; (first | omega | (simp; done) | (simp; omega))
    replace hl_R : w.heap.size < W1.heap.size := by rw [← hW]; (first | omega | (simp; done) | (simp; omega))
    replace HW := Lib.hid (HW.out.below HL_W1.out)
    clear HL_W1
    clear hW HK_W1
    refine (rsign_any (N := N) _ _ _ _ _ _ _ 20 q _ hN HR.out).mono ?_
    rw [HSG.out]
    rintro e wb ⟨rfl, hb⟩
    have hs_wb : W1.heap.size ≤ wb.heap.size := hb.size
    replace k_R_0 : wb.cell? ⟨w.heap.size, 0, none⟩ = some (.bool s) := (hb.cell (p := ⟨w.heap.size, 0, none⟩) hl_R).trans k_R_0
    replace k_R_1 : wb.cell? ⟨w.heap.size, 1, none⟩ = some (.slice a na ca) := (hb.cell (p := ⟨w.heap.size, 1, none⟩) hl_R).trans k_R_1
    replace k_R_2 : wb.cell? ⟨w.heap.size, 2, none⟩ = some (.slice d nd cd) := (hb.cell (p := ⟨w.heap.size, 2, none⟩) hl_R).trans k_R_2
    replace f_R : ∀ o, wb.frozen? ⟨w.heap.size, o, none⟩ = false := fun o => (hb.frozen (p := ⟨w.heap.size, o, none⟩) hl_R).trans (f_R o)
    replace HX_R := Lib.hid (HX_R.out.below hb)
    replace HR := Lib.hid (HR.out.below hb)
    replace HB := Lib.hid (HB.out.trans (hb.mono hs0))
    replace hN : N ≤ wb.heap.size := Nat.le_trans hN hb.size
    replace hs0 : w.heap.size ≤ wb.heap.size := Nat.le_trans hs0 hb.size
    replace hl_R : w.heap.size < wb.heap.size := Nat.lt_of_lt_of_le hl_R hb.size
    replace HW := Lib.hid (HW.out.below hb)
    clear hb
    by_cases hs1 : σ < 0
    · go_wp2_with fail
      go_ret
      exact ⟨rfl, HB.out⟩
    · have HQ0 := Lib.hid (HSI.out (by omega))
      by_cases hk1 : slack < 0
      · go_wp2_with fail
        go_ret
        exact ⟨rfl, HB.out⟩
      · by_cases hk2 : 1000 < slack
        · go_wp2_with fail
          go_ret
          exact ⟨rfl, HB.out⟩
        · by_cases hn1 : 100 < n
          · have hn2 : (100 : Int) < (n : Int) := by omega
            go_wp2_with fail
            go_ret
            exact ⟨rfl, HB.out⟩
          · have hn2 : ¬ (100 : Int) < (n : Int) := by omega
            obtain ⟨p, hp⟩ : ∃ p : Rat, ((1 : Int) : Rat) / ((1 : Int) : Rat) = p := ⟨_, rfl⟩
            have HPP := Lib.hid ((mk_div 1 1).trans hp)
            have HP1 := Lib.hid (show ((1 : Int) : Rat) = p by rw [← hp]; decide +kernel)
            clear hp
            go_wp2_with fail
            refine calls_name fun W2 hW => ?_
            have HL_W2 := Lib.hid (show Below wb.heap.size wb W2 by rw [← hW]; exact BlA)
            have hs_W2 : wb.heap.size ≤ W2.heap.size := by rw [← hW]; (first | omega | (simp; done) | (simp; omega))
            have HK_W2 := Lib.hid (show Kp N wb W2 by rw [← hW]; exact KpA)
            replace k_R_0 : W2.cell? ⟨w.heap.size, 0, none⟩ = some (.bool s) := (HL_W2.out.cell (p := ⟨w.heap.size, 0, none⟩) hl_R).trans k_R_0
            replace k_R_1 : W2.cell? ⟨w.heap.size, 1, none⟩ = some (.slice a na ca) := (HL_W2.out.cell (p := ⟨w.heap.size, 1, none⟩) hl_R).trans k_R_1
            replace k_R_2 : W2.cell? ⟨w.heap.size, 2, none⟩ = some (.slice d nd cd) := (HL_W2.out.cell (p := ⟨w.heap.size, 2, none⟩) hl_R).trans k_R_2
            replace f_R : ∀ o, W2.frozen? ⟨w.heap.size, o, none⟩ = false := fun o => (HL_W2.out.frozen (p := ⟨w.heap.size, o, none⟩) hl_R).trans (f_R o)
            replace HX_R := Lib.hid (show Bn W2 (w.heap.size) by rw [← hW]; exact KpA)
            replace HR := Lib.hid (HR.out.keep HK_W2.out)
            replace HB := Lib.hid (show Below w.heap.size w W2 by rw [← hW]; exact BlA)
            replace hN : N ≤ W2.heap.size := by rw [← hW]; (first | omega | (simp; done) | (simp; omega))
            replace hs0 : w.heap.size ≤ W2.heap.size := by rw [← hW]; (first | omega | (simp; done) | (simp; omega))
            replace hl_R : w.heap.size < W2.heap.size := by rw [← hW]; (first | omega | (simp; done) | (simp; omega))
            replace HW := Lib.hid (HW.out.below HL_W2.out)
            clear HL_W2
            clear hW HK_W2
            refine (rof_any (N := N) 1 1 _ hN (by omega) (by omega) (by omega) (by omega) p HPP.out).mono ?_
            rw [show decide (0 < (1 : Int).natAbs) = true from rfl]
            rintro e wc ⟨ro, co, ro2, co2, rfl, hn1', hn2', hb⟩
            have hs_wc : W2.heap.size ≤ wc.heap.size := hb.size
            replace k_R_0 : wc.cell? ⟨w.heap.size, 0, none⟩ = some (.bool s) := (hb.cell (p := ⟨w.heap.size, 0, none⟩) hl_R).trans k_R_0
            replace k_R_1 : wc.cell? ⟨w.heap.size, 1, none⟩ = some (.slice a na ca) := (hb.cell (p := ⟨w.heap.size, 1, none⟩) hl_R).trans k_R_1
            replace k_R_2 : wc.cell? ⟨w.heap.size, 2, none⟩ = some (.slice d nd cd) := (hb.cell (p := ⟨w.heap.size, 2, none⟩) hl_R).trans k_R_2
            replace f_R : ∀ o, wc.frozen? ⟨w.heap.size, o, none⟩ = false := fun o => (hb.frozen (p := ⟨w.heap.size, o, none⟩) hl_R).trans (f_R o)
            replace HX_R := Lib.hid (HX_R.out.below hb)
            replace HR := Lib.hid (HR.out.below hb)
            replace HB := Lib.hid (HB.out.trans (hb.mono hs0))
            replace hN : N ≤ wc.heap.size := Nat.le_trans hN hb.size
            replace hs0 : w.heap.size ≤ wc.heap.size := Nat.le_trans hs0 hb.size
            replace hl_R : w.heap.size < wc.heap.size := Nat.lt_of_lt_of_le hl_R hb.size
            replace HW := Lib.hid (HW.out.below hb)
            clear hb
            have HO1 := Lib.hid hn1'
            clear hn1'
            have HO2 := Lib.hid hn2'
            clear hn2'
            go_wp2_with fail
            refine calls_name fun W3 hW => ?_
            have HL_W3 := Lib.hid (show Below wc.heap.size wc W3 by rw [← hW]; exact BlA)
            have hs_W3 : wc.heap.size ≤ W3.heap.size := by rw [← hW]; (first | omega | (simp; done) | (simp; omega))
            have hd_R_O : w.heap.size < wc.heap.size := by omega
            have HK_W3 := Lib.hid (show Kp N wc W3 by rw [← hW]; exact KpA)
            replace k_R_0 : W3.cell? ⟨w.heap.size, 0, none⟩ = some (.bool s) := (HL_W3.out.cell (p := ⟨w.heap.size, 0, none⟩) hl_R).trans k_R_0
            replace k_R_1 : W3.cell? ⟨w.heap.size, 1, none⟩ = some (.slice a na ca) := (HL_W3.out.cell (p := ⟨w.heap.size, 1, none⟩) hl_R).trans k_R_1
            replace k_R_2 : W3.cell? ⟨w.heap.size, 2, none⟩ = some (.slice d nd cd) := (HL_W3.out.cell (p := ⟨w.heap.size, 2, none⟩) hl_R).trans k_R_2
            replace f_R : ∀ o, W3.frozen? ⟨w.heap.size, o, none⟩ = false := fun o => (HL_W3.out.frozen (p := ⟨w.heap.size, o, none⟩) hl_R).trans (f_R o)
            replace HX_R := Lib.hid (show Bn W3 (w.heap.size) by rw [← hW]; exact KpA)
            have k_O_0 : W3.cell? ⟨wc.heap.size, 0, none⟩ = some (.bool (decide ((p).num < 0))) := by rw [← hW]; (first | (go_simp; done) | (simp; done) | (simp [go_sem]; done) | (simp [go_sem, k_R_0, k_R_1, k_R_2, f_R, hl_R]; done))
            have k_O_1 : W3.cell? ⟨wc.heap.size, 1, none⟩ = some (.slice ro (nlen (p).num.natAbs) co) := by rw [← hW]; (first | (go_simp; done) | (simp; done) | (simp [go_sem]; done) | (simp [go_sem, k_R_0, k_R_1, k_R_2, f_R, hl_R]; done))
            have k_O_2 : W3.cell? ⟨wc.heap.size, 2, none⟩ = some (.slice ro2 (nlen (p).den) co2) := by rw [← hW]; (first | (go_simp; done) | (simp; done) | (simp [go_sem]; done) | (simp [go_sem, k_R_0, k_R_1, k_R_2, f_R, hl_R]; done))
            have f_O : ∀ o, W3.frozen? ⟨wc.heap.size, o, none⟩ = false := by intro o; rw [← hW]; (first | (go_simp; done) | (simp; done) | (simp [go_sem]; done) | (simp [go_sem, k_R_0, k_R_1, k_R_2, f_R, hl_R]; done))
            have HX_O := Lib.hid (show Bn W3 (wc.heap.size) by rw [← hW]; exact KpA)
            replace HR := Lib.hid (HR.out.keep HK_W3.out)
            replace HO1 := Lib.hid (HO1.out.keep HK_W3.out)
            replace HO2 := Lib.hid (HO2.out.keep HK_W3.out)
            replace HB := Lib.hid (show Below w.heap.size w W3 by rw [← hW]; exact BlA)
            replace hN : N ≤ W3.heap.size := by rw [← hW]; (first | omega | (simp; done) | (simp; omega))
            replace hs0 : w.heap.size ≤ W3.heap.size := by rw [← hW]; (first | omega | (simp; done) | (simp; omega))
            replace hl_R : w.heap.size < W3.heap.size := by rw [← hW]; (first | omega | (simp; done) | (simp; omega))
            have hl_O : wc.heap.size < W3.heap.size := by rw [← hW]; (first | omega | (simp; done) | (simp; omega))
            replace HW := Lib.hid (HW.out.below HL_W3.out)
            clear HL_W3
            clear hW HK_W3
            refine (elig_any (N := N) 0 0 0 _ _ _ _ _ _ _ 1 p _ hN (Rt.of_norm HO1.out HO2.out 1 (rsz_int 1 (by decide) p HP1.out)) (by decide)).mono ?_
            rw [elig_one 0 (by omega) (by omega) p HP1.out]
            rintro e wd ⟨rfl, hb⟩
            have hs_wd : W3.heap.size ≤ wd.heap.size := hb.size
            replace k_R_0 : wd.cell? ⟨w.heap.size, 0, none⟩ = some (.bool s) := (hb.cell (p := ⟨w.heap.size, 0, none⟩) hl_R).trans k_R_0
            replace k_R_1 : wd.cell? ⟨w.heap.size, 1, none⟩ = some (.slice a na ca) := (hb.cell (p := ⟨w.heap.size, 1, none⟩) hl_R).trans k_R_1
            replace k_R_2 : wd.cell? ⟨w.heap.size, 2, none⟩ = some (.slice d nd cd) := (hb.cell (p := ⟨w.heap.size, 2, none⟩) hl_R).trans k_R_2
            replace f_R : ∀ o, wd.frozen? ⟨w.heap.size, o, none⟩ = false := fun o => (hb.frozen (p := ⟨w.heap.size, o, none⟩) hl_R).trans (f_R o)
            replace HX_R := Lib.hid (HX_R.out.below hb)
            replace k_O_0 : wd.cell? ⟨wc.heap.size, 0, none⟩ = some (.bool (decide ((p).num < 0))) := (hb.cell (p := ⟨wc.heap.size, 0, none⟩) hl_O).trans k_O_0
            replace k_O_1 : wd.cell? ⟨wc.heap.size, 1, none⟩ = some (.slice ro (nlen (p).num.natAbs) co) := (hb.cell (p := ⟨wc.heap.size, 1, none⟩) hl_O).trans k_O_1
            replace k_O_2 : wd.cell? ⟨wc.heap.size, 2, none⟩ = some (.slice ro2 (nlen (p).den) co2) := (hb.cell (p := ⟨wc.heap.size, 2, none⟩) hl_O).trans k_O_2
            replace f_O : ∀ o, wd.frozen? ⟨wc.heap.size, o, none⟩ = false := fun o => (hb.frozen (p := ⟨wc.heap.size, o, none⟩) hl_O).trans (f_O o)
            replace HX_O := Lib.hid (HX_O.out.below hb)
            replace HR := Lib.hid (HR.out.below hb)
            replace HO1 := Lib.hid (HO1.out.below hb)
            replace HO2 := Lib.hid (HO2.out.below hb)
            replace HB := Lib.hid (HB.out.trans (hb.mono hs0))
            replace hN : N ≤ wd.heap.size := Nat.le_trans hN hb.size
            replace hs0 : w.heap.size ≤ wd.heap.size := Nat.le_trans hs0 hb.size
            replace hl_R : w.heap.size < wd.heap.size := Nat.lt_of_lt_of_le hl_R hb.size
            replace hl_O : wc.heap.size < wd.heap.size := Nat.lt_of_lt_of_le hl_O hb.size
            replace HW := Lib.hid (HW.out.below hb)
            clear hb
            clear hl_O f_O HX_O k_O_0 k_O_1 k_O_2
            clear HO1
            clear HO2
            go_wp2_with fail
            go_loopw [9, 10, 11, 12, 13, 14, 15, 16, 17] (fun lv i _ _ _ _ _ _ _ wr => ∃ (k : Nat) (c : Int), k ≤ n ∧ i = .int .i64 k ∧ 0 ≤ c ∧ c ≤ k ∧ Ul wr lv (repL c) ∧ Hid ((c : Rat) ≤ q * (((k : Int) + slack : Int) : Rat)) ∧ Below wd.heap.size wd wr) (fun _ i _ _ _ _ _ _ _ _ => n - (intOf i).toNat)
            case atStart => exact ⟨0, 0, Nat.zero_le _, rfl, Int.le_refl _, Int.le_refl _, ⟨none, 0, rfl, Nat.le_refl _, Nat.zero_le _, fun h => absurd h (by simp [repL])⟩, Lib.hid (cap_zero HQ0.out (by omega)), Below.refl _ _⟩
            case round =>
              obtain ⟨k, c, hk, rfl, hc0, hck, hul, hcq, hbel⟩ := hrel
              have HB0 := HB
              have hsw := hs0
              replace HB := Lib.hid hbel
              replace hs0 := hbel.size
              replace HR := Lib.hid (HR.out.below hbel)
              replace HW := Lib.hid (HW.out.below hbel)
              replace hN : N ≤ wr.heap.size := Nat.le_trans hN hs0
              have HUL := Lib.hid hul
              clear hul
              have hl_R' : w.heap.size < wr.heap.size := Nat.lt_of_lt_of_le hl_R hbel.size
              have k_R_0' : wr.cell? ⟨w.heap.size, 0, none⟩ = some (.bool s) := (hbel.cell (p := ⟨w.heap.size, 0, none⟩) hl_R).trans k_R_0
              have k_R_1' : wr.cell? ⟨w.heap.size, 1, none⟩ = some (.slice a na ca) := (hbel.cell (p := ⟨w.heap.size, 1, none⟩) hl_R).trans k_R_1
              have k_R_2' : wr.cell? ⟨w.heap.size, 2, none⟩ = some (.slice d nd cd) := (hbel.cell (p := ⟨w.heap.size, 2, none⟩) hl_R).trans k_R_2
              have f_R' : ∀ o, wr.frozen? ⟨w.heap.size, o, none⟩ = false := fun o => (hbel.frozen (p := ⟨w.heap.size, o, none⟩) hl_R).trans (f_R o)
              have HX_R' := Lib.hid (HX_R.out.below hbel)
              clear hl_R f_R HX_R k_R_0 k_R_1 k_R_2
              have hl_R := hl_R'
              have f_R := f_R'
              have HX_R := HX_R'
              have k_R_0 := k_R_0'
              have k_R_1 := k_R_1'
              have k_R_2 := k_R_2'
              clear hl_R' f_R' HX_R' k_R_0' k_R_1' k_R_2'
              clear hbel
              by_cases hkn : k < n
              · obtain ⟨b, off, rfl, hcc⟩ := HW.out.2.2 (by omega)
                have g0 := hcc k hkn
                obtain ⟨wn, hwn⟩ : ∃ x, f k = x := ⟨_, rfl⟩
                rw [hwn] at g0
                clear hcc hwn
                have hix0 : (0 : Int) ≤ (k : Int) := by omega
                have hix1 : (k : Int) < (n : Int) := by omega
                obtain ⟨aL, cL, rfl, hus⟩ := HUL.out
                have HUS := Lib.hid hus
                clear hus HUL
                have HCN := Lib.hid (show cntN (itR c) (ctR c) 7 (repL c).length = c by rw [repL_cnt c 7 hc0 (by omega)]; rfl)
                obtain ⟨ln, hln⟩ : ∃ l, (repL c).length = l := ⟨_, rfl⟩
                have hl1 := repL_len c
                have HLN := Lib.hid hln
                rw [hln] at HUS HCN hl1 ⊢
                clear hln
                go_wp2_with fail
                refine calls_name fun W4 hW => ?_
                have HL_W4 := Lib.hid (show Below wr.heap.size wr W4 by rw [← hW]; exact BlA)
                have hs_W4 : wr.heap.size ≤ W4.heap.size := by rw [← hW]; (first | omega | (simp; done) | (simp; omega))
                have HK_W4 := Lib.hid (show Kp N wr W4 by rw [← hW]; exact KpA)
                rw [hW] at g0
                replace k_R_0 : W4.cell? ⟨w.heap.size, 0, none⟩ = some (.bool s) := (HL_W4.out.cell (p := ⟨w.heap.size, 0, none⟩) hl_R).trans k_R_0
                replace k_R_1 : W4.cell? ⟨w.heap.size, 1, none⟩ = some (.slice a na ca) := (HL_W4.out.cell (p := ⟨w.heap.size, 1, none⟩) hl_R).trans k_R_1
                replace k_R_2 : W4.cell? ⟨w.heap.size, 2, none⟩ = some (.slice d nd cd) := (HL_W4.out.cell (p := ⟨w.heap.size, 2, none⟩) hl_R).trans k_R_2
                replace f_R : ∀ o, W4.frozen? ⟨w.heap.size, o, none⟩ = false := fun o => (HL_W4.out.frozen (p := ⟨w.heap.size, o, none⟩) hl_R).trans (f_R o)
                replace HX_R := Lib.hid (show Bn W4 (w.heap.size) by rw [← hW]; exact KpA)
                replace HR := Lib.hid (HR.out.keep HK_W4.out)
                replace HB := Lib.hid (show Below wd.heap.size wd W4 by rw [← hW]; exact BlA)
                replace hN : N ≤ W4.heap.size := by rw [← hW]; (first | omega | (simp; done) | (simp; omega))
                replace hs0 : wd.heap.size ≤ W4.heap.size := by rw [← hW]; (first | omega | (simp; done) | (simp; omega))
                replace hl_R : w.heap.size < W4.heap.size := by rw [← hW]; (first | omega | (simp; done) | (simp; omega))
                replace HW := Lib.hid (HW.out.below HL_W4.out)
                replace HUS := Lib.hid (HUS.out.below HL_W4.out)
                clear HL_W4
                clear hW HK_W4
                refine (count_any _ _ _ (itR c) (ctR c) 7 _ HUS.out).mono ?_
                rw [HCN.out]
                rintro e we ⟨rfl, hb⟩
                have g0' := cell_mono g0 hb
                clear g0
                have hs_we : W4.heap.size ≤ we.heap.size := hb.size
                replace k_R_0 : we.cell? ⟨w.heap.size, 0, none⟩ = some (.bool s) := (hb.cell (p := ⟨w.heap.size, 0, none⟩) hl_R).trans k_R_0
                replace k_R_1 : we.cell? ⟨w.heap.size, 1, none⟩ = some (.slice a na ca) := (hb.cell (p := ⟨w.heap.size, 1, none⟩) hl_R).trans k_R_1
                replace k_R_2 : we.cell? ⟨w.heap.size, 2, none⟩ = some (.slice d nd cd) := (hb.cell (p := ⟨w.heap.size, 2, none⟩) hl_R).trans k_R_2
                replace f_R : ∀ o, we.frozen? ⟨w.heap.size, o, none⟩ = false := fun o => (hb.frozen (p := ⟨w.heap.size, o, none⟩) hl_R).trans (f_R o)
                replace HX_R := Lib.hid (HX_R.out.below hb)
                replace HR := Lib.hid (HR.out.below hb)
                replace HB := Lib.hid (HB.out.trans (hb.mono hs0))
                replace hN : N ≤ we.heap.size := Nat.le_trans hN hb.size
                replace hs0 : wd.heap.size ≤ we.heap.size := Nat.le_trans hs0 hb.size
                replace hl_R : w.heap.size < we.heap.size := Nat.lt_of_lt_of_le hl_R hb.size
                replace HW := Lib.hid (HW.out.below hb)
                replace HUS := Lib.hid (HUS.out.below hb)
                clear hb
                have g0 := g0'
                clear g0'
                cases wn
                · have HCNt := HCN
                  have HCP := Lib.hid (cap_step HQ0.out hcq.out)
                  go_wp2_with fail
                  refine calls_name fun W1 hW => ?_
                  have HL_W1 := Lib.hid (show Below we.heap.size we W1 by rw [← hW]; exact BlA)
                  have hs_W1 : we.heap.size ≤ W1.heap.size := by rw [← hW]; (first | omega | (simp; done) | (simp; omega))
                  have HK_W1 := Lib.hid (show Kp N we W1 by rw [← hW]; exact KpA)
                  replace k_R_0 : W1.cell? ⟨w.heap.size, 0, none⟩ = some (.bool s) := (HL_W1.out.cell (p := ⟨w.heap.size, 0, none⟩) hl_R).trans k_R_0
                  replace k_R_1 : W1.cell? ⟨w.heap.size, 1, none⟩ = some (.slice a na ca) := (HL_W1.out.cell (p := ⟨w.heap.size, 1, none⟩) hl_R).trans k_R_1
                  replace k_R_2 : W1.cell? ⟨w.heap.size, 2, none⟩ = some (.slice d nd cd) := (HL_W1.out.cell (p := ⟨w.heap.size, 2, none⟩) hl_R).trans k_R_2
                  replace f_R : ∀ o, W1.frozen? ⟨w.heap.size, o, none⟩ = false := fun o => (HL_W1.out.frozen (p := ⟨w.heap.size, o, none⟩) hl_R).trans (f_R o)
                  replace HX_R := Lib.hid (show Bn W1 (w.heap.size) by rw [← hW]; exact KpA)
                  replace HR := Lib.hid (HR.out.keep HK_W1.out)
                  replace HB := Lib.hid (show Below wd.heap.size wd W1 by rw [← hW]; exact BlA)
                  replace hN : N ≤ W1.heap.size := by rw [← hW]; (first | omega | (simp; done) | (simp; omega))
                  replace hs0 : wd.heap.size ≤ W1.heap.size := by rw [← hW]; (first | omega | (simp; done) | (simp; omega))
                  replace hl_R : w.heap.size < W1.heap.size := by rw [← hW]; (first | omega | (simp; done) | (simp; omega))
                  replace HW := Lib.hid (HW.out.below HL_W1.out)
                  replace HUS := Lib.hid (HUS.out.below HL_W1.out)
                  clear HL_W1
                  clear hW HK_W1
                  refine (count_any _ _ _ (itR c) (ctR c) 7 _ HUS.out).mono ?_
                  rw [HCNt.out]
                  rintro e wt2 ⟨rfl, hb⟩
                  have hs_wt2 : W1.heap.size ≤ wt2.heap.size := hb.size
                  replace k_R_0 : wt2.cell? ⟨w.heap.size, 0, none⟩ = some (.bool s) := (hb.cell (p := ⟨w.heap.size, 0, none⟩) hl_R).trans k_R_0
                  replace k_R_1 : wt2.cell? ⟨w.heap.size, 1, none⟩ = some (.slice a na ca) := (hb.cell (p := ⟨w.heap.size, 1, none⟩) hl_R).trans k_R_1
                  replace k_R_2 : wt2.cell? ⟨w.heap.size, 2, none⟩ = some (.slice d nd cd) := (hb.cell (p := ⟨w.heap.size, 2, none⟩) hl_R).trans k_R_2
                  replace f_R : ∀ o, wt2.frozen? ⟨w.heap.size, o, none⟩ = false := fun o => (hb.frozen (p := ⟨w.heap.size, o, none⟩) hl_R).trans (f_R o)
                  replace HX_R := Lib.hid (HX_R.out.below hb)
                  replace HR := Lib.hid (HR.out.below hb)
                  replace HB := Lib.hid (HB.out.trans (hb.mono hs0))
                  replace hN : N ≤ wt2.heap.size := Nat.le_trans hN hb.size
                  replace hs0 : wd.heap.size ≤ wt2.heap.size := Nat.le_trans hs0 hb.size
                  replace hl_R : w.heap.size < wt2.heap.size := Nat.lt_of_lt_of_le hl_R hb.size
                  replace HW := Lib.hid (HW.out.below hb)
                  replace HUS := Lib.hid (HUS.out.below hb)
                  clear hb
                  go_wp2_with fail
                  obtain ⟨p1, hp1⟩ : ∃ p : Rat, ((c : Int) : Rat) / ((1 : Int) : Rat) = p := ⟨_, rfl⟩
                  have HPA := Lib.hid ((mk_div _ 1).trans hp1)
                  have HPB := Lib.hid (rat_one _ _ hp1)
                  clear hp1
                  refine calls_name fun W3 hW => ?_
                  have HL_W3 := Lib.hid (show Below wt2.heap.size wt2 W3 by rw [← hW]; exact BlA)
                  have hs_W3 : wt2.heap.size ≤ W3.heap.size := by rw [← hW]; (first | omega | (simp; done) | (simp; omega))
                  have HK_W3 := Lib.hid (show Kp N wt2 W3 by rw [← hW]; exact KpA)
                  replace k_R_0 : W3.cell? ⟨w.heap.size, 0, none⟩ = some (.bool s) := (HL_W3.out.cell (p := ⟨w.heap.size, 0, none⟩) hl_R).trans k_R_0
                  replace k_R_1 : W3.cell? ⟨w.heap.size, 1, none⟩ = some (.slice a na ca) := (HL_W3.out.cell (p := ⟨w.heap.size, 1, none⟩) hl_R).trans k_R_1
                  replace k_R_2 : W3.cell? ⟨w.heap.size, 2, none⟩ = some (.slice d nd cd) := (HL_W3.out.cell (p := ⟨w.heap.size, 2, none⟩) hl_R).trans k_R_2
                  replace f_R : ∀ o, W3.frozen? ⟨w.heap.size, o, none⟩ = false := fun o => (HL_W3.out.frozen (p := ⟨w.heap.size, o, none⟩) hl_R).trans (f_R o)
                  replace HX_R := Lib.hid (show Bn W3 (w.heap.size) by rw [← hW]; exact KpA)
                  replace HR := Lib.hid (HR.out.keep HK_W3.out)
                  replace HB := Lib.hid (show Below wd.heap.size wd W3 by rw [← hW]; exact BlA)
                  replace hN : N ≤ W3.heap.size := by rw [← hW]; (first | omega | (simp; done) | (simp; omega))
                  replace hs0 : wd.heap.size ≤ W3.heap.size := by rw [← hW]; (first | omega | (simp; done) | (simp; omega))
                  replace hl_R : w.heap.size < W3.heap.size := by rw [← hW]; (first | omega | (simp; done) | (simp; omega))
                  replace HW := Lib.hid (HW.out.below HL_W3.out)
                  replace HUS := Lib.hid (HUS.out.below HL_W3.out)
                  clear HL_W3
                  clear hW HK_W3
                  refine (rof_any (N := N) (c) 1 _ hN (by omega) (by omega) (by omega) (by omega) p1 HPA.out).mono ?_
                  rw [show decide (0 < (1 : Int).natAbs) = true from rfl]
                  rintro e wt4 ⟨rk, ck, rk2, ck2, rfl, hn1', hn2', hb⟩
                  have hs_wt4 : W3.heap.size ≤ wt4.heap.size := hb.size
                  replace k_R_0 : wt4.cell? ⟨w.heap.size, 0, none⟩ = some (.bool s) := (hb.cell (p := ⟨w.heap.size, 0, none⟩) hl_R).trans k_R_0
                  replace k_R_1 : wt4.cell? ⟨w.heap.size, 1, none⟩ = some (.slice a na ca) := (hb.cell (p := ⟨w.heap.size, 1, none⟩) hl_R).trans k_R_1
                  replace k_R_2 : wt4.cell? ⟨w.heap.size, 2, none⟩ = some (.slice d nd cd) := (hb.cell (p := ⟨w.heap.size, 2, none⟩) hl_R).trans k_R_2
                  replace f_R : ∀ o, wt4.frozen? ⟨w.heap.size, o, none⟩ = false := fun o => (hb.frozen (p := ⟨w.heap.size, o, none⟩) hl_R).trans (f_R o)
                  replace HX_R := Lib.hid (HX_R.out.below hb)
                  replace HR := Lib.hid (HR.out.below hb)
                  replace HB := Lib.hid (HB.out.trans (hb.mono hs0))
                  replace hN : N ≤ wt4.heap.size := Nat.le_trans hN hb.size
                  replace hs0 : wd.heap.size ≤ wt4.heap.size := Nat.le_trans hs0 hb.size
                  replace hl_R : w.heap.size < wt4.heap.size := Nat.lt_of_lt_of_le hl_R hb.size
                  replace HW := Lib.hid (HW.out.below hb)
                  replace HUS := Lib.hid (HUS.out.below hb)
                  clear hb
                  have HK1 := Lib.hid hn1'
                  clear hn1'
                  have HK2 := Lib.hid hn2'
                  clear hn2'
                  go_wp2_with fail
                  obtain ⟨p2, hp2⟩ : ∃ p : Rat, ((((k : Int) + 1 + slack) : Int) : Rat) / ((1 : Int) : Rat) = p := ⟨_, rfl⟩
                  have HPC := Lib.hid ((mk_div _ 1).trans hp2)
                  have HPD := Lib.hid (rat_one _ _ hp2)
                  clear hp2
                  refine calls_name fun W5 hW => ?_
                  have HL_W5 := Lib.hid (show Below wt4.heap.size wt4 W5 by rw [← hW]; exact BlA)
                  have hs_W5 : wt4.heap.size ≤ W5.heap.size := by rw [← hW]; (first | omega | (simp; done) | (simp; omega))
                  have hd_R_K : w.heap.size < wt4.heap.size := by omega
                  have HK_W5 := Lib.hid (show Kp N wt4 W5 by rw [← hW]; exact KpA)
                  replace k_R_0 : W5.cell? ⟨w.heap.size, 0, none⟩ = some (.bool s) := (HL_W5.out.cell (p := ⟨w.heap.size, 0, none⟩) hl_R).trans k_R_0
                  replace k_R_1 : W5.cell? ⟨w.heap.size, 1, none⟩ = some (.slice a na ca) := (HL_W5.out.cell (p := ⟨w.heap.size, 1, none⟩) hl_R).trans k_R_1
                  replace k_R_2 : W5.cell? ⟨w.heap.size, 2, none⟩ = some (.slice d nd cd) := (HL_W5.out.cell (p := ⟨w.heap.size, 2, none⟩) hl_R).trans k_R_2
                  replace f_R : ∀ o, W5.frozen? ⟨w.heap.size, o, none⟩ = false := fun o => (HL_W5.out.frozen (p := ⟨w.heap.size, o, none⟩) hl_R).trans (f_R o)
                  replace HX_R := Lib.hid (show Bn W5 (w.heap.size) by rw [← hW]; exact KpA)
                  have k_K_0 : W5.cell? ⟨wt4.heap.size, 0, none⟩ = some (.bool (decide ((p1).num < 0))) := by rw [← hW]; (first | (go_simp; done) | (simp; done) | (simp [go_sem]; done) | (simp [go_sem, k_R_0, k_R_1, k_R_2, f_R, hl_R]; done))
                  have k_K_1 : W5.cell? ⟨wt4.heap.size, 1, none⟩ = some (.slice rk (nlen (p1).num.natAbs) ck) := by rw [← hW]; (first | (go_simp; done) | (simp; done) | (simp [go_sem]; done) | (simp [go_sem, k_R_0, k_R_1, k_R_2, f_R, hl_R]; done))
                  have k_K_2 : W5.cell? ⟨wt4.heap.size, 2, none⟩ = some (.slice rk2 (nlen (p1).den) ck2) := by rw [← hW]; (first | (go_simp; done) | (simp; done) | (simp [go_sem]; done) | (simp [go_sem, k_R_0, k_R_1, k_R_2, f_R, hl_R]; done))
                  have f_K : ∀ o, W5.frozen? ⟨wt4.heap.size, o, none⟩ = false := by intro o; rw [← hW]; (first | (go_simp; done) | (simp; done) | (simp [go_sem]; done) | (simp [go_sem, k_R_0, k_R_1, k_R_2, f_R, hl_R]; done))
                  have HX_K := Lib.hid (show Bn W5 (wt4.heap.size) by rw [← hW]; exact KpA)
                  replace HR := Lib.hid (HR.out.keep HK_W5.out)
                  replace HK1 := Lib.hid (HK1.out.keep HK_W5.out)
                  replace HK2 := Lib.hid (HK2.out.keep HK_W5.out)
                  replace HB := Lib.hid (show Below wd.heap.size wd W5 by rw [← hW]; exact BlA)
                  replace hN : N ≤ W5.heap.size := by rw [← hW]; (first | omega | (simp; done) | (simp; omega))
                  replace hs0 : wd.heap.size ≤ W5.heap.size := by rw [← hW]; (first | omega | (simp; done) | (simp; omega))
                  replace hl_R : w.heap.size < W5.heap.size := by rw [← hW]; (first | omega | (simp; done) | (simp; omega))
                  have hl_K : wt4.heap.size < W5.heap.size := by rw [← hW]; (first | omega | (simp; done) | (simp; omega))
                  replace HW := Lib.hid (HW.out.below HL_W5.out)
                  replace HUS := Lib.hid (HUS.out.below HL_W5.out)
                  clear HL_W5
                  clear hW HK_W5
                  refine (rof_any (N := N) ((k : Int) + 1 + slack) 1 _ hN (by omega) (by omega) (by omega) (by omega) p2 HPC.out).mono ?_
                  rw [show decide (0 < (1 : Int).natAbs) = true from rfl]
                  rintro e wt6 ⟨rl, cl, rl2, cl2, rfl, hn1', hn2', hb⟩
                  have hs_wt6 : W5.heap.size ≤ wt6.heap.size := hb.size
                  replace k_R_0 : wt6.cell? ⟨w.heap.size, 0, none⟩ = some (.bool s) := (hb.cell (p := ⟨w.heap.size, 0, none⟩) hl_R).trans k_R_0
                  replace k_R_1 : wt6.cell? ⟨w.heap.size, 1, none⟩ = some (.slice a na ca) := (hb.cell (p := ⟨w.heap.size, 1, none⟩) hl_R).trans k_R_1
                  replace k_R_2 : wt6.cell? ⟨w.heap.size, 2, none⟩ = some (.slice d nd cd) := (hb.cell (p := ⟨w.heap.size, 2, none⟩) hl_R).trans k_R_2
                  replace f_R : ∀ o, wt6.frozen? ⟨w.heap.size, o, none⟩ = false := fun o => (hb.frozen (p := ⟨w.heap.size, o, none⟩) hl_R).trans (f_R o)
                  replace HX_R := Lib.hid (HX_R.out.below hb)
                  replace k_K_0 : wt6.cell? ⟨wt4.heap.size, 0, none⟩ = some (.bool (decide ((p1).num < 0))) := (hb.cell (p := ⟨wt4.heap.size, 0, none⟩) hl_K).trans k_K_0
                  replace k_K_1 : wt6.cell? ⟨wt4.heap.size, 1, none⟩ = some (.slice rk (nlen (p1).num.natAbs) ck) := (hb.cell (p := ⟨wt4.heap.size, 1, none⟩) hl_K).trans k_K_1
                  replace k_K_2 : wt6.cell? ⟨wt4.heap.size, 2, none⟩ = some (.slice rk2 (nlen (p1).den) ck2) := (hb.cell (p := ⟨wt4.heap.size, 2, none⟩) hl_K).trans k_K_2
                  replace f_K : ∀ o, wt6.frozen? ⟨wt4.heap.size, o, none⟩ = false := fun o => (hb.frozen (p := ⟨wt4.heap.size, o, none⟩) hl_K).trans (f_K o)
                  replace HX_K := Lib.hid (HX_K.out.below hb)
                  replace HR := Lib.hid (HR.out.below hb)
                  replace HK1 := Lib.hid (HK1.out.below hb)
                  replace HK2 := Lib.hid (HK2.out.below hb)
                  replace HB := Lib.hid (HB.out.trans (hb.mono hs0))
                  replace hN : N ≤ wt6.heap.size := Nat.le_trans hN hb.size
                  replace hs0 : wd.heap.size ≤ wt6.heap.size := Nat.le_trans hs0 hb.size
                  replace hl_R : w.heap.size < wt6.heap.size := Nat.lt_of_lt_of_le hl_R hb.size
                  replace hl_K : wt4.heap.size < wt6.heap.size := Nat.lt_of_lt_of_le hl_K hb.size
                  replace HW := Lib.hid (HW.out.below hb)
                  replace HUS := Lib.hid (HUS.out.below hb)
                  clear hb
                  have HL1 := Lib.hid hn1'
                  clear hn1'
                  have HL2 := Lib.hid hn2'
                  clear hn2'
                  go_wp2_with fail
                  refine region_name fun W7 hW => ?_
                  have HL_W7 := Lib.hid (show Below wt6.heap.size wt6 W7 by rw [← hW]; exact BlA)
                  have hs_W7 : wt6.heap.size ≤ W7.heap.size := by rw [← hW]; (first | omega | (simp; done) | (simp; omega))
                  have hd_R_A : w.heap.size < wt6.heap.size := by omega
                  have hd_K_A : wt4.heap.size < wt6.heap.size := by omega
                  have HK_W7 := Lib.hid (show Kp N wt6 W7 by rw [← hW]; exact KpA)
                  replace k_R_0 : W7.cell? ⟨w.heap.size, 0, none⟩ = some (.bool s) := (HL_W7.out.cell (p := ⟨w.heap.size, 0, none⟩) hl_R).trans k_R_0
                  replace k_R_1 : W7.cell? ⟨w.heap.size, 1, none⟩ = some (.slice a na ca) := (HL_W7.out.cell (p := ⟨w.heap.size, 1, none⟩) hl_R).trans k_R_1
                  replace k_R_2 : W7.cell? ⟨w.heap.size, 2, none⟩ = some (.slice d nd cd) := (HL_W7.out.cell (p := ⟨w.heap.size, 2, none⟩) hl_R).trans k_R_2
                  replace f_R : ∀ o, W7.frozen? ⟨w.heap.size, o, none⟩ = false := fun o => (HL_W7.out.frozen (p := ⟨w.heap.size, o, none⟩) hl_R).trans (f_R o)
                  replace HX_R := Lib.hid (show Bn W7 (w.heap.size) by rw [← hW]; exact KpA)
                  replace k_K_0 : W7.cell? ⟨wt4.heap.size, 0, none⟩ = some (.bool (decide ((p1).num < 0))) := (HL_W7.out.cell (p := ⟨wt4.heap.size, 0, none⟩) hl_K).trans k_K_0
                  replace k_K_1 : W7.cell? ⟨wt4.heap.size, 1, none⟩ = some (.slice rk (nlen (p1).num.natAbs) ck) := (HL_W7.out.cell (p := ⟨wt4.heap.size, 1, none⟩) hl_K).trans k_K_1
                  replace k_K_2 : W7.cell? ⟨wt4.heap.size, 2, none⟩ = some (.slice rk2 (nlen (p1).den) ck2) := (HL_W7.out.cell (p := ⟨wt4.heap.size, 2, none⟩) hl_K).trans k_K_2
                  replace f_K : ∀ o, W7.frozen? ⟨wt4.heap.size, o, none⟩ = false := fun o => (HL_W7.out.frozen (p := ⟨wt4.heap.size, o, none⟩) hl_K).trans (f_K o)
                  replace HX_K := Lib.hid (show Bn W7 (wt4.heap.size) by rw [← hW]; exact KpA)
                  have k_A_0 : W7.cell? ⟨wt6.heap.size, 0, none⟩ = some (.bool (decide ((p2).num < 0))) := by rw [← hW]; (first | (go_simp; done) | (simp; done) | (simp [go_sem]; done) | (simp [go_sem, k_R_0, k_R_1, k_R_2, k_K_0, k_K_1, k_K_2, f_R, f_K, hl_R, hl_K]; done))
                  have k_A_1 : W7.cell? ⟨wt6.heap.size, 1, none⟩ = some (.slice rl (nlen (p2).num.natAbs) cl) := by rw [← hW]; (first | (go_simp; done) | (simp; done) | (simp [go_sem]; done) | (simp [go_sem, k_R_0, k_R_1, k_R_2, k_K_0, k_K_1, k_K_2, f_R, f_K, hl_R, hl_K]; done))
                  have k_A_2 : W7.cell? ⟨wt6.heap.size, 2, none⟩ = some (.slice rl2 (nlen (p2).den) cl2) := by rw [← hW]; (first | (go_simp; done) | (simp; done) | (simp [go_sem]; done) | (simp [go_sem, k_R_0, k_R_1, k_R_2, k_K_0, k_K_1, k_K_2, f_R, f_K, hl_R, hl_K]; done))
                  have f_A : ∀ o, W7.frozen? ⟨wt6.heap.size, o, none⟩ = false := by intro o; rw [← hW]; (first | (go_simp; done) | (simp; done) | (simp [go_sem]; done) | (simp [go_sem, k_R_0, k_R_1, k_R_2, k_K_0, k_K_1, k_K_2, f_R, f_K, hl_R, hl_K]; done))
                  have HX_A := Lib.hid (show Bn W7 (wt6.heap.size) by rw [← hW]; exact KpA)
                  replace HR := Lib.hid (HR.out.keep HK_W7.out)
                  replace HK1 := Lib.hid (HK1.out.keep HK_W7.out)
                  replace HK2 := Lib.hid (HK2.out.keep HK_W7.out)
                  replace HL1 := Lib.hid (HL1.out.keep HK_W7.out)
                  replace HL2 := Lib.hid (HL2.out.keep HK_W7.out)
                  replace HB := Lib.hid (show Below wd.heap.size wd W7 by rw [← hW]; exact BlA)
                  replace hN : N ≤ W7.heap.size := by rw [← hW]; (first | omega | (simp; done) | (simp; omega))
                  replace hs0 : wd.heap.size ≤ W7.heap.size := by rw [← hW]; (first | omega | (simp; done) | (simp; omega))
                  replace hl_R : w.heap.size < W7.heap.size := by rw [← hW]; (first | omega | (simp; done) | (simp; omega))
                  replace hl_K : wt4.heap.size < W7.heap.size := by rw [← hW]; (first | omega | (simp; done) | (simp; omega))
                  have hl_A : wt6.heap.size < W7.heap.size := by rw [← hW]; (first | omega | (simp; done) | (simp; omega))
                  replace HW := Lib.hid (HW.out.below HL_W7.out)
                  replace HUS := Lib.hid (HUS.out.below HL_W7.out)
                  clear HL_W7
                  clear hW HK_W7
                  have HZ1 := Lib.hid (show rsz p1 ≤ 1 from rsz_int _ (by omega) p1 HPB.out.symm)
                  have HZ2 := Lib.hid (show rsz p2 ≤ 1 from rsz_int _ (by omega) p2 HPD.out.symm)
                  obtain ⟨p3, hp3⟩ : ∃ p : Rat, q * p2 = p := ⟨_, rfl⟩
                  have HP3 := Lib.hid hp3
                  obtain ⟨κ, hκ⟩ : ∃ κ, cmpQ p1 p3 = κ := ⟨_, rfl⟩
                  have HKA := Lib.hid hκ
                  have hk0 : ¬ (0 : Int) < κ := by rw [← hκ]; exact cmp_cap (by rw [HPB.out, ← hp3, HPD.out]; exact HCP.out)
                  have hkd : decide (κ > 0) = false := decide_eq_false hk0
                  have HZ3 := Lib.hid (show rsz p3 ≤ 21 by rw [← hp3]; exact Nat.le_trans (rsz_mul q p2) (by have := HR.out.rsz_le; have := HZ2.out; omega))
                  clear hp3 hκ
                  refine region_inv2 (by kernel_rfl) (CapJ N s a d na ca nd cd p1 p2 p3 rk rk2 rl rl2 ck ck2 cl cl2 κ (W7)) ?_ ?_ ?_ ?_
                  · exact ⟨u94, u95, u96, u97, u98, u99, u100, u101, u102, u103, u104, u105, u106, u107, by simp only [Act.put, List.setIfInBounds_toArray, List.set_cons_zero, List.set_cons_succ], Since.drawn _, (fun h => by cases h), (fun h => by cases h), (fun h => by cases h), (fun h => by cases h), (fun h => by cases h), (fun h => by cases h), (fun h => by cases h), (fun h => by cases h), (fun h => by cases h), (fun h => by cases h), (fun h => by cases h), (fun h => by cases h), (fun h => by cases h), (fun h => by cases h)⟩
                  · exact acyc_spec (by kernel_rfl)
                  · intro Ls a0 wq i o ho hLi hafter hJ
                    obtain ⟨u94, u95, u96, u97, u98, u99, u100, u101, u102, u103, u104, u105, u106, u107, rfl, hS, p0, p1, p2, p3, p4, p5, p6, p7, p8, p9, p10, p11, p12, p13⟩ := hJ
                    have hi : i < 14 := (Array.getElem?_eq_some_iff.1 ho).1
                    obtain rfl | rfl | rfl | rfl | rfl | rfl | rfl | rfl | rfl | rfl | rfl | rfl | rfl | rfl : i = 0 ∨ i = 1 ∨ i = 2 ∨ i = 3 ∨ i = 4 ∨ i = 5 ∨ i = 6 ∨ i = 7 ∨ i = 8 ∨ i = 9 ∨ i = 10 ∨ i = 11 ∨ i = 12 ∨ i = 13 := by omega
                    · simp only [List.getElem?_toArray, List.getElem?_cons_zero, Option.some.injEq] at ho
                      subst ho
                      have P0 := Lib.hid p0
                      have P1 := Lib.hid p1
                      have P2 := Lib.hid p2
                      have P3 := Lib.hid p3
                      have P4 := Lib.hid p4
                      have P5 := Lib.hid p5
                      have P6 := Lib.hid p6
                      have P7 := Lib.hid p7
                      have P8 := Lib.hid p8
                      have P9 := Lib.hid p9
                      have P10 := Lib.hid p10
                      have P11 := Lib.hid p11
                      have P12 := Lib.hid p12
                      have P13 := Lib.hid p13
                      have HS := Lib.hid hS
                      clear hS hLi hafter p0 p1 p2 p3 p4 p5 p6 p7 p8 p9 p10 p11 p12 p13
                      simp only [Act.put, List.setIfInBounds_toArray, List.set_cons_zero, List.set_cons_succ]
                      go_wp2_with fail
                      exact ⟨.bool true, u95, u96, u97, u98, u99, u100, u101, u102, u103, u104, u105, u106, u107, by simp only [Act.put, List.setIfInBounds_toArray, List.set_cons_zero, List.set_cons_succ], HS.out, (fun _ => rfl), (fun h => by first | rfl | exact P1.out (by simpa using h)), (fun h => by first | rfl | exact P2.out (by simpa using h)), (fun h => by first | rfl | exact P3.out (by simpa using h)), (fun h => by first | rfl | exact P4.out (by simpa using h)), (fun h => by first | rfl | exact P5.out (by simpa using h)), (fun h => by first | rfl | exact P6.out (by simpa using h)), (fun h => by first | rfl | exact P7.out (by simpa using h)), (fun h => by first | rfl | exact P8.out (by simpa using h)), (fun h => by first | rfl | exact P9.out (by simpa using h)), (fun h => P10.out (by simpa using h)), (fun h => by first | rfl | exact P11.out (by simpa using h)), (fun h => by first | rfl | exact P12.out (by simpa using h)), (fun h => by first | rfl | exact P13.out (by simpa using h))⟩
                    · simp only [List.getElem?_toArray, List.getElem?_cons_zero, List.getElem?_cons_succ, Option.some.injEq] at ho
                      subst ho
                      obtain rfl := p0 (hafter ⟨0, .data⟩ (by simp) rfl)
                      have P0 := Lib.hid p0
                      have P1 := Lib.hid p1
                      have P2 := Lib.hid p2
                      have P3 := Lib.hid p3
                      have P4 := Lib.hid p4
                      have P5 := Lib.hid p5
                      have P6 := Lib.hid p6
                      have P7 := Lib.hid p7
                      have P8 := Lib.hid p8
                      have P9 := Lib.hid p9
                      have P10 := Lib.hid p10
                      have P11 := Lib.hid p11
                      have P12 := Lib.hid p12
                      have P13 := Lib.hid p13
                      have HS := Lib.hid hS
                      clear hS hLi hafter p0 p1 p2 p3 p4 p5 p6 p7 p8 p9 p10 p11 p12 p13
                      simp only [Act.put, List.setIfInBounds_toArray, List.set_cons_zero, List.set_cons_succ]
                      go_wp2_with fail
                      exact ⟨.bool true, .bool false, u96, u97, u98, u99, u100, u101, u102, u103, u104, u105, u106, u107, by simp only [Act.put, List.setIfInBounds_toArray, List.set_cons_zero, List.set_cons_succ], HS.out, (fun h => by first | rfl | exact P0.out (by simpa using h)), (fun _ => rfl), (fun h => by first | rfl | exact P2.out (by simpa using h)), (fun h => by first | rfl | exact P3.out (by simpa using h)), (fun h => by first | rfl | exact P4.out (by simpa using h)), (fun h => by first | rfl | exact P5.out (by simpa using h)), (fun h => by first | rfl | exact P6.out (by simpa using h)), (fun h => by first | rfl | exact P7.out (by simpa using h)), (fun h => by first | rfl | exact P8.out (by simpa using h)), (fun h => by first | rfl | exact P9.out (by simpa using h)), (fun h => P10.out (by simpa using h)), (fun h => by first | rfl | exact P11.out (by simpa using h)), (fun h => by first | rfl | exact P12.out (by simpa using h)), (fun h => by first | rfl | exact P13.out (by simpa using h))⟩
                    · simp only [List.getElem?_toArray, List.getElem?_cons_zero, List.getElem?_cons_succ, Option.some.injEq] at ho
                      subst ho
                      obtain rfl := p1 (hafter ⟨1, .data⟩ (by simp) rfl)
                      have P0 := Lib.hid p0
                      have P1 := Lib.hid p1
                      have P2 := Lib.hid p2
                      have P3 := Lib.hid p3
                      have P4 := Lib.hid p4
                      have P5 := Lib.hid p5
                      have P6 := Lib.hid p6
                      have P7 := Lib.hid p7
                      have P8 := Lib.hid p8
                      have P9 := Lib.hid p9
                      have P10 := Lib.hid p10
                      have P11 := Lib.hid p11
                      have P12 := Lib.hid p12
                      have P13 := Lib.hid p13
                      have HS := Lib.hid hS
                      clear hS hLi hafter p0 p1 p2 p3 p4 p5 p6 p7 p8 p9 p10 p11 p12 p13
                      simp only [Act.put, List.setIfInBounds_toArray, List.set_cons_zero, List.set_cons_succ]
                      go_wp2_with fail
                      exact ⟨u94, .bool false, .bool false, u97, u98, u99, u100, u101, u102, u103, u104, u105, u106, u107, by simp only [Act.put, List.setIfInBounds_toArray, List.set_cons_zero, List.set_cons_succ], HS.out, (fun h => by first | rfl | exact P0.out (by simpa using h)), (fun h => by first | rfl | exact P1.out (by simpa using h)), (fun _ => rfl), (fun h => by first | rfl | exact P3.out (by simpa using h)), (fun h => by first | rfl | exact P4.out (by simpa using h)), (fun h => by first | rfl | exact P5.out (by simpa using h)), (fun h => by first | rfl | exact P6.out (by simpa using h)), (fun h => by first | rfl | exact P7.out (by simpa using h)), (fun h => by first | rfl | exact P8.out (by simpa using h)), (fun h => by first | rfl | exact P9.out (by simpa using h)), (fun h => P10.out (by simpa using h)), (fun h => by first | rfl | exact P11.out (by simpa using h)), (fun h => by first | rfl | exact P12.out (by simpa using h)), (fun h => by first | rfl | exact P13.out (by simpa using h))⟩
                    · simp only [List.getElem?_toArray, List.getElem?_cons_zero, List.getElem?_cons_succ, Option.some.injEq] at ho
                      subst ho
                      obtain rfl := p2 (hafter ⟨2, .guard⟩ (by simp) rfl)
                      have P0 := Lib.hid p0
                      have P1 := Lib.hid p1
                      have P2 := Lib.hid p2
                      have P3 := Lib.hid p3
                      have P4 := Lib.hid p4
                      have P5 := Lib.hid p5
                      have P6 := Lib.hid p6
                      have P7 := Lib.hid p7
                      have P8 := Lib.hid p8
                      have P9 := Lib.hid p9
                      have P10 := Lib.hid p10
                      have P11 := Lib.hid p11
                      have P12 := Lib.hid p12
                      have P13 := Lib.hid p13
                      have HS := Lib.hid hS
                      clear hS hLi hafter p0 p1 p2 p3 p4 p5 p6 p7 p8 p9 p10 p11 p12 p13
                      simp only [Act.put, List.setIfInBounds_toArray, List.set_cons_zero, List.set_cons_succ]
                      go_wp2_with fail
                      exact ⟨u94, u95, .bool false, .bool true, u98, u99, u100, u101, u102, u103, u104, u105, u106, u107, by simp only [Act.put, List.setIfInBounds_toArray, List.set_cons_zero, List.set_cons_succ], HS.out, (fun h => by first | rfl | exact P0.out (by simpa using h)), (fun h => by first | rfl | exact P1.out (by simpa using h)), (fun h => by first | rfl | exact P2.out (by simpa using h)), (fun _ => rfl), (fun h => by first | rfl | exact P4.out (by simpa using h)), (fun h => by first | rfl | exact P5.out (by simpa using h)), (fun h => by first | rfl | exact P6.out (by simpa using h)), (fun h => by first | rfl | exact P7.out (by simpa using h)), (fun h => by first | rfl | exact P8.out (by simpa using h)), (fun h => by first | rfl | exact P9.out (by simpa using h)), (fun h => P10.out (by simpa using h)), (fun h => by first | rfl | exact P11.out (by simpa using h)), (fun h => by first | rfl | exact P12.out (by simpa using h)), (fun h => by first | rfl | exact P13.out (by simpa using h))⟩
                    · simp only [List.getElem?_toArray, List.getElem?_cons_zero, List.getElem?_cons_succ, Option.some.injEq] at ho
                      subst ho
                      obtain rfl := p3 (hafter ⟨3, .data⟩ (by simp) rfl)
                      obtain rfl := p2 (hafter ⟨2, .guard⟩ (by simp) rfl)
                      have P0 := Lib.hid p0
                      have P1 := Lib.hid p1
                      have P2 := Lib.hid p2
                      have P3 := Lib.hid p3
                      have P4 := Lib.hid p4
                      have P5 := Lib.hid p5
                      have P6 := Lib.hid p6
                      have P7 := Lib.hid p7
                      have P8 := Lib.hid p8
                      have P9 := Lib.hid p9
                      have P10 := Lib.hid p10
                      have P11 := Lib.hid p11
                      have P12 := Lib.hid p12
                      have P13 := Lib.hid p13
                      have HS := Lib.hid hS
                      clear hS hLi hafter p0 p1 p2 p3 p4 p5 p6 p7 p8 p9 p10 p11 p12 p13
                      simp only [Act.put, List.setIfInBounds_toArray, List.set_cons_zero, List.set_cons_succ]
                      go_wp2_with fail
                      exact ⟨u94, u95, .bool false, .bool true, .bool false, u99, u100, u101, u102, u103, u104, u105, u106, u107, by simp only [Act.put, List.setIfInBounds_toArray, List.set_cons_zero, List.set_cons_succ], HS.out, (fun h => by first | rfl | exact P0.out (by simpa using h)), (fun h => by first | rfl | exact P1.out (by simpa using h)), (fun h => by first | rfl | exact P2.out (by simpa using h)), (fun h => by first | rfl | exact P3.out (by simpa using h)), (fun _ => rfl), (fun h => by first | rfl | exact P5.out (by simpa using h)), (fun h => by first | rfl | exact P6.out (by simpa using h)), (fun h => by first | rfl | exact P7.out (by simpa using h)), (fun h => by first | rfl | exact P8.out (by simpa using h)), (fun h => by first | rfl | exact P9.out (by simpa using h)), (fun h => P10.out (by simpa using h)), (fun h => by first | rfl | exact P11.out (by simpa using h)), (fun h => by first | rfl | exact P12.out (by simpa using h)), (fun h => by first | rfl | exact P13.out (by simpa using h))⟩
                    · simp only [List.getElem?_toArray, List.getElem?_cons_zero, List.getElem?_cons_succ, Option.some.injEq] at ho
                      subst ho
                      obtain rfl := p2 (hafter ⟨2, .data⟩ (by simp) rfl)
                      obtain rfl := p4 (hafter ⟨4, .data⟩ (by simp) rfl)
                      have P0 := Lib.hid p0
                      have P1 := Lib.hid p1
                      have P2 := Lib.hid p2
                      have P3 := Lib.hid p3
                      have P4 := Lib.hid p4
                      have P5 := Lib.hid p5
                      have P6 := Lib.hid p6
                      have P7 := Lib.hid p7
                      have P8 := Lib.hid p8
                      have P9 := Lib.hid p9
                      have P10 := Lib.hid p10
                      have P11 := Lib.hid p11
                      have P12 := Lib.hid p12
                      have P13 := Lib.hid p13
                      have HS := Lib.hid hS
                      clear hS hLi hafter p0 p1 p2 p3 p4 p5 p6 p7 p8 p9 p10 p11 p12 p13
                      simp only [Act.put, List.setIfInBounds_toArray, List.set_cons_zero, List.set_cons_succ]
                      go_wp2_with fail
                      exact ⟨u94, u95, .bool false, u97, .bool false, .bool false, u100, u101, u102, u103, u104, u105, u106, u107, by simp only [Act.put, List.setIfInBounds_toArray, List.set_cons_zero, List.set_cons_succ], HS.out, (fun h => by first | rfl | exact P0.out (by simpa using h)), (fun h => by first | rfl | exact P1.out (by simpa using h)), (fun h => by first | rfl | exact P2.out (by simpa using h)), (fun h => by first | rfl | exact P3.out (by simpa using h)), (fun h => by first | rfl | exact P4.out (by simpa using h)), (fun _ => rfl), (fun h => by first | rfl | exact P6.out (by simpa using h)), (fun h => by first | rfl | exact P7.out (by simpa using h)), (fun h => by first | rfl | exact P8.out (by simpa using h)), (fun h => by first | rfl | exact P9.out (by simpa using h)), (fun h => P10.out (by simpa using h)), (fun h => by first | rfl | exact P11.out (by simpa using h)), (fun h => by first | rfl | exact P12.out (by simpa using h)), (fun h => by first | rfl | exact P13.out (by simpa using h))⟩
                    · simp only [List.getElem?_toArray, List.getElem?_cons_zero, List.getElem?_cons_succ, Option.some.injEq] at ho
                      subst ho
                      obtain rfl := p5 (hafter ⟨5, .data⟩ (by simp) rfl)
                      have P0 := Lib.hid p0
                      have P1 := Lib.hid p1
                      have P2 := Lib.hid p2
                      have P3 := Lib.hid p3
                      have P4 := Lib.hid p4
                      have P5 := Lib.hid p5
                      have P6 := Lib.hid p6
                      have P7 := Lib.hid p7
                      have P8 := Lib.hid p8
                      have P9 := Lib.hid p9
                      have P10 := Lib.hid p10
                      have P11 := Lib.hid p11
                      have P12 := Lib.hid p12
                      have P13 := Lib.hid p13
                      have HS := Lib.hid hS
                      clear hS hLi hafter p0 p1 p2 p3 p4 p5 p6 p7 p8 p9 p10 p11 p12 p13
                      simp only [Act.put, List.setIfInBounds_toArray, List.set_cons_zero, List.set_cons_succ]
                      go_wp2_with fail
                      exact ⟨u94, u95, u96, u97, u98, .bool false, .bool false, u101, u102, u103, u104, u105, u106, u107, by simp only [Act.put, List.setIfInBounds_toArray, List.set_cons_zero, List.set_cons_succ], HS.out, (fun h => by first | rfl | exact P0.out (by simpa using h)), (fun h => by first | rfl | exact P1.out (by simpa using h)), (fun h => by first | rfl | exact P2.out (by simpa using h)), (fun h => by first | rfl | exact P3.out (by simpa using h)), (fun h => by first | rfl | exact P4.out (by simpa using h)), (fun h => by first | rfl | exact P5.out (by simpa using h)), (fun _ => rfl), (fun h => by first | rfl | exact P7.out (by simpa using h)), (fun h => by first | rfl | exact P8.out (by simpa using h)), (fun h => by first | rfl | exact P9.out (by simpa using h)), (fun h => P10.out (by simpa using h)), (fun h => by first | rfl | exact P11.out (by simpa using h)), (fun h => by first | rfl | exact P12.out (by simpa using h)), (fun h => by first | rfl | exact P13.out (by simpa using h))⟩
                    · simp only [List.getElem?_toArray, List.getElem?_cons_zero, List.getElem?_cons_succ, Option.some.injEq] at ho
                      subst ho
                      obtain rfl := p6 (hafter ⟨6, .guard⟩ (by simp) rfl)
                      have c0 := (hS.1.cell (p := ⟨wt4.heap.size, 0, none⟩) hl_K).trans k_K_0
                      have c1 := (hS.1.cell (p := ⟨wt4.heap.size, 1, none⟩) hl_K).trans k_K_1
                      have c2 := (hS.1.cell (p := ⟨wt4.heap.size, 2, none⟩) hl_K).trans k_K_2
                      have P0 := Lib.hid p0
                      have P1 := Lib.hid p1
                      have P2 := Lib.hid p2
                      have P3 := Lib.hid p3
                      have P4 := Lib.hid p4
                      have P5 := Lib.hid p5
                      have P6 := Lib.hid p6
                      have P7 := Lib.hid p7
                      have P8 := Lib.hid p8
                      have P9 := Lib.hid p9
                      have P10 := Lib.hid p10
                      have P11 := Lib.hid p11
                      have P12 := Lib.hid p12
                      have P13 := Lib.hid p13
                      have HS := Lib.hid hS
                      clear hS hLi hafter p0 p1 p2 p3 p4 p5 p6 p7 p8 p9 p10 p11 p12 p13
                      simp only [Act.put, List.setIfInBounds_toArray, List.set_cons_zero, List.set_cons_succ]
                      go_wp2_with fail
                      exact ⟨u94, u95, u96, u97, u98, u99, .bool false, .agg #[.bool (decide ((p1).num < 0)), .slice rk (nlen (p1).num.natAbs) ck, .slice rk2 (nlen (p1).den) ck2], u102, u103, u104, u105, u106, u107, by simp only [Act.put, List.setIfInBounds_toArray, List.set_cons_zero, List.set_cons_succ], HS.out, (fun h => by first | rfl | exact P0.out (by simpa using h)), (fun h => by first | rfl | exact P1.out (by simpa using h)), (fun h => by first | rfl | exact P2.out (by simpa using h)), (fun h => by first | rfl | exact P3.out (by simpa using h)), (fun h => by first | rfl | exact P4.out (by simpa using h)), (fun h => by first | rfl | exact P5.out (by simpa using h)), (fun h => by first | rfl | exact P6.out (by simpa using h)), (fun _ => rfl), (fun h => by first | rfl | exact P8.out (by simpa using h)), (fun h => by first | rfl | exact P9.out (by simpa using h)), (fun h => P10.out (by simpa using h)), (fun h => by first | rfl | exact P11.out (by simpa using h)), (fun h => by first | rfl | exact P12.out (by simpa using h)), (fun h => by first | rfl | exact P13.out (by simpa using h))⟩
                    · simp only [List.getElem?_toArray, List.getElem?_cons_zero, List.getElem?_cons_succ, Option.some.injEq] at ho
                      subst ho
                      obtain rfl := p6 (hafter ⟨6, .guard⟩ (by simp) rfl)
                      have c0 := (hS.1.cell (p := ⟨w.heap.size, 0, none⟩) hl_R).trans k_R_0
                      have c1 := (hS.1.cell (p := ⟨w.heap.size, 1, none⟩) hl_R).trans k_R_1
                      have c2 := (hS.1.cell (p := ⟨w.heap.size, 2, none⟩) hl_R).trans k_R_2
                      have P0 := Lib.hid p0
                      have P1 := Lib.hid p1
                      have P2 := Lib.hid p2
                      have P3 := Lib.hid p3
                      have P4 := Lib.hid p4
                      have P5 := Lib.hid p5
                      have P6 := Lib.hid p6
                      have P7 := Lib.hid p7
                      have P8 := Lib.hid p8
                      have P9 := Lib.hid p9
                      have P10 := Lib.hid p10
                      have P11 := Lib.hid p11
                      have P12 := Lib.hid p12
                      have P13 := Lib.hid p13
                      have HS := Lib.hid hS
                      clear hS hLi hafter p0 p1 p2 p3 p4 p5 p6 p7 p8 p9 p10 p11 p12 p13
                      simp only [Act.put, List.setIfInBounds_toArray, List.set_cons_zero, List.set_cons_succ]
                      go_wp2_with fail
                      exact ⟨u94, u95, u96, u97, u98, u99, .bool false, u101, .agg #[.bool s, .slice a na ca, .slice d nd cd], u103, u104, u105, u106, u107, by simp only [Act.put, List.setIfInBounds_toArray, List.set_cons_zero, List.set_cons_succ], HS.out, (fun h => by first | rfl | exact P0.out (by simpa using h)), (fun h => by first | rfl | exact P1.out (by simpa using h)), (fun h => by first | rfl | exact P2.out (by simpa using h)), (fun h => by first | rfl | exact P3.out (by simpa using h)), (fun h => by first | rfl | exact P4.out (by simpa using h)), (fun h => by first | rfl | exact P5.out (by simpa using h)), (fun h => by first | rfl | exact P6.out (by simpa using h)), (fun h => by first | rfl | exact P7.out (by simpa using h)), (fun _ => rfl), (fun h => by first | rfl | exact P9.out (by simpa using h)), (fun h => P10.out (by simpa using h)), (fun h => by first | rfl | exact P11.out (by simpa using h)), (fun h => by first | rfl | exact P12.out (by simpa using h)), (fun h => by first | rfl | exact P13.out (by simpa using h))⟩
                    · simp only [List.getElem?_toArray, List.getElem?_cons_zero, List.getElem?_cons_succ, Option.some.injEq] at ho
                      subst ho
                      obtain rfl := p6 (hafter ⟨6, .guard⟩ (by simp) rfl)
                      have c0 := (hS.1.cell (p := ⟨wt6.heap.size, 0, none⟩) hl_A).trans k_A_0
                      have c1 := (hS.1.cell (p := ⟨wt6.heap.size, 1, none⟩) hl_A).trans k_A_1
                      have c2 := (hS.1.cell (p := ⟨wt6.heap.size, 2, none⟩) hl_A).trans k_A_2
                      have P0 := Lib.hid p0
                      have P1 := Lib.hid p1
                      have P2 := Lib.hid p2
                      have P3 := Lib.hid p3
                      have P4 := Lib.hid p4
                      have P5 := Lib.hid p5
                      have P6 := Lib.hid p6
                      have P7 := Lib.hid p7
                      have P8 := Lib.hid p8
                      have P9 := Lib.hid p9
                      have P10 := Lib.hid p10
                      have P11 := Lib.hid p11
                      have P12 := Lib.hid p12
                      have P13 := Lib.hid p13
                      have HS := Lib.hid hS
                      clear hS hLi hafter p0 p1 p2 p3 p4 p5 p6 p7 p8 p9 p10 p11 p12 p13
                      simp only [Act.put, List.setIfInBounds_toArray, List.set_cons_zero, List.set_cons_succ]
                      go_wp2_with fail
                      exact ⟨u94, u95, u96, u97, u98, u99, .bool false, u101, u102, .agg #[.bool (decide ((p2).num < 0)), .slice rl (nlen (p2).num.natAbs) cl, .slice rl2 (nlen (p2).den) cl2], u104, u105, u106, u107, by simp only [Act.put, List.setIfInBounds_toArray, List.set_cons_zero, List.set_cons_succ], HS.out, (fun h => by first | rfl | exact P0.out (by simpa using h)), (fun h => by first | rfl | exact P1.out (by simpa using h)), (fun h => by first | rfl | exact P2.out (by simpa using h)), (fun h => by first | rfl | exact P3.out (by simpa using h)), (fun h => by first | rfl | exact P4.out (by simpa using h)), (fun h => by first | rfl | exact P5.out (by simpa using h)), (fun h => by first | rfl | exact P6.out (by simpa using h)), (fun h => by first | rfl | exact P7.out (by simpa using h)), (fun h => by first | rfl | exact P8.out (by simpa using h)), (fun _ => rfl), (fun h => P10.out (by simpa using h)), (fun h => by first | rfl | exact P11.out (by simpa using h)), (fun h => by first | rfl | exact P12.out (by simpa using h)), (fun h => by first | rfl | exact P13.out (by simpa using h))⟩
                    · simp only [List.getElem?_toArray, List.getElem?_cons_zero, List.getElem?_cons_succ, Option.some.injEq] at ho
                      subst ho
                      obtain rfl := p8 (hafter ⟨8, .data⟩ (by simp) rfl)
                      obtain rfl := p9 (hafter ⟨9, .data⟩ (by simp) rfl)
                      obtain rfl := p6 (hafter ⟨6, .guard⟩ (by simp) rfl)
                      have P0 := Lib.hid p0
                      have P1 := Lib.hid p1
                      have P2 := Lib.hid p2
                      have P3 := Lib.hid p3
                      have P4 := Lib.hid p4
                      have P5 := Lib.hid p5
                      have P6 := Lib.hid p6
                      have P7 := Lib.hid p7
                      have P8 := Lib.hid p8
                      have P9 := Lib.hid p9
                      have P10 := Lib.hid p10
                      have P11 := Lib.hid p11
                      have P12 := Lib.hid p12
                      have P13 := Lib.hid p13
                      have HS := Lib.hid hS
                      clear hS hLi hafter p0 p1 p2 p3 p4 p5 p6 p7 p8 p9 p10 p11 p12 p13
                      simp only [Act.put, List.setIfInBounds_toArray, List.set_cons_zero, List.set_cons_succ]
                      go_wp2_with fail
                      refine (rmul_any (N := N) _ _ _ _ _ _ _ _ _ _ _ _ _ _ 20 1 q p2 _ (by have := HS.out.2; omega) (HR.out.below HS.out.1) ((Rt.of_norm HL1.out HL2.out 1 HZ2.out).below HS.out.1) (by decide) (by decide) p3 HP3.out).mono ?_
                      rintro e wn ⟨r, c, r2, c2, rfl, hn, hn', hb⟩
                      have HN := Lib.hid hn
                      have HM := Lib.hid hn'
                      have Hb := Lib.hid hb
                      clear hn hn' hb
                      go_wp2_with fail
                      exact ⟨u94, u95, u96, u97, u98, u99, .bool false, u101, .agg #[.bool s, .slice a na ca, .slice d nd cd], .agg #[.bool (decide ((p2).num < 0)), .slice rl (nlen (p2).num.natAbs) cl, .slice rl2 (nlen (p2).den) cl2], _, u105, u106, u107, by simp only [Act.put, List.setIfInBounds_toArray, List.set_cons_zero, List.set_cons_succ], HS.out.below Hb.out, (fun h => by first | rfl | exact P0.out (by simpa using h)), (fun h => by first | rfl | exact P1.out (by simpa using h)), (fun h => by first | rfl | exact P2.out (by simpa using h)), (fun h => by first | rfl | exact P3.out (by simpa using h)), (fun h => by first | rfl | exact P4.out (by simpa using h)), (fun h => by first | rfl | exact P5.out (by simpa using h)), (fun h => by first | rfl | exact P6.out (by simpa using h)), (fun h => by first | rfl | exact P7.out (by simpa using h)), (fun h => by first | rfl | exact P8.out (by simpa using h)), (fun h => by first | rfl | exact P9.out (by simpa using h)), (fun _ => ⟨r, c, r2, c2, rfl, HN.out, HM.out⟩), (fun h => by first | rfl | exact P11.out (by simpa using h)), (fun h => by first | rfl | exact P12.out (by simpa using h)), (fun h => by first | rfl | exact P13.out (by simpa using h))⟩
                    · simp only [List.getElem?_toArray, List.getElem?_cons_zero, List.getElem?_cons_succ, Option.some.injEq] at ho
                      subst ho
                      obtain rfl := p7 (hafter ⟨7, .data⟩ (by simp) rfl)
                      obtain rfl := p6 (hafter ⟨6, .guard⟩ (by simp) rfl)
                      have HQ10 := Lib.hid (p10 (hafter ⟨10, .data⟩ (by simp) rfl))
                      have P0 := Lib.hid p0
                      have P1 := Lib.hid p1
                      have P2 := Lib.hid p2
                      have P3 := Lib.hid p3
                      have P4 := Lib.hid p4
                      have P5 := Lib.hid p5
                      have P6 := Lib.hid p6
                      have P7 := Lib.hid p7
                      have P8 := Lib.hid p8
                      have P9 := Lib.hid p9
                      have P10 := Lib.hid p10
                      have P11 := Lib.hid p11
                      have P12 := Lib.hid p12
                      have P13 := Lib.hid p13
                      have HS := Lib.hid hS
                      clear hS hLi hafter p0 p1 p2 p3 p4 p5 p6 p7 p8 p9 p10 p11 p12 p13
                      simp only [Act.put, List.setIfInBounds_toArray, List.set_cons_zero, List.set_cons_succ]
                      go_wp2_with fail
                      refine (rcmp_is (N := N) _ _ _ _ _ _ _ 1 p1 p3 _ _ (by have := HS.out.2; omega) ((Rt.of_norm HK1.out HK2.out 1 HZ1.out).below HS.out.1) (by decide) HQ10.out HZ3.out κ HKA.out).mono ?_
                      rintro e wn ⟨rfl, hb⟩
                      have Hb := Lib.hid hb
                      clear hb
                      go_wp2_with fail
                      exact ⟨u94, u95, u96, u97, u98, u99, .bool false, .agg #[.bool (decide ((p1).num < 0)), .slice rk (nlen (p1).num.natAbs) ck, .slice rk2 (nlen (p1).den) ck2], u102, u103, _, .int .i64 κ, u106, u107, by simp only [Act.put, List.setIfInBounds_toArray, List.set_cons_zero, List.set_cons_succ], HS.out.below Hb.out, (fun h => by first | rfl | exact P0.out (by simpa using h)), (fun h => by first | rfl | exact P1.out (by simpa using h)), (fun h => by first | rfl | exact P2.out (by simpa using h)), (fun h => by first | rfl | exact P3.out (by simpa using h)), (fun h => by first | rfl | exact P4.out (by simpa using h)), (fun h => by first | rfl | exact P5.out (by simpa using h)), (fun h => by first | rfl | exact P6.out (by simpa using h)), (fun h => by first | rfl | exact P7.out (by simpa using h)), (fun h => by first | rfl | exact P8.out (by simpa using h)), (fun h => by first | rfl | exact P9.out (by simpa using h)), (fun h => (P10.out (by simpa using h)).below Hb.out), (fun _ => rfl), (fun h => by first | rfl | exact P12.out (by simpa using h)), (fun h => by first | rfl | exact P13.out (by simpa using h))⟩
                    · simp only [List.getElem?_toArray, List.getElem?_cons_zero, List.getElem?_cons_succ, Option.some.injEq] at ho
                      subst ho
                      obtain rfl := p11 (hafter ⟨11, .data⟩ (by simp) rfl)
                      obtain rfl := p6 (hafter ⟨6, .guard⟩ (by simp) rfl)
                      have P0 := Lib.hid p0
                      have P1 := Lib.hid p1
                      have P2 := Lib.hid p2
                      have P3 := Lib.hid p3
                      have P4 := Lib.hid p4
                      have P5 := Lib.hid p5
                      have P6 := Lib.hid p6
                      have P7 := Lib.hid p7
                      have P8 := Lib.hid p8
                      have P9 := Lib.hid p9
                      have P10 := Lib.hid p10
                      have P11 := Lib.hid p11
                      have P12 := Lib.hid p12
                      have P13 := Lib.hid p13
                      have HS := Lib.hid hS
                      clear hS hLi hafter p0 p1 p2 p3 p4 p5 p6 p7 p8 p9 p10 p11 p12 p13
                      simp only [Act.put, List.setIfInBounds_toArray, List.set_cons_zero, List.set_cons_succ]
                      go_wp2_with fail
                      exact ⟨u94, u95, u96, u97, u98, u99, .bool false, u101, u102, u103, u104, .int .i64 κ, .bool false, u107, by simp only [Act.put, List.setIfInBounds_toArray, List.set_cons_zero, List.set_cons_succ], HS.out, (fun h => by first | rfl | exact P0.out (by simpa using h)), (fun h => by first | rfl | exact P1.out (by simpa using h)), (fun h => by first | rfl | exact P2.out (by simpa using h)), (fun h => by first | rfl | exact P3.out (by simpa using h)), (fun h => by first | rfl | exact P4.out (by simpa using h)), (fun h => by first | rfl | exact P5.out (by simpa using h)), (fun h => by first | rfl | exact P6.out (by simpa using h)), (fun h => by first | rfl | exact P7.out (by simpa using h)), (fun h => by first | rfl | exact P8.out (by simpa using h)), (fun h => by first | rfl | exact P9.out (by simpa using h)), (fun h => P10.out (by simpa using h)), (fun h => by first | rfl | exact P11.out (by simpa using h)), (fun _ => rfl), (fun h => by first | rfl | exact P13.out (by simpa using h))⟩
                    · simp only [List.getElem?_toArray, List.getElem?_cons_zero, List.getElem?_cons_succ, Option.some.injEq] at ho
                      subst ho
                      obtain rfl := p6 (hafter ⟨6, .data⟩ (by simp) rfl)
                      obtain rfl := p12 (hafter ⟨12, .data⟩ (by simp) rfl)
                      have P0 := Lib.hid p0
                      have P1 := Lib.hid p1
                      have P2 := Lib.hid p2
                      have P3 := Lib.hid p3
                      have P4 := Lib.hid p4
                      have P5 := Lib.hid p5
                      have P6 := Lib.hid p6
                      have P7 := Lib.hid p7
                      have P8 := Lib.hid p8
                      have P9 := Lib.hid p9
                      have P10 := Lib.hid p10
                      have P11 := Lib.hid p11
                      have P12 := Lib.hid p12
                      have P13 := Lib.hid p13
                      have HS := Lib.hid hS
                      clear hS hLi hafter p0 p1 p2 p3 p4 p5 p6 p7 p8 p9 p10 p11 p12 p13
                      simp only [Act.put, List.setIfInBounds_toArray, List.set_cons_zero, List.set_cons_succ]
                      go_wp2_with fail
                      exact ⟨u94, u95, u96, u97, u98, u99, .bool false, u101, u102, u103, u104, u105, .bool false, .bool false, by simp only [Act.put, List.setIfInBounds_toArray, List.set_cons_zero, List.set_cons_succ], HS.out, (fun h => by first | rfl | exact P0.out (by simpa using h)), (fun h => by first | rfl | exact P1.out (by simpa using h)), (fun h => by first | rfl | exact P2.out (by simpa using h)), (fun h => by first | rfl | exact P3.out (by simpa using h)), (fun h => by first | rfl | exact P4.out (by simpa using h)), (fun h => by first | rfl | exact P5.out (by simpa using h)), (fun h => by first | rfl | exact P6.out (by simpa using h)), (fun h => by first | rfl | exact P7.out (by simpa using h)), (fun h => by first | rfl | exact P8.out (by simpa using h)), (fun h => by first | rfl | exact P9.out (by simpa using h)), (fun h => P10.out (by simpa using h)), (fun h => by first | rfl | exact P11.out (by simpa using h)), (fun h => by first | rfl | exact P12.out (by simpa using h)), (fun _ => rfl)⟩
                  · intro Ls a0 wq hall hJ
                    obtain ⟨u94, u95, u96, u97, u98, u99, u100, u101, u102, u103, u104, u105, u106, u107, rfl, hS, p0, p1, p2, p3, p4, p5, p6, p7, p8, p9, p10, p11, p12, p13⟩ := hJ
                    replace p0 := p0 (hall 0 (by decide))
                    replace p1 := p1 (hall 1 (by decide))
                    replace p2 := p2 (hall 2 (by decide))
                    replace p3 := p3 (hall 3 (by decide))
                    replace p4 := p4 (hall 4 (by decide))
                    replace p5 := p5 (hall 5 (by decide))
                    replace p6 := p6 (hall 6 (by decide))
                    replace p7 := p7 (hall 7 (by decide))
                    replace p8 := p8 (hall 8 (by decide))
                    replace p9 := p9 (hall 9 (by decide))
                    replace p10 := p10 (hall 10 (by decide))
                    replace p11 := p11 (hall 11 (by decide))
                    replace p12 := p12 (hall 12 (by decide))
                    replace p13 := p13 (hall 13 (by decide))
                    have hb := hS.1
                    subst p13
                    clear hall hS p0 p1 p2 p3 p4 p5 p6 p7 p8 p9 p10 p11 p12
                    have HBz := Lib.hid (HB.out.trans (hb.mono hs0))
                    have HUSz := Lib.hid (HUS.out.below hb)
                    clear hb
                    simp only [Act.put, List.setIfInBounds_toArray, List.set_cons_zero, List.set_cons_succ]
                    go_wp2_with fail
                    go_roundw
                    case rel => exact ⟨k + 1, c, by omega, by go_num, by omega, by omega, ⟨_, _, by first | rfl | (rw [HLN.out]), by first | exact HUSz.out | (rw [HLN.out]; exact HUSz.out)⟩, Lib.hid (by rw [show ((((k + 1 : Nat) : Int) + slack : Int)) = (k : Int) + 1 + slack by omega]; exact HCP.out), HBz.out⟩
                    case measure => simp [intOf]; omega
                · obtain ⟨eb, heb⟩ : ∃ b, elig c k q slack = b := ⟨_, rfl⟩
                  have HEB := Lib.hid heb
                  clear heb
                  go_wp2_with fail
                  refine calls_name fun W5a hW => ?_
                  have HL_W5a := Lib.hid (show Below we.heap.size we W5a by rw [← hW]; exact BlA)
                  have hs_W5a : we.heap.size ≤ W5a.heap.size := by rw [← hW]; (first | omega | (simp; done) | (simp; omega))
                  have HK_W5a := Lib.hid (show Kp N we W5a by rw [← hW]; exact KpA)
                  replace k_R_0 : W5a.cell? ⟨w.heap.size, 0, none⟩ = some (.bool s) := (HL_W5a.out.cell (p := ⟨w.heap.size, 0, none⟩) hl_R).trans k_R_0
                  replace k_R_1 : W5a.cell? ⟨w.heap.size, 1, none⟩ = some (.slice a na ca) := (HL_W5a.out.cell (p := ⟨w.heap.size, 1, none⟩) hl_R).trans k_R_1
                  replace k_R_2 : W5a.cell? ⟨w.heap.size, 2, none⟩ = some (.slice d nd cd) := (HL_W5a.out.cell (p := ⟨w.heap.size, 2, none⟩) hl_R).trans k_R_2
                  replace f_R : ∀ o, W5a.frozen? ⟨w.heap.size, o, none⟩ = false := fun o => (HL_W5a.out.frozen (p := ⟨w.heap.size, o, none⟩) hl_R).trans (f_R o)
                  replace HX_R := Lib.hid (show Bn W5a (w.heap.size) by rw [← hW]; exact KpA)
                  replace HR := Lib.hid (HR.out.keep HK_W5a.out)
                  replace HB := Lib.hid (show Below wd.heap.size wd W5a by rw [← hW]; exact BlA)
                  replace hN : N ≤ W5a.heap.size := by rw [← hW]; (first | omega | (simp; done) | (simp; omega))
                  replace hs0 : wd.heap.size ≤ W5a.heap.size := by rw [← hW]; (first | omega | (simp; done) | (simp; omega))
                  replace hl_R : w.heap.size < W5a.heap.size := by rw [← hW]; (first | omega | (simp; done) | (simp; omega))
                  replace HW := Lib.hid (HW.out.below HL_W5a.out)
                  replace HUS := Lib.hid (HUS.out.below HL_W5a.out)
                  clear HL_W5a
                  clear hW HK_W5a
                  refine (elig_any (N := N) c k slack s a d na ca nd cd 20 q _ hN HR.out (by decide)).mono ?_
                  rw [HEB.out]
                  rintro e wf ⟨rfl, hb⟩
                  have hs_wf : W5a.heap.size ≤ wf.heap.size := hb.size
                  replace k_R_0 : wf.cell? ⟨w.heap.size, 0, none⟩ = some (.bool s) := (hb.cell (p := ⟨w.heap.size, 0, none⟩) hl_R).trans k_R_0
                  replace k_R_1 : wf.cell? ⟨w.heap.size, 1, none⟩ = some (.slice a na ca) := (hb.cell (p := ⟨w.heap.size, 1, none⟩) hl_R).trans k_R_1
                  replace k_R_2 : wf.cell? ⟨w.heap.size, 2, none⟩ = some (.slice d nd cd) := (hb.cell (p := ⟨w.heap.size, 2, none⟩) hl_R).trans k_R_2
                  replace f_R : ∀ o, wf.frozen? ⟨w.heap.size, o, none⟩ = false := fun o => (hb.frozen (p := ⟨w.heap.size, o, none⟩) hl_R).trans (f_R o)
                  replace HX_R := Lib.hid (HX_R.out.below hb)
                  replace HR := Lib.hid (HR.out.below hb)
                  replace HB := Lib.hid (HB.out.trans (hb.mono hs0))
                  replace hN : N ≤ wf.heap.size := Nat.le_trans hN hb.size
                  replace hs0 : wd.heap.size ≤ wf.heap.size := Nat.le_trans hs0 hb.size
                  replace hl_R : w.heap.size < wf.heap.size := Nat.lt_of_lt_of_le hl_R hb.size
                  replace HW := Lib.hid (HW.out.below hb)
                  replace HUS := Lib.hid (HUS.out.below hb)
                  clear hb
                  cases eb
                  · have HCNt := HCN
                    have HCP := Lib.hid (cap_step HQ0.out hcq.out)
                    go_wp2_with fail
                    refine calls_name fun W8 hW => ?_
                    have HL_W8 := Lib.hid (show Below wf.heap.size wf W8 by rw [← hW]; exact BlA)
                    have hs_W8 : wf.heap.size ≤ W8.heap.size := by rw [← hW]; (first | omega | (simp; done) | (simp; omega))
                    have HK_W8 := Lib.hid (show Kp N wf W8 by rw [← hW]; exact KpA)
                    replace k_R_0 : W8.cell? ⟨w.heap.size, 0, none⟩ = some (.bool s) := (HL_W8.out.cell (p := ⟨w.heap.size, 0, none⟩) hl_R).trans k_R_0
                    replace k_R_1 : W8.cell? ⟨w.heap.size, 1, none⟩ = some (.slice a na ca) := (HL_W8.out.cell (p := ⟨w.heap.size, 1, none⟩) hl_R).trans k_R_1
                    replace k_R_2 : W8.cell? ⟨w.heap.size, 2, none⟩ = some (.slice d nd cd) := (HL_W8.out.cell (p := ⟨w.heap.size, 2, none⟩) hl_R).trans k_R_2
                    replace f_R : ∀ o, W8.frozen? ⟨w.heap.size, o, none⟩ = false := fun o => (HL_W8.out.frozen (p := ⟨w.heap.size, o, none⟩) hl_R).trans (f_R o)
                    replace HX_R := Lib.hid (show Bn W8 (w.heap.size) by rw [← hW]; exact KpA)
                    replace HR := Lib.hid (HR.out.keep HK_W8.out)
                    replace HB := Lib.hid (show Below wd.heap.size wd W8 by rw [← hW]; exact BlA)
                    replace hN : N ≤ W8.heap.size := by rw [← hW]; (first | omega | (simp; done) | (simp; omega))
                    replace hs0 : wd.heap.size ≤ W8.heap.size := by rw [← hW]; (first | omega | (simp; done) | (simp; omega))
                    replace hl_R : w.heap.size < W8.heap.size := by rw [← hW]; (first | omega | (simp; done) | (simp; omega))
                    replace HW := Lib.hid (HW.out.below HL_W8.out)
                    replace HUS := Lib.hid (HUS.out.below HL_W8.out)
                    clear HL_W8
                    clear hW HK_W8
                    refine (count_any _ _ _ (itR c) (ctR c) 7 _ HUS.out).mono ?_
                    rw [HCNt.out]
                    rintro e wt9 ⟨rfl, hb⟩
                    have hs_wt9 : W8.heap.size ≤ wt9.heap.size := hb.size
                    replace k_R_0 : wt9.cell? ⟨w.heap.size, 0, none⟩ = some (.bool s) := (hb.cell (p := ⟨w.heap.size, 0, none⟩) hl_R).trans k_R_0
                    replace k_R_1 : wt9.cell? ⟨w.heap.size, 1, none⟩ = some (.slice a na ca) := (hb.cell (p := ⟨w.heap.size, 1, none⟩) hl_R).trans k_R_1
                    replace k_R_2 : wt9.cell? ⟨w.heap.size, 2, none⟩ = some (.slice d nd cd) := (hb.cell (p := ⟨w.heap.size, 2, none⟩) hl_R).trans k_R_2
                    replace f_R : ∀ o, wt9.frozen? ⟨w.heap.size, o, none⟩ = false := fun o => (hb.frozen (p := ⟨w.heap.size, o, none⟩) hl_R).trans (f_R o)
                    replace HX_R := Lib.hid (HX_R.out.below hb)
                    replace HR := Lib.hid (HR.out.below hb)
                    replace HB := Lib.hid (HB.out.trans (hb.mono hs0))
                    replace hN : N ≤ wt9.heap.size := Nat.le_trans hN hb.size
                    replace hs0 : wd.heap.size ≤ wt9.heap.size := Nat.le_trans hs0 hb.size
                    replace hl_R : w.heap.size < wt9.heap.size := Nat.lt_of_lt_of_le hl_R hb.size
                    replace HW := Lib.hid (HW.out.below hb)
                    replace HUS := Lib.hid (HUS.out.below hb)
                    clear hb
                    go_wp2_with fail
                    obtain ⟨p1, hp1⟩ : ∃ p : Rat, ((c : Int) : Rat) / ((1 : Int) : Rat) = p := ⟨_, rfl⟩
                    have HPA := Lib.hid ((mk_div _ 1).trans hp1)
                    have HPB := Lib.hid (rat_one _ _ hp1)
                    clear hp1
                    refine calls_name fun W10 hW => ?_
                    have HL_W10 := Lib.hid (show Below wt9.heap.size wt9 W10 by rw [← hW]; exact BlA)
                    have hs_W10 : wt9.heap.size ≤ W10.heap.size := by rw [← hW]; (first | omega | (simp; done) | (simp; omega))
                    have HK_W10 := Lib.hid (show Kp N wt9 W10 by rw [← hW]; exact KpA)
                    replace k_R_0 : W10.cell? ⟨w.heap.size, 0, none⟩ = some (.bool s) := (HL_W10.out.cell (p := ⟨w.heap.size, 0, none⟩) hl_R).trans k_R_0
                    replace k_R_1 : W10.cell? ⟨w.heap.size, 1, none⟩ = some (.slice a na ca) := (HL_W10.out.cell (p := ⟨w.heap.size, 1, none⟩) hl_R).trans k_R_1
                    replace k_R_2 : W10.cell? ⟨w.heap.size, 2, none⟩ = some (.slice d nd cd) := (HL_W10.out.cell (p := ⟨w.heap.size, 2, none⟩) hl_R).trans k_R_2
                    replace f_R : ∀ o, W10.frozen? ⟨w.heap.size, o, none⟩ = false := fun o => (HL_W10.out.frozen (p := ⟨w.heap.size, o, none⟩) hl_R).trans (f_R o)
                    replace HX_R := Lib.hid (show Bn W10 (w.heap.size) by rw [← hW]; exact KpA)
                    replace HR := Lib.hid (HR.out.keep HK_W10.out)
                    replace HB := Lib.hid (show Below wd.heap.size wd W10 by rw [← hW]; exact BlA)
                    replace hN : N ≤ W10.heap.size := by rw [← hW]; (first | omega | (simp; done) | (simp; omega))
                    replace hs0 : wd.heap.size ≤ W10.heap.size := by rw [← hW]; (first | omega | (simp; done) | (simp; omega))
                    replace hl_R : w.heap.size < W10.heap.size := by rw [← hW]; (first | omega | (simp; done) | (simp; omega))
                    replace HW := Lib.hid (HW.out.below HL_W10.out)
                    replace HUS := Lib.hid (HUS.out.below HL_W10.out)
                    clear HL_W10
                    clear hW HK_W10
                    refine (rof_any (N := N) (c) 1 _ hN (by omega) (by omega) (by omega) (by omega) p1 HPA.out).mono ?_
                    rw [show decide (0 < (1 : Int).natAbs) = true from rfl]
                    rintro e wt11 ⟨rk, ck, rk2, ck2, rfl, hn1', hn2', hb⟩
                    have hs_wt11 : W10.heap.size ≤ wt11.heap.size := hb.size
                    replace k_R_0 : wt11.cell? ⟨w.heap.size, 0, none⟩ = some (.bool s) := (hb.cell (p := ⟨w.heap.size, 0, none⟩) hl_R).trans k_R_0
                    replace k_R_1 : wt11.cell? ⟨w.heap.size, 1, none⟩ = some (.slice a na ca) := (hb.cell (p := ⟨w.heap.size, 1, none⟩) hl_R).trans k_R_1
                    replace k_R_2 : wt11.cell? ⟨w.heap.size, 2, none⟩ = some (.slice d nd cd) := (hb.cell (p := ⟨w.heap.size, 2, none⟩) hl_R).trans k_R_2
                    replace f_R : ∀ o, wt11.frozen? ⟨w.heap.size, o, none⟩ = false := fun o => (hb.frozen (p := ⟨w.heap.size, o, none⟩) hl_R).trans (f_R o)
                    replace HX_R := Lib.hid (HX_R.out.below hb)
                    replace HR := Lib.hid (HR.out.below hb)
                    replace HB := Lib.hid (HB.out.trans (hb.mono hs0))
                    replace hN : N ≤ wt11.heap.size := Nat.le_trans hN hb.size
                    replace hs0 : wd.heap.size ≤ wt11.heap.size := Nat.le_trans hs0 hb.size
                    replace hl_R : w.heap.size < wt11.heap.size := Nat.lt_of_lt_of_le hl_R hb.size
                    replace HW := Lib.hid (HW.out.below hb)
                    replace HUS := Lib.hid (HUS.out.below hb)
                    clear hb
                    have HK1 := Lib.hid hn1'
                    clear hn1'
                    have HK2 := Lib.hid hn2'
                    clear hn2'
                    go_wp2_with fail
                    obtain ⟨p2, hp2⟩ : ∃ p : Rat, ((((k : Int) + 1 + slack) : Int) : Rat) / ((1 : Int) : Rat) = p := ⟨_, rfl⟩
                    have HPC := Lib.hid ((mk_div _ 1).trans hp2)
                    have HPD := Lib.hid (rat_one _ _ hp2)
                    clear hp2
                    refine calls_name fun W12 hW => ?_
                    have HL_W12 := Lib.hid (show Below wt11.heap.size wt11 W12 by rw [← hW]; exact BlA)
                    have hs_W12 : wt11.heap.size ≤ W12.heap.size := by rw [← hW]; (first | omega | (simp; done) | (simp; omega))
                    have hd_R_K : w.heap.size < wt11.heap.size := by omega
                    have HK_W12 := Lib.hid (show Kp N wt11 W12 by rw [← hW]; exact KpA)
                    replace k_R_0 : W12.cell? ⟨w.heap.size, 0, none⟩ = some (.bool s) := (HL_W12.out.cell (p := ⟨w.heap.size, 0, none⟩) hl_R).trans k_R_0
                    replace k_R_1 : W12.cell? ⟨w.heap.size, 1, none⟩ = some (.slice a na ca) := (HL_W12.out.cell (p := ⟨w.heap.size, 1, none⟩) hl_R).trans k_R_1
                    replace k_R_2 : W12.cell? ⟨w.heap.size, 2, none⟩ = some (.slice d nd cd) := (HL_W12.out.cell (p := ⟨w.heap.size, 2, none⟩) hl_R).trans k_R_2
                    replace f_R : ∀ o, W12.frozen? ⟨w.heap.size, o, none⟩ = false := fun o => (HL_W12.out.frozen (p := ⟨w.heap.size, o, none⟩) hl_R).trans (f_R o)
                    replace HX_R := Lib.hid (show Bn W12 (w.heap.size) by rw [← hW]; exact KpA)
                    have k_K_0 : W12.cell? ⟨wt11.heap.size, 0, none⟩ = some (.bool (decide ((p1).num < 0))) := by rw [← hW]; (first | (go_simp; done) | (simp; done) | (simp [go_sem]; done) | (simp [go_sem, k_R_0, k_R_1, k_R_2, f_R, hl_R]; done))
                    have k_K_1 : W12.cell? ⟨wt11.heap.size, 1, none⟩ = some (.slice rk (nlen (p1).num.natAbs) ck) := by rw [← hW]; (first | (go_simp; done) | (simp; done) | (simp [go_sem]; done) | (simp [go_sem, k_R_0, k_R_1, k_R_2, f_R, hl_R]; done))
                    have k_K_2 : W12.cell? ⟨wt11.heap.size, 2, none⟩ = some (.slice rk2 (nlen (p1).den) ck2) := by rw [← hW]; (first | (go_simp; done) | (simp; done) | (simp [go_sem]; done) | (simp [go_sem, k_R_0, k_R_1, k_R_2, f_R, hl_R]; done))
                    have f_K : ∀ o, W12.frozen? ⟨wt11.heap.size, o, none⟩ = false := by intro o; rw [← hW]; (first | (go_simp; done) | (simp; done) | (simp [go_sem]; done) | (simp [go_sem, k_R_0, k_R_1, k_R_2, f_R, hl_R]; done))
                    have HX_K := Lib.hid (show Bn W12 (wt11.heap.size) by rw [← hW]; exact KpA)
                    replace HR := Lib.hid (HR.out.keep HK_W12.out)
                    replace HK1 := Lib.hid (HK1.out.keep HK_W12.out)
                    replace HK2 := Lib.hid (HK2.out.keep HK_W12.out)
                    replace HB := Lib.hid (show Below wd.heap.size wd W12 by rw [← hW]; exact BlA)
                    replace hN : N ≤ W12.heap.size := by rw [← hW]; (first | omega | (simp; done) | (simp; omega))
                    replace hs0 : wd.heap.size ≤ W12.heap.size := by rw [← hW]; (first | omega | (simp; done) | (simp; omega))
                    replace hl_R : w.heap.size < W12.heap.size := by rw [← hW]; (first | omega | (simp; done) | (simp; omega))
                    have hl_K : wt11.heap.size < W12.heap.size := by rw [← hW]; (first | omega | (simp; done) | (simp; omega))
                    replace HW := Lib.hid (HW.out.below HL_W12.out)
                    replace HUS := Lib.hid (HUS.out.below HL_W12.out)
                    clear HL_W12
                    clear hW HK_W12
                    refine (rof_any (N := N) ((k : Int) + 1 + slack) 1 _ hN (by omega) (by omega) (by omega) (by omega) p2 HPC.out).mono ?_
                    rw [show decide (0 < (1 : Int).natAbs) = true from rfl]
                    rintro e wt13 ⟨rl, cl, rl2, cl2, rfl, hn1', hn2', hb⟩
                    have hs_wt13 : W12.heap.size ≤ wt13.heap.size := hb.size
                    replace k_R_0 : wt13.cell? ⟨w.heap.size, 0, none⟩ = some (.bool s) := (hb.cell (p := ⟨w.heap.size, 0, none⟩) hl_R).trans k_R_0
                    replace k_R_1 : wt13.cell? ⟨w.heap.size, 1, none⟩ = some (.slice a na ca) := (hb.cell (p := ⟨w.heap.size, 1, none⟩) hl_R).trans k_R_1
                    replace k_R_2 : wt13.cell? ⟨w.heap.size, 2, none⟩ = some (.slice d nd cd) := (hb.cell (p := ⟨w.heap.size, 2, none⟩) hl_R).trans k_R_2
                    replace f_R : ∀ o, wt13.frozen? ⟨w.heap.size, o, none⟩ = false := fun o => (hb.frozen (p := ⟨w.heap.size, o, none⟩) hl_R).trans (f_R o)
                    replace HX_R := Lib.hid (HX_R.out.below hb)
                    replace k_K_0 : wt13.cell? ⟨wt11.heap.size, 0, none⟩ = some (.bool (decide ((p1).num < 0))) := (hb.cell (p := ⟨wt11.heap.size, 0, none⟩) hl_K).trans k_K_0
                    replace k_K_1 : wt13.cell? ⟨wt11.heap.size, 1, none⟩ = some (.slice rk (nlen (p1).num.natAbs) ck) := (hb.cell (p := ⟨wt11.heap.size, 1, none⟩) hl_K).trans k_K_1
                    replace k_K_2 : wt13.cell? ⟨wt11.heap.size, 2, none⟩ = some (.slice rk2 (nlen (p1).den) ck2) := (hb.cell (p := ⟨wt11.heap.size, 2, none⟩) hl_K).trans k_K_2
                    replace f_K : ∀ o, wt13.frozen? ⟨wt11.heap.size, o, none⟩ = false := fun o => (hb.frozen (p := ⟨wt11.heap.size, o, none⟩) hl_K).trans (f_K o)
                    replace HX_K := Lib.hid (HX_K.out.below hb)
                    replace HR := Lib.hid (HR.out.below hb)
                    replace HK1 := Lib.hid (HK1.out.below hb)
                    replace HK2 := Lib.hid (HK2.out.below hb)
                    replace HB := Lib.hid (HB.out.trans (hb.mono hs0))
                    replace hN : N ≤ wt13.heap.size := Nat.le_trans hN hb.size
                    replace hs0 : wd.heap.size ≤ wt13.heap.size := Nat.le_trans hs0 hb.size
                    replace hl_R : w.heap.size < wt13.heap.size := Nat.lt_of_lt_of_le hl_R hb.size
                    replace hl_K : wt11.heap.size < wt13.heap.size := Nat.lt_of_lt_of_le hl_K hb.size
                    replace HW := Lib.hid (HW.out.below hb)
                    replace HUS := Lib.hid (HUS.out.below hb)
                    clear hb
                    have HL1 := Lib.hid hn1'
                    clear hn1'
                    have HL2 := Lib.hid hn2'
                    clear hn2'
                    go_wp2_with fail
                    refine region_name fun W14 hW => ?_
                    have HL_W14 := Lib.hid (show Below wt13.heap.size wt13 W14 by rw [← hW]; exact BlA)
                    have hs_W14 : wt13.heap.size ≤ W14.heap.size := by rw [← hW]; (first | omega | (simp; done) | (simp; omega))
                    have hd_R_A : w.heap.size < wt13.heap.size := by omega
                    have hd_K_A : wt11.heap.size < wt13.heap.size := by omega
                    have HK_W14 := Lib.hid (show Kp N wt13 W14 by rw [← hW]; exact KpA)
                    replace k_R_0 : W14.cell? ⟨w.heap.size, 0, none⟩ = some (.bool s) := (HL_W14.out.cell (p := ⟨w.heap.size, 0, none⟩) hl_R).trans k_R_0
                    replace k_R_1 : W14.cell? ⟨w.heap.size, 1, none⟩ = some (.slice a na ca) := (HL_W14.out.cell (p := ⟨w.heap.size, 1, none⟩) hl_R).trans k_R_1
                    replace k_R_2 : W14.cell? ⟨w.heap.size, 2, none⟩ = some (.slice d nd cd) := (HL_W14.out.cell (p := ⟨w.heap.size, 2, none⟩) hl_R).trans k_R_2
                    replace f_R : ∀ o, W14.frozen? ⟨w.heap.size, o, none⟩ = false := fun o => (HL_W14.out.frozen (p := ⟨w.heap.size, o, none⟩) hl_R).trans (f_R o)
                    replace HX_R := Lib.hid (show Bn W14 (w.heap.size) by rw [← hW]; exact KpA)
                    replace k_K_0 : W14.cell? ⟨wt11.heap.size, 0, none⟩ = some (.bool (decide ((p1).num < 0))) := (HL_W14.out.cell (p := ⟨wt11.heap.size, 0, none⟩) hl_K).trans k_K_0
                    replace k_K_1 : W14.cell? ⟨wt11.heap.size, 1, none⟩ = some (.slice rk (nlen (p1).num.natAbs) ck) := (HL_W14.out.cell (p := ⟨wt11.heap.size, 1, none⟩) hl_K).trans k_K_1
                    replace k_K_2 : W14.cell? ⟨wt11.heap.size, 2, none⟩ = some (.slice rk2 (nlen (p1).den) ck2) := (HL_W14.out.cell (p := ⟨wt11.heap.size, 2, none⟩) hl_K).trans k_K_2
                    replace f_K : ∀ o, W14.frozen? ⟨wt11.heap.size, o, none⟩ = false := fun o => (HL_W14.out.frozen (p := ⟨wt11.heap.size, o, none⟩) hl_K).trans (f_K o)
                    replace HX_K := Lib.hid (show Bn W14 (wt11.heap.size) by rw [← hW]; exact KpA)
                    have k_A_0 : W14.cell? ⟨wt13.heap.size, 0, none⟩ = some (.bool (decide ((p2).num < 0))) := by rw [← hW]; (first | (go_simp; done) | (simp; done) | (simp [go_sem]; done) | (simp [go_sem, k_R_0, k_R_1, k_R_2, k_K_0, k_K_1, k_K_2, f_R, f_K, hl_R, hl_K]; done))
                    have k_A_1 : W14.cell? ⟨wt13.heap.size, 1, none⟩ = some (.slice rl (nlen (p2).num.natAbs) cl) := by rw [← hW]; (first | (go_simp; done) | (simp; done) | (simp [go_sem]; done) | (simp [go_sem, k_R_0, k_R_1, k_R_2, k_K_0, k_K_1, k_K_2, f_R, f_K, hl_R, hl_K]; done))
                    have k_A_2 : W14.cell? ⟨wt13.heap.size, 2, none⟩ = some (.slice rl2 (nlen (p2).den) cl2) := by rw [← hW]; (first | (go_simp; done) | (simp; done) | (simp [go_sem]; done) | (simp [go_sem, k_R_0, k_R_1, k_R_2, k_K_0, k_K_1, k_K_2, f_R, f_K, hl_R, hl_K]; done))
                    have f_A : ∀ o, W14.frozen? ⟨wt13.heap.size, o, none⟩ = false := by intro o; rw [← hW]; (first | (go_simp; done) | (simp; done) | (simp [go_sem]; done) | (simp [go_sem, k_R_0, k_R_1, k_R_2, k_K_0, k_K_1, k_K_2, f_R, f_K, hl_R, hl_K]; done))
                    have HX_A := Lib.hid (show Bn W14 (wt13.heap.size) by rw [← hW]; exact KpA)
                    replace HR := Lib.hid (HR.out.keep HK_W14.out)
                    replace HK1 := Lib.hid (HK1.out.keep HK_W14.out)
                    replace HK2 := Lib.hid (HK2.out.keep HK_W14.out)
                    replace HL1 := Lib.hid (HL1.out.keep HK_W14.out)
                    replace HL2 := Lib.hid (HL2.out.keep HK_W14.out)
                    replace HB := Lib.hid (show Below wd.heap.size wd W14 by rw [← hW]; exact BlA)
                    replace hN : N ≤ W14.heap.size := by rw [← hW]; (first | omega | (simp; done) | (simp; omega))
                    replace hs0 : wd.heap.size ≤ W14.heap.size := by rw [← hW]; (first | omega | (simp; done) | (simp; omega))
                    replace hl_R : w.heap.size < W14.heap.size := by rw [← hW]; (first | omega | (simp; done) | (simp; omega))
                    replace hl_K : wt11.heap.size < W14.heap.size := by rw [← hW]; (first | omega | (simp; done) | (simp; omega))
                    have hl_A : wt13.heap.size < W14.heap.size := by rw [← hW]; (first | omega | (simp; done) | (simp; omega))
                    replace HW := Lib.hid (HW.out.below HL_W14.out)
                    replace HUS := Lib.hid (HUS.out.below HL_W14.out)
                    clear HL_W14
                    clear hW HK_W14
                    have HZ1 := Lib.hid (show rsz p1 ≤ 1 from rsz_int _ (by omega) p1 HPB.out.symm)
                    have HZ2 := Lib.hid (show rsz p2 ≤ 1 from rsz_int _ (by omega) p2 HPD.out.symm)
                    obtain ⟨p3, hp3⟩ : ∃ p : Rat, q * p2 = p := ⟨_, rfl⟩
                    have HP3 := Lib.hid hp3
                    obtain ⟨κ, hκ⟩ : ∃ κ, cmpQ p1 p3 = κ := ⟨_, rfl⟩
                    have HKA := Lib.hid hκ
                    have hk0 : ¬ (0 : Int) < κ := by rw [← hκ]; exact cmp_cap (by rw [HPB.out, ← hp3, HPD.out]; exact HCP.out)
                    have hkd : decide (κ > 0) = false := decide_eq_false hk0
                    have HZ3 := Lib.hid (show rsz p3 ≤ 21 by rw [← hp3]; exact Nat.le_trans (rsz_mul q p2) (by have := HR.out.rsz_le; have := HZ2.out; omega))
                    clear hp3 hκ
                    refine region_inv2 (by kernel_rfl) (CapJ N s a d na ca nd cd p1 p2 p3 rk rk2 rl rl2 ck ck2 cl cl2 κ (W14)) ?_ ?_ ?_ ?_
                    · exact ⟨u94, u95, u96, u97, u98, u99, u100, u101, u102, u103, u104, u105, u106, u107, by simp only [Act.put, List.setIfInBounds_toArray, List.set_cons_zero, List.set_cons_succ], Since.drawn _, (fun h => by cases h), (fun h => by cases h), (fun h => by cases h), (fun h => by cases h), (fun h => by cases h), (fun h => by cases h), (fun h => by cases h), (fun h => by cases h), (fun h => by cases h), (fun h => by cases h), (fun h => by cases h), (fun h => by cases h), (fun h => by cases h), (fun h => by cases h)⟩
                    · exact acyc_spec (by kernel_rfl)
                    · intro Ls a0 wq i o ho hLi hafter hJ
                      obtain ⟨u94, u95, u96, u97, u98, u99, u100, u101, u102, u103, u104, u105, u106, u107, rfl, hS, p0, p1, p2, p3, p4, p5, p6, p7, p8, p9, p10, p11, p12, p13⟩ := hJ
                      have hi : i < 14 := (Array.getElem?_eq_some_iff.1 ho).1
                      obtain rfl | rfl | rfl | rfl | rfl | rfl | rfl | rfl | rfl | rfl | rfl | rfl | rfl | rfl : i = 0 ∨ i = 1 ∨ i = 2 ∨ i = 3 ∨ i = 4 ∨ i = 5 ∨ i = 6 ∨ i = 7 ∨ i = 8 ∨ i = 9 ∨ i = 10 ∨ i = 11 ∨ i = 12 ∨ i = 13 := by omega
                      · simp only [List.getElem?_toArray, List.getElem?_cons_zero, Option.some.injEq] at ho
                        subst ho
                        have P0 := Lib.hid p0
                        have P1 := Lib.hid p1
                        have P2 := Lib.hid p2
                        have P3 := Lib.hid p3
                        have P4 := Lib.hid p4
                        have P5 := Lib.hid p5
                        have P6 := Lib.hid p6
                        have P7 := Lib.hid p7
                        have P8 := Lib.hid p8
                        have P9 := Lib.hid p9
                        have P10 := Lib.hid p10
                        have P11 := Lib.hid p11
                        have P12 := Lib.hid p12
                        have P13 := Lib.hid p13
                        have HS := Lib.hid hS
                        clear hS hLi hafter p0 p1 p2 p3 p4 p5 p6 p7 p8 p9 p10 p11 p12 p13
                        simp only [Act.put, List.setIfInBounds_toArray, List.set_cons_zero, List.set_cons_succ]
                        go_wp2_with fail
                        exact ⟨.bool true, u95, u96, u97, u98, u99, u100, u101, u102, u103, u104, u105, u106, u107, by simp only [Act.put, List.setIfInBounds_toArray, List.set_cons_zero, List.set_cons_succ], HS.out, (fun _ => rfl), (fun h => by first | rfl | exact P1.out (by simpa using h)), (fun h => by first | rfl | exact P2.out (by simpa using h)), (fun h => by first | rfl | exact P3.out (by simpa using h)), (fun h => by first | rfl | exact P4.out (by simpa using h)), (fun h => by first | rfl | exact P5.out (by simpa using h)), (fun h => by first | rfl | exact P6.out (by simpa using h)), (fun h => by first | rfl | exact P7.out (by simpa using h)), (fun h => by first | rfl | exact P8.out (by simpa using h)), (fun h => by first | rfl | exact P9.out (by simpa using h)), (fun h => P10.out (by simpa using h)), (fun h => by first | rfl | exact P11.out (by simpa using h)), (fun h => by first | rfl | exact P12.out (by simpa using h)), (fun h => by first | rfl | exact P13.out (by simpa using h))⟩
                      · simp only [List.getElem?_toArray, List.getElem?_cons_zero, List.getElem?_cons_succ, Option.some.injEq] at ho
                        subst ho
                        obtain rfl := p0 (hafter ⟨0, .data⟩ (by simp) rfl)
                        have P0 := Lib.hid p0
                        have P1 := Lib.hid p1
                        have P2 := Lib.hid p2
                        have P3 := Lib.hid p3
                        have P4 := Lib.hid p4
                        have P5 := Lib.hid p5
                        have P6 := Lib.hid p6
                        have P7 := Lib.hid p7
                        have P8 := Lib.hid p8
                        have P9 := Lib.hid p9
                        have P10 := Lib.hid p10
                        have P11 := Lib.hid p11
                        have P12 := Lib.hid p12
                        have P13 := Lib.hid p13
                        have HS := Lib.hid hS
                        clear hS hLi hafter p0 p1 p2 p3 p4 p5 p6 p7 p8 p9 p10 p11 p12 p13
                        simp only [Act.put, List.setIfInBounds_toArray, List.set_cons_zero, List.set_cons_succ]
                        go_wp2_with fail
                        exact ⟨.bool true, .bool false, u96, u97, u98, u99, u100, u101, u102, u103, u104, u105, u106, u107, by simp only [Act.put, List.setIfInBounds_toArray, List.set_cons_zero, List.set_cons_succ], HS.out, (fun h => by first | rfl | exact P0.out (by simpa using h)), (fun _ => rfl), (fun h => by first | rfl | exact P2.out (by simpa using h)), (fun h => by first | rfl | exact P3.out (by simpa using h)), (fun h => by first | rfl | exact P4.out (by simpa using h)), (fun h => by first | rfl | exact P5.out (by simpa using h)), (fun h => by first | rfl | exact P6.out (by simpa using h)), (fun h => by first | rfl | exact P7.out (by simpa using h)), (fun h => by first | rfl | exact P8.out (by simpa using h)), (fun h => by first | rfl | exact P9.out (by simpa using h)), (fun h => P10.out (by simpa using h)), (fun h => by first | rfl | exact P11.out (by simpa using h)), (fun h => by first | rfl | exact P12.out (by simpa using h)), (fun h => by first | rfl | exact P13.out (by simpa using h))⟩
                      · simp only [List.getElem?_toArray, List.getElem?_cons_zero, List.getElem?_cons_succ, Option.some.injEq] at ho
                        subst ho
                        obtain rfl := p1 (hafter ⟨1, .data⟩ (by simp) rfl)
                        have P0 := Lib.hid p0
                        have P1 := Lib.hid p1
                        have P2 := Lib.hid p2
                        have P3 := Lib.hid p3
                        have P4 := Lib.hid p4
                        have P5 := Lib.hid p5
                        have P6 := Lib.hid p6
                        have P7 := Lib.hid p7
                        have P8 := Lib.hid p8
                        have P9 := Lib.hid p9
                        have P10 := Lib.hid p10
                        have P11 := Lib.hid p11
                        have P12 := Lib.hid p12
                        have P13 := Lib.hid p13
                        have HS := Lib.hid hS
                        clear hS hLi hafter p0 p1 p2 p3 p4 p5 p6 p7 p8 p9 p10 p11 p12 p13
                        simp only [Act.put, List.setIfInBounds_toArray, List.set_cons_zero, List.set_cons_succ]
                        go_wp2_with fail
                        exact ⟨u94, .bool false, .bool false, u97, u98, u99, u100, u101, u102, u103, u104, u105, u106, u107, by simp only [Act.put, List.setIfInBounds_toArray, List.set_cons_zero, List.set_cons_succ], HS.out, (fun h => by first | rfl | exact P0.out (by simpa using h)), (fun h => by first | rfl | exact P1.out (by simpa using h)), (fun _ => rfl), (fun h => by first | rfl | exact P3.out (by simpa using h)), (fun h => by first | rfl | exact P4.out (by simpa using h)), (fun h => by first | rfl | exact P5.out (by simpa using h)), (fun h => by first | rfl | exact P6.out (by simpa using h)), (fun h => by first | rfl | exact P7.out (by simpa using h)), (fun h => by first | rfl | exact P8.out (by simpa using h)), (fun h => by first | rfl | exact P9.out (by simpa using h)), (fun h => P10.out (by simpa using h)), (fun h => by first | rfl | exact P11.out (by simpa using h)), (fun h => by first | rfl | exact P12.out (by simpa using h)), (fun h => by first | rfl | exact P13.out (by simpa using h))⟩
                      · simp only [List.getElem?_toArray, List.getElem?_cons_zero, List.getElem?_cons_succ, Option.some.injEq] at ho
                        subst ho
                        obtain rfl := p2 (hafter ⟨2, .guard⟩ (by simp) rfl)
                        have P0 := Lib.hid p0
                        have P1 := Lib.hid p1
                        have P2 := Lib.hid p2
                        have P3 := Lib.hid p3
                        have P4 := Lib.hid p4
                        have P5 := Lib.hid p5
                        have P6 := Lib.hid p6
                        have P7 := Lib.hid p7
                        have P8 := Lib.hid p8
                        have P9 := Lib.hid p9
                        have P10 := Lib.hid p10
                        have P11 := Lib.hid p11
                        have P12 := Lib.hid p12
                        have P13 := Lib.hid p13
                        have HS := Lib.hid hS
                        clear hS hLi hafter p0 p1 p2 p3 p4 p5 p6 p7 p8 p9 p10 p11 p12 p13
                        simp only [Act.put, List.setIfInBounds_toArray, List.set_cons_zero, List.set_cons_succ]
                        go_wp2_with fail
                        exact ⟨u94, u95, .bool false, .bool true, u98, u99, u100, u101, u102, u103, u104, u105, u106, u107, by simp only [Act.put, List.setIfInBounds_toArray, List.set_cons_zero, List.set_cons_succ], HS.out, (fun h => by first | rfl | exact P0.out (by simpa using h)), (fun h => by first | rfl | exact P1.out (by simpa using h)), (fun h => by first | rfl | exact P2.out (by simpa using h)), (fun _ => rfl), (fun h => by first | rfl | exact P4.out (by simpa using h)), (fun h => by first | rfl | exact P5.out (by simpa using h)), (fun h => by first | rfl | exact P6.out (by simpa using h)), (fun h => by first | rfl | exact P7.out (by simpa using h)), (fun h => by first | rfl | exact P8.out (by simpa using h)), (fun h => by first | rfl | exact P9.out (by simpa using h)), (fun h => P10.out (by simpa using h)), (fun h => by first | rfl | exact P11.out (by simpa using h)), (fun h => by first | rfl | exact P12.out (by simpa using h)), (fun h => by first | rfl | exact P13.out (by simpa using h))⟩
                      · simp only [List.getElem?_toArray, List.getElem?_cons_zero, List.getElem?_cons_succ, Option.some.injEq] at ho
                        subst ho
                        obtain rfl := p3 (hafter ⟨3, .data⟩ (by simp) rfl)
                        obtain rfl := p2 (hafter ⟨2, .guard⟩ (by simp) rfl)
                        have P0 := Lib.hid p0
                        have P1 := Lib.hid p1
                        have P2 := Lib.hid p2
                        have P3 := Lib.hid p3
                        have P4 := Lib.hid p4
                        have P5 := Lib.hid p5
                        have P6 := Lib.hid p6
                        have P7 := Lib.hid p7
                        have P8 := Lib.hid p8
                        have P9 := Lib.hid p9
                        have P10 := Lib.hid p10
                        have P11 := Lib.hid p11
                        have P12 := Lib.hid p12
                        have P13 := Lib.hid p13
                        have HS := Lib.hid hS
                        clear hS hLi hafter p0 p1 p2 p3 p4 p5 p6 p7 p8 p9 p10 p11 p12 p13
                        simp only [Act.put, List.setIfInBounds_toArray, List.set_cons_zero, List.set_cons_succ]
                        go_wp2_with fail
                        exact ⟨u94, u95, .bool false, .bool true, .bool false, u99, u100, u101, u102, u103, u104, u105, u106, u107, by simp only [Act.put, List.setIfInBounds_toArray, List.set_cons_zero, List.set_cons_succ], HS.out, (fun h => by first | rfl | exact P0.out (by simpa using h)), (fun h => by first | rfl | exact P1.out (by simpa using h)), (fun h => by first | rfl | exact P2.out (by simpa using h)), (fun h => by first | rfl | exact P3.out (by simpa using h)), (fun _ => rfl), (fun h => by first | rfl | exact P5.out (by simpa using h)), (fun h => by first | rfl | exact P6.out (by simpa using h)), (fun h => by first | rfl | exact P7.out (by simpa using h)), (fun h => by first | rfl | exact P8.out (by simpa using h)), (fun h => by first | rfl | exact P9.out (by simpa using h)), (fun h => P10.out (by simpa using h)), (fun h => by first | rfl | exact P11.out (by simpa using h)), (fun h => by first | rfl | exact P12.out (by simpa using h)), (fun h => by first | rfl | exact P13.out (by simpa using h))⟩
                      · simp only [List.getElem?_toArray, List.getElem?_cons_zero, List.getElem?_cons_succ, Option.some.injEq] at ho
                        subst ho
                        obtain rfl := p2 (hafter ⟨2, .data⟩ (by simp) rfl)
                        obtain rfl := p4 (hafter ⟨4, .data⟩ (by simp) rfl)
                        have P0 := Lib.hid p0
                        have P1 := Lib.hid p1
                        have P2 := Lib.hid p2
                        have P3 := Lib.hid p3
                        have P4 := Lib.hid p4
                        have P5 := Lib.hid p5
                        have P6 := Lib.hid p6
                        have P7 := Lib.hid p7
                        have P8 := Lib.hid p8
                        have P9 := Lib.hid p9
                        have P10 := Lib.hid p10
                        have P11 := Lib.hid p11
                        have P12 := Lib.hid p12
                        have P13 := Lib.hid p13
                        have HS := Lib.hid hS
                        clear hS hLi hafter p0 p1 p2 p3 p4 p5 p6 p7 p8 p9 p10 p11 p12 p13
                        simp only [Act.put, List.setIfInBounds_toArray, List.set_cons_zero, List.set_cons_succ]
                        go_wp2_with fail
                        exact ⟨u94, u95, .bool false, u97, .bool false, .bool false, u100, u101, u102, u103, u104, u105, u106, u107, by simp only [Act.put, List.setIfInBounds_toArray, List.set_cons_zero, List.set_cons_succ], HS.out, (fun h => by first | rfl | exact P0.out (by simpa using h)), (fun h => by first | rfl | exact P1.out (by simpa using h)), (fun h => by first | rfl | exact P2.out (by simpa using h)), (fun h => by first | rfl | exact P3.out (by simpa using h)), (fun h => by first | rfl | exact P4.out (by simpa using h)), (fun _ => rfl), (fun h => by first | rfl | exact P6.out (by simpa using h)), (fun h => by first | rfl | exact P7.out (by simpa using h)), (fun h => by first | rfl | exact P8.out (by simpa using h)), (fun h => by first | rfl | exact P9.out (by simpa using h)), (fun h => P10.out (by simpa using h)), (fun h => by first | rfl | exact P11.out (by simpa using h)), (fun h => by first | rfl | exact P12.out (by simpa using h)), (fun h => by first | rfl | exact P13.out (by simpa using h))⟩
                      · simp only [List.getElem?_toArray, List.getElem?_cons_zero, List.getElem?_cons_succ, Option.some.injEq] at ho
                        subst ho
                        obtain rfl := p5 (hafter ⟨5, .data⟩ (by simp) rfl)
                        have P0 := Lib.hid p0
                        have P1 := Lib.hid p1
                        have P2 := Lib.hid p2
                        have P3 := Lib.hid p3
                        have P4 := Lib.hid p4
                        have P5 := Lib.hid p5
                        have P6 := Lib.hid p6
                        have P7 := Lib.hid p7
                        have P8 := Lib.hid p8
                        have P9 := Lib.hid p9
                        have P10 := Lib.hid p10
                        have P11 := Lib.hid p11
                        have P12 := Lib.hid p12
                        have P13 := Lib.hid p13
                        have HS := Lib.hid hS
                        clear hS hLi hafter p0 p1 p2 p3 p4 p5 p6 p7 p8 p9 p10 p11 p12 p13
                        simp only [Act.put, List.setIfInBounds_toArray, List.set_cons_zero, List.set_cons_succ]
                        go_wp2_with fail
                        exact ⟨u94, u95, u96, u97, u98, .bool false, .bool false, u101, u102, u103, u104, u105, u106, u107, by simp only [Act.put, List.setIfInBounds_toArray, List.set_cons_zero, List.set_cons_succ], HS.out, (fun h => by first | rfl | exact P0.out (by simpa using h)), (fun h => by first | rfl | exact P1.out (by simpa using h)), (fun h => by first | rfl | exact P2.out (by simpa using h)), (fun h => by first | rfl | exact P3.out (by simpa using h)), (fun h => by first | rfl | exact P4.out (by simpa using h)), (fun h => by first | rfl | exact P5.out (by simpa using h)), (fun _ => rfl), (fun h => by first | rfl | exact P7.out (by simpa using h)), (fun h => by first | rfl | exact P8.out (by simpa using h)), (fun h => by first | rfl | exact P9.out (by simpa using h)), (fun h => P10.out (by simpa using h)), (fun h => by first | rfl | exact P11.out (by simpa using h)), (fun h => by first | rfl | exact P12.out (by simpa using h)), (fun h => by first | rfl | exact P13.out (by simpa using h))⟩
                      · simp only [List.getElem?_toArray, List.getElem?_cons_zero, List.getElem?_cons_succ, Option.some.injEq] at ho
                        subst ho
                        obtain rfl := p6 (hafter ⟨6, .guard⟩ (by simp) rfl)
                        have c0 := (hS.1.cell (p := ⟨wt11.heap.size, 0, none⟩) hl_K).trans k_K_0
                        have c1 := (hS.1.cell (p := ⟨wt11.heap.size, 1, none⟩) hl_K).trans k_K_1
                        have c2 := (hS.1.cell (p := ⟨wt11.heap.size, 2, none⟩) hl_K).trans k_K_2
                        have P0 := Lib.hid p0
                        have P1 := Lib.hid p1
                        have P2 := Lib.hid p2
                        have P3 := Lib.hid p3
                        have P4 := Lib.hid p4
                        have P5 := Lib.hid p5
                        have P6 := Lib.hid p6
                        have P7 := Lib.hid p7
                        have P8 := Lib.hid p8
                        have P9 := Lib.hid p9
                        have P10 := Lib.hid p10
                        have P11 := Lib.hid p11
                        have P12 := Lib.hid p12
                        have P13 := Lib.hid p13
                        have HS := Lib.hid hS
                        clear hS hLi hafter p0 p1 p2 p3 p4 p5 p6 p7 p8 p9 p10 p11 p12 p13
                        simp only [Act.put, List.setIfInBounds_toArray, List.set_cons_zero, List.set_cons_succ]
                        go_wp2_with fail
                        exact ⟨u94, u95, u96, u97, u98, u99, .bool false, .agg #[.bool (decide ((p1).num < 0)), .slice rk (nlen (p1).num.natAbs) ck, .slice rk2 (nlen (p1).den) ck2], u102, u103, u104, u105, u106, u107, by simp only [Act.put, List.setIfInBounds_toArray, List.set_cons_zero, List.set_cons_succ], HS.out, (fun h => by first | rfl | exact P0.out (by simpa using h)), (fun h => by first | rfl | exact P1.out (by simpa using h)), (fun h => by first | rfl | exact P2.out (by simpa using h)), (fun h => by first | rfl | exact P3.out (by simpa using h)), (fun h => by first | rfl | exact P4.out (by simpa using h)), (fun h => by first | rfl | exact P5.out (by simpa using h)), (fun h => by first | rfl | exact P6.out (by simpa using h)), (fun _ => rfl), (fun h => by first | rfl | exact P8.out (by simpa using h)), (fun h => by first | rfl | exact P9.out (by simpa using h)), (fun h => P10.out (by simpa using h)), (fun h => by first | rfl | exact P11.out (by simpa using h)), (fun h => by first | rfl | exact P12.out (by simpa using h)), (fun h => by first | rfl | exact P13.out (by simpa using h))⟩
                      · simp only [List.getElem?_toArray, List.getElem?_cons_zero, List.getElem?_cons_succ, Option.some.injEq] at ho
                        subst ho
                        obtain rfl := p6 (hafter ⟨6, .guard⟩ (by simp) rfl)
                        have c0 := (hS.1.cell (p := ⟨w.heap.size, 0, none⟩) hl_R).trans k_R_0
                        have c1 := (hS.1.cell (p := ⟨w.heap.size, 1, none⟩) hl_R).trans k_R_1
                        have c2 := (hS.1.cell (p := ⟨w.heap.size, 2, none⟩) hl_R).trans k_R_2
                        have P0 := Lib.hid p0
                        have P1 := Lib.hid p1
                        have P2 := Lib.hid p2
                        have P3 := Lib.hid p3
                        have P4 := Lib.hid p4
                        have P5 := Lib.hid p5
                        have P6 := Lib.hid p6
                        have P7 := Lib.hid p7
                        have P8 := Lib.hid p8
                        have P9 := Lib.hid p9
                        have P10 := Lib.hid p10
                        have P11 := Lib.hid p11
                        have P12 := Lib.hid p12
                        have P13 := Lib.hid p13
                        have HS := Lib.hid hS
                        clear hS hLi hafter p0 p1 p2 p3 p4 p5 p6 p7 p8 p9 p10 p11 p12 p13
                        simp only [Act.put, List.setIfInBounds_toArray, List.set_cons_zero, List.set_cons_succ]
                        go_wp2_with fail
                        exact ⟨u94, u95, u96, u97, u98, u99, .bool false, u101, .agg #[.bool s, .slice a na ca, .slice d nd cd], u103, u104, u105, u106, u107, by simp only [Act.put, List.setIfInBounds_toArray, List.set_cons_zero, List.set_cons_succ], HS.out, (fun h => by first | rfl | exact P0.out (by simpa using h)), (fun h => by first | rfl | exact P1.out (by simpa using h)), (fun h => by first | rfl | exact P2.out (by simpa using h)), (fun h => by first | rfl | exact P3.out (by simpa using h)), (fun h => by first | rfl | exact P4.out (by simpa using h)), (fun h => by first | rfl | exact P5.out (by simpa using h)), (fun h => by first | rfl | exact P6.out (by simpa using h)), (fun h => by first | rfl | exact P7.out (by simpa using h)), (fun _ => rfl), (fun h => by first | rfl | exact P9.out (by simpa using h)), (fun h => P10.out (by simpa using h)), (fun h => by first | rfl | exact P11.out (by simpa using h)), (fun h => by first | rfl | exact P12.out (by simpa using h)), (fun h => by first | rfl | exact P13.out (by simpa using h))⟩
                      · simp only [List.getElem?_toArray, List.getElem?_cons_zero, List.getElem?_cons_succ, Option.some.injEq] at ho
                        subst ho
                        obtain rfl := p6 (hafter ⟨6, .guard⟩ (by simp) rfl)
                        have c0 := (hS.1.cell (p := ⟨wt13.heap.size, 0, none⟩) hl_A).trans k_A_0
                        have c1 := (hS.1.cell (p := ⟨wt13.heap.size, 1, none⟩) hl_A).trans k_A_1
                        have c2 := (hS.1.cell (p := ⟨wt13.heap.size, 2, none⟩) hl_A).trans k_A_2
                        have P0 := Lib.hid p0
                        have P1 := Lib.hid p1
                        have P2 := Lib.hid p2
                        have P3 := Lib.hid p3
                        have P4 := Lib.hid p4
                        have P5 := Lib.hid p5
                        have P6 := Lib.hid p6
                        have P7 := Lib.hid p7
                        have P8 := Lib.hid p8
                        have P9 := Lib.hid p9
                        have P10 := Lib.hid p10
                        have P11 := Lib.hid p11
                        have P12 := Lib.hid p12
                        have P13 := Lib.hid p13
                        have HS := Lib.hid hS
                        clear hS hLi hafter p0 p1 p2 p3 p4 p5 p6 p7 p8 p9 p10 p11 p12 p13
                        simp only [Act.put, List.setIfInBounds_toArray, List.set_cons_zero, List.set_cons_succ]
                        go_wp2_with fail
                        exact ⟨u94, u95, u96, u97, u98, u99, .bool false, u101, u102, .agg #[.bool (decide ((p2).num < 0)), .slice rl (nlen (p2).num.natAbs) cl, .slice rl2 (nlen (p2).den) cl2], u104, u105, u106, u107, by simp only [Act.put, List.setIfInBounds_toArray, List.set_cons_zero, List.set_cons_succ], HS.out, (fun h => by first | rfl | exact P0.out (by simpa using h)), (fun h => by first | rfl | exact P1.out (by simpa using h)), (fun h => by first | rfl | exact P2.out (by simpa using h)), (fun h => by first | rfl | exact P3.out (by simpa using h)), (fun h => by first | rfl | exact P4.out (by simpa using h)), (fun h => by first | rfl | exact P5.out (by simpa using h)), (fun h => by first | rfl | exact P6.out (by simpa using h)), (fun h => by first | rfl | exact P7.out (by simpa using h)), (fun h => by first | rfl | exact P8.out (by simpa using h)), (fun _ => rfl), (fun h => P10.out (by simpa using h)), (fun h => by first | rfl | exact P11.out (by simpa using h)), (fun h => by first | rfl | exact P12.out (by simpa using h)), (fun h => by first | rfl | exact P13.out (by simpa using h))⟩
                      · simp only [List.getElem?_toArray, List.getElem?_cons_zero, List.getElem?_cons_succ, Option.some.injEq] at ho
                        subst ho
                        obtain rfl := p8 (hafter ⟨8, .data⟩ (by simp) rfl)
                        obtain rfl := p9 (hafter ⟨9, .data⟩ (by simp) rfl)
                        obtain rfl := p6 (hafter ⟨6, .guard⟩ (by simp) rfl)
                        have P0 := Lib.hid p0
                        have P1 := Lib.hid p1
                        have P2 := Lib.hid p2
                        have P3 := Lib.hid p3
                        have P4 := Lib.hid p4
                        have P5 := Lib.hid p5
                        have P6 := Lib.hid p6
                        have P7 := Lib.hid p7
                        have P8 := Lib.hid p8
                        have P9 := Lib.hid p9
                        have P10 := Lib.hid p10
                        have P11 := Lib.hid p11
                        have P12 := Lib.hid p12
                        have P13 := Lib.hid p13
                        have HS := Lib.hid hS
                        clear hS hLi hafter p0 p1 p2 p3 p4 p5 p6 p7 p8 p9 p10 p11 p12 p13
                        simp only [Act.put, List.setIfInBounds_toArray, List.set_cons_zero, List.set_cons_succ]
                        go_wp2_with fail
                        refine (rmul_any (N := N) _ _ _ _ _ _ _ _ _ _ _ _ _ _ 20 1 q p2 _ (by have := HS.out.2; omega) (HR.out.below HS.out.1) ((Rt.of_norm HL1.out HL2.out 1 HZ2.out).below HS.out.1) (by decide) (by decide) p3 HP3.out).mono ?_
                        rintro e wn ⟨r, c, r2, c2, rfl, hn, hn', hb⟩
                        have HN := Lib.hid hn
                        have HM := Lib.hid hn'
                        have Hb := Lib.hid hb
                        clear hn hn' hb
                        go_wp2_with fail
                        exact ⟨u94, u95, u96, u97, u98, u99, .bool false, u101, .agg #[.bool s, .slice a na ca, .slice d nd cd], .agg #[.bool (decide ((p2).num < 0)), .slice rl (nlen (p2).num.natAbs) cl, .slice rl2 (nlen (p2).den) cl2], _, u105, u106, u107, by simp only [Act.put, List.setIfInBounds_toArray, List.set_cons_zero, List.set_cons_succ], HS.out.below Hb.out, (fun h => by first | rfl | exact P0.out (by simpa using h)), (fun h => by first | rfl | exact P1.out (by simpa using h)), (fun h => by first | rfl | exact P2.out (by simpa using h)), (fun h => by first | rfl | exact P3.out (by simpa using h)), (fun h => by first | rfl | exact P4.out (by simpa using h)), (fun h => by first | rfl | exact P5.out (by simpa using h)), (fun h => by first | rfl | exact P6.out (by simpa using h)), (fun h => by first | rfl | exact P7.out (by simpa using h)), (fun h => by first | rfl | exact P8.out (by simpa using h)), (fun h => by first | rfl | exact P9.out (by simpa using h)), (fun _ => ⟨r, c, r2, c2, rfl, HN.out, HM.out⟩), (fun h => by first | rfl | exact P11.out (by simpa using h)), (fun h => by first | rfl | exact P12.out (by simpa using h)), (fun h => by first | rfl | exact P13.out (by simpa using h))⟩
                      · simp only [List.getElem?_toArray, List.getElem?_cons_zero, List.getElem?_cons_succ, Option.some.injEq] at ho
                        subst ho
                        obtain rfl := p7 (hafter ⟨7, .data⟩ (by simp) rfl)
                        obtain rfl := p6 (hafter ⟨6, .guard⟩ (by simp) rfl)
                        have HQ10 := Lib.hid (p10 (hafter ⟨10, .data⟩ (by simp) rfl))
                        have P0 := Lib.hid p0
                        have P1 := Lib.hid p1
                        have P2 := Lib.hid p2
                        have P3 := Lib.hid p3
                        have P4 := Lib.hid p4
                        have P5 := Lib.hid p5
                        have P6 := Lib.hid p6
                        have P7 := Lib.hid p7
                        have P8 := Lib.hid p8
                        have P9 := Lib.hid p9
                        have P10 := Lib.hid p10
                        have P11 := Lib.hid p11
                        have P12 := Lib.hid p12
                        have P13 := Lib.hid p13
                        have HS := Lib.hid hS
                        clear hS hLi hafter p0 p1 p2 p3 p4 p5 p6 p7 p8 p9 p10 p11 p12 p13
                        simp only [Act.put, List.setIfInBounds_toArray, List.set_cons_zero, List.set_cons_succ]
                        go_wp2_with fail
                        refine (rcmp_is (N := N) _ _ _ _ _ _ _ 1 p1 p3 _ _ (by have := HS.out.2; omega) ((Rt.of_norm HK1.out HK2.out 1 HZ1.out).below HS.out.1) (by decide) HQ10.out HZ3.out κ HKA.out).mono ?_
                        rintro e wn ⟨rfl, hb⟩
                        have Hb := Lib.hid hb
                        clear hb
                        go_wp2_with fail
                        exact ⟨u94, u95, u96, u97, u98, u99, .bool false, .agg #[.bool (decide ((p1).num < 0)), .slice rk (nlen (p1).num.natAbs) ck, .slice rk2 (nlen (p1).den) ck2], u102, u103, _, .int .i64 κ, u106, u107, by simp only [Act.put, List.setIfInBounds_toArray, List.set_cons_zero, List.set_cons_succ], HS.out.below Hb.out, (fun h => by first | rfl | exact P0.out (by simpa using h)), (fun h => by first | rfl | exact P1.out (by simpa using h)), (fun h => by first | rfl | exact P2.out (by simpa using h)), (fun h => by first | rfl | exact P3.out (by simpa using h)), (fun h => by first | rfl | exact P4.out (by simpa using h)), (fun h => by first | rfl | exact P5.out (by simpa using h)), (fun h => by first | rfl | exact P6.out (by simpa using h)), (fun h => by first | rfl | exact P7.out (by simpa using h)), (fun h => by first | rfl | exact P8.out (by simpa using h)), (fun h => by first | rfl | exact P9.out (by simpa using h)), (fun h => (P10.out (by simpa using h)).below Hb.out), (fun _ => rfl), (fun h => by first | rfl | exact P12.out (by simpa using h)), (fun h => by first | rfl | exact P13.out (by simpa using h))⟩
                      · simp only [List.getElem?_toArray, List.getElem?_cons_zero, List.getElem?_cons_succ, Option.some.injEq] at ho
                        subst ho
                        obtain rfl := p11 (hafter ⟨11, .data⟩ (by simp) rfl)
                        obtain rfl := p6 (hafter ⟨6, .guard⟩ (by simp) rfl)
                        have P0 := Lib.hid p0
                        have P1 := Lib.hid p1
                        have P2 := Lib.hid p2
                        have P3 := Lib.hid p3
                        have P4 := Lib.hid p4
                        have P5 := Lib.hid p5
                        have P6 := Lib.hid p6
                        have P7 := Lib.hid p7
                        have P8 := Lib.hid p8
                        have P9 := Lib.hid p9
                        have P10 := Lib.hid p10
                        have P11 := Lib.hid p11
                        have P12 := Lib.hid p12
                        have P13 := Lib.hid p13
                        have HS := Lib.hid hS
                        clear hS hLi hafter p0 p1 p2 p3 p4 p5 p6 p7 p8 p9 p10 p11 p12 p13
                        simp only [Act.put, List.setIfInBounds_toArray, List.set_cons_zero, List.set_cons_succ]
                        go_wp2_with fail
                        exact ⟨u94, u95, u96, u97, u98, u99, .bool false, u101, u102, u103, u104, .int .i64 κ, .bool false, u107, by simp only [Act.put, List.setIfInBounds_toArray, List.set_cons_zero, List.set_cons_succ], HS.out, (fun h => by first | rfl | exact P0.out (by simpa using h)), (fun h => by first | rfl | exact P1.out (by simpa using h)), (fun h => by first | rfl | exact P2.out (by simpa using h)), (fun h => by first | rfl | exact P3.out (by simpa using h)), (fun h => by first | rfl | exact P4.out (by simpa using h)), (fun h => by first | rfl | exact P5.out (by simpa using h)), (fun h => by first | rfl | exact P6.out (by simpa using h)), (fun h => by first | rfl | exact P7.out (by simpa using h)), (fun h => by first | rfl | exact P8.out (by simpa using h)), (fun h => by first | rfl | exact P9.out (by simpa using h)), (fun h => P10.out (by simpa using h)), (fun h => by first | rfl | exact P11.out (by simpa using h)), (fun _ => rfl), (fun h => by first | rfl | exact P13.out (by simpa using h))⟩
                      · simp only [List.getElem?_toArray, List.getElem?_cons_zero, List.getElem?_cons_succ, Option.some.injEq] at ho
                        subst ho
                        obtain rfl := p6 (hafter ⟨6, .data⟩ (by simp) rfl)
                        obtain rfl := p12 (hafter ⟨12, .data⟩ (by simp) rfl)
                        have P0 := Lib.hid p0
                        have P1 := Lib.hid p1
                        have P2 := Lib.hid p2
                        have P3 := Lib.hid p3
                        have P4 := Lib.hid p4
                        have P5 := Lib.hid p5
                        have P6 := Lib.hid p6
                        have P7 := Lib.hid p7
                        have P8 := Lib.hid p8
                        have P9 := Lib.hid p9
                        have P10 := Lib.hid p10
                        have P11 := Lib.hid p11
                        have P12 := Lib.hid p12
                        have P13 := Lib.hid p13
                        have HS := Lib.hid hS
                        clear hS hLi hafter p0 p1 p2 p3 p4 p5 p6 p7 p8 p9 p10 p11 p12 p13
                        simp only [Act.put, List.setIfInBounds_toArray, List.set_cons_zero, List.set_cons_succ]
                        go_wp2_with fail
                        exact ⟨u94, u95, u96, u97, u98, u99, .bool false, u101, u102, u103, u104, u105, .bool false, .bool false, by simp only [Act.put, List.setIfInBounds_toArray, List.set_cons_zero, List.set_cons_succ], HS.out, (fun h => by first | rfl | exact P0.out (by simpa using h)), (fun h => by first | rfl | exact P1.out (by simpa using h)), (fun h => by first | rfl | exact P2.out (by simpa using h)), (fun h => by first | rfl | exact P3.out (by simpa using h)), (fun h => by first | rfl | exact P4.out (by simpa using h)), (fun h => by first | rfl | exact P5.out (by simpa using h)), (fun h => by first | rfl | exact P6.out (by simpa using h)), (fun h => by first | rfl | exact P7.out (by simpa using h)), (fun h => by first | rfl | exact P8.out (by simpa using h)), (fun h => by first | rfl | exact P9.out (by simpa using h)), (fun h => P10.out (by simpa using h)), (fun h => by first | rfl | exact P11.out (by simpa using h)), (fun h => by first | rfl | exact P12.out (by simpa using h)), (fun _ => rfl)⟩
                    · intro Ls a0 wq hall hJ
                      obtain ⟨u94, u95, u96, u97, u98, u99, u100, u101, u102, u103, u104, u105, u106, u107, rfl, hS, p0, p1, p2, p3, p4, p5, p6, p7, p8, p9, p10, p11, p12, p13⟩ := hJ
                      replace p0 := p0 (hall 0 (by decide))
                      replace p1 := p1 (hall 1 (by decide))
                      replace p2 := p2 (hall 2 (by decide))
                      replace p3 := p3 (hall 3 (by decide))
                      replace p4 := p4 (hall 4 (by decide))
                      replace p5 := p5 (hall 5 (by decide))
                      replace p6 := p6 (hall 6 (by decide))
                      replace p7 := p7 (hall 7 (by decide))
                      replace p8 := p8 (hall 8 (by decide))
                      replace p9 := p9 (hall 9 (by decide))
                      replace p10 := p10 (hall 10 (by decide))
                      replace p11 := p11 (hall 11 (by decide))
                      replace p12 := p12 (hall 12 (by decide))
                      replace p13 := p13 (hall 13 (by decide))
                      have hb := hS.1
                      subst p13
                      clear hall hS p0 p1 p2 p3 p4 p5 p6 p7 p8 p9 p10 p11 p12
                      have HBz := Lib.hid (HB.out.trans (hb.mono hs0))
                      have HUSz := Lib.hid (HUS.out.below hb)
                      clear hb
                      simp only [Act.put, List.setIfInBounds_toArray, List.set_cons_zero, List.set_cons_succ]
                      go_wp2_with fail
                      go_roundw
                      case rel => exact ⟨k + 1, c, by omega, by go_num, by omega, by omega, ⟨_, _, by first | rfl | (rw [HLN.out]), by first | exact HUSz.out | (rw [HLN.out]; exact HUSz.out)⟩, Lib.hid (by rw [show ((((k + 1 : Nat) : Int) + slack : Int)) = (k : Int) + 1 + slack by omega]; exact HCP.out), HBz.out⟩
                      case measure => simp [intOf]; omega
                  · have HCP := Lib.hid (elig_cap HEB.out hc0 (by omega) (by omega) (by omega) (by omega) (by omega))
                    go_wp2_with fail
                    refine calls_name fun W6a hW => ?_
                    have HL_W6a := Lib.hid (show Below wf.heap.size wf W6a by rw [← hW]; exact BlA)
                    have hs_W6a : wf.heap.size ≤ W6a.heap.size := by rw [← hW]; (first | omega | (simp; done) | (simp; omega))
                    have hd_R_S : w.heap.size < wf.heap.size := by omega
                    have HK_W6a := Lib.hid (show Kp N wf W6a by rw [← hW]; exact KpA)
                    replace k_R_0 : W6a.cell? ⟨w.heap.size, 0, none⟩ = some (.bool s) := (HL_W6a.out.cell (p := ⟨w.heap.size, 0, none⟩) hl_R).trans k_R_0
                    replace k_R_1 : W6a.cell? ⟨w.heap.size, 1, none⟩ = some (.slice a na ca) := (HL_W6a.out.cell (p := ⟨w.heap.size, 1, none⟩) hl_R).trans k_R_1
                    replace k_R_2 : W6a.cell? ⟨w.heap.size, 2, none⟩ = some (.slice d nd cd) := (HL_W6a.out.cell (p := ⟨w.heap.size, 2, none⟩) hl_R).trans k_R_2
                    replace f_R : ∀ o, W6a.frozen? ⟨w.heap.size, o, none⟩ = false := fun o => (HL_W6a.out.frozen (p := ⟨w.heap.size, o, none⟩) hl_R).trans (f_R o)
                    replace HX_R := Lib.hid (show Bn W6a (w.heap.size) by rw [← hW]; exact KpA)
                    have k_S_0 : W6a.cell? ⟨wf.heap.size, 0, none⟩ = some (.int .i64 7) := by rw [← hW]; (first | (go_simp; done) | (simp; done) | (simp [go_sem]; done) | (simp [go_sem, k_R_0, k_R_1, k_R_2, f_R, hl_R]; done))
                    have f_S : ∀ o, W6a.frozen? ⟨wf.heap.size, o, none⟩ = false := by intro o; rw [← hW]; (first | (go_simp; done) | (simp; done) | (simp [go_sem]; done) | (simp [go_sem, k_R_0, k_R_1, k_R_2, f_R, hl_R]; done))
                    have HX_S := Lib.hid (show Bn W6a (wf.heap.size) by rw [← hW]; exact KpA)
                    replace HR := Lib.hid (HR.out.keep HK_W6a.out)
                    replace HB := Lib.hid (show Below wd.heap.size wd W6a by rw [← hW]; exact BlA)
                    replace hN : N ≤ W6a.heap.size := by rw [← hW]; (first | omega | (simp; done) | (simp; omega))
                    replace hs0 : wd.heap.size ≤ W6a.heap.size := by rw [← hW]; (first | omega | (simp; done) | (simp; omega))
                    replace hl_R : w.heap.size < W6a.heap.size := by rw [← hW]; (first | omega | (simp; done) | (simp; omega))
                    have hl_S : wf.heap.size < W6a.heap.size := by rw [← hW]; (first | omega | (simp; done) | (simp; omega))
                    replace HW := Lib.hid (HW.out.below HL_W6a.out)
                    replace HUS := Lib.hid (HUS.out.below HL_W6a.out)
                    clear HL_W6a
                    clear hW HK_W6a
                    have HZS := Lib.hid (zs_seven k_S_0)
                    refine (record_any _ _ _ (itR c) (ctR c) _ 1 1 (fun _ => 7) _ HUS.out (by rw [← HLN.out]; exact repL_64 c) HZS.out (fun _ _ => by unfold W64; omega) (by omega) (by decide)).mono ?_
                    rintro e wg ⟨hpost, hb⟩
                    obtain ⟨aM, cM, rfl, hus2⟩ := cap_post hc0 (by omega) HLN.out hpost
                    have HU2 := Lib.hid hus2
                    clear hpost hus2 HZS
                    have hs_wg : W6a.heap.size ≤ wg.heap.size := hb.size
                    replace k_R_0 : wg.cell? ⟨w.heap.size, 0, none⟩ = some (.bool s) := (hb.cell (p := ⟨w.heap.size, 0, none⟩) hl_R).trans k_R_0
                    replace k_R_1 : wg.cell? ⟨w.heap.size, 1, none⟩ = some (.slice a na ca) := (hb.cell (p := ⟨w.heap.size, 1, none⟩) hl_R).trans k_R_1
                    replace k_R_2 : wg.cell? ⟨w.heap.size, 2, none⟩ = some (.slice d nd cd) := (hb.cell (p := ⟨w.heap.size, 2, none⟩) hl_R).trans k_R_2
                    replace f_R : ∀ o, wg.frozen? ⟨w.heap.size, o, none⟩ = false := fun o => (hb.frozen (p := ⟨w.heap.size, o, none⟩) hl_R).trans (f_R o)
                    replace HX_R := Lib.hid (HX_R.out.below hb)
                    replace k_S_0 : wg.cell? ⟨wf.heap.size, 0, none⟩ = some (.int .i64 7) := (hb.cell (p := ⟨wf.heap.size, 0, none⟩) hl_S).trans k_S_0
                    replace f_S : ∀ o, wg.frozen? ⟨wf.heap.size, o, none⟩ = false := fun o => (hb.frozen (p := ⟨wf.heap.size, o, none⟩) hl_S).trans (f_S o)
                    replace HX_S := Lib.hid (HX_S.out.below hb)
                    replace HR := Lib.hid (HR.out.below hb)
                    replace HB := Lib.hid (HB.out.trans (hb.mono hs0))
                    replace hN : N ≤ wg.heap.size := Nat.le_trans hN hb.size
                    replace hs0 : wd.heap.size ≤ wg.heap.size := Nat.le_trans hs0 hb.size
                    replace hl_R : w.heap.size < wg.heap.size := Nat.lt_of_lt_of_le hl_R hb.size
                    replace hl_S : wf.heap.size < wg.heap.size := Nat.lt_of_lt_of_le hl_S hb.size
                    replace HW := Lib.hid (HW.out.below hb)
                    replace HUS := Lib.hid (HUS.out.below hb)
                    clear hb
                    clear HUS
                    have HCNt := Lib.hid (show cntN (itR (c + 1)) (ctR (c + 1)) 7 (repL (c + 1)).length = c + 1 by rw [repL_cnt (c + 1) 7 (by omega) (by omega)]; rfl)
                    obtain ⟨ln2, hln2⟩ : ∃ l, (repL (c + 1)).length = l := ⟨_, rfl⟩
                    have HLN2 := Lib.hid hln2
                    rw [hln2] at HU2 HCNt ⊢
                    clear hln2
                    clear hl_S f_S HX_S k_S_0
                    go_wp2_with fail
                    refine calls_name fun W7a hW => ?_
                    have HL_W7a := Lib.hid (show Below wg.heap.size wg W7a by rw [← hW]; exact BlA)
                    have hs_W7a : wg.heap.size ≤ W7a.heap.size := by rw [← hW]; (first | omega | (simp; done) | (simp; omega))
                    have HK_W7a := Lib.hid (show Kp N wg W7a by rw [← hW]; exact KpA)
                    replace k_R_0 : W7a.cell? ⟨w.heap.size, 0, none⟩ = some (.bool s) := (HL_W7a.out.cell (p := ⟨w.heap.size, 0, none⟩) hl_R).trans k_R_0
                    replace k_R_1 : W7a.cell? ⟨w.heap.size, 1, none⟩ = some (.slice a na ca) := (HL_W7a.out.cell (p := ⟨w.heap.size, 1, none⟩) hl_R).trans k_R_1
                    replace k_R_2 : W7a.cell? ⟨w.heap.size, 2, none⟩ = some (.slice d nd cd) := (HL_W7a.out.cell (p := ⟨w.heap.size, 2, none⟩) hl_R).trans k_R_2
                    replace f_R : ∀ o, W7a.frozen? ⟨w.heap.size, o, none⟩ = false := fun o => (HL_W7a.out.frozen (p := ⟨w.heap.size, o, none⟩) hl_R).trans (f_R o)
                    replace HX_R := Lib.hid (show Bn W7a (w.heap.size) by rw [← hW]; exact KpA)
                    replace HR := Lib.hid (HR.out.keep HK_W7a.out)
                    replace HB := Lib.hid (show Below wd.heap.size wd W7a by rw [← hW]; exact BlA)
                    replace hN : N ≤ W7a.heap.size := by rw [← hW]; (first | omega | (simp; done) | (simp; omega))
                    replace hs0 : wd.heap.size ≤ W7a.heap.size := by rw [← hW]; (first | omega | (simp; done) | (simp; omega))
                    replace hl_R : w.heap.size < W7a.heap.size := by rw [← hW]; (first | omega | (simp; done) | (simp; omega))
                    replace HW := Lib.hid (HW.out.below HL_W7a.out)
                    replace HU2 := Lib.hid (HU2.out.below HL_W7a.out)
                    clear HL_W7a
                    clear hW HK_W7a
                    refine (count_any _ _ _ (itR (c + 1)) (ctR (c + 1)) 7 _ HU2.out).mono ?_
                    rw [HCNt.out]
                    rintro e wh ⟨rfl, hb⟩
                    have hs_wh : W7a.heap.size ≤ wh.heap.size := hb.size
                    replace k_R_0 : wh.cell? ⟨w.heap.size, 0, none⟩ = some (.bool s) := (hb.cell (p := ⟨w.heap.size, 0, none⟩) hl_R).trans k_R_0
                    replace k_R_1 : wh.cell? ⟨w.heap.size, 1, none⟩ = some (.slice a na ca) := (hb.cell (p := ⟨w.heap.size, 1, none⟩) hl_R).trans k_R_1
                    replace k_R_2 : wh.cell? ⟨w.heap.size, 2, none⟩ = some (.slice d nd cd) := (hb.cell (p := ⟨w.heap.size, 2, none⟩) hl_R).trans k_R_2
                    replace f_R : ∀ o, wh.frozen? ⟨w.heap.size, o, none⟩ = false := fun o => (hb.frozen (p := ⟨w.heap.size, o, none⟩) hl_R).trans (f_R o)
                    replace HX_R := Lib.hid (HX_R.out.below hb)
                    replace HR := Lib.hid (HR.out.below hb)
                    replace HB := Lib.hid (HB.out.trans (hb.mono hs0))
                    replace hN : N ≤ wh.heap.size := Nat.le_trans hN hb.size
                    replace hs0 : wd.heap.size ≤ wh.heap.size := Nat.le_trans hs0 hb.size
                    replace hl_R : w.heap.size < wh.heap.size := Nat.lt_of_lt_of_le hl_R hb.size
                    replace HW := Lib.hid (HW.out.below hb)
                    replace HU2 := Lib.hid (HU2.out.below hb)
                    clear hb
                    have ee : ((c + 1 : Int) != (c + 1)) = false := by simp
                    go_wp2_with fail
                    refine calls_name fun W15 hW => ?_
                    have HL_W15 := Lib.hid (show Below wh.heap.size wh W15 by rw [← hW]; exact BlA)
                    have hs_W15 : wh.heap.size ≤ W15.heap.size := by rw [← hW]; (first | omega | (simp; done) | (simp; omega))
                    have HK_W15 := Lib.hid (show Kp N wh W15 by rw [← hW]; exact KpA)
                    replace k_R_0 : W15.cell? ⟨w.heap.size, 0, none⟩ = some (.bool s) := (HL_W15.out.cell (p := ⟨w.heap.size, 0, none⟩) hl_R).trans k_R_0
                    replace k_R_1 : W15.cell? ⟨w.heap.size, 1, none⟩ = some (.slice a na ca) := (HL_W15.out.cell (p := ⟨w.heap.size, 1, none⟩) hl_R).trans k_R_1
                    replace k_R_2 : W15.cell? ⟨w.heap.size, 2, none⟩ = some (.slice d nd cd) := (HL_W15.out.cell (p := ⟨w.heap.size, 2, none⟩) hl_R).trans k_R_2
                    replace f_R : ∀ o, W15.frozen? ⟨w.heap.size, o, none⟩ = false := fun o => (HL_W15.out.frozen (p := ⟨w.heap.size, o, none⟩) hl_R).trans (f_R o)
                    replace HX_R := Lib.hid (show Bn W15 (w.heap.size) by rw [← hW]; exact KpA)
                    replace HR := Lib.hid (HR.out.keep HK_W15.out)
                    replace HB := Lib.hid (show Below wd.heap.size wd W15 by rw [← hW]; exact BlA)
                    replace hN : N ≤ W15.heap.size := by rw [← hW]; (first | omega | (simp; done) | (simp; omega))
                    replace hs0 : wd.heap.size ≤ W15.heap.size := by rw [← hW]; (first | omega | (simp; done) | (simp; omega))
                    replace hl_R : w.heap.size < W15.heap.size := by rw [← hW]; (first | omega | (simp; done) | (simp; omega))
                    replace HW := Lib.hid (HW.out.below HL_W15.out)
                    replace HU2 := Lib.hid (HU2.out.below HL_W15.out)
                    clear HL_W15
                    clear hW HK_W15
                    refine (count_any _ _ _ (itR (c + 1)) (ctR (c + 1)) 7 _ HU2.out).mono ?_
                    rw [HCNt.out]
                    rintro e wt16 ⟨rfl, hb⟩
                    have hs_wt16 : W15.heap.size ≤ wt16.heap.size := hb.size
                    replace k_R_0 : wt16.cell? ⟨w.heap.size, 0, none⟩ = some (.bool s) := (hb.cell (p := ⟨w.heap.size, 0, none⟩) hl_R).trans k_R_0
                    replace k_R_1 : wt16.cell? ⟨w.heap.size, 1, none⟩ = some (.slice a na ca) := (hb.cell (p := ⟨w.heap.size, 1, none⟩) hl_R).trans k_R_1
                    replace k_R_2 : wt16.cell? ⟨w.heap.size, 2, none⟩ = some (.slice d nd cd) := (hb.cell (p := ⟨w.heap.size, 2, none⟩) hl_R).trans k_R_2
                    replace f_R : ∀ o, wt16.frozen? ⟨w.heap.size, o, none⟩ = false := fun o => (hb.frozen (p := ⟨w.heap.size, o, none⟩) hl_R).trans (f_R o)
                    replace HX_R := Lib.hid (HX_R.out.below hb)
                    replace HR := Lib.hid (HR.out.below hb)
                    replace HB := Lib.hid (HB.out.trans (hb.mono hs0))
                    replace hN : N ≤ wt16.heap.size := Nat.le_trans hN hb.size
                    replace hs0 : wd.heap.size ≤ wt16.heap.size := Nat.le_trans hs0 hb.size
                    replace hl_R : w.heap.size < wt16.heap.size := Nat.lt_of_lt_of_le hl_R hb.size
                    replace HW := Lib.hid (HW.out.below hb)
                    replace HU2 := Lib.hid (HU2.out.below hb)
                    clear hb
                    go_wp2_with fail
                    obtain ⟨p1, hp1⟩ : ∃ p : Rat, (((c + 1) : Int) : Rat) / ((1 : Int) : Rat) = p := ⟨_, rfl⟩
                    have HPA := Lib.hid ((mk_div _ 1).trans hp1)
                    have HPB := Lib.hid (rat_one _ _ hp1)
                    clear hp1
                    refine calls_name fun W17 hW => ?_
                    have HL_W17 := Lib.hid (show Below wt16.heap.size wt16 W17 by rw [← hW]; exact BlA)
                    have hs_W17 : wt16.heap.size ≤ W17.heap.size := by rw [← hW]; (first | omega | (simp; done) | (simp; omega))
                    have HK_W17 := Lib.hid (show Kp N wt16 W17 by rw [← hW]; exact KpA)
                    replace k_R_0 : W17.cell? ⟨w.heap.size, 0, none⟩ = some (.bool s) := (HL_W17.out.cell (p := ⟨w.heap.size, 0, none⟩) hl_R).trans k_R_0
                    replace k_R_1 : W17.cell? ⟨w.heap.size, 1, none⟩ = some (.slice a na ca) := (HL_W17.out.cell (p := ⟨w.heap.size, 1, none⟩) hl_R).trans k_R_1
                    replace k_R_2 : W17.cell? ⟨w.heap.size, 2, none⟩ = some (.slice d nd cd) := (HL_W17.out.cell (p := ⟨w.heap.size, 2, none⟩) hl_R).trans k_R_2
                    replace f_R : ∀ o, W17.frozen? ⟨w.heap.size, o, none⟩ = false := fun o => (HL_W17.out.frozen (p := ⟨w.heap.size, o, none⟩) hl_R).trans (f_R o)
                    replace HX_R := Lib.hid (show Bn W17 (w.heap.size) by rw [← hW]; exact KpA)
                    replace HR := Lib.hid (HR.out.keep HK_W17.out)
                    replace HB := Lib.hid (show Below wd.heap.size wd W17 by rw [← hW]; exact BlA)
                    replace hN : N ≤ W17.heap.size := by rw [← hW]; (first | omega | (simp; done) | (simp; omega))
                    replace hs0 : wd.heap.size ≤ W17.heap.size := by rw [← hW]; (first | omega | (simp; done) | (simp; omega))
                    replace hl_R : w.heap.size < W17.heap.size := by rw [← hW]; (first | omega | (simp; done) | (simp; omega))
                    replace HW := Lib.hid (HW.out.below HL_W17.out)
                    replace HU2 := Lib.hid (HU2.out.below HL_W17.out)
                    clear HL_W17
                    clear hW HK_W17
                    refine (rof_any (N := N) ((c + 1)) 1 _ hN (by omega) (by omega) (by omega) (by omega) p1 HPA.out).mono ?_
                    rw [show decide (0 < (1 : Int).natAbs) = true from rfl]
                    rintro e wt18 ⟨rk, ck, rk2, ck2, rfl, hn1', hn2', hb⟩
                    have hs_wt18 : W17.heap.size ≤ wt18.heap.size := hb.size
                    replace k_R_0 : wt18.cell? ⟨w.heap.size, 0, none⟩ = some (.bool s) := (hb.cell (p := ⟨w.heap.size, 0, none⟩) hl_R).trans k_R_0
                    replace k_R_1 : wt18.cell? ⟨w.heap.size, 1, none⟩ = some (.slice a na ca) := (hb.cell (p := ⟨w.heap.size, 1, none⟩) hl_R).trans k_R_1
                    replace k_R_2 : wt18.cell? ⟨w.heap.size, 2, none⟩ = some (.slice d nd cd) := (hb.cell (p := ⟨w.heap.size, 2, none⟩) hl_R).trans k_R_2
                    replace f_R : ∀ o, wt18.frozen? ⟨w.heap.size, o, none⟩ = false := fun o => (hb.frozen (p := ⟨w.heap.size, o, none⟩) hl_R).trans (f_R o)
                    replace HX_R := Lib.hid (HX_R.out.below hb)
                    replace HR := Lib.hid (HR.out.below hb)
                    replace HB := Lib.hid (HB.out.trans (hb.mono hs0))
                    replace hN : N ≤ wt18.heap.size := Nat.le_trans hN hb.size
                    replace hs0 : wd.heap.size ≤ wt18.heap.size := Nat.le_trans hs0 hb.size
                    replace hl_R : w.heap.size < wt18.heap.size := Nat.lt_of_lt_of_le hl_R hb.size
                    replace HW := Lib.hid (HW.out.below hb)
                    replace HU2 := Lib.hid (HU2.out.below hb)
                    clear hb
                    have HK1 := Lib.hid hn1'
                    clear hn1'
                    have HK2 := Lib.hid hn2'
                    clear hn2'
                    go_wp2_with fail
                    obtain ⟨p2, hp2⟩ : ∃ p : Rat, ((((k : Int) + 1 + slack) : Int) : Rat) / ((1 : Int) : Rat) = p := ⟨_, rfl⟩
                    have HPC := Lib.hid ((mk_div _ 1).trans hp2)
                    have HPD := Lib.hid (rat_one _ _ hp2)
                    clear hp2
                    refine calls_name fun W19 hW => ?_
                    have HL_W19 := Lib.hid (show Below wt18.heap.size wt18 W19 by rw [← hW]; exact BlA)
                    have hs_W19 : wt18.heap.size ≤ W19.heap.size := by rw [← hW]; (first | omega | (simp; done) | (simp; omega))
                    have hd_R_K : w.heap.size < wt18.heap.size := by omega
                    have HK_W19 := Lib.hid (show Kp N wt18 W19 by rw [← hW]; exact KpA)
                    replace k_R_0 : W19.cell? ⟨w.heap.size, 0, none⟩ = some (.bool s) := (HL_W19.out.cell (p := ⟨w.heap.size, 0, none⟩) hl_R).trans k_R_0
                    replace k_R_1 : W19.cell? ⟨w.heap.size, 1, none⟩ = some (.slice a na ca) := (HL_W19.out.cell (p := ⟨w.heap.size, 1, none⟩) hl_R).trans k_R_1
                    replace k_R_2 : W19.cell? ⟨w.heap.size, 2, none⟩ = some (.slice d nd cd) := (HL_W19.out.cell (p := ⟨w.heap.size, 2, none⟩) hl_R).trans k_R_2
                    replace f_R : ∀ o, W19.frozen? ⟨w.heap.size, o, none⟩ = false := fun o => (HL_W19.out.frozen (p := ⟨w.heap.size, o, none⟩) hl_R).trans (f_R o)
                    replace HX_R := Lib.hid (show Bn W19 (w.heap.size) by rw [← hW]; exact KpA)
                    have k_K_0 : W19.cell? ⟨wt18.heap.size, 0, none⟩ = some (.bool (decide ((p1).num < 0))) := by rw [← hW]; (first | (go_simp; done) | (simp; done) | (simp [go_sem]; done) | (simp [go_sem, k_R_0, k_R_1, k_R_2, f_R, hl_R]; done))
                    have k_K_1 : W19.cell? ⟨wt18.heap.size, 1, none⟩ = some (.slice rk (nlen (p1).num.natAbs) ck) := by rw [← hW]; (first | (go_simp; done) | (simp; done) | (simp [go_sem]; done) | (simp [go_sem, k_R_0, k_R_1, k_R_2, f_R, hl_R]; done))
                    have k_K_2 : W19.cell? ⟨wt18.heap.size, 2, none⟩ = some (.slice rk2 (nlen (p1).den) ck2) := by rw [← hW]; (first | (go_simp; done) | (simp; done) | (simp [go_sem]; done) | (simp [go_sem, k_R_0, k_R_1, k_R_2, f_R, hl_R]; done))
                    have f_K : ∀ o, W19.frozen? ⟨wt18.heap.size, o, none⟩ = false := by intro o; rw [← hW]; (first | (go_simp; done) | (simp; done) | (simp [go_sem]; done) | (simp [go_sem, k_R_0, k_R_1, k_R_2, f_R, hl_R]; done))
                    have HX_K := Lib.hid (show Bn W19 (wt18.heap.size) by rw [← hW]; exact KpA)
                    replace HR := Lib.hid (HR.out.keep HK_W19.out)
                    replace HK1 := Lib.hid (HK1.out.keep HK_W19.out)
                    replace HK2 := Lib.hid (HK2.out.keep HK_W19.out)
                    replace HB := Lib.hid (show Below wd.heap.size wd W19 by rw [← hW]; exact BlA)
                    replace hN : N ≤ W19.heap.size := by rw [← hW]; (first | omega | (simp; done) | (simp; omega))
                    replace hs0 : wd.heap.size ≤ W19.heap.size := by rw [← hW]; (first | omega | (simp; done) | (simp; omega))
                    replace hl_R : w.heap.size < W19.heap.size := by rw [← hW]; (first | omega | (simp; done) | (simp; omega))
                    have hl_K : wt18.heap.size < W19.heap.size := by rw [← hW]; (first | omega | (simp; done) | (simp; omega))
                    replace HW := Lib.hid (HW.out.below HL_W19.out)
                    replace HU2 := Lib.hid (HU2.out.below HL_W19.out)
                    clear HL_W19
                    clear hW HK_W19
                    refine (rof_any (N := N) ((k : Int) + 1 + slack) 1 _ hN (by omega) (by omega) (by omega) (by omega) p2 HPC.out).mono ?_
                    rw [show decide (0 < (1 : Int).natAbs) = true from rfl]
                    rintro e wt20 ⟨rl, cl, rl2, cl2, rfl, hn1', hn2', hb⟩
                    have hs_wt20 : W19.heap.size ≤ wt20.heap.size := hb.size
                    replace k_R_0 : wt20.cell? ⟨w.heap.size, 0, none⟩ = some (.bool s) := (hb.cell (p := ⟨w.heap.size, 0, none⟩) hl_R).trans k_R_0
                    replace k_R_1 : wt20.cell? ⟨w.heap.size, 1, none⟩ = some (.slice a na ca) := (hb.cell (p := ⟨w.heap.size, 1, none⟩) hl_R).trans k_R_1
                    replace k_R_2 : wt20.cell? ⟨w.heap.size, 2, none⟩ = some (.slice d nd cd) := (hb.cell (p := ⟨w.heap.size, 2, none⟩) hl_R).trans k_R_2
                    replace f_R : ∀ o, wt20.frozen? ⟨w.heap.size, o, none⟩ = false := fun o => (hb.frozen (p := ⟨w.heap.size, o, none⟩) hl_R).trans (f_R o)
                    replace HX_R := Lib.hid (HX_R.out.below hb)
                    replace k_K_0 : wt20.cell? ⟨wt18.heap.size, 0, none⟩ = some (.bool (decide ((p1).num < 0))) := (hb.cell (p := ⟨wt18.heap.size, 0, none⟩) hl_K).trans k_K_0
                    replace k_K_1 : wt20.cell? ⟨wt18.heap.size, 1, none⟩ = some (.slice rk (nlen (p1).num.natAbs) ck) := (hb.cell (p := ⟨wt18.heap.size, 1, none⟩) hl_K).trans k_K_1
                    replace k_K_2 : wt20.cell? ⟨wt18.heap.size, 2, none⟩ = some (.slice rk2 (nlen (p1).den) ck2) := (hb.cell (p := ⟨wt18.heap.size, 2, none⟩) hl_K).trans k_K_2
                    replace f_K : ∀ o, wt20.frozen? ⟨wt18.heap.size, o, none⟩ = false := fun o => (hb.frozen (p := ⟨wt18.heap.size, o, none⟩) hl_K).trans (f_K o)
                    replace HX_K := Lib.hid (HX_K.out.below hb)
                    replace HR := Lib.hid (HR.out.below hb)
                    replace HK1 := Lib.hid (HK1.out.below hb)
                    replace HK2 := Lib.hid (HK2.out.below hb)
                    replace HB := Lib.hid (HB.out.trans (hb.mono hs0))
                    replace hN : N ≤ wt20.heap.size := Nat.le_trans hN hb.size
                    replace hs0 : wd.heap.size ≤ wt20.heap.size := Nat.le_trans hs0 hb.size
                    replace hl_R : w.heap.size < wt20.heap.size := Nat.lt_of_lt_of_le hl_R hb.size
                    replace hl_K : wt18.heap.size < wt20.heap.size := Nat.lt_of_lt_of_le hl_K hb.size
                    replace HW := Lib.hid (HW.out.below hb)
                    replace HU2 := Lib.hid (HU2.out.below hb)
                    clear hb
                    have HL1 := Lib.hid hn1'
                    clear hn1'
                    have HL2 := Lib.hid hn2'
                    clear hn2'
                    go_wp2_with fail
                    refine region_name fun W21 hW => ?_
                    have HL_W21 := Lib.hid (show Below wt20.heap.size wt20 W21 by rw [← hW]; exact BlA)
                    have hs_W21 : wt20.heap.size ≤ W21.heap.size := by rw [← hW]; (first | omega | (simp; done) | (simp; omega))
                    have hd_R_A : w.heap.size < wt20.heap.size := by omega
                    have hd_K_A : wt18.heap.size < wt20.heap.size := by omega
                    have HK_W21 := Lib.hid (show Kp N wt20 W21 by rw [← hW]; exact KpA)
                    replace k_R_0 : W21.cell? ⟨w.heap.size, 0, none⟩ = some (.bool s) := (HL_W21.out.cell (p := ⟨w.heap.size, 0, none⟩) hl_R).trans k_R_0
                    replace k_R_1 : W21.cell? ⟨w.heap.size, 1, none⟩ = some (.slice a na ca) := (HL_W21.out.cell (p := ⟨w.heap.size, 1, none⟩) hl_R).trans k_R_1
                    replace k_R_2 : W21.cell? ⟨w.heap.size, 2, none⟩ = some (.slice d nd cd) := (HL_W21.out.cell (p := ⟨w.heap.size, 2, none⟩) hl_R).trans k_R_2
                    replace f_R : ∀ o, W21.frozen? ⟨w.heap.size, o, none⟩ = false := fun o => (HL_W21.out.frozen (p := ⟨w.heap.size, o, none⟩) hl_R).trans (f_R o)
                    replace HX_R := Lib.hid (show Bn W21 (w.heap.size) by rw [← hW]; exact KpA)
                    replace k_K_0 : W21.cell? ⟨wt18.heap.size, 0, none⟩ = some (.bool (decide ((p1).num < 0))) := (HL_W21.out.cell (p := ⟨wt18.heap.size, 0, none⟩) hl_K).trans k_K_0
                    replace k_K_1 : W21.cell? ⟨wt18.heap.size, 1, none⟩ = some (.slice rk (nlen (p1).num.natAbs) ck) := (HL_W21.out.cell (p := ⟨wt18.heap.size, 1, none⟩) hl_K).trans k_K_1
                    replace k_K_2 : W21.cell? ⟨wt18.heap.size, 2, none⟩ = some (.slice rk2 (nlen (p1).den) ck2) := (HL_W21.out.cell (p := ⟨wt18.heap.size, 2, none⟩) hl_K).trans k_K_2
                    replace f_K : ∀ o, W21.frozen? ⟨wt18.heap.size, o, none⟩ = false := fun o => (HL_W21.out.frozen (p := ⟨wt18.heap.size, o, none⟩) hl_K).trans (f_K o)
                    replace HX_K := Lib.hid (show Bn W21 (wt18.heap.size) by rw [← hW]; exact KpA)
                    have k_A_0 : W21.cell? ⟨wt20.heap.size, 0, none⟩ = some (.bool (decide ((p2).num < 0))) := by rw [← hW]; (first | (go_simp; done) | (simp; done) | (simp [go_sem]; done) | (simp [go_sem, k_R_0, k_R_1, k_R_2, k_K_0, k_K_1, k_K_2, f_R, f_K, hl_R, hl_K]; done))
                    have k_A_1 : W21.cell? ⟨wt20.heap.size, 1, none⟩ = some (.slice rl (nlen (p2).num.natAbs) cl) := by rw [← hW]; (first | (go_simp; done) | (simp; done) | (simp [go_sem]; done) | (simp [go_sem, k_R_0, k_R_1, k_R_2, k_K_0, k_K_1, k_K_2, f_R, f_K, hl_R, hl_K]; done))
                    have k_A_2 : W21.cell? ⟨wt20.heap.size, 2, none⟩ = some (.slice rl2 (nlen (p2).den) cl2) := by rw [← hW]; (first | (go_simp; done) | (simp; done) | (simp [go_sem]; done) | (simp [go_sem, k_R_0, k_R_1, k_R_2, k_K_0, k_K_1, k_K_2, f_R, f_K, hl_R, hl_K]; done))
                    have f_A : ∀ o, W21.frozen? ⟨wt20.heap.size, o, none⟩ = false := by intro o; rw [← hW]; (first | (go_simp; done) | (simp; done) | (simp [go_sem]; done) | (simp [go_sem, k_R_0, k_R_1, k_R_2, k_K_0, k_K_1, k_K_2, f_R, f_K, hl_R, hl_K]; done))
                    have HX_A := Lib.hid (show Bn W21 (wt20.heap.size) by rw [← hW]; exact KpA)
                    replace HR := Lib.hid (HR.out.keep HK_W21.out)
                    replace HK1 := Lib.hid (HK1.out.keep HK_W21.out)
                    replace HK2 := Lib.hid (HK2.out.keep HK_W21.out)
                    replace HL1 := Lib.hid (HL1.out.keep HK_W21.out)
                    replace HL2 := Lib.hid (HL2.out.keep HK_W21.out)
                    replace HB := Lib.hid (show Below wd.heap.size wd W21 by rw [← hW]; exact BlA)
                    replace hN : N ≤ W21.heap.size := by rw [← hW]; (first | omega | (simp; done) | (simp; omega))
                    replace hs0 : wd.heap.size ≤ W21.heap.size := by rw [← hW]; (first | omega | (simp; done) | (simp; omega))
                    replace hl_R : w.heap.size < W21.heap.size := by rw [← hW]; (first | omega | (simp; done) | (simp; omega))
                    replace hl_K : wt18.heap.size < W21.heap.size := by rw [← hW]; (first | omega | (simp; done) | (simp; omega))
                    have hl_A : wt20.heap.size < W21.heap.size := by rw [← hW]; (first | omega | (simp; done) | (simp; omega))
                    replace HW := Lib.hid (HW.out.below HL_W21.out)
                    replace HU2 := Lib.hid (HU2.out.below HL_W21.out)
                    clear HL_W21
                    clear hW HK_W21
                    have HZ1 := Lib.hid (show rsz p1 ≤ 1 from rsz_int _ (by omega) p1 HPB.out.symm)
                    have HZ2 := Lib.hid (show rsz p2 ≤ 1 from rsz_int _ (by omega) p2 HPD.out.symm)
                    obtain ⟨p3, hp3⟩ : ∃ p : Rat, q * p2 = p := ⟨_, rfl⟩
                    have HP3 := Lib.hid hp3
                    obtain ⟨κ, hκ⟩ : ∃ κ, cmpQ p1 p3 = κ := ⟨_, rfl⟩
                    have HKA := Lib.hid hκ
                    have hk0 : ¬ (0 : Int) < κ := by rw [← hκ]; exact cmp_cap (by rw [HPB.out, ← hp3, HPD.out]; exact HCP.out)
                    have hkd : decide (κ > 0) = false := decide_eq_false hk0
                    have HZ3 := Lib.hid (show rsz p3 ≤ 21 by rw [← hp3]; exact Nat.le_trans (rsz_mul q p2) (by have := HR.out.rsz_le; have := HZ2.out; omega))
                    clear hp3 hκ
                    refine region_inv2 (by kernel_rfl) (CapJ N s a d na ca nd cd p1 p2 p3 rk rk2 rl rl2 ck ck2 cl cl2 κ (W21)) ?_ ?_ ?_ ?_
                    · exact ⟨u94, u95, u96, u97, u98, u99, u100, u101, u102, u103, u104, u105, u106, u107, by simp only [Act.put, List.setIfInBounds_toArray, List.set_cons_zero, List.set_cons_succ], Since.drawn _, (fun h => by cases h), (fun h => by cases h), (fun h => by cases h), (fun h => by cases h), (fun h => by cases h), (fun h => by cases h), (fun h => by cases h), (fun h => by cases h), (fun h => by cases h), (fun h => by cases h), (fun h => by cases h), (fun h => by cases h), (fun h => by cases h), (fun h => by cases h)⟩
                    · exact acyc_spec (by kernel_rfl)
                    · intro Ls a0 wq i o ho hLi hafter hJ
                      obtain ⟨u94, u95, u96, u97, u98, u99, u100, u101, u102, u103, u104, u105, u106, u107, rfl, hS, p0, p1, p2, p3, p4, p5, p6, p7, p8, p9, p10, p11, p12, p13⟩ := hJ
                      have hi : i < 14 := (Array.getElem?_eq_some_iff.1 ho).1
                      obtain rfl | rfl | rfl | rfl | rfl | rfl | rfl | rfl | rfl | rfl | rfl | rfl | rfl | rfl : i = 0 ∨ i = 1 ∨ i = 2 ∨ i = 3 ∨ i = 4 ∨ i = 5 ∨ i = 6 ∨ i = 7 ∨ i = 8 ∨ i = 9 ∨ i = 10 ∨ i = 11 ∨ i = 12 ∨ i = 13 := by omega
                      · simp only [List.getElem?_toArray, List.getElem?_cons_zero, Option.some.injEq] at ho
                        subst ho
                        have P0 := Lib.hid p0
                        have P1 := Lib.hid p1
                        have P2 := Lib.hid p2
                        have P3 := Lib.hid p3
                        have P4 := Lib.hid p4
                        have P5 := Lib.hid p5
                        have P6 := Lib.hid p6
                        have P7 := Lib.hid p7
                        have P8 := Lib.hid p8
                        have P9 := Lib.hid p9
                        have P10 := Lib.hid p10
                        have P11 := Lib.hid p11
                        have P12 := Lib.hid p12
                        have P13 := Lib.hid p13
                        have HS := Lib.hid hS
                        clear hS hLi hafter p0 p1 p2 p3 p4 p5 p6 p7 p8 p9 p10 p11 p12 p13
                        simp only [Act.put, List.setIfInBounds_toArray, List.set_cons_zero, List.set_cons_succ]
                        go_wp2_with fail
                        exact ⟨.bool true, u95, u96, u97, u98, u99, u100, u101, u102, u103, u104, u105, u106, u107, by simp only [Act.put, List.setIfInBounds_toArray, List.set_cons_zero, List.set_cons_succ], HS.out, (fun _ => rfl), (fun h => by first | rfl | exact P1.out (by simpa using h)), (fun h => by first | rfl | exact P2.out (by simpa using h)), (fun h => by first | rfl | exact P3.out (by simpa using h)), (fun h => by first | rfl | exact P4.out (by simpa using h)), (fun h => by first | rfl | exact P5.out (by simpa using h)), (fun h => by first | rfl | exact P6.out (by simpa using h)), (fun h => by first | rfl | exact P7.out (by simpa using h)), (fun h => by first | rfl | exact P8.out (by simpa using h)), (fun h => by first | rfl | exact P9.out (by simpa using h)), (fun h => P10.out (by simpa using h)), (fun h => by first | rfl | exact P11.out (by simpa using h)), (fun h => by first | rfl | exact P12.out (by simpa using h)), (fun h => by first | rfl | exact P13.out (by simpa using h))⟩
                      · simp only [List.getElem?_toArray, List.getElem?_cons_zero, List.getElem?_cons_succ, Option.some.injEq] at ho
                        subst ho
                        obtain rfl := p0 (hafter ⟨0, .data⟩ (by simp) rfl)
                        have P0 := Lib.hid p0
                        have P1 := Lib.hid p1
                        have P2 := Lib.hid p2
                        have P3 := Lib.hid p3
                        have P4 := Lib.hid p4
                        have P5 := Lib.hid p5
                        have P6 := Lib.hid p6
                        have P7 := Lib.hid p7
                        have P8 := Lib.hid p8
                        have P9 := Lib.hid p9
                        have P10 := Lib.hid p10
                        have P11 := Lib.hid p11
                        have P12 := Lib.hid p12
                        have P13 := Lib.hid p13
                        have HS := Lib.hid hS
                        clear hS hLi hafter p0 p1 p2 p3 p4 p5 p6 p7 p8 p9 p10 p11 p12 p13
                        simp only [Act.put, List.setIfInBounds_toArray, List.set_cons_zero, List.set_cons_succ]
                        go_wp2_with fail
                        exact ⟨.bool true, .bool false, u96, u97, u98, u99, u100, u101, u102, u103, u104, u105, u106, u107, by simp only [Act.put, List.setIfInBounds_toArray, List.set_cons_zero, List.set_cons_succ], HS.out, (fun h => by first | rfl | exact P0.out (by simpa using h)), (fun _ => rfl), (fun h => by first | rfl | exact P2.out (by simpa using h)), (fun h => by first | rfl | exact P3.out (by simpa using h)), (fun h => by first | rfl | exact P4.out (by simpa using h)), (fun h => by first | rfl | exact P5.out (by simpa using h)), (fun h => by first | rfl | exact P6.out (by simpa using h)), (fun h => by first | rfl | exact P7.out (by simpa using h)), (fun h => by first | rfl | exact P8.out (by simpa using h)), (fun h => by first | rfl | exact P9.out (by simpa using h)), (fun h => P10.out (by simpa using h)), (fun h => by first | rfl | exact P11.out (by simpa using h)), (fun h => by first | rfl | exact P12.out (by simpa using h)), (fun h => by first | rfl | exact P13.out (by simpa using h))⟩
                      · simp only [List.getElem?_toArray, List.getElem?_cons_zero, List.getElem?_cons_succ, Option.some.injEq] at ho
                        subst ho
                        obtain rfl := p1 (hafter ⟨1, .data⟩ (by simp) rfl)
                        have P0 := Lib.hid p0
                        have P1 := Lib.hid p1
                        have P2 := Lib.hid p2
                        have P3 := Lib.hid p3
                        have P4 := Lib.hid p4
                        have P5 := Lib.hid p5
                        have P6 := Lib.hid p6
                        have P7 := Lib.hid p7
                        have P8 := Lib.hid p8
                        have P9 := Lib.hid p9
                        have P10 := Lib.hid p10
                        have P11 := Lib.hid p11
                        have P12 := Lib.hid p12
                        have P13 := Lib.hid p13
                        have HS := Lib.hid hS
                        clear hS hLi hafter p0 p1 p2 p3 p4 p5 p6 p7 p8 p9 p10 p11 p12 p13
                        simp only [Act.put, List.setIfInBounds_toArray, List.set_cons_zero, List.set_cons_succ]
                        go_wp2_with fail
                        exact ⟨u94, .bool false, .bool false, u97, u98, u99, u100, u101, u102, u103, u104, u105, u106, u107, by simp only [Act.put, List.setIfInBounds_toArray, List.set_cons_zero, List.set_cons_succ], HS.out, (fun h => by first | rfl | exact P0.out (by simpa using h)), (fun h => by first | rfl | exact P1.out (by simpa using h)), (fun _ => rfl), (fun h => by first | rfl | exact P3.out (by simpa using h)), (fun h => by first | rfl | exact P4.out (by simpa using h)), (fun h => by first | rfl | exact P5.out (by simpa using h)), (fun h => by first | rfl | exact P6.out (by simpa using h)), (fun h => by first | rfl | exact P7.out (by simpa using h)), (fun h => by first | rfl | exact P8.out (by simpa using h)), (fun h => by first | rfl | exact P9.out (by simpa using h)), (fun h => P10.out (by simpa using h)), (fun h => by first | rfl | exact P11.out (by simpa using h)), (fun h => by first | rfl | exact P12.out (by simpa using h)), (fun h => by first | rfl | exact P13.out (by simpa using h))⟩
                      · simp only [List.getElem?_toArray, List.getElem?_cons_zero, List.getElem?_cons_succ, Option.some.injEq] at ho
                        subst ho
                        obtain rfl := p2 (hafter ⟨2, .guard⟩ (by simp) rfl)
                        have P0 := Lib.hid p0
                        have P1 := Lib.hid p1
                        have P2 := Lib.hid p2
                        have P3 := Lib.hid p3
                        have P4 := Lib.hid p4
                        have P5 := Lib.hid p5
                        have P6 := Lib.hid p6
                        have P7 := Lib.hid p7
                        have P8 := Lib.hid p8
                        have P9 := Lib.hid p9
                        have P10 := Lib.hid p10
                        have P11 := Lib.hid p11
                        have P12 := Lib.hid p12
                        have P13 := Lib.hid p13
                        have HS := Lib.hid hS
                        clear hS hLi hafter p0 p1 p2 p3 p4 p5 p6 p7 p8 p9 p10 p11 p12 p13
                        simp only [Act.put, List.setIfInBounds_toArray, List.set_cons_zero, List.set_cons_succ]
                        go_wp2_with fail
                        exact ⟨u94, u95, .bool false, .bool true, u98, u99, u100, u101, u102, u103, u104, u105, u106, u107, by simp only [Act.put, List.setIfInBounds_toArray, List.set_cons_zero, List.set_cons_succ], HS.out, (fun h => by first | rfl | exact P0.out (by simpa using h)), (fun h => by first | rfl | exact P1.out (by simpa using h)), (fun h => by first | rfl | exact P2.out (by simpa using h)), (fun _ => rfl), (fun h => by first | rfl | exact P4.out (by simpa using h)), (fun h => by first | rfl | exact P5.out (by simpa using h)), (fun h => by first | rfl | exact P6.out (by simpa using h)), (fun h => by first | rfl | exact P7.out (by simpa using h)), (fun h => by first | rfl | exact P8.out (by simpa using h)), (fun h => by first | rfl | exact P9.out (by simpa using h)), (fun h => P10.out (by simpa using h)), (fun h => by first | rfl | exact P11.out (by simpa using h)), (fun h => by first | rfl | exact P12.out (by simpa using h)), (fun h => by first | rfl | exact P13.out (by simpa using h))⟩
                      · simp only [List.getElem?_toArray, List.getElem?_cons_zero, List.getElem?_cons_succ, Option.some.injEq] at ho
                        subst ho
                        obtain rfl := p3 (hafter ⟨3, .data⟩ (by simp) rfl)
                        obtain rfl := p2 (hafter ⟨2, .guard⟩ (by simp) rfl)
                        have P0 := Lib.hid p0
                        have P1 := Lib.hid p1
                        have P2 := Lib.hid p2
                        have P3 := Lib.hid p3
                        have P4 := Lib.hid p4
                        have P5 := Lib.hid p5
                        have P6 := Lib.hid p6
                        have P7 := Lib.hid p7
                        have P8 := Lib.hid p8
                        have P9 := Lib.hid p9
                        have P10 := Lib.hid p10
                        have P11 := Lib.hid p11
                        have P12 := Lib.hid p12
                        have P13 := Lib.hid p13
                        have HS := Lib.hid hS
                        clear hS hLi hafter p0 p1 p2 p3 p4 p5 p6 p7 p8 p9 p10 p11 p12 p13
                        simp only [Act.put, List.setIfInBounds_toArray, List.set_cons_zero, List.set_cons_succ]
                        go_wp2_with fail
                        exact ⟨u94, u95, .bool false, .bool true, .bool false, u99, u100, u101, u102, u103, u104, u105, u106, u107, by simp only [Act.put, List.setIfInBounds_toArray, List.set_cons_zero, List.set_cons_succ], HS.out, (fun h => by first | rfl | exact P0.out (by simpa using h)), (fun h => by first | rfl | exact P1.out (by simpa using h)), (fun h => by first | rfl | exact P2.out (by simpa using h)), (fun h => by first | rfl | exact P3.out (by simpa using h)), (fun _ => rfl), (fun h => by first | rfl | exact P5.out (by simpa using h)), (fun h => by first | rfl | exact P6.out (by simpa using h)), (fun h => by first | rfl | exact P7.out (by simpa using h)), (fun h => by first | rfl | exact P8.out (by simpa using h)), (fun h => by first | rfl | exact P9.out (by simpa using h)), (fun h => P10.out (by simpa using h)), (fun h => by first | rfl | exact P11.out (by simpa using h)), (fun h => by first | rfl | exact P12.out (by simpa using h)), (fun h => by first | rfl | exact P13.out (by simpa using h))⟩
                      · simp only [List.getElem?_toArray, List.getElem?_cons_zero, List.getElem?_cons_succ, Option.some.injEq] at ho
                        subst ho
                        obtain rfl := p2 (hafter ⟨2, .data⟩ (by simp) rfl)
                        obtain rfl := p4 (hafter ⟨4, .data⟩ (by simp) rfl)
                        have P0 := Lib.hid p0
                        have P1 := Lib.hid p1
                        have P2 := Lib.hid p2
                        have P3 := Lib.hid p3
                        have P4 := Lib.hid p4
                        have P5 := Lib.hid p5
                        have P6 := Lib.hid p6
                        have P7 := Lib.hid p7
                        have P8 := Lib.hid p8
                        have P9 := Lib.hid p9
                        have P10 := Lib.hid p10
                        have P11 := Lib.hid p11
                        have P12 := Lib.hid p12
                        have P13 := Lib.hid p13
                        have HS := Lib.hid hS
                        clear hS hLi hafter p0 p1 p2 p3 p4 p5 p6 p7 p8 p9 p10 p11 p12 p13
                        simp only [Act.put, List.setIfInBounds_toArray, List.set_cons_zero, List.set_cons_succ]
                        go_wp2_with fail
                        exact ⟨u94, u95, .bool false, u97, .bool false, .bool false, u100, u101, u102, u103, u104, u105, u106, u107, by simp only [Act.put, List.setIfInBounds_toArray, List.set_cons_zero, List.set_cons_succ], HS.out, (fun h => by first | rfl | exact P0.out (by simpa using h)), (fun h => by first | rfl | exact P1.out (by simpa using h)), (fun h => by first | rfl | exact P2.out (by simpa using h)), (fun h => by first | rfl | exact P3.out (by simpa using h)), (fun h => by first | rfl | exact P4.out (by simpa using h)), (fun _ => rfl), (fun h => by first | rfl | exact P6.out (by simpa using h)), (fun h => by first | rfl | exact P7.out (by simpa using h)), (fun h => by first | rfl | exact P8.out (by simpa using h)), (fun h => by first | rfl | exact P9.out (by simpa using h)), (fun h => P10.out (by simpa using h)), (fun h => by first | rfl | exact P11.out (by simpa using h)), (fun h => by first | rfl | exact P12.out (by simpa using h)), (fun h => by first | rfl | exact P13.out (by simpa using h))⟩
                      · simp only [List.getElem?_toArray, List.getElem?_cons_zero, List.getElem?_cons_succ, Option.some.injEq] at ho
                        subst ho
                        obtain rfl := p5 (hafter ⟨5, .data⟩ (by simp) rfl)
                        have P0 := Lib.hid p0
                        have P1 := Lib.hid p1
                        have P2 := Lib.hid p2
                        have P3 := Lib.hid p3
                        have P4 := Lib.hid p4
                        have P5 := Lib.hid p5
                        have P6 := Lib.hid p6
                        have P7 := Lib.hid p7
                        have P8 := Lib.hid p8
                        have P9 := Lib.hid p9
                        have P10 := Lib.hid p10
                        have P11 := Lib.hid p11
                        have P12 := Lib.hid p12
                        have P13 := Lib.hid p13
                        have HS := Lib.hid hS
                        clear hS hLi hafter p0 p1 p2 p3 p4 p5 p6 p7 p8 p9 p10 p11 p12 p13
                        simp only [Act.put, List.setIfInBounds_toArray, List.set_cons_zero, List.set_cons_succ]
                        go_wp2_with fail
                        exact ⟨u94, u95, u96, u97, u98, .bool false, .bool false, u101, u102, u103, u104, u105, u106, u107, by simp only [Act.put, List.setIfInBounds_toArray, List.set_cons_zero, List.set_cons_succ], HS.out, (fun h => by first | rfl | exact P0.out (by simpa using h)), (fun h => by first | rfl | exact P1.out (by simpa using h)), (fun h => by first | rfl | exact P2.out (by simpa using h)), (fun h => by first | rfl | exact P3.out (by simpa using h)), (fun h => by first | rfl | exact P4.out (by simpa using h)), (fun h => by first | rfl | exact P5.out (by simpa using h)), (fun _ => rfl), (fun h => by first | rfl | exact P7.out (by simpa using h)), (fun h => by first | rfl | exact P8.out (by simpa using h)), (fun h => by first | rfl | exact P9.out (by simpa using h)), (fun h => P10.out (by simpa using h)), (fun h => by first | rfl | exact P11.out (by simpa using h)), (fun h => by first | rfl | exact P12.out (by simpa using h)), (fun h => by first | rfl | exact P13.out (by simpa using h))⟩
                      · simp only [List.getElem?_toArray, List.getElem?_cons_zero, List.getElem?_cons_succ, Option.some.injEq] at ho
                        subst ho
                        obtain rfl := p6 (hafter ⟨6, .guard⟩ (by simp) rfl)
                        have c0 := (hS.1.cell (p := ⟨wt18.heap.size, 0, none⟩) hl_K).trans k_K_0
                        have c1 := (hS.1.cell (p := ⟨wt18.heap.size, 1, none⟩) hl_K).trans k_K_1
                        have c2 := (hS.1.cell (p := ⟨wt18.heap.size, 2, none⟩) hl_K).trans k_K_2
                        have P0 := Lib.hid p0
                        have P1 := Lib.hid p1
                        have P2 := Lib.hid p2
                        have P3 := Lib.hid p3
                        have P4 := Lib.hid p4
                        have P5 := Lib.hid p5
                        have P6 := Lib.hid p6
                        have P7 := Lib.hid p7
                        have P8 := Lib.hid p8
                        have P9 := Lib.hid p9
                        have P10 := Lib.hid p10
                        have P11 := Lib.hid p11
                        have P12 := Lib.hid p12
                        have P13 := Lib.hid p13
                        have HS := Lib.hid hS
                        clear hS hLi hafter p0 p1 p2 p3 p4 p5 p6 p7 p8 p9 p10 p11 p12 p13
                        simp only [Act.put, List.setIfInBounds_toArray, List.set_cons_zero, List.set_cons_succ]
                        go_wp2_with fail
                        exact ⟨u94, u95, u96, u97, u98, u99, .bool false, .agg #[.bool (decide ((p1).num < 0)), .slice rk (nlen (p1).num.natAbs) ck, .slice rk2 (nlen (p1).den) ck2], u102, u103, u104, u105, u106, u107, by simp only [Act.put, List.setIfInBounds_toArray, List.set_cons_zero, List.set_cons_succ], HS.out, (fun h => by first | rfl | exact P0.out (by simpa using h)), (fun h => by first | rfl | exact P1.out (by simpa using h)), (fun h => by first | rfl | exact P2.out (by simpa using h)), (fun h => by first | rfl | exact P3.out (by simpa using h)), (fun h => by first | rfl | exact P4.out (by simpa using h)), (fun h => by first | rfl | exact P5.out (by simpa using h)), (fun h => by first | rfl | exact P6.out (by simpa using h)), (fun _ => rfl), (fun h => by first | rfl | exact P8.out (by simpa using h)), (fun h => by first | rfl | exact P9.out (by simpa using h)), (fun h => P10.out (by simpa using h)), (fun h => by first | rfl | exact P11.out (by simpa using h)), (fun h => by first | rfl | exact P12.out (by simpa using h)), (fun h => by first | rfl | exact P13.out (by simpa using h))⟩
                      · simp only [List.getElem?_toArray, List.getElem?_cons_zero, List.getElem?_cons_succ, Option.some.injEq] at ho
                        subst ho
                        obtain rfl := p6 (hafter ⟨6, .guard⟩ (by simp) rfl)
                        have c0 := (hS.1.cell (p := ⟨w.heap.size, 0, none⟩) hl_R).trans k_R_0
                        have c1 := (hS.1.cell (p := ⟨w.heap.size, 1, none⟩) hl_R).trans k_R_1
                        have c2 := (hS.1.cell (p := ⟨w.heap.size, 2, none⟩) hl_R).trans k_R_2
                        have P0 := Lib.hid p0
                        have P1 := Lib.hid p1
                        have P2 := Lib.hid p2
                        have P3 := Lib.hid p3
                        have P4 := Lib.hid p4
                        have P5 := Lib.hid p5
                        have P6 := Lib.hid p6
                        have P7 := Lib.hid p7
                        have P8 := Lib.hid p8
                        have P9 := Lib.hid p9
                        have P10 := Lib.hid p10
                        have P11 := Lib.hid p11
                        have P12 := Lib.hid p12
                        have P13 := Lib.hid p13
                        have HS := Lib.hid hS
                        clear hS hLi hafter p0 p1 p2 p3 p4 p5 p6 p7 p8 p9 p10 p11 p12 p13
                        simp only [Act.put, List.setIfInBounds_toArray, List.set_cons_zero, List.set_cons_succ]
                        go_wp2_with fail
                        exact ⟨u94, u95, u96, u97, u98, u99, .bool false, u101, .agg #[.bool s, .slice a na ca, .slice d nd cd], u103, u104, u105, u106, u107, by simp only [Act.put, List.setIfInBounds_toArray, List.set_cons_zero, List.set_cons_succ], HS.out, (fun h => by first | rfl | exact P0.out (by simpa using h)), (fun h => by first | rfl | exact P1.out (by simpa using h)), (fun h => by first | rfl | exact P2.out (by simpa using h)), (fun h => by first | rfl | exact P3.out (by simpa using h)), (fun h => by first | rfl | exact P4.out (by simpa using h)), (fun h => by first | rfl | exact P5.out (by simpa using h)), (fun h => by first | rfl | exact P6.out (by simpa using h)), (fun h => by first | rfl | exact P7.out (by simpa using h)), (fun _ => rfl), (fun h => by first | rfl | exact P9.out (by simpa using h)), (fun h => P10.out (by simpa using h)), (fun h => by first | rfl | exact P11.out (by simpa using h)), (fun h => by first | rfl | exact P12.out (by simpa using h)), (fun h => by first | rfl | exact P13.out (by simpa using h))⟩
                      · simp only [List.getElem?_toArray, List.getElem?_cons_zero, List.getElem?_cons_succ, Option.some.injEq] at ho
                        subst ho
                        obtain rfl := p6 (hafter ⟨6, .guard⟩ (by simp) rfl)
                        have c0 := (hS.1.cell (p := ⟨wt20.heap.size, 0, none⟩) hl_A).trans k_A_0
                        have c1 := (hS.1.cell (p := ⟨wt20.heap.size, 1, none⟩) hl_A).trans k_A_1
                        have c2 := (hS.1.cell (p := ⟨wt20.heap.size, 2, none⟩) hl_A).trans k_A_2
                        have P0 := Lib.hid p0
                        have P1 := Lib.hid p1
                        have P2 := Lib.hid p2
                        have P3 := Lib.hid p3
                        have P4 := Lib.hid p4
                        have P5 := Lib.hid p5
                        have P6 := Lib.hid p6
                        have P7 := Lib.hid p7
                        have P8 := Lib.hid p8
                        have P9 := Lib.hid p9
                        have P10 := Lib.hid p10
                        have P11 := Lib.hid p11
                        have P12 := Lib.hid p12
                        have P13 := Lib.hid p13
                        have HS := Lib.hid hS
                        clear hS hLi hafter p0 p1 p2 p3 p4 p5 p6 p7 p8 p9 p10 p11 p12 p13
                        simp only [Act.put, List.setIfInBounds_toArray, List.set_cons_zero, List.set_cons_succ]
                        go_wp2_with fail
                        exact ⟨u94, u95, u96, u97, u98, u99, .bool false, u101, u102, .agg #[.bool (decide ((p2).num < 0)), .slice rl (nlen (p2).num.natAbs) cl, .slice rl2 (nlen (p2).den) cl2], u104, u105, u106, u107, by simp only [Act.put, List.setIfInBounds_toArray, List.set_cons_zero, List.set_cons_succ], HS.out, (fun h => by first | rfl | exact P0.out (by simpa using h)), (fun h => by first | rfl | exact P1.out (by simpa using h)), (fun h => by first | rfl | exact P2.out (by simpa using h)), (fun h => by first | rfl | exact P3.out (by simpa using h)), (fun h => by first | rfl | exact P4.out (by simpa using h)), (fun h => by first | rfl | exact P5.out (by simpa using h)), (fun h => by first | rfl | exact P6.out (by simpa using h)), (fun h => by first | rfl | exact P7.out (by simpa using h)), (fun h => by first | rfl | exact P8.out (by simpa using h)), (fun _ => rfl), (fun h => P10.out (by simpa using h)), (fun h => by first | rfl | exact P11.out (by simpa using h)), (fun h => by first | rfl | exact P12.out (by simpa using h)), (fun h => by first | rfl | exact P13.out (by simpa using h))⟩
                      · simp only [List.getElem?_toArray, List.getElem?_cons_zero, List.getElem?_cons_succ, Option.some.injEq] at ho
                        subst ho
                        obtain rfl := p8 (hafter ⟨8, .data⟩ (by simp) rfl)
                        obtain rfl := p9 (hafter ⟨9, .data⟩ (by simp) rfl)
                        obtain rfl := p6 (hafter ⟨6, .guard⟩ (by simp) rfl)
                        have P0 := Lib.hid p0
                        have P1 := Lib.hid p1
                        have P2 := Lib.hid p2
                        have P3 := Lib.hid p3
                        have P4 := Lib.hid p4
                        have P5 := Lib.hid p5
                        have P6 := Lib.hid p6
                        have P7 := Lib.hid p7
                        have P8 := Lib.hid p8
                        have P9 := Lib.hid p9
                        have P10 := Lib.hid p10
                        have P11 := Lib.hid p11
                        have P12 := Lib.hid p12
                        have P13 := Lib.hid p13
                        have HS := Lib.hid hS
                        clear hS hLi hafter p0 p1 p2 p3 p4 p5 p6 p7 p8 p9 p10 p11 p12 p13
                        simp only [Act.put, List.setIfInBounds_toArray, List.set_cons_zero, List.set_cons_succ]
                        go_wp2_with fail
                        refine (rmul_any (N := N) _ _ _ _ _ _ _ _ _ _ _ _ _ _ 20 1 q p2 _ (by have := HS.out.2; omega) (HR.out.below HS.out.1) ((Rt.of_norm HL1.out HL2.out 1 HZ2.out).below HS.out.1) (by decide) (by decide) p3 HP3.out).mono ?_
                        rintro e wn ⟨r, c, r2, c2, rfl, hn, hn', hb⟩
                        have HN := Lib.hid hn
                        have HM := Lib.hid hn'
                        have Hb := Lib.hid hb
                        clear hn hn' hb
                        go_wp2_with fail
                        exact ⟨u94, u95, u96, u97, u98, u99, .bool false, u101, .agg #[.bool s, .slice a na ca, .slice d nd cd], .agg #[.bool (decide ((p2).num < 0)), .slice rl (nlen (p2).num.natAbs) cl, .slice rl2 (nlen (p2).den) cl2], _, u105, u106, u107, by simp only [Act.put, List.setIfInBounds_toArray, List.set_cons_zero, List.set_cons_succ], HS.out.below Hb.out, (fun h => by first | rfl | exact P0.out (by simpa using h)), (fun h => by first | rfl | exact P1.out (by simpa using h)), (fun h => by first | rfl | exact P2.out (by simpa using h)), (fun h => by first | rfl | exact P3.out (by simpa using h)), (fun h => by first | rfl | exact P4.out (by simpa using h)), (fun h => by first | rfl | exact P5.out (by simpa using h)), (fun h => by first | rfl | exact P6.out (by simpa using h)), (fun h => by first | rfl | exact P7.out (by simpa using h)), (fun h => by first | rfl | exact P8.out (by simpa using h)), (fun h => by first | rfl | exact P9.out (by simpa using h)), (fun _ => ⟨r, c, r2, c2, rfl, HN.out, HM.out⟩), (fun h => by first | rfl | exact P11.out (by simpa using h)), (fun h => by first | rfl | exact P12.out (by simpa using h)), (fun h => by first | rfl | exact P13.out (by simpa using h))⟩
                      · simp only [List.getElem?_toArray, List.getElem?_cons_zero, List.getElem?_cons_succ, Option.some.injEq] at ho
                        subst ho
                        obtain rfl := p7 (hafter ⟨7, .data⟩ (by simp) rfl)
                        obtain rfl := p6 (hafter ⟨6, .guard⟩ (by simp) rfl)
                        have HQ10 := Lib.hid (p10 (hafter ⟨10, .data⟩ (by simp) rfl))
                        have P0 := Lib.hid p0
                        have P1 := Lib.hid p1
                        have P2 := Lib.hid p2
                        have P3 := Lib.hid p3
                        have P4 := Lib.hid p4
                        have P5 := Lib.hid p5
                        have P6 := Lib.hid p6
                        have P7 := Lib.hid p7
                        have P8 := Lib.hid p8
                        have P9 := Lib.hid p9
                        have P10 := Lib.hid p10
                        have P11 := Lib.hid p11
                        have P12 := Lib.hid p12
                        have P13 := Lib.hid p13
                        have HS := Lib.hid hS
                        clear hS hLi hafter p0 p1 p2 p3 p4 p5 p6 p7 p8 p9 p10 p11 p12 p13
                        simp only [Act.put, List.setIfInBounds_toArray, List.set_cons_zero, List.set_cons_succ]
                        go_wp2_with fail
                        refine (rcmp_is (N := N) _ _ _ _ _ _ _ 1 p1 p3 _ _ (by have := HS.out.2; omega) ((Rt.of_norm HK1.out HK2.out 1 HZ1.out).below HS.out.1) (by decide) HQ10.out HZ3.out κ HKA.out).mono ?_
                        rintro e wn ⟨rfl, hb⟩
                        have Hb := Lib.hid hb
                        clear hb
                        go_wp2_with fail
                        exact ⟨u94, u95, u96, u97, u98, u99, .bool false, .agg #[.bool (decide ((p1).num < 0)), .slice rk (nlen (p1).num.natAbs) ck, .slice rk2 (nlen (p1).den) ck2], u102, u103, _, .int .i64 κ, u106, u107, by simp only [Act.put, List.setIfInBounds_toArray, List.set_cons_zero, List.set_cons_succ], HS.out.below Hb.out, (fun h => by first | rfl | exact P0.out (by simpa using h)), (fun h => by first | rfl | exact P1.out (by simpa using h)), (fun h => by first | rfl | exact P2.out (by simpa using h)), (fun h => by first | rfl | exact P3.out (by simpa using h)), (fun h => by first | rfl | exact P4.out (by simpa using h)), (fun h => by first | rfl | exact P5.out (by simpa using h)), (fun h => by first | rfl | exact P6.out (by simpa using h)), (fun h => by first | rfl | exact P7.out (by simpa using h)), (fun h => by first | rfl | exact P8.out (by simpa using h)), (fun h => by first | rfl | exact P9.out (by simpa using h)), (fun h => (P10.out (by simpa using h)).below Hb.out), (fun _ => rfl), (fun h => by first | rfl | exact P12.out (by simpa using h)), (fun h => by first | rfl | exact P13.out (by simpa using h))⟩
                      · simp only [List.getElem?_toArray, List.getElem?_cons_zero, List.getElem?_cons_succ, Option.some.injEq] at ho
                        subst ho
                        obtain rfl := p11 (hafter ⟨11, .data⟩ (by simp) rfl)
                        obtain rfl := p6 (hafter ⟨6, .guard⟩ (by simp) rfl)
                        have P0 := Lib.hid p0
                        have P1 := Lib.hid p1
                        have P2 := Lib.hid p2
                        have P3 := Lib.hid p3
                        have P4 := Lib.hid p4
                        have P5 := Lib.hid p5
                        have P6 := Lib.hid p6
                        have P7 := Lib.hid p7
                        have P8 := Lib.hid p8
                        have P9 := Lib.hid p9
                        have P10 := Lib.hid p10
                        have P11 := Lib.hid p11
                        have P12 := Lib.hid p12
                        have P13 := Lib.hid p13
                        have HS := Lib.hid hS
                        clear hS hLi hafter p0 p1 p2 p3 p4 p5 p6 p7 p8 p9 p10 p11 p12 p13
                        simp only [Act.put, List.setIfInBounds_toArray, List.set_cons_zero, List.set_cons_succ]
                        go_wp2_with fail
                        exact ⟨u94, u95, u96, u97, u98, u99, .bool false, u101, u102, u103, u104, .int .i64 κ, .bool false, u107, by simp only [Act.put, List.setIfInBounds_toArray, List.set_cons_zero, List.set_cons_succ], HS.out, (fun h => by first | rfl | exact P0.out (by simpa using h)), (fun h => by first | rfl | exact P1.out (by simpa using h)), (fun h => by first | rfl | exact P2.out (by simpa using h)), (fun h => by first | rfl | exact P3.out (by simpa using h)), (fun h => by first | rfl | exact P4.out (by simpa using h)), (fun h => by first | rfl | exact P5.out (by simpa using h)), (fun h => by first | rfl | exact P6.out (by simpa using h)), (fun h => by first | rfl | exact P7.out (by simpa using h)), (fun h => by first | rfl | exact P8.out (by simpa using h)), (fun h => by first | rfl | exact P9.out (by simpa using h)), (fun h => P10.out (by simpa using h)), (fun h => by first | rfl | exact P11.out (by simpa using h)), (fun _ => rfl), (fun h => by first | rfl | exact P13.out (by simpa using h))⟩
                      · simp only [List.getElem?_toArray, List.getElem?_cons_zero, List.getElem?_cons_succ, Option.some.injEq] at ho
                        subst ho
                        obtain rfl := p6 (hafter ⟨6, .data⟩ (by simp) rfl)
                        obtain rfl := p12 (hafter ⟨12, .data⟩ (by simp) rfl)
                        have P0 := Lib.hid p0
                        have P1 := Lib.hid p1
                        have P2 := Lib.hid p2
                        have P3 := Lib.hid p3
                        have P4 := Lib.hid p4
                        have P5 := Lib.hid p5
                        have P6 := Lib.hid p6
                        have P7 := Lib.hid p7
                        have P8 := Lib.hid p8
                        have P9 := Lib.hid p9
                        have P10 := Lib.hid p10
                        have P11 := Lib.hid p11
                        have P12 := Lib.hid p12
                        have P13 := Lib.hid p13
                        have HS := Lib.hid hS
                        clear hS hLi hafter p0 p1 p2 p3 p4 p5 p6 p7 p8 p9 p10 p11 p12 p13
                        simp only [Act.put, List.setIfInBounds_toArray, List.set_cons_zero, List.set_cons_succ]
                        go_wp2_with fail
                        exact ⟨u94, u95, u96, u97, u98, u99, .bool false, u101, u102, u103, u104, u105, .bool false, .bool false, by simp only [Act.put, List.setIfInBounds_toArray, List.set_cons_zero, List.set_cons_succ], HS.out, (fun h => by first | rfl | exact P0.out (by simpa using h)), (fun h => by first | rfl | exact P1.out (by simpa using h)), (fun h => by first | rfl | exact P2.out (by simpa using h)), (fun h => by first | rfl | exact P3.out (by simpa using h)), (fun h => by first | rfl | exact P4.out (by simpa using h)), (fun h => by first | rfl | exact P5.out (by simpa using h)), (fun h => by first | rfl | exact P6.out (by simpa using h)), (fun h => by first | rfl | exact P7.out (by simpa using h)), (fun h => by first | rfl | exact P8.out (by simpa using h)), (fun h => by first | rfl | exact P9.out (by simpa using h)), (fun h => P10.out (by simpa using h)), (fun h => by first | rfl | exact P11.out (by simpa using h)), (fun h => by first | rfl | exact P12.out (by simpa using h)), (fun _ => rfl)⟩
                    · intro Ls a0 wq hall hJ
                      obtain ⟨u94, u95, u96, u97, u98, u99, u100, u101, u102, u103, u104, u105, u106, u107, rfl, hS, p0, p1, p2, p3, p4, p5, p6, p7, p8, p9, p10, p11, p12, p13⟩ := hJ
                      replace p0 := p0 (hall 0 (by decide))
                      replace p1 := p1 (hall 1 (by decide))
                      replace p2 := p2 (hall 2 (by decide))
                      replace p3 := p3 (hall 3 (by decide))
                      replace p4 := p4 (hall 4 (by decide))
                      replace p5 := p5 (hall 5 (by decide))
                      replace p6 := p6 (hall 6 (by decide))
                      replace p7 := p7 (hall 7 (by decide))
                      replace p8 := p8 (hall 8 (by decide))
                      replace p9 := p9 (hall 9 (by decide))
                      replace p10 := p10 (hall 10 (by decide))
                      replace p11 := p11 (hall 11 (by decide))
                      replace p12 := p12 (hall 12 (by decide))
                      replace p13 := p13 (hall 13 (by decide))
                      have hb := hS.1
                      subst p13
                      clear hall hS p0 p1 p2 p3 p4 p5 p6 p7 p8 p9 p10 p11 p12
                      have HBz := Lib.hid (HB.out.trans (hb.mono hs0))
                      have HUSz := Lib.hid (HU2.out.below hb)
                      clear hb
                      simp only [Act.put, List.setIfInBounds_toArray, List.set_cons_zero, List.set_cons_succ]
                      go_wp2_with fail
                      go_roundw
                      case rel => exact ⟨k + 1, (c + 1), by omega, by go_num, by omega, by omega, ⟨_, _, by first | rfl | (rw [HLN2.out]), by first | exact HUSz.out | (rw [HLN2.out]; exact HUSz.out)⟩, Lib.hid (by rw [show ((((k + 1 : Nat) : Int) + slack : Int)) = (k : Int) + 1 + slack by omega]; exact HCP.out), HBz.out⟩
                      case measure => simp [intOf]; omega
              · obtain rfl : k = n := by omega
                go_wp2_with fail
                go_ret
                exact ⟨rfl, HB0.out.trans (HB.out.mono hsw)⟩

theorem Try.cellsBz : Try.prog.cellsOf 4 = 1 := by kernel_rfl
section
variable {H : Type} {enc : TypeId × Value → H} {W : World} {fuel : Nat}
theorem open_bz {a : Option Addr} {n cap : Nat} {d : DataW H} {p : List MemPlace} (h : DataW.Trod enc Try.prog W 0 (fun _ => true) true 42 (.slice a n cap) d p) : ∃ f, Bz W a n cap f := by
  obtain ⟨fuel, hf⟩ := h
  have hf2 : DataW.trod enc Try.prog W 0 (fun _ => true) true fuel 42 [.slice a n cap] = some (d, p) := by simpa [Value.cells] using hf
  rcases open_slice Try.underlying42 hf2 with ⟨hcs, _⟩ | ⟨ad, len, cp, m, k, D, Pls, hcs, _, hl, hm, hmm, _, hx⟩
  · simp at hcs
    obtain ⟨rfl, rfl, rfl⟩ := hcs
    exact ⟨fun _ => false, Nat.le_refl _, Nat.zero_le _, fun h => by omega⟩
  · simp at hcs hmm
    obtain ⟨rfl, rfl, rfl⟩ := hcs
    subst hmm
    have key : ∀ i, i < m → ∃ u : Bool, W.cell? (ad.add i) = some (.bool u) := by
      intro i hi
      obtain ⟨cs', hc, ht⟩ := hx i hi
      rw [Try.cellsBz, Nat.mul_one] at hc
      obtain ⟨_, hcl, hat⟩ := World.cells?_some hc
      obtain ⟨u, hu, _⟩ := DataW.trod_bool Try.underlying4 ht
      subst hu
      have h0 := hat 0 (by omega)
      simp [Addr.add_zero'] at h0
      exact ⟨u, h0⟩
    obtain ⟨z, hz⟩ := choose_lt key
    refine ⟨z, hl, hm, fun hn => ?_⟩
    obtain ⟨b, off, spot⟩ := ad
    have hspot : spot = none := by simpa [Addr.add] using World.cell?_spot (hz 0 (by omega))
    subst hspot
    refine ⟨b, off, rfl, fun i hi => ?_⟩
    have h2 := hz i (by omega)
    simp only [add_none] at h2
    exact h2
end

set_option maxRecDepth 100000 in
theorem exposureCap_lifted (os : Os) (started : os.Started) (H : Type) (enc : TypeId × Value → H) :
    ReturnsInHanded {} Try.checked os 5 .any (Rows.exposureCapSpec.pre6 enc Try.prog Try.f5 Rows.exposureCapRow.domain false) (Rows.exposureCapSpec.post enc Try.prog Try.f5 false true false false) := by
  refine returnsInHanded_of_change (C := Try.checked) Try.own started (by kernel_rfl) Try.func5
    (ChangeSpec.witness6 (enc := enc) (C := Try.checked) false ⟨#[], #[.agg #[.bool false, .slice none 0 0, .slice none 0 0], .int .i64 0, .slice none 0 0], []⟩ 8 (by kernel_rfl) (by kernel_rfl) (by kernel_rfl) (by kernel_rfl)) ?_
  intro W base args ds gs before hval0 hW hcnd _
  have hval : ∀ (j : Nat) t v, Try.f5.params[j]? = some t → args[j]? = some v → Value.okWide Try.prog W .any base t v := hval0
  have hW' := hW
  obtain ⟨p, q, hA0, hV, rfl, hfz, hnd⟩ := hW
  have hA : DataW.TrodAll enc Try.prog W 0 (fun _ => true) true Try.f5.params.toList args.toList ds p := hA0
  rw [Try.params5] at hA hval
  obtain ⟨v0, vs0, x0, ds0, p0, q0, hargs, rfl, rfl, h0, r0⟩ := trodAll_cons hA
  obtain ⟨v1, vs1, x1, ds1, p1, q1, rfl, rfl, rfl, h1, r1⟩ := trodAll_cons r0
  obtain ⟨v2, vs2, x2, ds2, p2, q2, rfl, rfl, rfl, h2, r2⟩ := trodAll_cons r1
  obtain ⟨rfl, rfl, rfl⟩ := trodAll_nil r2
  obtain rfl : args = #[v0, v1, v2] := by cases args; simp_all
  obtain ⟨rfl, rfl⟩ := trodVars_none hV
  have k0 := h0
  have lt0 : ∀ x ∈ p0, x.block < W.heap.size := by obtain ⟨m, hm⟩ := k0; exact DataW.trod_lt m _ _ _ hm
  obtain ⟨s0, a0, n0, c0, m0, d0, nd0, cd0, md0, rfl, hn0, hd0⟩ := open_rat (hval 0 38 v0 rfl rfl) h0
  obtain ⟨a1, rfl, rfl, rfl, w1⟩ := open_int Try.underlying3 (hval 1 3 v1 rfl rfl) h1
  have k2 := h2
  have lt2 : ∀ x ∈ p2, x.block < W.heap.size := by obtain ⟨m, hm⟩ := k2; exact DataW.trod_lt m _ _ _ hm
  obtain ⟨a2, n2, c2, rfl⟩ := okWide_slice Try.underlying42 (hval 2 42 v2 rfl rfl); obtain ⟨f2, hw2⟩ := open_bz h2
  clear hA0 hval0
  refine (cap_walk (N := W.heap.size) s0 a0 d0 n0 c0 nd0 cd0 a1 a2 n2 c2 f2 W m0 md0 (Nat.le_refl _) hn0 hd0 hw2).mono fun e W' ⟨he, bel⟩ => ?_
  subst he
  exact ⟨_, rfl, _, _, _, [], _, [], hW', trodAll_mk1 (shut_bool Try.underlying4 _), (trodAll_cons_mk (Below.trod Try.laidOut (by kernel_rfl) (of_decide_eq_true (by kernel_rfl)) k0 bel lt0) (trodAll_cons_mk (shut_int Try.underlying3 w1) (trodAll_cons_mk (Below.trod Try.laidOut (by kernel_rfl) (of_decide_eq_true (by kernel_rfl)) k2 bel lt2) trodAll_mk0))), rfl, bel.frame _, fun h => by cases h⟩

theorem exposureCap_holds : Rows.ExposureCapSaid :=
  OpenClaim.holds_of_wide 5 Try.f5 rfl rfl rfl rfl rfl rfl rfl ⟨rfl, rfl, rfl, rfl, rfl⟩ rfl rfl rfl rfl rfl (by kernel_rfl) Try.func5 (by kernel_rfl)
    (of_decide_eq_true (by kernel_rfl)) (by unfold Func.isWrapper; first | (rw [if_pos (by decide +kernel)]; kernel_rfl) | (rw [if_neg (by decide +kernel)]; exact ⟨rfl, rfl⟩))
    (fun os started H enc _ => exposureCap_lifted os started H enc)
#print axioms exposureCap_holds

end Go.Proofs.Ytmljfaplohbjcaa
