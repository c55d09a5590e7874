/- integer.Print and ratio.Print: for all numbers of at most 2^36 limbs in a part a string that is not empty; of small numbers the numerals. -/
import Derived.Test.YtnillajhhimeiaaDoorPrB
namespace Go.Proofs.YtnillajhhimeiaaDoor
open Go.RowKit Go.Sort

/-- it returns a string that is not empty: of an integer from 0 to 999999999 its numeral -/
def PrPostI (z : Int) (w : World) (e : Ending) (w' : World) : Prop := ∃ l : List UInt8, e = .returned (.string ⟨l.toArray⟩) ∧ 0 < l.length ∧ l.length ≤ 8796093022209 ∧ (0 ≤ z → z.natAbs < 1000000000 → l = Lib.decDigits z.natAbs) ∧ Below w.heap.size w w'
theorem ba_app (l1 l2 : List UInt8) : (⟨l1.toArray⟩ : ByteArray) ++ ⟨l2.toArray⟩ = ⟨(l1 ++ l2).toArray⟩ := by
  apply ByteArray.ext
  simp
theorem zI_sgn (s : Bool) (m : Nat) : decide ((zI s m).sign < 0) = decide (zI s m < 0) := by
  rcases Int.lt_trichotomy (zI s m) 0 with h | h | h
  · rw [Int.sign_eq_neg_one_of_neg h]; simp [h]
  · rw [h]; rfl
  · rw [Int.sign_eq_one_of_pos h]; simp; omega

set_option maxHeartbeats 2000000 in
set_option maxRecDepth 100000 in
theorem intPrint_any {N : Nat} (s : Bool) (a : Option Addr) (n cap m : Nat) (w : World) (hN : N ≤ w.heap.size) (h : Nt N w a n cap m) (hl : n ≤ 68719476736) (htab : TabW w) (z : Int) (hz : zI s m = z) :
    Calls Tryd.prog 29 #[.agg #[.bool s, .slice a n cap]] w (PrPostI z w) := by
  have HA := Lib.hid h
  have HTab := Lib.hid htab
  have hsg := zI_sgn s m
  have hab := zI_abs s m
  rw [hz] at hsg hab
  have HZ := Lib.hid hz
  clear h htab
  by_cases hneg : z < 0
  · have hd : decide (z.sign < 0) = true := by rw [hsg]; simpa using hneg
    clear hsg hz
    have hN0 := hN
    have hs0 : w.heap.size ≤ w.heap.size := Nat.le_refl _
    have HB := Lib.hid (Below.refl w.heap.size w)
    go_enter Tryd.func29, Tryd.ntmps29
    go_wp2_with fail
    refine calls_name fun W0 hW => ?_
    have hs_W0 : w.heap.size ≤ W0.heap.size := by rw [← hW]; (first | omega | (simp; done) | (simp; omega))
    have HK_W0 := Lib.hid (show Kp N w W0 by rw [← hW]; exact KpA)
    have k_R_0 : W0.cell? ⟨w.heap.size, 0, none⟩ = some (.bool s) := by rw [← hW]; (first | (go_simp; done) | (simp; done) | (simp [go_sem]; done) | (simp [go_sem]; done))
    have k_R_1 : W0.cell? ⟨w.heap.size, 1, none⟩ = some (.slice a n cap) := by rw [← hW]; (first | (go_simp; done) | (simp; done) | (simp [go_sem]; done) | (simp [go_sem]; done))
    have f_R : ∀ o, W0.frozen? ⟨w.heap.size, o, none⟩ = false := by intro o; rw [← hW]; (first | (go_simp; done) | (simp; done) | (simp [go_sem]; done) | (simp [go_sem]; done))
    have HX_R := Lib.hid (show Bn W0 (w.heap.size) by rw [← hW]; exact KpA)
    replace HA := Lib.hid (HA.out.keep HK_W0.out)
    replace HB := Lib.hid (show Below w.heap.size w W0 by rw [← hW]; exact BlA)
    replace hN : N ≤ W0.heap.size := by rw [← hW]; (first | omega | (simp; done) | (simp; omega))
    replace hs0 : w.heap.size ≤ W0.heap.size := by rw [← hW]; (first | omega | (simp; done) | (simp; omega))
    have hl_R : w.heap.size < W0.heap.size := by rw [← hW]; (first | omega | (simp; done) | (simp; omega))
    clear hW HK_W0
    refine (isign_any (N := N) _ _ _ _ m _ HA.out).mono ?_; rw [HZ.out]
    rintro e wa ⟨rfl, hb⟩
    have hs_wa : W0.heap.size ≤ wa.heap.size := hb.size
    replace k_R_0 : wa.cell? ⟨w.heap.size, 0, none⟩ = some (.bool s) := (hb.cell (p := ⟨w.heap.size, 0, none⟩) hl_R).trans k_R_0
    replace k_R_1 : wa.cell? ⟨w.heap.size, 1, none⟩ = some (.slice a n cap) := (hb.cell (p := ⟨w.heap.size, 1, none⟩) hl_R).trans k_R_1
    replace f_R : ∀ o, wa.frozen? ⟨w.heap.size, o, none⟩ = false := fun o => (hb.frozen (p := ⟨w.heap.size, o, none⟩) hl_R).trans (f_R o)
    replace HX_R := Lib.hid (HX_R.out.below hb)
    replace HA := Lib.hid (HA.out.below hb)
    replace HB := Lib.hid (HB.out.trans (hb.mono hs0))
    replace hN : N ≤ wa.heap.size := Nat.le_trans hN hb.size
    replace hs0 : w.heap.size ≤ wa.heap.size := Nat.le_trans hs0 hb.size
    replace hl_R : w.heap.size < wa.heap.size := Nat.lt_of_lt_of_le hl_R hb.size
    clear hb
    go_wp2_with fail
    refine (natPrint_any (N := N) _ _ _ m _ HA.out hl (HTab.out.below HB.out)).mono ?_
    rintro e wb ⟨l, rfl, l0, l1, l2, hb⟩
    have hs_wb : wa.heap.size ≤ wb.heap.size := hb.size
    replace k_R_0 : wb.cell? ⟨w.heap.size, 0, none⟩ = some (.bool s) := (hb.cell (p := ⟨w.heap.size, 0, none⟩) hl_R).trans k_R_0
    replace k_R_1 : wb.cell? ⟨w.heap.size, 1, none⟩ = some (.slice a n cap) := (hb.cell (p := ⟨w.heap.size, 1, none⟩) hl_R).trans k_R_1
    replace f_R : ∀ o, wb.frozen? ⟨w.heap.size, o, none⟩ = false := fun o => (hb.frozen (p := ⟨w.heap.size, o, none⟩) hl_R).trans (f_R o)
    replace HX_R := Lib.hid (HX_R.out.below hb)
    replace HA := Lib.hid (HA.out.below hb)
    replace HB := Lib.hid (HB.out.trans (hb.mono hs0))
    replace hN : N ≤ wb.heap.size := Nat.le_trans hN hb.size
    replace hs0 : w.heap.size ≤ wb.heap.size := Nat.le_trans hs0 hb.size
    replace hl_R : w.heap.size < wb.heap.size := Nat.lt_of_lt_of_le hl_R hb.size
    clear hb
    have HL := Lib.hid l2
    clear l2
    go_wp2_with fail
    go_ret
    exact ⟨45 :: l, congrArg (fun x => Ending.returned (Value.string x)) (ba_app [45] l), by simp, by simp; omega, fun h => by omega, HB.out⟩
  · have hd : decide (z.sign < 0) = false := by rw [hsg]; simpa using hneg
    clear hsg hz
    have hN0 := hN
    have hs0 : w.heap.size ≤ w.heap.size := Nat.le_refl _
    have HB := Lib.hid (Below.refl w.heap.size w)
    go_enter Tryd.func29, Tryd.ntmps29
    go_wp2_with fail
    refine calls_name fun W0 hW => ?_
    have hs_W0 : w.heap.size ≤ W0.heap.size := by rw [← hW]; (first | omega | (simp; done) | (simp; omega))
    have HK_W0 := Lib.hid (show Kp N w W0 by rw [← hW]; exact KpA)
    have k_R_0 : W0.cell? ⟨w.heap.size, 0, none⟩ = some (.bool s) := by rw [← hW]; (first | (go_simp; done) | (simp; done) | (simp [go_sem]; done) | (simp [go_sem]; done))
    have k_R_1 : W0.cell? ⟨w.heap.size, 1, none⟩ = some (.slice a n cap) := by rw [← hW]; (first | (go_simp; done) | (simp; done) | (simp [go_sem]; done) | (simp [go_sem]; done))
    have f_R : ∀ o, W0.frozen? ⟨w.heap.size, o, none⟩ = false := by intro o; rw [← hW]; (first | (go_simp; done) | (simp; done) | (simp [go_sem]; done) | (simp [go_sem]; done))
    have HX_R := Lib.hid (show Bn W0 (w.heap.size) by rw [← hW]; exact KpA)
    replace HA := Lib.hid (HA.out.keep HK_W0.out)
    replace HB := Lib.hid (show Below w.heap.size w W0 by rw [← hW]; exact BlA)
    replace hN : N ≤ W0.heap.size := by rw [← hW]; (first | omega | (simp; done) | (simp; omega))
    replace hs0 : w.heap.size ≤ W0.heap.size := by rw [← hW]; (first | omega | (simp; done) | (simp; omega))
    have hl_R : w.heap.size < W0.heap.size := by rw [← hW]; (first | omega | (simp; done) | (simp; omega))
    clear hW HK_W0
    refine (isign_any (N := N) _ _ _ _ m _ HA.out).mono ?_; rw [HZ.out]
    rintro e wa ⟨rfl, hb⟩
    have hs_wa : W0.heap.size ≤ wa.heap.size := hb.size
    replace k_R_0 : wa.cell? ⟨w.heap.size, 0, none⟩ = some (.bool s) := (hb.cell (p := ⟨w.heap.size, 0, none⟩) hl_R).trans k_R_0
    replace k_R_1 : wa.cell? ⟨w.heap.size, 1, none⟩ = some (.slice a n cap) := (hb.cell (p := ⟨w.heap.size, 1, none⟩) hl_R).trans k_R_1
    replace f_R : ∀ o, wa.frozen? ⟨w.heap.size, o, none⟩ = false := fun o => (hb.frozen (p := ⟨w.heap.size, o, none⟩) hl_R).trans (f_R o)
    replace HX_R := Lib.hid (HX_R.out.below hb)
    replace HA := Lib.hid (HA.out.below hb)
    replace HB := Lib.hid (HB.out.trans (hb.mono hs0))
    replace hN : N ≤ wa.heap.size := Nat.le_trans hN hb.size
    replace hs0 : w.heap.size ≤ wa.heap.size := Nat.le_trans hs0 hb.size
    replace hl_R : w.heap.size < wa.heap.size := Nat.lt_of_lt_of_le hl_R hb.size
    clear hb
    go_wp2_with fail
    refine (natPrint_any (N := N) _ _ _ m _ HA.out hl (HTab.out.below HB.out)).mono ?_
    rintro e wb ⟨l, rfl, l0, l1, l2, hb⟩
    have hs_wb : wa.heap.size ≤ wb.heap.size := hb.size
    replace k_R_0 : wb.cell? ⟨w.heap.size, 0, none⟩ = some (.bool s) := (hb.cell (p := ⟨w.heap.size, 0, none⟩) hl_R).trans k_R_0
    replace k_R_1 : wb.cell? ⟨w.heap.size, 1, none⟩ = some (.slice a n cap) := (hb.cell (p := ⟨w.heap.size, 1, none⟩) hl_R).trans k_R_1
    replace f_R : ∀ o, wb.frozen? ⟨w.heap.size, o, none⟩ = false := fun o => (hb.frozen (p := ⟨w.heap.size, o, none⟩) hl_R).trans (f_R o)
    replace HX_R := Lib.hid (HX_R.out.below hb)
    replace HA := Lib.hid (HA.out.below hb)
    replace HB := Lib.hid (HB.out.trans (hb.mono hs0))
    replace hN : N ≤ wb.heap.size := Nat.le_trans hN hb.size
    replace hs0 : w.heap.size ≤ wb.heap.size := Nat.le_trans hs0 hb.size
    replace hl_R : w.heap.size < wb.heap.size := Nat.lt_of_lt_of_le hl_R hb.size
    clear hb
    have HL := Lib.hid l2
    clear l2
    go_wp2_with fail
    go_ret
    exact ⟨l, rfl, l0, by omega, fun _ h2 => by rw [hab]; exact HL.out (by omega), HB.out⟩

/-- the text of a rational number -/
def txt (q : Rat) : List UInt8 := if q.den = 1 then Lib.decDigits q.num.natAbs else Lib.decDigits q.num.natAbs ++ [47] ++ Lib.decDigits q.den
/-- it returns a string that is not empty: the text of small numbers -/
def PrPostR (q : Rat) (w : World) (e : Ending) (w' : World) : Prop := ∃ l : List UInt8, e = .returned (.string ⟨l.toArray⟩) ∧ 0 < l.length ∧ (0 ≤ q.num → q.num.natAbs < 1000000000 → q.den < 1000000000 → l = txt q) ∧ Below w.heap.size w w'
theorem cmpN_one (d : Nat) : (cmpN d 1 == 0) = decide (d = 1) := by
  unfold cmpN
  by_cases h1 : d < 1
  · rw [if_pos h1]; simp; omega
  · rw [if_neg h1]
    by_cases h2 : 1 < d
    · rw [if_pos h2]; simp; omega
    · rw [if_neg h2]; simp; omega

set_option maxHeartbeats 4000000 in
set_option maxRecDepth 100000 in
theorem ratPrint_any {N : Nat} (s : Bool) (a d : Option Addr) (na ca nd cd L : Nat) (q : Rat) (w : World) (hN : N ≤ w.heap.size) (h : Rt N w s a na ca d nd cd q L) (hL : L ≤ 68719476736) (htab : TabW w) :
    Calls Tryd.prog 10 #[.agg #[.bool s, .slice a na ca, .slice d nd cd]] w (PrPostR q w) := by
  have hz := rsz_of h
  unfold rsz at hz
  have H := Lib.hid h
  have HTab := Lib.hid htab
  have hc1 := cmpN_one q.den
  clear h htab
  by_cases hone : q.den = 1
  · have hd : (cmpN q.den 1 == 0) = true := by rw [hc1]; simpa using hone
    have HOne := Lib.hid hone
    clear hc1 hone
    have hN0 := hN
    have hs0 : w.heap.size ≤ w.heap.size := Nat.le_refl _
    have HB := Lib.hid (Below.refl w.heap.size w)
    go_enter Tryd.func10, Tryd.ntmps10
    go_wp2_with fail
    refine calls_name fun W0 hW => ?_
    have hs_W0 : w.heap.size ≤ W0.heap.size := by rw [← hW]; (first | omega | (simp; done) | (simp; omega))
    have HK_W0 := Lib.hid (show Kp N w W0 by rw [← hW]; exact KpA)
    have k_R_0 : W0.cell? ⟨w.heap.size, 0, none⟩ = some (.bool s) := by rw [← hW]; (first | (go_simp; done) | (simp; done) | (simp [go_sem]; done) | (simp [go_sem]; done))
    have k_R_1 : W0.cell? ⟨w.heap.size, 1, none⟩ = some (.slice a na ca) := by rw [← hW]; (first | (go_simp; done) | (simp; done) | (simp [go_sem]; done) | (simp [go_sem]; done))
    have k_R_2 : W0.cell? ⟨w.heap.size, 2, none⟩ = some (.slice d nd cd) := by rw [← hW]; (first | (go_simp; done) | (simp; done) | (simp [go_sem]; done) | (simp [go_sem]; done))
    have f_R : ∀ o, W0.frozen? ⟨w.heap.size, o, none⟩ = false := by intro o; rw [← hW]; (first | (go_simp; done) | (simp; done) | (simp [go_sem]; done) | (simp [go_sem]; done))
    have HX_R := Lib.hid (show Bn W0 (w.heap.size) by rw [← hW]; exact KpA)
    replace H := Lib.hid (H.out.keep HK_W0.out)
    replace HB := Lib.hid (show Below w.heap.size w W0 by rw [← hW]; exact BlA)
    replace hN : N ≤ W0.heap.size := by rw [← hW]; (first | omega | (simp; done) | (simp; omega))
    replace hs0 : w.heap.size ≤ W0.heap.size := by rw [← hW]; (first | omega | (simp; done) | (simp; omega))
    have hl_R : w.heap.size < W0.heap.size := by rw [← hW]; (first | omega | (simp; done) | (simp; omega))
    clear hW HK_W0
    refine (rnorm_any (N := N) _ _ _ _ _ _ _ L q _ hN H.out (by omega)).mono ?_
    rintro e wa ⟨rx, cx, rx2, cx2, rfl, hn, hn', hb⟩
    have hs_wa : W0.heap.size ≤ wa.heap.size := hb.size
    replace k_R_0 : wa.cell? ⟨w.heap.size, 0, none⟩ = some (.bool s) := (hb.cell (p := ⟨w.heap.size, 0, none⟩) hl_R).trans k_R_0
    replace k_R_1 : wa.cell? ⟨w.heap.size, 1, none⟩ = some (.slice a na ca) := (hb.cell (p := ⟨w.heap.size, 1, none⟩) hl_R).trans k_R_1
    replace k_R_2 : wa.cell? ⟨w.heap.size, 2, none⟩ = some (.slice d nd cd) := (hb.cell (p := ⟨w.heap.size, 2, none⟩) hl_R).trans k_R_2
    replace f_R : ∀ o, wa.frozen? ⟨w.heap.size, o, none⟩ = false := fun o => (hb.frozen (p := ⟨w.heap.size, o, none⟩) hl_R).trans (f_R o)
    replace HX_R := Lib.hid (HX_R.out.below hb)
    replace H := Lib.hid (H.out.below hb)
    replace HB := Lib.hid (HB.out.trans (hb.mono hs0))
    replace hN : N ≤ wa.heap.size := Nat.le_trans hN hb.size
    replace hs0 : w.heap.size ≤ wa.heap.size := Nat.le_trans hs0 hb.size
    replace hl_R : w.heap.size < wa.heap.size := Nat.lt_of_lt_of_le hl_R hb.size
    clear hb
    have HP := Lib.hid hn
    clear hn
    have HQ := Lib.hid hn'
    clear hn'
    clear H
    go_wp2_with fail
    refine calls_name fun W1 hW => ?_
    have hs_W1 : wa.heap.size ≤ W1.heap.size := by rw [← hW]; (first | omega | (simp; done) | (simp; omega))
    have HK_W1 := Lib.hid (show Kp N wa W1 by rw [← hW]; exact KpA)
    replace k_R_0 : W1.cell? ⟨w.heap.size, 0, none⟩ = some (.bool (decide ((q).num < 0))) := by rw [← hW]; (first | (go_simp; done) | (simp [go_sem, k_R_0]; done) | (simp [go_sem, k_R_0, k_R_1, k_R_2]; done) | (simp [go_sem, k_R_0, k_R_1, k_R_2, f_R, hl_R]; done))
    replace k_R_1 : W1.cell? ⟨w.heap.size, 1, none⟩ = some (.slice rx (nlen (q).num.natAbs) cx) := by rw [← hW]; (first | (go_simp; done) | (simp [go_sem, k_R_1]; done) | (simp [go_sem, k_R_0, k_R_1, k_R_2]; done) | (simp [go_sem, k_R_0, k_R_1, k_R_2, f_R, hl_R]; done))
    replace k_R_2 : W1.cell? ⟨w.heap.size, 2, none⟩ = some (.slice rx2 (nlen (q).den) cx2) := by rw [← hW]; (first | (go_simp; done) | (simp [go_sem, k_R_2]; done) | (simp [go_sem, k_R_0, k_R_1, k_R_2]; done) | (simp [go_sem, k_R_0, k_R_1, k_R_2, f_R, hl_R]; done))
    replace f_R : ∀ o, W1.frozen? ⟨w.heap.size, o, none⟩ = false := by intro o; rw [← hW]; (first | with_reducible exact f_R o | (simp [go_sem, f_R]; done) | (simp [go_sem, f_R, hl_R]; done) | (go_simp; done) | (simp [go_sem, k_R_0, k_R_1, k_R_2, f_R, hl_R]; done))
    replace HX_R := Lib.hid (show Bn W1 (w.heap.size) by rw [← hW]; exact KpA)
    replace HP := Lib.hid (HP.out.keep HK_W1.out)
    replace HQ := Lib.hid (HQ.out.keep HK_W1.out)
    replace HB := Lib.hid (show Below w.heap.size w W1 by rw [← hW]; exact BlA)
    replace hN : N ≤ W1.heap.size := by rw [← hW]; (first | omega | (simp; done) | (simp; omega))
    replace hs0 : w.heap.size ≤ W1.heap.size := by rw [← hW]; (first | omega | (simp; done) | (simp; omega))
    replace hl_R : w.heap.size < W1.heap.size := by rw [← hW]; (first | omega | (simp; done) | (simp; omega))
    clear hW HK_W1
    refine (intPrint_any (N := N) _ _ _ _ q.num.natAbs _ hN HP.out (by omega) (HTab.out.below HB.out) q.num (zI_norm q.num)).mono ?_
    rintro e wb ⟨l, rfl, l0, l1, l2, hb⟩
    have hs_wb : W1.heap.size ≤ wb.heap.size := hb.size
    replace k_R_0 : wb.cell? ⟨w.heap.size, 0, none⟩ = some (.bool (decide ((q).num < 0))) := (hb.cell (p := ⟨w.heap.size, 0, none⟩) hl_R).trans k_R_0
    replace k_R_1 : wb.cell? ⟨w.heap.size, 1, none⟩ = some (.slice rx (nlen (q).num.natAbs) cx) := (hb.cell (p := ⟨w.heap.size, 1, none⟩) hl_R).trans k_R_1
    replace k_R_2 : wb.cell? ⟨w.heap.size, 2, none⟩ = some (.slice rx2 (nlen (q).den) cx2) := (hb.cell (p := ⟨w.heap.size, 2, none⟩) hl_R).trans k_R_2
    replace f_R : ∀ o, wb.frozen? ⟨w.heap.size, o, none⟩ = false := fun o => (hb.frozen (p := ⟨w.heap.size, o, none⟩) hl_R).trans (f_R o)
    replace HX_R := Lib.hid (HX_R.out.below hb)
    replace HP := Lib.hid (HP.out.below hb)
    replace HQ := Lib.hid (HQ.out.below hb)
    replace HB := Lib.hid (HB.out.trans (hb.mono hs0))
    replace hN : N ≤ wb.heap.size := Nat.le_trans hN hb.size
    replace hs0 : w.heap.size ≤ wb.heap.size := Nat.le_trans hs0 hb.size
    replace hl_R : w.heap.size < wb.heap.size := Nat.lt_of_lt_of_le hl_R hb.size
    clear hb
    have HL := Lib.hid l2
    clear l2
    go_wp2_with fail
    refine region_name fun W2 hW => ?_
    have hs_W2 : wb.heap.size ≤ W2.heap.size := by rw [← hW]; (first | omega | (simp; done) | (simp; omega))
    have HK_W2 := Lib.hid (show Kp N wb W2 by rw [← hW]; exact KpA)
    replace k_R_0 : W2.cell? ⟨w.heap.size, 0, none⟩ = some (.bool (decide ((q).num < 0))) := by rw [← hW]; (first | with_reducible exact k_R_0 | (simp [go_sem, k_R_0]; done) | (simp [go_sem, k_R_0, hl_R]; done) | (go_simp; done) | (simp [go_sem, k_R_0, k_R_1, k_R_2, f_R, hl_R]; done))
    replace k_R_1 : W2.cell? ⟨w.heap.size, 1, none⟩ = some (.slice rx (nlen (q).num.natAbs) cx) := by rw [← hW]; (first | with_reducible exact k_R_1 | (simp [go_sem, k_R_1]; done) | (simp [go_sem, k_R_1, hl_R]; done) | (go_simp; done) | (simp [go_sem, k_R_0, k_R_1, k_R_2, f_R, hl_R]; done))
    replace k_R_2 : W2.cell? ⟨w.heap.size, 2, none⟩ = some (.slice rx2 (nlen (q).den) cx2) := by rw [← hW]; (first | with_reducible exact k_R_2 | (simp [go_sem, k_R_2]; done) | (simp [go_sem, k_R_2, hl_R]; done) | (go_simp; done) | (simp [go_sem, k_R_0, k_R_1, k_R_2, f_R, hl_R]; done))
    replace f_R : ∀ o, W2.frozen? ⟨w.heap.size, o, none⟩ = false := by intro o; rw [← hW]; (first | with_reducible exact f_R o | (simp [go_sem, f_R]; done) | (simp [go_sem, f_R, hl_R]; done) | (go_simp; done) | (simp [go_sem, k_R_0, k_R_1, k_R_2, f_R, hl_R]; done))
    replace HX_R := Lib.hid (show Bn W2 (w.heap.size) by rw [← hW]; exact KpA)
    replace HP := Lib.hid (HP.out.keep HK_W2.out)
    replace HQ := Lib.hid (HQ.out.keep HK_W2.out)
    replace HB := Lib.hid (show Below w.heap.size w W2 by rw [← hW]; exact BlA)
    replace hN : N ≤ W2.heap.size := by rw [← hW]; (first | omega | (simp; done) | (simp; omega))
    replace hs0 : w.heap.size ≤ W2.heap.size := by rw [← hW]; (first | omega | (simp; done) | (simp; omega))
    replace hl_R : w.heap.size < W2.heap.size := by rw [← hW]; (first | omega | (simp; done) | (simp; omega))
    clear hW HK_W2
    go_region_held3 (fun w' => w'.cell? ⟨w.heap.size, 0, none⟩ = some (.bool (decide ((q).num < 0))) ∧ w'.cell? ⟨w.heap.size, 1, none⟩ = some (.slice rx (nlen (q).num.natAbs) cx) ∧ w'.cell? ⟨w.heap.size, 2, none⟩ = some (.slice rx2 (nlen (q).den) cx2))
      (first | (go_keep; done) | ((try dsimp only); (repeat' apply And.intro) <;> (first | (go_keep; done) | (exact cell_keep_alloc_drew (by first | omega | (simp; omega)) (by first | assumption | go_simp)) | (exact cell_keep_alloc (by first | omega | (simp; omega)) (by first | assumption | go_simp)) | (rw [cell_set2 _ _ _ _ _ _ _ _ (by omega)]; assumption) | (rw [cell_set3 _ _ _ _ _ _ _ _ _ _ (by omega)]; assumption))))
      (first
        | (go_at_call 31; refine (of_any (N := N) 1 _ (by decide)).mono ?_; rintro e wc ⟨ro, co, rfl, hn, hb⟩; replace hb : Below W2.heap.size W2 wc := (by first | exact hb | exact bel_of_drew hb); have hs_wc : W2.heap.size ≤ wc.heap.size := hb.size; replace k_R_0 : wc.cell? ⟨w.heap.size, 0, none⟩ = some (.bool (decide ((q).num < 0))) := (hb.cell (p := ⟨w.heap.size, 0, none⟩) hl_R).trans k_R_0; replace k_R_1 : wc.cell? ⟨w.heap.size, 1, none⟩ = some (.slice rx (nlen (q).num.natAbs) cx) := (hb.cell (p := ⟨w.heap.size, 1, none⟩) hl_R).trans k_R_1; replace k_R_2 : wc.cell? ⟨w.heap.size, 2, none⟩ = some (.slice rx2 (nlen (q).den) cx2) := (hb.cell (p := ⟨w.heap.size, 2, none⟩) hl_R).trans k_R_2; replace f_R : ∀ o, wc.frozen? ⟨w.heap.size, o, none⟩ = false := fun o => (hb.frozen (p := ⟨w.heap.size, o, none⟩) hl_R).trans (f_R o); replace HX_R := Lib.hid (HX_R.out.below hb); replace HP := Lib.hid (HP.out.below hb); replace HQ := Lib.hid (HQ.out.below hb); replace HB := Lib.hid (HB.out.trans (hb.mono hs0)); replace hN : N ≤ wc.heap.size := Nat.le_trans hN hb.size; replace hs0 : w.heap.size ≤ wc.heap.size := Nat.le_trans hs0 hb.size; replace hl_R : w.heap.size < wc.heap.size := Nat.lt_of_lt_of_le hl_R hb.size; clear hb; have HO := Lib.hid hn; clear hn; skip)
        | (go_at_call 30; refine (cmp_any (N := N) _ _ _ _ q.den _ _ 1 _ (by exact HQ.out) (by exact HO.out)).mono ?_; rintro e wd ⟨rfl, hq0⟩; have hb : Below wc.heap.size wc wd := (by obtain ⟨q0, rfl⟩ := hq0; exact bel_drewN _ _ _); clear hq0; have hs_wd : wc.heap.size ≤ wd.heap.size := hb.size; replace k_R_0 : wd.cell? ⟨w.heap.size, 0, none⟩ = some (.bool (decide ((q).num < 0))) := (hb.cell (p := ⟨w.heap.size, 0, none⟩) hl_R).trans k_R_0; replace k_R_1 : wd.cell? ⟨w.heap.size, 1, none⟩ = some (.slice rx (nlen (q).num.natAbs) cx) := (hb.cell (p := ⟨w.heap.size, 1, none⟩) hl_R).trans k_R_1; replace k_R_2 : wd.cell? ⟨w.heap.size, 2, none⟩ = some (.slice rx2 (nlen (q).den) cx2) := (hb.cell (p := ⟨w.heap.size, 2, none⟩) hl_R).trans k_R_2; replace f_R : ∀ o, wd.frozen? ⟨w.heap.size, o, none⟩ = false := fun o => (hb.frozen (p := ⟨w.heap.size, o, none⟩) hl_R).trans (f_R o); replace HX_R := Lib.hid (HX_R.out.below hb); replace HP := Lib.hid (HP.out.below hb); replace HQ := Lib.hid (HQ.out.below hb); replace HO := Lib.hid (HO.out.below hb); replace HB := Lib.hid (HB.out.trans (hb.mono hs0)); replace hN : N ≤ wd.heap.size := Nat.le_trans hN hb.size; replace hs0 : w.heap.size ≤ wd.heap.size := Nat.le_trans hs0 hb.size; replace hl_R : w.heap.size < wd.heap.size := Nat.lt_of_lt_of_le hl_R hb.size; clear hb; skip))
    go_wp2_with fail
    go_ret
    exact ⟨l, rfl, l0, fun h1 h2 _ => by rw [HL.out h1 h2]; unfold txt; rw [if_pos HOne.out], HB.out⟩
  · have hd : (cmpN q.den 1 == 0) = false := by rw [hc1]; simpa using hone
    have HOne := Lib.hid hone
    clear hc1 hone
    have hN0 := hN
    have hs0 : w.heap.size ≤ w.heap.size := Nat.le_refl _
    have HB := Lib.hid (Below.refl w.heap.size w)
    go_enter Tryd.func10, Tryd.ntmps10
    go_wp2_with fail
    refine calls_name fun W0 hW => ?_
    have hs_W0 : w.heap.size ≤ W0.heap.size := by rw [← hW]; (first | omega | (simp; done) | (simp; omega))
    have HK_W0 := Lib.hid (show Kp N w W0 by rw [← hW]; exact KpA)
    have k_R_0 : W0.cell? ⟨w.heap.size, 0, none⟩ = some (.bool s) := by rw [← hW]; (first | (go_simp; done) | (simp; done) | (simp [go_sem]; done) | (simp [go_sem]; done))
    have k_R_1 : W0.cell? ⟨w.heap.size, 1, none⟩ = some (.slice a na ca) := by rw [← hW]; (first | (go_simp; done) | (simp; done) | (simp [go_sem]; done) | (simp [go_sem]; done))
    have k_R_2 : W0.cell? ⟨w.heap.size, 2, none⟩ = some (.slice d nd cd) := by rw [← hW]; (first | (go_simp; done) | (simp; done) | (simp [go_sem]; done) | (simp [go_sem]; done))
    have f_R : ∀ o, W0.frozen? ⟨w.heap.size, o, none⟩ = false := by intro o; rw [← hW]; (first | (go_simp; done) | (simp; done) | (simp [go_sem]; done) | (simp [go_sem]; done))
    have HX_R := Lib.hid (show Bn W0 (w.heap.size) by rw [← hW]; exact KpA)
    replace H := Lib.hid (H.out.keep HK_W0.out)
    replace HB := Lib.hid (show Below w.heap.size w W0 by rw [← hW]; exact BlA)
    replace hN : N ≤ W0.heap.size := by rw [← hW]; (first | omega | (simp; done) | (simp; omega))
    replace hs0 : w.heap.size ≤ W0.heap.size := by rw [← hW]; (first | omega | (simp; done) | (simp; omega))
    have hl_R : w.heap.size < W0.heap.size := by rw [← hW]; (first | omega | (simp; done) | (simp; omega))
    clear hW HK_W0
    refine (rnorm_any (N := N) _ _ _ _ _ _ _ L q _ hN H.out (by omega)).mono ?_
    rintro e wa ⟨rx, cx, rx2, cx2, rfl, hn, hn', hb⟩
    have hs_wa : W0.heap.size ≤ wa.heap.size := hb.size
    replace k_R_0 : wa.cell? ⟨w.heap.size, 0, none⟩ = some (.bool s) := (hb.cell (p := ⟨w.heap.size, 0, none⟩) hl_R).trans k_R_0
    replace k_R_1 : wa.cell? ⟨w.heap.size, 1, none⟩ = some (.slice a na ca) := (hb.cell (p := ⟨w.heap.size, 1, none⟩) hl_R).trans k_R_1
    replace k_R_2 : wa.cell? ⟨w.heap.size, 2, none⟩ = some (.slice d nd cd) := (hb.cell (p := ⟨w.heap.size, 2, none⟩) hl_R).trans k_R_2
    replace f_R : ∀ o, wa.frozen? ⟨w.heap.size, o, none⟩ = false := fun o => (hb.frozen (p := ⟨w.heap.size, o, none⟩) hl_R).trans (f_R o)
    replace HX_R := Lib.hid (HX_R.out.below hb)
    replace H := Lib.hid (H.out.below hb)
    replace HB := Lib.hid (HB.out.trans (hb.mono hs0))
    replace hN : N ≤ wa.heap.size := Nat.le_trans hN hb.size
    replace hs0 : w.heap.size ≤ wa.heap.size := Nat.le_trans hs0 hb.size
    replace hl_R : w.heap.size < wa.heap.size := Nat.lt_of_lt_of_le hl_R hb.size
    clear hb
    have HP := Lib.hid hn
    clear hn
    have HQ := Lib.hid hn'
    clear hn'
    clear H
    go_wp2_with fail
    refine calls_name fun W1 hW => ?_
    have hs_W1 : wa.heap.size ≤ W1.heap.size := by rw [← hW]; (first | omega | (simp; done) | (simp; omega))
    have HK_W1 := Lib.hid (show Kp N wa W1 by rw [← hW]; exact KpA)
    replace k_R_0 : W1.cell? ⟨w.heap.size, 0, none⟩ = some (.bool (decide ((q).num < 0))) := by rw [← hW]; (first | (go_simp; done) | (simp [go_sem, k_R_0]; done) | (simp [go_sem, k_R_0, k_R_1, k_R_2]; done) | (simp [go_sem, k_R_0, k_R_1, k_R_2, f_R, hl_R]; done))
    replace k_R_1 : W1.cell? ⟨w.heap.size, 1, none⟩ = some (.slice rx (nlen (q).num.natAbs) cx) := by rw [← hW]; (first | (go_simp; done) | (simp [go_sem, k_R_1]; done) | (simp [go_sem, k_R_0, k_R_1, k_R_2]; done) | (simp [go_sem, k_R_0, k_R_1, k_R_2, f_R, hl_R]; done))
    replace k_R_2 : W1.cell? ⟨w.heap.size, 2, none⟩ = some (.slice rx2 (nlen (q).den) cx2) := by rw [← hW]; (first | (go_simp; done) | (simp [go_sem, k_R_2]; done) | (simp [go_sem, k_R_0, k_R_1, k_R_2]; done) | (simp [go_sem, k_R_0, k_R_1, k_R_2, f_R, hl_R]; done))
    replace f_R : ∀ o, W1.frozen? ⟨w.heap.size, o, none⟩ = false := by intro o; rw [← hW]; (first | with_reducible exact f_R o | (simp [go_sem, f_R]; done) | (simp [go_sem, f_R, hl_R]; done) | (go_simp; done) | (simp [go_sem, k_R_0, k_R_1, k_R_2, f_R, hl_R]; done))
    replace HX_R := Lib.hid (show Bn W1 (w.heap.size) by rw [← hW]; exact KpA)
    replace HP := Lib.hid (HP.out.keep HK_W1.out)
    replace HQ := Lib.hid (HQ.out.keep HK_W1.out)
    replace HB := Lib.hid (show Below w.heap.size w W1 by rw [← hW]; exact BlA)
    replace hN : N ≤ W1.heap.size := by rw [← hW]; (first | omega | (simp; done) | (simp; omega))
    replace hs0 : w.heap.size ≤ W1.heap.size := by rw [← hW]; (first | omega | (simp; done) | (simp; omega))
    replace hl_R : w.heap.size < W1.heap.size := by rw [← hW]; (first | omega | (simp; done) | (simp; omega))
    clear hW HK_W1
    refine (intPrint_any (N := N) _ _ _ _ q.num.natAbs _ hN HP.out (by omega) (HTab.out.below HB.out) q.num (zI_norm q.num)).mono ?_
    rintro e wb ⟨l, rfl, l0, l1, l2, hb⟩
    have hs_wb : W1.heap.size ≤ wb.heap.size := hb.size
    replace k_R_0 : wb.cell? ⟨w.heap.size, 0, none⟩ = some (.bool (decide ((q).num < 0))) := (hb.cell (p := ⟨w.heap.size, 0, none⟩) hl_R).trans k_R_0
    replace k_R_1 : wb.cell? ⟨w.heap.size, 1, none⟩ = some (.slice rx (nlen (q).num.natAbs) cx) := (hb.cell (p := ⟨w.heap.size, 1, none⟩) hl_R).trans k_R_1
    replace k_R_2 : wb.cell? ⟨w.heap.size, 2, none⟩ = some (.slice rx2 (nlen (q).den) cx2) := (hb.cell (p := ⟨w.heap.size, 2, none⟩) hl_R).trans k_R_2
    replace f_R : ∀ o, wb.frozen? ⟨w.heap.size, o, none⟩ = false := fun o => (hb.frozen (p := ⟨w.heap.size, o, none⟩) hl_R).trans (f_R o)
    replace HX_R := Lib.hid (HX_R.out.below hb)
    replace HP := Lib.hid (HP.out.below hb)
    replace HQ := Lib.hid (HQ.out.below hb)
    replace HB := Lib.hid (HB.out.trans (hb.mono hs0))
    replace hN : N ≤ wb.heap.size := Nat.le_trans hN hb.size
    replace hs0 : w.heap.size ≤ wb.heap.size := Nat.le_trans hs0 hb.size
    replace hl_R : w.heap.size < wb.heap.size := Nat.lt_of_lt_of_le hl_R hb.size
    clear hb
    have HL := Lib.hid l2
    clear l2
    go_wp2_with fail
    refine region_name fun W2 hW => ?_
    have hs_W2 : wb.heap.size ≤ W2.heap.size := by rw [← hW]; (first | omega | (simp; done) | (simp; omega))
    have HK_W2 := Lib.hid (show Kp N wb W2 by rw [← hW]; exact KpA)
    replace k_R_0 : W2.cell? ⟨w.heap.size, 0, none⟩ = some (.bool (decide ((q).num < 0))) := by rw [← hW]; (first | with_reducible exact k_R_0 | (simp [go_sem, k_R_0]; done) | (simp [go_sem, k_R_0, hl_R]; done) | (go_simp; done) | (simp [go_sem, k_R_0, k_R_1, k_R_2, f_R, hl_R]; done))
    replace k_R_1 : W2.cell? ⟨w.heap.size, 1, none⟩ = some (.slice rx (nlen (q).num.natAbs) cx) := by rw [← hW]; (first | with_reducible exact k_R_1 | (simp [go_sem, k_R_1]; done) | (simp [go_sem, k_R_1, hl_R]; done) | (go_simp; done) | (simp [go_sem, k_R_0, k_R_1, k_R_2, f_R, hl_R]; done))
    replace k_R_2 : W2.cell? ⟨w.heap.size, 2, none⟩ = some (.slice rx2 (nlen (q).den) cx2) := by rw [← hW]; (first | with_reducible exact k_R_2 | (simp [go_sem, k_R_2]; done) | (simp [go_sem, k_R_2, hl_R]; done) | (go_simp; done) | (simp [go_sem, k_R_0, k_R_1, k_R_2, f_R, hl_R]; done))
    replace f_R : ∀ o, W2.frozen? ⟨w.heap.size, o, none⟩ = false := by intro o; rw [← hW]; (first | with_reducible exact f_R o | (simp [go_sem, f_R]; done) | (simp [go_sem, f_R, hl_R]; done) | (go_simp; done) | (simp [go_sem, k_R_0, k_R_1, k_R_2, f_R, hl_R]; done))
    replace HX_R := Lib.hid (show Bn W2 (w.heap.size) by rw [← hW]; exact KpA)
    replace HP := Lib.hid (HP.out.keep HK_W2.out)
    replace HQ := Lib.hid (HQ.out.keep HK_W2.out)
    replace HB := Lib.hid (show Below w.heap.size w W2 by rw [← hW]; exact BlA)
    replace hN : N ≤ W2.heap.size := by rw [← hW]; (first | omega | (simp; done) | (simp; omega))
    replace hs0 : w.heap.size ≤ W2.heap.size := by rw [← hW]; (first | omega | (simp; done) | (simp; omega))
    replace hl_R : w.heap.size < W2.heap.size := by rw [← hW]; (first | omega | (simp; done) | (simp; omega))
    clear hW HK_W2
    go_region_held3 (fun w' => w'.cell? ⟨w.heap.size, 0, none⟩ = some (.bool (decide ((q).num < 0))) ∧ w'.cell? ⟨w.heap.size, 1, none⟩ = some (.slice rx (nlen (q).num.natAbs) cx) ∧ w'.cell? ⟨w.heap.size, 2, none⟩ = some (.slice rx2 (nlen (q).den) cx2))
      (first | (go_keep; done) | ((try dsimp only); (repeat' apply And.intro) <;> (first | (go_keep; done) | (exact cell_keep_alloc_drew (by first | omega | (simp; omega)) (by first | assumption | go_simp)) | (exact cell_keep_alloc (by first | omega | (simp; omega)) (by first | assumption | go_simp)) | (rw [cell_set2 _ _ _ _ _ _ _ _ (by omega)]; assumption) | (rw [cell_set3 _ _ _ _ _ _ _ _ _ _ (by omega)]; assumption))))
      (first
        | (go_at_call 31; refine (of_any (N := N) 1 _ (by decide)).mono ?_; rintro e wc ⟨ro, co, rfl, hn, hb⟩; replace hb : Below W2.heap.size W2 wc := (by first | exact hb | exact bel_of_drew hb); have hs_wc : W2.heap.size ≤ wc.heap.size := hb.size; replace k_R_0 : wc.cell? ⟨w.heap.size, 0, none⟩ = some (.bool (decide ((q).num < 0))) := (hb.cell (p := ⟨w.heap.size, 0, none⟩) hl_R).trans k_R_0; replace k_R_1 : wc.cell? ⟨w.heap.size, 1, none⟩ = some (.slice rx (nlen (q).num.natAbs) cx) := (hb.cell (p := ⟨w.heap.size, 1, none⟩) hl_R).trans k_R_1; replace k_R_2 : wc.cell? ⟨w.heap.size, 2, none⟩ = some (.slice rx2 (nlen (q).den) cx2) := (hb.cell (p := ⟨w.heap.size, 2, none⟩) hl_R).trans k_R_2; replace f_R : ∀ o, wc.frozen? ⟨w.heap.size, o, none⟩ = false := fun o => (hb.frozen (p := ⟨w.heap.size, o, none⟩) hl_R).trans (f_R o); replace HX_R := Lib.hid (HX_R.out.below hb); replace HP := Lib.hid (HP.out.below hb); replace HQ := Lib.hid (HQ.out.below hb); replace HB := Lib.hid (HB.out.trans (hb.mono hs0)); replace hN : N ≤ wc.heap.size := Nat.le_trans hN hb.size; replace hs0 : w.heap.size ≤ wc.heap.size := Nat.le_trans hs0 hb.size; replace hl_R : w.heap.size < wc.heap.size := Nat.lt_of_lt_of_le hl_R hb.size; clear hb; have HO := Lib.hid hn; clear hn; skip)
        | (go_at_call 30; refine (cmp_any (N := N) _ _ _ _ q.den _ _ 1 _ (by exact HQ.out) (by exact HO.out)).mono ?_; rintro e wd ⟨rfl, hq0⟩; have hb : Below wc.heap.size wc wd := (by obtain ⟨q0, rfl⟩ := hq0; exact bel_drewN _ _ _); clear hq0; have hs_wd : wc.heap.size ≤ wd.heap.size := hb.size; replace k_R_0 : wd.cell? ⟨w.heap.size, 0, none⟩ = some (.bool (decide ((q).num < 0))) := (hb.cell (p := ⟨w.heap.size, 0, none⟩) hl_R).trans k_R_0; replace k_R_1 : wd.cell? ⟨w.heap.size, 1, none⟩ = some (.slice rx (nlen (q).num.natAbs) cx) := (hb.cell (p := ⟨w.heap.size, 1, none⟩) hl_R).trans k_R_1; replace k_R_2 : wd.cell? ⟨w.heap.size, 2, none⟩ = some (.slice rx2 (nlen (q).den) cx2) := (hb.cell (p := ⟨w.heap.size, 2, none⟩) hl_R).trans k_R_2; replace f_R : ∀ o, wd.frozen? ⟨w.heap.size, o, none⟩ = false := fun o => (hb.frozen (p := ⟨w.heap.size, o, none⟩) hl_R).trans (f_R o); replace HX_R := Lib.hid (HX_R.out.below hb); replace HP := Lib.hid (HP.out.below hb); replace HQ := Lib.hid (HQ.out.below hb); replace HO := Lib.hid (HO.out.below hb); replace HB := Lib.hid (HB.out.trans (hb.mono hs0)); replace hN : N ≤ wd.heap.size := Nat.le_trans hN hb.size; replace hs0 : w.heap.size ≤ wd.heap.size := Nat.le_trans hs0 hb.size; replace hl_R : w.heap.size < wd.heap.size := Nat.lt_of_lt_of_le hl_R hb.size; clear hb; skip))
    go_wp2_with fail
    refine (natPrint_any (N := N) _ _ _ q.den _ HQ.out (by omega) (HTab.out.below HB.out)).mono ?_
    rintro e we ⟨l3, rfl, m0, m1, m2, hb⟩
    have hs_we : wd.heap.size ≤ we.heap.size := hb.size
    replace k_R_0 : we.cell? ⟨w.heap.size, 0, none⟩ = some (.bool (decide ((q).num < 0))) := (hb.cell (p := ⟨w.heap.size, 0, none⟩) hl_R).trans k_R_0
    replace k_R_1 : we.cell? ⟨w.heap.size, 1, none⟩ = some (.slice rx (nlen (q).num.natAbs) cx) := (hb.cell (p := ⟨w.heap.size, 1, none⟩) hl_R).trans k_R_1
    replace k_R_2 : we.cell? ⟨w.heap.size, 2, none⟩ = some (.slice rx2 (nlen (q).den) cx2) := (hb.cell (p := ⟨w.heap.size, 2, none⟩) hl_R).trans k_R_2
    replace f_R : ∀ o, we.frozen? ⟨w.heap.size, o, none⟩ = false := fun o => (hb.frozen (p := ⟨w.heap.size, o, none⟩) hl_R).trans (f_R o)
    replace HX_R := Lib.hid (HX_R.out.below hb)
    replace HP := Lib.hid (HP.out.below hb)
    replace HQ := Lib.hid (HQ.out.below hb)
    replace HO := Lib.hid (HO.out.below hb)
    replace HB := Lib.hid (HB.out.trans (hb.mono hs0))
    replace hN : N ≤ we.heap.size := Nat.le_trans hN hb.size
    replace hs0 : w.heap.size ≤ we.heap.size := Nat.le_trans hs0 hb.size
    replace hl_R : w.heap.size < we.heap.size := Nat.lt_of_lt_of_le hl_R hb.size
    clear hb
    have HM := Lib.hid m2
    clear m2
    go_wp2_with fail
    go_ret
    exact ⟨l ++ [47] ++ l3, congrArg (fun x => Ending.returned (Value.string x)) ((congrArg (fun x => x ++ (⟨l3.toArray⟩ : ByteArray)) (ba_app l [47])).trans (ba_app _ l3)), by simp; omega, fun h1 h2 h3 => by rw [HL.out h1 h2, HM.out h3]; unfold txt; rw [if_neg HOne.out], HB.out⟩

end Go.Proofs.YtnillajhhimeiaaDoor
