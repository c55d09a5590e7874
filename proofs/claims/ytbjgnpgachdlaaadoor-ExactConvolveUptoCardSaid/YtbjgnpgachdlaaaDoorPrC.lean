/- integer.Print and ratio.Print: for all numbers of at most 2^36 limbs in a part a string that is not empty; of small numbers the numerals. -/
import Derived.Test.YtbjgnpgachdlaaaDoorPrB
namespace Go.Proofs.YtbjgnpgachdlaaaDoor
open Go.RowKit Go.Sort

/-- it returns a string that is not empty: of an integer from 0 to 999999999 its numeral -/
def PrPostI (z : Int) (w : World) (e : Ending) (w' : World) : Prop := ∃ l : List UInt8, e = .returned (.string ⟨l.toArray⟩) ∧ 0 < l.length ∧ l.length ≤ 8796093022209 ∧ (0 ≤ z → z.natAbs < 1000000000 → l = Lib.decDigits z.natAbs) ∧ Below w.heap.size w w'
theorem ba_app (l1 l2 : List UInt8) : (⟨l1.toArray⟩ : ByteArray) ++ ⟨l2.toArray⟩ = ⟨(l1 ++ l2).toArray⟩ := by
  apply ByteArray.ext
  simp
theorem zI_sgn (s : Bool) (m : Nat) : decide ((zI s m).sign < 0) = decide (zI s m < 0) := by
  rcases Int.lt_trichotomy (zI s m) 0 with h | h | h
  · rw [Int.sign_eq_neg_one_of_neg h]; simp [h]
  · rw [h]; rfl
  · rw [Int.sign_eq_one_of_pos h]; simp; omega

set_option maxHeartbeats 2000000 in
set_option maxRecDepth 100000 in
theorem intPrint_any {N : Nat} (s : Bool) (a : Option Addr) (n cap m : Nat) (w : World) (hN : N ≤ w.heap.size) (h : Nt N w a n cap m) (hl : n ≤ 68719476736) (htab : TabW w) (z : Int) (hz : zI s m = z) :
    Calls Tryd.prog 36 #[.agg #[.bool s, .slice a n cap]] w (PrPostI z w) := by
  have HA := Lib.hid h
  have HTab := Lib.hid htab
  have hsg := zI_sgn s m
  have hab := zI_abs s m
  rw [hz] at hsg hab
  have HZ := Lib.hid hz
  clear h htab
  by_cases hneg : z < 0
  · have hd : decide (z.sign < 0) = true := by rw [hsg]; simpa using hneg
    clear hsg hz
    have hN0 := hN
    have hs0 : w.heap.size ≤ w.heap.size := Nat.le_refl _
    have HB := Lib.hid (Below.refl w.heap.size w)
    go_enter Tryd.func36, Tryd.ntmps36
    go_wp2_with fail
    refine calls_name fun W0 hW => ?_
    have hN_W0 : N ≤ W0.heap.size := by rw [← hW]; (first | omega | (simp; done) | (simp; omega))
    have hs_W0 : w.heap.size ≤ W0.heap.size := by rw [← hW]; (first | omega | (simp; done) | (simp; omega))
    have hs0_W0 : w.heap.size ≤ W0.heap.size := by rw [← hW]; (first | omega | (simp; done) | (simp; omega))
    have hl_R_W0 : w.heap.size < W0.heap.size := by rw [← hW]; (first | omega | (simp; done) | (simp; omega))
    have k_R_0_W0 : W0.cell? ⟨w.heap.size, 0, none⟩ = some (.bool s) := by rw [← hW]; (first | (go_simp; done) | (simp; done) | (simp [go_sem]; done) | (simp [go_sem]; done))
    have k_R_1_W0 : W0.cell? ⟨w.heap.size, 1, none⟩ = some (.slice a n cap) := by rw [← hW]; (first | (go_simp; done) | (simp; done) | (simp [go_sem]; done) | (simp [go_sem]; done))
    have f_R_W0 : ∀ o, W0.frozen? ⟨w.heap.size, o, none⟩ = false := by intro o; rw [← hW]; (first | (go_simp; done) | (simp; done) | (simp [go_sem]; done) | (simp [go_sem]; done))
    have HX_R_W0 := Lib.hid (show Bn W0 (w.heap.size) by rw [← hW]; (repeat' (first | with_reducible exact Kp.refl _ _ | with_reducible apply Kp.alloc | with_reducible apply Kp.drew | (with_reducible refine Kp.put ?_ ?_ ?_ _; rotate_left; (focus (first | omega | (simp; done) | (simp; omega))); rotate_left) | (with_reducible refine Bn.new _ _ _ _ ?_ ?_; (focus (first | omega | (simp; done) | (simp; omega))); decide) | with_reducible apply Bn.alloc | with_reducible apply Bn.drew | with_reducible apply Bn.set)))
    have HK_W0 := Lib.hid (show Kp N w W0 by rw [← hW]; (repeat' (first | with_reducible exact Kp.refl _ _ | with_reducible apply Kp.alloc | with_reducible apply Kp.drew | (with_reducible refine Kp.put ?_ ?_ ?_ _; rotate_left; (focus (first | omega | (simp; done) | (simp; omega))); rotate_left) | (with_reducible refine Bn.new _ _ _ _ ?_ ?_; (focus (first | omega | (simp; done) | (simp; omega))); decide) | with_reducible apply Bn.alloc | with_reducible apply Bn.drew | with_reducible apply Bn.set)))
    have HA_W0 := Lib.hid (HA.out.keep HK_W0.out)
    have HB_W0 := Lib.hid (show Below w.heap.size w W0 by rw [← hW]; (repeat' (first | with_reducible exact Below.refl _ _ | with_reducible exact HB.out | (with_reducible refine Below.alloc ?_ ?_ _; rotate_left; (focus (first | omega | (simp; done) | (simp; omega)))) | with_reducible apply Below.drew | (with_reducible refine Below.setCell ?_ ?_ _; rotate_left; (focus (first | omega | (simp; done) | (simp; omega)))))))
    clear hW HK_W0
    clear HA HB hN hs0
    have hN := hN_W0
    have HB := HB_W0
    have hs0 := hs0_W0
    have hl_R := hl_R_W0
    have f_R := f_R_W0
    have HX_R := HX_R_W0
    have k_R_0 := k_R_0_W0
    have k_R_1 := k_R_1_W0
    have HA := HA_W0
    clear hN_W0 HB_W0 hs0_W0 hl_R_W0 f_R_W0 HX_R_W0 k_R_0_W0 k_R_1_W0 HA_W0
    refine (isign_any (N := N) _ _ _ _ m _ HA.out).mono ?_; rw [HZ.out]
    rintro e wa ⟨rfl, hb⟩
    have hN_wa : N ≤ wa.heap.size := Nat.le_trans hN hb.size
    have hs_wa : W0.heap.size ≤ wa.heap.size := hb.size
    have hs0_wa : w.heap.size ≤ wa.heap.size := Nat.le_trans hs0 hb.size
    have hl_R_wa : w.heap.size < wa.heap.size := Nat.lt_of_lt_of_le hl_R hb.size
    have k_R_0_wa : wa.cell? ⟨w.heap.size, 0, none⟩ = some (.bool s) := (hb.cell (p := ⟨w.heap.size, 0, none⟩) hl_R).trans k_R_0
    have k_R_1_wa : wa.cell? ⟨w.heap.size, 1, none⟩ = some (.slice a n cap) := (hb.cell (p := ⟨w.heap.size, 1, none⟩) hl_R).trans k_R_1
    have f_R_wa : ∀ o, wa.frozen? ⟨w.heap.size, o, none⟩ = false := fun o => (hb.frozen (p := ⟨w.heap.size, o, none⟩) hl_R).trans (f_R o)
    have HX_R_wa := Lib.hid (HX_R.out.below hb)
    have HA_wa := Lib.hid (HA.out.below hb)
    have HB_wa := Lib.hid (HB.out.trans (hb.mono hs0))
    clear hb
    clear hl_R f_R HX_R k_R_0 k_R_1 HA HB hN hs0
    have hN := hN_wa
    have HB := HB_wa
    have hs0 := hs0_wa
    have hl_R := hl_R_wa
    have f_R := f_R_wa
    have HX_R := HX_R_wa
    have k_R_0 := k_R_0_wa
    have k_R_1 := k_R_1_wa
    have HA := HA_wa
    clear hN_wa HB_wa hs0_wa hl_R_wa f_R_wa HX_R_wa k_R_0_wa k_R_1_wa HA_wa
    go_wp2_with fail
    refine (natPrint_any (N := N) _ _ _ m _ HA.out hl (HTab.out.below HB.out)).mono ?_
    rintro e wb ⟨l, rfl, l0, l1, l2, hb⟩
    have hN_wb : N ≤ wb.heap.size := Nat.le_trans hN hb.size
    have hs_wb : wa.heap.size ≤ wb.heap.size := hb.size
    have hs0_wb : w.heap.size ≤ wb.heap.size := Nat.le_trans hs0 hb.size
    have hl_R_wb : w.heap.size < wb.heap.size := Nat.lt_of_lt_of_le hl_R hb.size
    have k_R_0_wb : wb.cell? ⟨w.heap.size, 0, none⟩ = some (.bool s) := (hb.cell (p := ⟨w.heap.size, 0, none⟩) hl_R).trans k_R_0
    have k_R_1_wb : wb.cell? ⟨w.heap.size, 1, none⟩ = some (.slice a n cap) := (hb.cell (p := ⟨w.heap.size, 1, none⟩) hl_R).trans k_R_1
    have f_R_wb : ∀ o, wb.frozen? ⟨w.heap.size, o, none⟩ = false := fun o => (hb.frozen (p := ⟨w.heap.size, o, none⟩) hl_R).trans (f_R o)
    have HX_R_wb := Lib.hid (HX_R.out.below hb)
    have HA_wb := Lib.hid (HA.out.below hb)
    have HB_wb := Lib.hid (HB.out.trans (hb.mono hs0))
    clear hb
    clear hl_R f_R HX_R k_R_0 k_R_1 HA HB hN hs0
    have hN := hN_wb
    have HB := HB_wb
    have hs0 := hs0_wb
    have hl_R := hl_R_wb
    have f_R := f_R_wb
    have HX_R := HX_R_wb
    have k_R_0 := k_R_0_wb
    have k_R_1 := k_R_1_wb
    have HA := HA_wb
    clear hN_wb HB_wb hs0_wb hl_R_wb f_R_wb HX_R_wb k_R_0_wb k_R_1_wb HA_wb
    have HL := Lib.hid l2
    clear l2
    go_wp2_with fail
    go_ret
    exact ⟨45 :: l, congrArg (fun x => Ending.returned (Value.string x)) (ba_app [45] l), by simp, by simp; omega, fun h => by omega, HB.out⟩
  · have hd : decide (z.sign < 0) = false := by rw [hsg]; simpa using hneg
    clear hsg hz
    have hN0 := hN
    have hs0 : w.heap.size ≤ w.heap.size := Nat.le_refl _
    have HB := Lib.hid (Below.refl w.heap.size w)
    go_enter Tryd.func36, Tryd.ntmps36
    go_wp2_with fail
    refine calls_name fun W0 hW => ?_
    have hN_W0 : N ≤ W0.heap.size := by rw [← hW]; (first | omega | (simp; done) | (simp; omega))
    have hs_W0 : w.heap.size ≤ W0.heap.size := by rw [← hW]; (first | omega | (simp; done) | (simp; omega))
    have hs0_W0 : w.heap.size ≤ W0.heap.size := by rw [← hW]; (first | omega | (simp; done) | (simp; omega))
    have hl_R_W0 : w.heap.size < W0.heap.size := by rw [← hW]; (first | omega | (simp; done) | (simp; omega))
    have k_R_0_W0 : W0.cell? ⟨w.heap.size, 0, none⟩ = some (.bool s) := by rw [← hW]; (first | (go_simp; done) | (simp; done) | (simp [go_sem]; done) | (simp [go_sem]; done))
    have k_R_1_W0 : W0.cell? ⟨w.heap.size, 1, none⟩ = some (.slice a n cap) := by rw [← hW]; (first | (go_simp; done) | (simp; done) | (simp [go_sem]; done) | (simp [go_sem]; done))
    have f_R_W0 : ∀ o, W0.frozen? ⟨w.heap.size, o, none⟩ = false := by intro o; rw [← hW]; (first | (go_simp; done) | (simp; done) | (simp [go_sem]; done) | (simp [go_sem]; done))
    have HX_R_W0 := Lib.hid (show Bn W0 (w.heap.size) by rw [← hW]; (repeat' (first | with_reducible exact Kp.refl _ _ | with_reducible apply Kp.alloc | with_reducible apply Kp.drew | (with_reducible refine Kp.put ?_ ?_ ?_ _; rotate_left; (focus (first | omega | (simp; done) | (simp; omega))); rotate_left) | (with_reducible refine Bn.new _ _ _ _ ?_ ?_; (focus (first | omega | (simp; done) | (simp; omega))); decide) | with_reducible apply Bn.alloc | with_reducible apply Bn.drew | with_reducible apply Bn.set)))
    have HK_W0 := Lib.hid (show Kp N w W0 by rw [← hW]; (repeat' (first | with_reducible exact Kp.refl _ _ | with_reducible apply Kp.alloc | with_reducible apply Kp.drew | (with_reducible refine Kp.put ?_ ?_ ?_ _; rotate_left; (focus (first | omega | (simp; done) | (simp; omega))); rotate_left) | (with_reducible refine Bn.new _ _ _ _ ?_ ?_; (focus (first | omega | (simp; done) | (simp; omega))); decide) | with_reducible apply Bn.alloc | with_reducible apply Bn.drew | with_reducible apply Bn.set)))
    have HA_W0 := Lib.hid (HA.out.keep HK_W0.out)
    have HB_W0 := Lib.hid (show Below w.heap.size w W0 by rw [← hW]; (repeat' (first | with_reducible exact Below.refl _ _ | with_reducible exact HB.out | (with_reducible refine Below.alloc ?_ ?_ _; rotate_left; (focus (first | omega | (simp; done) | (simp; omega)))) | with_reducible apply Below.drew | (with_reducible refine Below.setCell ?_ ?_ _; rotate_left; (focus (first | omega | (simp; done) | (simp; omega)))))))
    clear hW HK_W0
    clear HA HB hN hs0
    have hN := hN_W0
    have HB := HB_W0
    have hs0 := hs0_W0
    have hl_R := hl_R_W0
    have f_R := f_R_W0
    have HX_R := HX_R_W0
    have k_R_0 := k_R_0_W0
    have k_R_1 := k_R_1_W0
    have HA := HA_W0
    clear hN_W0 HB_W0 hs0_W0 hl_R_W0 f_R_W0 HX_R_W0 k_R_0_W0 k_R_1_W0 HA_W0
    refine (isign_any (N := N) _ _ _ _ m _ HA.out).mono ?_; rw [HZ.out]
    rintro e wa ⟨rfl, hb⟩
    have hN_wa : N ≤ wa.heap.size := Nat.le_trans hN hb.size
    have hs_wa : W0.heap.size ≤ wa.heap.size := hb.size
    have hs0_wa : w.heap.size ≤ wa.heap.size := Nat.le_trans hs0 hb.size
    have hl_R_wa : w.heap.size < wa.heap.size := Nat.lt_of_lt_of_le hl_R hb.size
    have k_R_0_wa : wa.cell? ⟨w.heap.size, 0, none⟩ = some (.bool s) := (hb.cell (p := ⟨w.heap.size, 0, none⟩) hl_R).trans k_R_0
    have k_R_1_wa : wa.cell? ⟨w.heap.size, 1, none⟩ = some (.slice a n cap) := (hb.cell (p := ⟨w.heap.size, 1, none⟩) hl_R).trans k_R_1
    have f_R_wa : ∀ o, wa.frozen? ⟨w.heap.size, o, none⟩ = false := fun o => (hb.frozen (p := ⟨w.heap.size, o, none⟩) hl_R).trans (f_R o)
    have HX_R_wa := Lib.hid (HX_R.out.below hb)
    have HA_wa := Lib.hid (HA.out.below hb)
    have HB_wa := Lib.hid (HB.out.trans (hb.mono hs0))
    clear hb
    clear hl_R f_R HX_R k_R_0 k_R_1 HA HB hN hs0
    have hN := hN_wa
    have HB := HB_wa
    have hs0 := hs0_wa
    have hl_R := hl_R_wa
    have f_R := f_R_wa
    have HX_R := HX_R_wa
    have k_R_0 := k_R_0_wa
    have k_R_1 := k_R_1_wa
    have HA := HA_wa
    clear hN_wa HB_wa hs0_wa hl_R_wa f_R_wa HX_R_wa k_R_0_wa k_R_1_wa HA_wa
    go_wp2_with fail
    refine (natPrint_any (N := N) _ _ _ m _ HA.out hl (HTab.out.below HB.out)).mono ?_
    rintro e wb ⟨l, rfl, l0, l1, l2, hb⟩
    have hN_wb : N ≤ wb.heap.size := Nat.le_trans hN hb.size
    have hs_wb : wa.heap.size ≤ wb.heap.size := hb.size
    have hs0_wb : w.heap.size ≤ wb.heap.size := Nat.le_trans hs0 hb.size
    have hl_R_wb : w.heap.size < wb.heap.size := Nat.lt_of_lt_of_le hl_R hb.size
    have k_R_0_wb : wb.cell? ⟨w.heap.size, 0, none⟩ = some (.bool s) := (hb.cell (p := ⟨w.heap.size, 0, none⟩) hl_R).trans k_R_0
    have k_R_1_wb : wb.cell? ⟨w.heap.size, 1, none⟩ = some (.slice a n cap) := (hb.cell (p := ⟨w.heap.size, 1, none⟩) hl_R).trans k_R_1
    have f_R_wb : ∀ o, wb.frozen? ⟨w.heap.size, o, none⟩ = false := fun o => (hb.frozen (p := ⟨w.heap.size, o, none⟩) hl_R).trans (f_R o)
    have HX_R_wb := Lib.hid (HX_R.out.below hb)
    have HA_wb := Lib.hid (HA.out.below hb)
    have HB_wb := Lib.hid (HB.out.trans (hb.mono hs0))
    clear hb
    clear hl_R f_R HX_R k_R_0 k_R_1 HA HB hN hs0
    have hN := hN_wb
    have HB := HB_wb
    have hs0 := hs0_wb
    have hl_R := hl_R_wb
    have f_R := f_R_wb
    have HX_R := HX_R_wb
    have k_R_0 := k_R_0_wb
    have k_R_1 := k_R_1_wb
    have HA := HA_wb
    clear hN_wb HB_wb hs0_wb hl_R_wb f_R_wb HX_R_wb k_R_0_wb k_R_1_wb HA_wb
    have HL := Lib.hid l2
    clear l2
    go_wp2_with fail
    go_ret
    exact ⟨l, rfl, l0, by omega, fun _ h2 => by rw [hab]; exact HL.out (by omega), HB.out⟩

/-- the text of a rational number -/
def txt (q : Rat) : List UInt8 := if q.den = 1 then Lib.decDigits q.num.natAbs else Lib.decDigits q.num.natAbs ++ [47] ++ Lib.decDigits q.den
/-- it returns a string that is not empty: the text of small numbers -/
def PrPostR (q : Rat) (w : World) (e : Ending) (w' : World) : Prop := ∃ l : List UInt8, e = .returned (.string ⟨l.toArray⟩) ∧ 0 < l.length ∧ (0 ≤ q.num → q.num.natAbs < 1000000000 → q.den < 1000000000 → l = txt q) ∧ Below w.heap.size w w'
theorem cmpN_one (d : Nat) : (cmpN d 1 == 0) = decide (d = 1) := by
  unfold cmpN
  by_cases h1 : d < 1
  · rw [if_pos h1]; simp; omega
  · rw [if_neg h1]
    by_cases h2 : 1 < d
    · rw [if_pos h2]; simp; omega
    · rw [if_neg h2]; simp; omega

set_option maxHeartbeats 4000000 in
set_option maxRecDepth 100000 in
theorem ratPrint_any {N : Nat} (s : Bool) (a d : Option Addr) (na ca nd cd L : Nat) (q : Rat) (w : World) (hN : N ≤ w.heap.size) (h : Rt N w s a na ca d nd cd q L) (hL : L ≤ 68719476736) (htab : TabW w) :
    Calls Tryd.prog 9 #[.agg #[.bool s, .slice a na ca, .slice d nd cd]] w (PrPostR q w) := by
  have hz := rsz_of h
  unfold rsz at hz
  have H := Lib.hid h
  have HTab := Lib.hid htab
  have hc1 := cmpN_one q.den
  clear h htab
  by_cases hone : q.den = 1
  · have hd : (cmpN q.den 1 == 0) = true := by rw [hc1]; simpa using hone
    have HOne := Lib.hid hone
    clear hc1 hone
    have hN0 := hN
    have hs0 : w.heap.size ≤ w.heap.size := Nat.le_refl _
    have HB := Lib.hid (Below.refl w.heap.size w)
    go_enter Tryd.func9, Tryd.ntmps9
    go_wp2_with fail
    refine calls_name fun W0 hW => ?_
    have hN_W0 : N ≤ W0.heap.size := by rw [← hW]; (first | omega | (simp; done) | (simp; omega))
    have hs_W0 : w.heap.size ≤ W0.heap.size := by rw [← hW]; (first | omega | (simp; done) | (simp; omega))
    have hs0_W0 : w.heap.size ≤ W0.heap.size := by rw [← hW]; (first | omega | (simp; done) | (simp; omega))
    have hl_R_W0 : w.heap.size < W0.heap.size := by rw [← hW]; (first | omega | (simp; done) | (simp; omega))
    have k_R_0_W0 : W0.cell? ⟨w.heap.size, 0, none⟩ = some (.bool s) := by rw [← hW]; (first | (go_simp; done) | (simp; done) | (simp [go_sem]; done) | (simp [go_sem]; done))
    have k_R_1_W0 : W0.cell? ⟨w.heap.size, 1, none⟩ = some (.slice a na ca) := by rw [← hW]; (first | (go_simp; done) | (simp; done) | (simp [go_sem]; done) | (simp [go_sem]; done))
    have k_R_2_W0 : W0.cell? ⟨w.heap.size, 2, none⟩ = some (.slice d nd cd) := by rw [← hW]; (first | (go_simp; done) | (simp; done) | (simp [go_sem]; done) | (simp [go_sem]; done))
    have f_R_W0 : ∀ o, W0.frozen? ⟨w.heap.size, o, none⟩ = false := by intro o; rw [← hW]; (first | (go_simp; done) | (simp; done) | (simp [go_sem]; done) | (simp [go_sem]; done))
    have HX_R_W0 := Lib.hid (show Bn W0 (w.heap.size) by rw [← hW]; (repeat' (first | with_reducible exact Kp.refl _ _ | with_reducible apply Kp.alloc | with_reducible apply Kp.drew | (with_reducible refine Kp.put ?_ ?_ ?_ _; rotate_left; (focus (first | omega | (simp; done) | (simp; omega))); rotate_left) | (with_reducible refine Bn.new _ _ _ _ ?_ ?_; (focus (first | omega | (simp; done) | (simp; omega))); decide) | with_reducible apply Bn.alloc | with_reducible apply Bn.drew | with_reducible apply Bn.set)))
    have HK_W0 := Lib.hid (show Kp N w W0 by rw [← hW]; (repeat' (first | with_reducible exact Kp.refl _ _ | with_reducible apply Kp.alloc | with_reducible apply Kp.drew | (with_reducible refine Kp.put ?_ ?_ ?_ _; rotate_left; (focus (first | omega | (simp; done) | (simp; omega))); rotate_left) | (with_reducible refine Bn.new _ _ _ _ ?_ ?_; (focus (first | omega | (simp; done) | (simp; omega))); decide) | with_reducible apply Bn.alloc | with_reducible apply Bn.drew | with_reducible apply Bn.set)))
    have H_W0 := Lib.hid (H.out.keep HK_W0.out)
    have HB_W0 := Lib.hid (show Below w.heap.size w W0 by rw [← hW]; (repeat' (first | with_reducible exact Below.refl _ _ | with_reducible exact HB.out | (with_reducible refine Below.alloc ?_ ?_ _; rotate_left; (focus (first | omega | (simp; done) | (simp; omega)))) | with_reducible apply Below.drew | (with_reducible refine Below.setCell ?_ ?_ _; rotate_left; (focus (first | omega | (simp; done) | (simp; omega)))))))
    clear hW HK_W0
    clear H HB hN hs0
    have hN := hN_W0
    have HB := HB_W0
    have hs0 := hs0_W0
    have hl_R := hl_R_W0
    have f_R := f_R_W0
    have HX_R := HX_R_W0
    have k_R_0 := k_R_0_W0
    have k_R_1 := k_R_1_W0
    have k_R_2 := k_R_2_W0
    have H := H_W0
    clear hN_W0 HB_W0 hs0_W0 hl_R_W0 f_R_W0 HX_R_W0 k_R_0_W0 k_R_1_W0 k_R_2_W0 H_W0
    refine (rnorm_any (N := N) _ _ _ _ _ _ _ L q _ hN H.out (by omega)).mono ?_
    rintro e wa ⟨rx, cx, rx2, cx2, rfl, hn, hn', hb⟩
    have hN_wa : N ≤ wa.heap.size := Nat.le_trans hN hb.size
    have hs_wa : W0.heap.size ≤ wa.heap.size := hb.size
    have hs0_wa : w.heap.size ≤ wa.heap.size := Nat.le_trans hs0 hb.size
    have hl_R_wa : w.heap.size < wa.heap.size := Nat.lt_of_lt_of_le hl_R hb.size
    have k_R_0_wa : wa.cell? ⟨w.heap.size, 0, none⟩ = some (.bool s) := (hb.cell (p := ⟨w.heap.size, 0, none⟩) hl_R).trans k_R_0
    have k_R_1_wa : wa.cell? ⟨w.heap.size, 1, none⟩ = some (.slice a na ca) := (hb.cell (p := ⟨w.heap.size, 1, none⟩) hl_R).trans k_R_1
    have k_R_2_wa : wa.cell? ⟨w.heap.size, 2, none⟩ = some (.slice d nd cd) := (hb.cell (p := ⟨w.heap.size, 2, none⟩) hl_R).trans k_R_2
    have f_R_wa : ∀ o, wa.frozen? ⟨w.heap.size, o, none⟩ = false := fun o => (hb.frozen (p := ⟨w.heap.size, o, none⟩) hl_R).trans (f_R o)
    have HX_R_wa := Lib.hid (HX_R.out.below hb)
    have H_wa := Lib.hid (H.out.below hb)
    have HB_wa := Lib.hid (HB.out.trans (hb.mono hs0))
    clear hb
    clear hl_R f_R HX_R k_R_0 k_R_1 k_R_2 H HB hN hs0
    have hN := hN_wa
    have HB := HB_wa
    have hs0 := hs0_wa
    have hl_R := hl_R_wa
    have f_R := f_R_wa
    have HX_R := HX_R_wa
    have k_R_0 := k_R_0_wa
    have k_R_1 := k_R_1_wa
    have k_R_2 := k_R_2_wa
    have H := H_wa
    clear hN_wa HB_wa hs0_wa hl_R_wa f_R_wa HX_R_wa k_R_0_wa k_R_1_wa k_R_2_wa H_wa
    have HP := Lib.hid hn
    clear hn
    have HQ := Lib.hid hn'
    clear hn'
    clear H
    go_wp2_with fail
    refine calls_name fun W1 hW => ?_
    have hN_W1 : N ≤ W1.heap.size := by rw [← hW]; (first | omega | (simp; done) | (simp; omega))
    have hs_W1 : wa.heap.size ≤ W1.heap.size := by rw [← hW]; (first | omega | (simp; done) | (simp; omega))
    have hs0_W1 : w.heap.size ≤ W1.heap.size := by rw [← hW]; (first | omega | (simp; done) | (simp; omega))
    have hl_R_W1 : w.heap.size < W1.heap.size := by rw [← hW]; (first | omega | (simp; done) | (simp; omega))
    have k_R_0_W1 : W1.cell? ⟨w.heap.size, 0, none⟩ = some (.bool (decide ((q).num < 0))) := by rw [← hW]; (first | (go_simp; done) | (simp [go_sem, k_R_0]; done) | (simp [go_sem, k_R_0, k_R_1, k_R_2]; done) | (simp [go_sem, k_R_0, k_R_1, k_R_2, f_R, hl_R]; done))
    have k_R_1_W1 : W1.cell? ⟨w.heap.size, 1, none⟩ = some (.slice rx (nlen (q).num.natAbs) cx) := by rw [← hW]; (first | (go_simp; done) | (simp [go_sem, k_R_1]; done) | (simp [go_sem, k_R_0, k_R_1, k_R_2]; done) | (simp [go_sem, k_R_0, k_R_1, k_R_2, f_R, hl_R]; done))
    have k_R_2_W1 : W1.cell? ⟨w.heap.size, 2, none⟩ = some (.slice rx2 (nlen (q).den) cx2) := by rw [← hW]; (first | (go_simp; done) | (simp [go_sem, k_R_2]; done) | (simp [go_sem, k_R_0, k_R_1, k_R_2]; done) | (simp [go_sem, k_R_0, k_R_1, k_R_2, f_R, hl_R]; done))
    have f_R_W1 : ∀ o, W1.frozen? ⟨w.heap.size, o, none⟩ = false := by intro o; rw [← hW]; (first | with_reducible exact f_R o | (simp [go_sem, f_R]; done) | (simp [go_sem, f_R, hl_R]; done) | (go_simp; done) | (simp [go_sem, k_R_0, k_R_1, k_R_2, f_R, hl_R]; done))
    have HX_R_W1 := Lib.hid (show Bn W1 (w.heap.size) by rw [← hW]; (repeat' (first | with_reducible exact Kp.refl _ _ | with_reducible exact HX_R.out | with_reducible apply Kp.alloc | with_reducible apply Kp.drew | (with_reducible refine Kp.put ?_ ?_ ?_ _; rotate_left; (focus (first | omega | (simp; done) | (simp; omega))); rotate_left) | (with_reducible refine Bn.new _ _ _ _ ?_ ?_; (focus (first | omega | (simp; done) | (simp; omega))); decide) | with_reducible apply Bn.alloc | with_reducible apply Bn.drew | with_reducible apply Bn.set)))
    have HK_W1 := Lib.hid (show Kp N wa W1 by rw [← hW]; (repeat' (first | with_reducible exact Kp.refl _ _ | with_reducible exact HX_R.out | with_reducible apply Kp.alloc | with_reducible apply Kp.drew | (with_reducible refine Kp.put ?_ ?_ ?_ _; rotate_left; (focus (first | omega | (simp; done) | (simp; omega))); rotate_left) | (with_reducible refine Bn.new _ _ _ _ ?_ ?_; (focus (first | omega | (simp; done) | (simp; omega))); decide) | with_reducible apply Bn.alloc | with_reducible apply Bn.drew | with_reducible apply Bn.set)))
    have HP_W1 := Lib.hid (HP.out.keep HK_W1.out)
    have HQ_W1 := Lib.hid (HQ.out.keep HK_W1.out)
    have HB_W1 := Lib.hid (show Below w.heap.size w W1 by rw [← hW]; (repeat' (first | with_reducible exact Below.refl _ _ | with_reducible exact HB.out | (with_reducible refine Below.alloc ?_ ?_ _; rotate_left; (focus (first | omega | (simp; done) | (simp; omega)))) | with_reducible apply Below.drew | (with_reducible refine Below.setCell ?_ ?_ _; rotate_left; (focus (first | omega | (simp; done) | (simp; omega)))))))
    clear hW HK_W1
    clear hl_R f_R HX_R k_R_0 k_R_1 k_R_2 HP HQ HB hN hs0
    have hN := hN_W1
    have HB := HB_W1
    have hs0 := hs0_W1
    have hl_R := hl_R_W1
    have f_R := f_R_W1
    have HX_R := HX_R_W1
    have k_R_0 := k_R_0_W1
    have k_R_1 := k_R_1_W1
    have k_R_2 := k_R_2_W1
    have HP := HP_W1
    have HQ := HQ_W1
    clear hN_W1 HB_W1 hs0_W1 hl_R_W1 f_R_W1 HX_R_W1 k_R_0_W1 k_R_1_W1 k_R_2_W1 HP_W1 HQ_W1
    refine (intPrint_any (N := N) _ _ _ _ q.num.natAbs _ hN HP.out (by omega) (HTab.out.below HB.out) q.num (zI_norm q.num)).mono ?_
    rintro e wb ⟨l, rfl, l0, l1, l2, hb⟩
    have hN_wb : N ≤ wb.heap.size := Nat.le_trans hN hb.size
    have hs_wb : W1.heap.size ≤ wb.heap.size := hb.size
    have hs0_wb : w.heap.size ≤ wb.heap.size := Nat.le_trans hs0 hb.size
    have hl_R_wb : w.heap.size < wb.heap.size := Nat.lt_of_lt_of_le hl_R hb.size
    have k_R_0_wb : wb.cell? ⟨w.heap.size, 0, none⟩ = some (.bool (decide ((q).num < 0))) := (hb.cell (p := ⟨w.heap.size, 0, none⟩) hl_R).trans k_R_0
    have k_R_1_wb : wb.cell? ⟨w.heap.size, 1, none⟩ = some (.slice rx (nlen (q).num.natAbs) cx) := (hb.cell (p := ⟨w.heap.size, 1, none⟩) hl_R).trans k_R_1
    have k_R_2_wb : wb.cell? ⟨w.heap.size, 2, none⟩ = some (.slice rx2 (nlen (q).den) cx2) := (hb.cell (p := ⟨w.heap.size, 2, none⟩) hl_R).trans k_R_2
    have f_R_wb : ∀ o, wb.frozen? ⟨w.heap.size, o, none⟩ = false := fun o => (hb.frozen (p := ⟨w.heap.size, o, none⟩) hl_R).trans (f_R o)
    have HX_R_wb := Lib.hid (HX_R.out.below hb)
    have HP_wb := Lib.hid (HP.out.below hb)
    have HQ_wb := Lib.hid (HQ.out.below hb)
    have HB_wb := Lib.hid (HB.out.trans (hb.mono hs0))
    clear hb
    clear hl_R f_R HX_R k_R_0 k_R_1 k_R_2 HP HQ HB hN hs0
    have hN := hN_wb
    have HB := HB_wb
    have hs0 := hs0_wb
    have hl_R := hl_R_wb
    have f_R := f_R_wb
    have HX_R := HX_R_wb
    have k_R_0 := k_R_0_wb
    have k_R_1 := k_R_1_wb
    have k_R_2 := k_R_2_wb
    have HP := HP_wb
    have HQ := HQ_wb
    clear hN_wb HB_wb hs0_wb hl_R_wb f_R_wb HX_R_wb k_R_0_wb k_R_1_wb k_R_2_wb HP_wb HQ_wb
    have HL := Lib.hid l2
    clear l2
    go_wp2_with fail
    refine region_name fun W2 hW => ?_
    have hN_W2 : N ≤ W2.heap.size := by rw [← hW]; (first | omega | (simp; done) | (simp; omega))
    have hs_W2 : wb.heap.size ≤ W2.heap.size := by rw [← hW]; (first | omega | (simp; done) | (simp; omega))
    have hs0_W2 : w.heap.size ≤ W2.heap.size := by rw [← hW]; (first | omega | (simp; done) | (simp; omega))
    have hl_R_W2 : w.heap.size < W2.heap.size := by rw [← hW]; (first | omega | (simp; done) | (simp; omega))
    have k_R_0_W2 : W2.cell? ⟨w.heap.size, 0, none⟩ = some (.bool (decide ((q).num < 0))) := by rw [← hW]; (first | with_reducible exact k_R_0 | (simp [go_sem, k_R_0]; done) | (simp [go_sem, k_R_0, hl_R]; done) | (go_simp; done) | (simp [go_sem, k_R_0, k_R_1, k_R_2, f_R, hl_R]; done))
    have k_R_1_W2 : W2.cell? ⟨w.heap.size, 1, none⟩ = some (.slice rx (nlen (q).num.natAbs) cx) := by rw [← hW]; (first | with_reducible exact k_R_1 | (simp [go_sem, k_R_1]; done) | (simp [go_sem, k_R_1, hl_R]; done) | (go_simp; done) | (simp [go_sem, k_R_0, k_R_1, k_R_2, f_R, hl_R]; done))
    have k_R_2_W2 : W2.cell? ⟨w.heap.size, 2, none⟩ = some (.slice rx2 (nlen (q).den) cx2) := by rw [← hW]; (first | with_reducible exact k_R_2 | (simp [go_sem, k_R_2]; done) | (simp [go_sem, k_R_2, hl_R]; done) | (go_simp; done) | (simp [go_sem, k_R_0, k_R_1, k_R_2, f_R, hl_R]; done))
    have f_R_W2 : ∀ o, W2.frozen? ⟨w.heap.size, o, none⟩ = false := by intro o; rw [← hW]; (first | with_reducible exact f_R o | (simp [go_sem, f_R]; done) | (simp [go_sem, f_R, hl_R]; done) | (go_simp; done) | (simp [go_sem, k_R_0, k_R_1, k_R_2, f_R, hl_R]; done))
    have HX_R_W2 := Lib.hid (show Bn W2 (w.heap.size) by rw [← hW]; (repeat' (first | with_reducible exact Kp.refl _ _ | with_reducible exact HX_R.out | with_reducible apply Kp.alloc | with_reducible apply Kp.drew | (with_reducible refine Kp.put ?_ ?_ ?_ _; rotate_left; (focus (first | omega | (simp; done) | (simp; omega))); rotate_left) | (with_reducible refine Bn.new _ _ _ _ ?_ ?_; (focus (first | omega | (simp; done) | (simp; omega))); decide) | with_reducible apply Bn.alloc | with_reducible apply Bn.drew | with_reducible apply Bn.set)))
    have HK_W2 := Lib.hid (show Kp N wb W2 by rw [← hW]; (repeat' (first | with_reducible exact Kp.refl _ _ | with_reducible exact HX_R.out | with_reducible apply Kp.alloc | with_reducible apply Kp.drew | (with_reducible refine Kp.put ?_ ?_ ?_ _; rotate_left; (focus (first | omega | (simp; done) | (simp; omega))); rotate_left) | (with_reducible refine Bn.new _ _ _ _ ?_ ?_; (focus (first | omega | (simp; done) | (simp; omega))); decide) | with_reducible apply Bn.alloc | with_reducible apply Bn.drew | with_reducible apply Bn.set)))
    have HP_W2 := Lib.hid (HP.out.keep HK_W2.out)
    have HQ_W2 := Lib.hid (HQ.out.keep HK_W2.out)
    have HB_W2 := Lib.hid (show Below w.heap.size w W2 by rw [← hW]; (repeat' (first | with_reducible exact Below.refl _ _ | with_reducible exact HB.out | (with_reducible refine Below.alloc ?_ ?_ _; rotate_left; (focus (first | omega | (simp; done) | (simp; omega)))) | with_reducible apply Below.drew | (with_reducible refine Below.setCell ?_ ?_ _; rotate_left; (focus (first | omega | (simp; done) | (simp; omega)))))))
    clear hW HK_W2
    clear hl_R f_R HX_R k_R_0 k_R_1 k_R_2 HP HQ HB hN hs0
    have hN := hN_W2
    have HB := HB_W2
    have hs0 := hs0_W2
    have hl_R := hl_R_W2
    have f_R := f_R_W2
    have HX_R := HX_R_W2
    have k_R_0 := k_R_0_W2
    have k_R_1 := k_R_1_W2
    have k_R_2 := k_R_2_W2
    have HP := HP_W2
    have HQ := HQ_W2
    clear hN_W2 HB_W2 hs0_W2 hl_R_W2 f_R_W2 HX_R_W2 k_R_0_W2 k_R_1_W2 k_R_2_W2 HP_W2 HQ_W2
    go_region_held3 (fun w' => w'.cell? ⟨w.heap.size, 0, none⟩ = some (.bool (decide ((q).num < 0))) ∧ w'.cell? ⟨w.heap.size, 1, none⟩ = some (.slice rx (nlen (q).num.natAbs) cx) ∧ w'.cell? ⟨w.heap.size, 2, none⟩ = some (.slice rx2 (nlen (q).den) cx2))
      (first | (go_keep; done) | ((try dsimp only); (repeat' apply And.intro) <;> (first | (go_keep; done) | (exact cell_keep_alloc_drew (by first | omega | (simp; omega)) (by first | assumption | go_simp)) | (exact cell_keep_alloc (by first | omega | (simp; omega)) (by first | assumption | go_simp)) | (rw [cell_set2 _ _ _ _ _ _ _ _ (by omega)]; assumption) | (rw [cell_set3 _ _ _ _ _ _ _ _ _ _ (by omega)]; assumption))))
      (first
        | (go_at_call 38; refine (of_any (N := N) 1 _ (by decide)).mono ?_; rintro e wc ⟨ro, co, rfl, hn, hb⟩; replace hb : Below W2.heap.size W2 wc := (by first | exact hb | exact bel_of_drew hb); have hN_wc : N ≤ wc.heap.size := Nat.le_trans hN hb.size; have hs_wc : W2.heap.size ≤ wc.heap.size := hb.size; have hs0_wc : w.heap.size ≤ wc.heap.size := Nat.le_trans hs0 hb.size; have hl_R_wc : w.heap.size < wc.heap.size := Nat.lt_of_lt_of_le hl_R hb.size; have k_R_0_wc : wc.cell? ⟨w.heap.size, 0, none⟩ = some (.bool (decide ((q).num < 0))) := (hb.cell (p := ⟨w.heap.size, 0, none⟩) hl_R).trans k_R_0; have k_R_1_wc : wc.cell? ⟨w.heap.size, 1, none⟩ = some (.slice rx (nlen (q).num.natAbs) cx) := (hb.cell (p := ⟨w.heap.size, 1, none⟩) hl_R).trans k_R_1; have k_R_2_wc : wc.cell? ⟨w.heap.size, 2, none⟩ = some (.slice rx2 (nlen (q).den) cx2) := (hb.cell (p := ⟨w.heap.size, 2, none⟩) hl_R).trans k_R_2; have f_R_wc : ∀ o, wc.frozen? ⟨w.heap.size, o, none⟩ = false := fun o => (hb.frozen (p := ⟨w.heap.size, o, none⟩) hl_R).trans (f_R o); have HX_R_wc := Lib.hid (HX_R.out.below hb); have HP_wc := Lib.hid (HP.out.below hb); have HQ_wc := Lib.hid (HQ.out.below hb); have HB_wc := Lib.hid (HB.out.trans (hb.mono hs0)); clear hb; clear hl_R f_R HX_R k_R_0 k_R_1 k_R_2 HP HQ HB hN hs0; have hN := hN_wc; have HB := HB_wc; have hs0 := hs0_wc; have hl_R := hl_R_wc; have f_R := f_R_wc; have HX_R := HX_R_wc; have k_R_0 := k_R_0_wc; have k_R_1 := k_R_1_wc; have k_R_2 := k_R_2_wc; have HP := HP_wc; have HQ := HQ_wc; clear hN_wc HB_wc hs0_wc hl_R_wc f_R_wc HX_R_wc k_R_0_wc k_R_1_wc k_R_2_wc HP_wc HQ_wc; have HO := Lib.hid hn; clear hn; skip)
        | (go_at_call 37; refine (cmp_any (N := N) _ _ _ _ q.den _ _ 1 _ (by exact HQ.out) (by exact HO.out)).mono ?_; rintro e wd ⟨rfl, hq0⟩; have hb : Below wc.heap.size wc wd := (by obtain ⟨q0, rfl⟩ := hq0; exact bel_drewN _ _ _); clear hq0; have hN_wd : N ≤ wd.heap.size := Nat.le_trans hN hb.size; have hs_wd : wc.heap.size ≤ wd.heap.size := hb.size; have hs0_wd : w.heap.size ≤ wd.heap.size := Nat.le_trans hs0 hb.size; have hl_R_wd : w.heap.size < wd.heap.size := Nat.lt_of_lt_of_le hl_R hb.size; have k_R_0_wd : wd.cell? ⟨w.heap.size, 0, none⟩ = some (.bool (decide ((q).num < 0))) := (hb.cell (p := ⟨w.heap.size, 0, none⟩) hl_R).trans k_R_0; have k_R_1_wd : wd.cell? ⟨w.heap.size, 1, none⟩ = some (.slice rx (nlen (q).num.natAbs) cx) := (hb.cell (p := ⟨w.heap.size, 1, none⟩) hl_R).trans k_R_1; have k_R_2_wd : wd.cell? ⟨w.heap.size, 2, none⟩ = some (.slice rx2 (nlen (q).den) cx2) := (hb.cell (p := ⟨w.heap.size, 2, none⟩) hl_R).trans k_R_2; have f_R_wd : ∀ o, wd.frozen? ⟨w.heap.size, o, none⟩ = false := fun o => (hb.frozen (p := ⟨w.heap.size, o, none⟩) hl_R).trans (f_R o); have HX_R_wd := Lib.hid (HX_R.out.below hb); have HP_wd := Lib.hid (HP.out.below hb); have HQ_wd := Lib.hid (HQ.out.below hb); have HO_wd := Lib.hid (HO.out.below hb); have HB_wd := Lib.hid (HB.out.trans (hb.mono hs0)); clear hb; clear hl_R f_R HX_R k_R_0 k_R_1 k_R_2 HP HQ HO HB hN hs0; have hN := hN_wd; have HB := HB_wd; have hs0 := hs0_wd; have hl_R := hl_R_wd; have f_R := f_R_wd; have HX_R := HX_R_wd; have k_R_0 := k_R_0_wd; have k_R_1 := k_R_1_wd; have k_R_2 := k_R_2_wd; have HP := HP_wd; have HQ := HQ_wd; have HO := HO_wd; clear hN_wd HB_wd hs0_wd hl_R_wd f_R_wd HX_R_wd k_R_0_wd k_R_1_wd k_R_2_wd HP_wd HQ_wd HO_wd; skip))
    go_wp2_with fail
    go_ret
    exact ⟨l, rfl, l0, fun h1 h2 _ => by rw [HL.out h1 h2]; unfold txt; rw [if_pos HOne.out], HB.out⟩
  · have hd : (cmpN q.den 1 == 0) = false := by rw [hc1]; simpa using hone
    have HOne := Lib.hid hone
    clear hc1 hone
    have hN0 := hN
    have hs0 : w.heap.size ≤ w.heap.size := Nat.le_refl _
    have HB := Lib.hid (Below.refl w.heap.size w)
    go_enter Tryd.func9, Tryd.ntmps9
    go_wp2_with fail
    refine calls_name fun W0 hW => ?_
    have hN_W0 : N ≤ W0.heap.size := by rw [← hW]; (first | omega | (simp; done) | (simp; omega))
    have hs_W0 : w.heap.size ≤ W0.heap.size := by rw [← hW]; (first | omega | (simp; done) | (simp; omega))
    have hs0_W0 : w.heap.size ≤ W0.heap.size := by rw [← hW]; (first | omega | (simp; done) | (simp; omega))
    have hl_R_W0 : w.heap.size < W0.heap.size := by rw [← hW]; (first | omega | (simp; done) | (simp; omega))
    have k_R_0_W0 : W0.cell? ⟨w.heap.size, 0, none⟩ = some (.bool s) := by rw [← hW]; (first | (go_simp; done) | (simp; done) | (simp [go_sem]; done) | (simp [go_sem]; done))
    have k_R_1_W0 : W0.cell? ⟨w.heap.size, 1, none⟩ = some (.slice a na ca) := by rw [← hW]; (first | (go_simp; done) | (simp; done) | (simp [go_sem]; done) | (simp [go_sem]; done))
    have k_R_2_W0 : W0.cell? ⟨w.heap.size, 2, none⟩ = some (.slice d nd cd) := by rw [← hW]; (first | (go_simp; done) | (simp; done) | (simp [go_sem]; done) | (simp [go_sem]; done))
    have f_R_W0 : ∀ o, W0.frozen? ⟨w.heap.size, o, none⟩ = false := by intro o; rw [← hW]; (first | (go_simp; done) | (simp; done) | (simp [go_sem]; done) | (simp [go_sem]; done))
    have HX_R_W0 := Lib.hid (show Bn W0 (w.heap.size) by rw [← hW]; (repeat' (first | with_reducible exact Kp.refl _ _ | with_reducible apply Kp.alloc | with_reducible apply Kp.drew | (with_reducible refine Kp.put ?_ ?_ ?_ _; rotate_left; (focus (first | omega | (simp; done) | (simp; omega))); rotate_left) | (with_reducible refine Bn.new _ _ _ _ ?_ ?_; (focus (first | omega | (simp; done) | (simp; omega))); decide) | with_reducible apply Bn.alloc | with_reducible apply Bn.drew | with_reducible apply Bn.set)))
    have HK_W0 := Lib.hid (show Kp N w W0 by rw [← hW]; (repeat' (first | with_reducible exact Kp.refl _ _ | with_reducible apply Kp.alloc | with_reducible apply Kp.drew | (with_reducible refine Kp.put ?_ ?_ ?_ _; rotate_left; (focus (first | omega | (simp; done) | (simp; omega))); rotate_left) | (with_reducible refine Bn.new _ _ _ _ ?_ ?_; (focus (first | omega | (simp; done) | (simp; omega))); decide) | with_reducible apply Bn.alloc | with_reducible apply Bn.drew | with_reducible apply Bn.set)))
    have H_W0 := Lib.hid (H.out.keep HK_W0.out)
    have HB_W0 := Lib.hid (show Below w.heap.size w W0 by rw [← hW]; (repeat' (first | with_reducible exact Below.refl _ _ | with_reducible exact HB.out | (with_reducible refine Below.alloc ?_ ?_ _; rotate_left; (focus (first | omega | (simp; done) | (simp; omega)))) | with_reducible apply Below.drew | (with_reducible refine Below.setCell ?_ ?_ _; rotate_left; (focus (first | omega | (simp; done) | (simp; omega)))))))
    clear hW HK_W0
    clear H HB hN hs0
    have hN := hN_W0
    have HB := HB_W0
    have hs0 := hs0_W0
    have hl_R := hl_R_W0
    have f_R := f_R_W0
    have HX_R := HX_R_W0
    have k_R_0 := k_R_0_W0
    have k_R_1 := k_R_1_W0
    have k_R_2 := k_R_2_W0
    have H := H_W0
    clear hN_W0 HB_W0 hs0_W0 hl_R_W0 f_R_W0 HX_R_W0 k_R_0_W0 k_R_1_W0 k_R_2_W0 H_W0
    refine (rnorm_any (N := N) _ _ _ _ _ _ _ L q _ hN H.out (by omega)).mono ?_
    rintro e wa ⟨rx, cx, rx2, cx2, rfl, hn, hn', hb⟩
    have hN_wa : N ≤ wa.heap.size := Nat.le_trans hN hb.size
    have hs_wa : W0.heap.size ≤ wa.heap.size := hb.size
    have hs0_wa : w.heap.size ≤ wa.heap.size := Nat.le_trans hs0 hb.size
    have hl_R_wa : w.heap.size < wa.heap.size := Nat.lt_of_lt_of_le hl_R hb.size
    have k_R_0_wa : wa.cell? ⟨w.heap.size, 0, none⟩ = some (.bool s) := (hb.cell (p := ⟨w.heap.size, 0, none⟩) hl_R).trans k_R_0
    have k_R_1_wa : wa.cell? ⟨w.heap.size, 1, none⟩ = some (.slice a na ca) := (hb.cell (p := ⟨w.heap.size, 1, none⟩) hl_R).trans k_R_1
    have k_R_2_wa : wa.cell? ⟨w.heap.size, 2, none⟩ = some (.slice d nd cd) := (hb.cell (p := ⟨w.heap.size, 2, none⟩) hl_R).trans k_R_2
    have f_R_wa : ∀ o, wa.frozen? ⟨w.heap.size, o, none⟩ = false := fun o => (hb.frozen (p := ⟨w.heap.size, o, none⟩) hl_R).trans (f_R o)
    have HX_R_wa := Lib.hid (HX_R.out.below hb)
    have H_wa := Lib.hid (H.out.below hb)
    have HB_wa := Lib.hid (HB.out.trans (hb.mono hs0))
    clear hb
    clear hl_R f_R HX_R k_R_0 k_R_1 k_R_2 H HB hN hs0
    have hN := hN_wa
    have HB := HB_wa
    have hs0 := hs0_wa
    have hl_R := hl_R_wa
    have f_R := f_R_wa
    have HX_R := HX_R_wa
    have k_R_0 := k_R_0_wa
    have k_R_1 := k_R_1_wa
    have k_R_2 := k_R_2_wa
    have H := H_wa
    clear hN_wa HB_wa hs0_wa hl_R_wa f_R_wa HX_R_wa k_R_0_wa k_R_1_wa k_R_2_wa H_wa
    have HP := Lib.hid hn
    clear hn
    have HQ := Lib.hid hn'
    clear hn'
    clear H
    go_wp2_with fail
    refine calls_name fun W1 hW => ?_
    have hN_W1 : N ≤ W1.heap.size := by rw [← hW]; (first | omega | (simp; done) | (simp; omega))
    have hs_W1 : wa.heap.size ≤ W1.heap.size := by rw [← hW]; (first | omega | (simp; done) | (simp; omega))
    have hs0_W1 : w.heap.size ≤ W1.heap.size := by rw [← hW]; (first | omega | (simp; done) | (simp; omega))
    have hl_R_W1 : w.heap.size < W1.heap.size := by rw [← hW]; (first | omega | (simp; done) | (simp; omega))
    have k_R_0_W1 : W1.cell? ⟨w.heap.size, 0, none⟩ = some (.bool (decide ((q).num < 0))) := by rw [← hW]; (first | (go_simp; done) | (simp [go_sem, k_R_0]; done) | (simp [go_sem, k_R_0, k_R_1, k_R_2]; done) | (simp [go_sem, k_R_0, k_R_1, k_R_2, f_R, hl_R]; done))
    have k_R_1_W1 : W1.cell? ⟨w.heap.size, 1, none⟩ = some (.slice rx (nlen (q).num.natAbs) cx) := by rw [← hW]; (first | (go_simp; done) | (simp [go_sem, k_R_1]; done) | (simp [go_sem, k_R_0, k_R_1, k_R_2]; done) | (simp [go_sem, k_R_0, k_R_1, k_R_2, f_R, hl_R]; done))
    have k_R_2_W1 : W1.cell? ⟨w.heap.size, 2, none⟩ = some (.slice rx2 (nlen (q).den) cx2) := by rw [← hW]; (first | (go_simp; done) | (simp [go_sem, k_R_2]; done) | (simp [go_sem, k_R_0, k_R_1, k_R_2]; done) | (simp [go_sem, k_R_0, k_R_1, k_R_2, f_R, hl_R]; done))
    have f_R_W1 : ∀ o, W1.frozen? ⟨w.heap.size, o, none⟩ = false := by intro o; rw [← hW]; (first | with_reducible exact f_R o | (simp [go_sem, f_R]; done) | (simp [go_sem, f_R, hl_R]; done) | (go_simp; done) | (simp [go_sem, k_R_0, k_R_1, k_R_2, f_R, hl_R]; done))
    have HX_R_W1 := Lib.hid (show Bn W1 (w.heap.size) by rw [← hW]; (repeat' (first | with_reducible exact Kp.refl _ _ | with_reducible exact HX_R.out | with_reducible apply Kp.alloc | with_reducible apply Kp.drew | (with_reducible refine Kp.put ?_ ?_ ?_ _; rotate_left; (focus (first | omega | (simp; done) | (simp; omega))); rotate_left) | (with_reducible refine Bn.new _ _ _ _ ?_ ?_; (focus (first | omega | (simp; done) | (simp; omega))); decide) | with_reducible apply Bn.alloc | with_reducible apply Bn.drew | with_reducible apply Bn.set)))
    have HK_W1 := Lib.hid (show Kp N wa W1 by rw [← hW]; (repeat' (first | with_reducible exact Kp.refl _ _ | with_reducible exact HX_R.out | with_reducible apply Kp.alloc | with_reducible apply Kp.drew | (with_reducible refine Kp.put ?_ ?_ ?_ _; rotate_left; (focus (first | omega | (simp; done) | (simp; omega))); rotate_left) | (with_reducible refine Bn.new _ _ _ _ ?_ ?_; (focus (first | omega | (simp; done) | (simp; omega))); decide) | with_reducible apply Bn.alloc | with_reducible apply Bn.drew | with_reducible apply Bn.set)))
    have HP_W1 := Lib.hid (HP.out.keep HK_W1.out)
    have HQ_W1 := Lib.hid (HQ.out.keep HK_W1.out)
    have HB_W1 := Lib.hid (show Below w.heap.size w W1 by rw [← hW]; (repeat' (first | with_reducible exact Below.refl _ _ | with_reducible exact HB.out | (with_reducible refine Below.alloc ?_ ?_ _; rotate_left; (focus (first | omega | (simp; done) | (simp; omega)))) | with_reducible apply Below.drew | (with_reducible refine Below.setCell ?_ ?_ _; rotate_left; (focus (first | omega | (simp; done) | (simp; omega)))))))
    clear hW HK_W1
    clear hl_R f_R HX_R k_R_0 k_R_1 k_R_2 HP HQ HB hN hs0
    have hN := hN_W1
    have HB := HB_W1
    have hs0 := hs0_W1
    have hl_R := hl_R_W1
    have f_R := f_R_W1
    have HX_R := HX_R_W1
    have k_R_0 := k_R_0_W1
    have k_R_1 := k_R_1_W1
    have k_R_2 := k_R_2_W1
    have HP := HP_W1
    have HQ := HQ_W1
    clear hN_W1 HB_W1 hs0_W1 hl_R_W1 f_R_W1 HX_R_W1 k_R_0_W1 k_R_1_W1 k_R_2_W1 HP_W1 HQ_W1
    refine (intPrint_any (N := N) _ _ _ _ q.num.natAbs _ hN HP.out (by omega) (HTab.out.below HB.out) q.num (zI_norm q.num)).mono ?_
    rintro e wb ⟨l, rfl, l0, l1, l2, hb⟩
    have hN_wb : N ≤ wb.heap.size := Nat.le_trans hN hb.size
    have hs_wb : W1.heap.size ≤ wb.heap.size := hb.size
    have hs0_wb : w.heap.size ≤ wb.heap.size := Nat.le_trans hs0 hb.size
    have hl_R_wb : w.heap.size < wb.heap.size := Nat.lt_of_lt_of_le hl_R hb.size
    have k_R_0_wb : wb.cell? ⟨w.heap.size, 0, none⟩ = some (.bool (decide ((q).num < 0))) := (hb.cell (p := ⟨w.heap.size, 0, none⟩) hl_R).trans k_R_0
    have k_R_1_wb : wb.cell? ⟨w.heap.size, 1, none⟩ = some (.slice rx (nlen (q).num.natAbs) cx) := (hb.cell (p := ⟨w.heap.size, 1, none⟩) hl_R).trans k_R_1
    have k_R_2_wb : wb.cell? ⟨w.heap.size, 2, none⟩ = some (.slice rx2 (nlen (q).den) cx2) := (hb.cell (p := ⟨w.heap.size, 2, none⟩) hl_R).trans k_R_2
    have f_R_wb : ∀ o, wb.frozen? ⟨w.heap.size, o, none⟩ = false := fun o => (hb.frozen (p := ⟨w.heap.size, o, none⟩) hl_R).trans (f_R o)
    have HX_R_wb := Lib.hid (HX_R.out.below hb)
    have HP_wb := Lib.hid (HP.out.below hb)
    have HQ_wb := Lib.hid (HQ.out.below hb)
    have HB_wb := Lib.hid (HB.out.trans (hb.mono hs0))
    clear hb
    clear hl_R f_R HX_R k_R_0 k_R_1 k_R_2 HP HQ HB hN hs0
    have hN := hN_wb
    have HB := HB_wb
    have hs0 := hs0_wb
    have hl_R := hl_R_wb
    have f_R := f_R_wb
    have HX_R := HX_R_wb
    have k_R_0 := k_R_0_wb
    have k_R_1 := k_R_1_wb
    have k_R_2 := k_R_2_wb
    have HP := HP_wb
    have HQ := HQ_wb
    clear hN_wb HB_wb hs0_wb hl_R_wb f_R_wb HX_R_wb k_R_0_wb k_R_1_wb k_R_2_wb HP_wb HQ_wb
    have HL := Lib.hid l2
    clear l2
    go_wp2_with fail
    refine region_name fun W2 hW => ?_
    have hN_W2 : N ≤ W2.heap.size := by rw [← hW]; (first | omega | (simp; done) | (simp; omega))
    have hs_W2 : wb.heap.size ≤ W2.heap.size := by rw [← hW]; (first | omega | (simp; done) | (simp; omega))
    have hs0_W2 : w.heap.size ≤ W2.heap.size := by rw [← hW]; (first | omega | (simp; done) | (simp; omega))
    have hl_R_W2 : w.heap.size < W2.heap.size := by rw [← hW]; (first | omega | (simp; done) | (simp; omega))
    have k_R_0_W2 : W2.cell? ⟨w.heap.size, 0, none⟩ = some (.bool (decide ((q).num < 0))) := by rw [← hW]; (first | with_reducible exact k_R_0 | (simp [go_sem, k_R_0]; done) | (simp [go_sem, k_R_0, hl_R]; done) | (go_simp; done) | (simp [go_sem, k_R_0, k_R_1, k_R_2, f_R, hl_R]; done))
    have k_R_1_W2 : W2.cell? ⟨w.heap.size, 1, none⟩ = some (.slice rx (nlen (q).num.natAbs) cx) := by rw [← hW]; (first | with_reducible exact k_R_1 | (simp [go_sem, k_R_1]; done) | (simp [go_sem, k_R_1, hl_R]; done) | (go_simp; done) | (simp [go_sem, k_R_0, k_R_1, k_R_2, f_R, hl_R]; done))
    have k_R_2_W2 : W2.cell? ⟨w.heap.size, 2, none⟩ = some (.slice rx2 (nlen (q).den) cx2) := by rw [← hW]; (first | with_reducible exact k_R_2 | (simp [go_sem, k_R_2]; done) | (simp [go_sem, k_R_2, hl_R]; done) | (go_simp; done) | (simp [go_sem, k_R_0, k_R_1, k_R_2, f_R, hl_R]; done))
    have f_R_W2 : ∀ o, W2.frozen? ⟨w.heap.size, o, none⟩ = false := by intro o; rw [← hW]; (first | with_reducible exact f_R o | (simp [go_sem, f_R]; done) | (simp [go_sem, f_R, hl_R]; done) | (go_simp; done) | (simp [go_sem, k_R_0, k_R_1, k_R_2, f_R, hl_R]; done))
    have HX_R_W2 := Lib.hid (show Bn W2 (w.heap.size) by rw [← hW]; (repeat' (first | with_reducible exact Kp.refl _ _ | with_reducible exact HX_R.out | with_reducible apply Kp.alloc | with_reducible apply Kp.drew | (with_reducible refine Kp.put ?_ ?_ ?_ _; rotate_left; (focus (first | omega | (simp; done) | (simp; omega))); rotate_left) | (with_reducible refine Bn.new _ _ _ _ ?_ ?_; (focus (first | omega | (simp; done) | (simp; omega))); decide) | with_reducible apply Bn.alloc | with_reducible apply Bn.drew | with_reducible apply Bn.set)))
    have HK_W2 := Lib.hid (show Kp N wb W2 by rw [← hW]; (repeat' (first | with_reducible exact Kp.refl _ _ | with_reducible exact HX_R.out | with_reducible apply Kp.alloc | with_reducible apply Kp.drew | (with_reducible refine Kp.put ?_ ?_ ?_ _; rotate_left; (focus (first | omega | (simp; done) | (simp; omega))); rotate_left) | (with_reducible refine Bn.new _ _ _ _ ?_ ?_; (focus (first | omega | (simp; done) | (simp; omega))); decide) | with_reducible apply Bn.alloc | with_reducible apply Bn.drew | with_reducible apply Bn.set)))
    have HP_W2 := Lib.hid (HP.out.keep HK_W2.out)
    have HQ_W2 := Lib.hid (HQ.out.keep HK_W2.out)
    have HB_W2 := Lib.hid (show Below w.heap.size w W2 by rw [← hW]; (repeat' (first | with_reducible exact Below.refl _ _ | with_reducible exact HB.out | (with_reducible refine Below.alloc ?_ ?_ _; rotate_left; (focus (first | omega | (simp; done) | (simp; omega)))) | with_reducible apply Below.drew | (with_reducible refine Below.setCell ?_ ?_ _; rotate_left; (focus (first | omega | (simp; done) | (simp; omega)))))))
    clear hW HK_W2
    clear hl_R f_R HX_R k_R_0 k_R_1 k_R_2 HP HQ HB hN hs0
    have hN := hN_W2
    have HB := HB_W2
    have hs0 := hs0_W2
    have hl_R := hl_R_W2
    have f_R := f_R_W2
    have HX_R := HX_R_W2
    have k_R_0 := k_R_0_W2
    have k_R_1 := k_R_1_W2
    have k_R_2 := k_R_2_W2
    have HP := HP_W2
    have HQ := HQ_W2
    clear hN_W2 HB_W2 hs0_W2 hl_R_W2 f_R_W2 HX_R_W2 k_R_0_W2 k_R_1_W2 k_R_2_W2 HP_W2 HQ_W2
    go_region_held3 (fun w' => w'.cell? ⟨w.heap.size, 0, none⟩ = some (.bool (decide ((q).num < 0))) ∧ w'.cell? ⟨w.heap.size, 1, none⟩ = some (.slice rx (nlen (q).num.natAbs) cx) ∧ w'.cell? ⟨w.heap.size, 2, none⟩ = some (.slice rx2 (nlen (q).den) cx2))
      (first | (go_keep; done) | ((try dsimp only); (repeat' apply And.intro) <;> (first | (go_keep; done) | (exact cell_keep_alloc_drew (by first | omega | (simp; omega)) (by first | assumption | go_simp)) | (exact cell_keep_alloc (by first | omega | (simp; omega)) (by first | assumption | go_simp)) | (rw [cell_set2 _ _ _ _ _ _ _ _ (by omega)]; assumption) | (rw [cell_set3 _ _ _ _ _ _ _ _ _ _ (by omega)]; assumption))))
      (first
        | (go_at_call 38; refine (of_any (N := N) 1 _ (by decide)).mono ?_; rintro e wc ⟨ro, co, rfl, hn, hb⟩; replace hb : Below W2.heap.size W2 wc := (by first | exact hb | exact bel_of_drew hb); have hN_wc : N ≤ wc.heap.size := Nat.le_trans hN hb.size; have hs_wc : W2.heap.size ≤ wc.heap.size := hb.size; have hs0_wc : w.heap.size ≤ wc.heap.size := Nat.le_trans hs0 hb.size; have hl_R_wc : w.heap.size < wc.heap.size := Nat.lt_of_lt_of_le hl_R hb.size; have k_R_0_wc : wc.cell? ⟨w.heap.size, 0, none⟩ = some (.bool (decide ((q).num < 0))) := (hb.cell (p := ⟨w.heap.size, 0, none⟩) hl_R).trans k_R_0; have k_R_1_wc : wc.cell? ⟨w.heap.size, 1, none⟩ = some (.slice rx (nlen (q).num.natAbs) cx) := (hb.cell (p := ⟨w.heap.size, 1, none⟩) hl_R).trans k_R_1; have k_R_2_wc : wc.cell? ⟨w.heap.size, 2, none⟩ = some (.slice rx2 (nlen (q).den) cx2) := (hb.cell (p := ⟨w.heap.size, 2, none⟩) hl_R).trans k_R_2; have f_R_wc : ∀ o, wc.frozen? ⟨w.heap.size, o, none⟩ = false := fun o => (hb.frozen (p := ⟨w.heap.size, o, none⟩) hl_R).trans (f_R o); have HX_R_wc := Lib.hid (HX_R.out.below hb); have HP_wc := Lib.hid (HP.out.below hb); have HQ_wc := Lib.hid (HQ.out.below hb); have HB_wc := Lib.hid (HB.out.trans (hb.mono hs0)); clear hb; clear hl_R f_R HX_R k_R_0 k_R_1 k_R_2 HP HQ HB hN hs0; have hN := hN_wc; have HB := HB_wc; have hs0 := hs0_wc; have hl_R := hl_R_wc; have f_R := f_R_wc; have HX_R := HX_R_wc; have k_R_0 := k_R_0_wc; have k_R_1 := k_R_1_wc; have k_R_2 := k_R_2_wc; have HP := HP_wc; have HQ := HQ_wc; clear hN_wc HB_wc hs0_wc hl_R_wc f_R_wc HX_R_wc k_R_0_wc k_R_1_wc k_R_2_wc HP_wc HQ_wc; have HO := Lib.hid hn; clear hn; skip)
        | (go_at_call 37; refine (cmp_any (N := N) _ _ _ _ q.den _ _ 1 _ (by exact HQ.out) (by exact HO.out)).mono ?_; rintro e wd ⟨rfl, hq0⟩; have hb : Below wc.heap.size wc wd := (by obtain ⟨q0, rfl⟩ := hq0; exact bel_drewN _ _ _); clear hq0; have hN_wd : N ≤ wd.heap.size := Nat.le_trans hN hb.size; have hs_wd : wc.heap.size ≤ wd.heap.size := hb.size; have hs0_wd : w.heap.size ≤ wd.heap.size := Nat.le_trans hs0 hb.size; have hl_R_wd : w.heap.size < wd.heap.size := Nat.lt_of_lt_of_le hl_R hb.size; have k_R_0_wd : wd.cell? ⟨w.heap.size, 0, none⟩ = some (.bool (decide ((q).num < 0))) := (hb.cell (p := ⟨w.heap.size, 0, none⟩) hl_R).trans k_R_0; have k_R_1_wd : wd.cell? ⟨w.heap.size, 1, none⟩ = some (.slice rx (nlen (q).num.natAbs) cx) := (hb.cell (p := ⟨w.heap.size, 1, none⟩) hl_R).trans k_R_1; have k_R_2_wd : wd.cell? ⟨w.heap.size, 2, none⟩ = some (.slice rx2 (nlen (q).den) cx2) := (hb.cell (p := ⟨w.heap.size, 2, none⟩) hl_R).trans k_R_2; have f_R_wd : ∀ o, wd.frozen? ⟨w.heap.size, o, none⟩ = false := fun o => (hb.frozen (p := ⟨w.heap.size, o, none⟩) hl_R).trans (f_R o); have HX_R_wd := Lib.hid (HX_R.out.below hb); have HP_wd := Lib.hid (HP.out.below hb); have HQ_wd := Lib.hid (HQ.out.below hb); have HO_wd := Lib.hid (HO.out.below hb); have HB_wd := Lib.hid (HB.out.trans (hb.mono hs0)); clear hb; clear hl_R f_R HX_R k_R_0 k_R_1 k_R_2 HP HQ HO HB hN hs0; have hN := hN_wd; have HB := HB_wd; have hs0 := hs0_wd; have hl_R := hl_R_wd; have f_R := f_R_wd; have HX_R := HX_R_wd; have k_R_0 := k_R_0_wd; have k_R_1 := k_R_1_wd; have k_R_2 := k_R_2_wd; have HP := HP_wd; have HQ := HQ_wd; have HO := HO_wd; clear hN_wd HB_wd hs0_wd hl_R_wd f_R_wd HX_R_wd k_R_0_wd k_R_1_wd k_R_2_wd HP_wd HQ_wd HO_wd; skip))
    go_wp2_with fail
    refine (natPrint_any (N := N) _ _ _ q.den _ HQ.out (by omega) (HTab.out.below HB.out)).mono ?_
    rintro e we ⟨l3, rfl, m0, m1, m2, hb⟩
    have hN_we : N ≤ we.heap.size := Nat.le_trans hN hb.size
    have hs_we : wd.heap.size ≤ we.heap.size := hb.size
    have hs0_we : w.heap.size ≤ we.heap.size := Nat.le_trans hs0 hb.size
    have hl_R_we : w.heap.size < we.heap.size := Nat.lt_of_lt_of_le hl_R hb.size
    have k_R_0_we : we.cell? ⟨w.heap.size, 0, none⟩ = some (.bool (decide ((q).num < 0))) := (hb.cell (p := ⟨w.heap.size, 0, none⟩) hl_R).trans k_R_0
    have k_R_1_we : we.cell? ⟨w.heap.size, 1, none⟩ = some (.slice rx (nlen (q).num.natAbs) cx) := (hb.cell (p := ⟨w.heap.size, 1, none⟩) hl_R).trans k_R_1
    have k_R_2_we : we.cell? ⟨w.heap.size, 2, none⟩ = some (.slice rx2 (nlen (q).den) cx2) := (hb.cell (p := ⟨w.heap.size, 2, none⟩) hl_R).trans k_R_2
    have f_R_we : ∀ o, we.frozen? ⟨w.heap.size, o, none⟩ = false := fun o => (hb.frozen (p := ⟨w.heap.size, o, none⟩) hl_R).trans (f_R o)
    have HX_R_we := Lib.hid (HX_R.out.below hb)
    have HP_we := Lib.hid (HP.out.below hb)
    have HQ_we := Lib.hid (HQ.out.below hb)
    have HO_we := Lib.hid (HO.out.below hb)
    have HB_we := Lib.hid (HB.out.trans (hb.mono hs0))
    clear hb
    clear hl_R f_R HX_R k_R_0 k_R_1 k_R_2 HP HQ HO HB hN hs0
    have hN := hN_we
    have HB := HB_we
    have hs0 := hs0_we
    have hl_R := hl_R_we
    have f_R := f_R_we
    have HX_R := HX_R_we
    have k_R_0 := k_R_0_we
    have k_R_1 := k_R_1_we
    have k_R_2 := k_R_2_we
    have HP := HP_we
    have HQ := HQ_we
    have HO := HO_we
    clear hN_we HB_we hs0_we hl_R_we f_R_we HX_R_we k_R_0_we k_R_1_we k_R_2_we HP_we HQ_we HO_we
    have HM := Lib.hid m2
    clear m2
    go_wp2_with fail
    go_ret
    exact ⟨l ++ [47] ++ l3, congrArg (fun x => Ending.returned (Value.string x)) ((congrArg (fun x => x ++ (⟨l3.toArray⟩ : ByteArray)) (ba_app l [47])).trans (ba_app _ l3)), by simp; omega, fun h1 h2 h3 => by rw [HL.out h1 h2, HM.out h3]; unfold txt; rw [if_neg HOne.out], HB.out⟩

end Go.Proofs.YtbjgnpgachdlaaaDoor
