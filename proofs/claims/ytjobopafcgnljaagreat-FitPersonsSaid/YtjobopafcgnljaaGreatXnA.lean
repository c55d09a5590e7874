import Derived.Test.YtjobopafcgnljaaGreatAl
import Derived.Test.YtjobopafcgnljaaGreatTqA
import Derived.Test.YtjobopafcgnljaaGreatFtA
import Derived.Test.YtjobopafcgnljaaGreatNulQ
namespace Go.Proofs.YtjobopafcgnljaaGreat
open Go.RowKit
set_option maxHeartbeats 2000000 in
theorem xwhole_any {N : Nat} (n : Int) (w : World) (hN : N ≤ w.heap.size) (n1 : -9223372036854775808 ≤ n) (n2 : n ≤ 9223372036854775807) (p : Rat) (hp : (n : Rat) / ((1 : Int) : Rat) = p) :
  Calls Tryz.prog 13 #[.int .i64 n] w (RatPost N w p) := by
 have HP := Lib.hid ((mk_div n 1).trans hp)
 clear hp
 have hN0 := hN
 have HB := Lib.hid (Below.refl w.heap.size w)
 go_enter Tryz.func13, Tryz.ntmps13
 go_wp2_with fail
 refine calls_name fun W0 hW => ?_
 have hs_W0 : w.heap.size ≤ W0.heap.size := by rw [← hW]; exact OmT
 have k_R_0 : W0.cell? ⟨w.heap.size, 0, none⟩ = some (.bool false) := by rw [← hW]; exact CeA
 have k_R_1 : W0.cell? ⟨w.heap.size, 1, none⟩ = some (.slice none 0 0) := by rw [← hW]; exact CeA
 have k_R_2 : W0.cell? ⟨w.heap.size, 2, none⟩ = some (.slice none 0 0) := by rw [← hW]; exact CeA
 have f_R : ∀ o, W0.frozen? ⟨w.heap.size, o, none⟩ = false := by intro o; rw [← hW]; exact CeA
 have HX_R := Lib.hid (show Bn W0 (w.heap.size) by rw [← hW]; exact KpA)
 replace HB := Lib.hid (show Below w.heap.size w W0 by rw [← hW]; exact BlA)
 replace hN : N ≤ W0.heap.size := by rw [← hW]; exact OmT
 have hs0 : w.heap.size ≤ W0.heap.size := by rw [← hW]; exact OmT
 have hl_R : w.heap.size < W0.heap.size := by rw [← hW]; exact OmT
 clear hW
 refine (xrof_any (N := N) n 1 _ hN n1 n2 (by omega) (by omega) p HP.out).mono ?_
 rintro e wa ⟨rx, cx, rx2, cx2, rfl, hn, hn', hb⟩
 have hs_wa : W0.heap.size ≤ wa.heap.size := hb.size
 replace k_R_0 : wa.cell? ⟨w.heap.size, 0, none⟩ = some (.bool false) := (hb.cell (p := ⟨w.heap.size, 0, none⟩) hl_R).trans k_R_0
 replace k_R_1 : wa.cell? ⟨w.heap.size, 1, none⟩ = some (.slice none 0 0) := (hb.cell (p := ⟨w.heap.size, 1, none⟩) hl_R).trans k_R_1
 replace k_R_2 : wa.cell? ⟨w.heap.size, 2, none⟩ = some (.slice none 0 0) := (hb.cell (p := ⟨w.heap.size, 2, none⟩) hl_R).trans k_R_2
 replace f_R : ∀ o, wa.frozen? ⟨w.heap.size, o, none⟩ = false := fun o => (hb.frozen (p := ⟨w.heap.size, o, none⟩) hl_R).trans (f_R o)
 replace HX_R := Lib.hid (HX_R.out.below hb)
 replace HB := Lib.hid (HB.out.trans (hb.mono hs0))
 replace hN : N ≤ wa.heap.size := Nat.le_trans hN hb.size
 replace hs0 : w.heap.size ≤ wa.heap.size := Nat.le_trans hs0 hb.size
 replace hl_R : w.heap.size < wa.heap.size := Nat.lt_of_lt_of_le hl_R hb.size
 clear hb
 have HX1 := Lib.hid hn
 clear hn
 have HX2 := Lib.hid hn'
 clear hn'
 go_wp2_with fail
 refine bodyPost_ret (v := .agg #[.bool (decide ((p).num < 0)), .slice rx (nlen (p).num.natAbs) cx, .slice rx2 (nlen (p).den) cx2]) (by simp [results, Tryz.results13, go_sem, k_R_0, k_R_1, k_R_2, hl_R]) rfl ⟨_, _, _, _, rfl, HX1.out.keep ?_, HX2.out.keep ?_, ?_⟩
 all_goals exact KBA
set_option maxHeartbeats 1000000 in
theorem xcheck_long31 (a : Option Addr) (n cap : Nat) (w : World) (_bc : n ≤ cap) (_bm : cap ≤ maxLen) (hn : 20 < n) :
  Calls Tryz.prog 33 #[.slice a n cap] w fun e w' => e = .returned (.int .i64 5) ∧ Below w.heap.size w w' := by
 skip
 go_enter Tryz.func33, Tryz.ntmps33
 go_wp2_with fail
 go_ret
 exact ⟨rfl, Below.refl _ _⟩
def ChkJ (σ : Int) (sk : Bool) (ra da : Option Addr) (rn rc dn dc b off n cap k : Nat) (W : World) (z0 : Act) (L : Nat → Bool) (z1 : Act) (w : World) : Prop :=
 ∃ u13 u14 u15 u16 u17 u18 u19 u20 u21 u22 u23 u24 u25 u26 u27, z1 = (((((((((((((((z0.put (some 13) u13).put (some 14) u14).put (some 15) u15).put (some 16) u16).put (some 17) u17).put (some 18) u18).put (some 19) u19).put (some 20) u20).put (some 21) u21).put (some 22) u22).put (some 23) u23).put (some 24) u24).put (some 25) u25).put (some 26) u26).put (some 27) u27) ∧ Since W w ∧ (L 0 = true → u13 = .slice (some ⟨b, off, none⟩) n cap) ∧ (L 1 = true → u14 = .int .i64 k) ∧ (L 2 = true → u15 = .pointer (some ⟨b, off + k * 3, none⟩)) ∧ (L 3 = true → u16 = .agg #[.bool sk, .slice ra rn rc, .slice da dn dc]) ∧ (L 4 = true → u17 = .int .i64 σ) ∧ (L 5 = true → u18 = .bool true) ∧ (L 6 = true → u19 = .bool true) ∧ (L 14 = true → u27 = .bool true)
set_option maxHeartbeats 4000000 in
theorem xcheck_any31 {N : Nat} (a : Option Addr) (n cap : Nat) (q : Nat → Rat) (L : Nat) (w : World) (hN : N ≤ w.heap.size) (h : Rs N w a n cap q L) (hL : L ≤ 2097152) (c : Int) (hc : chkF q n = c) :
  Calls Tryz.prog 33 #[.slice a n cap] w fun e w' => e = .returned (.int .i64 c) ∧ Below w.heap.size w w' := by
 rcases Nat.lt_or_ge 20 n with h60 | h60
 ·rw [show c = 5 by rw [← hc]; unfold chkF; rw [if_pos h60]]
  exact xcheck_long31 a n cap w h.1 h.2.1 h60
 unfold chkF at hc
 rw [if_neg (by omega)] at hc
 have HCC := Lib.hid hc
 clear hc
 have HA := Lib.hid h
 have bc := h.1
 have bm := h.2.1
 unfold maxLen at bm
 clear h
 have hN0 := hN
 obtain ⟨p1, hp1⟩ : ∃ p : Rat, (((1 : Int) : Rat)) / ((1 : Int) : Rat) = p := ⟨_, rfl⟩
 have hp2 : p1 = 1 := by rw [← hp1]; decide +kernel
 have HP1 := Lib.hid hp1
 have HZ1 := Lib.hid (show rsz p1 ≤ 1 by rw [hp2]; exact rsz_one)
 have HE1 := Lib.hid hp2
 clear hp1 hp2
 go_enter Tryz.func33, Tryz.ntmps33
 go_wp2_with fail
 go_loopw [3] (fun i wr => ∃ k : Nat, k ≤ n ∧ i = .int .i64 k ∧ Hid (∀ j, j < k → prb (q j) = true) ∧ Below w.heap.size w wr) (fun i _ => n - (intOf i).toNat)
 case atStart => exact ⟨0, Nat.zero_le _, rfl, (fun j hj => by omega), Below.refl _ _⟩
 case round =>
  obtain ⟨k, hk, rfl, hin, hbel⟩ := hrel
  have hsz : w.heap.size ≤ wr.heap.size := hbel.size
  have HA2 := Lib.hid (HA.out.below hbel)
  have HB := Lib.hid hbel
  have hs0 : w.heap.size ≤ wr.heap.size := by omega
  have hN2 : N ≤ wr.heap.size := by omega
  clear hbel
  clear hN
  have hN := hN2
  clear hN2
  by_cases hkn : k < n
  ·obtain ⟨b, off, rfl, hc⟩ := HA2.out.2.2 (by omega)
   obtain ⟨sk, ra, rn, rc, da, dn, dc, g0, g1, g2, hrt⟩ := hc k hkn
   have HR := Lib.hid hrt
   have hlb : b < wr.heap.size := World.block_lt_of_cell? wr _ g0
   clear hc hrt HA2
   have hix0 : (0 : Int) ≤ (k : Int) := by omega
   have hix1 : (k : Int) < (n : Int) := by omega
   obtain ⟨σ, hσ⟩ : ∃ σ, (q k).num.sign = σ := ⟨_, rfl⟩
   have HSG := Lib.hid hσ
   obtain ⟨κ, hκ⟩ : ∃ κ, cmpQ (q k) p1 = κ := ⟨_, rfl⟩
   have HK := Lib.hid hκ
   by_cases h0 : q k < 0
   ·have d0 : decide (σ < 0) = true := by rw [← hσ]; exact sgn_lt2 _ h0
    have ec : c = 3 := by rw [← HCC.out, if_neg (fun hh => by have := hh k hkn; unfold prb at this; rw [decide_eq_true_eq] at this; grind)]
    clear hσ hκ h0
    go_wp2_with fail
    refine region_name fun W1 hW => ?_
    have hs_W1 : wr.heap.size ≤ W1.heap.size := by rw [← hW]; exact OmT
    have HK_W1 := Lib.hid (show Kp N wr W1 by rw [← hW]; exact KpA)
    rw [hW] at g0 g1 g2 hlb
    replace HR := Lib.hid (HR.out.keep HK_W1.out)
    replace HB := Lib.hid (show Below w.heap.size w W1 by rw [← hW]; exact BlA)
    replace hN : N ≤ W1.heap.size := by rw [← hW]; exact OmT
    replace hs0 : w.heap.size ≤ W1.heap.size := by rw [← hW]; exact OmT
    clear hW HK_W1
    refine region_inv2 (by kernel_rfl) (ChkJ σ sk ra da rn rc dn dc b off n cap k (W1)) ?_ ?_ ?_ ?_
    ·exact ⟨u13, u14, u15, u16, u17, u18, u19, u20, u21, u22, u23, u24, u25, u26, u27, by simp only [Act.put, aT, aZ, aS], Since.drawn _, NoR⟩
    ·exact acyc_spec (by kernel_rfl)
    ·intro Ls a0 wq i o ho hLi hafter hJ
     obtain ⟨u13, u14, u15, u16, u17, u18, u19, u20, u21, u22, u23, u24, u25, u26, u27, rfl, hS, p0, p1, p2, p3, p4, p5, p6, p14⟩ := hJ
     have P0 := Lib.hid p0; have P1 := Lib.hid p1; have P2 := Lib.hid p2; have P3 := Lib.hid p3; have P4 := Lib.hid p4; have P5 := Lib.hid p5; have P6 := Lib.hid p6; have P14 := Lib.hid p14; have HS := Lib.hid hS; clear hS p0 p1 p2 p3 p4 p5 p6 p14
     have hi : i < 15 := (Array.getElem?_eq_some_iff.1 ho).1
     obtain rfl | rfl | rfl | rfl | rfl | rfl | rfl | rfl | rfl | rfl | rfl | rfl | rfl | rfl | rfl : i = 0 ∨ i = 1 ∨ i = 2 ∨ i = 3 ∨ i = 4 ∨ i = 5 ∨ i = 6 ∨ i = 7 ∨ i = 8 ∨ i = 9 ∨ i = 10 ∨ i = 11 ∨ i = 12 ∨ i = 13 ∨ i = 14 := by omega
     ·simp only [gT, gZ, Option.some.injEq] at ho
      subst ho
      clear hLi hafter
      simp only [Act.put, aT, aZ, aS]
      go_wp2_with fail
      exact ⟨.slice (some ⟨b, off, none⟩) n cap, u14, u15, u16, u17, u18, u19, u20, u21, u22, u23, u24, u25, u26, u27, by simp only [Act.put, aT, aZ, aS], HS.out, (fun _ => rfl), PvR⟩
     ·simp only [gT, gZ, gS, Option.some.injEq] at ho
      subst ho
      clear hLi hafter
      simp only [Act.put, aT, aZ, aS]
      go_wp2_with fail
      exact ⟨u13, .int .i64 k, u15, u16, u17, u18, u19, u20, u21, u22, u23, u24, u25, u26, u27, by simp only [Act.put, aT, aZ, aS], HS.out, PvA, (fun _ => rfl), PvR⟩
     ·simp only [gT, gZ, gS, Option.some.injEq] at ho
      subst ho
      obtain rfl := P0.out (hafter ⟨0, .data⟩ (by simp) rfl)
      obtain rfl := P1.out (hafter ⟨1, .data⟩ (by simp) rfl)
      clear hLi hafter
      simp only [Act.put, aT, aZ, aS]
      go_wp2_with fail
      exact ⟨.slice (some ⟨b, off, none⟩) n cap, .int .i64 k, .pointer (some ⟨b, off + k * 3, none⟩), u16, u17, u18, u19, u20, u21, u22, u23, u24, u25, u26, u27, by simp only [Act.put, aT, aZ, aS], HS.out, PvA, PvA, (fun _ => rfl), PvR⟩
     ·simp only [gT, gZ, gS, Option.some.injEq] at ho
      subst ho
      obtain rfl := P2.out (hafter ⟨2, .data⟩ (by simp) rfl)
      have c0 := (HS.out.1.cell (p := ⟨b, off + k * 3, none⟩) hlb).trans g0
      have c1 := (HS.out.1.cell (p := ⟨b, off + k * 3 + 1, none⟩) hlb).trans g1
      have c2 := (HS.out.1.cell (p := ⟨b, off + k * 3 + 2, none⟩) hlb).trans g2
      clear hLi hafter
      simp only [Act.put, aT, aZ, aS]
      go_wp2_with fail
      exact ⟨u13, u14, .pointer (some ⟨b, off + k * 3, none⟩), .agg #[.bool sk, .slice ra rn rc, .slice da dn dc], u17, u18, u19, u20, u21, u22, u23, u24, u25, u26, u27, by simp only [Act.put, aT, aZ, aS], HS.out, PvA, PvA, PvA, (fun _ => rfl), PvR⟩
     ·simp only [gT, gZ, gS, Option.some.injEq] at ho
      subst ho
      obtain rfl := P3.out (hafter ⟨3, .data⟩ (by simp) rfl)
      clear hLi hafter
      simp only [Act.put, aT, aZ, aS]
      go_wp2_with fail
      refine (xrsign_any (N := N) _ _ _ _ _ _ _ L (q k) _ (by have := HS.out.2; omega) (HR.out.below HS.out.1) (by omega)).mono ?_
      rw [HSG.out]
      rintro e wn ⟨rfl, hb⟩
      have Hb := Lib.hid hb
      clear hb
      go_wp2_with fail
      exact ⟨u13, u14, u15, .agg #[.bool sk, .slice ra rn rc, .slice da dn dc], .int .i64 σ, u18, u19, u20, u21, u22, u23, u24, u25, u26, u27, by simp only [Act.put, aT, aZ, aS], HS.out.below Hb.out, PvA, PvA, PvA, PvA, (fun _ => rfl), PvR⟩
     ·simp only [gT, gZ, gS, Option.some.injEq] at ho
      subst ho
      obtain rfl := P4.out (hafter ⟨4, .data⟩ (by simp) rfl)
      clear hLi hafter
      simp only [Act.put, aT, aZ, aS]
      go_wp2_with fail
      exact ⟨u13, u14, u15, u16, .int .i64 σ, .bool true, u19, u20, u21, u22, u23, u24, u25, u26, u27, by simp only [Act.put, aT, aZ, aS], HS.out, PvA, PvA, PvA, PvA, PvA, (fun _ => rfl), PvR⟩
     ·simp only [gT, gZ, gS, Option.some.injEq] at ho
      subst ho
      obtain rfl := P5.out (hafter ⟨5, .data⟩ (by simp) rfl)
      clear hLi hafter
      simp only [Act.put, aT, aZ, aS]
      go_wp2_with fail
      exact ⟨u13, u14, u15, u16, u17, .bool true, .bool true, u20, u21, u22, u23, u24, u25, u26, u27, by simp only [Act.put, aT, aZ, aS], HS.out, PvA, PvA, PvA, PvA, PvA, PvA, (fun _ => rfl), PvA⟩
     ·simp only [gT, gZ, gS, Option.some.injEq] at ho
      subst ho
      obtain rfl := P6.out (hafter ⟨6, .guard⟩ (by simp) rfl)
      clear hLi hafter
      simp only [Act.put, aT, aZ, aS]
      go_wp2_with fail
      exact ⟨u13, u14, u15, u16, u17, u18, .bool true, undef, u21, u22, u23, u24, u25, u26, u27, by simp only [Act.put, aT, aZ, aS], HS.out, PvR⟩
     ·simp only [gT, gZ, gS, Option.some.injEq] at ho
      subst ho
      obtain rfl := P6.out (hafter ⟨6, .guard⟩ (by simp) rfl)
      clear hLi hafter
      simp only [Act.put, aT, aZ, aS]
      go_wp2_with fail
      exact ⟨u13, u14, u15, u16, u17, u18, .bool true, u20, undef, u22, u23, u24, u25, u26, u27, by simp only [Act.put, aT, aZ, aS], HS.out, PvR⟩
     ·simp only [gT, gZ, gS, Option.some.injEq] at ho
      subst ho
      obtain rfl := P6.out (hafter ⟨6, .guard⟩ (by simp) rfl)
      clear hLi hafter
      simp only [Act.put, aT, aZ, aS]
      go_wp2_with fail
      exact ⟨u13, u14, u15, u16, u17, u18, .bool true, u20, u21, undef, u23, u24, u25, u26, u27, by simp only [Act.put, aT, aZ, aS], HS.out, PvR⟩
     ·simp only [gT, gZ, gS, Option.some.injEq] at ho
      subst ho
      obtain rfl := P6.out (hafter ⟨6, .guard⟩ (by simp) rfl)
      clear hLi hafter
      simp only [Act.put, aT, aZ, aS]
      go_wp2_with fail
      exact ⟨u13, u14, u15, u16, u17, u18, .bool true, u20, u21, u22, undef, u24, u25, u26, u27, by simp only [Act.put, aT, aZ, aS], HS.out, PvR⟩
     ·simp only [gT, gZ, gS, Option.some.injEq] at ho
      subst ho
      obtain rfl := P6.out (hafter ⟨6, .guard⟩ (by simp) rfl)
      clear hLi hafter
      simp only [Act.put, aT, aZ, aS]
      go_wp2_with fail
      exact ⟨u13, u14, u15, u16, u17, u18, .bool true, u20, u21, u22, u23, undef, u25, u26, u27, by simp only [Act.put, aT, aZ, aS], HS.out, PvR⟩
     ·simp only [gT, gZ, gS, Option.some.injEq] at ho
      subst ho
      obtain rfl := P6.out (hafter ⟨6, .guard⟩ (by simp) rfl)
      clear hLi hafter
      simp only [Act.put, aT, aZ, aS]
      go_wp2_with fail
      exact ⟨u13, u14, u15, u16, u17, u18, .bool true, u20, u21, u22, u23, u24, undef, u26, u27, by simp only [Act.put, aT, aZ, aS], HS.out, PvR⟩
     ·simp only [gT, gZ, gS, Option.some.injEq] at ho
      subst ho
      obtain rfl := P6.out (hafter ⟨6, .guard⟩ (by simp) rfl)
      clear hLi hafter
      simp only [Act.put, aT, aZ, aS]
      go_wp2_with fail
      exact ⟨u13, u14, u15, u16, u17, u18, .bool true, u20, u21, u22, u23, u24, u25, undef, u27, by simp only [Act.put, aT, aZ, aS], HS.out, PvR⟩
     ·simp only [gT, gZ, gS, Option.some.injEq] at ho
      subst ho
      obtain rfl := P6.out (hafter ⟨6, .data⟩ (by simp) rfl)
      clear hLi hafter
      simp only [Act.put, aT, aZ, aS]
      go_wp2_with fail
      exact ⟨u13, u14, u15, u16, u17, u18, .bool true, u20, u21, u22, u23, u24, u25, u26, .bool true, by simp only [Act.put, aT, aZ, aS], HS.out, PvA, PvA, PvA, PvA, PvA, PvA, PvA, (fun _ => rfl)⟩
    ·intro Ls a0 wq hall hJ
     obtain ⟨u13, u14, u15, u16, u17, u18, u19, u20, u21, u22, u23, u24, u25, u26, u27, rfl, hS, p0, p1, p2, p3, p4, p5, p6, p14⟩ := hJ
     replace p0 := p0 (hall 0 (by decide))
     replace p1 := p1 (hall 1 (by decide))
     replace p2 := p2 (hall 2 (by decide))
     replace p3 := p3 (hall 3 (by decide))
     replace p4 := p4 (hall 4 (by decide))
     replace p5 := p5 (hall 5 (by decide))
     replace p6 := p6 (hall 6 (by decide))
     replace p14 := p14 (hall 14 (by decide))
     subst p14
     have HS := Lib.hid hS
     clear hS p0 p1 p2 p3 p4 p5 p6
     simp only [Act.put, aT, aZ, aS]
     go_wp2_with fail
     go_ret
     exact ⟨by rw [ec]; rfl, HB.out.trans (HS.out.1.mono hs0)⟩
   ·have h1 : 0 ≤ q k := by grind
    by_cases h2 : 1 < q k
    ·have d1 : decide (0 < κ) = true := by rw [← hκ, HE1.out]; exact cmp_gtF _ _ _ (decide_eq_true h2)
     have d0 : decide (σ < 0) = false := by rw [← hσ]; exact sgn_ge2 _ h1
     have ec : c = 3 := by rw [← HCC.out, if_neg (fun hh => by have := hh k hkn; unfold prb at this; rw [decide_eq_true_eq] at this; grind)]
     clear hσ hκ h0 h1 h2
     go_wp2_with fail
     go_region_held3 (fun w' => w'.cell? ⟨b, off + k * 3, none⟩ = some (.bool sk) ∧ w'.cell? ⟨b, off + k * 3 + 1, none⟩ = some (.slice ra rn rc) ∧ w'.cell? ⟨b, off + k * 3 + 2, none⟩ = some (.slice da dn dc))
      (first | (go_keep; done) | ((try dsimp only); (repeat' apply And.intro) <;> (first | (go_keep; done) | (exact cell_keep_alloc_drew (by first | omega | (simp; omega)) (by first | assumption | go_simp)) | (exact cell_keep_alloc (by first | omega | (simp; omega)) (by first | assumption | go_simp)) | (rw [cell_set2 _ _ _ _ _ _ _ _ (by omega)]; assumption) | (rw [cell_set3 _ _ _ _ _ _ _ _ _ _ (by omega)]; assumption))))
      (first
       | (go_at_call 58; refine (xrsign_any (N := N) _ _ _ _ _ _ _ L (q k) _ (by exact hN) (by exact HR.out) (by omega)).mono ?_; rw [HSG.out]; rintro e wb ⟨rfl, hb⟩; replace hb : Below wr.heap.size wr wb := (by first | exact hb | exact bel_of_drew hb); have g0' : wb.cell? ⟨b, off + k * 3, none⟩ = some (.bool sk) := (hb.cell (p := ⟨b, off + k * 3, none⟩) hlb).trans g0; have g1' : wb.cell? ⟨b, off + k * 3 + 1, none⟩ = some (.slice ra rn rc) := (hb.cell (p := ⟨b, off + k * 3 + 1, none⟩) hlb).trans g1; have g2' : wb.cell? ⟨b, off + k * 3 + 2, none⟩ = some (.slice da dn dc) := (hb.cell (p := ⟨b, off + k * 3 + 2, none⟩) hlb).trans g2; have hlb' : b < wb.heap.size := Nat.lt_of_lt_of_le hlb hb.size; clear g0 g1 g2 hlb; have g0 := g0'; have g1 := g1'; have g2 := g2'; have hlb := hlb'; clear g0' g1' g2' hlb'; have hs_wb : wr.heap.size ≤ wb.heap.size := hb.size; replace HR := Lib.hid (HR.out.below hb); replace HB := Lib.hid (HB.out.trans (hb.mono hs0)); replace hN : N ≤ wb.heap.size := Nat.le_trans hN hb.size; replace hs0 : w.heap.size ≤ wb.heap.size := Nat.le_trans hs0 hb.size; clear hb; skip)
       | (go_at_call 13; refine (xwhole_any (N := N) 1 _ (by exact hN) (by omega) (by omega) p1 HP1.out).mono ?_; rintro e wc ⟨ro, co, ro2, co2, rfl, hn, hn', hb⟩; replace hb : Below wb.heap.size wb wc := (by first | exact hb | exact bel_of_drew hb); have g0' : wc.cell? ⟨b, off + k * 3, none⟩ = some (.bool sk) := (hb.cell (p := ⟨b, off + k * 3, none⟩) hlb).trans g0; have g1' : wc.cell? ⟨b, off + k * 3 + 1, none⟩ = some (.slice ra rn rc) := (hb.cell (p := ⟨b, off + k * 3 + 1, none⟩) hlb).trans g1; have g2' : wc.cell? ⟨b, off + k * 3 + 2, none⟩ = some (.slice da dn dc) := (hb.cell (p := ⟨b, off + k * 3 + 2, none⟩) hlb).trans g2; have hlb' : b < wc.heap.size := Nat.lt_of_lt_of_le hlb hb.size; clear g0 g1 g2 hlb; have g0 := g0'; have g1 := g1'; have g2 := g2'; have hlb := hlb'; clear g0' g1' g2' hlb'; have hs_wc : wb.heap.size ≤ wc.heap.size := hb.size; replace HR := Lib.hid (HR.out.below hb); replace HB := Lib.hid (HB.out.trans (hb.mono hs0)); replace hN : N ≤ wc.heap.size := Nat.le_trans hN hb.size; replace hs0 : w.heap.size ≤ wc.heap.size := Nat.le_trans hs0 hb.size; clear hb; have HO1 := Lib.hid hn; clear hn; have HO2 := Lib.hid hn'; clear hn'; skip)
       | (go_at_call 34; refine (xrcmp_any (N := N) _ _ _ _ _ _ _ _ _ _ _ _ _ _ L 1 (q k) p1 _ (by exact hN) (by exact HR.out) (by exact Rt.of_norm HO1.out HO2.out 1 HZ1.out) (by omega) (by omega)).mono ?_; rw [HK.out]; rintro e wd ⟨rfl, hb⟩; replace hb : Below wc.heap.size wc wd := (by first | exact hb | exact bel_of_drew hb); have g0' : wd.cell? ⟨b, off + k * 3, none⟩ = some (.bool sk) := (hb.cell (p := ⟨b, off + k * 3, none⟩) hlb).trans g0; have g1' : wd.cell? ⟨b, off + k * 3 + 1, none⟩ = some (.slice ra rn rc) := (hb.cell (p := ⟨b, off + k * 3 + 1, none⟩) hlb).trans g1; have g2' : wd.cell? ⟨b, off + k * 3 + 2, none⟩ = some (.slice da dn dc) := (hb.cell (p := ⟨b, off + k * 3 + 2, none⟩) hlb).trans g2; have hlb' : b < wd.heap.size := Nat.lt_of_lt_of_le hlb hb.size; clear g0 g1 g2 hlb; have g0 := g0'; have g1 := g1'; have g2 := g2'; have hlb := hlb'; clear g0' g1' g2' hlb'; have hs_wd : wc.heap.size ≤ wd.heap.size := hb.size; replace HR := Lib.hid (HR.out.below hb); replace HO1 := Lib.hid (HO1.out.below hb); replace HO2 := Lib.hid (HO2.out.below hb); replace HB := Lib.hid (HB.out.trans (hb.mono hs0)); replace hN : N ≤ wd.heap.size := Nat.le_trans hN hb.size; replace hs0 : w.heap.size ≤ wd.heap.size := Nat.le_trans hs0 hb.size; clear hb; skip))
     go_wp2_with fail
     go_ret
     exact ⟨by rw [ec]; rfl, HB.out⟩
    ·have d1 : decide (0 < κ) = false := by rw [← hκ, HE1.out]; exact cmp_gtF _ _ _ (decide_eq_false h2)
     have d0 : decide (σ < 0) = false := by rw [← hσ]; exact sgn_ge2 _ h1
     have HPB := Lib.hid (show prb (q k) = true by unfold prb; exact decide_eq_true ⟨h1, by grind⟩)
     clear hσ hκ h0 h1 h2
     go_wp2_with fail
     go_region_held3 (fun w' => w'.cell? ⟨b, off + k * 3, none⟩ = some (.bool sk) ∧ w'.cell? ⟨b, off + k * 3 + 1, none⟩ = some (.slice ra rn rc) ∧ w'.cell? ⟨b, off + k * 3 + 2, none⟩ = some (.slice da dn dc))
      (first | (go_keep; done) | ((try dsimp only); (repeat' apply And.intro) <;> (first | (go_keep; done) | (exact cell_keep_alloc_drew (by first | omega | (simp; omega)) (by first | assumption | go_simp)) | (exact cell_keep_alloc (by first | omega | (simp; omega)) (by first | assumption | go_simp)) | (rw [cell_set2 _ _ _ _ _ _ _ _ (by omega)]; assumption) | (rw [cell_set3 _ _ _ _ _ _ _ _ _ _ (by omega)]; assumption))))
      (first
       | (go_at_call 58; refine (xrsign_any (N := N) _ _ _ _ _ _ _ L (q k) _ (by exact hN) (by exact HR.out) (by omega)).mono ?_; rw [HSG.out]; rintro e wb ⟨rfl, hb⟩; replace hb : Below wr.heap.size wr wb := (by first | exact hb | exact bel_of_drew hb); have g0' : wb.cell? ⟨b, off + k * 3, none⟩ = some (.bool sk) := (hb.cell (p := ⟨b, off + k * 3, none⟩) hlb).trans g0; have g1' : wb.cell? ⟨b, off + k * 3 + 1, none⟩ = some (.slice ra rn rc) := (hb.cell (p := ⟨b, off + k * 3 + 1, none⟩) hlb).trans g1; have g2' : wb.cell? ⟨b, off + k * 3 + 2, none⟩ = some (.slice da dn dc) := (hb.cell (p := ⟨b, off + k * 3 + 2, none⟩) hlb).trans g2; have hlb' : b < wb.heap.size := Nat.lt_of_lt_of_le hlb hb.size; clear g0 g1 g2 hlb; have g0 := g0'; have g1 := g1'; have g2 := g2'; have hlb := hlb'; clear g0' g1' g2' hlb'; have hs_wb : wr.heap.size ≤ wb.heap.size := hb.size; replace HR := Lib.hid (HR.out.below hb); replace HB := Lib.hid (HB.out.trans (hb.mono hs0)); replace hN : N ≤ wb.heap.size := Nat.le_trans hN hb.size; replace hs0 : w.heap.size ≤ wb.heap.size := Nat.le_trans hs0 hb.size; clear hb; skip)
       | (go_at_call 13; refine (xwhole_any (N := N) 1 _ (by exact hN) (by omega) (by omega) p1 HP1.out).mono ?_; rintro e wc ⟨ro, co, ro2, co2, rfl, hn, hn', hb⟩; replace hb : Below wb.heap.size wb wc := (by first | exact hb | exact bel_of_drew hb); have g0' : wc.cell? ⟨b, off + k * 3, none⟩ = some (.bool sk) := (hb.cell (p := ⟨b, off + k * 3, none⟩) hlb).trans g0; have g1' : wc.cell? ⟨b, off + k * 3 + 1, none⟩ = some (.slice ra rn rc) := (hb.cell (p := ⟨b, off + k * 3 + 1, none⟩) hlb).trans g1; have g2' : wc.cell? ⟨b, off + k * 3 + 2, none⟩ = some (.slice da dn dc) := (hb.cell (p := ⟨b, off + k * 3 + 2, none⟩) hlb).trans g2; have hlb' : b < wc.heap.size := Nat.lt_of_lt_of_le hlb hb.size; clear g0 g1 g2 hlb; have g0 := g0'; have g1 := g1'; have g2 := g2'; have hlb := hlb'; clear g0' g1' g2' hlb'; have hs_wc : wb.heap.size ≤ wc.heap.size := hb.size; replace HR := Lib.hid (HR.out.below hb); replace HB := Lib.hid (HB.out.trans (hb.mono hs0)); replace hN : N ≤ wc.heap.size := Nat.le_trans hN hb.size; replace hs0 : w.heap.size ≤ wc.heap.size := Nat.le_trans hs0 hb.size; clear hb; have HO1 := Lib.hid hn; clear hn; have HO2 := Lib.hid hn'; clear hn'; skip)
       | (go_at_call 34; refine (xrcmp_any (N := N) _ _ _ _ _ _ _ _ _ _ _ _ _ _ L 1 (q k) p1 _ (by exact hN) (by exact HR.out) (by exact Rt.of_norm HO1.out HO2.out 1 HZ1.out) (by omega) (by omega)).mono ?_; rw [HK.out]; rintro e wd ⟨rfl, hb⟩; replace hb : Below wc.heap.size wc wd := (by first | exact hb | exact bel_of_drew hb); have g0' : wd.cell? ⟨b, off + k * 3, none⟩ = some (.bool sk) := (hb.cell (p := ⟨b, off + k * 3, none⟩) hlb).trans g0; have g1' : wd.cell? ⟨b, off + k * 3 + 1, none⟩ = some (.slice ra rn rc) := (hb.cell (p := ⟨b, off + k * 3 + 1, none⟩) hlb).trans g1; have g2' : wd.cell? ⟨b, off + k * 3 + 2, none⟩ = some (.slice da dn dc) := (hb.cell (p := ⟨b, off + k * 3 + 2, none⟩) hlb).trans g2; have hlb' : b < wd.heap.size := Nat.lt_of_lt_of_le hlb hb.size; clear g0 g1 g2 hlb; have g0 := g0'; have g1 := g1'; have g2 := g2'; have hlb := hlb'; clear g0' g1' g2' hlb'; have hs_wd : wc.heap.size ≤ wd.heap.size := hb.size; replace HR := Lib.hid (HR.out.below hb); replace HO1 := Lib.hid (HO1.out.below hb); replace HO2 := Lib.hid (HO2.out.below hb); replace HB := Lib.hid (HB.out.trans (hb.mono hs0)); replace hN : N ≤ wd.heap.size := Nat.le_trans hN hb.size; replace hs0 : w.heap.size ≤ wd.heap.size := Nat.le_trans hs0 hb.size; clear hb; skip))
     go_wp2_with fail
     go_roundw
     case rel => exact ⟨k + 1, by omega, by go_num, all_succ hin.out HPB.out, HB.out⟩
     case measure => simp [intOf]; omega
  ·obtain rfl : n = k := by omega
   go_wp2_with fail
   have ec : c = 0 := by rw [← HCC.out, if_pos hin.out]
   go_ret
   exact ⟨by rw [ec]; rfl, HB.out⟩
theorem Tryz.underTabQ : Tryz.prog.underlying 89 = some (.slice 38) := by kernel_rfl
theorem Tryz.infoRowQ : (Tryz.prog.info? 38).map (fun i => (i.zero, i.size, i.bytes)) = some (some (.slice none 0 0), 1, 24) := by kernel_rfl
def TabQPost (N : Nat) (w : World) (n m : Nat) (x : Nat → Nat → Rat) (e : Ending) (w' : World) : Prop :=
 ∃ g cap β κ, e = .returned (.slice (some ⟨g, 0, none⟩) n cap) ∧ n ≤ cap ∧ cap ≤ maxLen ∧ w.heap.size ≤ g ∧ (∀ j, j < n → w.heap.size ≤ β j) ∧ Tq N w' g n m β κ x ∧ Below w.heap.size w w'
set_option maxHeartbeats 4000000 in
theorem xtable_any {N : Nat} (n m : Nat) (w : World) (hN : N ≤ w.heap.size) (hn0 : 0 < n) (hm : 0 < m) (hn : n ≤ 1000) (hm2 : m ≤ 1000) :
  Calls Tryz.prog 64 #[.int .i64 n, .int .i64 m] w (TabQPost N w n m (fun _ _ => 0)) := by
 have hN0 := hN
 obtain ⟨p0, hp0⟩ : ∃ p : Rat, (((0 : Int) : Rat)) / ((1 : Int) : Rat) = p := ⟨_, rfl⟩
 have hp2 : p0 = 0 := by rw [← hp0]; decide +kernel
 have HP0 := Lib.hid hp0
 have HE0 := Lib.hid hp2
 clear hp0 hp2
 obtain ⟨i0, hi, hz0, hz1, hz2⟩ := info_parts Tryz.infoRat
 obtain ⟨i1, hi1, hy0, hy1, hy2⟩ := info_parts Tryz.infoRowQ
 have hnz : (0 : Int) ≤ (n : Int) := by omega
 go_enter Tryz.func64, Tryz.ntmps64
 go_wp2_with fail
 go_loopw [5, 6] (fun t i wr => ∃ (c : Nat) (β κ : Nat → Nat), c ≤ n ∧ i = .int .i64 c ∧ Hid (TG N w m c β κ (fun _ => p0) t wr)) (fun _ i _ => n - (intOf i).toNat)
 case atStart => exact ⟨0, fun _ => 0, fun _ => 0, Nat.zero_le _, rfl, Lib.hid (TG.start _ _ _ _ _ _)⟩
 case round =>
  obtain ⟨c, β, κ, hc, rfl, HT⟩ := hrel
  obtain ⟨wo, rfl⟩ : ∃ x : World, x = wr := ⟨_, rfl⟩
  have hwo : w.heap.size ≤ wo.heap.size := HT.out.bel.size
  by_cases hcn : c < n
  ·have hcz : (c : Int) < (n : Int) := by omega
   have HB := Lib.hid (Below.refl wo.heap.size wo)
   go_wp2_with fail
   go_loopw [7, 8] (fun l j wr => ∃ k : Nat, k ≤ m ∧ j = .int .i64 k ∧ Ol N wo.heap.size wr l k (fun _ => p0) ∧ Below wo.heap.size wo wr) (fun _ j _ => m - (intOf j).toNat)
   case atStart => exact ⟨0, Nat.zero_le _, rfl, Ol.nil _ _ _ _, Below.refl _ _⟩
   case round =>
    obtain ⟨k, hk, rfl, hol, hbel⟩ := hrel
    obtain ⟨wi, rfl⟩ : ∃ x : World, x = wr := ⟨_, rfl⟩
    clear HB
    have HOL := Lib.hid hol
    have HB := Lib.hid hbel
    have hs0 : wo.heap.size ≤ wi.heap.size := hbel.size
    have hN : N ≤ wi.heap.size := by omega
    clear hol hbel
    by_cases hkm : k < m
    ·have hkz : (k : Int) < (m : Int) := by omega
     go_wp2_with fail
     refine calls_name fun W3 hW => ?_
     have hs_W3 : wi.heap.size ≤ W3.heap.size := by rw [← hW]; exact OmT
     have HL_W3 := Lib.hid (show Below wi.heap.size wi W3 by rw [← hW]; exact BlA)
     replace HB := Lib.hid (show Below wo.heap.size wo W3 by rw [← hW]; exact BlA)
     replace hN : N ≤ W3.heap.size := by rw [← hW]; exact OmT
     replace hs0 : wo.heap.size ≤ W3.heap.size := by rw [← hW]; exact OmT
     replace HOL := Lib.hid (HOL.out.below HL_W3.out)
     clear HL_W3
     clear hW
     refine (xwhole_any (N := N) 0 _ hN (by omega) (by omega) p0 HP0.out).mono ?_
     rintro e we ⟨rp, cp, rp2, cp2, rfl, hn, hn', hb⟩
     have hs_we : W3.heap.size ≤ we.heap.size := hb.size
     replace HB := Lib.hid (HB.out.trans (hb.mono hs0))
     replace hN : N ≤ we.heap.size := Nat.le_trans hN hb.size
     replace hs0 : wo.heap.size ≤ we.heap.size := Nat.le_trans hs0 hb.size
     replace HOL := Lib.hid (HOL.out.below hb)
     clear hb
     have HP1 := Lib.hid hn
     clear hn
     have HP2 := Lib.hid hn'
     clear hn'
     obtain ⟨xs, hown, hcl⟩ := HOL.out
     have HO := Lib.hid hown
     have HC := Lib.hid hcl
     clear hown hcl
     go_wp2_with (at_builtin; refine wpList_append_own_at _ rfl (.tmp 19) (.tmp 21) 38 rfl wo.heap.size 29 i0 (.agg #[.bool false, .slice none 0 0, .slice none 0 0]) 3 56 Tryz.underRats hi hz0 hz1 hz2 rfl (by decide) _ k xs rfl (HO.out.alloc _) ⟨we.heap.size, 0, none⟩ 1 1 [.bool (decide ((p0).num < 0)), .slice rp (nlen (p0).num.natAbs) cp, .slice rp2 (nlen (p0).den) cp2] rfl rfl (cell_three we _ _ _ _) (by intro u hu; simp at hu; rcases hu with rfl | rfl | rfl <;> rfl) (by unfold maxLen; omega) (by omega) (by simp; omega) ?_; intro v1 w1 ho1 hg1 _ _; have KP1 := Lib.hid ((Kp.refl N we).alloc (.cells #[.bool (decide ((p0).num < 0)), .slice rp (nlen (p0).num.natAbs) cp, .slice rp2 (nlen (p0).den) cp2] 29) |>.trans (own_kp (HO.out.alloc _) (by omega) hg1)); have HB1 := Lib.hid (own_bel (HO.out.alloc _) (HB.out.alloc hs0 _) (by simp; omega) hg1); have HO1 := Lib.hid ho1; have HC1 := Lib.hid (Cl.push (HC.out.imp fun i v0 v1 v2 _ e => e.keep KP1.out) (show En N w1 (fun _ => p0) k _ _ _ from ⟨_, _, _, _, rfl, rfl, rfl, HP1.out.keep KP1.out, HP2.out.keep KP1.out⟩)); clear ho1 hg1)
     go_roundw
     case rel => exact ⟨k + 1, by omega, by go_num, ⟨_, HO1.out, HC1.out⟩, HB1.out⟩
     case measure => simp [intOf]; omega
    ·obtain rfl : m = k := by omega
     obtain ⟨g, cap, rfl, hg0, hg1, hcap, hcm, hrl⟩ := HOL.out.row hm
     have HRL := Lib.hid hrl
     have HT2 := Lib.hid (HT.out.below HB.out)
     clear hrl HOL
     go_wp2_with (at_builtin; refine wpList_append_own_at _ rfl (.tmp 23) (.tmp 25) 89 rfl w.heap.size 38 i1 (.slice none 0 0) 1 24 Tryz.underTabQ hi1 hy0 hy1 hy2 rfl (by decide) _ c (rwq β κ m c) rfl (HT2.out.own.alloc _) ⟨wi.heap.size, 0, none⟩ 1 1 [.slice (some ⟨g, 0, none⟩) m cap] (by first | rfl | simp) rfl (cell_one_new _ _ _) (by intro u hu; simp at hu; subst hu; rfl) (by unfold maxLen; omega) (by omega) (by simp; omega) ?_; intro v2 w2 hm2 hg2 _ hat2; have HT3 := Lib.hid (HT2.out.step (by omega) HRL.out hcap (fun j hj => (HT.out.row j hj).lt) (fun x hx => (HT.out.own.lt x hx).2) hwo hg0 hm2 hg2 hat2); clear hm2 hg2 hat2)
     go_roundw
     case rel => exact ⟨c + 1, _, _, by omega, by go_num, HT3⟩
     case measure => simp [intOf]; omega
  ·obtain rfl : c = n := by omega
   obtain ⟨g, cap, rfl, h1, h2, h3, h4⟩ := HT.out.open (by omega)
   have HG := Lib.hid (And.intro h1 (And.intro h2 (And.intro h3 h4)))
   clear h1 h2 h3 h4
   go_wp2_with fail
   go_ret
   exact ⟨g, cap, β, κ, rfl, HG.out.1, HG.out.2.1, HG.out.2.2.1, HT.out.lo, HG.out.2.2.2.congr (fun r _ d _ => HE0.out), HT.out.bel⟩
theorem uppT_rsz (q : Nat → Rat) (L k i : Nat) (h : rsz (q i) ≤ L) : rsz (if k ≤ i then q i else 0) ≤ L := by
 by_cases hh : k ≤ i
 ·rw [if_pos hh]; exact h
 ·rw [if_neg hh]
  have h4 : rsz (0 : Rat) ≤ 1 := by decide +kernel
  have h5 := rsz_pos (q i)
  omega
theorem upp_sum (q : Nat → Rat) (k : Nat) : ∀ n, sQ (fun i => if k ≤ i then q i else 0) n = upQ q n k
 | 0 => by unfold upQ; rw [Nat.zero_sub]; rfl
 | n + 1 => by
  show sQ _ n + (if k ≤ n then q n else 0) = _
  rw [upp_sum q k n]
  unfold upQ
  by_cases h : k ≤ n
  ·rw [if_pos h, show n + 1 - k = (n - k) + 1 by omega]
   show _ = sQ _ (n - k) + q (k + (n - k))
   rw [show k + (n - k) = n by omega]
  ·rw [if_neg h, show n + 1 - k = 0 by omega, show n - k = 0 by omega]
   exact Rat.add_zero _
def UppJ (N g : Nat) (ps pn : Rat) (rs rs2 : Option Addr) (cs cs2 : Nat) (s' : Bool) (ra da : Option Addr) (rnn rc dn dc b0 o0 n cap j : Nat) (W : World) (z0 : Act) (L : Nat → Bool) (z1 : Act) (w : World) : Prop :=
 ∃ u22 u23 u24 u25 u26 u27, z1 = ((((((z0.put (some 22) u22).put (some 23) u23).put (some 24) u24).put (some 25) u25).put (some 26) u26).put (some 27) u27) ∧
  ((L 6 = false ∧ Since W w ∧ (L 0 = true → u22 = .agg #[.bool (decide ((ps).num < 0)), .slice rs (nlen (ps).num.natAbs) cs, .slice rs2 (nlen (ps).den) cs2]) ∧ (L 1 = true → u23 = .slice (some ⟨b0, o0, none⟩) n cap) ∧ (L 2 = true → u24 = .int .i64 j) ∧ (L 3 = true → u25 = .pointer (some ⟨b0, o0 + j * 3, none⟩)) ∧ (L 4 = true → u26 = .agg #[.bool s', .slice ra rnn rc, .slice da dn dc]) ∧ (L 5 = true → IsRat N pn u27 w)) ∨
  (L 6 = true ∧ (∀ j, j < 6 → L j = true) ∧ CutSet N W g pn w))
set_option maxHeartbeats 8000000 in
theorem xUpper_ok {N : Nat} (a : Option Addr) (n cap : Nat) (q : Nat → Rat) (L : Nat) (w : World) (hN : N ≤ w.heap.size) (h : Rs N w a n cap q L) (hL : L ≤ 2097152) (hv : valid q n = true) (k : Nat) (p : Rat) (hp : upQ q n k = p) : Calls Tryz.prog 37 #[.slice a n cap, .int .i64 k] w (RatOk N w p) := by
 have hn121 := (valid_iff.1 hv).2.1
 obtain ⟨p0, hp0⟩ : ∃ p : Rat, ((0 : Nat) : Rat) = p := ⟨_, rfl⟩
 have HE0 := Lib.hid (show sQ (fun i => if k ≤ i then q i else 0) 0 = p0 from (natQ_zero p0 hp0).symm)
 have HP0 := Lib.hid hp0
 have HP := Lib.hid ((upp_sum q k n).trans hp)
 have HV := Lib.hid hv
 have HLim := Lib.hid h.lim
 clear hp0 hp hv
 have hN0 := hN
 have HA := Lib.hid h
 have bc1 := h.1
 have bc2 := h.2.1
 unfold maxLen at bc2
 clear h
 have HB := Lib.hid (Below.refl w.heap.size w)
 go_enter Tryz.func37, Tryz.ntmps37
 go_wp2_with fail
 refine calls_name fun W0 hW => ?_
 have hs_W0 : w.heap.size ≤ W0.heap.size := by rw [← hW]; exact OmT
 have k_R_0 : W0.cell? ⟨w.heap.size, 0, none⟩ = some (.bool false) := by rw [← hW]; exact CeA
 have k_R_1 : W0.cell? ⟨w.heap.size, 1, none⟩ = some (.slice none 0 0) := by rw [← hW]; exact CeA
 have k_R_2 : W0.cell? ⟨w.heap.size, 2, none⟩ = some (.slice none 0 0) := by rw [← hW]; exact CeA
 have f_R : ∀ o, W0.frozen? ⟨w.heap.size, o, none⟩ = false := by intro o; rw [← hW]; exact CeA
 have HX_R := Lib.hid (show Bn W0 (w.heap.size) by rw [← hW]; exact KpA)
 replace HB := Lib.hid (show Below w.heap.size w W0 by rw [← hW]; exact BlA)
 replace hN : N ≤ W0.heap.size := by rw [← hW]; exact OmT
 have hs0 : w.heap.size ≤ W0.heap.size := by rw [← hW]; exact OmT
 have hl_R : w.heap.size < W0.heap.size := by rw [← hW]; exact OmT
 clear hW
 refine (xvalid_any (N := N) _ n _ q L _ hN (HA.out.below HB.out) hL true HV.out).mono ?_
 rintro e wa ⟨rfl, hb⟩
 have hs_wa : W0.heap.size ≤ wa.heap.size := hb.size
 replace k_R_0 : wa.cell? ⟨w.heap.size, 0, none⟩ = some (.bool false) := (hb.cell (p := ⟨w.heap.size, 0, none⟩) hl_R).trans k_R_0
 replace k_R_1 : wa.cell? ⟨w.heap.size, 1, none⟩ = some (.slice none 0 0) := (hb.cell (p := ⟨w.heap.size, 1, none⟩) hl_R).trans k_R_1
 replace k_R_2 : wa.cell? ⟨w.heap.size, 2, none⟩ = some (.slice none 0 0) := (hb.cell (p := ⟨w.heap.size, 2, none⟩) hl_R).trans k_R_2
 replace f_R : ∀ o, wa.frozen? ⟨w.heap.size, o, none⟩ = false := fun o => (hb.frozen (p := ⟨w.heap.size, o, none⟩) hl_R).trans (f_R o)
 replace HX_R := Lib.hid (HX_R.out.below hb)
 replace HB := Lib.hid (HB.out.trans (hb.mono hs0))
 replace hN : N ≤ wa.heap.size := Nat.le_trans hN hb.size
 replace hs0 : w.heap.size ≤ wa.heap.size := Nat.le_trans hs0 hb.size
 replace hl_R : w.heap.size < wa.heap.size := Nat.lt_of_lt_of_le hl_R hb.size
 clear hb
 go_wp2_with fail
 refine calls_name fun W1 hW => ?_
 have HL_W1 := Lib.hid (show Below wa.heap.size wa W1 by rw [← hW]; exact BlA)
 have hs_W1 : wa.heap.size ≤ W1.heap.size := by rw [← hW]; exact OmT
 replace k_R_0 : W1.cell? ⟨w.heap.size, 0, none⟩ = some (.bool false) := (HL_W1.out.cell (p := ⟨w.heap.size, 0, none⟩) hl_R).trans k_R_0
 replace k_R_1 : W1.cell? ⟨w.heap.size, 1, none⟩ = some (.slice none 0 0) := (HL_W1.out.cell (p := ⟨w.heap.size, 1, none⟩) hl_R).trans k_R_1
 replace k_R_2 : W1.cell? ⟨w.heap.size, 2, none⟩ = some (.slice none 0 0) := (HL_W1.out.cell (p := ⟨w.heap.size, 2, none⟩) hl_R).trans k_R_2
 replace f_R : ∀ o, W1.frozen? ⟨w.heap.size, o, none⟩ = false := fun o => (HL_W1.out.frozen (p := ⟨w.heap.size, o, none⟩) hl_R).trans (f_R o)
 replace HX_R := Lib.hid (show Bn W1 (w.heap.size) by rw [← hW]; exact KpA)
 replace HB := Lib.hid (show Below w.heap.size w W1 by rw [← hW]; exact BlA)
 replace hN : N ≤ W1.heap.size := by rw [← hW]; exact OmT
 replace hs0 : w.heap.size ≤ W1.heap.size := by rw [← hW]; exact OmT
 replace hl_R : w.heap.size < W1.heap.size := by rw [← hW]; exact OmT
 clear HL_W1
 clear hW
 refine (Whole_z (N := N) 0 0 rfl _ hN (by omega) p0 HP0.out).mono ?_
 rintro e wb ⟨rz, cz, rz2, cz2, rfl, hn, hn', hb⟩
 have hs_wb : W1.heap.size ≤ wb.heap.size := hb.size
 replace k_R_0 : wb.cell? ⟨w.heap.size, 0, none⟩ = some (.bool false) := (hb.cell (p := ⟨w.heap.size, 0, none⟩) hl_R).trans k_R_0
 replace k_R_1 : wb.cell? ⟨w.heap.size, 1, none⟩ = some (.slice none 0 0) := (hb.cell (p := ⟨w.heap.size, 1, none⟩) hl_R).trans k_R_1
 replace k_R_2 : wb.cell? ⟨w.heap.size, 2, none⟩ = some (.slice none 0 0) := (hb.cell (p := ⟨w.heap.size, 2, none⟩) hl_R).trans k_R_2
 replace f_R : ∀ o, wb.frozen? ⟨w.heap.size, o, none⟩ = false := fun o => (hb.frozen (p := ⟨w.heap.size, o, none⟩) hl_R).trans (f_R o)
 replace HX_R := Lib.hid (HX_R.out.below hb)
 replace HB := Lib.hid (HB.out.trans (hb.mono hs0))
 replace hN : N ≤ wb.heap.size := Nat.le_trans hN hb.size
 replace hs0 : w.heap.size ≤ wb.heap.size := Nat.le_trans hs0 hb.size
 replace hl_R : w.heap.size < wb.heap.size := Nat.lt_of_lt_of_le hl_R hb.size
 clear hb
 have HS1 := Lib.hid hn
 clear hn
 have HS2 := Lib.hid hn'
 clear hn'
 go_wp2_with fail
 go_loopw [7] (fun i wr => ∃ j ps, j ≤ n ∧ i = .int .i64 ((j : Nat) : Int) ∧ sQ (fun i => if k ≤ i then q i else 0) j = ps ∧ NBox N wr wb.heap.size ps ∧ Box3 wr w.heap.size (.bool false) (.slice none 0 0) (.slice none 0 0) ∧ Below w.heap.size w wr ∧ w.heap.size ≤ wr.heap.size) (fun i _ => n - (intOf i).toNat)
 case atStart =>
  refine ⟨0, p0, Nat.zero_le _, rfl, HE0.out, ⟨rz, cz, rz2, cz2, ⟨by first | omega | (simp; done) | (simp; omega), by exact KpA, fun o => by first | (go_simp; done) | (simp; done) | (simp [go_sem]; done) | (simp [go_sem, k_R_0, k_R_1, k_R_2, f_R, hl_R]; done), by first | with_reducible assumption | (go_simp; done) | (simp; done) | (simp [go_sem]; done) | (simp [go_sem, k_R_0, k_R_1, k_R_2, f_R, hl_R]; done), by first | with_reducible assumption | (go_simp; done) | (simp; done) | (simp [go_sem]; done) | (simp [go_sem, k_R_0, k_R_1, k_R_2, f_R, hl_R]; done), by first | with_reducible assumption | (go_simp; done) | (simp; done) | (simp [go_sem]; done) | (simp [go_sem, k_R_0, k_R_1, k_R_2, f_R, hl_R]; done)⟩, HS1.out.keep ?_, HS2.out.keep ?_⟩, ⟨by first | omega | (simp; done) | (simp; omega), by exact KpA, fun o => by first | with_reducible exact f_R o | (simp [go_sem, f_R]; done) | (simp [go_sem, f_R, hl_R]; done) | (go_simp; done) | (simp; done) | (simp [go_sem]; done) | (simp [go_sem, k_R_0, k_R_1, k_R_2, f_R, hl_R]; done), by first | with_reducible assumption | (simp [go_sem, k_R_0]; done) | (simp [go_sem, k_R_0, hl_R]; done) | (go_simp; done) | (simp; done) | (simp [go_sem]; done) | (simp [go_sem, k_R_0, k_R_1, k_R_2, f_R, hl_R]; done), by first | with_reducible assumption | (simp [go_sem, k_R_1]; done) | (simp [go_sem, k_R_1, hl_R]; done) | (go_simp; done) | (simp; done) | (simp [go_sem]; done) | (simp [go_sem, k_R_0, k_R_1, k_R_2, f_R, hl_R]; done), by first | with_reducible assumption | (simp [go_sem, k_R_2]; done) | (simp [go_sem, k_R_2, hl_R]; done) | (go_simp; done) | (simp; done) | (simp [go_sem]; done) | (simp [go_sem, k_R_0, k_R_1, k_R_2, f_R, hl_R]; done)⟩, ?_, ?_⟩
  all_goals exact KBA
 case round =>
  obtain ⟨j, ps, hj, rfl, hps, ⟨rs, cs, rs2, cs2, hbx, hn1, hn2⟩, hbr, hbel, hsz⟩ := hrel
  have hd_S_R := hl_R
  clear hl_R f_R HX_R k_R_0 k_R_1 k_R_2
  obtain ⟨hl_S, bn_S, f_S, k_S_0, k_S_1, k_S_2⟩ := hbx
  have HX_S := Lib.hid bn_S
  clear bn_S
  obtain ⟨hl_R, bn_R, f_R, k_R_0, k_R_1, k_R_2⟩ := hbr
  have HX_R := Lib.hid bn_R
  clear bn_R
  have HPS := Lib.hid hps
  have HT1 := Lib.hid hn1
  have HT2 := Lib.hid hn2
  have HAr := Lib.hid (HA.out.below hbel)
  clear hn1 hn2 HS1 HS2 HB hs0 hN
  have HB := Lib.hid hbel
  have hs0 := hsz
  have hN : N ≤ wr.heap.size := by omega
  clear hbel
  have HZS := Lib.hid (show rsz ps ≤ 253755515 by rw [← hps]; have h1 := sQ_rsz (q := (fun i => if k ≤ i then q i else 0)) (k := j) (L := L) (fun i hi => uppT_rsz q L k i (HLim.out i (by omega))); have h2 : j * (L + 1) ≤ 121 * (L + 1) := Nat.mul_le_mul_right _ (by omega); omega)
  clear hps
  by_cases hjn : j < n
  ·obtain ⟨b0, o0, rfl, hc⟩ := HAr.out.2.2 (by omega)
   obtain ⟨s', ra, rnn, rc, da, dn, dc, g0, g1, g2, hr⟩ := hc j hjn
   have HR := Lib.hid hr
   have hlb : b0 < wr.heap.size := World.block_lt_of_cell? wr _ g0
   clear hc hr HAr
   have hix0 : (0 : Int) ≤ (j : Int) := by omega
   have hix1 : (j : Int) < (n : Int) := by omega
   by_cases hle : k ≤ j
   ·have dk : decide ((k : Int) ≤ (j : Int)) = true := by simp; omega
    have dk2 : decide (k ≤ j) = true := by simp; omega
    obtain ⟨pn, hpn⟩ : ∃ p, ps + q j = p := ⟨_, rfl⟩
    have HPN := Lib.hid hpn
    have HSN := Lib.hid (show sQ (fun i => if k ≤ i then q i else 0) (j + 1) = pn by show sQ _ j + _ = pn; simp only [if_pos hle]; rw [HPS.out]; exact hpn)
    clear hle hpn
    go_wp2_with fail
    refine region_name fun W2 hW => ?_
    have HL_W2 := Lib.hid (show Below wr.heap.size wr W2 by rw [← hW]; exact BlA)
    have hs_W2 : wr.heap.size ≤ W2.heap.size := by rw [← hW]; exact OmT
    have HK_W2 := Lib.hid (show Kp N wr W2 by rw [← hW]; exact KpA)
    rw [hW] at g0 g1 g2 hlb
    replace k_S_0 : W2.cell? ⟨wb.heap.size, 0, none⟩ = some (.bool (decide ((ps).num < 0))) := (HL_W2.out.cell (p := ⟨wb.heap.size, 0, none⟩) hl_S).trans k_S_0
    replace k_S_1 : W2.cell? ⟨wb.heap.size, 1, none⟩ = some (.slice rs (nlen (ps).num.natAbs) cs) := (HL_W2.out.cell (p := ⟨wb.heap.size, 1, none⟩) hl_S).trans k_S_1
    replace k_S_2 : W2.cell? ⟨wb.heap.size, 2, none⟩ = some (.slice rs2 (nlen (ps).den) cs2) := (HL_W2.out.cell (p := ⟨wb.heap.size, 2, none⟩) hl_S).trans k_S_2
    replace f_S : ∀ o, W2.frozen? ⟨wb.heap.size, o, none⟩ = false := fun o => (HL_W2.out.frozen (p := ⟨wb.heap.size, o, none⟩) hl_S).trans (f_S o)
    replace HX_S := Lib.hid (show Bn W2 (wb.heap.size) by rw [← hW]; exact KpA)
    replace k_R_0 : W2.cell? ⟨w.heap.size, 0, none⟩ = some (.bool false) := (HL_W2.out.cell (p := ⟨w.heap.size, 0, none⟩) hl_R).trans k_R_0
    replace k_R_1 : W2.cell? ⟨w.heap.size, 1, none⟩ = some (.slice none 0 0) := (HL_W2.out.cell (p := ⟨w.heap.size, 1, none⟩) hl_R).trans k_R_1
    replace k_R_2 : W2.cell? ⟨w.heap.size, 2, none⟩ = some (.slice none 0 0) := (HL_W2.out.cell (p := ⟨w.heap.size, 2, none⟩) hl_R).trans k_R_2
    replace f_R : ∀ o, W2.frozen? ⟨w.heap.size, o, none⟩ = false := fun o => (HL_W2.out.frozen (p := ⟨w.heap.size, o, none⟩) hl_R).trans (f_R o)
    replace HX_R := Lib.hid (show Bn W2 (w.heap.size) by rw [← hW]; exact KpA)
    replace HT1 := Lib.hid (HT1.out.keep HK_W2.out)
    replace HT2 := Lib.hid (HT2.out.keep HK_W2.out)
    replace HR := Lib.hid (HR.out.keep HK_W2.out)
    replace HB := Lib.hid (show Below w.heap.size w W2 by rw [← hW]; exact BlA)
    replace hN : N ≤ W2.heap.size := by rw [← hW]; exact OmT
    replace hs0 : w.heap.size ≤ W2.heap.size := by rw [← hW]; exact OmT
    replace hl_S : wb.heap.size < W2.heap.size := by rw [← hW]; exact OmT
    replace hl_R : w.heap.size < W2.heap.size := by rw [← hW]; exact OmT
    clear HL_W2
    clear hW HK_W2
    refine region_inv2 (by kernel_rfl) (UppJ N wb.heap.size ps pn rs rs2 cs cs2 s' ra da rnn rc dn dc b0 o0 n cap j (W2)) ?_ ?_ ?_ ?_
    ·exact ⟨u22, u23, u24, u25, u26, u27, by simp only [Act.put, aT, aZ, aS], .inl ⟨rfl, Since.drawn _, NoR⟩⟩
    ·exact acyc_spec (by kernel_rfl)
    ·intro Ls a0 wq i o ho hLi hafter hJ
     obtain ⟨u22, u23, u24, u25, u26, u27, rfl, hJ | ⟨h10, hall, _⟩⟩ := hJ
     ·obtain ⟨hLl, hS, p0, p1, p2, p3, p4, p5⟩ := hJ
      have P0 := Lib.hid p0; have P1 := Lib.hid p1; have P2 := Lib.hid p2; have P3 := Lib.hid p3; have P4 := Lib.hid p4; have P5 := Lib.hid p5; have HS := Lib.hid hS; clear hS p0 p1 p2 p3 p4 p5
      have hi : i < 7 := (Array.getElem?_eq_some_iff.1 ho).1
      obtain rfl | rfl | rfl | rfl | rfl | rfl | rfl : i = 0 ∨ i = 1 ∨ i = 2 ∨ i = 3 ∨ i = 4 ∨ i = 5 ∨ i = 6 := by omega
      ·simp only [gT, gZ, Option.some.injEq] at ho
       subst ho
       have c0 := (HS.out.1.cell (p := ⟨wb.heap.size, 0, none⟩) hl_S).trans k_S_0
       have c1 := (HS.out.1.cell (p := ⟨wb.heap.size, 1, none⟩) hl_S).trans k_S_1
       have c2 := (HS.out.1.cell (p := ⟨wb.heap.size, 2, none⟩) hl_S).trans k_S_2
       clear hLi hafter
       simp only [Act.put, aT, aZ, aS]
       go_wp2_with fail
       exact ⟨.agg #[.bool (decide ((ps).num < 0)), .slice rs (nlen (ps).num.natAbs) cs, .slice rs2 (nlen (ps).den) cs2], u23, u24, u25, u26, u27, by simp only [Act.put, aT, aZ, aS], .inl ⟨by simpa using hLl, HS.out, (fun _ => rfl), PvR⟩⟩
      ·simp only [gT, gZ, gS, Option.some.injEq] at ho
       subst ho
       clear hLi hafter
       simp only [Act.put, aT, aZ, aS]
       go_wp2_with fail
       exact ⟨u22, .slice (some ⟨b0, o0, none⟩) n cap, u24, u25, u26, u27, by simp only [Act.put, aT, aZ, aS], .inl ⟨by simpa using hLl, HS.out, PvA, (fun _ => rfl), PvR⟩⟩
      ·simp only [gT, gZ, gS, Option.some.injEq] at ho
       subst ho
       clear hLi hafter
       simp only [Act.put, aT, aZ, aS]
       go_wp2_with fail
       exact ⟨u22, u23, .int .i64 j, u25, u26, u27, by simp only [Act.put, aT, aZ, aS], .inl ⟨by simpa using hLl, HS.out, PvA, PvA, (fun _ => rfl), PvR⟩⟩
      ·simp only [gT, gZ, gS, Option.some.injEq] at ho
       subst ho
       obtain rfl := P1.out (hafter ⟨1, .data⟩ (by simp) rfl)
       obtain rfl := P2.out (hafter ⟨2, .data⟩ (by simp) rfl)
       clear hLi hafter
       simp only [Act.put, aT, aZ, aS]
       go_wp2_with fail
       exact ⟨u22, .slice (some ⟨b0, o0, none⟩) n cap, .int .i64 j, .pointer (some ⟨b0, o0 + j * 3, none⟩), u26, u27, by simp only [Act.put, aT, aZ, aS], .inl ⟨by simpa using hLl, HS.out, PvA, PvA, PvA, (fun _ => rfl), PvR⟩⟩
      ·simp only [gT, gZ, gS, Option.some.injEq] at ho
       subst ho
       obtain rfl := P3.out (hafter ⟨3, .data⟩ (by simp) rfl)
       have c0 := (HS.out.1.cell (p := ⟨b0, o0 + j * 3, none⟩) hlb).trans g0
       have c1 := (HS.out.1.cell (p := ⟨b0, o0 + j * 3 + 1, none⟩) hlb).trans g1
       have c2 := (HS.out.1.cell (p := ⟨b0, o0 + j * 3 + 2, none⟩) hlb).trans g2
       clear hLi hafter
       simp only [Act.put, aT, aZ, aS]
       go_wp2_with fail
       exact ⟨u22, u23, u24, .pointer (some ⟨b0, o0 + j * 3, none⟩), .agg #[.bool s', .slice ra rnn rc, .slice da dn dc], u27, by simp only [Act.put, aT, aZ, aS], .inl ⟨by simpa using hLl, HS.out, PvA, PvA, PvA, PvA, (fun _ => rfl), PvA⟩⟩
      ·simp only [gT, gZ, gS, Option.some.injEq] at ho
       subst ho
       obtain rfl := P0.out (hafter ⟨0, .data⟩ (by simp) rfl)
       obtain rfl := P4.out (hafter ⟨4, .data⟩ (by simp) rfl)
       clear hLi hafter
       simp only [Act.put, aT, aZ, aS]
       go_wp2_with fail
       refine (xradd_any (N := N) _ _ _ _ _ _ _ _ _ _ _ _ _ _ 253755515 L ps (q j) _ (by have := HS.out.2; omega) (Rt.of_norm (HT1.out.below HS.out.1) (HT2.out.below HS.out.1) _ HZS.out) (HR.out.below HS.out.1) (by omega) (by omega) pn HPN.out).mono ?_
       rintro e wn ⟨r, c, r2, c2, rfl, hn, hn', hb⟩
       have HN := Lib.hid hn
       have HM := Lib.hid hn'
       have Hb := Lib.hid hb
       clear hn hn' hb
       go_wp2_with fail
       exact ⟨.agg #[.bool (decide ((ps).num < 0)), .slice rs (nlen (ps).num.natAbs) cs, .slice rs2 (nlen (ps).den) cs2], u23, u24, u25, .agg #[.bool s', .slice ra rnn rc, .slice da dn dc], _, by simp only [Act.put, aT, aZ, aS], .inl ⟨by simpa using hLl, HS.out.below Hb.out, PvA, PvA, PvA, PvA, PvA, (fun _ => ⟨r, c, r2, c2, rfl, HN.out, HM.out⟩)⟩⟩
      ·simp only [gT, gZ, gS, Option.some.injEq] at ho
       subst ho
       have hall : ∀ j, j < 6 → Ls j = true := by
        intro j hj
        obtain rfl | rfl | rfl | rfl | rfl | rfl : j = 0 ∨ j = 1 ∨ j = 2 ∨ j = 3 ∨ j = 4 ∨ j = 5 := by omega
        all_goals first | (refine hafter ⟨_, .phase⟩ ?_ rfl; simp; done) | (refine hafter ⟨_, .data⟩ ?_ rfl; simp; done)
       have HALL := Lib.hid hall
       clear hall
       obtain ⟨r5, c5, t5, d5, rfl, hn5, hm5⟩ := P5.out (hafter ⟨5, .data⟩ (by simp) rfl)
       have HN5 := Lib.hid hn5
       have HM5 := Lib.hid hm5
       clear hn5 hm5
       have c0 := (HS.out.1.cell (p := ⟨wb.heap.size, 0, none⟩) hl_S).trans k_S_0
       have c1 := (HS.out.1.cell (p := ⟨wb.heap.size, 1, none⟩) hl_S).trans k_S_1
       have c2 := (HS.out.1.cell (p := ⟨wb.heap.size, 2, none⟩) hl_S).trans k_S_2
       have fz : ∀ o, wq.frozen? ⟨wb.heap.size, o, none⟩ = false := fun o => (HS.out.1.frozen (p := ⟨wb.heap.size, o, none⟩) hl_S).trans (f_S o)
       clear hLi hafter
       simp only [Act.put, aT, aZ, aS]
       go_wp2_with fail
       exact ⟨u22, u23, u24, u25, u26, .agg #[.bool (decide ((pn).num < 0)), .slice r5 (nlen (pn).num.natAbs) c5, .slice t5 (nlen (pn).den) d5], by simp only [Act.put, aT, aZ, aS], .inr ⟨by simp, fun j hj => by simp [HALL.out j hj], ⟨_, _, _, _, _, HS.out, HN5.out, HM5.out, rfl⟩⟩⟩
     ·exfalso
      have hi : i < 7 := (Array.getElem?_eq_some_iff.1 ho).1
      rcases Nat.lt_or_ge i 6 with h | h
      ·rw [hall i h] at hLi; cases hLi
      ·obtain rfl : i = 6 := by omega
       rw [h10] at hLi; cases hLi
    ·intro Ls a0 wq hall hJ
     obtain ⟨u22, u23, u24, u25, u26, u27, rfl, ⟨h10, _⟩ | ⟨_, _, hcut⟩⟩ := hJ
     ·rw [hall 6 (by decide)] at h10; cases h10
     ·obtain ⟨wd, rn, cn, rn2, cn2, hs, hn, hn', rfl⟩ := hcut
      have hb := hs.1
      clear hs
      have hs_wd : W2.heap.size ≤ wd.heap.size := hb.size
      replace k_S_0 : wd.cell? ⟨wb.heap.size, 0, none⟩ = some (.bool (decide ((ps).num < 0))) := (hb.cell (p := ⟨wb.heap.size, 0, none⟩) hl_S).trans k_S_0
      replace k_S_1 : wd.cell? ⟨wb.heap.size, 1, none⟩ = some (.slice rs (nlen (ps).num.natAbs) cs) := (hb.cell (p := ⟨wb.heap.size, 1, none⟩) hl_S).trans k_S_1
      replace k_S_2 : wd.cell? ⟨wb.heap.size, 2, none⟩ = some (.slice rs2 (nlen (ps).den) cs2) := (hb.cell (p := ⟨wb.heap.size, 2, none⟩) hl_S).trans k_S_2
      replace f_S : ∀ o, wd.frozen? ⟨wb.heap.size, o, none⟩ = false := fun o => (hb.frozen (p := ⟨wb.heap.size, o, none⟩) hl_S).trans (f_S o)
      replace HX_S := Lib.hid (HX_S.out.below hb)
      replace k_R_0 : wd.cell? ⟨w.heap.size, 0, none⟩ = some (.bool false) := (hb.cell (p := ⟨w.heap.size, 0, none⟩) hl_R).trans k_R_0
      replace k_R_1 : wd.cell? ⟨w.heap.size, 1, none⟩ = some (.slice none 0 0) := (hb.cell (p := ⟨w.heap.size, 1, none⟩) hl_R).trans k_R_1
      replace k_R_2 : wd.cell? ⟨w.heap.size, 2, none⟩ = some (.slice none 0 0) := (hb.cell (p := ⟨w.heap.size, 2, none⟩) hl_R).trans k_R_2
      replace f_R : ∀ o, wd.frozen? ⟨w.heap.size, o, none⟩ = false := fun o => (hb.frozen (p := ⟨w.heap.size, o, none⟩) hl_R).trans (f_R o)
      replace HX_R := Lib.hid (HX_R.out.below hb)
      replace HT1 := Lib.hid (HT1.out.below hb)
      replace HT2 := Lib.hid (HT2.out.below hb)
      replace HR := Lib.hid (HR.out.below hb)
      replace HB := Lib.hid (HB.out.trans (hb.mono hs0))
      replace hN : N ≤ wd.heap.size := Nat.le_trans hN hb.size
      replace hs0 : w.heap.size ≤ wd.heap.size := Nat.le_trans hs0 hb.size
      replace hl_S : wb.heap.size < wd.heap.size := Nat.lt_of_lt_of_le hl_S hb.size
      replace hl_R : w.heap.size < wd.heap.size := Nat.lt_of_lt_of_le hl_R hb.size
      clear hb
      have Hn1 := Lib.hid hn
      have Hn2 := Lib.hid hn'
      clear hn hn'
      simp only [Act.put, aT, aZ, aS]
      go_wp2_with fail
      go_roundw
      case rel =>
       refine ⟨j + 1, pn, by omega, by go_num, HSN.out, ⟨rn, cn, rn2, cn2, ⟨by first | omega | (simp; done) | (simp; omega), by exact KpA, fun o => by first | with_reducible exact f_S o | (simp [go_sem, f_S]; done) | (simp [go_sem, f_S, hl_S]; done) | (go_simp; done) | (simp; done) | (simp [go_sem]; done) | (simp [go_sem, k_S_0, k_S_1, k_S_2, k_R_0, k_R_1, k_R_2, f_S, f_R, hl_S, hl_R]; done), by first | with_reducible assumption | (simp [go_sem, k_S_0]; done) | (simp [go_sem, k_S_0, hl_S]; done) | (go_simp; done) | (simp; done) | (simp [go_sem]; done) | (simp [go_sem, k_S_0, k_S_1, k_S_2, k_R_0, k_R_1, k_R_2, f_S, f_R, hl_S, hl_R]; done), by first | with_reducible assumption | (simp [go_sem, k_S_1]; done) | (simp [go_sem, k_S_1, hl_S]; done) | (go_simp; done) | (simp; done) | (simp [go_sem]; done) | (simp [go_sem, k_S_0, k_S_1, k_S_2, k_R_0, k_R_1, k_R_2, f_S, f_R, hl_S, hl_R]; done), by first | with_reducible assumption | (simp [go_sem, k_S_2]; done) | (simp [go_sem, k_S_2, hl_S]; done) | (go_simp; done) | (simp; done) | (simp [go_sem]; done) | (simp [go_sem, k_S_0, k_S_1, k_S_2, k_R_0, k_R_1, k_R_2, f_S, f_R, hl_S, hl_R]; done)⟩, Hn1.out.keep ?_, Hn2.out.keep ?_⟩, ⟨by first | omega | (simp; done) | (simp; omega), by exact KpA, fun o => by first | with_reducible exact f_R o | (simp [go_sem, f_R]; done) | (simp [go_sem, f_R, hl_R]; done) | (go_simp; done) | (simp; done) | (simp [go_sem]; done) | (simp [go_sem, k_S_0, k_S_1, k_S_2, k_R_0, k_R_1, k_R_2, f_S, f_R, hl_S, hl_R]; done), by first | with_reducible assumption | (simp [go_sem, k_R_0]; done) | (simp [go_sem, k_R_0, hl_R]; done) | (go_simp; done) | (simp; done) | (simp [go_sem]; done) | (simp [go_sem, k_S_0, k_S_1, k_S_2, k_R_0, k_R_1, k_R_2, f_S, f_R, hl_S, hl_R]; done), by first | with_reducible assumption | (simp [go_sem, k_R_1]; done) | (simp [go_sem, k_R_1, hl_R]; done) | (go_simp; done) | (simp; done) | (simp [go_sem]; done) | (simp [go_sem, k_S_0, k_S_1, k_S_2, k_R_0, k_R_1, k_R_2, f_S, f_R, hl_S, hl_R]; done), by first | with_reducible assumption | (simp [go_sem, k_R_2]; done) | (simp [go_sem, k_R_2, hl_R]; done) | (go_simp; done) | (simp; done) | (simp [go_sem]; done) | (simp [go_sem, k_S_0, k_S_1, k_S_2, k_R_0, k_R_1, k_R_2, f_S, f_R, hl_S, hl_R]; done)⟩, ?_, ?_⟩
       all_goals exact KBA
      case measure => simp [intOf]; omega
   ·have dk : decide ((k : Int) ≤ (j : Int)) = false := by simp; omega
    have dk2 : decide (k ≤ j) = false := by simp; omega
    have HSN := Lib.hid (show sQ (fun i => if k ≤ i then q i else 0) (j + 1) = ps by show sQ _ j + _ = ps; simp only [if_neg hle]; rw [HPS.out]; grind)
    clear hle
    go_wp2_with fail
    go_roundw
    case rel =>
     refine ⟨j + 1, ps, by omega, by go_num, HSN.out, ⟨rs, cs, rs2, cs2, ⟨by first | omega | (simp; done) | (simp; omega), by exact KpA, fun o => by first | with_reducible exact f_S o | (simp [go_sem, f_S]; done) | (simp [go_sem, f_S, hl_S]; done) | (go_simp; done) | (simp; done) | (simp [go_sem]; done) | (simp [go_sem, k_S_0, k_S_1, k_S_2, k_R_0, k_R_1, k_R_2, f_S, f_R, hl_S, hl_R]; done), by first | with_reducible assumption | (simp [go_sem, k_S_0]; done) | (simp [go_sem, k_S_0, hl_S]; done) | (go_simp; done) | (simp; done) | (simp [go_sem]; done) | (simp [go_sem, k_S_0, k_S_1, k_S_2, k_R_0, k_R_1, k_R_2, f_S, f_R, hl_S, hl_R]; done), by first | with_reducible assumption | (simp [go_sem, k_S_1]; done) | (simp [go_sem, k_S_1, hl_S]; done) | (go_simp; done) | (simp; done) | (simp [go_sem]; done) | (simp [go_sem, k_S_0, k_S_1, k_S_2, k_R_0, k_R_1, k_R_2, f_S, f_R, hl_S, hl_R]; done), by first | with_reducible assumption | (simp [go_sem, k_S_2]; done) | (simp [go_sem, k_S_2, hl_S]; done) | (go_simp; done) | (simp; done) | (simp [go_sem]; done) | (simp [go_sem, k_S_0, k_S_1, k_S_2, k_R_0, k_R_1, k_R_2, f_S, f_R, hl_S, hl_R]; done)⟩, HT1.out.keep ?_, HT2.out.keep ?_⟩, ⟨by first | omega | (simp; done) | (simp; omega), by exact KpA, fun o => by first | with_reducible exact f_R o | (simp [go_sem, f_R]; done) | (simp [go_sem, f_R, hl_R]; done) | (go_simp; done) | (simp; done) | (simp [go_sem]; done) | (simp [go_sem, k_S_0, k_S_1, k_S_2, k_R_0, k_R_1, k_R_2, f_S, f_R, hl_S, hl_R]; done), by first | with_reducible assumption | (simp [go_sem, k_R_0]; done) | (simp [go_sem, k_R_0, hl_R]; done) | (go_simp; done) | (simp; done) | (simp [go_sem]; done) | (simp [go_sem, k_S_0, k_S_1, k_S_2, k_R_0, k_R_1, k_R_2, f_S, f_R, hl_S, hl_R]; done), by first | with_reducible assumption | (simp [go_sem, k_R_1]; done) | (simp [go_sem, k_R_1, hl_R]; done) | (go_simp; done) | (simp; done) | (simp [go_sem]; done) | (simp [go_sem, k_S_0, k_S_1, k_S_2, k_R_0, k_R_1, k_R_2, f_S, f_R, hl_S, hl_R]; done), by first | with_reducible assumption | (simp [go_sem, k_R_2]; done) | (simp [go_sem, k_R_2, hl_R]; done) | (go_simp; done) | (simp; done) | (simp [go_sem]; done) | (simp [go_sem, k_S_0, k_S_1, k_S_2, k_R_0, k_R_1, k_R_2, f_S, f_R, hl_S, hl_R]; done)⟩, ?_, ?_⟩
     all_goals first | exact KBA | omega
    case measure => simp [intOf]; omega
  ·obtain rfl : n = j := by omega
   obtain rfl : ps = p := HPS.out.symm.trans HP.out
   go_wp2_with fail
   refine bodyPost_ret (v := .tuple #[.agg #[.bool (decide ((ps).num < 0)), .slice rs (nlen (ps).num.natAbs) cs, .slice rs2 (nlen (ps).den) cs2], .int .i64 0]) (by simp [results, Tryz.results37, go_sem, k_R_0, k_R_1, k_R_2]) rfl ⟨_, _, _, _, rfl, HT1.out.keep ?_, HT2.out.keep ?_, ?_⟩
   all_goals exact KBA
end Go.Proofs.YtjobopafcgnljaaGreat
