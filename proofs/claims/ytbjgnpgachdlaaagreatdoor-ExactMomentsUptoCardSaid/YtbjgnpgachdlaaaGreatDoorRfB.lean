/- Contracts of the reference's moment, Mean and Variance (chapter 7). -/
import Derived.Test.YtbjgnpgachdlaaaGreatDoorRfA
import Derived.Test.YtbjgnpgachdlaaaGreatDoorCut
namespace Go.Proofs.YtbjgnpgachdlaaaGreatDoor
open Go.RowKit

def MomJ1 (N : Nat) (pk px : Rat) (s' : Bool) (ra da : Option Addr) (rnn rc dn dc b0 o0 n cap k : Nat) (W : World) (z0 : Act) (L : Nat → Bool) (z1 : Act) (w : World) : Prop :=
  ∃ u15 u16 u17 u18 u19 u20 u21 u7, z1 = ((((((((z0.put (some 15) u15).put (some 16) u16).put (some 17) u17).put (some 18) u18).put (some 19) u19).put (some 20) u20).put (some 21) u21).put (some 7) u7) ∧
    ((L 8 = false ∧ Since W w ∧ (L 0 = true → u15 = .slice (some ⟨b0, o0, none⟩) n cap) ∧ (L 1 = true → u16 = .int .i64 k) ∧ (L 2 = true → u17 = .pointer (some ⟨b0, o0 + k * 3, none⟩)) ∧ (L 3 = true → u18 = .agg #[.bool s', .slice ra rnn rc, .slice da dn dc]) ∧ (L 4 = true → u19 = .int .i64 k) ∧ (L 5 = true → IsRat N pk u20 w) ∧ (L 6 = true → IsRat N px u21 w) ∧ (L 7 = true → IsBox W.heap.size 28 3 u7 w)) ∨
     (L 8 = true ∧ (∀ j, j < 8 → L j = true) ∧ CutRat N W px u7 w))

def MomJ2 (N g : Nat) (pk px py : Rat) (rx rx2 : Option Addr) (cx cx2 k : Nat) (W : World) (z0 : Act) (L : Nat → Bool) (z1 : Act) (w : World) : Prop :=
  ∃ u24 u25 u26 u27, z1 = ((((z0.put (some 24) u24).put (some 25) u25).put (some 26) u26).put (some 27) u27) ∧
    ((L 4 = false ∧ Since W w ∧ (L 0 = true → u24 = .agg #[.bool (decide ((px).num < 0)), .slice rx (nlen (px).num.natAbs) cx, .slice rx2 (nlen (px).den) cx2]) ∧ (L 1 = true → u25 = .int .i64 k) ∧ (L 2 = true → IsRat N pk u26 w) ∧ (L 3 = true → IsRat N py u27 w)) ∨
     (L 4 = true ∧ (∀ j, j < 4 → L j = true) ∧ CutSet N W g py w))

theorem block_name {P : Program} {Q : Exit → Act → World → Prop} {c : Code} {a : Act} {w : World} (h : ∀ W, w = W → c.wp P Q a W) : c.wp P Q a w := h w rfl

set_option maxHeartbeats 8000000 in
theorem moment1_any {N : Nat} (a : Option Addr) (n cap : Nat) (q : Nat → Rat) (L : Nat) (w : World) (hN : N ≤ w.heap.size) (h : Rs N w a n cap q L) (hL : L ≤ 2097152) (hn : n ≤ 121) (p : Rat) (hp : meanQ q n = p) : Calls Tryz.prog 25 #[.slice a n cap, .int .i64 1] w (RatPost N w p) := by
  obtain ⟨p0, hp0⟩ : ∃ p : Rat, ((0 : Nat) : Rat) = p := ⟨_, rfl⟩
  have HE0 := Lib.hid (show sQ (fun i => q i * (i : Rat)) 0 = p0 from (natQ_zero p0 hp0).symm)
  have HP0 := Lib.hid hp0
  have HP := Lib.hid hp
  have HLim := Lib.hid h.lim
  clear hp0 hp
  have hN0 := hN
  have HA := Lib.hid h
  have bc1 := h.1
  have bc2 := h.2.1
  unfold maxLen at bc2
  clear h
  have HB := Lib.hid (Below.refl w.heap.size w)
  go_enter Tryz.func25, Tryz.ntmps25
  go_wp2_with fail
  refine calls_name fun W0 hW => ?_
  have hs_W0 : w.heap.size ≤ W0.heap.size := by rw [← hW]; exact OmA
  have k_R_0 : W0.cell? ⟨w.heap.size, 0, none⟩ = some (.bool false) := by rw [← hW]; (first | (go_simp; done) | (simp; done) | (simp [go_sem]; done) | (simp [go_sem]; done))
  have k_R_1 : W0.cell? ⟨w.heap.size, 1, none⟩ = some (.slice none 0 0) := by rw [← hW]; (first | (go_simp; done) | (simp; done) | (simp [go_sem]; done) | (simp [go_sem]; done))
  have k_R_2 : W0.cell? ⟨w.heap.size, 2, none⟩ = some (.slice none 0 0) := by rw [← hW]; (first | (go_simp; done) | (simp; done) | (simp [go_sem]; done) | (simp [go_sem]; done))
  have f_R : ∀ o, W0.frozen? ⟨w.heap.size, o, none⟩ = false := by intro o; rw [← hW]; (first | (go_simp; done) | (simp; done) | (simp [go_sem]; done) | (simp [go_sem]; done))
  have HX_R := Lib.hid (show Bn W0 (w.heap.size) by rw [← hW]; exact KpA)
  replace HB := Lib.hid (show Below w.heap.size w W0 by rw [← hW]; exact BlA)
  replace hN : N ≤ W0.heap.size := by rw [← hW]; exact OmA
  have hs0 : w.heap.size ≤ W0.heap.size := by rw [← hW]; exact OmA
  have hl_R : w.heap.size < W0.heap.size := by rw [← hW]; exact OmA
  clear hW
  refine (Whole_z (N := N) 0 0 rfl _ hN (by omega) p0 HP0.out).mono ?_
  rintro e wa ⟨rz, cz, rz2, cz2, rfl, hn, hn', hb⟩
  have hs_wa : W0.heap.size ≤ wa.heap.size := hb.size
  replace k_R_0 : wa.cell? ⟨w.heap.size, 0, none⟩ = some (.bool false) := (hb.cell (p := ⟨w.heap.size, 0, none⟩) hl_R).trans k_R_0
  replace k_R_1 : wa.cell? ⟨w.heap.size, 1, none⟩ = some (.slice none 0 0) := (hb.cell (p := ⟨w.heap.size, 1, none⟩) hl_R).trans k_R_1
  replace k_R_2 : wa.cell? ⟨w.heap.size, 2, none⟩ = some (.slice none 0 0) := (hb.cell (p := ⟨w.heap.size, 2, none⟩) hl_R).trans k_R_2
  replace f_R : ∀ o, wa.frozen? ⟨w.heap.size, o, none⟩ = false := fun o => (hb.frozen (p := ⟨w.heap.size, o, none⟩) hl_R).trans (f_R o)
  replace HX_R := Lib.hid (HX_R.out.below hb)
  replace HB := Lib.hid (HB.out.trans (hb.mono hs0))
  replace hN : N ≤ wa.heap.size := Nat.le_trans hN hb.size
  replace hs0 : w.heap.size ≤ wa.heap.size := Nat.le_trans hs0 hb.size
  replace hl_R : w.heap.size < wa.heap.size := Nat.lt_of_lt_of_le hl_R hb.size
  clear hb
  have HS1 := Lib.hid hn
  clear hn
  have HS2 := Lib.hid hn'
  clear hn'
  go_wp2_with fail
  go_loopw [6] (fun i wr => ∃ k pk, k ≤ n ∧ i = .int .i64 ((k : Nat) : Int) ∧ sQ (fun i => q i * (i : Rat)) k = pk ∧ NBox N wr wa.heap.size pk ∧ Box3 wr w.heap.size (.bool false) (.slice none 0 0) (.slice none 0 0) ∧ Below w.heap.size w wr ∧ w.heap.size ≤ wr.heap.size) (fun i _ => n - (intOf i).toNat)
  case atStart =>
    refine ⟨0, p0, Nat.zero_le _, rfl, HE0.out, ⟨rz, cz, rz2, cz2, ⟨by first | omega | (simp; done) | (simp; omega), by exact KpA, fun o => by first | (go_simp; done) | (simp; done) | (simp [go_sem]; done) | (simp [go_sem, k_R_0, k_R_1, k_R_2, f_R, hl_R]; done), by first | with_reducible assumption | (go_simp; done) | (simp; done) | (simp [go_sem]; done) | (simp [go_sem, k_R_0, k_R_1, k_R_2, f_R, hl_R]; done), by first | with_reducible assumption | (go_simp; done) | (simp; done) | (simp [go_sem]; done) | (simp [go_sem, k_R_0, k_R_1, k_R_2, f_R, hl_R]; done), by first | with_reducible assumption | (go_simp; done) | (simp; done) | (simp [go_sem]; done) | (simp [go_sem, k_R_0, k_R_1, k_R_2, f_R, hl_R]; done)⟩, HS1.out.keep ?_, HS2.out.keep ?_⟩, ⟨by first | omega | (simp; done) | (simp; omega), by exact KpA, fun o => by first | with_reducible exact f_R o | (simp [go_sem, f_R]; done) | (simp [go_sem, f_R, hl_R]; done) | (go_simp; done) | (simp; done) | (simp [go_sem]; done) | (simp [go_sem, k_R_0, k_R_1, k_R_2, f_R, hl_R]; done), by first | with_reducible assumption | (simp [go_sem, k_R_0]; done) | (simp [go_sem, k_R_0, hl_R]; done) | (go_simp; done) | (simp; done) | (simp [go_sem]; done) | (simp [go_sem, k_R_0, k_R_1, k_R_2, f_R, hl_R]; done), by first | with_reducible assumption | (simp [go_sem, k_R_1]; done) | (simp [go_sem, k_R_1, hl_R]; done) | (go_simp; done) | (simp; done) | (simp [go_sem]; done) | (simp [go_sem, k_R_0, k_R_1, k_R_2, f_R, hl_R]; done), by first | with_reducible assumption | (simp [go_sem, k_R_2]; done) | (simp [go_sem, k_R_2, hl_R]; done) | (go_simp; done) | (simp; done) | (simp [go_sem]; done) | (simp [go_sem, k_R_0, k_R_1, k_R_2, f_R, hl_R]; done)⟩, ?_, ?_⟩
    all_goals exact KBA
  case round =>
    obtain ⟨k, ps, hk, rfl, hps, ⟨rs, cs, rs2, cs2, hbx, hn1, hn2⟩, hbr, hbel, hsz⟩ := hrel
    have hd_S_R := hl_R
    clear hl_R f_R HX_R k_R_0 k_R_1 k_R_2
    obtain ⟨hl_S, bn_S, f_S, k_S_0, k_S_1, k_S_2⟩ := hbx
    have HX_S := Lib.hid bn_S
    clear bn_S
    obtain ⟨hl_R, bn_R, f_R, k_R_0, k_R_1, k_R_2⟩ := hbr
    have HX_R := Lib.hid bn_R
    clear bn_R
    have HPS := Lib.hid hps
    have HT1 := Lib.hid hn1
    have HT2 := Lib.hid hn2
    have HAr := Lib.hid (HA.out.below hbel)
    clear hn1 hn2 HS1 HS2 HB hs0 hN
    have HB := Lib.hid hbel
    have hs0 := hsz
    have hN : N ≤ wr.heap.size := by omega
    clear hbel
    have HZS := Lib.hid (show rsz ps ≤ 263192576 by rw [← hps]; have h1 := sQ_rsz (q := (fun i => q i * (i : Rat))) (k := k) (L := L + 2) (fun i hi => by have h3 := HLim.out i (by omega); have h4 := rsz_nat i (by omega) _ rfl; have h5 := rsz_mul (q i) (i : Rat); show rsz _ ≤ _; omega); have h2 : k * (L + 2 + 1) ≤ 121 * (L + 2 + 1) := Nat.mul_le_mul_right _ (by omega); omega)
    clear hps
    by_cases hkn : k < n
    · obtain ⟨b0, o0, rfl, hc⟩ := HAr.out.2.2 (by omega)
      obtain ⟨s', ra, rnn, rc, da, dn, dc, g0, g1, g2, hr⟩ := hc k hkn
      have HR := Lib.hid hr
      have hlb : b0 < wr.heap.size := World.block_lt_of_cell? wr _ g0
      clear hc hr HAr
      have hix0 : (0 : Int) ≤ (k : Int) := by omega
      have hix1 : (k : Int) < (n : Int) := by omega
      obtain ⟨pk, hpk⟩ : ∃ p : Rat, ((k : Nat) : Rat) = p := ⟨_, rfl⟩
      have HPK := Lib.hid hpk
      have HZK := Lib.hid (rsz_nat k (by omega) pk hpk)
      obtain ⟨px, hpx⟩ : ∃ p, q k * pk = p := ⟨_, rfl⟩
      have HPX := Lib.hid hpx
      have HZX := Lib.hid (show rsz px ≤ L + 1 by rw [← hpx]; have h1 := rsz_mul (q k) pk; have h2 := HLim.out k hkn; have h3 := HZK.out; omega)
      obtain ⟨pn, hpn⟩ : ∃ p, ps + px = p := ⟨_, rfl⟩
      have HPN := Lib.hid hpn
      have HSN := Lib.hid (show sQ (fun i => q i * (i : Rat)) (k + 1) = pn by rw [← hpn, ← HPS.out, ← hpx, ← hpk]; rfl)
      clear hpk hpx hpn
      go_upto_region 5 with fail
      refine block_name fun W1 hW => ?_
      have HL_W1 := Lib.hid (show Below wr.heap.size wr W1 by rw [← hW]; exact BlA)
      have hs_W1 : wr.heap.size ≤ W1.heap.size := by rw [← hW]; exact OmA
      have HK_W1 := Lib.hid (show Kp N wr W1 by rw [← hW]; exact KpA)
      rw [hW] at g0 g1 g2 hlb
      replace k_S_0 : W1.cell? ⟨wa.heap.size, 0, none⟩ = some (.bool (decide ((ps).num < 0))) := (HL_W1.out.cell (p := ⟨wa.heap.size, 0, none⟩) hl_S).trans k_S_0
      replace k_S_1 : W1.cell? ⟨wa.heap.size, 1, none⟩ = some (.slice rs (nlen (ps).num.natAbs) cs) := (HL_W1.out.cell (p := ⟨wa.heap.size, 1, none⟩) hl_S).trans k_S_1
      replace k_S_2 : W1.cell? ⟨wa.heap.size, 2, none⟩ = some (.slice rs2 (nlen (ps).den) cs2) := (HL_W1.out.cell (p := ⟨wa.heap.size, 2, none⟩) hl_S).trans k_S_2
      replace f_S : ∀ o, W1.frozen? ⟨wa.heap.size, o, none⟩ = false := fun o => (HL_W1.out.frozen (p := ⟨wa.heap.size, o, none⟩) hl_S).trans (f_S o)
      replace HX_S := Lib.hid (show Bn W1 (wa.heap.size) by rw [← hW]; exact KpA)
      replace k_R_0 : W1.cell? ⟨w.heap.size, 0, none⟩ = some (.bool false) := (HL_W1.out.cell (p := ⟨w.heap.size, 0, none⟩) hl_R).trans k_R_0
      replace k_R_1 : W1.cell? ⟨w.heap.size, 1, none⟩ = some (.slice none 0 0) := (HL_W1.out.cell (p := ⟨w.heap.size, 1, none⟩) hl_R).trans k_R_1
      replace k_R_2 : W1.cell? ⟨w.heap.size, 2, none⟩ = some (.slice none 0 0) := (HL_W1.out.cell (p := ⟨w.heap.size, 2, none⟩) hl_R).trans k_R_2
      replace f_R : ∀ o, W1.frozen? ⟨w.heap.size, o, none⟩ = false := fun o => (HL_W1.out.frozen (p := ⟨w.heap.size, o, none⟩) hl_R).trans (f_R o)
      replace HX_R := Lib.hid (show Bn W1 (w.heap.size) by rw [← hW]; exact KpA)
      replace HT1 := Lib.hid (HT1.out.keep HK_W1.out)
      replace HT2 := Lib.hid (HT2.out.keep HK_W1.out)
      replace HR := Lib.hid (HR.out.keep HK_W1.out)
      replace HB := Lib.hid (show Below w.heap.size w W1 by rw [← hW]; exact BlA)
      replace hN : N ≤ W1.heap.size := by rw [← hW]; exact OmA
      replace hs0 : w.heap.size ≤ W1.heap.size := by rw [← hW]; exact OmA
      replace hl_S : wa.heap.size < W1.heap.size := by rw [← hW]; exact OmA
      replace hl_R : w.heap.size < W1.heap.size := by rw [← hW]; exact OmA
      clear HL_W1
      clear hW HK_W1
      go_cut [7] (fun s7 wx => CutRat N W1 px s7 wx)
      case first =>
        refine region_inv2 (by kernel_rfl) (MomJ1 N pk px s' ra da rnn rc dn dc b0 o0 n cap k (W1)) ?_ ?_ ?_ ?_
        · exact ⟨u15, u16, u17, u18, u19, u20, u21, u7, by simp only [Act.put, List.setIfInBounds_toArray, List.set_cons_zero, List.set_cons_succ], .inl ⟨rfl, Since.drawn _, (fun h => by cases h), (fun h => by cases h), (fun h => by cases h), (fun h => by cases h), (fun h => by cases h), (fun h => by cases h), (fun h => by cases h), (fun h => by cases h)⟩⟩
        · exact acyc_spec (by kernel_rfl)
        · intro Ls a0 wq i o ho hLi hafter hJ
          obtain ⟨u15, u16, u17, u18, u19, u20, u21, u7, rfl, hJ | ⟨h10, hall, _⟩⟩ := hJ
          · obtain ⟨hLl, hS, p0, p1, p2, p3, p4, p5, p6, p7⟩ := hJ
            have hi : i < 9 := (Array.getElem?_eq_some_iff.1 ho).1
            obtain rfl | rfl | rfl | rfl | rfl | rfl | rfl | rfl | rfl : i = 0 ∨ i = 1 ∨ i = 2 ∨ i = 3 ∨ i = 4 ∨ i = 5 ∨ i = 6 ∨ i = 7 ∨ i = 8 := by omega
            · simp only [List.getElem?_toArray, List.getElem?_cons_zero, Option.some.injEq] at ho
              subst ho
              have P0 := Lib.hid p0
              have P1 := Lib.hid p1
              have P2 := Lib.hid p2
              have P3 := Lib.hid p3
              have P4 := Lib.hid p4
              have P5 := Lib.hid p5
              have P6 := Lib.hid p6
              have P7 := Lib.hid p7
              have HS := Lib.hid hS
              clear hS hLi hafter p0 p1 p2 p3 p4 p5 p6 p7
              simp only [Act.put, List.setIfInBounds_toArray, List.set_cons_zero, List.set_cons_succ]
              go_wp2_with fail
              exact ⟨.slice (some ⟨b0, o0, none⟩) n cap, u16, u17, u18, u19, u20, u21, u7, by simp only [Act.put, List.setIfInBounds_toArray, List.set_cons_zero, List.set_cons_succ], .inl ⟨by simpa using hLl, HS.out, (fun _ => rfl), (fun h => by first | rfl | exact P1.out (by simpa using h)), (fun h => by first | rfl | exact P2.out (by simpa using h)), (fun h => by first | rfl | exact P3.out (by simpa using h)), (fun h => by first | rfl | exact P4.out (by simpa using h)), (fun h => P5.out (by simpa using h)), (fun h => P6.out (by simpa using h)), (fun h => P7.out (by simpa using h))⟩⟩
            · simp only [List.getElem?_toArray, List.getElem?_cons_zero, List.getElem?_cons_succ, Option.some.injEq] at ho
              subst ho
              have P0 := Lib.hid p0
              have P1 := Lib.hid p1
              have P2 := Lib.hid p2
              have P3 := Lib.hid p3
              have P4 := Lib.hid p4
              have P5 := Lib.hid p5
              have P6 := Lib.hid p6
              have P7 := Lib.hid p7
              have HS := Lib.hid hS
              clear hS hLi hafter p0 p1 p2 p3 p4 p5 p6 p7
              simp only [Act.put, List.setIfInBounds_toArray, List.set_cons_zero, List.set_cons_succ]
              go_wp2_with fail
              exact ⟨u15, .int .i64 k, u17, u18, u19, u20, u21, u7, by simp only [Act.put, List.setIfInBounds_toArray, List.set_cons_zero, List.set_cons_succ], .inl ⟨by simpa using hLl, HS.out, (fun h => by first | rfl | exact P0.out (by simpa using h)), (fun _ => rfl), (fun h => by first | rfl | exact P2.out (by simpa using h)), (fun h => by first | rfl | exact P3.out (by simpa using h)), (fun h => by first | rfl | exact P4.out (by simpa using h)), (fun h => P5.out (by simpa using h)), (fun h => P6.out (by simpa using h)), (fun h => P7.out (by simpa using h))⟩⟩
            · simp only [List.getElem?_toArray, List.getElem?_cons_zero, List.getElem?_cons_succ, Option.some.injEq] at ho
              subst ho
              obtain rfl := p0 (hafter ⟨0, .data⟩ (by simp) rfl)
              obtain rfl := p1 (hafter ⟨1, .data⟩ (by simp) rfl)
              have P0 := Lib.hid p0
              have P1 := Lib.hid p1
              have P2 := Lib.hid p2
              have P3 := Lib.hid p3
              have P4 := Lib.hid p4
              have P5 := Lib.hid p5
              have P6 := Lib.hid p6
              have P7 := Lib.hid p7
              have HS := Lib.hid hS
              clear hS hLi hafter p0 p1 p2 p3 p4 p5 p6 p7
              simp only [Act.put, List.setIfInBounds_toArray, List.set_cons_zero, List.set_cons_succ]
              go_wp2_with fail
              exact ⟨.slice (some ⟨b0, o0, none⟩) n cap, .int .i64 k, .pointer (some ⟨b0, o0 + k * 3, none⟩), u18, u19, u20, u21, u7, by simp only [Act.put, List.setIfInBounds_toArray, List.set_cons_zero, List.set_cons_succ], .inl ⟨by simpa using hLl, HS.out, (fun h => by first | rfl | exact P0.out (by simpa using h)), (fun h => by first | rfl | exact P1.out (by simpa using h)), (fun _ => rfl), (fun h => by first | rfl | exact P3.out (by simpa using h)), (fun h => by first | rfl | exact P4.out (by simpa using h)), (fun h => P5.out (by simpa using h)), (fun h => P6.out (by simpa using h)), (fun h => P7.out (by simpa using h))⟩⟩
            · simp only [List.getElem?_toArray, List.getElem?_cons_zero, List.getElem?_cons_succ, Option.some.injEq] at ho
              subst ho
              obtain rfl := p2 (hafter ⟨2, .data⟩ (by simp) rfl)
              have c0 := (hS.1.cell (p := ⟨b0, o0 + k * 3, none⟩) hlb).trans g0
              have c1 := (hS.1.cell (p := ⟨b0, o0 + k * 3 + 1, none⟩) hlb).trans g1
              have c2 := (hS.1.cell (p := ⟨b0, o0 + k * 3 + 2, none⟩) hlb).trans g2
              have P0 := Lib.hid p0
              have P1 := Lib.hid p1
              have P2 := Lib.hid p2
              have P3 := Lib.hid p3
              have P4 := Lib.hid p4
              have P5 := Lib.hid p5
              have P6 := Lib.hid p6
              have P7 := Lib.hid p7
              have HS := Lib.hid hS
              clear hS hLi hafter p0 p1 p2 p3 p4 p5 p6 p7
              simp only [Act.put, List.setIfInBounds_toArray, List.set_cons_zero, List.set_cons_succ]
              go_wp2_with fail
              exact ⟨u15, u16, .pointer (some ⟨b0, o0 + k * 3, none⟩), .agg #[.bool s', .slice ra rnn rc, .slice da dn dc], u19, u20, u21, u7, by simp only [Act.put, List.setIfInBounds_toArray, List.set_cons_zero, List.set_cons_succ], .inl ⟨by simpa using hLl, HS.out, (fun h => by first | rfl | exact P0.out (by simpa using h)), (fun h => by first | rfl | exact P1.out (by simpa using h)), (fun h => by first | rfl | exact P2.out (by simpa using h)), (fun _ => rfl), (fun h => by first | rfl | exact P4.out (by simpa using h)), (fun h => P5.out (by simpa using h)), (fun h => P6.out (by simpa using h)), (fun h => P7.out (by simpa using h))⟩⟩
            · simp only [List.getElem?_toArray, List.getElem?_cons_zero, List.getElem?_cons_succ, Option.some.injEq] at ho
              subst ho
              have P0 := Lib.hid p0
              have P1 := Lib.hid p1
              have P2 := Lib.hid p2
              have P3 := Lib.hid p3
              have P4 := Lib.hid p4
              have P5 := Lib.hid p5
              have P6 := Lib.hid p6
              have P7 := Lib.hid p7
              have HS := Lib.hid hS
              clear hS hLi hafter p0 p1 p2 p3 p4 p5 p6 p7
              simp only [Act.put, List.setIfInBounds_toArray, List.set_cons_zero, List.set_cons_succ]
              go_wp2_with fail
              exact ⟨u15, u16, u17, u18, .int .i64 k, u20, u21, u7, by simp only [Act.put, List.setIfInBounds_toArray, List.set_cons_zero, List.set_cons_succ], .inl ⟨by simpa using hLl, HS.out, (fun h => by first | rfl | exact P0.out (by simpa using h)), (fun h => by first | rfl | exact P1.out (by simpa using h)), (fun h => by first | rfl | exact P2.out (by simpa using h)), (fun h => by first | rfl | exact P3.out (by simpa using h)), (fun _ => rfl), (fun h => P5.out (by simpa using h)), (fun h => P6.out (by simpa using h)), (fun h => P7.out (by simpa using h))⟩⟩
            · simp only [List.getElem?_toArray, List.getElem?_cons_zero, List.getElem?_cons_succ, Option.some.injEq] at ho
              subst ho
              obtain rfl := p4 (hafter ⟨4, .data⟩ (by simp) rfl)
              have P0 := Lib.hid p0
              have P1 := Lib.hid p1
              have P2 := Lib.hid p2
              have P3 := Lib.hid p3
              have P4 := Lib.hid p4
              have P5 := Lib.hid p5
              have P6 := Lib.hid p6
              have P7 := Lib.hid p7
              have HS := Lib.hid hS
              clear hS hLi hafter p0 p1 p2 p3 p4 p5 p6 p7
              simp only [Act.put, List.setIfInBounds_toArray, List.set_cons_zero, List.set_cons_succ]
              go_wp2_with fail
              refine (Whole_z (N := N) (k : Int) k rfl _ (by have := HS.out.2; omega) (by omega) pk HPK.out).mono ?_
              rintro e wn ⟨r, c, r2, c2, rfl, hn, hn', hb⟩
              have HN := Lib.hid hn
              have HM := Lib.hid hn'
              have Hb := Lib.hid hb
              clear hn hn' hb
              go_wp2_with fail
              exact ⟨u15, u16, u17, u18, .int .i64 k, _, u21, u7, by simp only [Act.put, List.setIfInBounds_toArray, List.set_cons_zero, List.set_cons_succ], .inl ⟨by simpa using hLl, HS.out.below Hb.out, (fun h => by first | rfl | exact P0.out (by simpa using h)), (fun h => by first | rfl | exact P1.out (by simpa using h)), (fun h => by first | rfl | exact P2.out (by simpa using h)), (fun h => by first | rfl | exact P3.out (by simpa using h)), (fun h => by first | rfl | exact P4.out (by simpa using h)), (fun _ => ⟨r, c, r2, c2, rfl, HN.out, HM.out⟩), (fun h => (P6.out (by simpa using h)).below Hb.out), (fun h => (P7.out (by simpa using h)).below Hb.out)⟩⟩
            · simp only [List.getElem?_toArray, List.getElem?_cons_zero, List.getElem?_cons_succ, Option.some.injEq] at ho
              subst ho
              obtain rfl := p3 (hafter ⟨3, .data⟩ (by simp) rfl)
              obtain ⟨r5, c5, t5, d5, rfl, hn5, hm5⟩ := p5 (hafter ⟨5, .data⟩ (by simp) rfl)
              have HN5 := Lib.hid hn5
              have HM5 := Lib.hid hm5
              clear hn5 hm5
              have P0 := Lib.hid p0
              have P1 := Lib.hid p1
              have P2 := Lib.hid p2
              have P3 := Lib.hid p3
              have P4 := Lib.hid p4
              have P5 := Lib.hid p5
              have P6 := Lib.hid p6
              have P7 := Lib.hid p7
              have HS := Lib.hid hS
              clear hS hLi hafter p0 p1 p2 p3 p4 p5 p6 p7
              simp only [Act.put, List.setIfInBounds_toArray, List.set_cons_zero, List.set_cons_succ]
              go_wp2_with fail
              refine (xrmul_any (N := N) _ _ _ _ _ _ _ _ _ _ _ _ _ _ L 1 (q k) pk _ (by have := HS.out.2; omega) (HR.out.below HS.out.1) (Rt.of_norm HN5.out HM5.out 1 HZK.out) (by omega) (by omega) px HPX.out).mono ?_
              rintro e wn ⟨r, c, r2, c2, rfl, hn, hn', hb⟩
              have HN := Lib.hid hn
              have HM := Lib.hid hn'
              have Hb := Lib.hid hb
              clear hn hn' hb
              go_wp2_with fail
              exact ⟨u15, u16, u17, .agg #[.bool s', .slice ra rnn rc, .slice da dn dc], u19, _, _, u7, by simp only [Act.put, List.setIfInBounds_toArray, List.set_cons_zero, List.set_cons_succ], .inl ⟨by simpa using hLl, HS.out.below Hb.out, (fun h => by first | rfl | exact P0.out (by simpa using h)), (fun h => by first | rfl | exact P1.out (by simpa using h)), (fun h => by first | rfl | exact P2.out (by simpa using h)), (fun h => by first | rfl | exact P3.out (by simpa using h)), (fun h => by first | rfl | exact P4.out (by simpa using h)), (fun h => (P5.out (by simpa using h)).below Hb.out), (fun _ => ⟨r, c, r2, c2, rfl, HN.out, HM.out⟩), (fun h => (P7.out (by simpa using h)).below Hb.out)⟩⟩
            · simp only [List.getElem?_toArray, List.getElem?_cons_zero, List.getElem?_cons_succ, Option.some.injEq] at ho
              subst ho
              have P0 := Lib.hid p0
              have P1 := Lib.hid p1
              have P2 := Lib.hid p2
              have P3 := Lib.hid p3
              have P4 := Lib.hid p4
              have P5 := Lib.hid p5
              have P6 := Lib.hid p6
              have P7 := Lib.hid p7
              have HS := Lib.hid hS
              clear hS hLi hafter p0 p1 p2 p3 p4 p5 p6 p7
              simp only [Act.put, List.setIfInBounds_toArray, List.set_cons_zero, List.set_cons_succ]
              go_wp2_with fail
              exact ⟨u15, u16, u17, u18, u19, u20, u21, _, by simp only [Act.put, List.setIfInBounds_toArray, List.set_cons_zero, List.set_cons_succ], .inl ⟨by simpa using hLl, HS.out.below (bel1 wq (.cells #[.bool false, .slice none 0 0, .slice none 0 0] 28)), (fun h => by first | rfl | exact P0.out (by simpa using h)), (fun h => by first | rfl | exact P1.out (by simpa using h)), (fun h => by first | rfl | exact P2.out (by simpa using h)), (fun h => by first | rfl | exact P3.out (by simpa using h)), (fun h => by first | rfl | exact P4.out (by simpa using h)), (fun h => (P5.out (by simpa using h)).below (bel1 wq (.cells #[.bool false, .slice none 0 0, .slice none 0 0] 28))), (fun h => (P6.out (by simpa using h)).below (bel1 wq (.cells #[.bool false, .slice none 0 0, .slice none 0 0] 28))), (fun _ => ⟨wq.heap.size, rfl, HS.out.2, Bk.new _ _ _⟩)⟩⟩
            · simp only [List.getElem?_toArray, List.getElem?_cons_zero, List.getElem?_cons_succ, Option.some.injEq] at ho
              subst ho
              have hall : ∀ j, j < 8 → Ls j = true := by
                intro j hj
                obtain rfl | rfl | rfl | rfl | rfl | rfl | rfl | rfl : j = 0 ∨ j = 1 ∨ j = 2 ∨ j = 3 ∨ j = 4 ∨ j = 5 ∨ j = 6 ∨ j = 7 := by omega
                all_goals exact hafter ⟨_, .phase⟩ (by simp) rfl
              have HALL := Lib.hid hall
              clear hall
              obtain ⟨r6, c6, t6, d6, rfl, hn6, hm6⟩ := p6 (hafter ⟨6, .data⟩ (by simp) rfl)
              have HN6 := Lib.hid hn6
              have HM6 := Lib.hid hm6
              clear hn6 hm6
              obtain ⟨g, rfl, hg, hbk⟩ := p7 (hafter ⟨7, .data⟩ (by simp) rfl)
              have f0 := hbk.frozen
              have HK := Lib.hid hbk
              obtain ⟨v0, hv0⟩ := hbk.cell (o := 0) (by omega)
              obtain ⟨v1, hv1⟩ := hbk.cell (o := 1) (by omega)
              obtain ⟨v2, hv2⟩ := hbk.cell (o := 2) (by omega)
              clear hbk
              have P0 := Lib.hid p0
              have P1 := Lib.hid p1
              have P2 := Lib.hid p2
              have P3 := Lib.hid p3
              have P4 := Lib.hid p4
              have P5 := Lib.hid p5
              have P6 := Lib.hid p6
              have P7 := Lib.hid p7
              have HS := Lib.hid hS
              clear hS hLi hafter p0 p1 p2 p3 p4 p5 p6 p7
              simp only [Act.put, List.setIfInBounds_toArray, List.set_cons_zero, List.set_cons_succ]
              go_wp2_with fail
              exact ⟨u15, u16, u17, u18, u19, u20, .agg #[.bool (decide ((px).num < 0)), .slice r6 (nlen (px).num.natAbs) c6, .slice t6 (nlen (px).den) d6], .pointer (some ⟨g, 0, none⟩), by simp only [Act.put, List.setIfInBounds_toArray, List.set_cons_zero, List.set_cons_succ], .inr ⟨by simp, fun j hj => by simp [HALL.out j hj], cutRat_of hN hg HK.out HN6.out HM6.out HS.out⟩⟩
          · exfalso
            have hi : i < 9 := (Array.getElem?_eq_some_iff.1 ho).1
            rcases Nat.lt_or_ge i 8 with h | h
            · rw [hall i h] at hLi; cases hLi
            · obtain rfl : i = 8 := by omega
              rw [h10] at hLi; cases hLi
        · intro Ls a0 wq hall hJ
          obtain ⟨u15, u16, u17, u18, u19, u20, u21, u7, rfl, ⟨h10, _⟩ | ⟨_, _, hcut⟩⟩ := hJ
          · rw [hall 8 (by decide)] at h10; cases h10
          · have HC := Lib.hid hcut
            clear hcut
            simp only [Act.put, List.setIfInBounds_toArray, List.set_cons_zero, List.set_cons_succ]
            go_wp2_with fail
            go_meet
            exact HC.out
      case rest =>
        obtain ⟨wx, rfl⟩ : ∃ wx : World, wx = wc := ⟨_, rfl⟩
        obtain ⟨g, rx, cx, rx2, cx2, rfl, hg, hk1, kx0, kx1, kx2, hn, hn', hs⟩ := hcut
        have hb := hs.1
        have hd_S_X := Nat.lt_of_lt_of_le hl_S hg
        clear hs g0 g1 g2 hlb
        clear HR
        have hs_wx : W1.heap.size ≤ wx.heap.size := hb.size
        replace k_S_0 : wx.cell? ⟨wa.heap.size, 0, none⟩ = some (.bool (decide ((ps).num < 0))) := (hb.cell (p := ⟨wa.heap.size, 0, none⟩) hl_S).trans k_S_0
        replace k_S_1 : wx.cell? ⟨wa.heap.size, 1, none⟩ = some (.slice rs (nlen (ps).num.natAbs) cs) := (hb.cell (p := ⟨wa.heap.size, 1, none⟩) hl_S).trans k_S_1
        replace k_S_2 : wx.cell? ⟨wa.heap.size, 2, none⟩ = some (.slice rs2 (nlen (ps).den) cs2) := (hb.cell (p := ⟨wa.heap.size, 2, none⟩) hl_S).trans k_S_2
        replace f_S : ∀ o, wx.frozen? ⟨wa.heap.size, o, none⟩ = false := fun o => (hb.frozen (p := ⟨wa.heap.size, o, none⟩) hl_S).trans (f_S o)
        replace HX_S := Lib.hid (HX_S.out.below hb)
        replace k_R_0 : wx.cell? ⟨w.heap.size, 0, none⟩ = some (.bool false) := (hb.cell (p := ⟨w.heap.size, 0, none⟩) hl_R).trans k_R_0
        replace k_R_1 : wx.cell? ⟨w.heap.size, 1, none⟩ = some (.slice none 0 0) := (hb.cell (p := ⟨w.heap.size, 1, none⟩) hl_R).trans k_R_1
        replace k_R_2 : wx.cell? ⟨w.heap.size, 2, none⟩ = some (.slice none 0 0) := (hb.cell (p := ⟨w.heap.size, 2, none⟩) hl_R).trans k_R_2
        replace f_R : ∀ o, wx.frozen? ⟨w.heap.size, o, none⟩ = false := fun o => (hb.frozen (p := ⟨w.heap.size, o, none⟩) hl_R).trans (f_R o)
        replace HX_R := Lib.hid (HX_R.out.below hb)
        replace HT1 := Lib.hid (HT1.out.below hb)
        replace HT2 := Lib.hid (HT2.out.below hb)
        replace HB := Lib.hid (HB.out.trans (hb.mono hs0))
        replace hN : N ≤ wx.heap.size := Nat.le_trans hN hb.size
        replace hs0 : w.heap.size ≤ wx.heap.size := Nat.le_trans hs0 hb.size
        replace hl_S : wa.heap.size < wx.heap.size := Nat.lt_of_lt_of_le hl_S hb.size
        replace hl_R : w.heap.size < wx.heap.size := Nat.lt_of_lt_of_le hl_R hb.size
        clear hb
        have HX1 := Lib.hid hn
        have HX2 := Lib.hid hn'
        clear hn hn'
        have hl_X := hk1.lt
        have f_X := hk1.frozen
        have HX_X := Lib.hid (hk1.bx.bn (by decide))
        have k_X_0 := kx0
        have k_X_1 := kx1
        have k_X_2 := kx2
        clear kx0 kx1 kx2 hk1
        go_wp2_with fail
        refine calls_name fun W3 hW => ?_
        have HL_W3 := Lib.hid (show Below wx.heap.size wx W3 by rw [← hW]; exact BlA)
        have hs_W3 : wx.heap.size ≤ W3.heap.size := by rw [← hW]; exact OmA
        have HK_W3 := Lib.hid (show Kp N wx W3 by rw [← hW]; exact KpA)
        replace k_S_0 : W3.cell? ⟨wa.heap.size, 0, none⟩ = some (.bool (decide ((ps).num < 0))) := (HL_W3.out.cell (p := ⟨wa.heap.size, 0, none⟩) hl_S).trans k_S_0
        replace k_S_1 : W3.cell? ⟨wa.heap.size, 1, none⟩ = some (.slice rs (nlen (ps).num.natAbs) cs) := (HL_W3.out.cell (p := ⟨wa.heap.size, 1, none⟩) hl_S).trans k_S_1
        replace k_S_2 : W3.cell? ⟨wa.heap.size, 2, none⟩ = some (.slice rs2 (nlen (ps).den) cs2) := (HL_W3.out.cell (p := ⟨wa.heap.size, 2, none⟩) hl_S).trans k_S_2
        replace f_S : ∀ o, W3.frozen? ⟨wa.heap.size, o, none⟩ = false := fun o => (HL_W3.out.frozen (p := ⟨wa.heap.size, o, none⟩) hl_S).trans (f_S o)
        replace HX_S := Lib.hid (show Bn W3 (wa.heap.size) by rw [← hW]; exact KpA)
        replace k_R_0 : W3.cell? ⟨w.heap.size, 0, none⟩ = some (.bool false) := (HL_W3.out.cell (p := ⟨w.heap.size, 0, none⟩) hl_R).trans k_R_0
        replace k_R_1 : W3.cell? ⟨w.heap.size, 1, none⟩ = some (.slice none 0 0) := (HL_W3.out.cell (p := ⟨w.heap.size, 1, none⟩) hl_R).trans k_R_1
        replace k_R_2 : W3.cell? ⟨w.heap.size, 2, none⟩ = some (.slice none 0 0) := (HL_W3.out.cell (p := ⟨w.heap.size, 2, none⟩) hl_R).trans k_R_2
        replace f_R : ∀ o, W3.frozen? ⟨w.heap.size, o, none⟩ = false := fun o => (HL_W3.out.frozen (p := ⟨w.heap.size, o, none⟩) hl_R).trans (f_R o)
        replace HX_R := Lib.hid (show Bn W3 (w.heap.size) by rw [← hW]; exact KpA)
        replace k_X_0 : W3.cell? ⟨g, 0, none⟩ = some (.bool (decide ((px).num < 0))) := (HL_W3.out.cell (p := ⟨g, 0, none⟩) hl_X).trans k_X_0
        replace k_X_1 : W3.cell? ⟨g, 1, none⟩ = some (.slice rx (nlen (px).num.natAbs) cx) := (HL_W3.out.cell (p := ⟨g, 1, none⟩) hl_X).trans k_X_1
        replace k_X_2 : W3.cell? ⟨g, 2, none⟩ = some (.slice rx2 (nlen (px).den) cx2) := (HL_W3.out.cell (p := ⟨g, 2, none⟩) hl_X).trans k_X_2
        replace f_X : ∀ o, W3.frozen? ⟨g, o, none⟩ = false := fun o => (HL_W3.out.frozen (p := ⟨g, o, none⟩) hl_X).trans (f_X o)
        replace HX_X := Lib.hid (show Bn W3 (g) by rw [← hW]; exact KpA)
        replace HT1 := Lib.hid (HT1.out.keep HK_W3.out)
        replace HT2 := Lib.hid (HT2.out.keep HK_W3.out)
        replace HX1 := Lib.hid (HX1.out.keep HK_W3.out)
        replace HX2 := Lib.hid (HX2.out.keep HK_W3.out)
        replace HB := Lib.hid (show Below w.heap.size w W3 by rw [← hW]; exact BlA)
        replace hN : N ≤ W3.heap.size := by rw [← hW]; exact OmA
        replace hs0 : w.heap.size ≤ W3.heap.size := by rw [← hW]; exact OmA
        replace hl_S : wa.heap.size < W3.heap.size := by rw [← hW]; exact OmA
        replace hl_R : w.heap.size < W3.heap.size := by rw [← hW]; exact OmA
        replace hl_X : g < W3.heap.size := by rw [← hW]; exact OmA
        clear HL_W3
        clear hW HK_W3
        refine (xradd_any (N := N) _ _ _ _ _ _ _ _ _ _ _ _ _ _ 263192576 (L + 2) ps px _ hN (Rt.of_norm HT1.out HT2.out _ HZS.out) (Rt.of_norm HX1.out HX2.out _ (by have := HZX.out; omega)) (by omega) (by omega) pn HPN.out).mono ?_
        rintro e wd ⟨rn, cn, rn2, cn2, rfl, hn, hn', hb⟩
        have hs_wd : W3.heap.size ≤ wd.heap.size := hb.size
        replace k_S_0 : wd.cell? ⟨wa.heap.size, 0, none⟩ = some (.bool (decide ((ps).num < 0))) := (hb.cell (p := ⟨wa.heap.size, 0, none⟩) hl_S).trans k_S_0
        replace k_S_1 : wd.cell? ⟨wa.heap.size, 1, none⟩ = some (.slice rs (nlen (ps).num.natAbs) cs) := (hb.cell (p := ⟨wa.heap.size, 1, none⟩) hl_S).trans k_S_1
        replace k_S_2 : wd.cell? ⟨wa.heap.size, 2, none⟩ = some (.slice rs2 (nlen (ps).den) cs2) := (hb.cell (p := ⟨wa.heap.size, 2, none⟩) hl_S).trans k_S_2
        replace f_S : ∀ o, wd.frozen? ⟨wa.heap.size, o, none⟩ = false := fun o => (hb.frozen (p := ⟨wa.heap.size, o, none⟩) hl_S).trans (f_S o)
        replace HX_S := Lib.hid (HX_S.out.below hb)
        replace k_R_0 : wd.cell? ⟨w.heap.size, 0, none⟩ = some (.bool false) := (hb.cell (p := ⟨w.heap.size, 0, none⟩) hl_R).trans k_R_0
        replace k_R_1 : wd.cell? ⟨w.heap.size, 1, none⟩ = some (.slice none 0 0) := (hb.cell (p := ⟨w.heap.size, 1, none⟩) hl_R).trans k_R_1
        replace k_R_2 : wd.cell? ⟨w.heap.size, 2, none⟩ = some (.slice none 0 0) := (hb.cell (p := ⟨w.heap.size, 2, none⟩) hl_R).trans k_R_2
        replace f_R : ∀ o, wd.frozen? ⟨w.heap.size, o, none⟩ = false := fun o => (hb.frozen (p := ⟨w.heap.size, o, none⟩) hl_R).trans (f_R o)
        replace HX_R := Lib.hid (HX_R.out.below hb)
        replace k_X_0 : wd.cell? ⟨g, 0, none⟩ = some (.bool (decide ((px).num < 0))) := (hb.cell (p := ⟨g, 0, none⟩) hl_X).trans k_X_0
        replace k_X_1 : wd.cell? ⟨g, 1, none⟩ = some (.slice rx (nlen (px).num.natAbs) cx) := (hb.cell (p := ⟨g, 1, none⟩) hl_X).trans k_X_1
        replace k_X_2 : wd.cell? ⟨g, 2, none⟩ = some (.slice rx2 (nlen (px).den) cx2) := (hb.cell (p := ⟨g, 2, none⟩) hl_X).trans k_X_2
        replace f_X : ∀ o, wd.frozen? ⟨g, o, none⟩ = false := fun o => (hb.frozen (p := ⟨g, o, none⟩) hl_X).trans (f_X o)
        replace HX_X := Lib.hid (HX_X.out.below hb)
        replace HT1 := Lib.hid (HT1.out.below hb)
        replace HT2 := Lib.hid (HT2.out.below hb)
        replace HX1 := Lib.hid (HX1.out.below hb)
        replace HX2 := Lib.hid (HX2.out.below hb)
        replace HB := Lib.hid (HB.out.trans (hb.mono hs0))
        replace hN : N ≤ wd.heap.size := Nat.le_trans hN hb.size
        replace hs0 : w.heap.size ≤ wd.heap.size := Nat.le_trans hs0 hb.size
        replace hl_S : wa.heap.size < wd.heap.size := Nat.lt_of_lt_of_le hl_S hb.size
        replace hl_R : w.heap.size < wd.heap.size := Nat.lt_of_lt_of_le hl_R hb.size
        replace hl_X : g < wd.heap.size := Nat.lt_of_lt_of_le hl_X hb.size
        clear hb
        have HN1 := Lib.hid hn
        clear hn
        have HN2 := Lib.hid hn'
        clear hn'
        go_wp2_with fail
        go_roundw
        case rel =>
          refine ⟨k + 1, pn, by omega, by go_num, HSN.out, ⟨rn, cn, rn2, cn2, ⟨by first | omega | (simp; done) | (simp; omega), by exact KpA, fun o => by first | with_reducible exact f_S o | (simp [go_sem, f_S]; done) | (simp [go_sem, f_S, hl_S]; done) | (go_simp; done) | (simp; done) | (simp [go_sem]; done) | (simp [go_sem, k_S_0, k_S_1, k_S_2, k_R_0, k_R_1, k_R_2, k_X_0, k_X_1, k_X_2, f_S, f_R, f_X, hl_S, hl_R, hl_X]; done), by first | with_reducible assumption | (simp [go_sem, k_S_0]; done) | (simp [go_sem, k_S_0, hl_S]; done) | (go_simp; done) | (simp; done) | (simp [go_sem]; done) | (simp [go_sem, k_S_0, k_S_1, k_S_2, k_R_0, k_R_1, k_R_2, k_X_0, k_X_1, k_X_2, f_S, f_R, f_X, hl_S, hl_R, hl_X]; done), by first | with_reducible assumption | (simp [go_sem, k_S_1]; done) | (simp [go_sem, k_S_1, hl_S]; done) | (go_simp; done) | (simp; done) | (simp [go_sem]; done) | (simp [go_sem, k_S_0, k_S_1, k_S_2, k_R_0, k_R_1, k_R_2, k_X_0, k_X_1, k_X_2, f_S, f_R, f_X, hl_S, hl_R, hl_X]; done), by first | with_reducible assumption | (simp [go_sem, k_S_2]; done) | (simp [go_sem, k_S_2, hl_S]; done) | (go_simp; done) | (simp; done) | (simp [go_sem]; done) | (simp [go_sem, k_S_0, k_S_1, k_S_2, k_R_0, k_R_1, k_R_2, k_X_0, k_X_1, k_X_2, f_S, f_R, f_X, hl_S, hl_R, hl_X]; done)⟩, HN1.out.keep ?_, HN2.out.keep ?_⟩, ⟨by first | omega | (simp; done) | (simp; omega), by exact KpA, fun o => by first | with_reducible exact f_R o | (simp [go_sem, f_R]; done) | (simp [go_sem, f_R, hl_R]; done) | (go_simp; done) | (simp; done) | (simp [go_sem]; done) | (simp [go_sem, k_S_0, k_S_1, k_S_2, k_R_0, k_R_1, k_R_2, k_X_0, k_X_1, k_X_2, f_S, f_R, f_X, hl_S, hl_R, hl_X]; done), by first | with_reducible assumption | (simp [go_sem, k_R_0]; done) | (simp [go_sem, k_R_0, hl_R]; done) | (go_simp; done) | (simp; done) | (simp [go_sem]; done) | (simp [go_sem, k_S_0, k_S_1, k_S_2, k_R_0, k_R_1, k_R_2, k_X_0, k_X_1, k_X_2, f_S, f_R, f_X, hl_S, hl_R, hl_X]; done), by first | with_reducible assumption | (simp [go_sem, k_R_1]; done) | (simp [go_sem, k_R_1, hl_R]; done) | (go_simp; done) | (simp; done) | (simp [go_sem]; done) | (simp [go_sem, k_S_0, k_S_1, k_S_2, k_R_0, k_R_1, k_R_2, k_X_0, k_X_1, k_X_2, f_S, f_R, f_X, hl_S, hl_R, hl_X]; done), by first | with_reducible assumption | (simp [go_sem, k_R_2]; done) | (simp [go_sem, k_R_2, hl_R]; done) | (go_simp; done) | (simp; done) | (simp [go_sem]; done) | (simp [go_sem, k_S_0, k_S_1, k_S_2, k_R_0, k_R_1, k_R_2, k_X_0, k_X_1, k_X_2, f_S, f_R, f_X, hl_S, hl_R, hl_X]; done)⟩, ?_, ?_⟩
          all_goals exact KBA
        case measure => simp [intOf]; omega
    · obtain rfl : k = n := by omega
      obtain rfl : ps = p := HPS.out.symm.trans HP.out
      go_wp2_with fail
      refine bodyPost_ret (v := .agg #[.bool (decide ((ps).num < 0)), .slice rs (nlen (ps).num.natAbs) cs, .slice rs2 (nlen (ps).den) cs2]) (by simp [results, Tryz.results25, go_sem, k_R_0, k_R_1, k_R_2]) rfl ⟨_, _, _, _, rfl, HT1.out.keep ?_, HT2.out.keep ?_, ?_⟩
      all_goals exact KBA

set_option maxHeartbeats 8000000 in
theorem moment2_any {N : Nat} (a : Option Addr) (n cap : Nat) (q : Nat → Rat) (L : Nat) (w : World) (hN : N ≤ w.heap.size) (h : Rs N w a n cap q L) (hL : L ≤ 2097152) (hn : n ≤ 121) (p : Rat) (hp : secQ q n = p) : Calls Tryz.prog 25 #[.slice a n cap, .int .i64 2] w (RatPost N w p) := by
  obtain ⟨p0, hp0⟩ : ∃ p : Rat, ((0 : Nat) : Rat) = p := ⟨_, rfl⟩
  have HE0 := Lib.hid (show sQ (fun i => q i * (i : Rat) * (i : Rat)) 0 = p0 from (natQ_zero p0 hp0).symm)
  have HP0 := Lib.hid hp0
  have HP := Lib.hid hp
  have HLim := Lib.hid h.lim
  clear hp0 hp
  have hN0 := hN
  have HA := Lib.hid h
  have bc1 := h.1
  have bc2 := h.2.1
  unfold maxLen at bc2
  clear h
  have HB := Lib.hid (Below.refl w.heap.size w)
  go_enter Tryz.func25, Tryz.ntmps25
  go_wp2_with fail
  refine calls_name fun W0 hW => ?_
  have hs_W0 : w.heap.size ≤ W0.heap.size := by rw [← hW]; exact OmA
  have k_R_0 : W0.cell? ⟨w.heap.size, 0, none⟩ = some (.bool false) := by rw [← hW]; (first | (go_simp; done) | (simp; done) | (simp [go_sem]; done) | (simp [go_sem]; done))
  have k_R_1 : W0.cell? ⟨w.heap.size, 1, none⟩ = some (.slice none 0 0) := by rw [← hW]; (first | (go_simp; done) | (simp; done) | (simp [go_sem]; done) | (simp [go_sem]; done))
  have k_R_2 : W0.cell? ⟨w.heap.size, 2, none⟩ = some (.slice none 0 0) := by rw [← hW]; (first | (go_simp; done) | (simp; done) | (simp [go_sem]; done) | (simp [go_sem]; done))
  have f_R : ∀ o, W0.frozen? ⟨w.heap.size, o, none⟩ = false := by intro o; rw [← hW]; (first | (go_simp; done) | (simp; done) | (simp [go_sem]; done) | (simp [go_sem]; done))
  have HX_R := Lib.hid (show Bn W0 (w.heap.size) by rw [← hW]; exact KpA)
  replace HB := Lib.hid (show Below w.heap.size w W0 by rw [← hW]; exact BlA)
  replace hN : N ≤ W0.heap.size := by rw [← hW]; exact OmA
  have hs0 : w.heap.size ≤ W0.heap.size := by rw [← hW]; exact OmA
  have hl_R : w.heap.size < W0.heap.size := by rw [← hW]; exact OmA
  clear hW
  refine (Whole_z (N := N) 0 0 rfl _ hN (by omega) p0 HP0.out).mono ?_
  rintro e wa ⟨rz, cz, rz2, cz2, rfl, hn, hn', hb⟩
  have hs_wa : W0.heap.size ≤ wa.heap.size := hb.size
  replace k_R_0 : wa.cell? ⟨w.heap.size, 0, none⟩ = some (.bool false) := (hb.cell (p := ⟨w.heap.size, 0, none⟩) hl_R).trans k_R_0
  replace k_R_1 : wa.cell? ⟨w.heap.size, 1, none⟩ = some (.slice none 0 0) := (hb.cell (p := ⟨w.heap.size, 1, none⟩) hl_R).trans k_R_1
  replace k_R_2 : wa.cell? ⟨w.heap.size, 2, none⟩ = some (.slice none 0 0) := (hb.cell (p := ⟨w.heap.size, 2, none⟩) hl_R).trans k_R_2
  replace f_R : ∀ o, wa.frozen? ⟨w.heap.size, o, none⟩ = false := fun o => (hb.frozen (p := ⟨w.heap.size, o, none⟩) hl_R).trans (f_R o)
  replace HX_R := Lib.hid (HX_R.out.below hb)
  replace HB := Lib.hid (HB.out.trans (hb.mono hs0))
  replace hN : N ≤ wa.heap.size := Nat.le_trans hN hb.size
  replace hs0 : w.heap.size ≤ wa.heap.size := Nat.le_trans hs0 hb.size
  replace hl_R : w.heap.size < wa.heap.size := Nat.lt_of_lt_of_le hl_R hb.size
  clear hb
  have HS1 := Lib.hid hn
  clear hn
  have HS2 := Lib.hid hn'
  clear hn'
  go_wp2_with fail
  go_loopw [6] (fun i wr => ∃ k pk, k ≤ n ∧ i = .int .i64 ((k : Nat) : Int) ∧ sQ (fun i => q i * (i : Rat) * (i : Rat)) k = pk ∧ NBox N wr wa.heap.size pk ∧ Box3 wr w.heap.size (.bool false) (.slice none 0 0) (.slice none 0 0) ∧ Below w.heap.size w wr ∧ w.heap.size ≤ wr.heap.size) (fun i _ => n - (intOf i).toNat)
  case atStart =>
    refine ⟨0, p0, Nat.zero_le _, rfl, HE0.out, ⟨rz, cz, rz2, cz2, ⟨by first | omega | (simp; done) | (simp; omega), by exact KpA, fun o => by first | (go_simp; done) | (simp; done) | (simp [go_sem]; done) | (simp [go_sem, k_R_0, k_R_1, k_R_2, f_R, hl_R]; done), by first | with_reducible assumption | (go_simp; done) | (simp; done) | (simp [go_sem]; done) | (simp [go_sem, k_R_0, k_R_1, k_R_2, f_R, hl_R]; done), by first | with_reducible assumption | (go_simp; done) | (simp; done) | (simp [go_sem]; done) | (simp [go_sem, k_R_0, k_R_1, k_R_2, f_R, hl_R]; done), by first | with_reducible assumption | (go_simp; done) | (simp; done) | (simp [go_sem]; done) | (simp [go_sem, k_R_0, k_R_1, k_R_2, f_R, hl_R]; done)⟩, HS1.out.keep ?_, HS2.out.keep ?_⟩, ⟨by first | omega | (simp; done) | (simp; omega), by exact KpA, fun o => by first | with_reducible exact f_R o | (simp [go_sem, f_R]; done) | (simp [go_sem, f_R, hl_R]; done) | (go_simp; done) | (simp; done) | (simp [go_sem]; done) | (simp [go_sem, k_R_0, k_R_1, k_R_2, f_R, hl_R]; done), by first | with_reducible assumption | (simp [go_sem, k_R_0]; done) | (simp [go_sem, k_R_0, hl_R]; done) | (go_simp; done) | (simp; done) | (simp [go_sem]; done) | (simp [go_sem, k_R_0, k_R_1, k_R_2, f_R, hl_R]; done), by first | with_reducible assumption | (simp [go_sem, k_R_1]; done) | (simp [go_sem, k_R_1, hl_R]; done) | (go_simp; done) | (simp; done) | (simp [go_sem]; done) | (simp [go_sem, k_R_0, k_R_1, k_R_2, f_R, hl_R]; done), by first | with_reducible assumption | (simp [go_sem, k_R_2]; done) | (simp [go_sem, k_R_2, hl_R]; done) | (go_simp; done) | (simp; done) | (simp [go_sem]; done) | (simp [go_sem, k_R_0, k_R_1, k_R_2, f_R, hl_R]; done)⟩, ?_, ?_⟩
    all_goals exact KBA
  case round =>
    obtain ⟨k, ps, hk, rfl, hps, ⟨rs, cs, rs2, cs2, hbx, hn1, hn2⟩, hbr, hbel, hsz⟩ := hrel
    have hd_S_R := hl_R
    clear hl_R f_R HX_R k_R_0 k_R_1 k_R_2
    obtain ⟨hl_S, bn_S, f_S, k_S_0, k_S_1, k_S_2⟩ := hbx
    have HX_S := Lib.hid bn_S
    clear bn_S
    obtain ⟨hl_R, bn_R, f_R, k_R_0, k_R_1, k_R_2⟩ := hbr
    have HX_R := Lib.hid bn_R
    clear bn_R
    have HPS := Lib.hid hps
    have HT1 := Lib.hid hn1
    have HT2 := Lib.hid hn2
    have HAr := Lib.hid (HA.out.below hbel)
    clear hn1 hn2 HS1 HS2 HB hs0 hN
    have HB := Lib.hid hbel
    have hs0 := hsz
    have hN : N ≤ wr.heap.size := by omega
    clear hbel
    have HZS := Lib.hid (show rsz ps ≤ 263192576 by rw [← hps]; have h1 := sQ_rsz (q := (fun i => q i * (i : Rat) * (i : Rat))) (k := k) (L := L + 2) (fun i hi => by have h3 := HLim.out i (by omega); have h4 := rsz_nat i (by omega) _ rfl; have h5 := rsz_mul (q i) (i : Rat); have h6 := rsz_mul (q i * (i : Rat)) (i : Rat); show rsz _ ≤ _; omega); have h2 : k * (L + 2 + 1) ≤ 121 * (L + 2 + 1) := Nat.mul_le_mul_right _ (by omega); omega)
    clear hps
    by_cases hkn : k < n
    · obtain ⟨b0, o0, rfl, hc⟩ := HAr.out.2.2 (by omega)
      obtain ⟨s', ra, rnn, rc, da, dn, dc, g0, g1, g2, hr⟩ := hc k hkn
      have HR := Lib.hid hr
      have hlb : b0 < wr.heap.size := World.block_lt_of_cell? wr _ g0
      clear hc hr HAr
      have hix0 : (0 : Int) ≤ (k : Int) := by omega
      have hix1 : (k : Int) < (n : Int) := by omega
      obtain ⟨pk, hpk⟩ : ∃ p : Rat, ((k : Nat) : Rat) = p := ⟨_, rfl⟩
      have HPK := Lib.hid hpk
      have HZK := Lib.hid (rsz_nat k (by omega) pk hpk)
      obtain ⟨px, hpx⟩ : ∃ p, q k * pk = p := ⟨_, rfl⟩
      have HPX := Lib.hid hpx
      have HZX := Lib.hid (show rsz px ≤ L + 1 by rw [← hpx]; have h1 := rsz_mul (q k) pk; have h2 := HLim.out k hkn; have h3 := HZK.out; omega)
      obtain ⟨py, hpy⟩ : ∃ p, px * pk = p := ⟨_, rfl⟩
      have HPY := Lib.hid hpy
      have HZY := Lib.hid (show rsz py ≤ L + 2 by rw [← hpy]; have h1 := rsz_mul px pk; have h2 := HZX.out; have h3 := HZK.out; omega)
      obtain ⟨pn, hpn⟩ : ∃ p, ps + py = p := ⟨_, rfl⟩
      have HPN := Lib.hid hpn
      have HSN := Lib.hid (show sQ (fun i => q i * (i : Rat) * (i : Rat)) (k + 1) = pn by rw [← hpn, ← HPS.out, ← hpy, ← hpx, ← hpk]; rfl)
      clear hpk hpx hpn hpy
      go_upto_region 5 with fail
      refine block_name fun W1 hW => ?_
      have HL_W1 := Lib.hid (show Below wr.heap.size wr W1 by rw [← hW]; exact BlA)
      have hs_W1 : wr.heap.size ≤ W1.heap.size := by rw [← hW]; exact OmA
      have HK_W1 := Lib.hid (show Kp N wr W1 by rw [← hW]; exact KpA)
      rw [hW] at g0 g1 g2 hlb
      replace k_S_0 : W1.cell? ⟨wa.heap.size, 0, none⟩ = some (.bool (decide ((ps).num < 0))) := (HL_W1.out.cell (p := ⟨wa.heap.size, 0, none⟩) hl_S).trans k_S_0
      replace k_S_1 : W1.cell? ⟨wa.heap.size, 1, none⟩ = some (.slice rs (nlen (ps).num.natAbs) cs) := (HL_W1.out.cell (p := ⟨wa.heap.size, 1, none⟩) hl_S).trans k_S_1
      replace k_S_2 : W1.cell? ⟨wa.heap.size, 2, none⟩ = some (.slice rs2 (nlen (ps).den) cs2) := (HL_W1.out.cell (p := ⟨wa.heap.size, 2, none⟩) hl_S).trans k_S_2
      replace f_S : ∀ o, W1.frozen? ⟨wa.heap.size, o, none⟩ = false := fun o => (HL_W1.out.frozen (p := ⟨wa.heap.size, o, none⟩) hl_S).trans (f_S o)
      replace HX_S := Lib.hid (show Bn W1 (wa.heap.size) by rw [← hW]; exact KpA)
      replace k_R_0 : W1.cell? ⟨w.heap.size, 0, none⟩ = some (.bool false) := (HL_W1.out.cell (p := ⟨w.heap.size, 0, none⟩) hl_R).trans k_R_0
      replace k_R_1 : W1.cell? ⟨w.heap.size, 1, none⟩ = some (.slice none 0 0) := (HL_W1.out.cell (p := ⟨w.heap.size, 1, none⟩) hl_R).trans k_R_1
      replace k_R_2 : W1.cell? ⟨w.heap.size, 2, none⟩ = some (.slice none 0 0) := (HL_W1.out.cell (p := ⟨w.heap.size, 2, none⟩) hl_R).trans k_R_2
      replace f_R : ∀ o, W1.frozen? ⟨w.heap.size, o, none⟩ = false := fun o => (HL_W1.out.frozen (p := ⟨w.heap.size, o, none⟩) hl_R).trans (f_R o)
      replace HX_R := Lib.hid (show Bn W1 (w.heap.size) by rw [← hW]; exact KpA)
      replace HT1 := Lib.hid (HT1.out.keep HK_W1.out)
      replace HT2 := Lib.hid (HT2.out.keep HK_W1.out)
      replace HR := Lib.hid (HR.out.keep HK_W1.out)
      replace HB := Lib.hid (show Below w.heap.size w W1 by rw [← hW]; exact BlA)
      replace hN : N ≤ W1.heap.size := by rw [← hW]; exact OmA
      replace hs0 : w.heap.size ≤ W1.heap.size := by rw [← hW]; exact OmA
      replace hl_S : wa.heap.size < W1.heap.size := by rw [← hW]; exact OmA
      replace hl_R : w.heap.size < W1.heap.size := by rw [← hW]; exact OmA
      clear HL_W1
      clear hW HK_W1
      go_cut [7] (fun s7 wx => CutRat N W1 px s7 wx)
      case first =>
        refine region_inv2 (by kernel_rfl) (MomJ1 N pk px s' ra da rnn rc dn dc b0 o0 n cap k (W1)) ?_ ?_ ?_ ?_
        · exact ⟨u15, u16, u17, u18, u19, u20, u21, u7, by simp only [Act.put, List.setIfInBounds_toArray, List.set_cons_zero, List.set_cons_succ], .inl ⟨rfl, Since.drawn _, (fun h => by cases h), (fun h => by cases h), (fun h => by cases h), (fun h => by cases h), (fun h => by cases h), (fun h => by cases h), (fun h => by cases h), (fun h => by cases h)⟩⟩
        · exact acyc_spec (by kernel_rfl)
        · intro Ls a0 wq i o ho hLi hafter hJ
          obtain ⟨u15, u16, u17, u18, u19, u20, u21, u7, rfl, hJ | ⟨h10, hall, _⟩⟩ := hJ
          · obtain ⟨hLl, hS, p0, p1, p2, p3, p4, p5, p6, p7⟩ := hJ
            have hi : i < 9 := (Array.getElem?_eq_some_iff.1 ho).1
            obtain rfl | rfl | rfl | rfl | rfl | rfl | rfl | rfl | rfl : i = 0 ∨ i = 1 ∨ i = 2 ∨ i = 3 ∨ i = 4 ∨ i = 5 ∨ i = 6 ∨ i = 7 ∨ i = 8 := by omega
            · simp only [List.getElem?_toArray, List.getElem?_cons_zero, Option.some.injEq] at ho
              subst ho
              have P0 := Lib.hid p0
              have P1 := Lib.hid p1
              have P2 := Lib.hid p2
              have P3 := Lib.hid p3
              have P4 := Lib.hid p4
              have P5 := Lib.hid p5
              have P6 := Lib.hid p6
              have P7 := Lib.hid p7
              have HS := Lib.hid hS
              clear hS hLi hafter p0 p1 p2 p3 p4 p5 p6 p7
              simp only [Act.put, List.setIfInBounds_toArray, List.set_cons_zero, List.set_cons_succ]
              go_wp2_with fail
              exact ⟨.slice (some ⟨b0, o0, none⟩) n cap, u16, u17, u18, u19, u20, u21, u7, by simp only [Act.put, List.setIfInBounds_toArray, List.set_cons_zero, List.set_cons_succ], .inl ⟨by simpa using hLl, HS.out, (fun _ => rfl), (fun h => by first | rfl | exact P1.out (by simpa using h)), (fun h => by first | rfl | exact P2.out (by simpa using h)), (fun h => by first | rfl | exact P3.out (by simpa using h)), (fun h => by first | rfl | exact P4.out (by simpa using h)), (fun h => P5.out (by simpa using h)), (fun h => P6.out (by simpa using h)), (fun h => P7.out (by simpa using h))⟩⟩
            · simp only [List.getElem?_toArray, List.getElem?_cons_zero, List.getElem?_cons_succ, Option.some.injEq] at ho
              subst ho
              have P0 := Lib.hid p0
              have P1 := Lib.hid p1
              have P2 := Lib.hid p2
              have P3 := Lib.hid p3
              have P4 := Lib.hid p4
              have P5 := Lib.hid p5
              have P6 := Lib.hid p6
              have P7 := Lib.hid p7
              have HS := Lib.hid hS
              clear hS hLi hafter p0 p1 p2 p3 p4 p5 p6 p7
              simp only [Act.put, List.setIfInBounds_toArray, List.set_cons_zero, List.set_cons_succ]
              go_wp2_with fail
              exact ⟨u15, .int .i64 k, u17, u18, u19, u20, u21, u7, by simp only [Act.put, List.setIfInBounds_toArray, List.set_cons_zero, List.set_cons_succ], .inl ⟨by simpa using hLl, HS.out, (fun h => by first | rfl | exact P0.out (by simpa using h)), (fun _ => rfl), (fun h => by first | rfl | exact P2.out (by simpa using h)), (fun h => by first | rfl | exact P3.out (by simpa using h)), (fun h => by first | rfl | exact P4.out (by simpa using h)), (fun h => P5.out (by simpa using h)), (fun h => P6.out (by simpa using h)), (fun h => P7.out (by simpa using h))⟩⟩
            · simp only [List.getElem?_toArray, List.getElem?_cons_zero, List.getElem?_cons_succ, Option.some.injEq] at ho
              subst ho
              obtain rfl := p0 (hafter ⟨0, .data⟩ (by simp) rfl)
              obtain rfl := p1 (hafter ⟨1, .data⟩ (by simp) rfl)
              have P0 := Lib.hid p0
              have P1 := Lib.hid p1
              have P2 := Lib.hid p2
              have P3 := Lib.hid p3
              have P4 := Lib.hid p4
              have P5 := Lib.hid p5
              have P6 := Lib.hid p6
              have P7 := Lib.hid p7
              have HS := Lib.hid hS
              clear hS hLi hafter p0 p1 p2 p3 p4 p5 p6 p7
              simp only [Act.put, List.setIfInBounds_toArray, List.set_cons_zero, List.set_cons_succ]
              go_wp2_with fail
              exact ⟨.slice (some ⟨b0, o0, none⟩) n cap, .int .i64 k, .pointer (some ⟨b0, o0 + k * 3, none⟩), u18, u19, u20, u21, u7, by simp only [Act.put, List.setIfInBounds_toArray, List.set_cons_zero, List.set_cons_succ], .inl ⟨by simpa using hLl, HS.out, (fun h => by first | rfl | exact P0.out (by simpa using h)), (fun h => by first | rfl | exact P1.out (by simpa using h)), (fun _ => rfl), (fun h => by first | rfl | exact P3.out (by simpa using h)), (fun h => by first | rfl | exact P4.out (by simpa using h)), (fun h => P5.out (by simpa using h)), (fun h => P6.out (by simpa using h)), (fun h => P7.out (by simpa using h))⟩⟩
            · simp only [List.getElem?_toArray, List.getElem?_cons_zero, List.getElem?_cons_succ, Option.some.injEq] at ho
              subst ho
              obtain rfl := p2 (hafter ⟨2, .data⟩ (by simp) rfl)
              have c0 := (hS.1.cell (p := ⟨b0, o0 + k * 3, none⟩) hlb).trans g0
              have c1 := (hS.1.cell (p := ⟨b0, o0 + k * 3 + 1, none⟩) hlb).trans g1
              have c2 := (hS.1.cell (p := ⟨b0, o0 + k * 3 + 2, none⟩) hlb).trans g2
              have P0 := Lib.hid p0
              have P1 := Lib.hid p1
              have P2 := Lib.hid p2
              have P3 := Lib.hid p3
              have P4 := Lib.hid p4
              have P5 := Lib.hid p5
              have P6 := Lib.hid p6
              have P7 := Lib.hid p7
              have HS := Lib.hid hS
              clear hS hLi hafter p0 p1 p2 p3 p4 p5 p6 p7
              simp only [Act.put, List.setIfInBounds_toArray, List.set_cons_zero, List.set_cons_succ]
              go_wp2_with fail
              exact ⟨u15, u16, .pointer (some ⟨b0, o0 + k * 3, none⟩), .agg #[.bool s', .slice ra rnn rc, .slice da dn dc], u19, u20, u21, u7, by simp only [Act.put, List.setIfInBounds_toArray, List.set_cons_zero, List.set_cons_succ], .inl ⟨by simpa using hLl, HS.out, (fun h => by first | rfl | exact P0.out (by simpa using h)), (fun h => by first | rfl | exact P1.out (by simpa using h)), (fun h => by first | rfl | exact P2.out (by simpa using h)), (fun _ => rfl), (fun h => by first | rfl | exact P4.out (by simpa using h)), (fun h => P5.out (by simpa using h)), (fun h => P6.out (by simpa using h)), (fun h => P7.out (by simpa using h))⟩⟩
            · simp only [List.getElem?_toArray, List.getElem?_cons_zero, List.getElem?_cons_succ, Option.some.injEq] at ho
              subst ho
              have P0 := Lib.hid p0
              have P1 := Lib.hid p1
              have P2 := Lib.hid p2
              have P3 := Lib.hid p3
              have P4 := Lib.hid p4
              have P5 := Lib.hid p5
              have P6 := Lib.hid p6
              have P7 := Lib.hid p7
              have HS := Lib.hid hS
              clear hS hLi hafter p0 p1 p2 p3 p4 p5 p6 p7
              simp only [Act.put, List.setIfInBounds_toArray, List.set_cons_zero, List.set_cons_succ]
              go_wp2_with fail
              exact ⟨u15, u16, u17, u18, .int .i64 k, u20, u21, u7, by simp only [Act.put, List.setIfInBounds_toArray, List.set_cons_zero, List.set_cons_succ], .inl ⟨by simpa using hLl, HS.out, (fun h => by first | rfl | exact P0.out (by simpa using h)), (fun h => by first | rfl | exact P1.out (by simpa using h)), (fun h => by first | rfl | exact P2.out (by simpa using h)), (fun h => by first | rfl | exact P3.out (by simpa using h)), (fun _ => rfl), (fun h => P5.out (by simpa using h)), (fun h => P6.out (by simpa using h)), (fun h => P7.out (by simpa using h))⟩⟩
            · simp only [List.getElem?_toArray, List.getElem?_cons_zero, List.getElem?_cons_succ, Option.some.injEq] at ho
              subst ho
              obtain rfl := p4 (hafter ⟨4, .data⟩ (by simp) rfl)
              have P0 := Lib.hid p0
              have P1 := Lib.hid p1
              have P2 := Lib.hid p2
              have P3 := Lib.hid p3
              have P4 := Lib.hid p4
              have P5 := Lib.hid p5
              have P6 := Lib.hid p6
              have P7 := Lib.hid p7
              have HS := Lib.hid hS
              clear hS hLi hafter p0 p1 p2 p3 p4 p5 p6 p7
              simp only [Act.put, List.setIfInBounds_toArray, List.set_cons_zero, List.set_cons_succ]
              go_wp2_with fail
              refine (Whole_z (N := N) (k : Int) k rfl _ (by have := HS.out.2; omega) (by omega) pk HPK.out).mono ?_
              rintro e wn ⟨r, c, r2, c2, rfl, hn, hn', hb⟩
              have HN := Lib.hid hn
              have HM := Lib.hid hn'
              have Hb := Lib.hid hb
              clear hn hn' hb
              go_wp2_with fail
              exact ⟨u15, u16, u17, u18, .int .i64 k, _, u21, u7, by simp only [Act.put, List.setIfInBounds_toArray, List.set_cons_zero, List.set_cons_succ], .inl ⟨by simpa using hLl, HS.out.below Hb.out, (fun h => by first | rfl | exact P0.out (by simpa using h)), (fun h => by first | rfl | exact P1.out (by simpa using h)), (fun h => by first | rfl | exact P2.out (by simpa using h)), (fun h => by first | rfl | exact P3.out (by simpa using h)), (fun h => by first | rfl | exact P4.out (by simpa using h)), (fun _ => ⟨r, c, r2, c2, rfl, HN.out, HM.out⟩), (fun h => (P6.out (by simpa using h)).below Hb.out), (fun h => (P7.out (by simpa using h)).below Hb.out)⟩⟩
            · simp only [List.getElem?_toArray, List.getElem?_cons_zero, List.getElem?_cons_succ, Option.some.injEq] at ho
              subst ho
              obtain rfl := p3 (hafter ⟨3, .data⟩ (by simp) rfl)
              obtain ⟨r5, c5, t5, d5, rfl, hn5, hm5⟩ := p5 (hafter ⟨5, .data⟩ (by simp) rfl)
              have HN5 := Lib.hid hn5
              have HM5 := Lib.hid hm5
              clear hn5 hm5
              have P0 := Lib.hid p0
              have P1 := Lib.hid p1
              have P2 := Lib.hid p2
              have P3 := Lib.hid p3
              have P4 := Lib.hid p4
              have P5 := Lib.hid p5
              have P6 := Lib.hid p6
              have P7 := Lib.hid p7
              have HS := Lib.hid hS
              clear hS hLi hafter p0 p1 p2 p3 p4 p5 p6 p7
              simp only [Act.put, List.setIfInBounds_toArray, List.set_cons_zero, List.set_cons_succ]
              go_wp2_with fail
              refine (xrmul_any (N := N) _ _ _ _ _ _ _ _ _ _ _ _ _ _ L 1 (q k) pk _ (by have := HS.out.2; omega) (HR.out.below HS.out.1) (Rt.of_norm HN5.out HM5.out 1 HZK.out) (by omega) (by omega) px HPX.out).mono ?_
              rintro e wn ⟨r, c, r2, c2, rfl, hn, hn', hb⟩
              have HN := Lib.hid hn
              have HM := Lib.hid hn'
              have Hb := Lib.hid hb
              clear hn hn' hb
              go_wp2_with fail
              exact ⟨u15, u16, u17, .agg #[.bool s', .slice ra rnn rc, .slice da dn dc], u19, _, _, u7, by simp only [Act.put, List.setIfInBounds_toArray, List.set_cons_zero, List.set_cons_succ], .inl ⟨by simpa using hLl, HS.out.below Hb.out, (fun h => by first | rfl | exact P0.out (by simpa using h)), (fun h => by first | rfl | exact P1.out (by simpa using h)), (fun h => by first | rfl | exact P2.out (by simpa using h)), (fun h => by first | rfl | exact P3.out (by simpa using h)), (fun h => by first | rfl | exact P4.out (by simpa using h)), (fun h => (P5.out (by simpa using h)).below Hb.out), (fun _ => ⟨r, c, r2, c2, rfl, HN.out, HM.out⟩), (fun h => (P7.out (by simpa using h)).below Hb.out)⟩⟩
            · simp only [List.getElem?_toArray, List.getElem?_cons_zero, List.getElem?_cons_succ, Option.some.injEq] at ho
              subst ho
              have P0 := Lib.hid p0
              have P1 := Lib.hid p1
              have P2 := Lib.hid p2
              have P3 := Lib.hid p3
              have P4 := Lib.hid p4
              have P5 := Lib.hid p5
              have P6 := Lib.hid p6
              have P7 := Lib.hid p7
              have HS := Lib.hid hS
              clear hS hLi hafter p0 p1 p2 p3 p4 p5 p6 p7
              simp only [Act.put, List.setIfInBounds_toArray, List.set_cons_zero, List.set_cons_succ]
              go_wp2_with fail
              exact ⟨u15, u16, u17, u18, u19, u20, u21, _, by simp only [Act.put, List.setIfInBounds_toArray, List.set_cons_zero, List.set_cons_succ], .inl ⟨by simpa using hLl, HS.out.below (bel1 wq (.cells #[.bool false, .slice none 0 0, .slice none 0 0] 28)), (fun h => by first | rfl | exact P0.out (by simpa using h)), (fun h => by first | rfl | exact P1.out (by simpa using h)), (fun h => by first | rfl | exact P2.out (by simpa using h)), (fun h => by first | rfl | exact P3.out (by simpa using h)), (fun h => by first | rfl | exact P4.out (by simpa using h)), (fun h => (P5.out (by simpa using h)).below (bel1 wq (.cells #[.bool false, .slice none 0 0, .slice none 0 0] 28))), (fun h => (P6.out (by simpa using h)).below (bel1 wq (.cells #[.bool false, .slice none 0 0, .slice none 0 0] 28))), (fun _ => ⟨wq.heap.size, rfl, HS.out.2, Bk.new _ _ _⟩)⟩⟩
            · simp only [List.getElem?_toArray, List.getElem?_cons_zero, List.getElem?_cons_succ, Option.some.injEq] at ho
              subst ho
              have hall : ∀ j, j < 8 → Ls j = true := by
                intro j hj
                obtain rfl | rfl | rfl | rfl | rfl | rfl | rfl | rfl : j = 0 ∨ j = 1 ∨ j = 2 ∨ j = 3 ∨ j = 4 ∨ j = 5 ∨ j = 6 ∨ j = 7 := by omega
                all_goals exact hafter ⟨_, .phase⟩ (by simp) rfl
              have HALL := Lib.hid hall
              clear hall
              obtain ⟨r6, c6, t6, d6, rfl, hn6, hm6⟩ := p6 (hafter ⟨6, .data⟩ (by simp) rfl)
              have HN6 := Lib.hid hn6
              have HM6 := Lib.hid hm6
              clear hn6 hm6
              obtain ⟨g, rfl, hg, hbk⟩ := p7 (hafter ⟨7, .data⟩ (by simp) rfl)
              have f0 := hbk.frozen
              have HK := Lib.hid hbk
              obtain ⟨v0, hv0⟩ := hbk.cell (o := 0) (by omega)
              obtain ⟨v1, hv1⟩ := hbk.cell (o := 1) (by omega)
              obtain ⟨v2, hv2⟩ := hbk.cell (o := 2) (by omega)
              clear hbk
              have P0 := Lib.hid p0
              have P1 := Lib.hid p1
              have P2 := Lib.hid p2
              have P3 := Lib.hid p3
              have P4 := Lib.hid p4
              have P5 := Lib.hid p5
              have P6 := Lib.hid p6
              have P7 := Lib.hid p7
              have HS := Lib.hid hS
              clear hS hLi hafter p0 p1 p2 p3 p4 p5 p6 p7
              simp only [Act.put, List.setIfInBounds_toArray, List.set_cons_zero, List.set_cons_succ]
              go_wp2_with fail
              exact ⟨u15, u16, u17, u18, u19, u20, .agg #[.bool (decide ((px).num < 0)), .slice r6 (nlen (px).num.natAbs) c6, .slice t6 (nlen (px).den) d6], .pointer (some ⟨g, 0, none⟩), by simp only [Act.put, List.setIfInBounds_toArray, List.set_cons_zero, List.set_cons_succ], .inr ⟨by simp, fun j hj => by simp [HALL.out j hj], cutRat_of hN hg HK.out HN6.out HM6.out HS.out⟩⟩
          · exfalso
            have hi : i < 9 := (Array.getElem?_eq_some_iff.1 ho).1
            rcases Nat.lt_or_ge i 8 with h | h
            · rw [hall i h] at hLi; cases hLi
            · obtain rfl : i = 8 := by omega
              rw [h10] at hLi; cases hLi
        · intro Ls a0 wq hall hJ
          obtain ⟨u15, u16, u17, u18, u19, u20, u21, u7, rfl, ⟨h10, _⟩ | ⟨_, _, hcut⟩⟩ := hJ
          · rw [hall 8 (by decide)] at h10; cases h10
          · have HC := Lib.hid hcut
            clear hcut
            simp only [Act.put, List.setIfInBounds_toArray, List.set_cons_zero, List.set_cons_succ]
            go_wp2_with fail
            go_meet
            exact HC.out
      case rest =>
        obtain ⟨wx, rfl⟩ : ∃ wx : World, wx = wc := ⟨_, rfl⟩
        obtain ⟨g, rx, cx, rx2, cx2, rfl, hg, hk1, kx0, kx1, kx2, hn, hn', hs⟩ := hcut
        have hb := hs.1
        have hd_S_X := Nat.lt_of_lt_of_le hl_S hg
        clear hs g0 g1 g2 hlb
        clear HR
        have hs_wx : W1.heap.size ≤ wx.heap.size := hb.size
        replace k_S_0 : wx.cell? ⟨wa.heap.size, 0, none⟩ = some (.bool (decide ((ps).num < 0))) := (hb.cell (p := ⟨wa.heap.size, 0, none⟩) hl_S).trans k_S_0
        replace k_S_1 : wx.cell? ⟨wa.heap.size, 1, none⟩ = some (.slice rs (nlen (ps).num.natAbs) cs) := (hb.cell (p := ⟨wa.heap.size, 1, none⟩) hl_S).trans k_S_1
        replace k_S_2 : wx.cell? ⟨wa.heap.size, 2, none⟩ = some (.slice rs2 (nlen (ps).den) cs2) := (hb.cell (p := ⟨wa.heap.size, 2, none⟩) hl_S).trans k_S_2
        replace f_S : ∀ o, wx.frozen? ⟨wa.heap.size, o, none⟩ = false := fun o => (hb.frozen (p := ⟨wa.heap.size, o, none⟩) hl_S).trans (f_S o)
        replace HX_S := Lib.hid (HX_S.out.below hb)
        replace k_R_0 : wx.cell? ⟨w.heap.size, 0, none⟩ = some (.bool false) := (hb.cell (p := ⟨w.heap.size, 0, none⟩) hl_R).trans k_R_0
        replace k_R_1 : wx.cell? ⟨w.heap.size, 1, none⟩ = some (.slice none 0 0) := (hb.cell (p := ⟨w.heap.size, 1, none⟩) hl_R).trans k_R_1
        replace k_R_2 : wx.cell? ⟨w.heap.size, 2, none⟩ = some (.slice none 0 0) := (hb.cell (p := ⟨w.heap.size, 2, none⟩) hl_R).trans k_R_2
        replace f_R : ∀ o, wx.frozen? ⟨w.heap.size, o, none⟩ = false := fun o => (hb.frozen (p := ⟨w.heap.size, o, none⟩) hl_R).trans (f_R o)
        replace HX_R := Lib.hid (HX_R.out.below hb)
        replace HT1 := Lib.hid (HT1.out.below hb)
        replace HT2 := Lib.hid (HT2.out.below hb)
        replace HB := Lib.hid (HB.out.trans (hb.mono hs0))
        replace hN : N ≤ wx.heap.size := Nat.le_trans hN hb.size
        replace hs0 : w.heap.size ≤ wx.heap.size := Nat.le_trans hs0 hb.size
        replace hl_S : wa.heap.size < wx.heap.size := Nat.lt_of_lt_of_le hl_S hb.size
        replace hl_R : w.heap.size < wx.heap.size := Nat.lt_of_lt_of_le hl_R hb.size
        clear hb
        have HX1 := Lib.hid hn
        have HX2 := Lib.hid hn'
        clear hn hn'
        have hl_X := hk1.lt
        have f_X := hk1.frozen
        have HX_X := Lib.hid (hk1.bx.bn (by decide))
        have k_X_0 := kx0
        have k_X_1 := kx1
        have k_X_2 := kx2
        clear kx0 kx1 kx2 hk1
        go_wp2_with fail
        refine region_name fun W2 hW => ?_
        have HL_W2 := Lib.hid (show Below wx.heap.size wx W2 by rw [← hW]; exact BlA)
        have hs_W2 : wx.heap.size ≤ W2.heap.size := by rw [← hW]; exact OmA
        have HK_W2 := Lib.hid (show Kp N wx W2 by rw [← hW]; exact KpA)
        replace k_S_0 : W2.cell? ⟨wa.heap.size, 0, none⟩ = some (.bool (decide ((ps).num < 0))) := (HL_W2.out.cell (p := ⟨wa.heap.size, 0, none⟩) hl_S).trans k_S_0
        replace k_S_1 : W2.cell? ⟨wa.heap.size, 1, none⟩ = some (.slice rs (nlen (ps).num.natAbs) cs) := (HL_W2.out.cell (p := ⟨wa.heap.size, 1, none⟩) hl_S).trans k_S_1
        replace k_S_2 : W2.cell? ⟨wa.heap.size, 2, none⟩ = some (.slice rs2 (nlen (ps).den) cs2) := (HL_W2.out.cell (p := ⟨wa.heap.size, 2, none⟩) hl_S).trans k_S_2
        replace f_S : ∀ o, W2.frozen? ⟨wa.heap.size, o, none⟩ = false := fun o => (HL_W2.out.frozen (p := ⟨wa.heap.size, o, none⟩) hl_S).trans (f_S o)
        replace HX_S := Lib.hid (show Bn W2 (wa.heap.size) by rw [← hW]; exact KpA)
        replace k_R_0 : W2.cell? ⟨w.heap.size, 0, none⟩ = some (.bool false) := (HL_W2.out.cell (p := ⟨w.heap.size, 0, none⟩) hl_R).trans k_R_0
        replace k_R_1 : W2.cell? ⟨w.heap.size, 1, none⟩ = some (.slice none 0 0) := (HL_W2.out.cell (p := ⟨w.heap.size, 1, none⟩) hl_R).trans k_R_1
        replace k_R_2 : W2.cell? ⟨w.heap.size, 2, none⟩ = some (.slice none 0 0) := (HL_W2.out.cell (p := ⟨w.heap.size, 2, none⟩) hl_R).trans k_R_2
        replace f_R : ∀ o, W2.frozen? ⟨w.heap.size, o, none⟩ = false := fun o => (HL_W2.out.frozen (p := ⟨w.heap.size, o, none⟩) hl_R).trans (f_R o)
        replace HX_R := Lib.hid (show Bn W2 (w.heap.size) by rw [← hW]; exact KpA)
        replace k_X_0 : W2.cell? ⟨g, 0, none⟩ = some (.bool (decide ((px).num < 0))) := (HL_W2.out.cell (p := ⟨g, 0, none⟩) hl_X).trans k_X_0
        replace k_X_1 : W2.cell? ⟨g, 1, none⟩ = some (.slice rx (nlen (px).num.natAbs) cx) := (HL_W2.out.cell (p := ⟨g, 1, none⟩) hl_X).trans k_X_1
        replace k_X_2 : W2.cell? ⟨g, 2, none⟩ = some (.slice rx2 (nlen (px).den) cx2) := (HL_W2.out.cell (p := ⟨g, 2, none⟩) hl_X).trans k_X_2
        replace f_X : ∀ o, W2.frozen? ⟨g, o, none⟩ = false := fun o => (HL_W2.out.frozen (p := ⟨g, o, none⟩) hl_X).trans (f_X o)
        replace HX_X := Lib.hid (show Bn W2 (g) by rw [← hW]; exact KpA)
        replace HT1 := Lib.hid (HT1.out.keep HK_W2.out)
        replace HT2 := Lib.hid (HT2.out.keep HK_W2.out)
        replace HX1 := Lib.hid (HX1.out.keep HK_W2.out)
        replace HX2 := Lib.hid (HX2.out.keep HK_W2.out)
        replace HB := Lib.hid (show Below w.heap.size w W2 by rw [← hW]; exact BlA)
        replace hN : N ≤ W2.heap.size := by rw [← hW]; exact OmA
        replace hs0 : w.heap.size ≤ W2.heap.size := by rw [← hW]; exact OmA
        replace hl_S : wa.heap.size < W2.heap.size := by rw [← hW]; exact OmA
        replace hl_R : w.heap.size < W2.heap.size := by rw [← hW]; exact OmA
        replace hl_X : g < W2.heap.size := by rw [← hW]; exact OmA
        clear HL_W2
        clear hW HK_W2
        refine region_inv2 (by kernel_rfl) (MomJ2 N g pk px py rx rx2 cx cx2 k (W2)) ?_ ?_ ?_ ?_
        · exact ⟨u24, u25, u26, u27, by simp only [Act.put, List.setIfInBounds_toArray, List.set_cons_zero, List.set_cons_succ], .inl ⟨rfl, Since.drawn _, (fun h => by cases h), (fun h => by cases h), (fun h => by cases h), (fun h => by cases h)⟩⟩
        · exact acyc_spec (by kernel_rfl)
        · intro Ls a0 wq i o ho hLi hafter hJ
          obtain ⟨u24, u25, u26, u27, rfl, hJ | ⟨h10, hall, _⟩⟩ := hJ
          · obtain ⟨hLl, hS, p0, p1, p2, p3⟩ := hJ
            have hi : i < 5 := (Array.getElem?_eq_some_iff.1 ho).1
            obtain rfl | rfl | rfl | rfl | rfl : i = 0 ∨ i = 1 ∨ i = 2 ∨ i = 3 ∨ i = 4 := by omega
            · simp only [List.getElem?_toArray, List.getElem?_cons_zero, Option.some.injEq] at ho
              subst ho
              have c0 := (hS.1.cell (p := ⟨g, 0, none⟩) hl_X).trans k_X_0
              have c1 := (hS.1.cell (p := ⟨g, 1, none⟩) hl_X).trans k_X_1
              have c2 := (hS.1.cell (p := ⟨g, 2, none⟩) hl_X).trans k_X_2
              have P0 := Lib.hid p0
              have P1 := Lib.hid p1
              have P2 := Lib.hid p2
              have P3 := Lib.hid p3
              have HS := Lib.hid hS
              clear hS hLi hafter p0 p1 p2 p3
              simp only [Act.put, List.setIfInBounds_toArray, List.set_cons_zero, List.set_cons_succ]
              go_wp2_with fail
              exact ⟨.agg #[.bool (decide ((px).num < 0)), .slice rx (nlen (px).num.natAbs) cx, .slice rx2 (nlen (px).den) cx2], u25, u26, u27, by simp only [Act.put, List.setIfInBounds_toArray, List.set_cons_zero, List.set_cons_succ], .inl ⟨by simpa using hLl, HS.out, (fun _ => rfl), (fun h => by first | rfl | exact P1.out (by simpa using h)), (fun h => P2.out (by simpa using h)), (fun h => P3.out (by simpa using h))⟩⟩
            · simp only [List.getElem?_toArray, List.getElem?_cons_zero, List.getElem?_cons_succ, Option.some.injEq] at ho
              subst ho
              have P0 := Lib.hid p0
              have P1 := Lib.hid p1
              have P2 := Lib.hid p2
              have P3 := Lib.hid p3
              have HS := Lib.hid hS
              clear hS hLi hafter p0 p1 p2 p3
              simp only [Act.put, List.setIfInBounds_toArray, List.set_cons_zero, List.set_cons_succ]
              go_wp2_with fail
              exact ⟨u24, .int .i64 k, u26, u27, by simp only [Act.put, List.setIfInBounds_toArray, List.set_cons_zero, List.set_cons_succ], .inl ⟨by simpa using hLl, HS.out, (fun h => by first | rfl | exact P0.out (by simpa using h)), (fun _ => rfl), (fun h => P2.out (by simpa using h)), (fun h => P3.out (by simpa using h))⟩⟩
            · simp only [List.getElem?_toArray, List.getElem?_cons_zero, List.getElem?_cons_succ, Option.some.injEq] at ho
              subst ho
              obtain rfl := p1 (hafter ⟨1, .data⟩ (by simp) rfl)
              have P0 := Lib.hid p0
              have P1 := Lib.hid p1
              have P2 := Lib.hid p2
              have P3 := Lib.hid p3
              have HS := Lib.hid hS
              clear hS hLi hafter p0 p1 p2 p3
              simp only [Act.put, List.setIfInBounds_toArray, List.set_cons_zero, List.set_cons_succ]
              go_wp2_with fail
              refine (Whole_z (N := N) (k : Int) k rfl _ (by have := HS.out.2; omega) (by omega) pk HPK.out).mono ?_
              rintro e wn ⟨r, c, r2, c2, rfl, hn, hn', hb⟩
              have HN := Lib.hid hn
              have HM := Lib.hid hn'
              have Hb := Lib.hid hb
              clear hn hn' hb
              go_wp2_with fail
              exact ⟨u24, .int .i64 k, _, u27, by simp only [Act.put, List.setIfInBounds_toArray, List.set_cons_zero, List.set_cons_succ], .inl ⟨by simpa using hLl, HS.out.below Hb.out, (fun h => by first | rfl | exact P0.out (by simpa using h)), (fun h => by first | rfl | exact P1.out (by simpa using h)), (fun _ => ⟨r, c, r2, c2, rfl, HN.out, HM.out⟩), (fun h => (P3.out (by simpa using h)).below Hb.out)⟩⟩
            · simp only [List.getElem?_toArray, List.getElem?_cons_zero, List.getElem?_cons_succ, Option.some.injEq] at ho
              subst ho
              obtain rfl := p0 (hafter ⟨0, .data⟩ (by simp) rfl)
              obtain ⟨r2, c2, t2, d2, rfl, hn2, hm2⟩ := p2 (hafter ⟨2, .data⟩ (by simp) rfl)
              have HN2 := Lib.hid hn2
              have HM2 := Lib.hid hm2
              clear hn2 hm2
              have P0 := Lib.hid p0
              have P1 := Lib.hid p1
              have P2 := Lib.hid p2
              have P3 := Lib.hid p3
              have HS := Lib.hid hS
              clear hS hLi hafter p0 p1 p2 p3
              simp only [Act.put, List.setIfInBounds_toArray, List.set_cons_zero, List.set_cons_succ]
              go_wp2_with fail
              refine (xrmul_any (N := N) _ _ _ _ _ _ _ _ _ _ _ _ _ _ (L + 1) 1 px pk _ (by have := HS.out.2; omega) (Rt.of_norm (HX1.out.below HS.out.1) (HX2.out.below HS.out.1) _ HZX.out) (Rt.of_norm HN2.out HM2.out 1 HZK.out) (by omega) (by omega) py HPY.out).mono ?_
              rintro e wn ⟨r, c, r2, c2, rfl, hn, hn', hb⟩
              have HN := Lib.hid hn
              have HM := Lib.hid hn'
              have Hb := Lib.hid hb
              clear hn hn' hb
              go_wp2_with fail
              exact ⟨.agg #[.bool (decide ((px).num < 0)), .slice rx (nlen (px).num.natAbs) cx, .slice rx2 (nlen (px).den) cx2], u25, _, _, by simp only [Act.put, List.setIfInBounds_toArray, List.set_cons_zero, List.set_cons_succ], .inl ⟨by simpa using hLl, HS.out.below Hb.out, (fun h => by first | rfl | exact P0.out (by simpa using h)), (fun h => by first | rfl | exact P1.out (by simpa using h)), (fun h => (P2.out (by simpa using h)).below Hb.out), (fun _ => ⟨r, c, r2, c2, rfl, HN.out, HM.out⟩)⟩⟩
            · simp only [List.getElem?_toArray, List.getElem?_cons_zero, List.getElem?_cons_succ, Option.some.injEq] at ho
              subst ho
              have hall : ∀ j, j < 4 → Ls j = true := by
                intro j hj
                obtain rfl | rfl | rfl | rfl : j = 0 ∨ j = 1 ∨ j = 2 ∨ j = 3 := by omega
                all_goals exact hafter ⟨_, .phase⟩ (by simp) rfl
              have HALL := Lib.hid hall
              clear hall
              obtain ⟨r3, c3, t3, d3, rfl, hn3, hm3⟩ := p3 (hafter ⟨3, .data⟩ (by simp) rfl)
              have HN3 := Lib.hid hn3
              have HM3 := Lib.hid hm3
              clear hn3 hm3
              have c0 := (hS.1.cell (p := ⟨g, 0, none⟩) hl_X).trans k_X_0
              have c1 := (hS.1.cell (p := ⟨g, 1, none⟩) hl_X).trans k_X_1
              have c2 := (hS.1.cell (p := ⟨g, 2, none⟩) hl_X).trans k_X_2
              have fz : ∀ o, wq.frozen? ⟨g, o, none⟩ = false := fun o => (hS.1.frozen (p := ⟨g, o, none⟩) hl_X).trans (f_X o)
              have P0 := Lib.hid p0
              have P1 := Lib.hid p1
              have P2 := Lib.hid p2
              have P3 := Lib.hid p3
              have HS := Lib.hid hS
              clear hS hLi hafter p0 p1 p2 p3
              simp only [Act.put, List.setIfInBounds_toArray, List.set_cons_zero, List.set_cons_succ]
              go_wp2_with fail
              exact ⟨u24, u25, u26, .agg #[.bool (decide ((py).num < 0)), .slice r3 (nlen (py).num.natAbs) c3, .slice t3 (nlen (py).den) d3], by simp only [Act.put, List.setIfInBounds_toArray, List.set_cons_zero, List.set_cons_succ], .inr ⟨by simp, fun j hj => by simp [HALL.out j hj], ⟨_, _, _, _, _, HS.out, HN3.out, HM3.out, rfl⟩⟩⟩
          · exfalso
            have hi : i < 5 := (Array.getElem?_eq_some_iff.1 ho).1
            rcases Nat.lt_or_ge i 4 with h | h
            · rw [hall i h] at hLi; cases hLi
            · obtain rfl : i = 4 := by omega
              rw [h10] at hLi; cases hLi
        · intro Ls a0 wq hall hJ
          obtain ⟨u24, u25, u26, u27, rfl, ⟨h10, _⟩ | ⟨_, _, hcut⟩⟩ := hJ
          · rw [hall 4 (by decide)] at h10; cases h10
          · obtain ⟨wy, ry, cy, ry2, cy2, hs, hn, hn', rfl⟩ := hcut
            have hb := hs.1
            clear hs
            have hs_wy : W2.heap.size ≤ wy.heap.size := hb.size
            replace k_S_0 : wy.cell? ⟨wa.heap.size, 0, none⟩ = some (.bool (decide ((ps).num < 0))) := (hb.cell (p := ⟨wa.heap.size, 0, none⟩) hl_S).trans k_S_0
            replace k_S_1 : wy.cell? ⟨wa.heap.size, 1, none⟩ = some (.slice rs (nlen (ps).num.natAbs) cs) := (hb.cell (p := ⟨wa.heap.size, 1, none⟩) hl_S).trans k_S_1
            replace k_S_2 : wy.cell? ⟨wa.heap.size, 2, none⟩ = some (.slice rs2 (nlen (ps).den) cs2) := (hb.cell (p := ⟨wa.heap.size, 2, none⟩) hl_S).trans k_S_2
            replace f_S : ∀ o, wy.frozen? ⟨wa.heap.size, o, none⟩ = false := fun o => (hb.frozen (p := ⟨wa.heap.size, o, none⟩) hl_S).trans (f_S o)
            replace HX_S := Lib.hid (HX_S.out.below hb)
            replace k_R_0 : wy.cell? ⟨w.heap.size, 0, none⟩ = some (.bool false) := (hb.cell (p := ⟨w.heap.size, 0, none⟩) hl_R).trans k_R_0
            replace k_R_1 : wy.cell? ⟨w.heap.size, 1, none⟩ = some (.slice none 0 0) := (hb.cell (p := ⟨w.heap.size, 1, none⟩) hl_R).trans k_R_1
            replace k_R_2 : wy.cell? ⟨w.heap.size, 2, none⟩ = some (.slice none 0 0) := (hb.cell (p := ⟨w.heap.size, 2, none⟩) hl_R).trans k_R_2
            replace f_R : ∀ o, wy.frozen? ⟨w.heap.size, o, none⟩ = false := fun o => (hb.frozen (p := ⟨w.heap.size, o, none⟩) hl_R).trans (f_R o)
            replace HX_R := Lib.hid (HX_R.out.below hb)
            replace k_X_0 : wy.cell? ⟨g, 0, none⟩ = some (.bool (decide ((px).num < 0))) := (hb.cell (p := ⟨g, 0, none⟩) hl_X).trans k_X_0
            replace k_X_1 : wy.cell? ⟨g, 1, none⟩ = some (.slice rx (nlen (px).num.natAbs) cx) := (hb.cell (p := ⟨g, 1, none⟩) hl_X).trans k_X_1
            replace k_X_2 : wy.cell? ⟨g, 2, none⟩ = some (.slice rx2 (nlen (px).den) cx2) := (hb.cell (p := ⟨g, 2, none⟩) hl_X).trans k_X_2
            replace f_X : ∀ o, wy.frozen? ⟨g, o, none⟩ = false := fun o => (hb.frozen (p := ⟨g, o, none⟩) hl_X).trans (f_X o)
            replace HX_X := Lib.hid (HX_X.out.below hb)
            replace HT1 := Lib.hid (HT1.out.below hb)
            replace HT2 := Lib.hid (HT2.out.below hb)
            replace HX1 := Lib.hid (HX1.out.below hb)
            replace HX2 := Lib.hid (HX2.out.below hb)
            replace HB := Lib.hid (HB.out.trans (hb.mono hs0))
            replace hN : N ≤ wy.heap.size := Nat.le_trans hN hb.size
            replace hs0 : w.heap.size ≤ wy.heap.size := Nat.le_trans hs0 hb.size
            replace hl_S : wa.heap.size < wy.heap.size := Nat.lt_of_lt_of_le hl_S hb.size
            replace hl_R : w.heap.size < wy.heap.size := Nat.lt_of_lt_of_le hl_R hb.size
            replace hl_X : g < wy.heap.size := Nat.lt_of_lt_of_le hl_X hb.size
            clear hb
            have Hy1 := Lib.hid hn
            have Hy2 := Lib.hid hn'
            clear hn hn'
            clear HX1
            clear HX2
            simp only [Act.put, List.setIfInBounds_toArray, List.set_cons_zero, List.set_cons_succ]
            go_wp2_with fail
            refine calls_name fun W3 hW => ?_
            have hs_W3 : wy.heap.size ≤ W3.heap.size := by rw [← hW]; exact OmA
            have HK_W3 := Lib.hid (show Kp N wy W3 by rw [← hW]; exact KpA)
            replace k_S_0 : W3.cell? ⟨wa.heap.size, 0, none⟩ = some (.bool (decide ((ps).num < 0))) := by rw [← hW]; (first | with_reducible exact k_S_0 | (simp [go_sem, k_S_0]; done) | (simp [go_sem, k_S_0, hl_S]; done) | (go_simp; done))
            replace k_S_1 : W3.cell? ⟨wa.heap.size, 1, none⟩ = some (.slice rs (nlen (ps).num.natAbs) cs) := by rw [← hW]; (first | with_reducible exact k_S_1 | (simp [go_sem, k_S_1]; done) | (simp [go_sem, k_S_1, hl_S]; done) | (go_simp; done))
            replace k_S_2 : W3.cell? ⟨wa.heap.size, 2, none⟩ = some (.slice rs2 (nlen (ps).den) cs2) := by rw [← hW]; (first | with_reducible exact k_S_2 | (simp [go_sem, k_S_2]; done) | (simp [go_sem, k_S_2, hl_S]; done) | (go_simp; done))
            replace f_S : ∀ o, W3.frozen? ⟨wa.heap.size, o, none⟩ = false := by intro o; rw [← hW]; (first | with_reducible exact f_S o | (simp [go_sem, f_S]; done) | (simp [go_sem, f_S, hl_S]; done) | (go_simp; done))
            replace HX_S := Lib.hid (show Bn W3 (wa.heap.size) by rw [← hW]; exact KpA)
            replace k_R_0 : W3.cell? ⟨w.heap.size, 0, none⟩ = some (.bool false) := by rw [← hW]; (first | with_reducible exact k_R_0 | (simp [go_sem, k_R_0]; done) | (simp [go_sem, k_R_0, hl_R]; done) | (go_simp; done))
            replace k_R_1 : W3.cell? ⟨w.heap.size, 1, none⟩ = some (.slice none 0 0) := by rw [← hW]; (first | with_reducible exact k_R_1 | (simp [go_sem, k_R_1]; done) | (simp [go_sem, k_R_1, hl_R]; done) | (go_simp; done))
            replace k_R_2 : W3.cell? ⟨w.heap.size, 2, none⟩ = some (.slice none 0 0) := by rw [← hW]; (first | with_reducible exact k_R_2 | (simp [go_sem, k_R_2]; done) | (simp [go_sem, k_R_2, hl_R]; done) | (go_simp; done))
            replace f_R : ∀ o, W3.frozen? ⟨w.heap.size, o, none⟩ = false := by intro o; rw [← hW]; (first | with_reducible exact f_R o | (simp [go_sem, f_R]; done) | (simp [go_sem, f_R, hl_R]; done) | (go_simp; done))
            replace HX_R := Lib.hid (show Bn W3 (w.heap.size) by rw [← hW]; exact KpA)
            replace k_X_0 : W3.cell? ⟨g, 0, none⟩ = some (.bool (decide ((py).num < 0))) := by rw [← hW]; (first | (go_simp; done) | (simp [go_sem, k_X_0]; done) | (simp [go_sem, k_X_0, k_X_1, k_X_2]; done))
            replace k_X_1 : W3.cell? ⟨g, 1, none⟩ = some (.slice ry (nlen (py).num.natAbs) cy) := by rw [← hW]; (first | (go_simp; done) | (simp [go_sem, k_X_1]; done) | (simp [go_sem, k_X_0, k_X_1, k_X_2]; done))
            replace k_X_2 : W3.cell? ⟨g, 2, none⟩ = some (.slice ry2 (nlen (py).den) cy2) := by rw [← hW]; (first | (go_simp; done) | (simp [go_sem, k_X_2]; done) | (simp [go_sem, k_X_0, k_X_1, k_X_2]; done))
            replace f_X : ∀ o, W3.frozen? ⟨g, o, none⟩ = false := by intro o; rw [← hW]; (first | with_reducible exact f_X o | (simp [go_sem, f_X]; done) | (simp [go_sem, f_X, hl_X]; done) | (go_simp; done))
            replace HX_X := Lib.hid (show Bn W3 (g) by rw [← hW]; exact KpA)
            replace HT1 := Lib.hid (HT1.out.keep HK_W3.out)
            replace HT2 := Lib.hid (HT2.out.keep HK_W3.out)
            replace Hy1 := Lib.hid (Hy1.out.keep HK_W3.out)
            replace Hy2 := Lib.hid (Hy2.out.keep HK_W3.out)
            replace HB := Lib.hid (show Below w.heap.size w W3 by rw [← hW]; exact BlA)
            replace hN : N ≤ W3.heap.size := by rw [← hW]; exact OmA
            replace hs0 : w.heap.size ≤ W3.heap.size := by rw [← hW]; exact OmA
            replace hl_S : wa.heap.size < W3.heap.size := by rw [← hW]; exact OmA
            replace hl_R : w.heap.size < W3.heap.size := by rw [← hW]; exact OmA
            replace hl_X : g < W3.heap.size := by rw [← hW]; exact OmA
            clear hW HK_W3
            refine (xradd_any (N := N) _ _ _ _ _ _ _ _ _ _ _ _ _ _ 263192576 (L + 2) ps py _ hN (Rt.of_norm HT1.out HT2.out _ HZS.out) (Rt.of_norm Hy1.out Hy2.out _ (by have := HZY.out; omega)) (by omega) (by omega) pn HPN.out).mono ?_
            rintro e wd ⟨rn, cn, rn2, cn2, rfl, hn, hn', hb⟩
            have hs_wd : W3.heap.size ≤ wd.heap.size := hb.size
            replace k_S_0 : wd.cell? ⟨wa.heap.size, 0, none⟩ = some (.bool (decide ((ps).num < 0))) := (hb.cell (p := ⟨wa.heap.size, 0, none⟩) hl_S).trans k_S_0
            replace k_S_1 : wd.cell? ⟨wa.heap.size, 1, none⟩ = some (.slice rs (nlen (ps).num.natAbs) cs) := (hb.cell (p := ⟨wa.heap.size, 1, none⟩) hl_S).trans k_S_1
            replace k_S_2 : wd.cell? ⟨wa.heap.size, 2, none⟩ = some (.slice rs2 (nlen (ps).den) cs2) := (hb.cell (p := ⟨wa.heap.size, 2, none⟩) hl_S).trans k_S_2
            replace f_S : ∀ o, wd.frozen? ⟨wa.heap.size, o, none⟩ = false := fun o => (hb.frozen (p := ⟨wa.heap.size, o, none⟩) hl_S).trans (f_S o)
            replace HX_S := Lib.hid (HX_S.out.below hb)
            replace k_R_0 : wd.cell? ⟨w.heap.size, 0, none⟩ = some (.bool false) := (hb.cell (p := ⟨w.heap.size, 0, none⟩) hl_R).trans k_R_0
            replace k_R_1 : wd.cell? ⟨w.heap.size, 1, none⟩ = some (.slice none 0 0) := (hb.cell (p := ⟨w.heap.size, 1, none⟩) hl_R).trans k_R_1
            replace k_R_2 : wd.cell? ⟨w.heap.size, 2, none⟩ = some (.slice none 0 0) := (hb.cell (p := ⟨w.heap.size, 2, none⟩) hl_R).trans k_R_2
            replace f_R : ∀ o, wd.frozen? ⟨w.heap.size, o, none⟩ = false := fun o => (hb.frozen (p := ⟨w.heap.size, o, none⟩) hl_R).trans (f_R o)
            replace HX_R := Lib.hid (HX_R.out.below hb)
            replace k_X_0 : wd.cell? ⟨g, 0, none⟩ = some (.bool (decide ((py).num < 0))) := (hb.cell (p := ⟨g, 0, none⟩) hl_X).trans k_X_0
            replace k_X_1 : wd.cell? ⟨g, 1, none⟩ = some (.slice ry (nlen (py).num.natAbs) cy) := (hb.cell (p := ⟨g, 1, none⟩) hl_X).trans k_X_1
            replace k_X_2 : wd.cell? ⟨g, 2, none⟩ = some (.slice ry2 (nlen (py).den) cy2) := (hb.cell (p := ⟨g, 2, none⟩) hl_X).trans k_X_2
            replace f_X : ∀ o, wd.frozen? ⟨g, o, none⟩ = false := fun o => (hb.frozen (p := ⟨g, o, none⟩) hl_X).trans (f_X o)
            replace HX_X := Lib.hid (HX_X.out.below hb)
            replace HT1 := Lib.hid (HT1.out.below hb)
            replace HT2 := Lib.hid (HT2.out.below hb)
            replace Hy1 := Lib.hid (Hy1.out.below hb)
            replace Hy2 := Lib.hid (Hy2.out.below hb)
            replace HB := Lib.hid (HB.out.trans (hb.mono hs0))
            replace hN : N ≤ wd.heap.size := Nat.le_trans hN hb.size
            replace hs0 : w.heap.size ≤ wd.heap.size := Nat.le_trans hs0 hb.size
            replace hl_S : wa.heap.size < wd.heap.size := Nat.lt_of_lt_of_le hl_S hb.size
            replace hl_R : w.heap.size < wd.heap.size := Nat.lt_of_lt_of_le hl_R hb.size
            replace hl_X : g < wd.heap.size := Nat.lt_of_lt_of_le hl_X hb.size
            clear hb
            have HN1 := Lib.hid hn
            clear hn
            have HN2 := Lib.hid hn'
            clear hn'
            go_wp2_with fail
            go_roundw
            case rel =>
              refine ⟨k + 1, pn, by omega, by go_num, HSN.out, ⟨rn, cn, rn2, cn2, ⟨by first | omega | (simp; done) | (simp; omega), by exact KpA, fun o => by first | with_reducible exact f_S o | (simp [go_sem, f_S]; done) | (simp [go_sem, f_S, hl_S]; done) | (go_simp; done) | (simp; done) | (simp [go_sem]; done) | (simp [go_sem, k_S_0, k_S_1, k_S_2, k_R_0, k_R_1, k_R_2, k_X_0, k_X_1, k_X_2, f_S, f_R, f_X, hl_S, hl_R, hl_X]; done), by first | with_reducible assumption | (simp [go_sem, k_S_0]; done) | (simp [go_sem, k_S_0, hl_S]; done) | (go_simp; done) | (simp; done) | (simp [go_sem]; done) | (simp [go_sem, k_S_0, k_S_1, k_S_2, k_R_0, k_R_1, k_R_2, k_X_0, k_X_1, k_X_2, f_S, f_R, f_X, hl_S, hl_R, hl_X]; done), by first | with_reducible assumption | (simp [go_sem, k_S_1]; done) | (simp [go_sem, k_S_1, hl_S]; done) | (go_simp; done) | (simp; done) | (simp [go_sem]; done) | (simp [go_sem, k_S_0, k_S_1, k_S_2, k_R_0, k_R_1, k_R_2, k_X_0, k_X_1, k_X_2, f_S, f_R, f_X, hl_S, hl_R, hl_X]; done), by first | with_reducible assumption | (simp [go_sem, k_S_2]; done) | (simp [go_sem, k_S_2, hl_S]; done) | (go_simp; done) | (simp; done) | (simp [go_sem]; done) | (simp [go_sem, k_S_0, k_S_1, k_S_2, k_R_0, k_R_1, k_R_2, k_X_0, k_X_1, k_X_2, f_S, f_R, f_X, hl_S, hl_R, hl_X]; done)⟩, HN1.out.keep ?_, HN2.out.keep ?_⟩, ⟨by first | omega | (simp; done) | (simp; omega), by exact KpA, fun o => by first | with_reducible exact f_R o | (simp [go_sem, f_R]; done) | (simp [go_sem, f_R, hl_R]; done) | (go_simp; done) | (simp; done) | (simp [go_sem]; done) | (simp [go_sem, k_S_0, k_S_1, k_S_2, k_R_0, k_R_1, k_R_2, k_X_0, k_X_1, k_X_2, f_S, f_R, f_X, hl_S, hl_R, hl_X]; done), by first | with_reducible assumption | (simp [go_sem, k_R_0]; done) | (simp [go_sem, k_R_0, hl_R]; done) | (go_simp; done) | (simp; done) | (simp [go_sem]; done) | (simp [go_sem, k_S_0, k_S_1, k_S_2, k_R_0, k_R_1, k_R_2, k_X_0, k_X_1, k_X_2, f_S, f_R, f_X, hl_S, hl_R, hl_X]; done), by first | with_reducible assumption | (simp [go_sem, k_R_1]; done) | (simp [go_sem, k_R_1, hl_R]; done) | (go_simp; done) | (simp; done) | (simp [go_sem]; done) | (simp [go_sem, k_S_0, k_S_1, k_S_2, k_R_0, k_R_1, k_R_2, k_X_0, k_X_1, k_X_2, f_S, f_R, f_X, hl_S, hl_R, hl_X]; done), by first | with_reducible assumption | (simp [go_sem, k_R_2]; done) | (simp [go_sem, k_R_2, hl_R]; done) | (go_simp; done) | (simp; done) | (simp [go_sem]; done) | (simp [go_sem, k_S_0, k_S_1, k_S_2, k_R_0, k_R_1, k_R_2, k_X_0, k_X_1, k_X_2, f_S, f_R, f_X, hl_S, hl_R, hl_X]; done)⟩, ?_, ?_⟩
              all_goals exact KBA
            case measure => simp [intOf]; omega
    · obtain rfl : k = n := by omega
      obtain rfl : ps = p := HPS.out.symm.trans HP.out
      go_wp2_with fail
      refine bodyPost_ret (v := .agg #[.bool (decide ((ps).num < 0)), .slice rs (nlen (ps).num.natAbs) cs, .slice rs2 (nlen (ps).den) cs2]) (by simp [results, Tryz.results25, go_sem, k_R_0, k_R_1, k_R_2]) rfl ⟨_, _, _, _, rfl, HT1.out.keep ?_, HT2.out.keep ?_, ?_⟩
      all_goals exact KBA

set_option maxHeartbeats 1000000 in
theorem xMean_no {N : Nat} (a : Option Addr) (n cap : Nat) (q : Nat → Rat) (L : Nat) (w : World) (hN : N ≤ w.heap.size) (h : Rs N w a n cap q L) (hL : L ≤ 2097152) (hv : valid q n = false) : Calls Tryz.prog 8 #[.slice a n cap] w (RatErr w 1) := by
  have hN0 := hN
  have HA := Lib.hid h
  have HV := Lib.hid hv
  have bc1 := h.1
  have bc2 := h.2.1
  unfold maxLen at bc2
  clear h hv
  have HB := Lib.hid (Below.refl w.heap.size w)
  go_enter Tryz.func8, Tryz.ntmps8
  go_wp2_with fail
  refine calls_name fun W0 hW => ?_
  have hs_W0 : w.heap.size ≤ W0.heap.size := by rw [← hW]; exact OmA
  have HL_W0 := Lib.hid (show Below w.heap.size w W0 by rw [← hW]; exact BlA)
  have k_R_0 : W0.cell? ⟨w.heap.size, 0, none⟩ = some (.bool false) := by rw [← hW]; (first | (go_simp; done) | (simp; done) | (simp [go_sem]; done) | (simp [go_sem]; done))
  have k_R_1 : W0.cell? ⟨w.heap.size, 1, none⟩ = some (.slice none 0 0) := by rw [← hW]; (first | (go_simp; done) | (simp; done) | (simp [go_sem]; done) | (simp [go_sem]; done))
  have k_R_2 : W0.cell? ⟨w.heap.size, 2, none⟩ = some (.slice none 0 0) := by rw [← hW]; (first | (go_simp; done) | (simp; done) | (simp [go_sem]; done) | (simp [go_sem]; done))
  have f_R : ∀ o, W0.frozen? ⟨w.heap.size, o, none⟩ = false := by intro o; rw [← hW]; (first | (go_simp; done) | (simp; done) | (simp [go_sem]; done) | (simp [go_sem]; done))
  have HX_R := Lib.hid (show Bn W0 (w.heap.size) by rw [← hW]; exact KpA)
  replace HB := Lib.hid (show Below w.heap.size w W0 by rw [← hW]; exact BlA)
  replace hN : N ≤ W0.heap.size := by rw [← hW]; exact OmA
  have hs0 : w.heap.size ≤ W0.heap.size := by rw [← hW]; exact OmA
  have hl_R : w.heap.size < W0.heap.size := by rw [← hW]; exact OmA
  replace HA := Lib.hid (HA.out.below HL_W0.out)
  clear HL_W0
  clear hW
  refine (xvalid_any (N := N) _ _ _ q L _ hN HA.out hL false HV.out).mono ?_
  rintro e wa ⟨rfl, hb⟩
  have hs_wa : W0.heap.size ≤ wa.heap.size := hb.size
  replace k_R_0 : wa.cell? ⟨w.heap.size, 0, none⟩ = some (.bool false) := (hb.cell (p := ⟨w.heap.size, 0, none⟩) hl_R).trans k_R_0
  replace k_R_1 : wa.cell? ⟨w.heap.size, 1, none⟩ = some (.slice none 0 0) := (hb.cell (p := ⟨w.heap.size, 1, none⟩) hl_R).trans k_R_1
  replace k_R_2 : wa.cell? ⟨w.heap.size, 2, none⟩ = some (.slice none 0 0) := (hb.cell (p := ⟨w.heap.size, 2, none⟩) hl_R).trans k_R_2
  replace f_R : ∀ o, wa.frozen? ⟨w.heap.size, o, none⟩ = false := fun o => (hb.frozen (p := ⟨w.heap.size, o, none⟩) hl_R).trans (f_R o)
  replace HX_R := Lib.hid (HX_R.out.below hb)
  replace HB := Lib.hid (HB.out.trans (hb.mono hs0))
  replace hN : N ≤ wa.heap.size := Nat.le_trans hN hb.size
  replace hs0 : w.heap.size ≤ wa.heap.size := Nat.le_trans hs0 hb.size
  replace hl_R : w.heap.size < wa.heap.size := Nat.lt_of_lt_of_le hl_R hb.size
  replace HA := Lib.hid (HA.out.below hb)
  clear hb
  go_wp2_with fail
  refine bodyPost_ret (v := .tuple #[.agg #[.bool false, .slice none 0 0, .slice none 0 0], .int .i64 1]) (by simp [results, Tryz.results8, go_sem, k_R_0, k_R_1, k_R_2]) rfl ⟨rfl, ?_⟩
  exact BlA

set_option maxHeartbeats 1000000 in
theorem xVariance_no {N : Nat} (a : Option Addr) (n cap : Nat) (q : Nat → Rat) (L : Nat) (w : World) (hN : N ≤ w.heap.size) (h : Rs N w a n cap q L) (hL : L ≤ 2097152) (hv : valid q n = false) : Calls Tryz.prog 13 #[.slice a n cap] w (RatErr w 1) := by
  have hN0 := hN
  have HA := Lib.hid h
  have HV := Lib.hid hv
  have bc1 := h.1
  have bc2 := h.2.1
  unfold maxLen at bc2
  clear h hv
  have HB := Lib.hid (Below.refl w.heap.size w)
  go_enter Tryz.func13, Tryz.ntmps13
  go_wp2_with fail
  refine calls_name fun W0 hW => ?_
  have hs_W0 : w.heap.size ≤ W0.heap.size := by rw [← hW]; exact OmA
  have HL_W0 := Lib.hid (show Below w.heap.size w W0 by rw [← hW]; exact BlA)
  have k_R_0 : W0.cell? ⟨w.heap.size, 0, none⟩ = some (.bool false) := by rw [← hW]; (first | (go_simp; done) | (simp; done) | (simp [go_sem]; done) | (simp [go_sem]; done))
  have k_R_1 : W0.cell? ⟨w.heap.size, 1, none⟩ = some (.slice none 0 0) := by rw [← hW]; (first | (go_simp; done) | (simp; done) | (simp [go_sem]; done) | (simp [go_sem]; done))
  have k_R_2 : W0.cell? ⟨w.heap.size, 2, none⟩ = some (.slice none 0 0) := by rw [← hW]; (first | (go_simp; done) | (simp; done) | (simp [go_sem]; done) | (simp [go_sem]; done))
  have f_R : ∀ o, W0.frozen? ⟨w.heap.size, o, none⟩ = false := by intro o; rw [← hW]; (first | (go_simp; done) | (simp; done) | (simp [go_sem]; done) | (simp [go_sem]; done))
  have HX_R := Lib.hid (show Bn W0 (w.heap.size) by rw [← hW]; exact KpA)
  replace HB := Lib.hid (show Below w.heap.size w W0 by rw [← hW]; exact BlA)
  replace hN : N ≤ W0.heap.size := by rw [← hW]; exact OmA
  have hs0 : w.heap.size ≤ W0.heap.size := by rw [← hW]; exact OmA
  have hl_R : w.heap.size < W0.heap.size := by rw [← hW]; exact OmA
  replace HA := Lib.hid (HA.out.below HL_W0.out)
  clear HL_W0
  clear hW
  refine (xvalid_any (N := N) _ _ _ q L _ hN HA.out hL false HV.out).mono ?_
  rintro e wa ⟨rfl, hb⟩
  have hs_wa : W0.heap.size ≤ wa.heap.size := hb.size
  replace k_R_0 : wa.cell? ⟨w.heap.size, 0, none⟩ = some (.bool false) := (hb.cell (p := ⟨w.heap.size, 0, none⟩) hl_R).trans k_R_0
  replace k_R_1 : wa.cell? ⟨w.heap.size, 1, none⟩ = some (.slice none 0 0) := (hb.cell (p := ⟨w.heap.size, 1, none⟩) hl_R).trans k_R_1
  replace k_R_2 : wa.cell? ⟨w.heap.size, 2, none⟩ = some (.slice none 0 0) := (hb.cell (p := ⟨w.heap.size, 2, none⟩) hl_R).trans k_R_2
  replace f_R : ∀ o, wa.frozen? ⟨w.heap.size, o, none⟩ = false := fun o => (hb.frozen (p := ⟨w.heap.size, o, none⟩) hl_R).trans (f_R o)
  replace HX_R := Lib.hid (HX_R.out.below hb)
  replace HB := Lib.hid (HB.out.trans (hb.mono hs0))
  replace hN : N ≤ wa.heap.size := Nat.le_trans hN hb.size
  replace hs0 : w.heap.size ≤ wa.heap.size := Nat.le_trans hs0 hb.size
  replace hl_R : w.heap.size < wa.heap.size := Nat.lt_of_lt_of_le hl_R hb.size
  replace HA := Lib.hid (HA.out.below hb)
  clear hb
  go_wp2_with fail
  refine bodyPost_ret (v := .tuple #[.agg #[.bool false, .slice none 0 0, .slice none 0 0], .int .i64 1]) (by simp [results, Tryz.results13, go_sem, k_R_0, k_R_1, k_R_2]) rfl ⟨rfl, ?_⟩
  exact BlA

set_option maxHeartbeats 1000000 in
theorem xMean_ok {N : Nat} (a : Option Addr) (n cap : Nat) (q : Nat → Rat) (L : Nat) (w : World) (hN : N ≤ w.heap.size) (h : Rs N w a n cap q L) (hL : L ≤ 2097152) (hv : valid q n = true) (p : Rat) (hp : meanQ q n = p) : Calls Tryz.prog 8 #[.slice a n cap] w (RatOk N w p) := by
  have n121 := (valid_iff.1 hv).2.1
  have HP := Lib.hid hp
  clear hp
  have hN0 := hN
  have HA := Lib.hid h
  have HV := Lib.hid hv
  have bc1 := h.1
  have bc2 := h.2.1
  unfold maxLen at bc2
  clear h hv
  have HB := Lib.hid (Below.refl w.heap.size w)
  go_enter Tryz.func8, Tryz.ntmps8
  go_wp2_with fail
  refine calls_name fun W0 hW => ?_
  have hs_W0 : w.heap.size ≤ W0.heap.size := by rw [← hW]; exact OmA
  have HL_W0 := Lib.hid (show Below w.heap.size w W0 by rw [← hW]; exact BlA)
  have k_R_0 : W0.cell? ⟨w.heap.size, 0, none⟩ = some (.bool false) := by rw [← hW]; (first | (go_simp; done) | (simp; done) | (simp [go_sem]; done) | (simp [go_sem]; done))
  have k_R_1 : W0.cell? ⟨w.heap.size, 1, none⟩ = some (.slice none 0 0) := by rw [← hW]; (first | (go_simp; done) | (simp; done) | (simp [go_sem]; done) | (simp [go_sem]; done))
  have k_R_2 : W0.cell? ⟨w.heap.size, 2, none⟩ = some (.slice none 0 0) := by rw [← hW]; (first | (go_simp; done) | (simp; done) | (simp [go_sem]; done) | (simp [go_sem]; done))
  have f_R : ∀ o, W0.frozen? ⟨w.heap.size, o, none⟩ = false := by intro o; rw [← hW]; (first | (go_simp; done) | (simp; done) | (simp [go_sem]; done) | (simp [go_sem]; done))
  have HX_R := Lib.hid (show Bn W0 (w.heap.size) by rw [← hW]; exact KpA)
  replace HB := Lib.hid (show Below w.heap.size w W0 by rw [← hW]; exact BlA)
  replace hN : N ≤ W0.heap.size := by rw [← hW]; exact OmA
  have hs0 : w.heap.size ≤ W0.heap.size := by rw [← hW]; exact OmA
  have hl_R : w.heap.size < W0.heap.size := by rw [← hW]; exact OmA
  replace HA := Lib.hid (HA.out.below HL_W0.out)
  clear HL_W0
  clear hW
  refine (xvalid_any (N := N) _ _ _ q L _ hN HA.out hL true HV.out).mono ?_
  rintro e wa ⟨rfl, hb⟩
  have hs_wa : W0.heap.size ≤ wa.heap.size := hb.size
  replace k_R_0 : wa.cell? ⟨w.heap.size, 0, none⟩ = some (.bool false) := (hb.cell (p := ⟨w.heap.size, 0, none⟩) hl_R).trans k_R_0
  replace k_R_1 : wa.cell? ⟨w.heap.size, 1, none⟩ = some (.slice none 0 0) := (hb.cell (p := ⟨w.heap.size, 1, none⟩) hl_R).trans k_R_1
  replace k_R_2 : wa.cell? ⟨w.heap.size, 2, none⟩ = some (.slice none 0 0) := (hb.cell (p := ⟨w.heap.size, 2, none⟩) hl_R).trans k_R_2
  replace f_R : ∀ o, wa.frozen? ⟨w.heap.size, o, none⟩ = false := fun o => (hb.frozen (p := ⟨w.heap.size, o, none⟩) hl_R).trans (f_R o)
  replace HX_R := Lib.hid (HX_R.out.below hb)
  replace HB := Lib.hid (HB.out.trans (hb.mono hs0))
  replace hN : N ≤ wa.heap.size := Nat.le_trans hN hb.size
  replace hs0 : w.heap.size ≤ wa.heap.size := Nat.le_trans hs0 hb.size
  replace hl_R : w.heap.size < wa.heap.size := Nat.lt_of_lt_of_le hl_R hb.size
  replace HA := Lib.hid (HA.out.below hb)
  clear hb
  go_wp2_with fail
  refine calls_name fun W1 hW => ?_
  have HL_W1 := Lib.hid (show Below wa.heap.size wa W1 by rw [← hW]; exact BlA)
  have hs_W1 : wa.heap.size ≤ W1.heap.size := by rw [← hW]; exact OmA
  replace k_R_0 : W1.cell? ⟨w.heap.size, 0, none⟩ = some (.bool false) := (HL_W1.out.cell (p := ⟨w.heap.size, 0, none⟩) hl_R).trans k_R_0
  replace k_R_1 : W1.cell? ⟨w.heap.size, 1, none⟩ = some (.slice none 0 0) := (HL_W1.out.cell (p := ⟨w.heap.size, 1, none⟩) hl_R).trans k_R_1
  replace k_R_2 : W1.cell? ⟨w.heap.size, 2, none⟩ = some (.slice none 0 0) := (HL_W1.out.cell (p := ⟨w.heap.size, 2, none⟩) hl_R).trans k_R_2
  replace f_R : ∀ o, W1.frozen? ⟨w.heap.size, o, none⟩ = false := fun o => (HL_W1.out.frozen (p := ⟨w.heap.size, o, none⟩) hl_R).trans (f_R o)
  replace HX_R := Lib.hid (show Bn W1 (w.heap.size) by rw [← hW]; exact KpA)
  replace HB := Lib.hid (show Below w.heap.size w W1 by rw [← hW]; exact BlA)
  replace hN : N ≤ W1.heap.size := by rw [← hW]; exact OmA
  replace hs0 : w.heap.size ≤ W1.heap.size := by rw [← hW]; exact OmA
  replace hl_R : w.heap.size < W1.heap.size := by rw [← hW]; exact OmA
  replace HA := Lib.hid (HA.out.below HL_W1.out)
  clear HL_W1
  clear hW
  refine (moment1_any (N := N) _ _ _ q L _ hN HA.out hL n121 p HP.out).mono ?_
  rintro e wb ⟨rx, cx, rx2, cx2, rfl, hn, hn', hb⟩
  have hs_wb : W1.heap.size ≤ wb.heap.size := hb.size
  replace k_R_0 : wb.cell? ⟨w.heap.size, 0, none⟩ = some (.bool false) := (hb.cell (p := ⟨w.heap.size, 0, none⟩) hl_R).trans k_R_0
  replace k_R_1 : wb.cell? ⟨w.heap.size, 1, none⟩ = some (.slice none 0 0) := (hb.cell (p := ⟨w.heap.size, 1, none⟩) hl_R).trans k_R_1
  replace k_R_2 : wb.cell? ⟨w.heap.size, 2, none⟩ = some (.slice none 0 0) := (hb.cell (p := ⟨w.heap.size, 2, none⟩) hl_R).trans k_R_2
  replace f_R : ∀ o, wb.frozen? ⟨w.heap.size, o, none⟩ = false := fun o => (hb.frozen (p := ⟨w.heap.size, o, none⟩) hl_R).trans (f_R o)
  replace HX_R := Lib.hid (HX_R.out.below hb)
  replace HB := Lib.hid (HB.out.trans (hb.mono hs0))
  replace hN : N ≤ wb.heap.size := Nat.le_trans hN hb.size
  replace hs0 : w.heap.size ≤ wb.heap.size := Nat.le_trans hs0 hb.size
  replace hl_R : w.heap.size < wb.heap.size := Nat.lt_of_lt_of_le hl_R hb.size
  replace HA := Lib.hid (HA.out.below hb)
  clear hb
  have HX1 := Lib.hid hn
  clear hn
  have HX2 := Lib.hid hn'
  clear hn'
  go_wp2_with fail
  refine bodyPost_ret (v := .tuple #[.agg #[.bool (decide ((p).num < 0)), .slice rx (nlen (p).num.natAbs) cx, .slice rx2 (nlen (p).den) cx2], .int .i64 0]) (by simp [results, Tryz.results8, go_sem, k_R_0, k_R_1, k_R_2]) rfl ⟨_, _, _, _, rfl, HX1.out.keep ?_, HX2.out.keep ?_, ?_⟩
  all_goals exact KBA

theorem mom_len {q : Nat → Rat} {n L : Nat} (hlim : ∀ i, i < n → rsz (q i) ≤ L) (hL : L ≤ 2097152) (hn : n ≤ 121) : rsz (meanQ q n) ≤ 263192576 ∧ rsz (secQ q n) ≤ 263192576 := by
  have h2 : n * (L + 2 + 1) ≤ 121 * (L + 2 + 1) := Nat.mul_le_mul_right _ hn
  constructor
  · have h1 := sQ_rsz (q := fun i => q i * (i : Rat)) (k := n) (L := L + 2) (fun i hi => by have h3 := hlim i hi; have h4 := rsz_nat i (by omega) _ rfl; have h5 := rsz_mul (q i) (i : Rat); show rsz _ ≤ _; omega)
    unfold meanQ; omega
  · have h1 := sQ_rsz (q := fun i => q i * (i : Rat) * (i : Rat)) (k := n) (L := L + 2) (fun i hi => by have h3 := hlim i hi; have h4 := rsz_nat i (by omega) _ rfl; have h5 := rsz_mul (q i) (i : Rat); have h6 := rsz_mul (q i * (i : Rat)) (i : Rat); show rsz _ ≤ _; omega)
    unfold secQ; omega

set_option maxHeartbeats 4000000 in
theorem xVariance_ok {N : Nat} (a : Option Addr) (n cap : Nat) (q : Nat → Rat) (L : Nat) (w : World) (hN : N ≤ w.heap.size) (h : Rs N w a n cap q L) (hL : L ≤ 2097152) (hv : valid q n = true) (p : Rat) (hp : varQ q n = p) : Calls Tryz.prog 13 #[.slice a n cap] w (RatOk N w p) := by
  have n121 := (valid_iff.1 hv).2.1
  have hlen := mom_len h.lim hL n121
  obtain ⟨m, hm⟩ : ∃ p, meanQ q n = p := ⟨_, rfl⟩
  obtain ⟨v, hs⟩ : ∃ p, secQ q n = p := ⟨_, rfl⟩
  rw [hm, hs] at hlen
  obtain ⟨mm, hmm⟩ : ∃ p, m * m = p := ⟨_, rfl⟩
  have HP := Lib.hid (show v - mm = p by rw [← hs, ← hmm, ← hm, ← hp]; rfl)
  have HM := Lib.hid hm
  have HS2 := Lib.hid hs
  have HMM := Lib.hid hmm
  have HZm := Lib.hid hlen.1
  have HZv := Lib.hid hlen.2
  have HZmm := Lib.hid (show rsz mm ≤ 263192576 + 263192576 by rw [← hmm]; have := rsz_mul m m; have := hlen.1; omega)
  clear hp hm hs hmm hlen
  have hN0 := hN
  have HA := Lib.hid h
  have HV := Lib.hid hv
  have bc1 := h.1
  have bc2 := h.2.1
  unfold maxLen at bc2
  clear h hv
  have HB := Lib.hid (Below.refl w.heap.size w)
  go_enter Tryz.func13, Tryz.ntmps13
  go_wp2_with fail
  refine calls_name fun W0 hW => ?_
  have hs_W0 : w.heap.size ≤ W0.heap.size := by rw [← hW]; exact OmA
  have HL_W0 := Lib.hid (show Below w.heap.size w W0 by rw [← hW]; exact BlA)
  have k_R_0 : W0.cell? ⟨w.heap.size, 0, none⟩ = some (.bool false) := by rw [← hW]; (first | (go_simp; done) | (simp; done) | (simp [go_sem]; done) | (simp [go_sem]; done))
  have k_R_1 : W0.cell? ⟨w.heap.size, 1, none⟩ = some (.slice none 0 0) := by rw [← hW]; (first | (go_simp; done) | (simp; done) | (simp [go_sem]; done) | (simp [go_sem]; done))
  have k_R_2 : W0.cell? ⟨w.heap.size, 2, none⟩ = some (.slice none 0 0) := by rw [← hW]; (first | (go_simp; done) | (simp; done) | (simp [go_sem]; done) | (simp [go_sem]; done))
  have f_R : ∀ o, W0.frozen? ⟨w.heap.size, o, none⟩ = false := by intro o; rw [← hW]; (first | (go_simp; done) | (simp; done) | (simp [go_sem]; done) | (simp [go_sem]; done))
  have HX_R := Lib.hid (show Bn W0 (w.heap.size) by rw [← hW]; exact KpA)
  replace HB := Lib.hid (show Below w.heap.size w W0 by rw [← hW]; exact BlA)
  replace hN : N ≤ W0.heap.size := by rw [← hW]; exact OmA
  have hs0 : w.heap.size ≤ W0.heap.size := by rw [← hW]; exact OmA
  have hl_R : w.heap.size < W0.heap.size := by rw [← hW]; exact OmA
  replace HA := Lib.hid (HA.out.below HL_W0.out)
  clear HL_W0
  clear hW
  refine (xvalid_any (N := N) _ _ _ q L _ hN HA.out hL true HV.out).mono ?_
  rintro e wa ⟨rfl, hb⟩
  have hs_wa : W0.heap.size ≤ wa.heap.size := hb.size
  replace k_R_0 : wa.cell? ⟨w.heap.size, 0, none⟩ = some (.bool false) := (hb.cell (p := ⟨w.heap.size, 0, none⟩) hl_R).trans k_R_0
  replace k_R_1 : wa.cell? ⟨w.heap.size, 1, none⟩ = some (.slice none 0 0) := (hb.cell (p := ⟨w.heap.size, 1, none⟩) hl_R).trans k_R_1
  replace k_R_2 : wa.cell? ⟨w.heap.size, 2, none⟩ = some (.slice none 0 0) := (hb.cell (p := ⟨w.heap.size, 2, none⟩) hl_R).trans k_R_2
  replace f_R : ∀ o, wa.frozen? ⟨w.heap.size, o, none⟩ = false := fun o => (hb.frozen (p := ⟨w.heap.size, o, none⟩) hl_R).trans (f_R o)
  replace HX_R := Lib.hid (HX_R.out.below hb)
  replace HB := Lib.hid (HB.out.trans (hb.mono hs0))
  replace hN : N ≤ wa.heap.size := Nat.le_trans hN hb.size
  replace hs0 : w.heap.size ≤ wa.heap.size := Nat.le_trans hs0 hb.size
  replace hl_R : w.heap.size < wa.heap.size := Nat.lt_of_lt_of_le hl_R hb.size
  replace HA := Lib.hid (HA.out.below hb)
  clear hb
  go_wp2_with fail
  refine calls_name fun W1 hW => ?_
  have HL_W1 := Lib.hid (show Below wa.heap.size wa W1 by rw [← hW]; exact BlA)
  have hs_W1 : wa.heap.size ≤ W1.heap.size := by rw [← hW]; exact OmA
  replace k_R_0 : W1.cell? ⟨w.heap.size, 0, none⟩ = some (.bool false) := (HL_W1.out.cell (p := ⟨w.heap.size, 0, none⟩) hl_R).trans k_R_0
  replace k_R_1 : W1.cell? ⟨w.heap.size, 1, none⟩ = some (.slice none 0 0) := (HL_W1.out.cell (p := ⟨w.heap.size, 1, none⟩) hl_R).trans k_R_1
  replace k_R_2 : W1.cell? ⟨w.heap.size, 2, none⟩ = some (.slice none 0 0) := (HL_W1.out.cell (p := ⟨w.heap.size, 2, none⟩) hl_R).trans k_R_2
  replace f_R : ∀ o, W1.frozen? ⟨w.heap.size, o, none⟩ = false := fun o => (HL_W1.out.frozen (p := ⟨w.heap.size, o, none⟩) hl_R).trans (f_R o)
  replace HX_R := Lib.hid (show Bn W1 (w.heap.size) by rw [← hW]; exact KpA)
  replace HB := Lib.hid (show Below w.heap.size w W1 by rw [← hW]; exact BlA)
  replace hN : N ≤ W1.heap.size := by rw [← hW]; exact OmA
  replace hs0 : w.heap.size ≤ W1.heap.size := by rw [← hW]; exact OmA
  replace hl_R : w.heap.size < W1.heap.size := by rw [← hW]; exact OmA
  replace HA := Lib.hid (HA.out.below HL_W1.out)
  clear HL_W1
  clear hW
  refine (moment1_any (N := N) _ _ _ q L _ hN HA.out hL n121 m HM.out).mono ?_
  rintro e wb ⟨rm, cm, rm2, cm2, rfl, hn, hn', hb⟩
  have hs_wb : W1.heap.size ≤ wb.heap.size := hb.size
  replace k_R_0 : wb.cell? ⟨w.heap.size, 0, none⟩ = some (.bool false) := (hb.cell (p := ⟨w.heap.size, 0, none⟩) hl_R).trans k_R_0
  replace k_R_1 : wb.cell? ⟨w.heap.size, 1, none⟩ = some (.slice none 0 0) := (hb.cell (p := ⟨w.heap.size, 1, none⟩) hl_R).trans k_R_1
  replace k_R_2 : wb.cell? ⟨w.heap.size, 2, none⟩ = some (.slice none 0 0) := (hb.cell (p := ⟨w.heap.size, 2, none⟩) hl_R).trans k_R_2
  replace f_R : ∀ o, wb.frozen? ⟨w.heap.size, o, none⟩ = false := fun o => (hb.frozen (p := ⟨w.heap.size, o, none⟩) hl_R).trans (f_R o)
  replace HX_R := Lib.hid (HX_R.out.below hb)
  replace HB := Lib.hid (HB.out.trans (hb.mono hs0))
  replace hN : N ≤ wb.heap.size := Nat.le_trans hN hb.size
  replace hs0 : w.heap.size ≤ wb.heap.size := Nat.le_trans hs0 hb.size
  replace hl_R : w.heap.size < wb.heap.size := Nat.lt_of_lt_of_le hl_R hb.size
  replace HA := Lib.hid (HA.out.below hb)
  clear hb
  have HM1 := Lib.hid hn
  clear hn
  have HM2 := Lib.hid hn'
  clear hn'
  go_wp2_with fail
  refine region_name fun W2 hW => ?_
  have HL_W2 := Lib.hid (show Below wb.heap.size wb W2 by rw [← hW]; exact BlA)
  have hs_W2 : wb.heap.size ≤ W2.heap.size := by rw [← hW]; exact OmA
  have hd_R_M : w.heap.size < wb.heap.size := by omega
  have HK_W2 := Lib.hid (show Kp N wb W2 by rw [← hW]; exact KpA)
  replace k_R_0 : W2.cell? ⟨w.heap.size, 0, none⟩ = some (.bool false) := (HL_W2.out.cell (p := ⟨w.heap.size, 0, none⟩) hl_R).trans k_R_0
  replace k_R_1 : W2.cell? ⟨w.heap.size, 1, none⟩ = some (.slice none 0 0) := (HL_W2.out.cell (p := ⟨w.heap.size, 1, none⟩) hl_R).trans k_R_1
  replace k_R_2 : W2.cell? ⟨w.heap.size, 2, none⟩ = some (.slice none 0 0) := (HL_W2.out.cell (p := ⟨w.heap.size, 2, none⟩) hl_R).trans k_R_2
  replace f_R : ∀ o, W2.frozen? ⟨w.heap.size, o, none⟩ = false := fun o => (HL_W2.out.frozen (p := ⟨w.heap.size, o, none⟩) hl_R).trans (f_R o)
  replace HX_R := Lib.hid (show Bn W2 (w.heap.size) by rw [← hW]; exact KpA)
  have k_M_0 : W2.cell? ⟨wb.heap.size, 0, none⟩ = some (.bool (decide ((m).num < 0))) := by rw [← hW]; (first | (go_simp; done) | (simp; done) | (simp [go_sem]; done))
  have k_M_1 : W2.cell? ⟨wb.heap.size, 1, none⟩ = some (.slice rm (nlen (m).num.natAbs) cm) := by rw [← hW]; (first | (go_simp; done) | (simp; done) | (simp [go_sem]; done))
  have k_M_2 : W2.cell? ⟨wb.heap.size, 2, none⟩ = some (.slice rm2 (nlen (m).den) cm2) := by rw [← hW]; (first | (go_simp; done) | (simp; done) | (simp [go_sem]; done))
  have f_M : ∀ o, W2.frozen? ⟨wb.heap.size, o, none⟩ = false := by intro o; rw [← hW]; (first | (go_simp; done) | (simp; done) | (simp [go_sem]; done))
  have HX_M := Lib.hid (show Bn W2 (wb.heap.size) by rw [← hW]; exact KpA)
  replace HM1 := Lib.hid (HM1.out.keep HK_W2.out)
  replace HM2 := Lib.hid (HM2.out.keep HK_W2.out)
  replace HB := Lib.hid (show Below w.heap.size w W2 by rw [← hW]; exact BlA)
  replace hN : N ≤ W2.heap.size := by rw [← hW]; exact OmA
  replace hs0 : w.heap.size ≤ W2.heap.size := by rw [← hW]; exact OmA
  replace hl_R : w.heap.size < W2.heap.size := by rw [← hW]; exact OmA
  have hl_M : wb.heap.size < W2.heap.size := by rw [← hW]; exact OmA
  replace HA := Lib.hid (HA.out.below HL_W2.out)
  clear HL_W2
  clear hW HK_W2
  go_region_held3 (fun w' => w'.cell? ⟨wb.heap.size, 0, none⟩ = some (.bool (decide ((m).num < 0))) ∧ w'.cell? ⟨wb.heap.size, 1, none⟩ = some (.slice rm (nlen (m).num.natAbs) cm) ∧ w'.cell? ⟨wb.heap.size, 2, none⟩ = some (.slice rm2 (nlen (m).den) cm2))
    (first | (go_keep; done) | ((try dsimp only); (repeat' apply And.intro) <;> (first | (go_keep; done) | (exact cell_keep_alloc_drew (by first | omega | (simp; omega)) (by first | assumption | go_simp)) | (exact cell_keep_alloc (by first | omega | (simp; omega)) (by first | assumption | go_simp)) | (rw [cell_set2 _ _ _ _ _ _ _ _ (by omega)]; assumption) | (rw [cell_set3 _ _ _ _ _ _ _ _ _ _ (by omega)]; assumption))))
    (first
      | (go_at_call 25; refine (moment2_any (N := N) _ _ _ q L _ (by exact hN) (by exact HA.out) hL n121 v HS2.out).mono ?_; rintro e wc ⟨rs, cs, rs2, cs2, rfl, hn, hn', hb⟩; replace hb : Below W2.heap.size W2 wc := (by first | exact hb | exact bel_of_drew hb); have hs_wc : W2.heap.size ≤ wc.heap.size := hb.size; replace k_R_0 : wc.cell? ⟨w.heap.size, 0, none⟩ = some (.bool false) := (hb.cell (p := ⟨w.heap.size, 0, none⟩) hl_R).trans k_R_0; replace k_R_1 : wc.cell? ⟨w.heap.size, 1, none⟩ = some (.slice none 0 0) := (hb.cell (p := ⟨w.heap.size, 1, none⟩) hl_R).trans k_R_1; replace k_R_2 : wc.cell? ⟨w.heap.size, 2, none⟩ = some (.slice none 0 0) := (hb.cell (p := ⟨w.heap.size, 2, none⟩) hl_R).trans k_R_2; replace f_R : ∀ o, wc.frozen? ⟨w.heap.size, o, none⟩ = false := fun o => (hb.frozen (p := ⟨w.heap.size, o, none⟩) hl_R).trans (f_R o); replace HX_R := Lib.hid (HX_R.out.below hb); replace k_M_0 : wc.cell? ⟨wb.heap.size, 0, none⟩ = some (.bool (decide ((m).num < 0))) := (hb.cell (p := ⟨wb.heap.size, 0, none⟩) hl_M).trans k_M_0; replace k_M_1 : wc.cell? ⟨wb.heap.size, 1, none⟩ = some (.slice rm (nlen (m).num.natAbs) cm) := (hb.cell (p := ⟨wb.heap.size, 1, none⟩) hl_M).trans k_M_1; replace k_M_2 : wc.cell? ⟨wb.heap.size, 2, none⟩ = some (.slice rm2 (nlen (m).den) cm2) := (hb.cell (p := ⟨wb.heap.size, 2, none⟩) hl_M).trans k_M_2; replace f_M : ∀ o, wc.frozen? ⟨wb.heap.size, o, none⟩ = false := fun o => (hb.frozen (p := ⟨wb.heap.size, o, none⟩) hl_M).trans (f_M o); replace HX_M := Lib.hid (HX_M.out.below hb); replace HM1 := Lib.hid (HM1.out.below hb); replace HM2 := Lib.hid (HM2.out.below hb); replace HB := Lib.hid (HB.out.trans (hb.mono hs0)); replace hN : N ≤ wc.heap.size := Nat.le_trans hN hb.size; replace hs0 : w.heap.size ≤ wc.heap.size := Nat.le_trans hs0 hb.size; replace hl_R : w.heap.size < wc.heap.size := Nat.lt_of_lt_of_le hl_R hb.size; replace hl_M : wb.heap.size < wc.heap.size := Nat.lt_of_lt_of_le hl_M hb.size; replace HA := Lib.hid (HA.out.below hb); clear hb; have HX1 := Lib.hid hn; clear hn; have HX2 := Lib.hid hn'; clear hn'; skip)
      | (go_at_call 35; refine (xrmul_any (N := N) _ _ _ _ _ _ _ _ _ _ _ _ _ _ 263192576 263192576 m m _ (by exact hN) (by exact Rt.of_norm HM1.out HM2.out _ HZm.out) (by exact Rt.of_norm HM1.out HM2.out _ HZm.out) (by omega) (by omega) mm HMM.out).mono ?_; rintro e wd ⟨rt, ct, rt2, ct2, rfl, hn, hn', hb⟩; replace hb : Below wc.heap.size wc wd := (by first | exact hb | exact bel_of_drew hb); have hs_wd : wc.heap.size ≤ wd.heap.size := hb.size; replace k_R_0 : wd.cell? ⟨w.heap.size, 0, none⟩ = some (.bool false) := (hb.cell (p := ⟨w.heap.size, 0, none⟩) hl_R).trans k_R_0; replace k_R_1 : wd.cell? ⟨w.heap.size, 1, none⟩ = some (.slice none 0 0) := (hb.cell (p := ⟨w.heap.size, 1, none⟩) hl_R).trans k_R_1; replace k_R_2 : wd.cell? ⟨w.heap.size, 2, none⟩ = some (.slice none 0 0) := (hb.cell (p := ⟨w.heap.size, 2, none⟩) hl_R).trans k_R_2; replace f_R : ∀ o, wd.frozen? ⟨w.heap.size, o, none⟩ = false := fun o => (hb.frozen (p := ⟨w.heap.size, o, none⟩) hl_R).trans (f_R o); replace HX_R := Lib.hid (HX_R.out.below hb); replace k_M_0 : wd.cell? ⟨wb.heap.size, 0, none⟩ = some (.bool (decide ((m).num < 0))) := (hb.cell (p := ⟨wb.heap.size, 0, none⟩) hl_M).trans k_M_0; replace k_M_1 : wd.cell? ⟨wb.heap.size, 1, none⟩ = some (.slice rm (nlen (m).num.natAbs) cm) := (hb.cell (p := ⟨wb.heap.size, 1, none⟩) hl_M).trans k_M_1; replace k_M_2 : wd.cell? ⟨wb.heap.size, 2, none⟩ = some (.slice rm2 (nlen (m).den) cm2) := (hb.cell (p := ⟨wb.heap.size, 2, none⟩) hl_M).trans k_M_2; replace f_M : ∀ o, wd.frozen? ⟨wb.heap.size, o, none⟩ = false := fun o => (hb.frozen (p := ⟨wb.heap.size, o, none⟩) hl_M).trans (f_M o); replace HX_M := Lib.hid (HX_M.out.below hb); replace HM1 := Lib.hid (HM1.out.below hb); replace HM2 := Lib.hid (HM2.out.below hb); replace HX1 := Lib.hid (HX1.out.below hb); replace HX2 := Lib.hid (HX2.out.below hb); replace HB := Lib.hid (HB.out.trans (hb.mono hs0)); replace hN : N ≤ wd.heap.size := Nat.le_trans hN hb.size; replace hs0 : w.heap.size ≤ wd.heap.size := Nat.le_trans hs0 hb.size; replace hl_R : w.heap.size < wd.heap.size := Nat.lt_of_lt_of_le hl_R hb.size; replace hl_M : wb.heap.size < wd.heap.size := Nat.lt_of_lt_of_le hl_M hb.size; replace HA := Lib.hid (HA.out.below hb); clear hb; have HY1 := Lib.hid hn; clear hn; have HY2 := Lib.hid hn'; clear hn'; skip)
      | (go_at_call 34; refine (xrsub_any (N := N) _ _ _ _ _ _ _ _ _ _ _ _ _ _ 263192576 (263192576 + 263192576) v mm _ (by exact hN) (by exact Rt.of_norm HX1.out HX2.out _ HZv.out) (by exact Rt.of_norm HY1.out HY2.out _ HZmm.out) (by omega) (by omega) p HP.out).mono ?_; rintro e we ⟨rx, cx, rx2, cx2, rfl, hn, hn', hb⟩; replace hb : Below wd.heap.size wd we := (by first | exact hb | exact bel_of_drew hb); have hs_we : wd.heap.size ≤ we.heap.size := hb.size; replace k_R_0 : we.cell? ⟨w.heap.size, 0, none⟩ = some (.bool false) := (hb.cell (p := ⟨w.heap.size, 0, none⟩) hl_R).trans k_R_0; replace k_R_1 : we.cell? ⟨w.heap.size, 1, none⟩ = some (.slice none 0 0) := (hb.cell (p := ⟨w.heap.size, 1, none⟩) hl_R).trans k_R_1; replace k_R_2 : we.cell? ⟨w.heap.size, 2, none⟩ = some (.slice none 0 0) := (hb.cell (p := ⟨w.heap.size, 2, none⟩) hl_R).trans k_R_2; replace f_R : ∀ o, we.frozen? ⟨w.heap.size, o, none⟩ = false := fun o => (hb.frozen (p := ⟨w.heap.size, o, none⟩) hl_R).trans (f_R o); replace HX_R := Lib.hid (HX_R.out.below hb); replace k_M_0 : we.cell? ⟨wb.heap.size, 0, none⟩ = some (.bool (decide ((m).num < 0))) := (hb.cell (p := ⟨wb.heap.size, 0, none⟩) hl_M).trans k_M_0; replace k_M_1 : we.cell? ⟨wb.heap.size, 1, none⟩ = some (.slice rm (nlen (m).num.natAbs) cm) := (hb.cell (p := ⟨wb.heap.size, 1, none⟩) hl_M).trans k_M_1; replace k_M_2 : we.cell? ⟨wb.heap.size, 2, none⟩ = some (.slice rm2 (nlen (m).den) cm2) := (hb.cell (p := ⟨wb.heap.size, 2, none⟩) hl_M).trans k_M_2; replace f_M : ∀ o, we.frozen? ⟨wb.heap.size, o, none⟩ = false := fun o => (hb.frozen (p := ⟨wb.heap.size, o, none⟩) hl_M).trans (f_M o); replace HX_M := Lib.hid (HX_M.out.below hb); replace HM1 := Lib.hid (HM1.out.below hb); replace HM2 := Lib.hid (HM2.out.below hb); replace HX1 := Lib.hid (HX1.out.below hb); replace HX2 := Lib.hid (HX2.out.below hb); replace HY1 := Lib.hid (HY1.out.below hb); replace HY2 := Lib.hid (HY2.out.below hb); replace HB := Lib.hid (HB.out.trans (hb.mono hs0)); replace hN : N ≤ we.heap.size := Nat.le_trans hN hb.size; replace hs0 : w.heap.size ≤ we.heap.size := Nat.le_trans hs0 hb.size; replace hl_R : w.heap.size < we.heap.size := Nat.lt_of_lt_of_le hl_R hb.size; replace hl_M : wb.heap.size < we.heap.size := Nat.lt_of_lt_of_le hl_M hb.size; replace HA := Lib.hid (HA.out.below hb); clear hb; have HQ1 := Lib.hid hn; clear hn; have HQ2 := Lib.hid hn'; clear hn'; skip))
  go_wp2_with fail
  refine bodyPost_ret (v := .tuple #[.agg #[.bool (decide ((p).num < 0)), .slice rx (nlen (p).num.natAbs) cx, .slice rx2 (nlen (p).den) cx2], .int .i64 0]) (by simp [results, Tryz.results13, go_sem, k_R_0, k_R_1, k_R_2]) rfl ⟨_, _, _, _, rfl, HQ1.out.keep ?_, HQ2.out.keep ?_, ?_⟩
  all_goals exact KBA

end Go.Proofs.YtbjgnpgachdlaaaGreatDoor
