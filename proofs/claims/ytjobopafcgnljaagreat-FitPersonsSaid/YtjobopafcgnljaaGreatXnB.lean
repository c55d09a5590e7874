import Derived.Test.YtjobopafcgnljaaGreatAl
import Derived.Test.YtjobopafcgnljaaGreatXnA
namespace Go.Proofs.YtjobopafcgnljaaGreat
open Go.RowKit
theorem Tq.put {N : Nat} {w : World} {tb n m k c g o : Nat} {β κ : Nat → Nat} {x y : Nat → Nat → Rat} (h : Tq N w tb n m β κ x) (hN : ∀ r, r < n → N ≤ β r) (hk : k < n) (hc : c < m) (hg : β k = g) (ho : c * 3 = o) (p : Rat) (hp : y k c = p) {a a2 : Option Addr} {cp cp2 : Nat} (h1 : Nt N w a (nlen p.num.natAbs) cp p.num.natAbs) (h2 : Nt N w a2 (nlen p.den) cp2 p.den) (e : ∀ r, r < n → ∀ d, d < m → ¬ (r = k ∧ d = c) → x r d = y r d) :
  Tq N (((w.setCell ⟨g, o, none⟩ (.bool (decide (p.num < 0)))).setCell ⟨g, o + 1, none⟩ (.slice a (nlen p.num.natAbs) cp)).setCell ⟨g, o + 2, none⟩ (.slice a2 (nlen p.den) cp2)) tb n m β κ y := by
 subst hg; subst ho
 exact h.set hN hk hc p hp h1 h2 e
theorem block_nameX {P : Program} {Q : Exit → Act → World → Prop} {c : Code} {a : Act} {w : World} (h : ∀ W, w = W → c.wp P Q a W) : c.wp P Q a w := h w rfl
theorem Sb.set3 {b g o o1 o2 : Nat} {w : World} (hne : b ≠ g) (x y z : Value) : Sb b w (((w.setCell ⟨g, o, none⟩ x).setCell ⟨g, o1, none⟩ y).setCell ⟨g, o2, none⟩ z) :=
 ((Sb.set (Sb.refl _ _) hne _).set hne _).set hne _
theorem Kp.set3 {N g o o1 o2 : Nat} {w : World} (hg : N ≤ g) (hb : Bn w g) (x y z : Value) : Kp N w (((w.setCell ⟨g, o, none⟩ x).setCell ⟨g, o1, none⟩ y).setCell ⟨g, o2, none⟩ z) :=
 (((Kp.refl N w).put hg hb _).put hg (hb.set _ _) _).put hg ((hb.set _ _).set _ _) _
theorem bel_set3 {B g o o1 o2 : Nat} {w0 w : World} (h : Below B w0 w) (hg : B ≤ g) (x y z : Value) : Below B w0 (((w.setCell ⟨g, o, none⟩ x).setCell ⟨g, o1, none⟩ y).setCell ⟨g, o2, none⟩ z) :=
 ((h.setCell hg _).setCell hg _).setCell hg _
def XnJ7 (N tb R M tcap gk dk : Nat) (p1 : Rat) (W : World) (z0 : Act) (L : Nat → Bool) (z1 : Act) (w : World) : Prop :=
 ∃ u33 u34 u35 u36 u37, z1 = (((((z0.put (some 33) u33).put (some 34) u34).put (some 35) u35).put (some 36) u36).put (some 37) u37) ∧
  ((L 5 = false ∧ Since W w ∧ (L 0 = true → u33 = .slice (some ⟨tb, 0, none⟩) R tcap) ∧ (L 1 = true → u34 = .pointer (some ⟨tb, 0, none⟩)) ∧ (L 2 = true → u35 = .slice (some ⟨gk, 0, none⟩) M dk) ∧ (L 3 = true → IsRat N p1 u36 w) ∧ (L 4 = true → u37 = .pointer (some ⟨gk, 0, none⟩))) ∨
  (L 5 = true ∧ (∀ j, j < 5 → L j = true) ∧ CutAt N W gk 0 p1 w))
def XnJ12 (N : Nat) (p1 pw : Rat) (sk : Bool) (ra da : Option Addr) (rn rc dn dc b off n cap k : Nat) (W : World) (z0 : Act) (L : Nat → Bool) (z1 : Act) (w : World) : Prop :=
 ∃ u47 u48 u49 u50 u51 u52 u10, z1 = (((((((z0.put (some 47) u47).put (some 48) u48).put (some 49) u49).put (some 50) u50).put (some 51) u51).put (some 52) u52).put (some 10) u10) ∧
  ((L 7 = false ∧ Since W w ∧ (L 0 = true → IsRat N p1 u47 w) ∧ (L 1 = true → u48 = .slice (some ⟨b, off, none⟩) n cap) ∧ (L 2 = true → u49 = .int .i64 k) ∧ (L 3 = true → u50 = .pointer (some ⟨b, off + k * 3, none⟩)) ∧ (L 4 = true → u51 = .agg #[.bool sk, .slice ra rn rc, .slice da dn dc]) ∧ (L 5 = true → IsRat N pw u52 w) ∧ (L 6 = true → IsBox W.heap.size 29 3 u10 w)) ∨
  (L 7 = true ∧ (∀ j, j < 7 → L j = true) ∧ CutRat N W pw u10 w))
def XnJ20 (N tn R M ww k1 e _cj tc tcap ncap gk dk bb kb _bw : Nat) (po pv pw pm pn : Rat) (ro ro2 rv rv2 rz rz2 : Option Addr) (co co2 cv cv2 cz cz2 : Nat) (_LL : Nat) (W : World) (z0 : Act) (L : Nat → Bool) (z1 : Act) (w : World) : Prop :=
 ∃ u72 u73 u74 u75 u76 u77 u78 u79 u80 u81 u82 u83 u84 u85 u86 u87 u88 u89 u90 u91 u92 u93 u94 u95 u96, z1 = (((((((((((((((((((((((((z0.put (some 72) u72).put (some 73) u73).put (some 74) u74).put (some 75) u75).put (some 76) u76).put (some 77) u77).put (some 78) u78).put (some 79) u79).put (some 80) u80).put (some 81) u81).put (some 82) u82).put (some 83) u83).put (some 84) u84).put (some 85) u85).put (some 86) u86).put (some 87) u87).put (some 88) u88).put (some 89) u89).put (some 90) u90).put (some 91) u91).put (some 92) u92).put (some 93) u93).put (some 94) u94).put (some 95) u95).put (some 96) u96) ∧
  ((L 25 = false ∧ Since W w ∧ (L 0 = true → u72 = .slice (some ⟨tn, 0, none⟩) R ncap) ∧ (L 1 = true → u73 = .int .i64 ww) ∧ (L 2 = true → u74 = .int .i64 k1) ∧ (L 3 = true → u75 = .pointer (some ⟨tn, k1, none⟩)) ∧ (L 4 = true → u76 = .slice (some ⟨gk, 0, none⟩) M dk) ∧ (L 5 = true → u77 = .int .i64 e) ∧ (L 6 = true → u78 = .slice (some ⟨tn, 0, none⟩) R ncap) ∧ (L 7 = true → u79 = .int .i64 ww) ∧ (L 8 = true → u80 = .int .i64 k1) ∧ (L 9 = true → u81 = .pointer (some ⟨tn, k1, none⟩)) ∧ (L 10 = true → u82 = .slice (some ⟨gk, 0, none⟩) M dk) ∧ (L 11 = true → u83 = .int .i64 e) ∧ (L 12 = true → u84 = .pointer (some ⟨gk, e * 3, none⟩)) ∧ (L 13 = true → u85 = .agg #[.bool (decide (po.num < 0)), .slice ro (nlen po.num.natAbs) co, .slice ro2 (nlen po.den) co2]) ∧ (L 14 = true → u86 = .slice (some ⟨tc, 0, none⟩) R tcap) ∧ (L 15 = true → u87 = .int .i64 ww) ∧ (L 16 = true → u88 = .pointer (some ⟨tc, ww, none⟩)) ∧ (L 17 = true → u89 = .slice (some ⟨bb, 0, none⟩) M kb) ∧ (L 18 = true → u90 = .int .i64 e) ∧ (L 19 = true → u91 = .pointer (some ⟨bb, e * 3, none⟩)) ∧ (L 20 = true → u92 = .agg #[.bool (decide (pv.num < 0)), .slice rv (nlen pv.num.natAbs) cv, .slice rv2 (nlen pv.den) cv2]) ∧ (L 21 = true → u93 = .agg #[.bool (decide (pw.num < 0)), .slice rz (nlen pw.num.natAbs) cz, .slice rz2 (nlen pw.den) cz2]) ∧ (L 22 = true → IsRat N pm u94 w) ∧ (L 23 = true → IsRat N pn u95 w) ∧ (L 24 = true → u96 = .pointer (some ⟨gk, e * 3, none⟩))) ∨
  (L 25 = true ∧ (∀ j, j < 25 → L j = true) ∧ CutAt N W gk (e * 3) pn w))
def XnJ22 (N tn R M ww _k1 e cj tc tcap ncap gk dk bb kb _bw : Nat) (po pv _pw pm pn : Rat) (ro ro2 rv rv2 _rz _rz2 : Option Addr) (co co2 cv cv2 _cz _cz2 : Nat) (_LL : Nat) (sk : Bool) (ra da : Option Addr) (rn rc dn dc b off n cap k : Nat) (W : World) (z0 : Act) (L : Nat → Bool) (z1 : Act) (w : World) : Prop :=
 ∃ u102 u103 u104 u105 u106 u107 u108 u109 u110 u111 u112 u113 u114 u115 u116 u117 u118 u119 u120 u121 u122 u123 u124 u125 u126 u127 u128 u129 u130 u131, z1 = ((((((((((((((((((((((((((((((z0.put (some 102) u102).put (some 103) u103).put (some 104) u104).put (some 105) u105).put (some 106) u106).put (some 107) u107).put (some 108) u108).put (some 109) u109).put (some 110) u110).put (some 111) u111).put (some 112) u112).put (some 113) u113).put (some 114) u114).put (some 115) u115).put (some 116) u116).put (some 117) u117).put (some 118) u118).put (some 119) u119).put (some 120) u120).put (some 121) u121).put (some 122) u122).put (some 123) u123).put (some 124) u124).put (some 125) u125).put (some 126) u126).put (some 127) u127).put (some 128) u128).put (some 129) u129).put (some 130) u130).put (some 131) u131) ∧
  ((L 30 = false ∧ Since W w ∧ (L 0 = true → u102 = .slice (some ⟨tn, 0, none⟩) R ncap) ∧ (L 1 = true → u103 = .int .i64 ww) ∧ (L 2 = true → u104 = .pointer (some ⟨tn, ww, none⟩)) ∧ (L 3 = true → u105 = .slice (some ⟨gk, 0, none⟩) M dk) ∧ (L 4 = true → u106 = .int .i64 e) ∧ (L 5 = true → u107 = .int .i64 ww) ∧ (L 6 = true → u108 = .int .i64 cj) ∧ (L 7 = true → u109 = .slice (some ⟨tn, 0, none⟩) R ncap) ∧ (L 8 = true → u110 = .int .i64 ww) ∧ (L 9 = true → u111 = .pointer (some ⟨tn, ww, none⟩)) ∧ (L 10 = true → u112 = .slice (some ⟨gk, 0, none⟩) M dk) ∧ (L 11 = true → u113 = .int .i64 e) ∧ (L 12 = true → u114 = .int .i64 ww) ∧ (L 13 = true → u115 = .int .i64 cj) ∧ (L 14 = true → u116 = .pointer (some ⟨gk, cj * 3, none⟩)) ∧ (L 15 = true → u117 = .agg #[.bool (decide (po.num < 0)), .slice ro (nlen po.num.natAbs) co, .slice ro2 (nlen po.den) co2]) ∧ (L 16 = true → u118 = .slice (some ⟨tc, 0, none⟩) R tcap) ∧ (L 17 = true → u119 = .int .i64 ww) ∧ (L 18 = true → u120 = .pointer (some ⟨tc, ww, none⟩)) ∧ (L 19 = true → u121 = .slice (some ⟨bb, 0, none⟩) M kb) ∧ (L 20 = true → u122 = .int .i64 e) ∧ (L 21 = true → u123 = .pointer (some ⟨bb, e * 3, none⟩)) ∧ (L 22 = true → u124 = .agg #[.bool (decide (pv.num < 0)), .slice rv (nlen pv.num.natAbs) cv, .slice rv2 (nlen pv.den) cv2]) ∧ (L 23 = true → u125 = .slice (some ⟨b, off, none⟩) n cap) ∧ (L 24 = true → u126 = .int .i64 k) ∧ (L 25 = true → u127 = .pointer (some ⟨b, off + k * 3, none⟩)) ∧ (L 26 = true → u128 = .agg #[.bool sk, .slice ra rn rc, .slice da dn dc]) ∧ (L 27 = true → IsRat N pm u129 w) ∧ (L 28 = true → IsRat N pn u130 w) ∧ (L 29 = true → u131 = .pointer (some ⟨gk, cj * 3, none⟩))) ∨
  (L 30 = true ∧ (∀ j, j < 30 → L j = true) ∧ CutAt N W gk (cj * 3) pn w))
def XnJ32 (N R M rr e tc tcap bb kb bs : Nat) (ps pv pn : Rat) (rs rs2 rv rv2 : Option Addr) (cs cs2 cv cv2 _LL : Nat) (W : World) (z0 : Act) (L : Nat → Bool) (z1 : Act) (w : World) : Prop :=
 ∃ u144 u145 u146 u147 u148 u149 u150 u151 u152, z1 = (((((((((z0.put (some 144) u144).put (some 145) u145).put (some 146) u146).put (some 147) u147).put (some 148) u148).put (some 149) u149).put (some 150) u150).put (some 151) u151).put (some 152) u152) ∧
  ((L 9 = false ∧ Since W w ∧ (L 0 = true → u144 = .agg #[.bool (decide (ps.num < 0)), .slice rs (nlen ps.num.natAbs) cs, .slice rs2 (nlen ps.den) cs2]) ∧ (L 1 = true → u145 = .slice (some ⟨tc, 0, none⟩) R tcap) ∧ (L 2 = true → u146 = .int .i64 rr) ∧ (L 3 = true → u147 = .pointer (some ⟨tc, rr, none⟩)) ∧ (L 4 = true → u148 = .slice (some ⟨bb, 0, none⟩) M kb) ∧ (L 5 = true → u149 = .int .i64 e) ∧ (L 6 = true → u150 = .pointer (some ⟨bb, e * 3, none⟩)) ∧ (L 7 = true → u151 = .agg #[.bool (decide (pv.num < 0)), .slice rv (nlen pv.num.natAbs) cv, .slice rv2 (nlen pv.den) cv2]) ∧ (L 8 = true → IsRat N pn u152 w)) ∨
  (L 9 = true ∧ (∀ j, j < 9 → L j = true) ∧ CutSet N W bs pn w))
theorem Rt.grow {N : Nat} {w : World} {s : Bool} {a d : Option Addr} {na ca nd cd L L' : Nat} {q : Rat} (h : Rt N w s a na ca d nd cd q L) (hL : L ≤ L') : Rt N w s a na ca d nd cd q L' := by
 obtain ⟨h0, h1, h2, h3⟩ := h
 exact ⟨by omega, by omega, by omega, h3⟩
set_option maxRecDepth 20000 in
set_option maxHeartbeats 8000000 in
theorem xnull_ok {N : Nat} (a : Option Addr) (n cap : Nat) (q : Nat → Rat) (L : Nat) (w : World) (hN : N ≤ w.heap.size) (h : Rs N w a n cap q L) (hL : L ≤ 100000) (hc : chkF q n = 0) :
  Calls Tryz.prog 36 #[.slice a n cap] w (RnPost N w (n * n / 4 + 1) (nlQ q n)) := by
 have HC := Lib.hid hc
 obtain ⟨h20, hx⟩ := chkF_ok hc
 have HX := Lib.hid hx
 have HLim := Lib.hid h.lim
 have HAw := Lib.hid h
 have bc := h.1
 have bm := h.2.1
 unfold maxLen at bm
 clear hc h hx
 obtain ⟨M, hM⟩ : ∃ M, n * n / 4 + 1 = M := ⟨_, rfl⟩
 have hnn : n * n ≤ 400 := Nat.le_trans (Nat.mul_le_mul h20 h20) (by decide)
 have hM1 : M ≤ 101 := by omega
 have hM0 : 0 < M := by omega
 rw [hM]
 have HM := Lib.hid hM
 clear hM
 obtain ⟨LL, hLL⟩ : ∃ l, L * n + 2 = l := ⟨_, rfl⟩
 have hLn : L * n ≤ 100000 * 20 := Nat.mul_le_mul hL h20
 have hLL1 : LL ≤ 2000002 := by omega
 have HLL := Lib.hid hLL
 clear hLL hLn
 obtain ⟨p1, hp1⟩ : ∃ p : Rat, (((1 : Int) : Rat)) / ((1 : Int) : Rat) = p := ⟨_, rfl⟩
 have HP1 := Lib.hid hp1
 have HE1 := Lib.hid (show p1 = 1 by rw [← hp1]; decide +kernel)
 have HZ1 := Lib.hid (show rsz p1 ≤ 1 by rw [HE1.out]; exact rsz_one)
 clear hp1
 obtain ⟨p0, hp0⟩ : ∃ p : Rat, (((0 : Int) : Rat)) / ((1 : Int) : Rat) = p := ⟨_, rfl⟩
 have HP0 := Lib.hid hp0
 have HE0 := Lib.hid (show p0 = 0 by rw [← hp0]; decide +kernel)
 clear hp0
 obtain ⟨i0, hi, hz0, hz1, hz2⟩ := info_parts Tryz.infoRat
 have hN0 := hN
 go_enter Tryz.func36, Tryz.ntmps36
 go_wp2_with fail
 refine (xcheck_any31 (N := N) _ _ _ q L _ hN HAw.out (by omega) 0 HC.out).mono ?_
 rintro e wa ⟨rfl, hb⟩
 have HB := Lib.hid hb
 have hs0 : w.heap.size ≤ wa.heap.size := hb.size
 replace hN : N ≤ wa.heap.size := Nat.le_trans hN hs0
 clear hb
 go_wp2_with fail
 obtain ⟨R, hR⟩ : ∃ R, n + 1 = R := ⟨_, rfl⟩
 have hR2 : R ≤ 21 := by omega
 have hR1 : 0 < R := by omega
 have hRk : n < R := by omega
 have HR1 := Lib.hid hR
 have eR : ((n : Int) + 1) = (R : Int) := by omega
 have eM : ((n : Int) * (n : Int) / 4 + 1) = (M : Int) := by rw [← HM.out]; rfl
 rw [eR, eM]
 have ER := Lib.hid eR
 clear hR eR eM
 refine (xtable_any (N := N) R M _ hN (by omega) (by omega) (by omega) (by omega)).mono ?_
 rintro e wb ⟨tb, tcap, β, κ, rfl, htc1, htc2, htb, hβ, htq, hb⟩
 have HT := Lib.hid htq
 unfold maxLen at htc2
 replace HB := Lib.hid (HB.out.trans (hb.mono hs0))
 replace hN : N ≤ wb.heap.size := Nat.le_trans hN hb.size
 have htb0 : w.heap.size ≤ tb := by omega
 have HBE := Lib.hid (show ∀ j, j < R → w.heap.size ≤ β j from fun j hj => by have := hβ j hj; omega)
 replace hs0 : w.heap.size ≤ wb.heap.size := Nat.le_trans hs0 hb.size
 clear htq hb htb hβ
 obtain ⟨gk, hgk⟩ : ∃ g, β 0 = g := ⟨_, rfl⟩
 obtain ⟨dk, hdk⟩ : ∃ g, κ 0 = g := ⟨_, rfl⟩
 have gt1 := HT.out.top 0 hR1
 have hrow := HT.out.row 0 hR1
 have hgN := HBE.out 0 hR1
 rw [hgk] at gt1 hrow hgN
 rw [hdk] at gt1 hrow
 have HGK := Lib.hid hgk
 obtain ⟨v6, g6⟩ := hrow.1.cell (o := 0) (by have := HT.out.big 0 hR1; rw [hdk] at this; omega)
 obtain ⟨v7, g7⟩ := hrow.1.cell (o := 1) (by have := HT.out.big 0 hR1; rw [hdk] at this; omega)
 obtain ⟨v8, g8⟩ := hrow.1.cell (o := 2) (by have := HT.out.big 0 hR1; rw [hdk] at this; omega)
 have fo := hrow.1.frozen
 have hlg : gk < wb.heap.size := hrow.lt
 have hlt : tb < wb.heap.size := HT.out.tl
 have HBN := Lib.hid hrow.bn
 clear hrow hgk hdk
 have hR1z : (0 : Int) < (R : Int) := by omega
 have hM0z : (0 : Int) < (M : Int) := by omega
 go_upto_region 7 with fail
 refine region_inv2 (by kernel_rfl) (XnJ7 N tb R M tcap gk dk p1 (wb)) ?_ ?_ ?_ ?_
 ·exact ⟨undef, undef, undef, undef, undef, by simp only [Act.put, aT, aZ, aS], .inl ⟨rfl, Since.drawn _, NoR⟩⟩
 ·exact acyc_spec (by kernel_rfl)
 ·intro Ls a0 wq i o ho hLi hafter hJ
  obtain ⟨u33, u34, u35, u36, u37, rfl, hJ | ⟨h10, hall, _⟩⟩ := hJ
  ·obtain ⟨hLl, hS, p0, p1, p2, p3, p4⟩ := hJ
   have P0 := Lib.hid p0; have P1 := Lib.hid p1; have P2 := Lib.hid p2; have P3 := Lib.hid p3; have P4 := Lib.hid p4; have HS := Lib.hid hS; clear hS p0 p1 p2 p3 p4
   have hi : i < 6 := (Array.getElem?_eq_some_iff.1 ho).1
   obtain rfl | rfl | rfl | rfl | rfl | rfl : i = 0 ∨ i = 1 ∨ i = 2 ∨ i = 3 ∨ i = 4 ∨ i = 5 := by omega
   ·simp only [gT, gZ, Option.some.injEq] at ho
    subst ho
    clear hLi hafter
    simp only [Act.put, aT, aZ, aS]
    go_wp2_with fail
    exact ⟨.slice (some ⟨tb, 0, none⟩) R tcap, u34, u35, u36, u37, by simp only [Act.put, aT, aZ, aS], .inl ⟨by simpa using hLl, HS.out, (fun _ => rfl), PvR⟩⟩
   ·simp only [gT, gZ, gS, Option.some.injEq] at ho
    subst ho
    obtain rfl := P0.out (hafter ⟨0, .data⟩ (by simp) rfl)
    clear hLi hafter
    simp only [Act.put, aT, aZ, aS]
    go_wp2_with fail
    exact ⟨.slice (some ⟨tb, 0, none⟩) R tcap, .pointer (some ⟨tb, 0, none⟩), u35, u36, u37, by simp only [Act.put, aT, aZ, aS], .inl ⟨by simpa using hLl, HS.out, PvA, (fun _ => rfl), PvR⟩⟩
   ·simp only [gT, gZ, gS, Option.some.injEq] at ho
    subst ho
    obtain rfl := P1.out (hafter ⟨1, .data⟩ (by simp) rfl)
    have c0 := (HS.out.1.cell (p := ⟨tb, 0, none⟩) hlt).trans gt1
    clear hLi hafter
    simp only [Act.put, aT, aZ, aS]
    go_wp2_with fail
    exact ⟨u33, .pointer (some ⟨tb, 0, none⟩), .slice (some ⟨gk, 0, none⟩) M dk, u36, u37, by simp only [Act.put, aT, aZ, aS], .inl ⟨by simpa using hLl, HS.out, PvA, PvA, (fun _ => rfl), PvR⟩⟩
   ·simp only [gT, gZ, gS, Option.some.injEq] at ho
    subst ho
    clear hLi hafter
    simp only [Act.put, aT, aZ, aS]
    go_wp2_with fail
    refine (xwhole_any (N := N) 1 _ (by have := HS.out.2; omega) (by omega) (by omega) p1 HP1.out).mono ?_
    rintro e wn ⟨r, c, r2, c2, rfl, hn, hn', hb⟩
    have HN := Lib.hid hn
    have HM := Lib.hid hn'
    have Hb := Lib.hid hb
    clear hn hn' hb
    go_wp2_with fail
    exact ⟨u33, u34, u35, _, u37, by simp only [Act.put, aT, aZ, aS], .inl ⟨by simpa using hLl, HS.out.below Hb.out, PvA, PvA, PvA, (fun _ => ⟨r, c, r2, c2, rfl, HN.out, HM.out⟩), PvA⟩⟩
   ·simp only [gT, gZ, gS, Option.some.injEq] at ho
    subst ho
    obtain rfl := P2.out (hafter ⟨2, .data⟩ (by simp) rfl)
    clear hLi hafter
    simp only [Act.put, aT, aZ, aS]
    go_wp2_with fail
    exact ⟨u33, u34, .slice (some ⟨gk, 0, none⟩) M dk, u36, .pointer (some ⟨gk, 0, none⟩), by simp only [Act.put, aT, aZ, aS], .inl ⟨by simpa using hLl, HS.out, PvA, PvA, PvA, PvA, (fun _ => rfl)⟩⟩
   ·simp only [gT, gZ, gS, Option.some.injEq] at ho
    subst ho
    have hall : ∀ j, j < 5 → Ls j = true := by
     intro j hj
     obtain rfl | rfl | rfl | rfl | rfl : j = 0 ∨ j = 1 ∨ j = 2 ∨ j = 3 ∨ j = 4 := by omega
     all_goals first | (refine hafter ⟨_, .phase⟩ ?_ rfl; simp; done) | (refine hafter ⟨_, .data⟩ ?_ rfl; simp; done)
    have HALL := Lib.hid hall
    clear hall
    obtain ⟨r3, c3, t3, d3, rfl, hn3, hm3⟩ := P3.out (hafter ⟨3, .data⟩ (by simp) rfl)
    have HN3 := Lib.hid hn3
    have HM3 := Lib.hid hm3
    clear hn3 hm3
    obtain rfl := P4.out (hafter ⟨4, .data⟩ (by simp) rfl)
    have c0 := (HS.out.1.cell (p := ⟨gk, 0, none⟩) hlg).trans g6
    have c1 := (HS.out.1.cell (p := ⟨gk, 1, none⟩) hlg).trans g7
    have c2 := (HS.out.1.cell (p := ⟨gk, 2, none⟩) hlg).trans g8
    have fz : ∀ o, wq.frozen? ⟨gk, o, none⟩ = false := fun o => (HS.out.1.frozen (p := ⟨gk, o, none⟩) hlg).trans (fo o)
    clear hLi hafter
    simp only [Act.put, aT, aZ, aS]
    go_wp2_with fail
    exact ⟨u33, u34, u35, .agg #[.bool (decide ((p1).num < 0)), .slice r3 (nlen (p1).num.natAbs) c3, .slice t3 (nlen (p1).den) d3], .pointer (some ⟨gk, 0, none⟩), by simp only [Act.put, aT, aZ, aS], .inr ⟨by simp, fun j hj => by simp [HALL.out j hj], ⟨_, _, _, _, _, HS.out, HN3.out, HM3.out, rfl⟩⟩⟩
  ·exfalso
   have hi : i < 6 := (Array.getElem?_eq_some_iff.1 ho).1
   rcases Nat.lt_or_ge i 5 with h | h
   ·rw [hall i h] at hLi; cases hLi
   ·obtain rfl : i = 5 := by omega
    rw [h10] at hLi; cases hLi
 ·intro Ls a0 wq hall hJ
  obtain ⟨u33, u34, u35, u36, u37, rfl, ⟨h10, _⟩ | ⟨_, _, hcut⟩⟩ := hJ
  ·rw [hall 5 (by decide)] at h10; cases h10
  ·obtain ⟨w1, r1, c1', r12, c12, hs, hn, hn', rfl⟩ := hcut
   have Hs := Lib.hid hs
   have Hn := Lib.hid hn
   have Hn' := Lib.hid hn'
   clear hs hn hn'
   simp only [Act.put, aT, aZ, aS]
   have HTx := Lib.hid ((HT.out.below Hs.out.1).put (k := 0) (c := 0) (y := nul q 0) (fun r hr => by have := HBE.out r hr; omega) hR1 hM0 HGK.out (Nat.zero_mul 3) p1 ((nul_00 q).trans HE1.out.symm) Hn.out Hn'.out (fun r _ d _ hne => (nul_0 q hne).symm))
   have HBx := Lib.hid (bel_set3 (HB.out.trans (Hs.out.1.mono hs0)) (g := gk) (o := 0) (o1 := 1) (o2 := 2) hgN (.bool (decide (p1.num < 0))) (.slice r1 (nlen p1.num.natAbs) c1') (.slice r12 (nlen p1.den) c12))
   go_wp2_with fail
   go_loopw [7, 8] (fun by_ i wr => ∃ (k tc tcap : Nat) (β κ : Nat → Nat), k ≤ n ∧ i = .int .i64 k ∧ by_ = .slice (some ⟨tc, 0, none⟩) R tcap ∧ R ≤ tcap ∧ tcap ≤ 9223372036854775807 ∧ Hid (∀ j, j < R → w.heap.size ≤ β j) ∧ Hid (Tq N wr tc R M β κ (nul q k)) ∧ Below w.heap.size w wr) (fun _ i _ => n - (intOf i).toNat)
   case atStart => exact ⟨0, tb, tcap, β, κ, Nat.zero_le _, rfl, rfl, htc1, by omega, HBE, HTx, HBx.out⟩
   case round =>
    obtain ⟨k, tc, tcap', β', κ', hk, rfl, rfl, htc1', htc2', HBE', HTT, hbel⟩ := hrel
    obtain ⟨wo, rfl⟩ : ∃ x : World, x = wr := ⟨_, rfl⟩
    have HBw := Lib.hid hbel
    have hsw : w.heap.size ≤ wo.heap.size := hbel.size
    have hN : N ≤ wo.heap.size := by omega
    clear hbel HTx HBx HT HB HBE HGK htc1 htc2 gt1 g6 g7 g8 fo hlg hlt HBN hgN htb0 hs0 Hs Hn Hn'
    obtain ⟨tcap, rfl⟩ : ∃ x, x = tcap' := ⟨_, rfl⟩
    obtain ⟨β, rfl⟩ : ∃ x, x = β' := ⟨_, rfl⟩
    obtain ⟨κ, rfl⟩ : ∃ x, x = κ' := ⟨_, rfl⟩
    have hlco : tc < wo.heap.size := HTT.out.tl
    by_cases hkn : k < n
    ·obtain ⟨b, off, rfl, hcs⟩ := (HAw.out.below HBw.out).2.2 (by omega)
     obtain ⟨sk, ra, rn, rc, da, dn, dc, ga0, ga1, ga2, hrt⟩ := hcs k hkn
     have GA0 := Lib.hid ga0
     have GA1 := Lib.hid ga1
     have GA2 := Lib.hid ga2
     have HRo := Lib.hid hrt
     have HR := HRo
     have hlao : b < wo.heap.size := World.block_lt_of_cell? wo _ ga0
     clear hcs hrt ga0 ga1 ga2
     have hix0 : (0 : Int) ≤ (k : Int) := by omega
     have hix1 : (k : Int) < (n : Int) := by omega
     obtain ⟨pw, hpw⟩ : ∃ p, p1 - q k = p := ⟨_, rfl⟩
     have HPW := Lib.hid hpw
     have HEW := Lib.hid (show 1 - q k = pw by rw [← HE1.out]; exact hpw)
     have HZW := Lib.hid (show rsz pw ≤ LL by rw [← hpw]; have h1 := rsz_subx p1 (q k); have h2 := HLim.out k hkn; have h3 := HZ1.out; have h4 := HLL.out; have h5 : L * 1 ≤ L * n := Nat.mul_le_mul_left _ (by omega); omega)
     clear hpw
     have HB := Lib.hid (Below.refl wo.heap.size wo)
     go_wp2_with fail
     rw [ER.out]
     have hs0 : wo.heap.size ≤ wo.heap.size := Nat.le_refl _
     refine (xtable_any (N := N) R M _ hN (by omega) (by omega) (by omega) (by omega)).mono ?_
     rintro e wd ⟨tn, ncap, γ, δ, rfl, htn1, htn2, htn3, hγ, htq, hb⟩
     have hs_wd : wo.heap.size ≤ wd.heap.size := hb.size
     replace HR := Lib.hid (HR.out.below hb)
     replace HB := Lib.hid (HB.out.trans (hb.mono hs0))
     replace hN : N ≤ wd.heap.size := Nat.le_trans hN hb.size
     replace hs0 : wo.heap.size ≤ wd.heap.size := Nat.le_trans hs0 hb.size
     clear hb
     have HTN := Lib.hid htq
     clear htq
     unfold maxLen at htn2
     have HGE := Lib.hid (show ∀ j, j < R → wo.heap.size ≤ γ j from hγ)
     clear hγ
     have ga0 := cell_mono GA0.out HB.out
     have ga1 := cell_mono GA1.out HB.out
     have ga2 := cell_mono GA2.out HB.out
     have hla : b < wd.heap.size := by omega
     go_upto_region 12 with fail
     refine block_nameX fun W1 hW => ?_
     have hs_W1 : wd.heap.size ≤ W1.heap.size := by rw [← hW]; exact OmT
     have HK_W1 := Lib.hid (show Kp N wd W1 by rw [← hW]; exact KpA)
     rw [hW] at ga0 ga1 ga2 hla
     have HL_W1 := Lib.hid (show Below wd.heap.size wd W1 by rw [← hW]; exact BlA)
     replace HR := Lib.hid (HR.out.keep HK_W1.out)
     replace HB := Lib.hid (show Below wo.heap.size wo W1 by rw [← hW]; exact BlA)
     replace hN : N ≤ W1.heap.size := by rw [← hW]; exact OmT
     replace hs0 : wo.heap.size ≤ W1.heap.size := by rw [← hW]; exact OmT
     replace HTN := Lib.hid (HTN.out.below HL_W1.out)
     clear HL_W1
     clear hW HK_W1
     have HGL := Lib.hid (show ∀ j, j < R → γ j < W1.heap.size from fun j hj => (HTN.out.row j hj).lt)
     go_cut [10] (fun s10 wx => CutRat N W1 pw s10 wx)
     case first =>
      refine region_inv2 (by kernel_rfl) (XnJ12 N p1 pw sk ra da rn rc dn dc b off n cap k (W1)) ?_ ?_ ?_ ?_
      ·exact ⟨u47, u48, u49, u50, u51, u52, u10, by simp only [Act.put, aT, aZ, aS], .inl ⟨rfl, Since.drawn _, NoR⟩⟩
      ·exact acyc_spec (by kernel_rfl)
      ·intro Ls a0 wq i o ho hLi hafter hJ
       obtain ⟨u47, u48, u49, u50, u51, u52, u10, rfl, hJ | ⟨h10, hall, _⟩⟩ := hJ
       ·obtain ⟨hLl, hS, p0, p1, p2, p3, p4, p5, p6⟩ := hJ
        have P0 := Lib.hid p0; have P1 := Lib.hid p1; have P2 := Lib.hid p2; have P3 := Lib.hid p3; have P4 := Lib.hid p4; have P5 := Lib.hid p5; have P6 := Lib.hid p6; have HS := Lib.hid hS; clear hS p0 p1 p2 p3 p4 p5 p6
        have hi : i < 8 := (Array.getElem?_eq_some_iff.1 ho).1
        obtain rfl | rfl | rfl | rfl | rfl | rfl | rfl | rfl : i = 0 ∨ i = 1 ∨ i = 2 ∨ i = 3 ∨ i = 4 ∨ i = 5 ∨ i = 6 ∨ i = 7 := by omega
        ·simp only [gT, gZ, Option.some.injEq] at ho
         subst ho
         clear hLi hafter
         simp only [Act.put, aT, aZ, aS]
         go_wp2_with fail
         refine (xwhole_any (N := N) 1 _ (by have := HS.out.2; omega) (by omega) (by omega) p1 HP1.out).mono ?_
         rintro e wn ⟨r, c, r2, c2, rfl, hn, hn', hb⟩
         have HN := Lib.hid hn
         have HM := Lib.hid hn'
         have Hb := Lib.hid hb
         clear hn hn' hb
         go_wp2_with fail
         exact ⟨_, u48, u49, u50, u51, u52, u10, by simp only [Act.put, aT, aZ, aS], .inl ⟨by simpa using hLl, HS.out.below Hb.out, (fun _ => ⟨r, c, r2, c2, rfl, HN.out, HM.out⟩), PvA, PvA, PvA, PvA, (fun h => (P5.out (by simpa using h)).below Hb.out), (fun h => (P6.out (by simpa using h)).below Hb.out)⟩⟩
        ·simp only [gT, gZ, gS, Option.some.injEq] at ho
         subst ho
         clear hLi hafter
         simp only [Act.put, aT, aZ, aS]
         go_wp2_with fail
         exact ⟨u47, .slice (some ⟨b, off, none⟩) n cap, u49, u50, u51, u52, u10, by simp only [Act.put, aT, aZ, aS], .inl ⟨by simpa using hLl, HS.out, PvA, (fun _ => rfl), PvR⟩⟩
        ·simp only [gT, gZ, gS, Option.some.injEq] at ho
         subst ho
         clear hLi hafter
         simp only [Act.put, aT, aZ, aS]
         go_wp2_with fail
         exact ⟨u47, u48, .int .i64 k, u50, u51, u52, u10, by simp only [Act.put, aT, aZ, aS], .inl ⟨by simpa using hLl, HS.out, PvA, PvA, (fun _ => rfl), PvR⟩⟩
        ·simp only [gT, gZ, gS, Option.some.injEq] at ho
         subst ho
         obtain rfl := P1.out (hafter ⟨1, .data⟩ (by simp) rfl)
         obtain rfl := P2.out (hafter ⟨2, .data⟩ (by simp) rfl)
         clear hLi hafter
         simp only [Act.put, aT, aZ, aS]
         go_wp2_with fail
         exact ⟨u47, .slice (some ⟨b, off, none⟩) n cap, .int .i64 k, .pointer (some ⟨b, off + k * 3, none⟩), u51, u52, u10, by simp only [Act.put, aT, aZ, aS], .inl ⟨by simpa using hLl, HS.out, PvA, PvA, PvA, (fun _ => rfl), PvR⟩⟩
        ·simp only [gT, gZ, gS, Option.some.injEq] at ho
         subst ho
         obtain rfl := P3.out (hafter ⟨3, .data⟩ (by simp) rfl)
         have c0 := (HS.out.1.cell (p := ⟨b, off + k * 3, none⟩) hla).trans ga0
         have c1 := (HS.out.1.cell (p := ⟨b, off + k * 3 + 1, none⟩) hla).trans ga1
         have c2 := (HS.out.1.cell (p := ⟨b, off + k * 3 + 2, none⟩) hla).trans ga2
         clear hLi hafter
         simp only [Act.put, aT, aZ, aS]
         go_wp2_with fail
         exact ⟨u47, u48, u49, .pointer (some ⟨b, off + k * 3, none⟩), .agg #[.bool sk, .slice ra rn rc, .slice da dn dc], u52, u10, by simp only [Act.put, aT, aZ, aS], .inl ⟨by simpa using hLl, HS.out, PvA, PvA, PvA, PvA, (fun _ => rfl), PvR⟩⟩
        ·simp only [gT, gZ, gS, Option.some.injEq] at ho
         subst ho
         obtain ⟨r0, c0, t0, d0, rfl, hn0, hm0⟩ := P0.out (hafter ⟨0, .data⟩ (by simp) rfl)
         have HN0 := Lib.hid hn0
         have HM0 := Lib.hid hm0
         clear hn0 hm0
         obtain rfl := P4.out (hafter ⟨4, .data⟩ (by simp) rfl)
         clear hLi hafter
         simp only [Act.put, aT, aZ, aS]
         go_wp2_with fail
         refine (xrsub_any (N := N) _ _ _ _ _ _ _ _ _ _ _ _ _ _ 1 L p1 (q k) _ (by have := HS.out.2; omega) (Rt.of_norm HN0.out HM0.out 1 HZ1.out) (HR.out.below HS.out.1) (by omega) (by omega) pw HPW.out).mono ?_
         rintro e wn ⟨r, c, r2, c2, rfl, hn, hn', hb⟩
         have HN := Lib.hid hn
         have HM := Lib.hid hn'
         have Hb := Lib.hid hb
         clear hn hn' hb
         go_wp2_with fail
         exact ⟨_, u48, u49, u50, .agg #[.bool sk, .slice ra rn rc, .slice da dn dc], _, u10, by simp only [Act.put, aT, aZ, aS], .inl ⟨by simpa using hLl, HS.out.below Hb.out, (fun h => (P0.out (by simpa using h)).below Hb.out), PvA, PvA, PvA, PvA, (fun _ => ⟨r, c, r2, c2, rfl, HN.out, HM.out⟩), (fun h => (P6.out (by simpa using h)).below Hb.out)⟩⟩
        ·simp only [gT, gZ, gS, Option.some.injEq] at ho
         subst ho
         clear hLi hafter
         simp only [Act.put, aT, aZ, aS]
         go_wp2_with fail
         exact ⟨u47, u48, u49, u50, u51, u52, _, by simp only [Act.put, aT, aZ, aS], .inl ⟨by simpa using hLl, HS.out.below (bel1 wq (.cells #[.bool false, .slice none 0 0, .slice none 0 0] 29)), (fun h => (P0.out (by simpa using h)).below (bel1 wq (.cells #[.bool false, .slice none 0 0, .slice none 0 0] 29))), PvA, PvA, PvA, PvA, (fun h => (P5.out (by simpa using h)).below (bel1 wq (.cells #[.bool false, .slice none 0 0, .slice none 0 0] 29))), (fun _ => ⟨wq.heap.size, rfl, HS.out.2, Bk.new _ _ _⟩)⟩⟩
        ·simp only [gT, gZ, gS, Option.some.injEq] at ho
         subst ho
         have hall : ∀ j, j < 7 → Ls j = true := by
          intro j hj
          obtain rfl | rfl | rfl | rfl | rfl | rfl | rfl : j = 0 ∨ j = 1 ∨ j = 2 ∨ j = 3 ∨ j = 4 ∨ j = 5 ∨ j = 6 := by omega
          all_goals first | (refine hafter ⟨_, .phase⟩ ?_ rfl; simp; done) | (refine hafter ⟨_, .data⟩ ?_ rfl; simp; done)
         have HALL := Lib.hid hall
         clear hall
         obtain ⟨r5, c5, t5, d5, rfl, hn5, hm5⟩ := P5.out (hafter ⟨5, .data⟩ (by simp) rfl)
         have HN5 := Lib.hid hn5
         have HM5 := Lib.hid hm5
         clear hn5 hm5
         obtain ⟨g, rfl, hg, hbk⟩ := P6.out (hafter ⟨6, .data⟩ (by simp) rfl)
         have f0 := hbk.frozen
         have HK := Lib.hid hbk
         obtain ⟨v0, hv0⟩ := hbk.cell (o := 0) (by omega)
         obtain ⟨v1, hv1⟩ := hbk.cell (o := 1) (by omega)
         obtain ⟨v2, hv2⟩ := hbk.cell (o := 2) (by omega)
         clear hbk
         clear hLi hafter
         simp only [Act.put, aT, aZ, aS]
         go_wp2_with fail
         exact ⟨u47, u48, u49, u50, u51, .agg #[.bool (decide ((pw).num < 0)), .slice r5 (nlen (pw).num.natAbs) c5, .slice t5 (nlen (pw).den) d5], .pointer (some ⟨g, 0, none⟩), by simp only [Act.put, aT, aZ, aS], .inr ⟨by simp, fun j hj => by simp [HALL.out j hj], cutRat_of hN hg HK.out HN5.out HM5.out HS.out⟩⟩
       ·exfalso
        have hi : i < 8 := (Array.getElem?_eq_some_iff.1 ho).1
        rcases Nat.lt_or_ge i 7 with h | h
        ·rw [hall i h] at hLi; cases hLi
        ·obtain rfl : i = 7 := by omega
         rw [h10] at hLi; cases hLi
      ·intro Ls a0 wq hall hJ
       obtain ⟨u47, u48, u49, u50, u51, u52, u10, rfl, ⟨h10, _⟩ | ⟨_, _, hcut⟩⟩ := hJ
       ·rw [hall 7 (by decide)] at h10; cases h10
       ·have HC := Lib.hid hcut
        clear hcut
        simp only [Act.put, aT, aZ, aS]
        go_wp2_with fail
        go_meet
        exact HC.out
     case rest =>
      have HZQ := Lib.hid (show rsz (q k) ≤ LL by have h2 := HLim.out k hkn; have h4 := HLL.out; have h5 : L * 1 ≤ L * n := Nat.mul_le_mul_left _ (by omega); omega)
      have HRl := Lib.hid (HRo.out.grow (show L ≤ LL by have h4 := HLL.out; have h5 : L * 1 ≤ L * n := Nat.mul_le_mul_left _ (by omega); omega))
      obtain ⟨wx, rfl⟩ : ∃ wx : World, wx = wc := ⟨_, rfl⟩
      obtain ⟨bw, rx, cx, rx2, cx2, rfl, hg, hk1, kx0, kx1, kx2, hn, hn', hs⟩ := hcut
      have hb := hs.1
      have HRW := Lib.hid (show Rl N wx bw 1 1 (fun _ => pw) from ⟨hk1, fun i hi => by obtain rfl : i = 0 := (by omega); exact ⟨rx, cx, rx2, cx2, kx0, kx1, kx2, hn, hn'⟩⟩)
      have hbw : wo.heap.size ≤ bw := by omega
      replace HGL := Lib.hid (show ∀ j, j < R → γ j ≠ bw from fun j hj e => by have := HGL.out j hj; omega)
      clear hs hn hn' kx0 kx1 kx2 hk1 ga0 ga1 ga2 hla
      clear HR
      have hs_wx : W1.heap.size ≤ wx.heap.size := hb.size
      replace HB := Lib.hid (HB.out.trans (hb.mono hs0))
      replace hN : N ≤ wx.heap.size := Nat.le_trans hN hb.size
      replace hs0 : wo.heap.size ≤ wx.heap.size := Nat.le_trans hs0 hb.size
      replace HTN := Lib.hid (HTN.out.below hb)
      clear hb
      go_wp2_with fail
      go_loopw [11] (fun i wq => ∃ ww : Nat, ww ≤ k + 1 ∧ i = .int .i64 ww ∧ Tq N wq tn R M γ δ (nqP q k ww 0) ∧ Below wo.heap.size wo wq ∧ Rl N wq bw 1 1 (fun _ => pw)) (fun i _ => k + 1 - (intOf i).toNat)
      case atStart => exact ⟨0, Nat.zero_le _, rfl, HTN.out.congr (fun r _ c _ => (nqP_0 _ _ _ _).symm), HB.out, HRW.out⟩
      case round =>
       clear HTN HB HRW hN hs0
       obtain ⟨ww, hww, rfl, htn, hbel, hrw⟩ := hrel
       obtain ⟨wq, rfl⟩ : ∃ x : World, x = wr := ⟨_, rfl⟩
       have HTN := Lib.hid htn
       have HB := Lib.hid hbel
       have HRW := Lib.hid hrw
       have hs0 : wo.heap.size ≤ wq.heap.size := hbel.size
       have hN : N ≤ wq.heap.size := by omega
       clear htn hbel hrw
       by_cases hwk : ww ≤ k
       ·obtain ⟨bb, hbb⟩ : ∃ g, β ww = g := ⟨_, rfl⟩
        obtain ⟨kb, hkb⟩ : ∃ g, κ ww = g := ⟨_, rfl⟩
        have gw0 := HTT.out.top ww (by omega)
        have hrb := HTT.out.row ww (by omega)
        rw [hbb, hkb] at gw0 hrb
        have GW := Lib.hid gw0
        have HRB := Lib.hid hrb
        have hlvo : bb < wo.heap.size := hrb.lt
        clear gw0 hrb hbb hkb
        have hwz : (ww : Int) ≤ (k : Int) := by omega
        go_wp2_with fail
        go_loopw [12] (fun j wp => ∃ e : Nat, e ≤ M ∧ j = .int .i64 e ∧ Tq N wp tn R M γ δ (nqP q k ww e) ∧ Below wo.heap.size wo wp ∧ Rl N wp bw 1 1 (fun _ => pw)) (fun j _ => M - (intOf j).toNat)
        case atStart => exact ⟨0, Nat.zero_le _, rfl, HTN.out, HB.out, HRW.out⟩
        case round =>
         clear HTN HB HRW hN hs0
         obtain ⟨e, hee, rfl, htn, hbel, hrw⟩ := hrel
         obtain ⟨wp, rfl⟩ : ∃ x : World, x = wr := ⟨_, rfl⟩
         have HTN := Lib.hid htn
         have HB := Lib.hid hbel
         have HRW := Lib.hid hrw
         have hs0 : wo.heap.size ≤ wp.heap.size := hbel.size
         have hN : N ≤ wp.heap.size := by omega
         clear htn hbel hrw
         by_cases he : e < M
         ·obtain ⟨rv, cv, rv2, cv2, gv0', gv1', gv2', nv1, nv2⟩ := HRB.out.2 e he
          obtain ⟨pv, hpv⟩ : ∃ p, nul q k ww e = p := ⟨_, rfl⟩
          rw [hpv] at gv0' gv1' gv2' nv1 nv2
          have GV0 := Lib.hid gv0'
          have GV1 := Lib.hid gv1'
          have GV2 := Lib.hid gv2'
          have NV1 := Lib.hid nv1
          have NV2 := Lib.hid nv2
          have HPV := Lib.hid hpv
          have HZV := Lib.hid (show rsz pv ≤ LL by rw [← hpv, ← HLL.out]; have := nul_rsz q n L HX.out HLim.out k (by omega) ww e; omega)
          clear gv0' gv1' gv2' nv1 nv2 hpv
          obtain ⟨σ, hσ⟩ : ∃ σ, pv.num.sign = σ := ⟨_, rfl⟩
          have HSG := Lib.hid hσ
          have hez : (e : Int) < (M : Int) := by omega
          have hwR : (ww : Int) < (R : Int) := by omega
          have gw : wp.cell? ⟨tc, ww, none⟩ = some (.slice (some ⟨bb, 0, none⟩) M kb) := cell_mono GW.out HB.out
          have gv0 : wp.cell? ⟨bb, e * 3, none⟩ = some (.bool (decide (pv.num < 0))) := cell_mono GV0.out HB.out
          have gv1 : wp.cell? ⟨bb, e * 3 + 1, none⟩ = some (.slice rv (nlen pv.num.natAbs) cv) := cell_mono GV1.out HB.out
          have gv2 : wp.cell? ⟨bb, e * 3 + 2, none⟩ = some (.slice rv2 (nlen pv.den) cv2) := cell_mono GV2.out HB.out
          have HV1 := Lib.hid (NV1.out.below HB.out)
          have HV2 := Lib.hid (NV2.out.below HB.out)
          have hlc : tc < wp.heap.size := by omega
          have hlv : bb < wp.heap.size := by omega
          by_cases hv0 : pv = 0
          ·have d0 : ((σ : Int) == 0) = true := by rw [← hσ, hv0]; rfl
           have HV0 := Lib.hid hv0
           clear hv0 hσ
           go_wp2_with fail
           refine (xrsign_any (N := N) _ _ _ _ _ _ _ LL pv _ hN (Rt.of_norm HV1.out HV2.out LL HZV.out) (by omega)).mono ?_
           rw [HSG.out]
           rintro e' wc ⟨rfl, hb⟩
           have HTN' := Lib.hid (HTN.out.below hb)
           have HRW' := Lib.hid (HRW.out.below hb)
           have HB' := Lib.hid (HB.out.trans (hb.mono hs0))
           clear HTN HRW HB gw gv0 gv1 gv2 HV1 HV2 hlc hlv
           have HTN := HTN'
           have HRW := HRW'
           have HB := HB'
           clear HTN' HRW' HB'
           have hs0' : wo.heap.size ≤ wc.heap.size := Nat.le_trans hs0 hb.size
           have hN' : N ≤ wc.heap.size := Nat.le_trans hN hb.size
           clear hs0 hN hb
           have hs0 := hs0'
           have hN := hN'
           clear hs0' hN'
           obtain ⟨wy, rfl⟩ : ∃ x : World, x = wc := ⟨_, rfl⟩
           go_wp2_with fail
           go_roundw
           case rel => exact ⟨e + 1, by omega, by go_num, HTN.out.congr (fun r _ c _ => (nqP_skip _ _ _ _ (HPV.out.trans HV0.out) r c).symm), HB.out, HRW.out⟩
           case measure => simp [intOf]; omega
          ·have d0 : ((σ : Int) == 0) = false := by rw [← hσ]; simp [Int.sign_eq_zero_iff_zero, Rat.num_eq_zero, hv0]
           have hin := nul_in q k ww e n (by rw [HPV.out]; exact hv0) hkn
           have hMe : e + ww < M := by have := HM.out; omega
           clear hin hv0 hσ
           go_wp2_with fail
           refine (xrsign_any (N := N) _ _ _ _ _ _ _ LL pv _ hN (Rt.of_norm HV1.out HV2.out LL HZV.out) (by omega)).mono ?_
           rw [HSG.out]
           rintro e' wc ⟨rfl, hb⟩
           have HTN' := Lib.hid (HTN.out.below hb)
           have HRW' := Lib.hid (HRW.out.below hb)
           have HB' := Lib.hid (HB.out.trans (hb.mono hs0))
           clear HTN HRW HB gw gv0 gv1 gv2 HV1 HV2 hlc hlv
           have HTN := HTN'
           have HRW := HRW'
           have HB := HB'
           clear HTN' HRW' HB'
           have hs0' : wo.heap.size ≤ wc.heap.size := Nat.le_trans hs0 hb.size
           have hN' : N ≤ wc.heap.size := Nat.le_trans hN hb.size
           clear hs0 hN hb
           have hs0 := hs0'
           have hN := hN'
           clear hs0' hN'
           obtain ⟨wy, rfl⟩ : ∃ x : World, x = wc := ⟨_, rfl⟩
           obtain ⟨k1, hk1⟩ : ∃ k1, ww + 1 = k1 := ⟨_, rfl⟩
           have hwr : IntKind.i64.wrap ((ww : Int) + 1) = (k1 : Int) := by rw [IntKind.wrap_i64]; omega
           have hwr2 : (ww : Int) + 1 = (k1 : Int) := by omega
           have hi0 : (0 : Int) ≤ (k1 : Int) := by omega
           have hi1 : (k1 : Int) < (R : Int) := by omega
           have hi3 : (0 : Int) ≤ (e : Int) := by omega
           have hi4 : (e : Int) < (M : Int) := by omega
           have hi5 : (0 : Int) ≤ (ww : Int) := by omega
           have gw : wy.cell? ⟨tc, ww, none⟩ = some (.slice (some ⟨bb, 0, none⟩) M kb) := cell_mono GW.out HB.out
           have gv0 : wy.cell? ⟨bb, e * 3, none⟩ = some (.bool (decide (pv.num < 0))) := cell_mono GV0.out HB.out
           have gv1 : wy.cell? ⟨bb, e * 3 + 1, none⟩ = some (.slice rv (nlen pv.num.natAbs) cv) := cell_mono GV1.out HB.out
           have gv2 : wy.cell? ⟨bb, e * 3 + 2, none⟩ = some (.slice rv2 (nlen pv.den) cv2) := cell_mono GV2.out HB.out
           have HV1 := Lib.hid (NV1.out.below HB.out)
           have HV2 := Lib.hid (NV2.out.below HB.out)
           have hlc : tc < wy.heap.size := by omega
           have hlv : bb < wy.heap.size := by omega
           obtain ⟨rz, cz, rz2, cz2, k_W_0, k_W_1, k_W_2, hw1, hw2⟩ := HRW.out.2 0 (by omega)
           simp only [Nat.zero_mul, Nat.zero_add] at k_W_0 k_W_1 k_W_2
           have HW1 := Lib.hid hw1
           have HW2 := Lib.hid hw2
           have hl_W : bw < wy.heap.size := HRW.out.lt
           clear hw1 hw2
           obtain ⟨gk, hgk⟩ : ∃ g, γ k1 = g := ⟨_, rfl⟩
           obtain ⟨dk, hdk⟩ : ∃ g, δ k1 = g := ⟨_, rfl⟩
           have gt1 := HTN.out.top k1 (by omega)
           have hrow := HTN.out.row k1 (by omega)
           have hgo := HGE.out k1 (by omega)
           have hgb := HGL.out k1 (by omega)
           rw [hgk] at gt1 hrow hgo hgb
           rw [hdk] at gt1 hrow
           have HGK := Lib.hid hgk
           obtain ⟨ro, co, ro2, co2, g6, g7, g8, ho1, ho2⟩ := hrow.2 e (by omega)
           obtain ⟨po, hpo⟩ : ∃ p, (nqP q k ww e) k1 e = p := ⟨_, rfl⟩
           rw [hpo] at g6 g7 g8 ho1 ho2
           have HO1 := Lib.hid ho1
           have HO2 := Lib.hid ho2
           have fo := hrow.1.frozen
           have hlg : gk < wy.heap.size := hrow.lt
           have hlt : tn < wy.heap.size := HTN.out.tl
           have HBN := Lib.hid hrow.bn
           have HEO := Lib.hid hpo
           clear hrow hgk hdk ho1 ho2
           have HZO := Lib.hid (show rsz po ≤ LL by rw [← HEO.out, ← HLL.out]; have := nqP_rsz q n L HX.out HLim.out k hkn ww e k1 e; omega)
           clear hpo
           obtain ⟨pm, hpm⟩ : ∃ p, pv * pw = p := ⟨_, rfl⟩
           have HPM := Lib.hid hpm
           have HZM := Lib.hid (show rsz pm ≤ LL + LL by rw [← hpm]; have h1 := rsz_mul pv pw; have h2 := HZV.out; have h3 := HZW.out; omega)
           obtain ⟨pn, hpn⟩ : ∃ p, po + pm = p := ⟨_, rfl⟩
           have HPN := Lib.hid hpn
           have HEN := Lib.hid (show nqH q k ww e k1 e = pn by unfold nqH; rw [if_pos ⟨hk1.symm, rfl⟩, HPV.out, HEW.out, hpm, HEO.out]; exact hpn)
           have HK1 := Lib.hid hk1
           clear hpm hpn
           obtain ⟨cj, hc1⟩ : ∃ cj, e + ww = cj := ⟨_, rfl⟩
           have hwr3 : IntKind.i64.wrap ((e : Int) + (ww : Int)) = (cj : Int) := by rw [IntKind.wrap_i64]; omega
           have hwr4 : (e : Int) + (ww : Int) = (cj : Int) := by omega
           have hi6 : (0 : Int) ≤ (cj : Int) := by omega
           have hi7 : (cj : Int) < (M : Int) := by omega
           have HC1 := Lib.hid hc1
           have d5 : decide ((cj : Int) < (M : Int)) = true := by simp; omega
           have d6 : decide (cj < M) = true := by simp; omega
           clear hc1
           go_upto_region 20 with fail
           refine region_inv2 (by kernel_rfl) (XnJ20 N tn R M ww k1 e 0 tc tcap ncap gk dk bb kb bw po pv pw pm pn ro ro2 rv rv2 rz rz2 co co2 cv cv2 cz cz2 LL (wy)) ?_ ?_ ?_ ?_
           ·exact ⟨u72, u73, u74, u75, u76, u77, u78, u79, u80, u81, u82, u83, u84, u85, u86, u87, u88, u89, u90, u91, u92, u93, u94, u95, u96, by simp only [Act.put, aT, aZ, aS], .inl ⟨rfl, Since.drawn _, NoR⟩⟩
           ·exact acyc_spec (by kernel_rfl)
           ·intro Ls a0 wq i o ho hLi hafter hJ
            obtain ⟨u72, u73, u74, u75, u76, u77, u78, u79, u80, u81, u82, u83, u84, u85, u86, u87, u88, u89, u90, u91, u92, u93, u94, u95, u96, rfl, hJ | ⟨h10, hall, _⟩⟩ := hJ
            ·obtain ⟨hLl, hS, p0, p1, p2, p3, p4, p5, p6, p7, p8, p9, p10, p11, p12, p13, p14, p15, p16, p17, p18, p19, p20, p21, p22, p23, p24⟩ := hJ
             have P0 := Lib.hid p0; have P1 := Lib.hid p1; have P2 := Lib.hid p2; have P3 := Lib.hid p3; have P4 := Lib.hid p4; have P5 := Lib.hid p5; have P6 := Lib.hid p6; have P7 := Lib.hid p7; have P8 := Lib.hid p8; have P9 := Lib.hid p9; have P10 := Lib.hid p10; have P11 := Lib.hid p11; have P12 := Lib.hid p12; have P13 := Lib.hid p13; have P14 := Lib.hid p14; have P15 := Lib.hid p15; have P16 := Lib.hid p16; have P17 := Lib.hid p17; have P18 := Lib.hid p18; have P19 := Lib.hid p19; have P20 := Lib.hid p20; have P21 := Lib.hid p21; have P22 := Lib.hid p22; have P23 := Lib.hid p23; have P24 := Lib.hid p24; have HS := Lib.hid hS; clear hS p0 p1 p2 p3 p4 p5 p6 p7 p8 p9 p10 p11 p12 p13 p14 p15 p16 p17 p18 p19 p20 p21 p22 p23 p24
             have hi : i < 26 := (Array.getElem?_eq_some_iff.1 ho).1
             obtain rfl | rfl | rfl | rfl | rfl | rfl | rfl | rfl | rfl | rfl | rfl | rfl | rfl | rfl | rfl | rfl | rfl | rfl | rfl | rfl | rfl | rfl | rfl | rfl | rfl | rfl : i = 0 ∨ i = 1 ∨ i = 2 ∨ i = 3 ∨ i = 4 ∨ i = 5 ∨ i = 6 ∨ i = 7 ∨ i = 8 ∨ i = 9 ∨ i = 10 ∨ i = 11 ∨ i = 12 ∨ i = 13 ∨ i = 14 ∨ i = 15 ∨ i = 16 ∨ i = 17 ∨ i = 18 ∨ i = 19 ∨ i = 20 ∨ i = 21 ∨ i = 22 ∨ i = 23 ∨ i = 24 ∨ i = 25 := by omega
             ·simp only [gT, gZ, Option.some.injEq] at ho
              subst ho
              clear hLi hafter
              simp only [Act.put, aT, aZ, aS]
              go_wp2_with fail
              exact ⟨.slice (some ⟨tn, 0, none⟩) R ncap, u73, u74, u75, u76, u77, u78, u79, u80, u81, u82, u83, u84, u85, u86, u87, u88, u89, u90, u91, u92, u93, u94, u95, u96, by simp only [Act.put, aT, aZ, aS], .inl ⟨by simpa using hLl, HS.out, (fun _ => rfl), PvR⟩⟩
             ·simp only [gT, gZ, gS, Option.some.injEq] at ho
              subst ho
              clear hLi hafter
              simp only [Act.put, aT, aZ, aS]
              go_wp2_with fail
              exact ⟨u72, .int .i64 ww, u74, u75, u76, u77, u78, u79, u80, u81, u82, u83, u84, u85, u86, u87, u88, u89, u90, u91, u92, u93, u94, u95, u96, by simp only [Act.put, aT, aZ, aS], .inl ⟨by simpa using hLl, HS.out, PvA, (fun _ => rfl), PvR⟩⟩
             ·simp only [gT, gZ, gS, Option.some.injEq] at ho
              subst ho
              obtain rfl := P1.out (hafter ⟨1, .data⟩ (by simp) rfl)
              clear hLi hafter
              simp only [Act.put, aT, aZ, aS]
              go_wp2_with fail
              exact ⟨u72, .int .i64 ww, .int .i64 k1, u75, u76, u77, u78, u79, u80, u81, u82, u83, u84, u85, u86, u87, u88, u89, u90, u91, u92, u93, u94, u95, u96, by simp only [Act.put, aT, aZ, aS], .inl ⟨by simpa using hLl, HS.out, PvA, PvA, (fun _ => rfl), PvR⟩⟩
             ·simp only [gT, gZ, gS, Option.some.injEq] at ho
              subst ho
              obtain rfl := P0.out (hafter ⟨0, .data⟩ (by simp) rfl)
              obtain rfl := P2.out (hafter ⟨2, .data⟩ (by simp) rfl)
              clear hLi hafter
              simp only [Act.put, aT, aZ, aS]
              go_wp2_with fail
              exact ⟨.slice (some ⟨tn, 0, none⟩) R ncap, u73, .int .i64 k1, .pointer (some ⟨tn, k1, none⟩), u76, u77, u78, u79, u80, u81, u82, u83, u84, u85, u86, u87, u88, u89, u90, u91, u92, u93, u94, u95, u96, by simp only [Act.put, aT, aZ, aS], .inl ⟨by simpa using hLl, HS.out, PvA, PvA, PvA, (fun _ => rfl), PvR⟩⟩
             ·simp only [gT, gZ, gS, Option.some.injEq] at ho
              subst ho
              obtain rfl := P3.out (hafter ⟨3, .data⟩ (by simp) rfl)
              have c0 := (HS.out.1.cell (p := ⟨tn, k1, none⟩) hlt).trans gt1
              clear hLi hafter
              simp only [Act.put, aT, aZ, aS]
              go_wp2_with fail
              exact ⟨u72, u73, u74, .pointer (some ⟨tn, k1, none⟩), .slice (some ⟨gk, 0, none⟩) M dk, u77, u78, u79, u80, u81, u82, u83, u84, u85, u86, u87, u88, u89, u90, u91, u92, u93, u94, u95, u96, by simp only [Act.put, aT, aZ, aS], .inl ⟨by simpa using hLl, HS.out, PvA, PvA, PvA, PvA, (fun _ => rfl), PvR⟩⟩
             ·simp only [gT, gZ, gS, Option.some.injEq] at ho
              subst ho
              clear hLi hafter
              simp only [Act.put, aT, aZ, aS]
              go_wp2_with fail
              exact ⟨u72, u73, u74, u75, u76, .int .i64 e, u78, u79, u80, u81, u82, u83, u84, u85, u86, u87, u88, u89, u90, u91, u92, u93, u94, u95, u96, by simp only [Act.put, aT, aZ, aS], .inl ⟨by simpa using hLl, HS.out, PvA, PvA, PvA, PvA, PvA, (fun _ => rfl), PvR⟩⟩
             ·simp only [gT, gZ, gS, Option.some.injEq] at ho
              subst ho
              clear hLi hafter
              simp only [Act.put, aT, aZ, aS]
              go_wp2_with fail
              exact ⟨u72, u73, u74, u75, u76, u77, .slice (some ⟨tn, 0, none⟩) R ncap, u79, u80, u81, u82, u83, u84, u85, u86, u87, u88, u89, u90, u91, u92, u93, u94, u95, u96, by simp only [Act.put, aT, aZ, aS], .inl ⟨by simpa using hLl, HS.out, PvA, PvA, PvA, PvA, PvA, PvA, (fun _ => rfl), PvR⟩⟩
             ·simp only [gT, gZ, gS, Option.some.injEq] at ho
              subst ho
              clear hLi hafter
              simp only [Act.put, aT, aZ, aS]
              go_wp2_with fail
              exact ⟨u72, u73, u74, u75, u76, u77, u78, .int .i64 ww, u80, u81, u82, u83, u84, u85, u86, u87, u88, u89, u90, u91, u92, u93, u94, u95, u96, by simp only [Act.put, aT, aZ, aS], .inl ⟨by simpa using hLl, HS.out, PvA, PvA, PvA, PvA, PvA, PvA, PvA, (fun _ => rfl), PvR⟩⟩
             ·simp only [gT, gZ, gS, Option.some.injEq] at ho
              subst ho
              obtain rfl := P7.out (hafter ⟨7, .data⟩ (by simp) rfl)
              clear hLi hafter
              simp only [Act.put, aT, aZ, aS]
              go_wp2_with fail
              exact ⟨u72, u73, u74, u75, u76, u77, u78, .int .i64 ww, .int .i64 k1, u81, u82, u83, u84, u85, u86, u87, u88, u89, u90, u91, u92, u93, u94, u95, u96, by simp only [Act.put, aT, aZ, aS], .inl ⟨by simpa using hLl, HS.out, PvA, PvA, PvA, PvA, PvA, PvA, PvA, PvA, (fun _ => rfl), PvR⟩⟩
             ·simp only [gT, gZ, gS, Option.some.injEq] at ho
              subst ho
              obtain rfl := P6.out (hafter ⟨6, .data⟩ (by simp) rfl)
              obtain rfl := P8.out (hafter ⟨8, .data⟩ (by simp) rfl)
              clear hLi hafter
              simp only [Act.put, aT, aZ, aS]
              go_wp2_with fail
              exact ⟨u72, u73, u74, u75, u76, u77, .slice (some ⟨tn, 0, none⟩) R ncap, u79, .int .i64 k1, .pointer (some ⟨tn, k1, none⟩), u82, u83, u84, u85, u86, u87, u88, u89, u90, u91, u92, u93, u94, u95, u96, by simp only [Act.put, aT, aZ, aS], .inl ⟨by simpa using hLl, HS.out, PvA, PvA, PvA, PvA, PvA, PvA, PvA, PvA, PvA, (fun _ => rfl), PvR⟩⟩
             ·simp only [gT, gZ, gS, Option.some.injEq] at ho
              subst ho
              obtain rfl := P9.out (hafter ⟨9, .data⟩ (by simp) rfl)
              have c0 := (HS.out.1.cell (p := ⟨tn, k1, none⟩) hlt).trans gt1
              clear hLi hafter
              simp only [Act.put, aT, aZ, aS]
              go_wp2_with fail
              exact ⟨u72, u73, u74, u75, u76, u77, u78, u79, u80, .pointer (some ⟨tn, k1, none⟩), .slice (some ⟨gk, 0, none⟩) M dk, u83, u84, u85, u86, u87, u88, u89, u90, u91, u92, u93, u94, u95, u96, by simp only [Act.put, aT, aZ, aS], .inl ⟨by simpa using hLl, HS.out, PvA, PvA, PvA, PvA, PvA, PvA, PvA, PvA, PvA, PvA, (fun _ => rfl), PvR⟩⟩
             ·simp only [gT, gZ, gS, Option.some.injEq] at ho
              subst ho
              clear hLi hafter
              simp only [Act.put, aT, aZ, aS]
              go_wp2_with fail
              exact ⟨u72, u73, u74, u75, u76, u77, u78, u79, u80, u81, u82, .int .i64 e, u84, u85, u86, u87, u88, u89, u90, u91, u92, u93, u94, u95, u96, by simp only [Act.put, aT, aZ, aS], .inl ⟨by simpa using hLl, HS.out, PvA, PvA, PvA, PvA, PvA, PvA, PvA, PvA, PvA, PvA, PvA, (fun _ => rfl), PvR⟩⟩
             ·simp only [gT, gZ, gS, Option.some.injEq] at ho
              subst ho
              obtain rfl := P10.out (hafter ⟨10, .data⟩ (by simp) rfl)
              obtain rfl := P11.out (hafter ⟨11, .data⟩ (by simp) rfl)
              clear hLi hafter
              simp only [Act.put, aT, aZ, aS]
              go_wp2_with fail
              exact ⟨u72, u73, u74, u75, u76, u77, u78, u79, u80, u81, .slice (some ⟨gk, 0, none⟩) M dk, .int .i64 e, .pointer (some ⟨gk, e * 3, none⟩), u85, u86, u87, u88, u89, u90, u91, u92, u93, u94, u95, u96, by simp only [Act.put, aT, aZ, aS], .inl ⟨by simpa using hLl, HS.out, PvA, PvA, PvA, PvA, PvA, PvA, PvA, PvA, PvA, PvA, PvA, PvA, (fun _ => rfl), PvR⟩⟩
             ·simp only [gT, gZ, gS, Option.some.injEq] at ho
              subst ho
              obtain rfl := P12.out (hafter ⟨12, .data⟩ (by simp) rfl)
              have c0 := (HS.out.1.cell (p := ⟨gk, e * 3, none⟩) hlg).trans g6
              have c1 := (HS.out.1.cell (p := ⟨gk, e * 3 + 1, none⟩) hlg).trans g7
              have c2 := (HS.out.1.cell (p := ⟨gk, e * 3 + 2, none⟩) hlg).trans g8
              clear hLi hafter
              simp only [Act.put, aT, aZ, aS]
              go_wp2_with fail
              exact ⟨u72, u73, u74, u75, u76, u77, u78, u79, u80, u81, u82, u83, .pointer (some ⟨gk, e * 3, none⟩), .agg #[.bool (decide (po.num < 0)), .slice ro (nlen po.num.natAbs) co, .slice ro2 (nlen po.den) co2], u86, u87, u88, u89, u90, u91, u92, u93, u94, u95, u96, by simp only [Act.put, aT, aZ, aS], .inl ⟨by simpa using hLl, HS.out, PvA, PvA, PvA, PvA, PvA, PvA, PvA, PvA, PvA, PvA, PvA, PvA, PvA, (fun _ => rfl), PvR⟩⟩
             ·simp only [gT, gZ, gS, Option.some.injEq] at ho
              subst ho
              clear hLi hafter
              simp only [Act.put, aT, aZ, aS]
              go_wp2_with fail
              exact ⟨u72, u73, u74, u75, u76, u77, u78, u79, u80, u81, u82, u83, u84, u85, .slice (some ⟨tc, 0, none⟩) R tcap, u87, u88, u89, u90, u91, u92, u93, u94, u95, u96, by simp only [Act.put, aT, aZ, aS], .inl ⟨by simpa using hLl, HS.out, PvA, PvA, PvA, PvA, PvA, PvA, PvA, PvA, PvA, PvA, PvA, PvA, PvA, PvA, (fun _ => rfl), PvR⟩⟩
             ·simp only [gT, gZ, gS, Option.some.injEq] at ho
              subst ho
              clear hLi hafter
              simp only [Act.put, aT, aZ, aS]
              go_wp2_with fail
              exact ⟨u72, u73, u74, u75, u76, u77, u78, u79, u80, u81, u82, u83, u84, u85, u86, .int .i64 ww, u88, u89, u90, u91, u92, u93, u94, u95, u96, by simp only [Act.put, aT, aZ, aS], .inl ⟨by simpa using hLl, HS.out, PvA, PvA, PvA, PvA, PvA, PvA, PvA, PvA, PvA, PvA, PvA, PvA, PvA, PvA, PvA, (fun _ => rfl), PvR⟩⟩
             ·simp only [gT, gZ, gS, Option.some.injEq] at ho
              subst ho
              obtain rfl := P14.out (hafter ⟨14, .data⟩ (by simp) rfl)
              obtain rfl := P15.out (hafter ⟨15, .data⟩ (by simp) rfl)
              clear hLi hafter
              simp only [Act.put, aT, aZ, aS]
              go_wp2_with fail
              exact ⟨u72, u73, u74, u75, u76, u77, u78, u79, u80, u81, u82, u83, u84, u85, .slice (some ⟨tc, 0, none⟩) R tcap, .int .i64 ww, .pointer (some ⟨tc, ww, none⟩), u89, u90, u91, u92, u93, u94, u95, u96, by simp only [Act.put, aT, aZ, aS], .inl ⟨by simpa using hLl, HS.out, PvA, PvA, PvA, PvA, PvA, PvA, PvA, PvA, PvA, PvA, PvA, PvA, PvA, PvA, PvA, PvA, (fun _ => rfl), PvR⟩⟩
             ·simp only [gT, gZ, gS, Option.some.injEq] at ho
              subst ho
              obtain rfl := P16.out (hafter ⟨16, .data⟩ (by simp) rfl)
              have c0 := (HS.out.1.cell (p := ⟨tc, ww, none⟩) hlc).trans gw
              clear hLi hafter
              simp only [Act.put, aT, aZ, aS]
              go_wp2_with fail
              exact ⟨u72, u73, u74, u75, u76, u77, u78, u79, u80, u81, u82, u83, u84, u85, u86, u87, .pointer (some ⟨tc, ww, none⟩), .slice (some ⟨bb, 0, none⟩) M kb, u90, u91, u92, u93, u94, u95, u96, by simp only [Act.put, aT, aZ, aS], .inl ⟨by simpa using hLl, HS.out, PvA, PvA, PvA, PvA, PvA, PvA, PvA, PvA, PvA, PvA, PvA, PvA, PvA, PvA, PvA, PvA, PvA, (fun _ => rfl), PvR⟩⟩
             ·simp only [gT, gZ, gS, Option.some.injEq] at ho
              subst ho
              clear hLi hafter
              simp only [Act.put, aT, aZ, aS]
              go_wp2_with fail
              exact ⟨u72, u73, u74, u75, u76, u77, u78, u79, u80, u81, u82, u83, u84, u85, u86, u87, u88, u89, .int .i64 e, u91, u92, u93, u94, u95, u96, by simp only [Act.put, aT, aZ, aS], .inl ⟨by simpa using hLl, HS.out, PvA, PvA, PvA, PvA, PvA, PvA, PvA, PvA, PvA, PvA, PvA, PvA, PvA, PvA, PvA, PvA, PvA, PvA, (fun _ => rfl), PvR⟩⟩
             ·simp only [gT, gZ, gS, Option.some.injEq] at ho
              subst ho
              obtain rfl := P17.out (hafter ⟨17, .data⟩ (by simp) rfl)
              obtain rfl := P18.out (hafter ⟨18, .data⟩ (by simp) rfl)
              clear hLi hafter
              simp only [Act.put, aT, aZ, aS]
              go_wp2_with fail
              exact ⟨u72, u73, u74, u75, u76, u77, u78, u79, u80, u81, u82, u83, u84, u85, u86, u87, u88, .slice (some ⟨bb, 0, none⟩) M kb, .int .i64 e, .pointer (some ⟨bb, e * 3, none⟩), u92, u93, u94, u95, u96, by simp only [Act.put, aT, aZ, aS], .inl ⟨by simpa using hLl, HS.out, PvA, PvA, PvA, PvA, PvA, PvA, PvA, PvA, PvA, PvA, PvA, PvA, PvA, PvA, PvA, PvA, PvA, PvA, PvA, (fun _ => rfl), PvR⟩⟩
             ·simp only [gT, gZ, gS, Option.some.injEq] at ho
              subst ho
              obtain rfl := P19.out (hafter ⟨19, .data⟩ (by simp) rfl)
              have c0 := (HS.out.1.cell (p := ⟨bb, e * 3, none⟩) hlv).trans gv0
              have c1 := (HS.out.1.cell (p := ⟨bb, e * 3 + 1, none⟩) hlv).trans gv1
              have c2 := (HS.out.1.cell (p := ⟨bb, e * 3 + 2, none⟩) hlv).trans gv2
              clear hLi hafter
              simp only [Act.put, aT, aZ, aS]
              go_wp2_with fail
              exact ⟨u72, u73, u74, u75, u76, u77, u78, u79, u80, u81, u82, u83, u84, u85, u86, u87, u88, u89, u90, .pointer (some ⟨bb, e * 3, none⟩), .agg #[.bool (decide (pv.num < 0)), .slice rv (nlen pv.num.natAbs) cv, .slice rv2 (nlen pv.den) cv2], u93, u94, u95, u96, by simp only [Act.put, aT, aZ, aS], .inl ⟨by simpa using hLl, HS.out, PvA, PvA, PvA, PvA, PvA, PvA, PvA, PvA, PvA, PvA, PvA, PvA, PvA, PvA, PvA, PvA, PvA, PvA, PvA, PvA, (fun _ => rfl), PvR⟩⟩
             ·simp only [gT, gZ, gS, Option.some.injEq] at ho
              subst ho
              have c0 := (HS.out.1.cell (p := ⟨bw, 0, none⟩) hl_W).trans k_W_0
              have c1 := (HS.out.1.cell (p := ⟨bw, 1, none⟩) hl_W).trans k_W_1
              have c2 := (HS.out.1.cell (p := ⟨bw, 2, none⟩) hl_W).trans k_W_2
              clear hLi hafter
              simp only [Act.put, aT, aZ, aS]
              go_wp2_with fail
              exact ⟨u72, u73, u74, u75, u76, u77, u78, u79, u80, u81, u82, u83, u84, u85, u86, u87, u88, u89, u90, u91, u92, .agg #[.bool (decide (pw.num < 0)), .slice rz (nlen pw.num.natAbs) cz, .slice rz2 (nlen pw.den) cz2], u94, u95, u96, by simp only [Act.put, aT, aZ, aS], .inl ⟨by simpa using hLl, HS.out, PvA, PvA, PvA, PvA, PvA, PvA, PvA, PvA, PvA, PvA, PvA, PvA, PvA, PvA, PvA, PvA, PvA, PvA, PvA, PvA, PvA, (fun _ => rfl), PvR⟩⟩
             ·simp only [gT, gZ, gS, Option.some.injEq] at ho
              subst ho
              obtain rfl := P20.out (hafter ⟨20, .data⟩ (by simp) rfl)
              obtain rfl := P21.out (hafter ⟨21, .data⟩ (by simp) rfl)
              clear hLi hafter
              simp only [Act.put, aT, aZ, aS]
              go_wp2_with fail
              refine (xrmul_any (N := N) _ _ _ _ _ _ _ _ _ _ _ _ _ _ LL LL pv pw _ (by have := HS.out.2; omega) (Rt.of_norm (HV1.out.below HS.out.1) (HV2.out.below HS.out.1) _ HZV.out) (Rt.of_norm (HW1.out.below HS.out.1) (HW2.out.below HS.out.1) _ HZW.out) (by omega) (by omega) pm HPM.out).mono ?_
              rintro e wn ⟨r, c, r2, c2, rfl, hn, hn', hb⟩
              have HN := Lib.hid hn
              have HM := Lib.hid hn'
              have Hb := Lib.hid hb
              clear hn hn' hb
              go_wp2_with fail
              exact ⟨u72, u73, u74, u75, u76, u77, u78, u79, u80, u81, u82, u83, u84, u85, u86, u87, u88, u89, u90, u91, .agg #[.bool (decide (pv.num < 0)), .slice rv (nlen pv.num.natAbs) cv, .slice rv2 (nlen pv.den) cv2], .agg #[.bool (decide (pw.num < 0)), .slice rz (nlen pw.num.natAbs) cz, .slice rz2 (nlen pw.den) cz2], _, u95, u96, by simp only [Act.put, aT, aZ, aS], .inl ⟨by simpa using hLl, HS.out.below Hb.out, PvA, PvA, PvA, PvA, PvA, PvA, PvA, PvA, PvA, PvA, PvA, PvA, PvA, PvA, PvA, PvA, PvA, PvA, PvA, PvA, PvA, PvA, (fun _ => ⟨r, c, r2, c2, rfl, HN.out, HM.out⟩), (fun h => (P23.out (by simpa using h)).below Hb.out), PvA⟩⟩
             ·simp only [gT, gZ, gS, Option.some.injEq] at ho
              subst ho
              obtain rfl := P13.out (hafter ⟨13, .data⟩ (by simp) rfl)
              obtain ⟨r22, c22, t22, d22, rfl, hn22, hm22⟩ := P22.out (hafter ⟨22, .data⟩ (by simp) rfl)
              have HN22 := Lib.hid hn22
              have HM22 := Lib.hid hm22
              clear hn22 hm22
              clear hLi hafter
              simp only [Act.put, aT, aZ, aS]
              go_wp2_with fail
              refine (xradd_any (N := N) _ _ _ _ _ _ _ _ _ _ _ _ _ _ LL (LL + LL) po pm _ (by have := HS.out.2; omega) (Rt.of_norm (HO1.out.below HS.out.1) (HO2.out.below HS.out.1) _ HZO.out) (Rt.of_norm HN22.out HM22.out _ HZM.out) (by omega) (by omega) pn HPN.out).mono ?_
              rintro e wn ⟨r, c, r2, c2, rfl, hn, hn', hb⟩
              have HN := Lib.hid hn
              have HM := Lib.hid hn'
              have Hb := Lib.hid hb
              clear hn hn' hb
              go_wp2_with fail
              exact ⟨u72, u73, u74, u75, u76, u77, u78, u79, u80, u81, u82, u83, u84, .agg #[.bool (decide (po.num < 0)), .slice ro (nlen po.num.natAbs) co, .slice ro2 (nlen po.den) co2], u86, u87, u88, u89, u90, u91, u92, u93, _, _, u96, by simp only [Act.put, aT, aZ, aS], .inl ⟨by simpa using hLl, HS.out.below Hb.out, PvA, PvA, PvA, PvA, PvA, PvA, PvA, PvA, PvA, PvA, PvA, PvA, PvA, PvA, PvA, PvA, PvA, PvA, PvA, PvA, PvA, PvA, (fun h => (P22.out (by simpa using h)).below Hb.out), (fun _ => ⟨r, c, r2, c2, rfl, HN.out, HM.out⟩), PvA⟩⟩
             ·simp only [gT, gZ, gS, Option.some.injEq] at ho
              subst ho
              obtain rfl := P4.out (hafter ⟨4, .data⟩ (by simp) rfl)
              obtain rfl := P5.out (hafter ⟨5, .data⟩ (by simp) rfl)
              clear hLi hafter
              simp only [Act.put, aT, aZ, aS]
              go_wp2_with fail
              exact ⟨u72, u73, u74, u75, .slice (some ⟨gk, 0, none⟩) M dk, .int .i64 e, u78, u79, u80, u81, u82, u83, u84, u85, u86, u87, u88, u89, u90, u91, u92, u93, u94, u95, .pointer (some ⟨gk, e * 3, none⟩), by simp only [Act.put, aT, aZ, aS], .inl ⟨by simpa using hLl, HS.out, PvA, PvA, PvA, PvA, PvA, PvA, PvA, PvA, PvA, PvA, PvA, PvA, PvA, PvA, PvA, PvA, PvA, PvA, PvA, PvA, PvA, PvA, PvA, PvA, (fun _ => rfl)⟩⟩
             ·simp only [gT, gZ, gS, Option.some.injEq] at ho
              subst ho
              have hall : ∀ j, j < 25 → Ls j = true := by
               intro j hj
               obtain rfl | rfl | rfl | rfl | rfl | rfl | rfl | rfl | rfl | rfl | rfl | rfl | rfl | rfl | rfl | rfl | rfl | rfl | rfl | rfl | rfl | rfl | rfl | rfl | rfl : j = 0 ∨ j = 1 ∨ j = 2 ∨ j = 3 ∨ j = 4 ∨ j = 5 ∨ j = 6 ∨ j = 7 ∨ j = 8 ∨ j = 9 ∨ j = 10 ∨ j = 11 ∨ j = 12 ∨ j = 13 ∨ j = 14 ∨ j = 15 ∨ j = 16 ∨ j = 17 ∨ j = 18 ∨ j = 19 ∨ j = 20 ∨ j = 21 ∨ j = 22 ∨ j = 23 ∨ j = 24 := by omega
               all_goals first | (refine hafter ⟨_, .phase⟩ ?_ rfl; simp; done) | (refine hafter ⟨_, .data⟩ ?_ rfl; simp; done)
              have HALL := Lib.hid hall
              clear hall
              obtain ⟨r23, c23, t23, d23, rfl, hn23, hm23⟩ := P23.out (hafter ⟨23, .data⟩ (by simp) rfl)
              have HN23 := Lib.hid hn23
              have HM23 := Lib.hid hm23
              clear hn23 hm23
              obtain rfl := P24.out (hafter ⟨24, .data⟩ (by simp) rfl)
              have c0 := (HS.out.1.cell (p := ⟨gk, e * 3, none⟩) hlg).trans g6
              have c1 := (HS.out.1.cell (p := ⟨gk, e * 3 + 1, none⟩) hlg).trans g7
              have c2 := (HS.out.1.cell (p := ⟨gk, e * 3 + 2, none⟩) hlg).trans g8
              have fz : ∀ o, wq.frozen? ⟨gk, o, none⟩ = false := fun o => (HS.out.1.frozen (p := ⟨gk, o, none⟩) hlg).trans (fo o)
              clear hLi hafter
              simp only [Act.put, aT, aZ, aS]
              go_wp2_with fail
              exact ⟨u72, u73, u74, u75, u76, u77, u78, u79, u80, u81, u82, u83, u84, u85, u86, u87, u88, u89, u90, u91, u92, u93, u94, .agg #[.bool (decide ((pn).num < 0)), .slice r23 (nlen (pn).num.natAbs) c23, .slice t23 (nlen (pn).den) d23], .pointer (some ⟨gk, e * 3, none⟩), by simp only [Act.put, aT, aZ, aS], .inr ⟨by simp, fun j hj => by simp [HALL.out j hj], ⟨_, _, _, _, _, HS.out, HN23.out, HM23.out, rfl⟩⟩⟩
            ·exfalso
             have hi : i < 26 := (Array.getElem?_eq_some_iff.1 ho).1
             rcases Nat.lt_or_ge i 25 with h | h
             ·rw [hall i h] at hLi; cases hLi
             ·obtain rfl : i = 25 := by omega
              rw [h10] at hLi; cases hLi
           ·intro Ls a0 wq hall hJ
            obtain ⟨u72, u73, u74, u75, u76, u77, u78, u79, u80, u81, u82, u83, u84, u85, u86, u87, u88, u89, u90, u91, u92, u93, u94, u95, u96, rfl, ⟨h10, _⟩ | ⟨_, _, hcut⟩⟩ := hJ
            ·rw [hall 25 (by decide)] at h10; cases h10
            ·obtain ⟨w1, r1, c1', r12, c12, hs, hn, hn', rfl⟩ := hcut
             have Hs := Lib.hid hs
             have Hn := Lib.hid hn
             have Hn' := Lib.hid hn'
             clear hs hn hn'
             simp only [Act.put, aT, aZ, aS]
             go_wp2_with fail
             refine region_name fun W5 hW => ?_
             have kp : Kp N w1 W5 := by rw [← hW]; exact Kp.set3 (by omega) (HBN.out.below Hs.out.1) _ _ _
             have HTN' := Lib.hid (show Tq N W5 tn R M γ δ (nqH q k ww e) by rw [← hW]; exact (HTN.out.below Hs.out.1).put (k := k1) (c := e) (y := nqH q k ww e) (fun r hr => by have := HGE.out r hr; omega) (by omega) (by omega) HGK.out rfl pn (HEN.out) Hn.out Hn'.out (fun r _ d _ hne => by unfold nqH; rw [if_neg (fun hh => hne ⟨hh.1.trans HK1.out, hh.2⟩)]; exact (Rat.add_zero _).symm))
             have HRW' := Lib.hid (show Rl N W5 bw 1 1 (fun _ => pw) by rw [← hW]; exact (HRW.out.below Hs.out.1).keep (Kp.set3 (by omega) (HBN.out.below Hs.out.1) _ _ _) (Sb.set3 (Ne.symm hgb) _ _ _))
             have HB' := Lib.hid (show Below wo.heap.size wo W5 by rw [← hW]; exact bel_set3 (HB.out.trans (Hs.out.1.mono hs0)) hgo _ _ _)
             clear hW kp Hs Hn Hn'
             clear HTN HRW HB gw gv0 gv1 gv2 HV1 HV2 hlc hlv gt1 g6 g7 g8 HO1 HO2 fo hlg hlt HBN HEO HGK hgo hgb HW1 HW2 hl_W k_W_0 k_W_1 k_W_2 HZO HZM HPM HPN HEN
             have HTN := HTN'
             have HRW := HRW'
             have HB := HB'
             clear HTN' HRW' HB'
             have hs0' : wo.heap.size ≤ W5.heap.size := HB.out.size
             have hN' : N ≤ W5.heap.size := by omega
             clear hs0 hN
             have hs0 := hs0'
             have hN := hN'
             clear hs0' hN'
             obtain ⟨gk, hgk⟩ : ∃ g, γ ww = g := ⟨_, rfl⟩
             obtain ⟨dk, hdk⟩ : ∃ g, δ ww = g := ⟨_, rfl⟩
             have gt1 := HTN.out.top ww (by omega)
             have hrow := HTN.out.row ww (by omega)
             have hgo := HGE.out ww (by omega)
             have hgb := HGL.out ww (by omega)
             rw [hgk] at gt1 hrow hgo hgb
             rw [hdk] at gt1 hrow
             have HGK := Lib.hid hgk
             obtain ⟨ro, co, ro2, co2, g6, g7, g8, ho1, ho2⟩ := hrow.2 cj (by omega)
             obtain ⟨po, hpo⟩ : ∃ p, (nqH q k ww e) ww cj = p := ⟨_, rfl⟩
             rw [hpo] at g6 g7 g8 ho1 ho2
             have HO1 := Lib.hid ho1
             have HO2 := Lib.hid ho2
             have fo := hrow.1.frozen
             have hlg : gk < W5.heap.size := hrow.lt
             have hlt : tn < W5.heap.size := HTN.out.tl
             have HBN := Lib.hid hrow.bn
             have HEO := Lib.hid hpo
             clear hrow hgk hdk ho1 ho2
             have gw : W5.cell? ⟨tc, ww, none⟩ = some (.slice (some ⟨bb, 0, none⟩) M kb) := cell_mono GW.out HB.out
             have gv0 : W5.cell? ⟨bb, e * 3, none⟩ = some (.bool (decide (pv.num < 0))) := cell_mono GV0.out HB.out
             have gv1 : W5.cell? ⟨bb, e * 3 + 1, none⟩ = some (.slice rv (nlen pv.num.natAbs) cv) := cell_mono GV1.out HB.out
             have gv2 : W5.cell? ⟨bb, e * 3 + 2, none⟩ = some (.slice rv2 (nlen pv.den) cv2) := cell_mono GV2.out HB.out
             have HV1 := Lib.hid (NV1.out.below HB.out)
             have HV2 := Lib.hid (NV2.out.below HB.out)
             have hlc : tc < W5.heap.size := by omega
             have hlv : bb < W5.heap.size := by omega
             have ga0 : W5.cell? ⟨b, off + k * 3, none⟩ = some (.bool sk) := cell_mono GA0.out HB.out
             have ga1 : W5.cell? ⟨b, off + k * 3 + 1, none⟩ = some (.slice ra rn rc) := cell_mono GA1.out HB.out
             have ga2 : W5.cell? ⟨b, off + k * 3 + 2, none⟩ = some (.slice da dn dc) := cell_mono GA2.out HB.out
             have HR := Lib.hid (HRl.out.below HB.out)
             have hla : b < W5.heap.size := by omega
             have HZO := Lib.hid (show rsz po ≤ LL by rw [← HEO.out, ← HLL.out]; have := nqH_rsz q n L HX.out HLim.out k hkn ww e ww cj; omega)
             clear hpo
             obtain ⟨pm, hpm⟩ : ∃ p, pv * q k = p := ⟨_, rfl⟩
             have HPM := Lib.hid hpm
             have HZM := Lib.hid (show rsz pm ≤ LL + LL by rw [← hpm]; have h1 := rsz_mul pv (q k); have h2 := HZV.out; have h3 := HZQ.out; omega)
             obtain ⟨pn, hpn⟩ : ∃ p, po + pm = p := ⟨_, rfl⟩
             have HPN := Lib.hid hpn
             have HEN := Lib.hid (show nqP q k ww (e + 1) ww cj = pn by rw [nqP_step, if_pos ⟨rfl, HC1.out.symm⟩, HPV.out, hpm, HEO.out]; exact hpn)
             clear hpm hpn
             refine region_inv2 (by kernel_rfl) (XnJ22 N tn R M ww 0 e cj tc tcap ncap gk dk bb kb 0 po pv (q k) pm pn ro ro2 rv rv2 none none co co2 cv cv2 0 0 LL sk ra da rn rc dn dc b off n cap k (W5)) ?_ ?_ ?_ ?_
             ·exact ⟨u102, u103, u104, u105, u106, u107, u108, u109, u110, u111, u112, u113, u114, u115, u116, u117, u118, u119, u120, u121, u122, u123, u124, u125, u126, u127, u128, u129, u130, u131, by simp only [Act.put, aT, aZ, aS], .inl ⟨rfl, Since.drawn _, NoR⟩⟩
             ·exact acyc_spec (by kernel_rfl)
             ·intro Ls a0 wq i o ho hLi hafter hJ
              obtain ⟨u102, u103, u104, u105, u106, u107, u108, u109, u110, u111, u112, u113, u114, u115, u116, u117, u118, u119, u120, u121, u122, u123, u124, u125, u126, u127, u128, u129, u130, u131, rfl, hJ | ⟨h10, hall, _⟩⟩ := hJ
              ·obtain ⟨hLl, hS, p0, p1, p2, p3, p4, p5, p6, p7, p8, p9, p10, p11, p12, p13, p14, p15, p16, p17, p18, p19, p20, p21, p22, p23, p24, p25, p26, p27, p28, p29⟩ := hJ
               have P0 := Lib.hid p0; have P1 := Lib.hid p1; have P2 := Lib.hid p2; have P3 := Lib.hid p3; have P4 := Lib.hid p4; have P5 := Lib.hid p5; have P6 := Lib.hid p6; have P7 := Lib.hid p7; have P8 := Lib.hid p8; have P9 := Lib.hid p9; have P10 := Lib.hid p10; have P11 := Lib.hid p11; have P12 := Lib.hid p12; have P13 := Lib.hid p13; have P14 := Lib.hid p14; have P15 := Lib.hid p15; have P16 := Lib.hid p16; have P17 := Lib.hid p17; have P18 := Lib.hid p18; have P19 := Lib.hid p19; have P20 := Lib.hid p20; have P21 := Lib.hid p21; have P22 := Lib.hid p22; have P23 := Lib.hid p23; have P24 := Lib.hid p24; have P25 := Lib.hid p25; have P26 := Lib.hid p26; have P27 := Lib.hid p27; have P28 := Lib.hid p28; have P29 := Lib.hid p29; have HS := Lib.hid hS; clear hS p0 p1 p2 p3 p4 p5 p6 p7 p8 p9 p10 p11 p12 p13 p14 p15 p16 p17 p18 p19 p20 p21 p22 p23 p24 p25 p26 p27 p28 p29
               have hi : i < 31 := (Array.getElem?_eq_some_iff.1 ho).1
               obtain rfl | rfl | rfl | rfl | rfl | rfl | rfl | rfl | rfl | rfl | rfl | rfl | rfl | rfl | rfl | rfl | rfl | rfl | rfl | rfl | rfl | rfl | rfl | rfl | rfl | rfl | rfl | rfl | rfl | rfl | rfl : i = 0 ∨ i = 1 ∨ i = 2 ∨ i = 3 ∨ i = 4 ∨ i = 5 ∨ i = 6 ∨ i = 7 ∨ i = 8 ∨ i = 9 ∨ i = 10 ∨ i = 11 ∨ i = 12 ∨ i = 13 ∨ i = 14 ∨ i = 15 ∨ i = 16 ∨ i = 17 ∨ i = 18 ∨ i = 19 ∨ i = 20 ∨ i = 21 ∨ i = 22 ∨ i = 23 ∨ i = 24 ∨ i = 25 ∨ i = 26 ∨ i = 27 ∨ i = 28 ∨ i = 29 ∨ i = 30 := by omega
               ·simp only [gT, gZ, Option.some.injEq] at ho
                subst ho
                clear hLi hafter
                simp only [Act.put, aT, aZ, aS]
                go_wp2_with fail
                exact ⟨.slice (some ⟨tn, 0, none⟩) R ncap, u103, u104, u105, u106, u107, u108, u109, u110, u111, u112, u113, u114, u115, u116, u117, u118, u119, u120, u121, u122, u123, u124, u125, u126, u127, u128, u129, u130, u131, by simp only [Act.put, aT, aZ, aS], .inl ⟨by simpa using hLl, HS.out, (fun _ => rfl), PvR⟩⟩
               ·simp only [gT, gZ, gS, Option.some.injEq] at ho
                subst ho
                clear hLi hafter
                simp only [Act.put, aT, aZ, aS]
                go_wp2_with fail
                exact ⟨u102, .int .i64 ww, u104, u105, u106, u107, u108, u109, u110, u111, u112, u113, u114, u115, u116, u117, u118, u119, u120, u121, u122, u123, u124, u125, u126, u127, u128, u129, u130, u131, by simp only [Act.put, aT, aZ, aS], .inl ⟨by simpa using hLl, HS.out, PvA, (fun _ => rfl), PvR⟩⟩
               ·simp only [gT, gZ, gS, Option.some.injEq] at ho
                subst ho
                obtain rfl := P0.out (hafter ⟨0, .data⟩ (by simp) rfl)
                obtain rfl := P1.out (hafter ⟨1, .data⟩ (by simp) rfl)
                clear hLi hafter
                simp only [Act.put, aT, aZ, aS]
                go_wp2_with fail
                exact ⟨.slice (some ⟨tn, 0, none⟩) R ncap, .int .i64 ww, .pointer (some ⟨tn, ww, none⟩), u105, u106, u107, u108, u109, u110, u111, u112, u113, u114, u115, u116, u117, u118, u119, u120, u121, u122, u123, u124, u125, u126, u127, u128, u129, u130, u131, by simp only [Act.put, aT, aZ, aS], .inl ⟨by simpa using hLl, HS.out, PvA, PvA, (fun _ => rfl), PvR⟩⟩
               ·simp only [gT, gZ, gS, Option.some.injEq] at ho
                subst ho
                obtain rfl := P2.out (hafter ⟨2, .data⟩ (by simp) rfl)
                have c0 := (HS.out.1.cell (p := ⟨tn, ww, none⟩) hlt).trans gt1
                clear hLi hafter
                simp only [Act.put, aT, aZ, aS]
                go_wp2_with fail
                exact ⟨u102, u103, .pointer (some ⟨tn, ww, none⟩), .slice (some ⟨gk, 0, none⟩) M dk, u106, u107, u108, u109, u110, u111, u112, u113, u114, u115, u116, u117, u118, u119, u120, u121, u122, u123, u124, u125, u126, u127, u128, u129, u130, u131, by simp only [Act.put, aT, aZ, aS], .inl ⟨by simpa using hLl, HS.out, PvA, PvA, PvA, (fun _ => rfl), PvR⟩⟩
               ·simp only [gT, gZ, gS, Option.some.injEq] at ho
                subst ho
                clear hLi hafter
                simp only [Act.put, aT, aZ, aS]
                go_wp2_with fail
                exact ⟨u102, u103, u104, u105, .int .i64 e, u107, u108, u109, u110, u111, u112, u113, u114, u115, u116, u117, u118, u119, u120, u121, u122, u123, u124, u125, u126, u127, u128, u129, u130, u131, by simp only [Act.put, aT, aZ, aS], .inl ⟨by simpa using hLl, HS.out, PvA, PvA, PvA, PvA, (fun _ => rfl), PvR⟩⟩
               ·simp only [gT, gZ, gS, Option.some.injEq] at ho
                subst ho
                clear hLi hafter
                simp only [Act.put, aT, aZ, aS]
                go_wp2_with fail
                exact ⟨u102, u103, u104, u105, u106, .int .i64 ww, u108, u109, u110, u111, u112, u113, u114, u115, u116, u117, u118, u119, u120, u121, u122, u123, u124, u125, u126, u127, u128, u129, u130, u131, by simp only [Act.put, aT, aZ, aS], .inl ⟨by simpa using hLl, HS.out, PvA, PvA, PvA, PvA, PvA, (fun _ => rfl), PvR⟩⟩
               ·simp only [gT, gZ, gS, Option.some.injEq] at ho
                subst ho
                obtain rfl := P4.out (hafter ⟨4, .data⟩ (by simp) rfl)
                obtain rfl := P5.out (hafter ⟨5, .data⟩ (by simp) rfl)
                clear hLi hafter
                simp only [Act.put, aT, aZ, aS]
                go_wp2_with fail
                exact ⟨u102, u103, u104, u105, .int .i64 e, .int .i64 ww, .int .i64 cj, u109, u110, u111, u112, u113, u114, u115, u116, u117, u118, u119, u120, u121, u122, u123, u124, u125, u126, u127, u128, u129, u130, u131, by simp only [Act.put, aT, aZ, aS], .inl ⟨by simpa using hLl, HS.out, PvA, PvA, PvA, PvA, PvA, PvA, (fun _ => rfl), PvR⟩⟩
               ·simp only [gT, gZ, gS, Option.some.injEq] at ho
                subst ho
                clear hLi hafter
                simp only [Act.put, aT, aZ, aS]
                go_wp2_with fail
                exact ⟨u102, u103, u104, u105, u106, u107, u108, .slice (some ⟨tn, 0, none⟩) R ncap, u110, u111, u112, u113, u114, u115, u116, u117, u118, u119, u120, u121, u122, u123, u124, u125, u126, u127, u128, u129, u130, u131, by simp only [Act.put, aT, aZ, aS], .inl ⟨by simpa using hLl, HS.out, PvA, PvA, PvA, PvA, PvA, PvA, PvA, (fun _ => rfl), PvR⟩⟩
               ·simp only [gT, gZ, gS, Option.some.injEq] at ho
                subst ho
                clear hLi hafter
                simp only [Act.put, aT, aZ, aS]
                go_wp2_with fail
                exact ⟨u102, u103, u104, u105, u106, u107, u108, u109, .int .i64 ww, u111, u112, u113, u114, u115, u116, u117, u118, u119, u120, u121, u122, u123, u124, u125, u126, u127, u128, u129, u130, u131, by simp only [Act.put, aT, aZ, aS], .inl ⟨by simpa using hLl, HS.out, PvA, PvA, PvA, PvA, PvA, PvA, PvA, PvA, (fun _ => rfl), PvR⟩⟩
               ·simp only [gT, gZ, gS, Option.some.injEq] at ho
                subst ho
                obtain rfl := P7.out (hafter ⟨7, .data⟩ (by simp) rfl)
                obtain rfl := P8.out (hafter ⟨8, .data⟩ (by simp) rfl)
                clear hLi hafter
                simp only [Act.put, aT, aZ, aS]
                go_wp2_with fail
                exact ⟨u102, u103, u104, u105, u106, u107, u108, .slice (some ⟨tn, 0, none⟩) R ncap, .int .i64 ww, .pointer (some ⟨tn, ww, none⟩), u112, u113, u114, u115, u116, u117, u118, u119, u120, u121, u122, u123, u124, u125, u126, u127, u128, u129, u130, u131, by simp only [Act.put, aT, aZ, aS], .inl ⟨by simpa using hLl, HS.out, PvA, PvA, PvA, PvA, PvA, PvA, PvA, PvA, PvA, (fun _ => rfl), PvR⟩⟩
               ·simp only [gT, gZ, gS, Option.some.injEq] at ho
                subst ho
                obtain rfl := P9.out (hafter ⟨9, .data⟩ (by simp) rfl)
                have c0 := (HS.out.1.cell (p := ⟨tn, ww, none⟩) hlt).trans gt1
                clear hLi hafter
                simp only [Act.put, aT, aZ, aS]
                go_wp2_with fail
                exact ⟨u102, u103, u104, u105, u106, u107, u108, u109, u110, .pointer (some ⟨tn, ww, none⟩), .slice (some ⟨gk, 0, none⟩) M dk, u113, u114, u115, u116, u117, u118, u119, u120, u121, u122, u123, u124, u125, u126, u127, u128, u129, u130, u131, by simp only [Act.put, aT, aZ, aS], .inl ⟨by simpa using hLl, HS.out, PvA, PvA, PvA, PvA, PvA, PvA, PvA, PvA, PvA, PvA, (fun _ => rfl), PvR⟩⟩
               ·simp only [gT, gZ, gS, Option.some.injEq] at ho
                subst ho
                clear hLi hafter
                simp only [Act.put, aT, aZ, aS]
                go_wp2_with fail
                exact ⟨u102, u103, u104, u105, u106, u107, u108, u109, u110, u111, u112, .int .i64 e, u114, u115, u116, u117, u118, u119, u120, u121, u122, u123, u124, u125, u126, u127, u128, u129, u130, u131, by simp only [Act.put, aT, aZ, aS], .inl ⟨by simpa using hLl, HS.out, PvA, PvA, PvA, PvA, PvA, PvA, PvA, PvA, PvA, PvA, PvA, (fun _ => rfl), PvR⟩⟩
               ·simp only [gT, gZ, gS, Option.some.injEq] at ho
                subst ho
                clear hLi hafter
                simp only [Act.put, aT, aZ, aS]
                go_wp2_with fail
                exact ⟨u102, u103, u104, u105, u106, u107, u108, u109, u110, u111, u112, u113, .int .i64 ww, u115, u116, u117, u118, u119, u120, u121, u122, u123, u124, u125, u126, u127, u128, u129, u130, u131, by simp only [Act.put, aT, aZ, aS], .inl ⟨by simpa using hLl, HS.out, PvA, PvA, PvA, PvA, PvA, PvA, PvA, PvA, PvA, PvA, PvA, PvA, (fun _ => rfl), PvR⟩⟩
               ·simp only [gT, gZ, gS, Option.some.injEq] at ho
                subst ho
                obtain rfl := P11.out (hafter ⟨11, .data⟩ (by simp) rfl)
                obtain rfl := P12.out (hafter ⟨12, .data⟩ (by simp) rfl)
                clear hLi hafter
                simp only [Act.put, aT, aZ, aS]
                go_wp2_with fail
                exact ⟨u102, u103, u104, u105, u106, u107, u108, u109, u110, u111, u112, .int .i64 e, .int .i64 ww, .int .i64 cj, u116, u117, u118, u119, u120, u121, u122, u123, u124, u125, u126, u127, u128, u129, u130, u131, by simp only [Act.put, aT, aZ, aS], .inl ⟨by simpa using hLl, HS.out, PvA, PvA, PvA, PvA, PvA, PvA, PvA, PvA, PvA, PvA, PvA, PvA, PvA, (fun _ => rfl), PvR⟩⟩
               ·simp only [gT, gZ, gS, Option.some.injEq] at ho
                subst ho
                obtain rfl := P10.out (hafter ⟨10, .data⟩ (by simp) rfl)
                obtain rfl := P13.out (hafter ⟨13, .data⟩ (by simp) rfl)
                clear hLi hafter
                simp only [Act.put, aT, aZ, aS]
                go_wp2_with fail
                exact ⟨u102, u103, u104, u105, u106, u107, u108, u109, u110, u111, .slice (some ⟨gk, 0, none⟩) M dk, u113, u114, .int .i64 cj, .pointer (some ⟨gk, cj * 3, none⟩), u117, u118, u119, u120, u121, u122, u123, u124, u125, u126, u127, u128, u129, u130, u131, by simp only [Act.put, aT, aZ, aS], .inl ⟨by simpa using hLl, HS.out, PvA, PvA, PvA, PvA, PvA, PvA, PvA, PvA, PvA, PvA, PvA, PvA, PvA, PvA, (fun _ => rfl), PvR⟩⟩
               ·simp only [gT, gZ, gS, Option.some.injEq] at ho
                subst ho
                obtain rfl := P14.out (hafter ⟨14, .data⟩ (by simp) rfl)
                have c0 := (HS.out.1.cell (p := ⟨gk, cj * 3, none⟩) hlg).trans g6
                have c1 := (HS.out.1.cell (p := ⟨gk, cj * 3 + 1, none⟩) hlg).trans g7
                have c2 := (HS.out.1.cell (p := ⟨gk, cj * 3 + 2, none⟩) hlg).trans g8
                clear hLi hafter
                simp only [Act.put, aT, aZ, aS]
                go_wp2_with fail
                exact ⟨u102, u103, u104, u105, u106, u107, u108, u109, u110, u111, u112, u113, u114, u115, .pointer (some ⟨gk, cj * 3, none⟩), .agg #[.bool (decide (po.num < 0)), .slice ro (nlen po.num.natAbs) co, .slice ro2 (nlen po.den) co2], u118, u119, u120, u121, u122, u123, u124, u125, u126, u127, u128, u129, u130, u131, by simp only [Act.put, aT, aZ, aS], .inl ⟨by simpa using hLl, HS.out, PvA, PvA, PvA, PvA, PvA, PvA, PvA, PvA, PvA, PvA, PvA, PvA, PvA, PvA, PvA, (fun _ => rfl), PvR⟩⟩
               ·simp only [gT, gZ, gS, Option.some.injEq] at ho
                subst ho
                clear hLi hafter
                simp only [Act.put, aT, aZ, aS]
                go_wp2_with fail
                exact ⟨u102, u103, u104, u105, u106, u107, u108, u109, u110, u111, u112, u113, u114, u115, u116, u117, .slice (some ⟨tc, 0, none⟩) R tcap, u119, u120, u121, u122, u123, u124, u125, u126, u127, u128, u129, u130, u131, by simp only [Act.put, aT, aZ, aS], .inl ⟨by simpa using hLl, HS.out, PvA, PvA, PvA, PvA, PvA, PvA, PvA, PvA, PvA, PvA, PvA, PvA, PvA, PvA, PvA, PvA, (fun _ => rfl), PvR⟩⟩
               ·simp only [gT, gZ, gS, Option.some.injEq] at ho
                subst ho
                clear hLi hafter
                simp only [Act.put, aT, aZ, aS]
                go_wp2_with fail
                exact ⟨u102, u103, u104, u105, u106, u107, u108, u109, u110, u111, u112, u113, u114, u115, u116, u117, u118, .int .i64 ww, u120, u121, u122, u123, u124, u125, u126, u127, u128, u129, u130, u131, by simp only [Act.put, aT, aZ, aS], .inl ⟨by simpa using hLl, HS.out, PvA, PvA, PvA, PvA, PvA, PvA, PvA, PvA, PvA, PvA, PvA, PvA, PvA, PvA, PvA, PvA, PvA, (fun _ => rfl), PvR⟩⟩
               ·simp only [gT, gZ, gS, Option.some.injEq] at ho
                subst ho
                obtain rfl := P16.out (hafter ⟨16, .data⟩ (by simp) rfl)
                obtain rfl := P17.out (hafter ⟨17, .data⟩ (by simp) rfl)
                clear hLi hafter
                simp only [Act.put, aT, aZ, aS]
                go_wp2_with fail
                exact ⟨u102, u103, u104, u105, u106, u107, u108, u109, u110, u111, u112, u113, u114, u115, u116, u117, .slice (some ⟨tc, 0, none⟩) R tcap, .int .i64 ww, .pointer (some ⟨tc, ww, none⟩), u121, u122, u123, u124, u125, u126, u127, u128, u129, u130, u131, by simp only [Act.put, aT, aZ, aS], .inl ⟨by simpa using hLl, HS.out, PvA, PvA, PvA, PvA, PvA, PvA, PvA, PvA, PvA, PvA, PvA, PvA, PvA, PvA, PvA, PvA, PvA, PvA, (fun _ => rfl), PvR⟩⟩
               ·simp only [gT, gZ, gS, Option.some.injEq] at ho
                subst ho
                obtain rfl := P18.out (hafter ⟨18, .data⟩ (by simp) rfl)
                have c0 := (HS.out.1.cell (p := ⟨tc, ww, none⟩) hlc).trans gw
                clear hLi hafter
                simp only [Act.put, aT, aZ, aS]
                go_wp2_with fail
                exact ⟨u102, u103, u104, u105, u106, u107, u108, u109, u110, u111, u112, u113, u114, u115, u116, u117, u118, u119, .pointer (some ⟨tc, ww, none⟩), .slice (some ⟨bb, 0, none⟩) M kb, u122, u123, u124, u125, u126, u127, u128, u129, u130, u131, by simp only [Act.put, aT, aZ, aS], .inl ⟨by simpa using hLl, HS.out, PvA, PvA, PvA, PvA, PvA, PvA, PvA, PvA, PvA, PvA, PvA, PvA, PvA, PvA, PvA, PvA, PvA, PvA, PvA, (fun _ => rfl), PvR⟩⟩
               ·simp only [gT, gZ, gS, Option.some.injEq] at ho
                subst ho
                clear hLi hafter
                simp only [Act.put, aT, aZ, aS]
                go_wp2_with fail
                exact ⟨u102, u103, u104, u105, u106, u107, u108, u109, u110, u111, u112, u113, u114, u115, u116, u117, u118, u119, u120, u121, .int .i64 e, u123, u124, u125, u126, u127, u128, u129, u130, u131, by simp only [Act.put, aT, aZ, aS], .inl ⟨by simpa using hLl, HS.out, PvA, PvA, PvA, PvA, PvA, PvA, PvA, PvA, PvA, PvA, PvA, PvA, PvA, PvA, PvA, PvA, PvA, PvA, PvA, PvA, (fun _ => rfl), PvR⟩⟩
               ·simp only [gT, gZ, gS, Option.some.injEq] at ho
                subst ho
                obtain rfl := P19.out (hafter ⟨19, .data⟩ (by simp) rfl)
                obtain rfl := P20.out (hafter ⟨20, .data⟩ (by simp) rfl)
                clear hLi hafter
                simp only [Act.put, aT, aZ, aS]
                go_wp2_with fail
                exact ⟨u102, u103, u104, u105, u106, u107, u108, u109, u110, u111, u112, u113, u114, u115, u116, u117, u118, u119, u120, .slice (some ⟨bb, 0, none⟩) M kb, .int .i64 e, .pointer (some ⟨bb, e * 3, none⟩), u124, u125, u126, u127, u128, u129, u130, u131, by simp only [Act.put, aT, aZ, aS], .inl ⟨by simpa using hLl, HS.out, PvA, PvA, PvA, PvA, PvA, PvA, PvA, PvA, PvA, PvA, PvA, PvA, PvA, PvA, PvA, PvA, PvA, PvA, PvA, PvA, PvA, (fun _ => rfl), PvR⟩⟩
               ·simp only [gT, gZ, gS, Option.some.injEq] at ho
                subst ho
                obtain rfl := P21.out (hafter ⟨21, .data⟩ (by simp) rfl)
                have c0 := (HS.out.1.cell (p := ⟨bb, e * 3, none⟩) hlv).trans gv0
                have c1 := (HS.out.1.cell (p := ⟨bb, e * 3 + 1, none⟩) hlv).trans gv1
                have c2 := (HS.out.1.cell (p := ⟨bb, e * 3 + 2, none⟩) hlv).trans gv2
                clear hLi hafter
                simp only [Act.put, aT, aZ, aS]
                go_wp2_with fail
                exact ⟨u102, u103, u104, u105, u106, u107, u108, u109, u110, u111, u112, u113, u114, u115, u116, u117, u118, u119, u120, u121, u122, .pointer (some ⟨bb, e * 3, none⟩), .agg #[.bool (decide (pv.num < 0)), .slice rv (nlen pv.num.natAbs) cv, .slice rv2 (nlen pv.den) cv2], u125, u126, u127, u128, u129, u130, u131, by simp only [Act.put, aT, aZ, aS], .inl ⟨by simpa using hLl, HS.out, PvA, PvA, PvA, PvA, PvA, PvA, PvA, PvA, PvA, PvA, PvA, PvA, PvA, PvA, PvA, PvA, PvA, PvA, PvA, PvA, PvA, PvA, (fun _ => rfl), PvR⟩⟩
               ·simp only [gT, gZ, gS, Option.some.injEq] at ho
                subst ho
                clear hLi hafter
                simp only [Act.put, aT, aZ, aS]
                go_wp2_with fail
                exact ⟨u102, u103, u104, u105, u106, u107, u108, u109, u110, u111, u112, u113, u114, u115, u116, u117, u118, u119, u120, u121, u122, u123, u124, .slice (some ⟨b, off, none⟩) n cap, u126, u127, u128, u129, u130, u131, by simp only [Act.put, aT, aZ, aS], .inl ⟨by simpa using hLl, HS.out, PvA, PvA, PvA, PvA, PvA, PvA, PvA, PvA, PvA, PvA, PvA, PvA, PvA, PvA, PvA, PvA, PvA, PvA, PvA, PvA, PvA, PvA, PvA, (fun _ => rfl), PvR⟩⟩
               ·simp only [gT, gZ, gS, Option.some.injEq] at ho
                subst ho
                clear hLi hafter
                simp only [Act.put, aT, aZ, aS]
                go_wp2_with fail
                exact ⟨u102, u103, u104, u105, u106, u107, u108, u109, u110, u111, u112, u113, u114, u115, u116, u117, u118, u119, u120, u121, u122, u123, u124, u125, .int .i64 k, u127, u128, u129, u130, u131, by simp only [Act.put, aT, aZ, aS], .inl ⟨by simpa using hLl, HS.out, PvA, PvA, PvA, PvA, PvA, PvA, PvA, PvA, PvA, PvA, PvA, PvA, PvA, PvA, PvA, PvA, PvA, PvA, PvA, PvA, PvA, PvA, PvA, PvA, (fun _ => rfl), PvR⟩⟩
               ·simp only [gT, gZ, gS, Option.some.injEq] at ho
                subst ho
                obtain rfl := P23.out (hafter ⟨23, .data⟩ (by simp) rfl)
                obtain rfl := P24.out (hafter ⟨24, .data⟩ (by simp) rfl)
                clear hLi hafter
                simp only [Act.put, aT, aZ, aS]
                go_wp2_with fail
                exact ⟨u102, u103, u104, u105, u106, u107, u108, u109, u110, u111, u112, u113, u114, u115, u116, u117, u118, u119, u120, u121, u122, u123, u124, .slice (some ⟨b, off, none⟩) n cap, .int .i64 k, .pointer (some ⟨b, off + k * 3, none⟩), u128, u129, u130, u131, by simp only [Act.put, aT, aZ, aS], .inl ⟨by simpa using hLl, HS.out, PvA, PvA, PvA, PvA, PvA, PvA, PvA, PvA, PvA, PvA, PvA, PvA, PvA, PvA, PvA, PvA, PvA, PvA, PvA, PvA, PvA, PvA, PvA, PvA, PvA, (fun _ => rfl), PvR⟩⟩
               ·simp only [gT, gZ, gS, Option.some.injEq] at ho
                subst ho
                obtain rfl := P25.out (hafter ⟨25, .data⟩ (by simp) rfl)
                have c0 := (HS.out.1.cell (p := ⟨b, off + k * 3, none⟩) hla).trans ga0
                have c1 := (HS.out.1.cell (p := ⟨b, off + k * 3 + 1, none⟩) hla).trans ga1
                have c2 := (HS.out.1.cell (p := ⟨b, off + k * 3 + 2, none⟩) hla).trans ga2
                clear hLi hafter
                simp only [Act.put, aT, aZ, aS]
                go_wp2_with fail
                exact ⟨u102, u103, u104, u105, u106, u107, u108, u109, u110, u111, u112, u113, u114, u115, u116, u117, u118, u119, u120, u121, u122, u123, u124, u125, u126, .pointer (some ⟨b, off + k * 3, none⟩), .agg #[.bool sk, .slice ra rn rc, .slice da dn dc], u129, u130, u131, by simp only [Act.put, aT, aZ, aS], .inl ⟨by simpa using hLl, HS.out, PvA, PvA, PvA, PvA, PvA, PvA, PvA, PvA, PvA, PvA, PvA, PvA, PvA, PvA, PvA, PvA, PvA, PvA, PvA, PvA, PvA, PvA, PvA, PvA, PvA, PvA, (fun _ => rfl), PvR⟩⟩
               ·simp only [gT, gZ, gS, Option.some.injEq] at ho
                subst ho
                obtain rfl := P22.out (hafter ⟨22, .data⟩ (by simp) rfl)
                obtain rfl := P26.out (hafter ⟨26, .data⟩ (by simp) rfl)
                clear hLi hafter
                simp only [Act.put, aT, aZ, aS]
                go_wp2_with fail
                refine (xrmul_any (N := N) _ _ _ _ _ _ _ _ _ _ _ _ _ _ LL LL pv (q k) _ (by have := HS.out.2; omega) (Rt.of_norm (HV1.out.below HS.out.1) (HV2.out.below HS.out.1) _ HZV.out) (HR.out.below HS.out.1) (by omega) (by omega) pm HPM.out).mono ?_
                rintro e wn ⟨r, c, r2, c2, rfl, hn, hn', hb⟩
                have HN := Lib.hid hn
                have HM := Lib.hid hn'
                have Hb := Lib.hid hb
                clear hn hn' hb
                go_wp2_with fail
                exact ⟨u102, u103, u104, u105, u106, u107, u108, u109, u110, u111, u112, u113, u114, u115, u116, u117, u118, u119, u120, u121, u122, u123, .agg #[.bool (decide (pv.num < 0)), .slice rv (nlen pv.num.natAbs) cv, .slice rv2 (nlen pv.den) cv2], u125, u126, u127, .agg #[.bool sk, .slice ra rn rc, .slice da dn dc], _, u130, u131, by simp only [Act.put, aT, aZ, aS], .inl ⟨by simpa using hLl, HS.out.below Hb.out, PvA, PvA, PvA, PvA, PvA, PvA, PvA, PvA, PvA, PvA, PvA, PvA, PvA, PvA, PvA, PvA, PvA, PvA, PvA, PvA, PvA, PvA, PvA, PvA, PvA, PvA, PvA, (fun _ => ⟨r, c, r2, c2, rfl, HN.out, HM.out⟩), (fun h => (P28.out (by simpa using h)).below Hb.out), PvA⟩⟩
               ·simp only [gT, gZ, gS, Option.some.injEq] at ho
                subst ho
                obtain rfl := P15.out (hafter ⟨15, .data⟩ (by simp) rfl)
                obtain ⟨r27, c27, t27, d27, rfl, hn27, hm27⟩ := P27.out (hafter ⟨27, .data⟩ (by simp) rfl)
                have HN27 := Lib.hid hn27
                have HM27 := Lib.hid hm27
                clear hn27 hm27
                clear hLi hafter
                simp only [Act.put, aT, aZ, aS]
                go_wp2_with fail
                refine (xradd_any (N := N) _ _ _ _ _ _ _ _ _ _ _ _ _ _ LL (LL + LL) po pm _ (by have := HS.out.2; omega) (Rt.of_norm (HO1.out.below HS.out.1) (HO2.out.below HS.out.1) _ HZO.out) (Rt.of_norm HN27.out HM27.out _ HZM.out) (by omega) (by omega) pn HPN.out).mono ?_
                rintro e wn ⟨r, c, r2, c2, rfl, hn, hn', hb⟩
                have HN := Lib.hid hn
                have HM := Lib.hid hn'
                have Hb := Lib.hid hb
                clear hn hn' hb
                go_wp2_with fail
                exact ⟨u102, u103, u104, u105, u106, u107, u108, u109, u110, u111, u112, u113, u114, u115, u116, .agg #[.bool (decide (po.num < 0)), .slice ro (nlen po.num.natAbs) co, .slice ro2 (nlen po.den) co2], u118, u119, u120, u121, u122, u123, u124, u125, u126, u127, u128, _, _, u131, by simp only [Act.put, aT, aZ, aS], .inl ⟨by simpa using hLl, HS.out.below Hb.out, PvA, PvA, PvA, PvA, PvA, PvA, PvA, PvA, PvA, PvA, PvA, PvA, PvA, PvA, PvA, PvA, PvA, PvA, PvA, PvA, PvA, PvA, PvA, PvA, PvA, PvA, PvA, (fun h => (P27.out (by simpa using h)).below Hb.out), (fun _ => ⟨r, c, r2, c2, rfl, HN.out, HM.out⟩), PvA⟩⟩
               ·simp only [gT, gZ, gS, Option.some.injEq] at ho
                subst ho
                obtain rfl := P3.out (hafter ⟨3, .data⟩ (by simp) rfl)
                obtain rfl := P6.out (hafter ⟨6, .data⟩ (by simp) rfl)
                clear hLi hafter
                simp only [Act.put, aT, aZ, aS]
                go_wp2_with fail
                exact ⟨u102, u103, u104, .slice (some ⟨gk, 0, none⟩) M dk, u106, u107, .int .i64 cj, u109, u110, u111, u112, u113, u114, u115, u116, u117, u118, u119, u120, u121, u122, u123, u124, u125, u126, u127, u128, u129, u130, .pointer (some ⟨gk, cj * 3, none⟩), by simp only [Act.put, aT, aZ, aS], .inl ⟨by simpa using hLl, HS.out, PvA, PvA, PvA, PvA, PvA, PvA, PvA, PvA, PvA, PvA, PvA, PvA, PvA, PvA, PvA, PvA, PvA, PvA, PvA, PvA, PvA, PvA, PvA, PvA, PvA, PvA, PvA, PvA, PvA, (fun _ => rfl)⟩⟩
               ·simp only [gT, gZ, gS, Option.some.injEq] at ho
                subst ho
                have hall : ∀ j, j < 30 → Ls j = true := by
                 intro j hj
                 obtain rfl | rfl | rfl | rfl | rfl | rfl | rfl | rfl | rfl | rfl | rfl | rfl | rfl | rfl | rfl | rfl | rfl | rfl | rfl | rfl | rfl | rfl | rfl | rfl | rfl | rfl | rfl | rfl | rfl | rfl : j = 0 ∨ j = 1 ∨ j = 2 ∨ j = 3 ∨ j = 4 ∨ j = 5 ∨ j = 6 ∨ j = 7 ∨ j = 8 ∨ j = 9 ∨ j = 10 ∨ j = 11 ∨ j = 12 ∨ j = 13 ∨ j = 14 ∨ j = 15 ∨ j = 16 ∨ j = 17 ∨ j = 18 ∨ j = 19 ∨ j = 20 ∨ j = 21 ∨ j = 22 ∨ j = 23 ∨ j = 24 ∨ j = 25 ∨ j = 26 ∨ j = 27 ∨ j = 28 ∨ j = 29 := by omega
                 all_goals first | (refine hafter ⟨_, .phase⟩ ?_ rfl; simp; done) | (refine hafter ⟨_, .data⟩ ?_ rfl; simp; done)
                have HALL := Lib.hid hall
                clear hall
                obtain ⟨r28, c28, t28, d28, rfl, hn28, hm28⟩ := P28.out (hafter ⟨28, .data⟩ (by simp) rfl)
                have HN28 := Lib.hid hn28
                have HM28 := Lib.hid hm28
                clear hn28 hm28
                obtain rfl := P29.out (hafter ⟨29, .data⟩ (by simp) rfl)
                have c0 := (HS.out.1.cell (p := ⟨gk, cj * 3, none⟩) hlg).trans g6
                have c1 := (HS.out.1.cell (p := ⟨gk, cj * 3 + 1, none⟩) hlg).trans g7
                have c2 := (HS.out.1.cell (p := ⟨gk, cj * 3 + 2, none⟩) hlg).trans g8
                have fz : ∀ o, wq.frozen? ⟨gk, o, none⟩ = false := fun o => (HS.out.1.frozen (p := ⟨gk, o, none⟩) hlg).trans (fo o)
                clear hLi hafter
                simp only [Act.put, aT, aZ, aS]
                go_wp2_with fail
                exact ⟨u102, u103, u104, u105, u106, u107, u108, u109, u110, u111, u112, u113, u114, u115, u116, u117, u118, u119, u120, u121, u122, u123, u124, u125, u126, u127, u128, u129, .agg #[.bool (decide ((pn).num < 0)), .slice r28 (nlen (pn).num.natAbs) c28, .slice t28 (nlen (pn).den) d28], .pointer (some ⟨gk, cj * 3, none⟩), by simp only [Act.put, aT, aZ, aS], .inr ⟨by simp, fun j hj => by simp [HALL.out j hj], ⟨_, _, _, _, _, HS.out, HN28.out, HM28.out, rfl⟩⟩⟩
              ·exfalso
               have hi : i < 31 := (Array.getElem?_eq_some_iff.1 ho).1
               rcases Nat.lt_or_ge i 30 with h | h
               ·rw [hall i h] at hLi; cases hLi
               ·obtain rfl : i = 30 := by omega
                rw [h10] at hLi; cases hLi
             ·intro Ls a0 wq hall hJ
              obtain ⟨u102, u103, u104, u105, u106, u107, u108, u109, u110, u111, u112, u113, u114, u115, u116, u117, u118, u119, u120, u121, u122, u123, u124, u125, u126, u127, u128, u129, u130, u131, rfl, ⟨h10, _⟩ | ⟨_, _, hcut⟩⟩ := hJ
              ·rw [hall 30 (by decide)] at h10; cases h10
              ·obtain ⟨w1, r1, c1', r12, c12, hs, hn, hn', rfl⟩ := hcut
               have Hs := Lib.hid hs
               have Hn := Lib.hid hn
               have Hn' := Lib.hid hn'
               clear hs hn hn'
               simp only [Act.put, aT, aZ, aS]
               go_wp2_with fail
               obtain ⟨W6, hW⟩ : ∃ W, (((w1.setCell ⟨gk, cj * 3, none⟩ (.bool (decide (pn.num < 0)))).setCell ⟨gk, cj * 3 + 1, none⟩ (.slice r1 (nlen pn.num.natAbs) c1')).setCell ⟨gk, cj * 3 + 2, none⟩ (.slice r12 (nlen pn.den) c12)) = W := ⟨_, rfl⟩
               have kp : Kp N w1 W6 := by rw [← hW]; exact Kp.set3 (by omega) (HBN.out.below Hs.out.1) _ _ _
               have HTN' := Lib.hid (show Tq N W6 tn R M γ δ (nqP q k ww (e + 1)) by rw [← hW]; exact (HTN.out.below Hs.out.1).put (k := ww) (c := cj) (y := nqP q k ww (e + 1)) (fun r hr => by have := HGE.out r hr; omega) (by omega) (by omega) HGK.out rfl pn (HEN.out) Hn.out Hn'.out (fun r _ d _ hne => by rw [nqP_step, if_neg (fun hh => hne ⟨hh.1, hh.2.trans HC1.out⟩)]; exact (Rat.add_zero _).symm))
               have HRW' := Lib.hid (show Rl N W6 bw 1 1 (fun _ => pw) by rw [← hW]; exact (HRW.out.below Hs.out.1).keep (Kp.set3 (by omega) (HBN.out.below Hs.out.1) _ _ _) (Sb.set3 (Ne.symm hgb) _ _ _))
               have HB' := Lib.hid (show Below wo.heap.size wo W6 by rw [← hW]; exact bel_set3 (HB.out.trans (Hs.out.1.mono hs0)) hgo _ _ _)
               subst hW
               go_roundw
               case rel => exact ⟨e + 1, by omega, by go_num, HTN'.out, HB'.out, HRW'.out⟩
               case measure => simp [intOf]; omega
         ·have e1 : e = M := by omega
          subst e1
          go_wp2_with fail
          go_roundw
          case rel => exact ⟨ww + 1, by omega, by go_num, HTN.out.congr (fun r _ c hc => nqP_row _ _ _ _ hc), HB.out, HRW.out⟩
          case measure => simp [intOf]; omega
       ·have e1 : ww = k + 1 := by omega
        subst e1
        have hwz : ¬ ((k + 1 : Nat) : Int) ≤ (k : Int) := by omega
        have hwz2 : ¬ ((k : Int) + 1) ≤ (k : Int) := by omega
        go_wp2_with fail
        go_roundw
        case rel => exact ⟨k + 1, tn, ncap, γ, δ, by omega, by go_num, rfl, htn1, by omega, Lib.hid (fun j hj => by have := HGE.out j hj; omega), Lib.hid (HTN.out.congr (fun r _ c _ => nqP_end _ _ _ _)), HBw.out.trans (HB.out.mono hsw)⟩
        case measure => simp [intOf]; omega
    ·obtain rfl : n = k := by omega
     have HRR := Lib.hid (show n + 1 = R from HR1.out)
     go_wp2_with fail
     go_loopw [13, 14] (fun out j wr => ∃ e : Nat, e ≤ M ∧ j = .int .i64 e ∧ Ol N wo.heap.size wr out e (nlQ q n) ∧ Below wo.heap.size wo wr) (fun _ j _ => M - (intOf j).toNat)
     case atStart => exact ⟨0, Nat.zero_le _, rfl, Ol.nil _ _ _ _, Below.refl _ _⟩
     case round =>
      obtain ⟨e, he, rfl, hol, hbel⟩ := hrel
      obtain ⟨we, rfl⟩ : ∃ x : World, x = wr := ⟨_, rfl⟩
      have HOL := Lib.hid hol
      have HBe := Lib.hid hbel
      have hse : wo.heap.size ≤ we.heap.size := hbel.size
      clear hN
      have hN : N ≤ we.heap.size := by omega
      clear hol hbel
      by_cases heM : e < M
      ·have hez : (e : Int) < (M : Int) := by omega
       have HB := Lib.hid (Below.refl we.heap.size we)
       go_wp2_with fail
       refine calls_name fun W0 hW => ?_
       have hs_W0 : we.heap.size ≤ W0.heap.size := by rw [← hW]; exact OmT
       replace HB := Lib.hid (show Below we.heap.size we W0 by rw [← hW]; exact BlA)
       replace hN : N ≤ W0.heap.size := by rw [← hW]; exact OmT
       have hs0 : we.heap.size ≤ W0.heap.size := by rw [← hW]; exact OmT
       clear hW
       refine (xwhole_any (N := N) 0 _ hN (by omega) (by omega) p0 HP0.out).mono ?_
       rintro e wb ⟨ry, cy, ry2, cy2, rfl, hn, hn', hb⟩
       have hs_wb : W0.heap.size ≤ wb.heap.size := hb.size
       replace HB := Lib.hid (HB.out.trans (hb.mono hs0))
       replace hN : N ≤ wb.heap.size := Nat.le_trans hN hb.size
       replace hs0 : we.heap.size ≤ wb.heap.size := Nat.le_trans hs0 hb.size
       clear hb
       have HY1 := Lib.hid hn
       clear hn
       have HY2 := Lib.hid hn'
       clear hn'
       go_wp2_with fail
       have hbs0 : we.heap.size ≤ wb.heap.size := hs0
       go_loopw [16] (fun j wr => ∃ rr ps, rr ≤ R ∧ j = .int .i64 ((rr : Nat) : Int) ∧ sQ (fun x => nul q n x e) rr = ps ∧ NBox N wr wb.heap.size ps ∧ Below we.heap.size we wr) (fun j _ => R - (intOf j).toNat)
       case atStart =>
        refine ⟨0, p0, Nat.zero_le _, rfl, HE0.out.symm, ⟨ry, cy, ry2, cy2, ⟨by first | omega | (simp; done) | (simp; omega), by exact KpA, fun o => by first | (go_simp; done) | (simp; done) | (simp [go_sem]; done) | (simp [go_sem]; done), by first | with_reducible assumption | (go_simp; done) | (simp; done) | (simp [go_sem]; done) | (simp [go_sem]; done), by first | with_reducible assumption | (go_simp; done) | (simp; done) | (simp [go_sem]; done) | (simp [go_sem]; done), by first | with_reducible assumption | (go_simp; done) | (simp; done) | (simp [go_sem]; done) | (simp [go_sem]; done)⟩, HY1.out.keep ?_, HY2.out.keep ?_⟩, ?_⟩
        all_goals exact KBA
       case round =>
        obtain ⟨rr, ps, hrR, rfl, hps, ⟨rs, cs, rs2, cs2, hbx, hn1, hn2⟩, hbel⟩ := hrel
        obtain ⟨wi, rfl⟩ : ∃ x : World, x = wr := ⟨_, rfl⟩
        clear HY1 HY2 HB hs0 hN
        obtain ⟨hl_S, bn_S, f_S, k_S_0, k_S_1, k_S_2⟩ := hbx
        have HX_S := Lib.hid bn_S
        clear bn_S
        have HPS := Lib.hid hps
        have HT1 := Lib.hid hn1
        have HT2 := Lib.hid hn2
        have HB := Lib.hid hbel
        have hs0 : we.heap.size ≤ wi.heap.size := hbel.size
        have hN : N ≤ wi.heap.size := by omega
        have HZS := Lib.hid (show rsz ps ≤ LL by rw [← hps, ← HLL.out]; exact nls_rsz q n L HX.out HLim.out e rr (by omega))
        clear hn1 hn2 hbel hps
        by_cases hr : rr < R
        ·have hrz : (rr : Int) ≤ (n : Int) := by have := HRR.out; omega
         have hrz2 : (rr : Int) < (R : Int) := by omega
         have hr0 : (0 : Int) ≤ (rr : Int) := by omega
         have he0 : (0 : Int) ≤ (e : Int) := by omega
         obtain ⟨bb, hbb⟩ : ∃ g, β rr = g := ⟨_, rfl⟩
         obtain ⟨kb, hkb⟩ : ∃ g, κ rr = g := ⟨_, rfl⟩
         have gw0 := HTT.out.top rr hr
         have hrb := HTT.out.row rr hr
         rw [hbb, hkb] at gw0 hrb
         have hlvo : bb < wo.heap.size := hrb.lt
         obtain ⟨rv, cv, rv2, cv2, gv0', gv1', gv2', nv1, nv2⟩ := hrb.2 e heM
         obtain ⟨pv, hpv⟩ : ∃ p, nul q n rr e = p := ⟨_, rfl⟩
         rw [hpv] at gv0' gv1' gv2' nv1 nv2
         have HBB := Lib.hid (HBe.out.trans (HB.out.mono hse))
         have gw : wi.cell? ⟨tc, rr, none⟩ = some (.slice (some ⟨bb, 0, none⟩) M kb) := cell_mono gw0 HBB.out
         have gv0 : wi.cell? ⟨bb, e * 3, none⟩ = some (.bool (decide (pv.num < 0))) := cell_mono gv0' HBB.out
         have gv1 : wi.cell? ⟨bb, e * 3 + 1, none⟩ = some (.slice rv (nlen pv.num.natAbs) cv) := cell_mono gv1' HBB.out
         have gv2 : wi.cell? ⟨bb, e * 3 + 2, none⟩ = some (.slice rv2 (nlen pv.den) cv2) := cell_mono gv2' HBB.out
         have HV1 := Lib.hid (nv1.below HBB.out)
         have HV2 := Lib.hid (nv2.below HBB.out)
         have hlc : tc < wi.heap.size := by omega
         have hlv : bb < wi.heap.size := by omega
         have HZV := Lib.hid (show rsz pv ≤ LL by rw [← hpv, ← HLL.out]; have := nul_rsz q n L HX.out HLim.out n (Nat.le_refl _) rr e; omega)
         obtain ⟨pn, hpn⟩ : ∃ p, ps + pv = p := ⟨_, rfl⟩
         have HPN := Lib.hid hpn
         have HSN := Lib.hid (show sQ (fun x => nul q n x e) (rr + 1) = pn by show sQ _ rr + nul q n rr e = pn; rw [HPS.out, hpv]; exact hpn)
         clear gw0 hrb hbb hkb gv0' gv1' gv2' nv1 nv2 hpv hpn
         go_wp2_with fail
         refine region_name fun W2 hW => ?_
         have HL_W2 := Lib.hid (show Below wi.heap.size wi W2 by rw [← hW]; exact BlA)
         have hs_W2 : wi.heap.size ≤ W2.heap.size := by rw [← hW]; exact OmT
         have HK_W2 := Lib.hid (show Kp N wi W2 by rw [← hW]; exact KpA)
         rw [hW] at gw gv0 gv1 gv2 hlc hlv
         replace k_S_0 : W2.cell? ⟨wb.heap.size, 0, none⟩ = some (.bool (decide (ps.num < 0))) := (HL_W2.out.cell (p := ⟨wb.heap.size, 0, none⟩) hl_S).trans k_S_0
         replace k_S_1 : W2.cell? ⟨wb.heap.size, 1, none⟩ = some (.slice rs (nlen ps.num.natAbs) cs) := (HL_W2.out.cell (p := ⟨wb.heap.size, 1, none⟩) hl_S).trans k_S_1
         replace k_S_2 : W2.cell? ⟨wb.heap.size, 2, none⟩ = some (.slice rs2 (nlen ps.den) cs2) := (HL_W2.out.cell (p := ⟨wb.heap.size, 2, none⟩) hl_S).trans k_S_2
         replace f_S : ∀ o, W2.frozen? ⟨wb.heap.size, o, none⟩ = false := fun o => (HL_W2.out.frozen (p := ⟨wb.heap.size, o, none⟩) hl_S).trans (f_S o)
         replace HX_S := Lib.hid (show Bn W2 (wb.heap.size) by rw [← hW]; exact KpA)
         replace HT1 := Lib.hid (HT1.out.keep HK_W2.out)
         replace HT2 := Lib.hid (HT2.out.keep HK_W2.out)
         replace HV1 := Lib.hid (HV1.out.keep HK_W2.out)
         replace HV2 := Lib.hid (HV2.out.keep HK_W2.out)
         replace HB := Lib.hid (show Below we.heap.size we W2 by rw [← hW]; exact BlA)
         replace hN : N ≤ W2.heap.size := by rw [← hW]; exact OmT
         replace hs0 : we.heap.size ≤ W2.heap.size := by rw [← hW]; exact OmT
         replace hl_S : wb.heap.size < W2.heap.size := by rw [← hW]; exact OmT
         clear HL_W2
         clear hW HK_W2
         refine region_inv2 (by kernel_rfl) (XnJ32 N R M rr e tc tcap bb kb wb.heap.size ps pv pn rs rs2 rv rv2 cs cs2 cv cv2 LL (W2)) ?_ ?_ ?_ ?_
         ·exact ⟨u144, u145, u146, u147, u148, u149, u150, u151, u152, by simp only [Act.put, aT, aZ, aS], .inl ⟨rfl, Since.drawn _, NoR⟩⟩
         ·exact acyc_spec (by kernel_rfl)
         ·intro Ls a0 wq i o ho hLi hafter hJ
          obtain ⟨u144, u145, u146, u147, u148, u149, u150, u151, u152, rfl, hJ | ⟨h10, hall, _⟩⟩ := hJ
          ·obtain ⟨hLl, hS, p0, p1, p2, p3, p4, p5, p6, p7, p8⟩ := hJ
           have P0 := Lib.hid p0; have P1 := Lib.hid p1; have P2 := Lib.hid p2; have P3 := Lib.hid p3; have P4 := Lib.hid p4; have P5 := Lib.hid p5; have P6 := Lib.hid p6; have P7 := Lib.hid p7; have P8 := Lib.hid p8; have HS := Lib.hid hS; clear hS p0 p1 p2 p3 p4 p5 p6 p7 p8
           have hi : i < 10 := (Array.getElem?_eq_some_iff.1 ho).1
           obtain rfl | rfl | rfl | rfl | rfl | rfl | rfl | rfl | rfl | rfl : i = 0 ∨ i = 1 ∨ i = 2 ∨ i = 3 ∨ i = 4 ∨ i = 5 ∨ i = 6 ∨ i = 7 ∨ i = 8 ∨ i = 9 := by omega
           ·simp only [gT, gZ, Option.some.injEq] at ho
            subst ho
            have c0 := (HS.out.1.cell (p := ⟨wb.heap.size, 0, none⟩) hl_S).trans k_S_0
            have c1 := (HS.out.1.cell (p := ⟨wb.heap.size, 1, none⟩) hl_S).trans k_S_1
            have c2 := (HS.out.1.cell (p := ⟨wb.heap.size, 2, none⟩) hl_S).trans k_S_2
            clear hLi hafter
            simp only [Act.put, aT, aZ, aS]
            go_wp2_with fail
            exact ⟨.agg #[.bool (decide (ps.num < 0)), .slice rs (nlen ps.num.natAbs) cs, .slice rs2 (nlen ps.den) cs2], u145, u146, u147, u148, u149, u150, u151, u152, by simp only [Act.put, aT, aZ, aS], .inl ⟨by simpa using hLl, HS.out, (fun _ => rfl), PvR⟩⟩
           ·simp only [gT, gZ, gS, Option.some.injEq] at ho
            subst ho
            clear hLi hafter
            simp only [Act.put, aT, aZ, aS]
            go_wp2_with fail
            exact ⟨u144, .slice (some ⟨tc, 0, none⟩) R tcap, u146, u147, u148, u149, u150, u151, u152, by simp only [Act.put, aT, aZ, aS], .inl ⟨by simpa using hLl, HS.out, PvA, (fun _ => rfl), PvR⟩⟩
           ·simp only [gT, gZ, gS, Option.some.injEq] at ho
            subst ho
            clear hLi hafter
            simp only [Act.put, aT, aZ, aS]
            go_wp2_with fail
            exact ⟨u144, u145, .int .i64 rr, u147, u148, u149, u150, u151, u152, by simp only [Act.put, aT, aZ, aS], .inl ⟨by simpa using hLl, HS.out, PvA, PvA, (fun _ => rfl), PvR⟩⟩
           ·simp only [gT, gZ, gS, Option.some.injEq] at ho
            subst ho
            obtain rfl := P1.out (hafter ⟨1, .data⟩ (by simp) rfl)
            obtain rfl := P2.out (hafter ⟨2, .data⟩ (by simp) rfl)
            clear hLi hafter
            simp only [Act.put, aT, aZ, aS]
            go_wp2_with fail
            exact ⟨u144, .slice (some ⟨tc, 0, none⟩) R tcap, .int .i64 rr, .pointer (some ⟨tc, rr, none⟩), u148, u149, u150, u151, u152, by simp only [Act.put, aT, aZ, aS], .inl ⟨by simpa using hLl, HS.out, PvA, PvA, PvA, (fun _ => rfl), PvR⟩⟩
           ·simp only [gT, gZ, gS, Option.some.injEq] at ho
            subst ho
            obtain rfl := P3.out (hafter ⟨3, .data⟩ (by simp) rfl)
            have c0 := (HS.out.1.cell (p := ⟨tc, rr, none⟩) hlc).trans gw
            clear hLi hafter
            simp only [Act.put, aT, aZ, aS]
            go_wp2_with fail
            exact ⟨u144, u145, u146, .pointer (some ⟨tc, rr, none⟩), .slice (some ⟨bb, 0, none⟩) M kb, u149, u150, u151, u152, by simp only [Act.put, aT, aZ, aS], .inl ⟨by simpa using hLl, HS.out, PvA, PvA, PvA, PvA, (fun _ => rfl), PvR⟩⟩
           ·simp only [gT, gZ, gS, Option.some.injEq] at ho
            subst ho
            clear hLi hafter
            simp only [Act.put, aT, aZ, aS]
            go_wp2_with fail
            exact ⟨u144, u145, u146, u147, u148, .int .i64 e, u150, u151, u152, by simp only [Act.put, aT, aZ, aS], .inl ⟨by simpa using hLl, HS.out, PvA, PvA, PvA, PvA, PvA, (fun _ => rfl), PvR⟩⟩
           ·simp only [gT, gZ, gS, Option.some.injEq] at ho
            subst ho
            obtain rfl := P4.out (hafter ⟨4, .data⟩ (by simp) rfl)
            obtain rfl := P5.out (hafter ⟨5, .data⟩ (by simp) rfl)
            clear hLi hafter
            simp only [Act.put, aT, aZ, aS]
            go_wp2_with fail
            exact ⟨u144, u145, u146, u147, .slice (some ⟨bb, 0, none⟩) M kb, .int .i64 e, .pointer (some ⟨bb, e * 3, none⟩), u151, u152, by simp only [Act.put, aT, aZ, aS], .inl ⟨by simpa using hLl, HS.out, PvA, PvA, PvA, PvA, PvA, PvA, (fun _ => rfl), PvR⟩⟩
           ·simp only [gT, gZ, gS, Option.some.injEq] at ho
            subst ho
            obtain rfl := P6.out (hafter ⟨6, .data⟩ (by simp) rfl)
            have c0 := (HS.out.1.cell (p := ⟨bb, e * 3, none⟩) hlv).trans gv0
            have c1 := (HS.out.1.cell (p := ⟨bb, e * 3 + 1, none⟩) hlv).trans gv1
            have c2 := (HS.out.1.cell (p := ⟨bb, e * 3 + 2, none⟩) hlv).trans gv2
            clear hLi hafter
            simp only [Act.put, aT, aZ, aS]
            go_wp2_with fail
            exact ⟨u144, u145, u146, u147, u148, u149, .pointer (some ⟨bb, e * 3, none⟩), .agg #[.bool (decide (pv.num < 0)), .slice rv (nlen pv.num.natAbs) cv, .slice rv2 (nlen pv.den) cv2], u152, by simp only [Act.put, aT, aZ, aS], .inl ⟨by simpa using hLl, HS.out, PvA, PvA, PvA, PvA, PvA, PvA, PvA, (fun _ => rfl), PvA⟩⟩
           ·simp only [gT, gZ, gS, Option.some.injEq] at ho
            subst ho
            obtain rfl := P0.out (hafter ⟨0, .data⟩ (by simp) rfl)
            obtain rfl := P7.out (hafter ⟨7, .data⟩ (by simp) rfl)
            clear hLi hafter
            simp only [Act.put, aT, aZ, aS]
            go_wp2_with fail
            refine (xradd_any (N := N) _ _ _ _ _ _ _ _ _ _ _ _ _ _ LL LL ps pv _ (by have := HS.out.2; omega) (Rt.of_norm (HT1.out.below HS.out.1) (HT2.out.below HS.out.1) _ HZS.out) (Rt.of_norm (HV1.out.below HS.out.1) (HV2.out.below HS.out.1) _ HZV.out) (by omega) (by omega) pn HPN.out).mono ?_
            rintro e wn ⟨r, c, r2, c2, rfl, hn, hn', hb⟩
            have HN := Lib.hid hn
            have HM := Lib.hid hn'
            have Hb := Lib.hid hb
            clear hn hn' hb
            go_wp2_with fail
            exact ⟨.agg #[.bool (decide (ps.num < 0)), .slice rs (nlen ps.num.natAbs) cs, .slice rs2 (nlen ps.den) cs2], u145, u146, u147, u148, u149, u150, .agg #[.bool (decide (pv.num < 0)), .slice rv (nlen pv.num.natAbs) cv, .slice rv2 (nlen pv.den) cv2], _, by simp only [Act.put, aT, aZ, aS], .inl ⟨by simpa using hLl, HS.out.below Hb.out, PvA, PvA, PvA, PvA, PvA, PvA, PvA, PvA, (fun _ => ⟨r, c, r2, c2, rfl, HN.out, HM.out⟩)⟩⟩
           ·simp only [gT, gZ, gS, Option.some.injEq] at ho
            subst ho
            have hall : ∀ j, j < 9 → Ls j = true := by
             intro j hj
             obtain rfl | rfl | rfl | rfl | rfl | rfl | rfl | rfl | rfl : j = 0 ∨ j = 1 ∨ j = 2 ∨ j = 3 ∨ j = 4 ∨ j = 5 ∨ j = 6 ∨ j = 7 ∨ j = 8 := by omega
             all_goals first | (refine hafter ⟨_, .phase⟩ ?_ rfl; simp; done) | (refine hafter ⟨_, .data⟩ ?_ rfl; simp; done)
            have HALL := Lib.hid hall
            clear hall
            obtain ⟨r8, c8, t8, d8, rfl, hn8, hm8⟩ := P8.out (hafter ⟨8, .data⟩ (by simp) rfl)
            have HN8 := Lib.hid hn8
            have HM8 := Lib.hid hm8
            clear hn8 hm8
            have c0 := (HS.out.1.cell (p := ⟨wb.heap.size, 0, none⟩) hl_S).trans k_S_0
            have c1 := (HS.out.1.cell (p := ⟨wb.heap.size, 1, none⟩) hl_S).trans k_S_1
            have c2 := (HS.out.1.cell (p := ⟨wb.heap.size, 2, none⟩) hl_S).trans k_S_2
            have fz : ∀ o, wq.frozen? ⟨wb.heap.size, o, none⟩ = false := fun o => (HS.out.1.frozen (p := ⟨wb.heap.size, o, none⟩) hl_S).trans (f_S o)
            clear hLi hafter
            simp only [Act.put, aT, aZ, aS]
            go_wp2_with fail
            exact ⟨u144, u145, u146, u147, u148, u149, u150, u151, .agg #[.bool (decide ((pn).num < 0)), .slice r8 (nlen (pn).num.natAbs) c8, .slice t8 (nlen (pn).den) d8], by simp only [Act.put, aT, aZ, aS], .inr ⟨by simp, fun j hj => by simp [HALL.out j hj], ⟨_, _, _, _, _, HS.out, HN8.out, HM8.out, rfl⟩⟩⟩
          ·exfalso
           have hi : i < 10 := (Array.getElem?_eq_some_iff.1 ho).1
           rcases Nat.lt_or_ge i 9 with h | h
           ·rw [hall i h] at hLi; cases hLi
           ·obtain rfl : i = 9 := by omega
            rw [h10] at hLi; cases hLi
         ·intro Ls a0 wq hall hJ
          obtain ⟨u144, u145, u146, u147, u148, u149, u150, u151, u152, rfl, ⟨h10, _⟩ | ⟨_, _, hcut⟩⟩ := hJ
          ·rw [hall 9 (by decide)] at h10; cases h10
          ·obtain ⟨wv, rn, cn, rn2, cn2, hs, hn, hn', rfl⟩ := hcut
           clear gw gv0 gv1 gv2 hlc hlv
           have hb := hs.1
           clear hs
           have hs_wv : W2.heap.size ≤ wv.heap.size := hb.size
           replace k_S_0 : wv.cell? ⟨wb.heap.size, 0, none⟩ = some (.bool (decide (ps.num < 0))) := (hb.cell (p := ⟨wb.heap.size, 0, none⟩) hl_S).trans k_S_0
           replace k_S_1 : wv.cell? ⟨wb.heap.size, 1, none⟩ = some (.slice rs (nlen ps.num.natAbs) cs) := (hb.cell (p := ⟨wb.heap.size, 1, none⟩) hl_S).trans k_S_1
           replace k_S_2 : wv.cell? ⟨wb.heap.size, 2, none⟩ = some (.slice rs2 (nlen ps.den) cs2) := (hb.cell (p := ⟨wb.heap.size, 2, none⟩) hl_S).trans k_S_2
           replace f_S : ∀ o, wv.frozen? ⟨wb.heap.size, o, none⟩ = false := fun o => (hb.frozen (p := ⟨wb.heap.size, o, none⟩) hl_S).trans (f_S o)
           replace HX_S := Lib.hid (HX_S.out.below hb)
           replace HT1 := Lib.hid (HT1.out.below hb)
           replace HT2 := Lib.hid (HT2.out.below hb)
           replace HV1 := Lib.hid (HV1.out.below hb)
           replace HV2 := Lib.hid (HV2.out.below hb)
           replace HB := Lib.hid (HB.out.trans (hb.mono hs0))
           replace hN : N ≤ wv.heap.size := Nat.le_trans hN hb.size
           replace hs0 : we.heap.size ≤ wv.heap.size := Nat.le_trans hs0 hb.size
           replace hl_S : wb.heap.size < wv.heap.size := Nat.lt_of_lt_of_le hl_S hb.size
           clear hb
           have Hn1 := Lib.hid hn
           have Hn2 := Lib.hid hn'
           clear hn hn'
           simp only [Act.put, aT, aZ, aS]
           go_wp2_with fail
           go_roundw
           case rel =>
            refine ⟨rr + 1, pn, by omega, by go_num, HSN.out, ⟨rn, cn, rn2, cn2, ⟨by first | omega | (simp; done) | (simp; omega), by exact KpA, fun o => by first | with_reducible exact f_S o | (simp [go_sem, f_S]; done) | (simp [go_sem, f_S, hl_S]; done) | (go_simp; done) | (simp; done) | (simp [go_sem]; done) | (simp [go_sem, k_S_0, k_S_1, k_S_2, f_S, hl_S]; done), by first | with_reducible assumption | (simp [go_sem, k_S_0]; done) | (simp [go_sem, k_S_0, hl_S]; done) | (go_simp; done) | (simp; done) | (simp [go_sem]; done) | (simp [go_sem, k_S_0, k_S_1, k_S_2, f_S, hl_S]; done), by first | with_reducible assumption | (simp [go_sem, k_S_1]; done) | (simp [go_sem, k_S_1, hl_S]; done) | (go_simp; done) | (simp; done) | (simp [go_sem]; done) | (simp [go_sem, k_S_0, k_S_1, k_S_2, f_S, hl_S]; done), by first | with_reducible assumption | (simp [go_sem, k_S_2]; done) | (simp [go_sem, k_S_2, hl_S]; done) | (go_simp; done) | (simp; done) | (simp [go_sem]; done) | (simp [go_sem, k_S_0, k_S_1, k_S_2, f_S, hl_S]; done)⟩, Hn1.out.keep ?_, Hn2.out.keep ?_⟩, ?_⟩
            all_goals exact KBA
           case measure => simp [intOf]; omega
        ·obtain rfl : R = rr := by omega
         obtain rfl : nlQ q n e = ps := by rw [← HPS.out, ← HRR.out]; rfl
         have HOL2 := Lib.hid (HOL.out.below HB.out)
         obtain ⟨xs, hown, hcl⟩ := HOL2.out
         have HO := Lib.hid hown
         have HC2 := Lib.hid hcl
         clear hown hcl HOL2
         have HBO := Lib.hid (HBe.out.trans (HB.out.mono hse))
         have hso : wo.heap.size ≤ wi.heap.size := by omega
         go_wp2_with (at_builtin; refine wpList_append_own_at _ rfl (.tmp 153) (.tmp 155) 38 rfl wo.heap.size 29 i0 (.agg #[.bool false, .slice none 0 0, .slice none 0 0]) 3 56 Tryz.underRats hi hz0 hz1 hz2 rfl (by decide) _ e xs rfl (HO.out.alloc _) ⟨wi.heap.size, 0, none⟩ 1 1 [.bool (decide (((nlQ q n e)).num < 0)), .slice rs (nlen ((nlQ q n e)).num.natAbs) cs, .slice rs2 (nlen ((nlQ q n e)).den) cs2] rfl rfl (cell_three wi _ _ _ _) (by intro u hu; simp at hu; rcases hu with rfl | rfl | rfl <;> rfl) (by unfold maxLen; omega) (by omega) (by simp; omega) ?_; intro v1 w1 ho1 hg1 _ _; have KP1 := Lib.hid ((Kp.refl N wi).alloc (.cells #[.bool (decide (((nlQ q n e)).num < 0)), .slice rs (nlen ((nlQ q n e)).num.natAbs) cs, .slice rs2 (nlen ((nlQ q n e)).den) cs2] 29) |>.trans (own_kp (HO.out.alloc _) (by omega) hg1)); have HB1 := Lib.hid (own_bel (HO.out.alloc _) (HBO.out.alloc hso _) (by simp; omega) hg1); have HO1 := Lib.hid ho1; have HC1 := Lib.hid (Cl.push (HC2.out.imp fun i v0 v1 v2 _ e => e.keep KP1.out) (show En N w1 (nlQ q n) e _ _ _ from ⟨_, _, _, _, rfl, rfl, rfl, HT1.out.keep KP1.out, HT2.out.keep KP1.out⟩)); clear ho1 hg1)
         go_roundw
         case rel => exact ⟨e + 1, by omega, by go_num, ⟨_, HO1.out, HC1.out⟩, HB1.out⟩
         case measure => simp [intOf]; omega
      ·obtain rfl : e = M := by omega
       obtain ⟨xs, hown, hcl⟩ := HOL.out
       obtain ⟨ao, co, rfl, hrn⟩ := Cl.rn hown hcl
       have HRN := Lib.hid hrn
       clear hrn hown hcl
       go_wp2_with fail
       go_ret2
       exact ⟨_, _, rfl, HRN.out, HBw.out.trans (HBe.out.mono hsw)⟩
end Go.Proofs.YtjobopafcgnljaaGreat
