/- Contracts of dif.check, persons and Odds, for at most 20 strata whose counts are from 0 to 30. -/
import Derived.Test.YtmecipfdelgfbaaDoorDfA
import Derived.Test.YtmecipfdelgfbaaDoorDfR
import Derived.Test.YtmecipfdelgfbaaDoorTsT
namespace Go.Proofs.YtmecipfdelgfbaaDoor
open Go.RowKit

/-- four counts -/
def sel4 {α : Type} (a b c d : α) (i : Nat) : α := if i = 0 then a else if i = 1 then b else if i = 2 then c else d

set_option maxHeartbeats 2000000 in
theorem fcheck_ok (a : Option Addr) (n cap : Nat) (t : Nat → Nat → Nat) (w : World) (h : Tz w a n cap t) (hn : n ≤ 20) (hc : cntS t n) :
    Calls Tryd.prog 26 #[.slice a n cap] w fun e w' => e = .returned (.int .i64 0) ∧ Below w.heap.size w w' := by
  have HA := Lib.hid h
  have HCN := Lib.hid hc
  have bc := h.1
  have bm := h.2.1
  unfold maxLen at bm
  clear h hc
  go_enter Tryd.func26, Tryd.ntmps26
  go_wp2_with fail
  go_loopw [6, 12] (fun _ i wr => ∃ k : Nat, k ≤ n ∧ i = .int .i64 k ∧ Below w.heap.size w wr) (fun _ i _ => n - (intOf i).toNat)
  case atStart => exact ⟨0, Nat.zero_le _, rfl, Below.refl _ _⟩
  case round =>
    obtain ⟨k, hk, rfl, hbel⟩ := hrel
    have HB := Lib.hid hbel
    have hs0 : w.heap.size ≤ wr.heap.size := hbel.size
    by_cases hkn : k < n
    · obtain ⟨b, off, rfl, hcc⟩ := (HA.out.below hbel).2.2 (by omega)
      obtain ⟨g0, g1, g2, g3⟩ := hcc k hkn
      clear hcc
      have hx0 := HCN.out k hkn 0 (by omega)
      obtain ⟨x0, ex0⟩ : ∃ x, t k 0 = x := ⟨_, rfl⟩
      rw [ex0] at hx0 g0
      have EX0 := Lib.hid ex0
      clear ex0
      have hx1 := HCN.out k hkn 1 (by omega)
      obtain ⟨x1, ex1⟩ : ∃ x, t k 1 = x := ⟨_, rfl⟩
      rw [ex1] at hx1 g1
      have EX1 := Lib.hid ex1
      clear ex1
      have hx2 := HCN.out k hkn 2 (by omega)
      obtain ⟨x2, ex2⟩ : ∃ x, t k 2 = x := ⟨_, rfl⟩
      rw [ex2] at hx2 g2
      have EX2 := Lib.hid ex2
      clear ex2
      have hx3 := HCN.out k hkn 3 (by omega)
      obtain ⟨x3, ex3⟩ : ∃ x, t k 3 = x := ⟨_, rfl⟩
      rw [ex3] at hx3 g3
      have EX3 := Lib.hid ex3
      clear ex3
      have hix0 : (0 : Int) ≤ (k : Int) := by omega
      have hix1 : (k : Int) < (n : Int) := by omega
      clear hbel
      go_wp2_with fail
      go_loopw [6, 26] (fun _ i wq => ∃ m : Nat, m ≤ 4 ∧ i = .int .i64 m ∧ (∀ j, j < 4 → wq.cell? ⟨wr.heap.size + 1, j, none⟩ = some (.int .i64 ((sel4 x0 x1 x2 x3 j : Nat) : Int))) ∧ Below w.heap.size w wq) (fun _ i _ => 4 - (intOf i).toNat)
      case atStart =>
        refine ⟨0, by omega, rfl, fun j hj => ?_, ?_⟩
        · obtain rfl | rfl | rfl | rfl : j = 0 ∨ j = 1 ∨ j = 2 ∨ j = 3 := by omega
          all_goals simp [sel4]
        · exact BlA
      case round =>
        obtain ⟨m, hm, rfl, hc, hbel⟩ := hrel
        have HB2 := Lib.hid hbel
        clear hbel
        by_cases hm4 : m < 4
        · have c1 := hc m hm4
          have HC := Lib.hid hc
          obtain ⟨x, ex⟩ : ∃ x, sel4 x0 x1 x2 x3 m = x := ⟨_, rfl⟩
          have hx : x ≤ 30 := by
            rw [← ex]; unfold sel4
            split
            · exact hx0
            · split
              · exact hx1
              · split
                · exact hx2
                · exact hx3
          rw [ex] at c1
          clear hc ex
          have hmz : (m : Int) < 4 := by omega
          have hxz : ¬ (x : Int) < 0 := by omega
          have hxy : ¬ (30 : Int) < (x : Int) := by omega
          go_wp2_with fail
          go_roundw
          case rel => exact ⟨m + 1, by omega, by go_num, HC.out, HB2.out⟩
          case measure => simp [intOf]; omega
        · obtain rfl : m = 4 := by omega
          go_wp2_with fail
          go_roundw
          case rel => exact ⟨k + 1, by omega, by go_num, HB2.out⟩
          case measure => simp [intOf]; omega
    · obtain rfl : k = n := by omega
      clear hbel
      go_wp2_with fail
      go_ret
      exact ⟨rfl, HB.out⟩

set_option maxHeartbeats 1000000 in
theorem fpersons_any (x0 x1 x2 x3 m : Nat) (w : World) (h0 : x0 ≤ 30) (h1 : x1 ≤ 30) (h2 : x2 ≤ 30) (h3 : x3 ≤ 30) (hm : x0 + x1 + x2 + x3 = m) :
    Calls Tryd.prog 27 #[.agg #[.int .i64 ((x0 : Nat) : Int), .int .i64 ((x1 : Nat) : Int), .int .i64 ((x2 : Nat) : Int), .int .i64 ((x3 : Nat) : Int)]] w fun e w' => e = .returned (.int .i64 ((m : Nat) : Int)) ∧ Below w.heap.size w w' := by
  have e1 : (x0 : Int) + (x1 : Int) = ((x0 + x1 : Nat) : Int) := by omega
  have HM := Lib.hid hm
  have em : (x0 : Int) + (x1 : Int) + (x2 : Int) + (x3 : Int) = (m : Int) := by omega
  clear e1 hm
  go_enter Tryd.func27, Tryd.ntmps27
  go_wp2_with fail
  go_ret
  exact ⟨rfl, bel1 _ _⟩

/-- two numbers in normal form and a code -/
def Rat2Ok (N : Nat) (w : World) (p q : Rat) (e : Ending) (w' : World) : Prop :=
  ∃ r cr r2 cr2 s cs s2 cs2, e = .returned (.tuple #[.agg #[.bool (decide (p.num < 0)), .slice r (nlen p.num.natAbs) cr, .slice r2 (nlen p.den) cr2], .agg #[.bool (decide (q.num < 0)), .slice s (nlen q.num.natAbs) cs, .slice s2 (nlen q.den) cs2], .int .i64 0]) ∧
    Nt N w' r (nlen p.num.natAbs) cr p.num.natAbs ∧ Nt N w' r2 (nlen p.den) cr2 p.den ∧ Nt N w' s (nlen q.num.natAbs) cs q.num.natAbs ∧ Nt N w' s2 (nlen q.den) cs2 q.den ∧ Below w.heap.size w w'
theorem frq_zero2 (d : Nat) : frq 0 d = 0 := by unfold frq; exact Rat.zero_mkRat d
theorem frq_int (m d : Nat) : frq m d = ((m : Int) : Rat) / ((d : Int) : Rat) := by rw [frq_div]; rfl
theorem frq_rsz2 (m d : Nat) (h : m ≤ 900) (h' : d ≤ 120) : rsz (frq m d) ≤ 2 := frq_len m d 2 (by omega) (Nat.le_trans (nlen_small (by show m < 4294967296; omega)) (by omega)) (Nat.le_trans (nlen_small (by show d < 4294967296; omega)) (by omega))
theorem onm_rsz {t : Nat → Nat → Nat} {n i : Nat} (hc : cntS t n) (hi : i < n) : rsz (onmS t i) ≤ 2 :=
  frq_rsz2 _ _ (Nat.mul_le_mul (hc i hi 0 (by omega)) (hc i hi 3 (by omega))) (cntS_n hc i hi)
theorem odn_rsz {t : Nat → Nat → Nat} {n i : Nat} (hc : cntS t n) (hi : i < n) : rsz (odnS t i) ≤ 2 :=
  frq_rsz2 _ _ (Nat.mul_le_mul (hc i hi 1 (by omega)) (hc i hi 2 (by omega))) (cntS_n hc i hi)
/-- block g was set to q in normal form, as the last thing since W -/
def CutSet (N : Nat) (W : World) (g : Nat) (q : Rat) (w : World) : Prop :=
  ∃ w1 r c r2 c2, Since W w1 ∧ Nt N w1 r (nlen q.num.natAbs) c q.num.natAbs ∧ Nt N w1 r2 (nlen q.den) c2 q.den ∧ w = ((w1.setCell ⟨g, 0, none⟩ (.bool (decide (q.num < 0)))).setCell ⟨g, 1, none⟩ (.slice r (nlen q.num.natAbs) c)).setCell ⟨g, 2, none⟩ (.slice r2 (nlen q.den) c2)

def OddJ1 (N gP gT x0 x3 y m : Nat) (ps pk pn : Rat) (rs rs2 : Option Addr) (cs cs2 : Nat) (W : World) (z0 : Act) (L : Nat → Bool) (z1 : Act) (w : World) : Prop :=
  ∃ u30 u31 u32 u33 u34 u35 u36 u37 u38, z1 = (((((((((z0.put (some 30) u30).put (some 31) u31).put (some 32) u32).put (some 33) u33).put (some 34) u34).put (some 35) u35).put (some 36) u36).put (some 37) u37).put (some 38) u38) ∧
    ((L 9 = false ∧ Since W w ∧ (L 0 = true → u30 = .agg #[.bool (decide ((ps).num < 0)), .slice rs (nlen (ps).num.natAbs) cs, .slice rs2 (nlen (ps).den) cs2]) ∧ (L 1 = true → u31 = .pointer (some ⟨gT, 0, none⟩)) ∧ (L 2 = true → u32 = .int .i64 ((x0 : Nat) : Int)) ∧ (L 3 = true → u33 = .pointer (some ⟨gT, 3, none⟩)) ∧ (L 4 = true → u34 = .int .i64 ((x3 : Nat) : Int)) ∧ (L 5 = true → u35 = .int .i64 ((y : Nat) : Int)) ∧ (L 6 = true → u36 = .int .i64 ((m : Nat) : Int)) ∧ (L 7 = true → IsRat N pk u37 w) ∧ (L 8 = true → IsRat N pn u38 w)) ∨
     (L 9 = true ∧ (∀ j, j < 9 → L j = true) ∧ CutSet N W gP pn w))

def OddJ2 (N gQ gT x1 x2 yz m : Nat) (pz pl po : Rat) (rz rz2 : Option Addr) (cz cz2 : Nat) (W : World) (z0 : Act) (L : Nat → Bool) (z1 : Act) (w : World) : Prop :=
  ∃ u39 u40 u41 u42 u43 u44 u45 u46 u47, z1 = (((((((((z0.put (some 39) u39).put (some 40) u40).put (some 41) u41).put (some 42) u42).put (some 43) u43).put (some 44) u44).put (some 45) u45).put (some 46) u46).put (some 47) u47) ∧
    ((L 9 = false ∧ Since W w ∧ (L 0 = true → u39 = .agg #[.bool (decide ((pz).num < 0)), .slice rz (nlen (pz).num.natAbs) cz, .slice rz2 (nlen (pz).den) cz2]) ∧ (L 1 = true → u40 = .pointer (some ⟨gT, 1, none⟩)) ∧ (L 2 = true → u41 = .int .i64 ((x1 : Nat) : Int)) ∧ (L 3 = true → u42 = .pointer (some ⟨gT, 2, none⟩)) ∧ (L 4 = true → u43 = .int .i64 ((x2 : Nat) : Int)) ∧ (L 5 = true → u44 = .int .i64 ((yz : Nat) : Int)) ∧ (L 6 = true → u45 = .int .i64 ((m : Nat) : Int)) ∧ (L 7 = true → IsRat N pl u46 w) ∧ (L 8 = true → IsRat N po u47 w)) ∨
     (L 9 = true ∧ (∀ j, j < 9 → L j = true) ∧ CutSet N W gQ po w))


set_option maxHeartbeats 8000000 in
theorem odds_ok {N : Nat} (a : Option Addr) (n cap : Nat) (t : Nat → Nat → Nat) (w : World) (hN : N ≤ w.heap.size) (h : Tz w a n cap t) (hn : n ≤ 20) (hc : cntS t n) (p q : Rat) (hp : sQ (onmS t) n = p) (hq : sQ (odnS t) n = q) :
    Calls Tryd.prog 9 #[.slice a n cap] w (Rat2Ok N w p q) := by
  have HA0 := Lib.hid h
  have HA := Lib.hid h
  have HCN := Lib.hid hc
  have HP := Lib.hid hp
  have HQ := Lib.hid hq
  have bc := h.1
  have bm := h.2.1
  unfold maxLen at bm
  clear h hc hp hq
  obtain ⟨p0, hp0⟩ : ∃ p : Rat, ((0 : Int) : Rat) / ((1 : Int) : Rat) = p := ⟨_, rfl⟩
  have HP0 := Lib.hid hp0
  have HE0 := Lib.hid (show p0 = 0 by rw [← hp0]; decide +kernel)
  clear hp0
  have hN0 := hN
  have HB := Lib.hid (Below.refl w.heap.size w)
  go_enter Tryd.func9, Tryd.ntmps9
  go_wp2_with fail
  refine calls_name fun W0 hW => ?_
  have hs_W0 : w.heap.size ≤ W0.heap.size := by rw [← hW]; (first | omega | (simp; done) | (simp; omega))
  have k_R_0 : W0.cell? ⟨w.heap.size, 0, none⟩ = some (.bool false) := by rw [← hW]; (first | (go_simp; done) | (simp; done) | (simp [go_sem]; done) | (simp [go_sem]; done))
  have k_R_1 : W0.cell? ⟨w.heap.size, 1, none⟩ = some (.slice none 0 0) := by rw [← hW]; (first | (go_simp; done) | (simp; done) | (simp [go_sem]; done) | (simp [go_sem]; done))
  have k_R_2 : W0.cell? ⟨w.heap.size, 2, none⟩ = some (.slice none 0 0) := by rw [← hW]; (first | (go_simp; done) | (simp; done) | (simp [go_sem]; done) | (simp [go_sem]; done))
  have f_R : ∀ o, W0.frozen? ⟨w.heap.size, o, none⟩ = false := by intro o; rw [← hW]; (first | (go_simp; done) | (simp; done) | (simp [go_sem]; done) | (simp [go_sem]; done))
  have HX_R := Lib.hid (show Bn W0 (w.heap.size) by rw [← hW]; exact KpA)
  have k_R2_0 : W0.cell? ⟨w.heap.size + 1, 0, none⟩ = some (.bool false) := by rw [← hW]; (first | (go_simp; done) | (simp; done) | (simp [go_sem]; done) | (simp [go_sem]; done))
  have k_R2_1 : W0.cell? ⟨w.heap.size + 1, 1, none⟩ = some (.slice none 0 0) := by rw [← hW]; (first | (go_simp; done) | (simp; done) | (simp [go_sem]; done) | (simp [go_sem]; done))
  have k_R2_2 : W0.cell? ⟨w.heap.size + 1, 2, none⟩ = some (.slice none 0 0) := by rw [← hW]; (first | (go_simp; done) | (simp; done) | (simp [go_sem]; done) | (simp [go_sem]; done))
  have f_R2 : ∀ o, W0.frozen? ⟨w.heap.size + 1, o, none⟩ = false := by intro o; rw [← hW]; (first | (go_simp; done) | (simp; done) | (simp [go_sem]; done) | (simp [go_sem]; done))
  have HX_R2 := Lib.hid (show Bn W0 (w.heap.size + 1) by rw [← hW]; exact KpA)
  replace HB := Lib.hid (show Below w.heap.size w W0 by rw [← hW]; exact BlA)
  replace hN : N ≤ W0.heap.size := by rw [← hW]; (first | omega | (simp; done) | (simp; omega))
  have hs0 : w.heap.size ≤ W0.heap.size := by rw [← hW]; (first | omega | (simp; done) | (simp; omega))
  have hl_R : w.heap.size < W0.heap.size := by rw [← hW]; (first | omega | (simp; done) | (simp; omega))
  have hl_R2 : w.heap.size + 1 < W0.heap.size := by rw [← hW]; (first | omega | (simp; done) | (simp; omega))
  clear hW
  refine (fof_any (N := N) 0 1 _ hN (by omega) (by omega) (by omega) (by omega) p0 HP0.out).mono ?_
  rintro e wa ⟨rs, cs, rs2, cs2, rfl, hn, hn', hb⟩
  have hs_wa : W0.heap.size ≤ wa.heap.size := hb.size
  replace k_R_0 : wa.cell? ⟨w.heap.size, 0, none⟩ = some (.bool false) := (hb.cell (p := ⟨w.heap.size, 0, none⟩) hl_R).trans k_R_0
  replace k_R_1 : wa.cell? ⟨w.heap.size, 1, none⟩ = some (.slice none 0 0) := (hb.cell (p := ⟨w.heap.size, 1, none⟩) hl_R).trans k_R_1
  replace k_R_2 : wa.cell? ⟨w.heap.size, 2, none⟩ = some (.slice none 0 0) := (hb.cell (p := ⟨w.heap.size, 2, none⟩) hl_R).trans k_R_2
  replace f_R : ∀ o, wa.frozen? ⟨w.heap.size, o, none⟩ = false := fun o => (hb.frozen (p := ⟨w.heap.size, o, none⟩) hl_R).trans (f_R o)
  replace HX_R := Lib.hid (HX_R.out.below hb)
  replace k_R2_0 : wa.cell? ⟨w.heap.size + 1, 0, none⟩ = some (.bool false) := (hb.cell (p := ⟨w.heap.size + 1, 0, none⟩) hl_R2).trans k_R2_0
  replace k_R2_1 : wa.cell? ⟨w.heap.size + 1, 1, none⟩ = some (.slice none 0 0) := (hb.cell (p := ⟨w.heap.size + 1, 1, none⟩) hl_R2).trans k_R2_1
  replace k_R2_2 : wa.cell? ⟨w.heap.size + 1, 2, none⟩ = some (.slice none 0 0) := (hb.cell (p := ⟨w.heap.size + 1, 2, none⟩) hl_R2).trans k_R2_2
  replace f_R2 : ∀ o, wa.frozen? ⟨w.heap.size + 1, o, none⟩ = false := fun o => (hb.frozen (p := ⟨w.heap.size + 1, o, none⟩) hl_R2).trans (f_R2 o)
  replace HX_R2 := Lib.hid (HX_R2.out.below hb)
  replace HB := Lib.hid (HB.out.trans (hb.mono hs0))
  replace hN : N ≤ wa.heap.size := Nat.le_trans hN hb.size
  replace hs0 : w.heap.size ≤ wa.heap.size := Nat.le_trans hs0 hb.size
  replace hl_R : w.heap.size < wa.heap.size := Nat.lt_of_lt_of_le hl_R hb.size
  replace hl_R2 : w.heap.size + 1 < wa.heap.size := Nat.lt_of_lt_of_le hl_R2 hb.size
  clear hb
  have HI1 := Lib.hid hn
  clear hn
  have HI2 := Lib.hid hn'
  clear hn'
  go_wp2_with fail
  refine calls_name fun W1 hW => ?_
  have HL_W1 := Lib.hid (show Below wa.heap.size wa W1 by rw [← hW]; exact BlA)
  have hs_W1 : wa.heap.size ≤ W1.heap.size := by rw [← hW]; (first | omega | (simp; done) | (simp; omega))
  have HK_W1 := Lib.hid (show Kp N wa W1 by rw [← hW]; exact KpA)
  replace k_R_0 : W1.cell? ⟨w.heap.size, 0, none⟩ = some (.bool false) := (HL_W1.out.cell (p := ⟨w.heap.size, 0, none⟩) hl_R).trans k_R_0
  replace k_R_1 : W1.cell? ⟨w.heap.size, 1, none⟩ = some (.slice none 0 0) := (HL_W1.out.cell (p := ⟨w.heap.size, 1, none⟩) hl_R).trans k_R_1
  replace k_R_2 : W1.cell? ⟨w.heap.size, 2, none⟩ = some (.slice none 0 0) := (HL_W1.out.cell (p := ⟨w.heap.size, 2, none⟩) hl_R).trans k_R_2
  replace f_R : ∀ o, W1.frozen? ⟨w.heap.size, o, none⟩ = false := fun o => (HL_W1.out.frozen (p := ⟨w.heap.size, o, none⟩) hl_R).trans (f_R o)
  replace HX_R := Lib.hid (show Bn W1 (w.heap.size) by rw [← hW]; exact KpA)
  replace k_R2_0 : W1.cell? ⟨w.heap.size + 1, 0, none⟩ = some (.bool false) := (HL_W1.out.cell (p := ⟨w.heap.size + 1, 0, none⟩) hl_R2).trans k_R2_0
  replace k_R2_1 : W1.cell? ⟨w.heap.size + 1, 1, none⟩ = some (.slice none 0 0) := (HL_W1.out.cell (p := ⟨w.heap.size + 1, 1, none⟩) hl_R2).trans k_R2_1
  replace k_R2_2 : W1.cell? ⟨w.heap.size + 1, 2, none⟩ = some (.slice none 0 0) := (HL_W1.out.cell (p := ⟨w.heap.size + 1, 2, none⟩) hl_R2).trans k_R2_2
  replace f_R2 : ∀ o, W1.frozen? ⟨w.heap.size + 1, o, none⟩ = false := fun o => (HL_W1.out.frozen (p := ⟨w.heap.size + 1, o, none⟩) hl_R2).trans (f_R2 o)
  replace HX_R2 := Lib.hid (show Bn W1 (w.heap.size + 1) by rw [← hW]; exact KpA)
  replace HI1 := Lib.hid (HI1.out.keep HK_W1.out)
  replace HI2 := Lib.hid (HI2.out.keep HK_W1.out)
  replace HB := Lib.hid (show Below w.heap.size w W1 by rw [← hW]; exact BlA)
  replace hN : N ≤ W1.heap.size := by rw [← hW]; (first | omega | (simp; done) | (simp; omega))
  replace hs0 : w.heap.size ≤ W1.heap.size := by rw [← hW]; (first | omega | (simp; done) | (simp; omega))
  replace hl_R : w.heap.size < W1.heap.size := by rw [← hW]; (first | omega | (simp; done) | (simp; omega))
  replace hl_R2 : w.heap.size + 1 < W1.heap.size := by rw [← hW]; (first | omega | (simp; done) | (simp; omega))
  clear HL_W1
  clear hW HK_W1
  refine (fof_any (N := N) 0 1 _ hN (by omega) (by omega) (by omega) (by omega) p0 HP0.out).mono ?_
  rintro e wb ⟨rz, cz, rz2, cz2, rfl, hn, hn', hb⟩
  have hs_wb : W1.heap.size ≤ wb.heap.size := hb.size
  replace k_R_0 : wb.cell? ⟨w.heap.size, 0, none⟩ = some (.bool false) := (hb.cell (p := ⟨w.heap.size, 0, none⟩) hl_R).trans k_R_0
  replace k_R_1 : wb.cell? ⟨w.heap.size, 1, none⟩ = some (.slice none 0 0) := (hb.cell (p := ⟨w.heap.size, 1, none⟩) hl_R).trans k_R_1
  replace k_R_2 : wb.cell? ⟨w.heap.size, 2, none⟩ = some (.slice none 0 0) := (hb.cell (p := ⟨w.heap.size, 2, none⟩) hl_R).trans k_R_2
  replace f_R : ∀ o, wb.frozen? ⟨w.heap.size, o, none⟩ = false := fun o => (hb.frozen (p := ⟨w.heap.size, o, none⟩) hl_R).trans (f_R o)
  replace HX_R := Lib.hid (HX_R.out.below hb)
  replace k_R2_0 : wb.cell? ⟨w.heap.size + 1, 0, none⟩ = some (.bool false) := (hb.cell (p := ⟨w.heap.size + 1, 0, none⟩) hl_R2).trans k_R2_0
  replace k_R2_1 : wb.cell? ⟨w.heap.size + 1, 1, none⟩ = some (.slice none 0 0) := (hb.cell (p := ⟨w.heap.size + 1, 1, none⟩) hl_R2).trans k_R2_1
  replace k_R2_2 : wb.cell? ⟨w.heap.size + 1, 2, none⟩ = some (.slice none 0 0) := (hb.cell (p := ⟨w.heap.size + 1, 2, none⟩) hl_R2).trans k_R2_2
  replace f_R2 : ∀ o, wb.frozen? ⟨w.heap.size + 1, o, none⟩ = false := fun o => (hb.frozen (p := ⟨w.heap.size + 1, o, none⟩) hl_R2).trans (f_R2 o)
  replace HX_R2 := Lib.hid (HX_R2.out.below hb)
  replace HI1 := Lib.hid (HI1.out.below hb)
  replace HI2 := Lib.hid (HI2.out.below hb)
  replace HB := Lib.hid (HB.out.trans (hb.mono hs0))
  replace hN : N ≤ wb.heap.size := Nat.le_trans hN hb.size
  replace hs0 : w.heap.size ≤ wb.heap.size := Nat.le_trans hs0 hb.size
  replace hl_R : w.heap.size < wb.heap.size := Nat.lt_of_lt_of_le hl_R hb.size
  replace hl_R2 : w.heap.size + 1 < wb.heap.size := Nat.lt_of_lt_of_le hl_R2 hb.size
  clear hb
  have HJ1 := Lib.hid hn
  clear hn
  have HJ2 := Lib.hid hn'
  clear hn'
  go_wp2_with fail
  have HAb := Lib.hid (HA.out.below HB.out)
  clear HA
  have HA := HAb
  clear HAb
  refine calls_name fun W2 hW => ?_
  have HL_W2 := Lib.hid (show Below wb.heap.size wb W2 by rw [← hW]; exact BlA)
  have hs_W2 : wb.heap.size ≤ W2.heap.size := by rw [← hW]; (first | omega | (simp; done) | (simp; omega))
  have hd_R_P : w.heap.size < wb.heap.size := by omega
  have hd_R2_P : w.heap.size + 1 < wb.heap.size := by omega
  have hd_R_Q : w.heap.size < wb.heap.size + 1 := by omega
  have hd_R2_Q : w.heap.size + 1 < wb.heap.size + 1 := by omega
  have HK_W2 := Lib.hid (show Kp N wb W2 by rw [← hW]; exact KpA)
  replace k_R_0 : W2.cell? ⟨w.heap.size, 0, none⟩ = some (.bool false) := (HL_W2.out.cell (p := ⟨w.heap.size, 0, none⟩) hl_R).trans k_R_0
  replace k_R_1 : W2.cell? ⟨w.heap.size, 1, none⟩ = some (.slice none 0 0) := (HL_W2.out.cell (p := ⟨w.heap.size, 1, none⟩) hl_R).trans k_R_1
  replace k_R_2 : W2.cell? ⟨w.heap.size, 2, none⟩ = some (.slice none 0 0) := (HL_W2.out.cell (p := ⟨w.heap.size, 2, none⟩) hl_R).trans k_R_2
  replace f_R : ∀ o, W2.frozen? ⟨w.heap.size, o, none⟩ = false := fun o => (HL_W2.out.frozen (p := ⟨w.heap.size, o, none⟩) hl_R).trans (f_R o)
  replace HX_R := Lib.hid (show Bn W2 (w.heap.size) by rw [← hW]; exact KpA)
  replace k_R2_0 : W2.cell? ⟨w.heap.size + 1, 0, none⟩ = some (.bool false) := (HL_W2.out.cell (p := ⟨w.heap.size + 1, 0, none⟩) hl_R2).trans k_R2_0
  replace k_R2_1 : W2.cell? ⟨w.heap.size + 1, 1, none⟩ = some (.slice none 0 0) := (HL_W2.out.cell (p := ⟨w.heap.size + 1, 1, none⟩) hl_R2).trans k_R2_1
  replace k_R2_2 : W2.cell? ⟨w.heap.size + 1, 2, none⟩ = some (.slice none 0 0) := (HL_W2.out.cell (p := ⟨w.heap.size + 1, 2, none⟩) hl_R2).trans k_R2_2
  replace f_R2 : ∀ o, W2.frozen? ⟨w.heap.size + 1, o, none⟩ = false := fun o => (HL_W2.out.frozen (p := ⟨w.heap.size + 1, o, none⟩) hl_R2).trans (f_R2 o)
  replace HX_R2 := Lib.hid (show Bn W2 (w.heap.size + 1) by rw [← hW]; exact KpA)
  have k_P_0 : W2.cell? ⟨wb.heap.size, 0, none⟩ = some (.bool (decide ((p0).num < 0))) := by rw [← hW]; (first | (go_simp; done) | (simp; done) | (simp [go_sem]; done) | (simp [go_sem, k_R_0, k_R_1, k_R_2, k_R2_0, k_R2_1, k_R2_2, f_R, f_R2, hl_R, hl_R2]; done))
  have k_P_1 : W2.cell? ⟨wb.heap.size, 1, none⟩ = some (.slice rs (nlen (p0).num.natAbs) cs) := by rw [← hW]; (first | (go_simp; done) | (simp; done) | (simp [go_sem]; done) | (simp [go_sem, k_R_0, k_R_1, k_R_2, k_R2_0, k_R2_1, k_R2_2, f_R, f_R2, hl_R, hl_R2]; done))
  have k_P_2 : W2.cell? ⟨wb.heap.size, 2, none⟩ = some (.slice rs2 (nlen (p0).den) cs2) := by rw [← hW]; (first | (go_simp; done) | (simp; done) | (simp [go_sem]; done) | (simp [go_sem, k_R_0, k_R_1, k_R_2, k_R2_0, k_R2_1, k_R2_2, f_R, f_R2, hl_R, hl_R2]; done))
  have f_P : ∀ o, W2.frozen? ⟨wb.heap.size, o, none⟩ = false := by intro o; rw [← hW]; (first | (go_simp; done) | (simp; done) | (simp [go_sem]; done) | (simp [go_sem, k_R_0, k_R_1, k_R_2, k_R2_0, k_R2_1, k_R2_2, f_R, f_R2, hl_R, hl_R2]; done))
  have HX_P := Lib.hid (show Bn W2 (wb.heap.size) by rw [← hW]; exact KpA)
  have k_Q_0 : W2.cell? ⟨wb.heap.size + 1, 0, none⟩ = some (.bool (decide ((p0).num < 0))) := by rw [← hW]; (first | (go_simp; done) | (simp; done) | (simp [go_sem]; done) | (simp [go_sem, k_R_0, k_R_1, k_R_2, k_R2_0, k_R2_1, k_R2_2, f_R, f_R2, hl_R, hl_R2]; done))
  have k_Q_1 : W2.cell? ⟨wb.heap.size + 1, 1, none⟩ = some (.slice rz (nlen (p0).num.natAbs) cz) := by rw [← hW]; (first | (go_simp; done) | (simp; done) | (simp [go_sem]; done) | (simp [go_sem, k_R_0, k_R_1, k_R_2, k_R2_0, k_R2_1, k_R2_2, f_R, f_R2, hl_R, hl_R2]; done))
  have k_Q_2 : W2.cell? ⟨wb.heap.size + 1, 2, none⟩ = some (.slice rz2 (nlen (p0).den) cz2) := by rw [← hW]; (first | (go_simp; done) | (simp; done) | (simp [go_sem]; done) | (simp [go_sem, k_R_0, k_R_1, k_R_2, k_R2_0, k_R2_1, k_R2_2, f_R, f_R2, hl_R, hl_R2]; done))
  have f_Q : ∀ o, W2.frozen? ⟨wb.heap.size + 1, o, none⟩ = false := by intro o; rw [← hW]; (first | (go_simp; done) | (simp; done) | (simp [go_sem]; done) | (simp [go_sem, k_R_0, k_R_1, k_R_2, k_R2_0, k_R2_1, k_R2_2, f_R, f_R2, hl_R, hl_R2]; done))
  have HX_Q := Lib.hid (show Bn W2 (wb.heap.size + 1) by rw [← hW]; exact KpA)
  replace HI1 := Lib.hid (HI1.out.keep HK_W2.out)
  replace HI2 := Lib.hid (HI2.out.keep HK_W2.out)
  replace HJ1 := Lib.hid (HJ1.out.keep HK_W2.out)
  replace HJ2 := Lib.hid (HJ2.out.keep HK_W2.out)
  replace HB := Lib.hid (show Below w.heap.size w W2 by rw [← hW]; exact BlA)
  replace hN : N ≤ W2.heap.size := by rw [← hW]; (first | omega | (simp; done) | (simp; omega))
  replace hs0 : w.heap.size ≤ W2.heap.size := by rw [← hW]; (first | omega | (simp; done) | (simp; omega))
  replace hl_R : w.heap.size < W2.heap.size := by rw [← hW]; (first | omega | (simp; done) | (simp; omega))
  replace hl_R2 : w.heap.size + 1 < W2.heap.size := by rw [← hW]; (first | omega | (simp; done) | (simp; omega))
  have hl_P : wb.heap.size < W2.heap.size := by rw [← hW]; (first | omega | (simp; done) | (simp; omega))
  have hl_Q : wb.heap.size + 1 < W2.heap.size := by rw [← hW]; (first | omega | (simp; done) | (simp; omega))
  replace HA := Lib.hid (HA.out.below HL_W2.out)
  clear HL_W2
  clear hW HK_W2
  refine (fcheck_ok _ n _ t _ HA.out hn HCN.out).mono ?_
  rintro e wc ⟨rfl, hb⟩
  have hs_wc : W2.heap.size ≤ wc.heap.size := hb.size
  replace k_R_0 : wc.cell? ⟨w.heap.size, 0, none⟩ = some (.bool false) := (hb.cell (p := ⟨w.heap.size, 0, none⟩) hl_R).trans k_R_0
  replace k_R_1 : wc.cell? ⟨w.heap.size, 1, none⟩ = some (.slice none 0 0) := (hb.cell (p := ⟨w.heap.size, 1, none⟩) hl_R).trans k_R_1
  replace k_R_2 : wc.cell? ⟨w.heap.size, 2, none⟩ = some (.slice none 0 0) := (hb.cell (p := ⟨w.heap.size, 2, none⟩) hl_R).trans k_R_2
  replace f_R : ∀ o, wc.frozen? ⟨w.heap.size, o, none⟩ = false := fun o => (hb.frozen (p := ⟨w.heap.size, o, none⟩) hl_R).trans (f_R o)
  replace HX_R := Lib.hid (HX_R.out.below hb)
  replace k_R2_0 : wc.cell? ⟨w.heap.size + 1, 0, none⟩ = some (.bool false) := (hb.cell (p := ⟨w.heap.size + 1, 0, none⟩) hl_R2).trans k_R2_0
  replace k_R2_1 : wc.cell? ⟨w.heap.size + 1, 1, none⟩ = some (.slice none 0 0) := (hb.cell (p := ⟨w.heap.size + 1, 1, none⟩) hl_R2).trans k_R2_1
  replace k_R2_2 : wc.cell? ⟨w.heap.size + 1, 2, none⟩ = some (.slice none 0 0) := (hb.cell (p := ⟨w.heap.size + 1, 2, none⟩) hl_R2).trans k_R2_2
  replace f_R2 : ∀ o, wc.frozen? ⟨w.heap.size + 1, o, none⟩ = false := fun o => (hb.frozen (p := ⟨w.heap.size + 1, o, none⟩) hl_R2).trans (f_R2 o)
  replace HX_R2 := Lib.hid (HX_R2.out.below hb)
  replace k_P_0 : wc.cell? ⟨wb.heap.size, 0, none⟩ = some (.bool (decide ((p0).num < 0))) := (hb.cell (p := ⟨wb.heap.size, 0, none⟩) hl_P).trans k_P_0
  replace k_P_1 : wc.cell? ⟨wb.heap.size, 1, none⟩ = some (.slice rs (nlen (p0).num.natAbs) cs) := (hb.cell (p := ⟨wb.heap.size, 1, none⟩) hl_P).trans k_P_1
  replace k_P_2 : wc.cell? ⟨wb.heap.size, 2, none⟩ = some (.slice rs2 (nlen (p0).den) cs2) := (hb.cell (p := ⟨wb.heap.size, 2, none⟩) hl_P).trans k_P_2
  replace f_P : ∀ o, wc.frozen? ⟨wb.heap.size, o, none⟩ = false := fun o => (hb.frozen (p := ⟨wb.heap.size, o, none⟩) hl_P).trans (f_P o)
  replace HX_P := Lib.hid (HX_P.out.below hb)
  replace k_Q_0 : wc.cell? ⟨wb.heap.size + 1, 0, none⟩ = some (.bool (decide ((p0).num < 0))) := (hb.cell (p := ⟨wb.heap.size + 1, 0, none⟩) hl_Q).trans k_Q_0
  replace k_Q_1 : wc.cell? ⟨wb.heap.size + 1, 1, none⟩ = some (.slice rz (nlen (p0).num.natAbs) cz) := (hb.cell (p := ⟨wb.heap.size + 1, 1, none⟩) hl_Q).trans k_Q_1
  replace k_Q_2 : wc.cell? ⟨wb.heap.size + 1, 2, none⟩ = some (.slice rz2 (nlen (p0).den) cz2) := (hb.cell (p := ⟨wb.heap.size + 1, 2, none⟩) hl_Q).trans k_Q_2
  replace f_Q : ∀ o, wc.frozen? ⟨wb.heap.size + 1, o, none⟩ = false := fun o => (hb.frozen (p := ⟨wb.heap.size + 1, o, none⟩) hl_Q).trans (f_Q o)
  replace HX_Q := Lib.hid (HX_Q.out.below hb)
  replace HI1 := Lib.hid (HI1.out.below hb)
  replace HI2 := Lib.hid (HI2.out.below hb)
  replace HJ1 := Lib.hid (HJ1.out.below hb)
  replace HJ2 := Lib.hid (HJ2.out.below hb)
  replace HB := Lib.hid (HB.out.trans (hb.mono hs0))
  replace hN : N ≤ wc.heap.size := Nat.le_trans hN hb.size
  replace hs0 : w.heap.size ≤ wc.heap.size := Nat.le_trans hs0 hb.size
  replace hl_R : w.heap.size < wc.heap.size := Nat.lt_of_lt_of_le hl_R hb.size
  replace hl_R2 : w.heap.size + 1 < wc.heap.size := Nat.lt_of_lt_of_le hl_R2 hb.size
  replace hl_P : wb.heap.size < wc.heap.size := Nat.lt_of_lt_of_le hl_P hb.size
  replace hl_Q : wb.heap.size + 1 < wc.heap.size := Nat.lt_of_lt_of_le hl_Q hb.size
  replace HA := Lib.hid (HA.out.below hb)
  clear hb
  go_wp2_with fail
  go_loopw [10, 22] (fun _ i wr => ∃ (k : Nat) (ps pz : Rat), k ≤ n ∧ i = .int .i64 k ∧ sQ (onmS t) k = ps ∧ sQ (odnS t) k = pz ∧ NBox N wr wb.heap.size ps ∧ NBox N wr (wb.heap.size + 1) pz ∧ Box3 wr w.heap.size (.bool false) (.slice none 0 0) (.slice none 0 0) ∧ Box3 wr (w.heap.size + 1) (.bool false) (.slice none 0 0) (.slice none 0 0) ∧ Below w.heap.size w wr ∧ wb.heap.size + 2 ≤ wr.heap.size) (fun _ i _ => n - (intOf i).toNat)
  case atStart =>
    refine ⟨0, p0, p0, Nat.zero_le _, rfl, HE0.out.symm, HE0.out.symm, ⟨rs, cs, rs2, cs2, ⟨by first | omega | (simp; done) | (simp; omega), by exact KpA, fun o => by first | with_reducible exact f_P o | (simp [go_sem, f_P]; done) | (simp [go_sem, f_P, hl_P]; done) | (go_simp; done) | (simp; done) | (simp [go_sem]; done) | (simp [go_sem, k_R_0, k_R_1, k_R_2, k_R2_0, k_R2_1, k_R2_2, k_P_0, k_P_1, k_P_2, k_Q_0, k_Q_1, k_Q_2, f_R, f_R2, f_P, f_Q, hl_R, hl_R2, hl_P, hl_Q]; done), by first | with_reducible assumption | (simp [go_sem, k_P_0]; done) | (simp [go_sem, k_P_0, hl_P]; done) | (go_simp; done) | (simp; done) | (simp [go_sem]; done) | (simp [go_sem, k_R_0, k_R_1, k_R_2, k_R2_0, k_R2_1, k_R2_2, k_P_0, k_P_1, k_P_2, k_Q_0, k_Q_1, k_Q_2, f_R, f_R2, f_P, f_Q, hl_R, hl_R2, hl_P, hl_Q]; done), by first | with_reducible assumption | (simp [go_sem, k_P_1]; done) | (simp [go_sem, k_P_1, hl_P]; done) | (go_simp; done) | (simp; done) | (simp [go_sem]; done) | (simp [go_sem, k_R_0, k_R_1, k_R_2, k_R2_0, k_R2_1, k_R2_2, k_P_0, k_P_1, k_P_2, k_Q_0, k_Q_1, k_Q_2, f_R, f_R2, f_P, f_Q, hl_R, hl_R2, hl_P, hl_Q]; done), by first | with_reducible assumption | (simp [go_sem, k_P_2]; done) | (simp [go_sem, k_P_2, hl_P]; done) | (go_simp; done) | (simp; done) | (simp [go_sem]; done) | (simp [go_sem, k_R_0, k_R_1, k_R_2, k_R2_0, k_R2_1, k_R2_2, k_P_0, k_P_1, k_P_2, k_Q_0, k_Q_1, k_Q_2, f_R, f_R2, f_P, f_Q, hl_R, hl_R2, hl_P, hl_Q]; done)⟩, HI1.out, HI2.out⟩, ⟨rz, cz, rz2, cz2, ⟨by first | omega | (simp; done) | (simp; omega), by exact KpA, fun o => by first | with_reducible exact f_Q o | (simp [go_sem, f_Q]; done) | (simp [go_sem, f_Q, hl_Q]; done) | (go_simp; done) | (simp; done) | (simp [go_sem]; done) | (simp [go_sem, k_R_0, k_R_1, k_R_2, k_R2_0, k_R2_1, k_R2_2, k_P_0, k_P_1, k_P_2, k_Q_0, k_Q_1, k_Q_2, f_R, f_R2, f_P, f_Q, hl_R, hl_R2, hl_P, hl_Q]; done), by first | with_reducible assumption | (simp [go_sem, k_Q_0]; done) | (simp [go_sem, k_Q_0, hl_Q]; done) | (go_simp; done) | (simp; done) | (simp [go_sem]; done) | (simp [go_sem, k_R_0, k_R_1, k_R_2, k_R2_0, k_R2_1, k_R2_2, k_P_0, k_P_1, k_P_2, k_Q_0, k_Q_1, k_Q_2, f_R, f_R2, f_P, f_Q, hl_R, hl_R2, hl_P, hl_Q]; done), by first | with_reducible assumption | (simp [go_sem, k_Q_1]; done) | (simp [go_sem, k_Q_1, hl_Q]; done) | (go_simp; done) | (simp; done) | (simp [go_sem]; done) | (simp [go_sem, k_R_0, k_R_1, k_R_2, k_R2_0, k_R2_1, k_R2_2, k_P_0, k_P_1, k_P_2, k_Q_0, k_Q_1, k_Q_2, f_R, f_R2, f_P, f_Q, hl_R, hl_R2, hl_P, hl_Q]; done), by first | with_reducible assumption | (simp [go_sem, k_Q_2]; done) | (simp [go_sem, k_Q_2, hl_Q]; done) | (go_simp; done) | (simp; done) | (simp [go_sem]; done) | (simp [go_sem, k_R_0, k_R_1, k_R_2, k_R2_0, k_R2_1, k_R2_2, k_P_0, k_P_1, k_P_2, k_Q_0, k_Q_1, k_Q_2, f_R, f_R2, f_P, f_Q, hl_R, hl_R2, hl_P, hl_Q]; done)⟩, HJ1.out, HJ2.out⟩, ⟨by first | omega | (simp; done) | (simp; omega), by exact KpA, fun o => by first | with_reducible exact f_R o | (simp [go_sem, f_R]; done) | (simp [go_sem, f_R, hl_R]; done) | (go_simp; done) | (simp; done) | (simp [go_sem]; done) | (simp [go_sem, k_R_0, k_R_1, k_R_2, k_R2_0, k_R2_1, k_R2_2, k_P_0, k_P_1, k_P_2, k_Q_0, k_Q_1, k_Q_2, f_R, f_R2, f_P, f_Q, hl_R, hl_R2, hl_P, hl_Q]; done), by first | with_reducible assumption | (simp [go_sem, k_R_0]; done) | (simp [go_sem, k_R_0, hl_R]; done) | (go_simp; done) | (simp; done) | (simp [go_sem]; done) | (simp [go_sem, k_R_0, k_R_1, k_R_2, k_R2_0, k_R2_1, k_R2_2, k_P_0, k_P_1, k_P_2, k_Q_0, k_Q_1, k_Q_2, f_R, f_R2, f_P, f_Q, hl_R, hl_R2, hl_P, hl_Q]; done), by first | with_reducible assumption | (simp [go_sem, k_R_1]; done) | (simp [go_sem, k_R_1, hl_R]; done) | (go_simp; done) | (simp; done) | (simp [go_sem]; done) | (simp [go_sem, k_R_0, k_R_1, k_R_2, k_R2_0, k_R2_1, k_R2_2, k_P_0, k_P_1, k_P_2, k_Q_0, k_Q_1, k_Q_2, f_R, f_R2, f_P, f_Q, hl_R, hl_R2, hl_P, hl_Q]; done), by first | with_reducible assumption | (simp [go_sem, k_R_2]; done) | (simp [go_sem, k_R_2, hl_R]; done) | (go_simp; done) | (simp; done) | (simp [go_sem]; done) | (simp [go_sem, k_R_0, k_R_1, k_R_2, k_R2_0, k_R2_1, k_R2_2, k_P_0, k_P_1, k_P_2, k_Q_0, k_Q_1, k_Q_2, f_R, f_R2, f_P, f_Q, hl_R, hl_R2, hl_P, hl_Q]; done)⟩, ⟨by first | omega | (simp; done) | (simp; omega), by exact KpA, fun o => by first | with_reducible exact f_R2 o | (simp [go_sem, f_R2]; done) | (simp [go_sem, f_R2, hl_R2]; done) | (go_simp; done) | (simp; done) | (simp [go_sem]; done) | (simp [go_sem, k_R_0, k_R_1, k_R_2, k_R2_0, k_R2_1, k_R2_2, k_P_0, k_P_1, k_P_2, k_Q_0, k_Q_1, k_Q_2, f_R, f_R2, f_P, f_Q, hl_R, hl_R2, hl_P, hl_Q]; done), by first | with_reducible assumption | (simp [go_sem, k_R2_0]; done) | (simp [go_sem, k_R2_0, hl_R2]; done) | (go_simp; done) | (simp; done) | (simp [go_sem]; done) | (simp [go_sem, k_R_0, k_R_1, k_R_2, k_R2_0, k_R2_1, k_R2_2, k_P_0, k_P_1, k_P_2, k_Q_0, k_Q_1, k_Q_2, f_R, f_R2, f_P, f_Q, hl_R, hl_R2, hl_P, hl_Q]; done), by first | with_reducible assumption | (simp [go_sem, k_R2_1]; done) | (simp [go_sem, k_R2_1, hl_R2]; done) | (go_simp; done) | (simp; done) | (simp [go_sem]; done) | (simp [go_sem, k_R_0, k_R_1, k_R_2, k_R2_0, k_R2_1, k_R2_2, k_P_0, k_P_1, k_P_2, k_Q_0, k_Q_1, k_Q_2, f_R, f_R2, f_P, f_Q, hl_R, hl_R2, hl_P, hl_Q]; done), by first | with_reducible assumption | (simp [go_sem, k_R2_2]; done) | (simp [go_sem, k_R2_2, hl_R2]; done) | (go_simp; done) | (simp; done) | (simp [go_sem]; done) | (simp [go_sem, k_R_0, k_R_1, k_R_2, k_R2_0, k_R2_1, k_R2_2, k_P_0, k_P_1, k_P_2, k_Q_0, k_Q_1, k_Q_2, f_R, f_R2, f_P, f_Q, hl_R, hl_R2, hl_P, hl_Q]; done)⟩, HB.out, ?_⟩
    omega
  case round =>
    clear hl_P f_P HX_P k_P_0 k_P_1 k_P_2 hl_Q f_Q HX_Q k_Q_0 k_Q_1 k_Q_2 hl_R f_R HX_R k_R_0 k_R_1 k_R_2 hl_R2 f_R2 HX_R2 k_R2_0 k_R2_1 k_R2_2 HI1 HI2 HJ1 HJ2 HB
    obtain ⟨k, ps, pz, hk, rfl, hps, hpz, ⟨rs, cs, rs2, cs2, hbp, hn1, hn2⟩, ⟨rz, cz, rz2, cz2, hbq, hm1, hm2⟩, hbr, hbr2, hbel, hsz⟩ := hrel
    have HAr := Lib.hid (HA0.out.below hbel)
    have HB := Lib.hid hbel
    have hs0 : w.heap.size ≤ wr.heap.size := hbel.size
    have hN2 : N ≤ wr.heap.size := by omega
    clear hbel hN
    have hN := hN2
    clear hN2
    obtain ⟨hl_P, bn_P, f_P, k_P_0, k_P_1, k_P_2⟩ := hbp
    have HX_P := Lib.hid bn_P
    clear bn_P
    obtain ⟨hl_Q, bn_Q, f_Q, k_Q_0, k_Q_1, k_Q_2⟩ := hbq
    have HX_Q := Lib.hid bn_Q
    clear bn_Q
    obtain ⟨hl_R, bn_R, f_R, k_R_0, k_R_1, k_R_2⟩ := hbr
    have HX_R := Lib.hid bn_R
    clear bn_R
    obtain ⟨hl_R2, bn_R2, f_R2, k_R2_0, k_R2_1, k_R2_2⟩ := hbr2
    have HX_R2 := Lib.hid bn_R2
    clear bn_R2
    have HPS := Lib.hid hps
    have HPZ := Lib.hid hpz
    have Hs1 := Lib.hid hn1
    have Hs2 := Lib.hid hn2
    have Hz1 := Lib.hid hm1
    have Hz2 := Lib.hid hm2
    clear hps hpz hn1 hn2 hm1 hm2
    have HZs := Lib.hid (show rsz ps ≤ 100 by rw [← HPS.out]; have := sQ_rsz (f := onmS t) (n := k) (fun i hi => onm_rsz HCN.out (by omega)); omega)
    have HZz := Lib.hid (show rsz pz ≤ 100 by rw [← HPZ.out]; have := sQ_rsz (f := odnS t) (n := k) (fun i hi => odn_rsz HCN.out (by omega)); omega)
    by_cases hkn : k < n
    · obtain ⟨b, off, rfl, hcc⟩ := (HAr.out).2.2 (by omega)
      obtain ⟨g0, g1, g2, g3⟩ := hcc k hkn
      clear hcc
      have hx0 := HCN.out k hkn 0 (by omega)
      obtain ⟨x0, ex0⟩ : ∃ x, t k 0 = x := ⟨_, rfl⟩
      rw [ex0] at hx0 g0
      have EX0 := Lib.hid ex0
      clear ex0
      have hx1 := HCN.out k hkn 1 (by omega)
      obtain ⟨x1, ex1⟩ : ∃ x, t k 1 = x := ⟨_, rfl⟩
      rw [ex1] at hx1 g1
      have EX1 := Lib.hid ex1
      clear ex1
      have hx2 := HCN.out k hkn 2 (by omega)
      obtain ⟨x2, ex2⟩ : ∃ x, t k 2 = x := ⟨_, rfl⟩
      rw [ex2] at hx2 g2
      have EX2 := Lib.hid ex2
      clear ex2
      have hx3 := HCN.out k hkn 3 (by omega)
      obtain ⟨x3, ex3⟩ : ∃ x, t k 3 = x := ⟨_, rfl⟩
      rw [ex3] at hx3 g3
      have EX3 := Lib.hid ex3
      clear ex3
      have hix0 : (0 : Int) ≤ (k : Int) := by omega
      have hix1 : (k : Int) < (n : Int) := by omega
      clear HAr
      obtain ⟨m, hm⟩ : ∃ m, x0 + x1 + x2 + x3 = m := ⟨_, rfl⟩
      have HM := Lib.hid hm
      have hm120 : m ≤ 120 := by omega
      have HNT := Lib.hid (show ntS t k = m by unfold ntS; rw [EX0.out, EX1.out, EX2.out, EX3.out]; exact hm)
      have hpm : m = 0 → x0 = 0 ∧ x1 = 0 ∧ x2 = 0 ∧ x3 = 0 := fun h => by omega
      have HPM := Lib.hid hpm
      clear hm hpm
      go_wp2_with fail
      refine calls_name fun W3 hW => ?_
      have HL_W3 := Lib.hid (show Below wr.heap.size wr W3 by rw [← hW]; exact BlA)
      have hs_W3 : wr.heap.size ≤ W3.heap.size := by rw [← hW]; (first | omega | (simp; done) | (simp; omega))
      have hd_P_T : wb.heap.size < wr.heap.size := by omega
      have hd_Q_T : wb.heap.size + 1 < wr.heap.size := by omega
      have hd_R_T : w.heap.size < wr.heap.size := by omega
      have hd_R2_T : w.heap.size + 1 < wr.heap.size := by omega
      have HK_W3 := Lib.hid (show Kp N wr W3 by rw [← hW]; exact KpA)
      replace k_P_0 : W3.cell? ⟨wb.heap.size, 0, none⟩ = some (.bool (decide ((ps).num < 0))) := (HL_W3.out.cell (p := ⟨wb.heap.size, 0, none⟩) hl_P).trans k_P_0
      replace k_P_1 : W3.cell? ⟨wb.heap.size, 1, none⟩ = some (.slice rs (nlen (ps).num.natAbs) cs) := (HL_W3.out.cell (p := ⟨wb.heap.size, 1, none⟩) hl_P).trans k_P_1
      replace k_P_2 : W3.cell? ⟨wb.heap.size, 2, none⟩ = some (.slice rs2 (nlen (ps).den) cs2) := (HL_W3.out.cell (p := ⟨wb.heap.size, 2, none⟩) hl_P).trans k_P_2
      replace f_P : ∀ o, W3.frozen? ⟨wb.heap.size, o, none⟩ = false := fun o => (HL_W3.out.frozen (p := ⟨wb.heap.size, o, none⟩) hl_P).trans (f_P o)
      replace HX_P := Lib.hid (show Bn W3 (wb.heap.size) by rw [← hW]; exact KpA)
      replace k_Q_0 : W3.cell? ⟨wb.heap.size + 1, 0, none⟩ = some (.bool (decide ((pz).num < 0))) := (HL_W3.out.cell (p := ⟨wb.heap.size + 1, 0, none⟩) hl_Q).trans k_Q_0
      replace k_Q_1 : W3.cell? ⟨wb.heap.size + 1, 1, none⟩ = some (.slice rz (nlen (pz).num.natAbs) cz) := (HL_W3.out.cell (p := ⟨wb.heap.size + 1, 1, none⟩) hl_Q).trans k_Q_1
      replace k_Q_2 : W3.cell? ⟨wb.heap.size + 1, 2, none⟩ = some (.slice rz2 (nlen (pz).den) cz2) := (HL_W3.out.cell (p := ⟨wb.heap.size + 1, 2, none⟩) hl_Q).trans k_Q_2
      replace f_Q : ∀ o, W3.frozen? ⟨wb.heap.size + 1, o, none⟩ = false := fun o => (HL_W3.out.frozen (p := ⟨wb.heap.size + 1, o, none⟩) hl_Q).trans (f_Q o)
      replace HX_Q := Lib.hid (show Bn W3 (wb.heap.size + 1) by rw [← hW]; exact KpA)
      replace k_R_0 : W3.cell? ⟨w.heap.size, 0, none⟩ = some (.bool false) := (HL_W3.out.cell (p := ⟨w.heap.size, 0, none⟩) hl_R).trans k_R_0
      replace k_R_1 : W3.cell? ⟨w.heap.size, 1, none⟩ = some (.slice none 0 0) := (HL_W3.out.cell (p := ⟨w.heap.size, 1, none⟩) hl_R).trans k_R_1
      replace k_R_2 : W3.cell? ⟨w.heap.size, 2, none⟩ = some (.slice none 0 0) := (HL_W3.out.cell (p := ⟨w.heap.size, 2, none⟩) hl_R).trans k_R_2
      replace f_R : ∀ o, W3.frozen? ⟨w.heap.size, o, none⟩ = false := fun o => (HL_W3.out.frozen (p := ⟨w.heap.size, o, none⟩) hl_R).trans (f_R o)
      replace HX_R := Lib.hid (show Bn W3 (w.heap.size) by rw [← hW]; exact KpA)
      replace k_R2_0 : W3.cell? ⟨w.heap.size + 1, 0, none⟩ = some (.bool false) := (HL_W3.out.cell (p := ⟨w.heap.size + 1, 0, none⟩) hl_R2).trans k_R2_0
      replace k_R2_1 : W3.cell? ⟨w.heap.size + 1, 1, none⟩ = some (.slice none 0 0) := (HL_W3.out.cell (p := ⟨w.heap.size + 1, 1, none⟩) hl_R2).trans k_R2_1
      replace k_R2_2 : W3.cell? ⟨w.heap.size + 1, 2, none⟩ = some (.slice none 0 0) := (HL_W3.out.cell (p := ⟨w.heap.size + 1, 2, none⟩) hl_R2).trans k_R2_2
      replace f_R2 : ∀ o, W3.frozen? ⟨w.heap.size + 1, o, none⟩ = false := fun o => (HL_W3.out.frozen (p := ⟨w.heap.size + 1, o, none⟩) hl_R2).trans (f_R2 o)
      replace HX_R2 := Lib.hid (show Bn W3 (w.heap.size + 1) by rw [← hW]; exact KpA)
      have k_T_0 : W3.cell? ⟨wr.heap.size, 0, none⟩ = some (.int .i64 ((x0 : Nat) : Int)) := by rw [← hW]; (first | (go_simp; done) | (simp; done) | (simp [go_sem]; done) | (simp [go_sem, k_P_0, k_P_1, k_P_2, k_Q_0, k_Q_1, k_Q_2, k_R_0, k_R_1, k_R_2, k_R2_0, k_R2_1, k_R2_2, f_P, f_Q, f_R, f_R2, hl_P, hl_Q, hl_R, hl_R2]; done))
      have k_T_1 : W3.cell? ⟨wr.heap.size, 1, none⟩ = some (.int .i64 ((x1 : Nat) : Int)) := by rw [← hW]; (first | (go_simp; done) | (simp; done) | (simp [go_sem]; done) | (simp [go_sem, k_P_0, k_P_1, k_P_2, k_Q_0, k_Q_1, k_Q_2, k_R_0, k_R_1, k_R_2, k_R2_0, k_R2_1, k_R2_2, f_P, f_Q, f_R, f_R2, hl_P, hl_Q, hl_R, hl_R2]; done))
      have k_T_2 : W3.cell? ⟨wr.heap.size, 2, none⟩ = some (.int .i64 ((x2 : Nat) : Int)) := by rw [← hW]; (first | (go_simp; done) | (simp; done) | (simp [go_sem]; done) | (simp [go_sem, k_P_0, k_P_1, k_P_2, k_Q_0, k_Q_1, k_Q_2, k_R_0, k_R_1, k_R_2, k_R2_0, k_R2_1, k_R2_2, f_P, f_Q, f_R, f_R2, hl_P, hl_Q, hl_R, hl_R2]; done))
      have k_T_3 : W3.cell? ⟨wr.heap.size, 3, none⟩ = some (.int .i64 ((x3 : Nat) : Int)) := by rw [← hW]; (first | (go_simp; done) | (simp; done) | (simp [go_sem]; done) | (simp [go_sem, k_P_0, k_P_1, k_P_2, k_Q_0, k_Q_1, k_Q_2, k_R_0, k_R_1, k_R_2, k_R2_0, k_R2_1, k_R2_2, f_P, f_Q, f_R, f_R2, hl_P, hl_Q, hl_R, hl_R2]; done))
      have f_T : ∀ o, W3.frozen? ⟨wr.heap.size, o, none⟩ = false := by intro o; rw [← hW]; (first | (go_simp; done) | (simp; done) | (simp [go_sem]; done) | (simp [go_sem, k_P_0, k_P_1, k_P_2, k_Q_0, k_Q_1, k_Q_2, k_R_0, k_R_1, k_R_2, k_R2_0, k_R2_1, k_R2_2, f_P, f_Q, f_R, f_R2, hl_P, hl_Q, hl_R, hl_R2]; done))
      have HX_T := Lib.hid (show Bn W3 (wr.heap.size) by rw [← hW]; exact KpA)
      replace Hs1 := Lib.hid (Hs1.out.keep HK_W3.out)
      replace Hs2 := Lib.hid (Hs2.out.keep HK_W3.out)
      replace Hz1 := Lib.hid (Hz1.out.keep HK_W3.out)
      replace Hz2 := Lib.hid (Hz2.out.keep HK_W3.out)
      replace HB := Lib.hid (show Below w.heap.size w W3 by rw [← hW]; exact BlA)
      replace hN : N ≤ W3.heap.size := by rw [← hW]; (first | omega | (simp; done) | (simp; omega))
      replace hs0 : w.heap.size ≤ W3.heap.size := by rw [← hW]; (first | omega | (simp; done) | (simp; omega))
      replace hl_P : wb.heap.size < W3.heap.size := by rw [← hW]; (first | omega | (simp; done) | (simp; omega))
      replace hl_Q : wb.heap.size + 1 < W3.heap.size := by rw [← hW]; (first | omega | (simp; done) | (simp; omega))
      replace hl_R : w.heap.size < W3.heap.size := by rw [← hW]; (first | omega | (simp; done) | (simp; omega))
      replace hl_R2 : w.heap.size + 1 < W3.heap.size := by rw [← hW]; (first | omega | (simp; done) | (simp; omega))
      have hl_T : wr.heap.size < W3.heap.size := by rw [← hW]; (first | omega | (simp; done) | (simp; omega))
      clear HL_W3
      clear hW HK_W3
      refine (fpersons_any x0 x1 x2 x3 m _ hx0 hx1 hx2 hx3 HM.out).mono ?_
      rintro e wd ⟨rfl, hb⟩
      have hs_wd : W3.heap.size ≤ wd.heap.size := hb.size
      replace k_P_0 : wd.cell? ⟨wb.heap.size, 0, none⟩ = some (.bool (decide ((ps).num < 0))) := (hb.cell (p := ⟨wb.heap.size, 0, none⟩) hl_P).trans k_P_0
      replace k_P_1 : wd.cell? ⟨wb.heap.size, 1, none⟩ = some (.slice rs (nlen (ps).num.natAbs) cs) := (hb.cell (p := ⟨wb.heap.size, 1, none⟩) hl_P).trans k_P_1
      replace k_P_2 : wd.cell? ⟨wb.heap.size, 2, none⟩ = some (.slice rs2 (nlen (ps).den) cs2) := (hb.cell (p := ⟨wb.heap.size, 2, none⟩) hl_P).trans k_P_2
      replace f_P : ∀ o, wd.frozen? ⟨wb.heap.size, o, none⟩ = false := fun o => (hb.frozen (p := ⟨wb.heap.size, o, none⟩) hl_P).trans (f_P o)
      replace HX_P := Lib.hid (HX_P.out.below hb)
      replace k_Q_0 : wd.cell? ⟨wb.heap.size + 1, 0, none⟩ = some (.bool (decide ((pz).num < 0))) := (hb.cell (p := ⟨wb.heap.size + 1, 0, none⟩) hl_Q).trans k_Q_0
      replace k_Q_1 : wd.cell? ⟨wb.heap.size + 1, 1, none⟩ = some (.slice rz (nlen (pz).num.natAbs) cz) := (hb.cell (p := ⟨wb.heap.size + 1, 1, none⟩) hl_Q).trans k_Q_1
      replace k_Q_2 : wd.cell? ⟨wb.heap.size + 1, 2, none⟩ = some (.slice rz2 (nlen (pz).den) cz2) := (hb.cell (p := ⟨wb.heap.size + 1, 2, none⟩) hl_Q).trans k_Q_2
      replace f_Q : ∀ o, wd.frozen? ⟨wb.heap.size + 1, o, none⟩ = false := fun o => (hb.frozen (p := ⟨wb.heap.size + 1, o, none⟩) hl_Q).trans (f_Q o)
      replace HX_Q := Lib.hid (HX_Q.out.below hb)
      replace k_R_0 : wd.cell? ⟨w.heap.size, 0, none⟩ = some (.bool false) := (hb.cell (p := ⟨w.heap.size, 0, none⟩) hl_R).trans k_R_0
      replace k_R_1 : wd.cell? ⟨w.heap.size, 1, none⟩ = some (.slice none 0 0) := (hb.cell (p := ⟨w.heap.size, 1, none⟩) hl_R).trans k_R_1
      replace k_R_2 : wd.cell? ⟨w.heap.size, 2, none⟩ = some (.slice none 0 0) := (hb.cell (p := ⟨w.heap.size, 2, none⟩) hl_R).trans k_R_2
      replace f_R : ∀ o, wd.frozen? ⟨w.heap.size, o, none⟩ = false := fun o => (hb.frozen (p := ⟨w.heap.size, o, none⟩) hl_R).trans (f_R o)
      replace HX_R := Lib.hid (HX_R.out.below hb)
      replace k_R2_0 : wd.cell? ⟨w.heap.size + 1, 0, none⟩ = some (.bool false) := (hb.cell (p := ⟨w.heap.size + 1, 0, none⟩) hl_R2).trans k_R2_0
      replace k_R2_1 : wd.cell? ⟨w.heap.size + 1, 1, none⟩ = some (.slice none 0 0) := (hb.cell (p := ⟨w.heap.size + 1, 1, none⟩) hl_R2).trans k_R2_1
      replace k_R2_2 : wd.cell? ⟨w.heap.size + 1, 2, none⟩ = some (.slice none 0 0) := (hb.cell (p := ⟨w.heap.size + 1, 2, none⟩) hl_R2).trans k_R2_2
      replace f_R2 : ∀ o, wd.frozen? ⟨w.heap.size + 1, o, none⟩ = false := fun o => (hb.frozen (p := ⟨w.heap.size + 1, o, none⟩) hl_R2).trans (f_R2 o)
      replace HX_R2 := Lib.hid (HX_R2.out.below hb)
      replace k_T_0 : wd.cell? ⟨wr.heap.size, 0, none⟩ = some (.int .i64 ((x0 : Nat) : Int)) := (hb.cell (p := ⟨wr.heap.size, 0, none⟩) hl_T).trans k_T_0
      replace k_T_1 : wd.cell? ⟨wr.heap.size, 1, none⟩ = some (.int .i64 ((x1 : Nat) : Int)) := (hb.cell (p := ⟨wr.heap.size, 1, none⟩) hl_T).trans k_T_1
      replace k_T_2 : wd.cell? ⟨wr.heap.size, 2, none⟩ = some (.int .i64 ((x2 : Nat) : Int)) := (hb.cell (p := ⟨wr.heap.size, 2, none⟩) hl_T).trans k_T_2
      replace k_T_3 : wd.cell? ⟨wr.heap.size, 3, none⟩ = some (.int .i64 ((x3 : Nat) : Int)) := (hb.cell (p := ⟨wr.heap.size, 3, none⟩) hl_T).trans k_T_3
      replace f_T : ∀ o, wd.frozen? ⟨wr.heap.size, o, none⟩ = false := fun o => (hb.frozen (p := ⟨wr.heap.size, o, none⟩) hl_T).trans (f_T o)
      replace HX_T := Lib.hid (HX_T.out.below hb)
      replace Hs1 := Lib.hid (Hs1.out.below hb)
      replace Hs2 := Lib.hid (Hs2.out.below hb)
      replace Hz1 := Lib.hid (Hz1.out.below hb)
      replace Hz2 := Lib.hid (Hz2.out.below hb)
      replace HB := Lib.hid (HB.out.trans (hb.mono hs0))
      replace hN : N ≤ wd.heap.size := Nat.le_trans hN hb.size
      replace hs0 : w.heap.size ≤ wd.heap.size := Nat.le_trans hs0 hb.size
      replace hl_P : wb.heap.size < wd.heap.size := Nat.lt_of_lt_of_le hl_P hb.size
      replace hl_Q : wb.heap.size + 1 < wd.heap.size := Nat.lt_of_lt_of_le hl_Q hb.size
      replace hl_R : w.heap.size < wd.heap.size := Nat.lt_of_lt_of_le hl_R hb.size
      replace hl_R2 : w.heap.size + 1 < wd.heap.size := Nat.lt_of_lt_of_le hl_R2 hb.size
      replace hl_T : wr.heap.size < wd.heap.size := Nat.lt_of_lt_of_le hl_T hb.size
      clear hb
      by_cases hm0 : m = 0
      · have hp := HPM.out hm0
        have HSN := Lib.hid (show sQ (onmS t) (k + 1) = ps by simp only [sQ]; rw [HPS.out, show onmS t k = 0 by unfold onmS; rw [HNT.out, EX0.out, hp.1, Nat.zero_mul]; exact frq_zero2 _]; grind)
        have HSM := Lib.hid (show sQ (odnS t) (k + 1) = pz by simp only [sQ]; rw [HPZ.out, show odnS t k = 0 by unfold odnS; rw [HNT.out, EX1.out, hp.2.1, Nat.zero_mul]; exact frq_zero2 _]; grind)
        have hmz : (m : Int) = 0 := by omega
        clear hp
        go_wp2_with fail
        go_roundw
        case rel =>
          refine ⟨k + 1, ps, pz, by omega, by go_num, HSN.out, HSM.out, ⟨rs, cs, rs2, cs2, ⟨by first | omega | (simp; done) | (simp; omega), by exact KpA, fun o => by first | with_reducible exact f_P o | (simp [go_sem, f_P]; done) | (simp [go_sem, f_P, hl_P]; done) | (go_simp; done) | (simp; done) | (simp [go_sem]; done) | (simp [go_sem, k_P_0, k_P_1, k_P_2, k_Q_0, k_Q_1, k_Q_2, k_R_0, k_R_1, k_R_2, k_R2_0, k_R2_1, k_R2_2, k_T_0, k_T_1, k_T_2, k_T_3, f_P, f_Q, f_R, f_R2, f_T, hl_P, hl_Q, hl_R, hl_R2, hl_T]; done), by first | with_reducible assumption | (simp [go_sem, k_P_0]; done) | (simp [go_sem, k_P_0, hl_P]; done) | (go_simp; done) | (simp; done) | (simp [go_sem]; done) | (simp [go_sem, k_P_0, k_P_1, k_P_2, k_Q_0, k_Q_1, k_Q_2, k_R_0, k_R_1, k_R_2, k_R2_0, k_R2_1, k_R2_2, k_T_0, k_T_1, k_T_2, k_T_3, f_P, f_Q, f_R, f_R2, f_T, hl_P, hl_Q, hl_R, hl_R2, hl_T]; done), by first | with_reducible assumption | (simp [go_sem, k_P_1]; done) | (simp [go_sem, k_P_1, hl_P]; done) | (go_simp; done) | (simp; done) | (simp [go_sem]; done) | (simp [go_sem, k_P_0, k_P_1, k_P_2, k_Q_0, k_Q_1, k_Q_2, k_R_0, k_R_1, k_R_2, k_R2_0, k_R2_1, k_R2_2, k_T_0, k_T_1, k_T_2, k_T_3, f_P, f_Q, f_R, f_R2, f_T, hl_P, hl_Q, hl_R, hl_R2, hl_T]; done), by first | with_reducible assumption | (simp [go_sem, k_P_2]; done) | (simp [go_sem, k_P_2, hl_P]; done) | (go_simp; done) | (simp; done) | (simp [go_sem]; done) | (simp [go_sem, k_P_0, k_P_1, k_P_2, k_Q_0, k_Q_1, k_Q_2, k_R_0, k_R_1, k_R_2, k_R2_0, k_R2_1, k_R2_2, k_T_0, k_T_1, k_T_2, k_T_3, f_P, f_Q, f_R, f_R2, f_T, hl_P, hl_Q, hl_R, hl_R2, hl_T]; done)⟩, Hs1.out, Hs2.out⟩, ⟨rz, cz, rz2, cz2, ⟨by first | omega | (simp; done) | (simp; omega), by exact KpA, fun o => by first | with_reducible exact f_Q o | (simp [go_sem, f_Q]; done) | (simp [go_sem, f_Q, hl_Q]; done) | (go_simp; done) | (simp; done) | (simp [go_sem]; done) | (simp [go_sem, k_P_0, k_P_1, k_P_2, k_Q_0, k_Q_1, k_Q_2, k_R_0, k_R_1, k_R_2, k_R2_0, k_R2_1, k_R2_2, k_T_0, k_T_1, k_T_2, k_T_3, f_P, f_Q, f_R, f_R2, f_T, hl_P, hl_Q, hl_R, hl_R2, hl_T]; done), by first | with_reducible assumption | (simp [go_sem, k_Q_0]; done) | (simp [go_sem, k_Q_0, hl_Q]; done) | (go_simp; done) | (simp; done) | (simp [go_sem]; done) | (simp [go_sem, k_P_0, k_P_1, k_P_2, k_Q_0, k_Q_1, k_Q_2, k_R_0, k_R_1, k_R_2, k_R2_0, k_R2_1, k_R2_2, k_T_0, k_T_1, k_T_2, k_T_3, f_P, f_Q, f_R, f_R2, f_T, hl_P, hl_Q, hl_R, hl_R2, hl_T]; done), by first | with_reducible assumption | (simp [go_sem, k_Q_1]; done) | (simp [go_sem, k_Q_1, hl_Q]; done) | (go_simp; done) | (simp; done) | (simp [go_sem]; done) | (simp [go_sem, k_P_0, k_P_1, k_P_2, k_Q_0, k_Q_1, k_Q_2, k_R_0, k_R_1, k_R_2, k_R2_0, k_R2_1, k_R2_2, k_T_0, k_T_1, k_T_2, k_T_3, f_P, f_Q, f_R, f_R2, f_T, hl_P, hl_Q, hl_R, hl_R2, hl_T]; done), by first | with_reducible assumption | (simp [go_sem, k_Q_2]; done) | (simp [go_sem, k_Q_2, hl_Q]; done) | (go_simp; done) | (simp; done) | (simp [go_sem]; done) | (simp [go_sem, k_P_0, k_P_1, k_P_2, k_Q_0, k_Q_1, k_Q_2, k_R_0, k_R_1, k_R_2, k_R2_0, k_R2_1, k_R2_2, k_T_0, k_T_1, k_T_2, k_T_3, f_P, f_Q, f_R, f_R2, f_T, hl_P, hl_Q, hl_R, hl_R2, hl_T]; done)⟩, Hz1.out, Hz2.out⟩, ⟨by first | omega | (simp; done) | (simp; omega), by exact KpA, fun o => by first | with_reducible exact f_R o | (simp [go_sem, f_R]; done) | (simp [go_sem, f_R, hl_R]; done) | (go_simp; done) | (simp; done) | (simp [go_sem]; done) | (simp [go_sem, k_P_0, k_P_1, k_P_2, k_Q_0, k_Q_1, k_Q_2, k_R_0, k_R_1, k_R_2, k_R2_0, k_R2_1, k_R2_2, k_T_0, k_T_1, k_T_2, k_T_3, f_P, f_Q, f_R, f_R2, f_T, hl_P, hl_Q, hl_R, hl_R2, hl_T]; done), by first | with_reducible assumption | (simp [go_sem, k_R_0]; done) | (simp [go_sem, k_R_0, hl_R]; done) | (go_simp; done) | (simp; done) | (simp [go_sem]; done) | (simp [go_sem, k_P_0, k_P_1, k_P_2, k_Q_0, k_Q_1, k_Q_2, k_R_0, k_R_1, k_R_2, k_R2_0, k_R2_1, k_R2_2, k_T_0, k_T_1, k_T_2, k_T_3, f_P, f_Q, f_R, f_R2, f_T, hl_P, hl_Q, hl_R, hl_R2, hl_T]; done), by first | with_reducible assumption | (simp [go_sem, k_R_1]; done) | (simp [go_sem, k_R_1, hl_R]; done) | (go_simp; done) | (simp; done) | (simp [go_sem]; done) | (simp [go_sem, k_P_0, k_P_1, k_P_2, k_Q_0, k_Q_1, k_Q_2, k_R_0, k_R_1, k_R_2, k_R2_0, k_R2_1, k_R2_2, k_T_0, k_T_1, k_T_2, k_T_3, f_P, f_Q, f_R, f_R2, f_T, hl_P, hl_Q, hl_R, hl_R2, hl_T]; done), by first | with_reducible assumption | (simp [go_sem, k_R_2]; done) | (simp [go_sem, k_R_2, hl_R]; done) | (go_simp; done) | (simp; done) | (simp [go_sem]; done) | (simp [go_sem, k_P_0, k_P_1, k_P_2, k_Q_0, k_Q_1, k_Q_2, k_R_0, k_R_1, k_R_2, k_R2_0, k_R2_1, k_R2_2, k_T_0, k_T_1, k_T_2, k_T_3, f_P, f_Q, f_R, f_R2, f_T, hl_P, hl_Q, hl_R, hl_R2, hl_T]; done)⟩, ⟨by first | omega | (simp; done) | (simp; omega), by exact KpA, fun o => by first | with_reducible exact f_R2 o | (simp [go_sem, f_R2]; done) | (simp [go_sem, f_R2, hl_R2]; done) | (go_simp; done) | (simp; done) | (simp [go_sem]; done) | (simp [go_sem, k_P_0, k_P_1, k_P_2, k_Q_0, k_Q_1, k_Q_2, k_R_0, k_R_1, k_R_2, k_R2_0, k_R2_1, k_R2_2, k_T_0, k_T_1, k_T_2, k_T_3, f_P, f_Q, f_R, f_R2, f_T, hl_P, hl_Q, hl_R, hl_R2, hl_T]; done), by first | with_reducible assumption | (simp [go_sem, k_R2_0]; done) | (simp [go_sem, k_R2_0, hl_R2]; done) | (go_simp; done) | (simp; done) | (simp [go_sem]; done) | (simp [go_sem, k_P_0, k_P_1, k_P_2, k_Q_0, k_Q_1, k_Q_2, k_R_0, k_R_1, k_R_2, k_R2_0, k_R2_1, k_R2_2, k_T_0, k_T_1, k_T_2, k_T_3, f_P, f_Q, f_R, f_R2, f_T, hl_P, hl_Q, hl_R, hl_R2, hl_T]; done), by first | with_reducible assumption | (simp [go_sem, k_R2_1]; done) | (simp [go_sem, k_R2_1, hl_R2]; done) | (go_simp; done) | (simp; done) | (simp [go_sem]; done) | (simp [go_sem, k_P_0, k_P_1, k_P_2, k_Q_0, k_Q_1, k_Q_2, k_R_0, k_R_1, k_R_2, k_R2_0, k_R2_1, k_R2_2, k_T_0, k_T_1, k_T_2, k_T_3, f_P, f_Q, f_R, f_R2, f_T, hl_P, hl_Q, hl_R, hl_R2, hl_T]; done), by first | with_reducible assumption | (simp [go_sem, k_R2_2]; done) | (simp [go_sem, k_R2_2, hl_R2]; done) | (go_simp; done) | (simp; done) | (simp [go_sem]; done) | (simp [go_sem, k_P_0, k_P_1, k_P_2, k_Q_0, k_Q_1, k_Q_2, k_R_0, k_R_1, k_R_2, k_R2_0, k_R2_1, k_R2_2, k_T_0, k_T_1, k_T_2, k_T_3, f_P, f_Q, f_R, f_R2, f_T, hl_P, hl_Q, hl_R, hl_R2, hl_T]; done)⟩, HB.out, by omega⟩
        case measure => simp [intOf]; omega
      · have hmz : ¬ (m : Int) = 0 := by omega
        have hmb : ((m : Int) == 0) = false := by simp; omega
        obtain ⟨y, hy⟩ : ∃ y, x0 * x3 = y := ⟨_, rfl⟩
        obtain ⟨yz, hyz⟩ : ∃ y, x1 * x2 = y := ⟨_, rfl⟩
        have hy9 : y ≤ 900 := by rw [← hy]; exact Nat.mul_le_mul hx0 hx3
        have hyz9 : yz ≤ 900 := by rw [← hyz]; exact Nat.mul_le_mul hx1 hx2
        have ey : (x0 : Int) * (x3 : Int) = (y : Int) := by rw [← hy]; exact (Int.natCast_mul x0 x3).symm
        have eyz : (x1 : Int) * (x2 : Int) = (yz : Int) := by rw [← hyz]; exact (Int.natCast_mul x1 x2).symm
        have HY := Lib.hid hy
        have HYZ := Lib.hid hyz
        clear hy hyz
        obtain ⟨pk, hpk⟩ : ∃ p : Rat, ((y : Int) : Rat) / ((m : Int) : Rat) = p := ⟨_, rfl⟩
        obtain ⟨pl, hpl⟩ : ∃ p : Rat, ((yz : Int) : Rat) / ((m : Int) : Rat) = p := ⟨_, rfl⟩
        have HPK := Lib.hid hpk
        have HPL := Lib.hid hpl
        have HOK := Lib.hid (show onmS t k = pk by unfold onmS; rw [HNT.out, EX0.out, EX3.out, HY.out, ← hpk]; exact frq_int y m)
        have HOL := Lib.hid (show odnS t k = pl by unfold odnS; rw [HNT.out, EX1.out, EX2.out, HYZ.out, ← hpl]; exact frq_int yz m)
        have HZK := Lib.hid (show rsz pk ≤ 2 by rw [← HOK.out]; exact onm_rsz HCN.out hkn)
        have HZL := Lib.hid (show rsz pl ≤ 2 by rw [← HOL.out]; exact odn_rsz HCN.out hkn)
        obtain ⟨pn, hpn⟩ : ∃ p, ps + pk = p := ⟨_, rfl⟩
        obtain ⟨po, hpo⟩ : ∃ p, pz + pl = p := ⟨_, rfl⟩
        have HPN := Lib.hid hpn
        have HPO := Lib.hid hpo
        have HSN := Lib.hid (show sQ (onmS t) (k + 1) = pn by simp only [sQ]; rw [HPS.out, HOK.out]; exact hpn)
        have HSM := Lib.hid (show sQ (odnS t) (k + 1) = po by simp only [sQ]; rw [HPZ.out, HOL.out]; exact hpo)
        clear hpk hpl hpn hpo
        go_wp2_with fail
        refine region_name fun W4 hW => ?_
        have HL_W4 := Lib.hid (show Below wd.heap.size wd W4 by rw [← hW]; exact BlA)
        have hs_W4 : wd.heap.size ≤ W4.heap.size := by rw [← hW]; (first | omega | (simp; done) | (simp; omega))
        have HK_W4 := Lib.hid (show Kp N wd W4 by rw [← hW]; exact KpA)
        replace k_P_0 : W4.cell? ⟨wb.heap.size, 0, none⟩ = some (.bool (decide ((ps).num < 0))) := (HL_W4.out.cell (p := ⟨wb.heap.size, 0, none⟩) hl_P).trans k_P_0
        replace k_P_1 : W4.cell? ⟨wb.heap.size, 1, none⟩ = some (.slice rs (nlen (ps).num.natAbs) cs) := (HL_W4.out.cell (p := ⟨wb.heap.size, 1, none⟩) hl_P).trans k_P_1
        replace k_P_2 : W4.cell? ⟨wb.heap.size, 2, none⟩ = some (.slice rs2 (nlen (ps).den) cs2) := (HL_W4.out.cell (p := ⟨wb.heap.size, 2, none⟩) hl_P).trans k_P_2
        replace f_P : ∀ o, W4.frozen? ⟨wb.heap.size, o, none⟩ = false := fun o => (HL_W4.out.frozen (p := ⟨wb.heap.size, o, none⟩) hl_P).trans (f_P o)
        replace HX_P := Lib.hid (show Bn W4 (wb.heap.size) by rw [← hW]; exact KpA)
        replace k_Q_0 : W4.cell? ⟨wb.heap.size + 1, 0, none⟩ = some (.bool (decide ((pz).num < 0))) := (HL_W4.out.cell (p := ⟨wb.heap.size + 1, 0, none⟩) hl_Q).trans k_Q_0
        replace k_Q_1 : W4.cell? ⟨wb.heap.size + 1, 1, none⟩ = some (.slice rz (nlen (pz).num.natAbs) cz) := (HL_W4.out.cell (p := ⟨wb.heap.size + 1, 1, none⟩) hl_Q).trans k_Q_1
        replace k_Q_2 : W4.cell? ⟨wb.heap.size + 1, 2, none⟩ = some (.slice rz2 (nlen (pz).den) cz2) := (HL_W4.out.cell (p := ⟨wb.heap.size + 1, 2, none⟩) hl_Q).trans k_Q_2
        replace f_Q : ∀ o, W4.frozen? ⟨wb.heap.size + 1, o, none⟩ = false := fun o => (HL_W4.out.frozen (p := ⟨wb.heap.size + 1, o, none⟩) hl_Q).trans (f_Q o)
        replace HX_Q := Lib.hid (show Bn W4 (wb.heap.size + 1) by rw [← hW]; exact KpA)
        replace k_R_0 : W4.cell? ⟨w.heap.size, 0, none⟩ = some (.bool false) := (HL_W4.out.cell (p := ⟨w.heap.size, 0, none⟩) hl_R).trans k_R_0
        replace k_R_1 : W4.cell? ⟨w.heap.size, 1, none⟩ = some (.slice none 0 0) := (HL_W4.out.cell (p := ⟨w.heap.size, 1, none⟩) hl_R).trans k_R_1
        replace k_R_2 : W4.cell? ⟨w.heap.size, 2, none⟩ = some (.slice none 0 0) := (HL_W4.out.cell (p := ⟨w.heap.size, 2, none⟩) hl_R).trans k_R_2
        replace f_R : ∀ o, W4.frozen? ⟨w.heap.size, o, none⟩ = false := fun o => (HL_W4.out.frozen (p := ⟨w.heap.size, o, none⟩) hl_R).trans (f_R o)
        replace HX_R := Lib.hid (show Bn W4 (w.heap.size) by rw [← hW]; exact KpA)
        replace k_R2_0 : W4.cell? ⟨w.heap.size + 1, 0, none⟩ = some (.bool false) := (HL_W4.out.cell (p := ⟨w.heap.size + 1, 0, none⟩) hl_R2).trans k_R2_0
        replace k_R2_1 : W4.cell? ⟨w.heap.size + 1, 1, none⟩ = some (.slice none 0 0) := (HL_W4.out.cell (p := ⟨w.heap.size + 1, 1, none⟩) hl_R2).trans k_R2_1
        replace k_R2_2 : W4.cell? ⟨w.heap.size + 1, 2, none⟩ = some (.slice none 0 0) := (HL_W4.out.cell (p := ⟨w.heap.size + 1, 2, none⟩) hl_R2).trans k_R2_2
        replace f_R2 : ∀ o, W4.frozen? ⟨w.heap.size + 1, o, none⟩ = false := fun o => (HL_W4.out.frozen (p := ⟨w.heap.size + 1, o, none⟩) hl_R2).trans (f_R2 o)
        replace HX_R2 := Lib.hid (show Bn W4 (w.heap.size + 1) by rw [← hW]; exact KpA)
        replace k_T_0 : W4.cell? ⟨wr.heap.size, 0, none⟩ = some (.int .i64 ((x0 : Nat) : Int)) := (HL_W4.out.cell (p := ⟨wr.heap.size, 0, none⟩) hl_T).trans k_T_0
        replace k_T_1 : W4.cell? ⟨wr.heap.size, 1, none⟩ = some (.int .i64 ((x1 : Nat) : Int)) := (HL_W4.out.cell (p := ⟨wr.heap.size, 1, none⟩) hl_T).trans k_T_1
        replace k_T_2 : W4.cell? ⟨wr.heap.size, 2, none⟩ = some (.int .i64 ((x2 : Nat) : Int)) := (HL_W4.out.cell (p := ⟨wr.heap.size, 2, none⟩) hl_T).trans k_T_2
        replace k_T_3 : W4.cell? ⟨wr.heap.size, 3, none⟩ = some (.int .i64 ((x3 : Nat) : Int)) := (HL_W4.out.cell (p := ⟨wr.heap.size, 3, none⟩) hl_T).trans k_T_3
        replace f_T : ∀ o, W4.frozen? ⟨wr.heap.size, o, none⟩ = false := fun o => (HL_W4.out.frozen (p := ⟨wr.heap.size, o, none⟩) hl_T).trans (f_T o)
        replace HX_T := Lib.hid (show Bn W4 (wr.heap.size) by rw [← hW]; exact KpA)
        replace Hs1 := Lib.hid (Hs1.out.keep HK_W4.out)
        replace Hs2 := Lib.hid (Hs2.out.keep HK_W4.out)
        replace Hz1 := Lib.hid (Hz1.out.keep HK_W4.out)
        replace Hz2 := Lib.hid (Hz2.out.keep HK_W4.out)
        replace HB := Lib.hid (show Below w.heap.size w W4 by rw [← hW]; exact BlA)
        replace hN : N ≤ W4.heap.size := by rw [← hW]; (first | omega | (simp; done) | (simp; omega))
        replace hs0 : w.heap.size ≤ W4.heap.size := by rw [← hW]; (first | omega | (simp; done) | (simp; omega))
        replace hl_P : wb.heap.size < W4.heap.size := by rw [← hW]; (first | omega | (simp; done) | (simp; omega))
        replace hl_Q : wb.heap.size + 1 < W4.heap.size := by rw [← hW]; (first | omega | (simp; done) | (simp; omega))
        replace hl_R : w.heap.size < W4.heap.size := by rw [← hW]; (first | omega | (simp; done) | (simp; omega))
        replace hl_R2 : w.heap.size + 1 < W4.heap.size := by rw [← hW]; (first | omega | (simp; done) | (simp; omega))
        replace hl_T : wr.heap.size < W4.heap.size := by rw [← hW]; (first | omega | (simp; done) | (simp; omega))
        clear HL_W4
        clear hW HK_W4
        refine region_inv2 (by kernel_rfl) (OddJ1 N wb.heap.size wr.heap.size x0 x3 y m ps pk pn rs rs2 cs cs2 (W4)) ?_ ?_ ?_ ?_
        · exact ⟨u30, u31, u32, u33, u34, u35, u36, u37, u38, by simp only [Act.put, List.setIfInBounds_toArray, List.set_cons_zero, List.set_cons_succ], .inl ⟨rfl, Since.drawn _, (fun h => by cases h), (fun h => by cases h), (fun h => by cases h), (fun h => by cases h), (fun h => by cases h), (fun h => by cases h), (fun h => by cases h), (fun h => by cases h), (fun h => by cases h)⟩⟩
        · exact acyc_spec (by kernel_rfl)
        · intro Ls a0 wq i o ho hLi hafter hJ
          obtain ⟨u30, u31, u32, u33, u34, u35, u36, u37, u38, rfl, hJ | ⟨h10, hall, _⟩⟩ := hJ
          · obtain ⟨hLl, hS, p0, p1, p2, p3, p4, p5, p6, p7, p8⟩ := hJ
            have hi : i < 10 := (Array.getElem?_eq_some_iff.1 ho).1
            obtain rfl | rfl | rfl | rfl | rfl | rfl | rfl | rfl | rfl | rfl : i = 0 ∨ i = 1 ∨ i = 2 ∨ i = 3 ∨ i = 4 ∨ i = 5 ∨ i = 6 ∨ i = 7 ∨ i = 8 ∨ i = 9 := by omega
            · simp only [List.getElem?_toArray, List.getElem?_cons_zero, Option.some.injEq] at ho
              subst ho
              have c0 := (hS.1.cell (p := ⟨wb.heap.size, 0, none⟩) hl_P).trans k_P_0
              have c1 := (hS.1.cell (p := ⟨wb.heap.size, 1, none⟩) hl_P).trans k_P_1
              have c2 := (hS.1.cell (p := ⟨wb.heap.size, 2, none⟩) hl_P).trans k_P_2
              have P0 := Lib.hid p0
              have P1 := Lib.hid p1
              have P2 := Lib.hid p2
              have P3 := Lib.hid p3
              have P4 := Lib.hid p4
              have P5 := Lib.hid p5
              have P6 := Lib.hid p6
              have P7 := Lib.hid p7
              have P8 := Lib.hid p8
              have HS := Lib.hid hS
              clear hS hLi hafter p0 p1 p2 p3 p4 p5 p6 p7 p8
              simp only [Act.put, List.setIfInBounds_toArray, List.set_cons_zero, List.set_cons_succ]
              go_wp2_with fail
              exact ⟨.agg #[.bool (decide ((ps).num < 0)), .slice rs (nlen (ps).num.natAbs) cs, .slice rs2 (nlen (ps).den) cs2], u31, u32, u33, u34, u35, u36, u37, u38, by simp only [Act.put, List.setIfInBounds_toArray, List.set_cons_zero, List.set_cons_succ], .inl ⟨by simpa using hLl, HS.out, (fun _ => rfl), (fun h => by first | rfl | exact P1.out (by simpa using h)), (fun h => by first | rfl | exact P2.out (by simpa using h)), (fun h => by first | rfl | exact P3.out (by simpa using h)), (fun h => by first | rfl | exact P4.out (by simpa using h)), (fun h => by first | rfl | exact P5.out (by simpa using h)), (fun h => by first | rfl | exact P6.out (by simpa using h)), (fun h => P7.out (by simpa using h)), (fun h => P8.out (by simpa using h))⟩⟩
            · simp only [List.getElem?_toArray, List.getElem?_cons_zero, List.getElem?_cons_succ, Option.some.injEq] at ho
              subst ho
              have P0 := Lib.hid p0
              have P1 := Lib.hid p1
              have P2 := Lib.hid p2
              have P3 := Lib.hid p3
              have P4 := Lib.hid p4
              have P5 := Lib.hid p5
              have P6 := Lib.hid p6
              have P7 := Lib.hid p7
              have P8 := Lib.hid p8
              have HS := Lib.hid hS
              clear hS hLi hafter p0 p1 p2 p3 p4 p5 p6 p7 p8
              simp only [Act.put, List.setIfInBounds_toArray, List.set_cons_zero, List.set_cons_succ]
              go_wp2_with fail
              exact ⟨u30, .pointer (some ⟨wr.heap.size, 0, none⟩), u32, u33, u34, u35, u36, u37, u38, by simp only [Act.put, List.setIfInBounds_toArray, List.set_cons_zero, List.set_cons_succ], .inl ⟨by simpa using hLl, HS.out, (fun h => by first | rfl | exact P0.out (by simpa using h)), (fun _ => rfl), (fun h => by first | rfl | exact P2.out (by simpa using h)), (fun h => by first | rfl | exact P3.out (by simpa using h)), (fun h => by first | rfl | exact P4.out (by simpa using h)), (fun h => by first | rfl | exact P5.out (by simpa using h)), (fun h => by first | rfl | exact P6.out (by simpa using h)), (fun h => P7.out (by simpa using h)), (fun h => P8.out (by simpa using h))⟩⟩
            · simp only [List.getElem?_toArray, List.getElem?_cons_zero, List.getElem?_cons_succ, Option.some.injEq] at ho
              subst ho
              obtain rfl := p1 (hafter ⟨1, .data⟩ (by simp) rfl)
              have c0 := (hS.1.cell (p := ⟨wr.heap.size, 0, none⟩) hl_T).trans k_T_0
              have P0 := Lib.hid p0
              have P1 := Lib.hid p1
              have P2 := Lib.hid p2
              have P3 := Lib.hid p3
              have P4 := Lib.hid p4
              have P5 := Lib.hid p5
              have P6 := Lib.hid p6
              have P7 := Lib.hid p7
              have P8 := Lib.hid p8
              have HS := Lib.hid hS
              clear hS hLi hafter p0 p1 p2 p3 p4 p5 p6 p7 p8
              simp only [Act.put, List.setIfInBounds_toArray, List.set_cons_zero, List.set_cons_succ]
              go_wp2_with fail
              exact ⟨u30, .pointer (some ⟨wr.heap.size, 0, none⟩), .int .i64 ((x0 : Nat) : Int), u33, u34, u35, u36, u37, u38, by simp only [Act.put, List.setIfInBounds_toArray, List.set_cons_zero, List.set_cons_succ], .inl ⟨by simpa using hLl, HS.out, (fun h => by first | rfl | exact P0.out (by simpa using h)), (fun h => by first | rfl | exact P1.out (by simpa using h)), (fun _ => rfl), (fun h => by first | rfl | exact P3.out (by simpa using h)), (fun h => by first | rfl | exact P4.out (by simpa using h)), (fun h => by first | rfl | exact P5.out (by simpa using h)), (fun h => by first | rfl | exact P6.out (by simpa using h)), (fun h => P7.out (by simpa using h)), (fun h => P8.out (by simpa using h))⟩⟩
            · simp only [List.getElem?_toArray, List.getElem?_cons_zero, List.getElem?_cons_succ, Option.some.injEq] at ho
              subst ho
              have P0 := Lib.hid p0
              have P1 := Lib.hid p1
              have P2 := Lib.hid p2
              have P3 := Lib.hid p3
              have P4 := Lib.hid p4
              have P5 := Lib.hid p5
              have P6 := Lib.hid p6
              have P7 := Lib.hid p7
              have P8 := Lib.hid p8
              have HS := Lib.hid hS
              clear hS hLi hafter p0 p1 p2 p3 p4 p5 p6 p7 p8
              simp only [Act.put, List.setIfInBounds_toArray, List.set_cons_zero, List.set_cons_succ]
              go_wp2_with fail
              exact ⟨u30, u31, u32, .pointer (some ⟨wr.heap.size, 3, none⟩), u34, u35, u36, u37, u38, by simp only [Act.put, List.setIfInBounds_toArray, List.set_cons_zero, List.set_cons_succ], .inl ⟨by simpa using hLl, HS.out, (fun h => by first | rfl | exact P0.out (by simpa using h)), (fun h => by first | rfl | exact P1.out (by simpa using h)), (fun h => by first | rfl | exact P2.out (by simpa using h)), (fun _ => rfl), (fun h => by first | rfl | exact P4.out (by simpa using h)), (fun h => by first | rfl | exact P5.out (by simpa using h)), (fun h => by first | rfl | exact P6.out (by simpa using h)), (fun h => P7.out (by simpa using h)), (fun h => P8.out (by simpa using h))⟩⟩
            · simp only [List.getElem?_toArray, List.getElem?_cons_zero, List.getElem?_cons_succ, Option.some.injEq] at ho
              subst ho
              obtain rfl := p3 (hafter ⟨3, .data⟩ (by simp) rfl)
              have c3 := (hS.1.cell (p := ⟨wr.heap.size, 3, none⟩) hl_T).trans k_T_3
              have P0 := Lib.hid p0
              have P1 := Lib.hid p1
              have P2 := Lib.hid p2
              have P3 := Lib.hid p3
              have P4 := Lib.hid p4
              have P5 := Lib.hid p5
              have P6 := Lib.hid p6
              have P7 := Lib.hid p7
              have P8 := Lib.hid p8
              have HS := Lib.hid hS
              clear hS hLi hafter p0 p1 p2 p3 p4 p5 p6 p7 p8
              simp only [Act.put, List.setIfInBounds_toArray, List.set_cons_zero, List.set_cons_succ]
              go_wp2_with fail
              exact ⟨u30, u31, u32, .pointer (some ⟨wr.heap.size, 3, none⟩), .int .i64 ((x3 : Nat) : Int), u35, u36, u37, u38, by simp only [Act.put, List.setIfInBounds_toArray, List.set_cons_zero, List.set_cons_succ], .inl ⟨by simpa using hLl, HS.out, (fun h => by first | rfl | exact P0.out (by simpa using h)), (fun h => by first | rfl | exact P1.out (by simpa using h)), (fun h => by first | rfl | exact P2.out (by simpa using h)), (fun h => by first | rfl | exact P3.out (by simpa using h)), (fun _ => rfl), (fun h => by first | rfl | exact P5.out (by simpa using h)), (fun h => by first | rfl | exact P6.out (by simpa using h)), (fun h => P7.out (by simpa using h)), (fun h => P8.out (by simpa using h))⟩⟩
            · simp only [List.getElem?_toArray, List.getElem?_cons_zero, List.getElem?_cons_succ, Option.some.injEq] at ho
              subst ho
              obtain rfl := p2 (hafter ⟨2, .data⟩ (by simp) rfl)
              obtain rfl := p4 (hafter ⟨4, .data⟩ (by simp) rfl)
              have P0 := Lib.hid p0
              have P1 := Lib.hid p1
              have P2 := Lib.hid p2
              have P3 := Lib.hid p3
              have P4 := Lib.hid p4
              have P5 := Lib.hid p5
              have P6 := Lib.hid p6
              have P7 := Lib.hid p7
              have P8 := Lib.hid p8
              have HS := Lib.hid hS
              clear hS hLi hafter p0 p1 p2 p3 p4 p5 p6 p7 p8
              simp only [Act.put, List.setIfInBounds_toArray, List.set_cons_zero, List.set_cons_succ]
              go_wp2_with fail
              exact ⟨u30, u31, .int .i64 ((x0 : Nat) : Int), u33, .int .i64 ((x3 : Nat) : Int), .int .i64 ((y : Nat) : Int), u36, u37, u38, by simp only [Act.put, List.setIfInBounds_toArray, List.set_cons_zero, List.set_cons_succ], .inl ⟨by simpa using hLl, HS.out, (fun h => by first | rfl | exact P0.out (by simpa using h)), (fun h => by first | rfl | exact P1.out (by simpa using h)), (fun h => by first | rfl | exact P2.out (by simpa using h)), (fun h => by first | rfl | exact P3.out (by simpa using h)), (fun h => by first | rfl | exact P4.out (by simpa using h)), (fun _ => rfl), (fun h => by first | rfl | exact P6.out (by simpa using h)), (fun h => P7.out (by simpa using h)), (fun h => P8.out (by simpa using h))⟩⟩
            · simp only [List.getElem?_toArray, List.getElem?_cons_zero, List.getElem?_cons_succ, Option.some.injEq] at ho
              subst ho
              have P0 := Lib.hid p0
              have P1 := Lib.hid p1
              have P2 := Lib.hid p2
              have P3 := Lib.hid p3
              have P4 := Lib.hid p4
              have P5 := Lib.hid p5
              have P6 := Lib.hid p6
              have P7 := Lib.hid p7
              have P8 := Lib.hid p8
              have HS := Lib.hid hS
              clear hS hLi hafter p0 p1 p2 p3 p4 p5 p6 p7 p8
              simp only [Act.put, List.setIfInBounds_toArray, List.set_cons_zero, List.set_cons_succ]
              go_wp2_with fail
              exact ⟨u30, u31, u32, u33, u34, u35, .int .i64 ((m : Nat) : Int), u37, u38, by simp only [Act.put, List.setIfInBounds_toArray, List.set_cons_zero, List.set_cons_succ], .inl ⟨by simpa using hLl, HS.out, (fun h => by first | rfl | exact P0.out (by simpa using h)), (fun h => by first | rfl | exact P1.out (by simpa using h)), (fun h => by first | rfl | exact P2.out (by simpa using h)), (fun h => by first | rfl | exact P3.out (by simpa using h)), (fun h => by first | rfl | exact P4.out (by simpa using h)), (fun h => by first | rfl | exact P5.out (by simpa using h)), (fun _ => rfl), (fun h => P7.out (by simpa using h)), (fun h => P8.out (by simpa using h))⟩⟩
            · simp only [List.getElem?_toArray, List.getElem?_cons_zero, List.getElem?_cons_succ, Option.some.injEq] at ho
              subst ho
              obtain rfl := p5 (hafter ⟨5, .data⟩ (by simp) rfl)
              obtain rfl := p6 (hafter ⟨6, .data⟩ (by simp) rfl)
              have P0 := Lib.hid p0
              have P1 := Lib.hid p1
              have P2 := Lib.hid p2
              have P3 := Lib.hid p3
              have P4 := Lib.hid p4
              have P5 := Lib.hid p5
              have P6 := Lib.hid p6
              have P7 := Lib.hid p7
              have P8 := Lib.hid p8
              have HS := Lib.hid hS
              clear hS hLi hafter p0 p1 p2 p3 p4 p5 p6 p7 p8
              simp only [Act.put, List.setIfInBounds_toArray, List.set_cons_zero, List.set_cons_succ]
              go_wp2_with fail
              refine (fof_any (N := N) (y : Int) (m : Int) _ (by have := HS.out.2; omega) (by omega) (by omega) (by omega) (by omega) pk HPK.out).mono ?_
              rintro e wn ⟨r, c, r2, c2, rfl, hn, hn', hb⟩
              have HN := Lib.hid hn
              have HM := Lib.hid hn'
              have Hb := Lib.hid hb
              clear hn hn' hb
              go_wp2_with fail
              exact ⟨u30, u31, u32, u33, u34, .int .i64 ((y : Nat) : Int), .int .i64 ((m : Nat) : Int), _, u38, by simp only [Act.put, List.setIfInBounds_toArray, List.set_cons_zero, List.set_cons_succ], .inl ⟨by simpa using hLl, HS.out.below Hb.out, (fun h => by first | rfl | exact P0.out (by simpa using h)), (fun h => by first | rfl | exact P1.out (by simpa using h)), (fun h => by first | rfl | exact P2.out (by simpa using h)), (fun h => by first | rfl | exact P3.out (by simpa using h)), (fun h => by first | rfl | exact P4.out (by simpa using h)), (fun h => by first | rfl | exact P5.out (by simpa using h)), (fun h => by first | rfl | exact P6.out (by simpa using h)), (fun _ => ⟨r, c, r2, c2, rfl, HN.out, HM.out⟩), (fun h => (P8.out (by simpa using h)).below Hb.out)⟩⟩
            · simp only [List.getElem?_toArray, List.getElem?_cons_zero, List.getElem?_cons_succ, Option.some.injEq] at ho
              subst ho
              obtain rfl := p0 (hafter ⟨0, .data⟩ (by simp) rfl)
              obtain ⟨r7, c7, t7, d7, rfl, hn7, hm7⟩ := p7 (hafter ⟨7, .data⟩ (by simp) rfl)
              have HN7 := Lib.hid hn7
              have HM7 := Lib.hid hm7
              clear hn7 hm7
              have P0 := Lib.hid p0
              have P1 := Lib.hid p1
              have P2 := Lib.hid p2
              have P3 := Lib.hid p3
              have P4 := Lib.hid p4
              have P5 := Lib.hid p5
              have P6 := Lib.hid p6
              have P7 := Lib.hid p7
              have P8 := Lib.hid p8
              have HS := Lib.hid hS
              clear hS hLi hafter p0 p1 p2 p3 p4 p5 p6 p7 p8
              simp only [Act.put, List.setIfInBounds_toArray, List.set_cons_zero, List.set_cons_succ]
              go_wp2_with fail
              refine (radd_any (N := N) _ _ _ _ _ _ _ _ _ _ _ _ _ _ 100 2 ps pk _ (by have := HS.out.2; omega) (Rt.of_norm (Hs1.out.below HS.out.1) (Hs2.out.below HS.out.1) _ HZs.out) (Rt.of_norm HN7.out HM7.out 2 HZK.out) (by omega) (by omega) pn HPN.out).mono ?_
              rintro e wn ⟨r, c, r2, c2, rfl, hn, hn', hb⟩
              have HN := Lib.hid hn
              have HM := Lib.hid hn'
              have Hb := Lib.hid hb
              clear hn hn' hb
              go_wp2_with fail
              exact ⟨.agg #[.bool (decide ((ps).num < 0)), .slice rs (nlen (ps).num.natAbs) cs, .slice rs2 (nlen (ps).den) cs2], u31, u32, u33, u34, u35, u36, _, _, by simp only [Act.put, List.setIfInBounds_toArray, List.set_cons_zero, List.set_cons_succ], .inl ⟨by simpa using hLl, HS.out.below Hb.out, (fun h => by first | rfl | exact P0.out (by simpa using h)), (fun h => by first | rfl | exact P1.out (by simpa using h)), (fun h => by first | rfl | exact P2.out (by simpa using h)), (fun h => by first | rfl | exact P3.out (by simpa using h)), (fun h => by first | rfl | exact P4.out (by simpa using h)), (fun h => by first | rfl | exact P5.out (by simpa using h)), (fun h => by first | rfl | exact P6.out (by simpa using h)), (fun h => (P7.out (by simpa using h)).below Hb.out), (fun _ => ⟨r, c, r2, c2, rfl, HN.out, HM.out⟩)⟩⟩
            · simp only [List.getElem?_toArray, List.getElem?_cons_zero, List.getElem?_cons_succ, Option.some.injEq] at ho
              subst ho
              have hall : ∀ j, j < 9 → Ls j = true := by
                intro j hj
                obtain rfl | rfl | rfl | rfl | rfl | rfl | rfl | rfl | rfl : j = 0 ∨ j = 1 ∨ j = 2 ∨ j = 3 ∨ j = 4 ∨ j = 5 ∨ j = 6 ∨ j = 7 ∨ j = 8 := by omega
                all_goals first | (refine hafter ⟨_, .phase⟩ ?_ rfl; simp; done) | (refine hafter ⟨_, .data⟩ ?_ rfl; simp; done)
              have HALL := Lib.hid hall
              clear hall
              obtain ⟨r8, c8, t8, d8, rfl, hn8, hm8⟩ := p8 (hafter ⟨8, .data⟩ (by simp) rfl)
              have HN8 := Lib.hid hn8
              have HM8 := Lib.hid hm8
              clear hn8 hm8
              have c0 := (hS.1.cell (p := ⟨wb.heap.size, 0, none⟩) hl_P).trans k_P_0
              have c1 := (hS.1.cell (p := ⟨wb.heap.size, 1, none⟩) hl_P).trans k_P_1
              have c2 := (hS.1.cell (p := ⟨wb.heap.size, 2, none⟩) hl_P).trans k_P_2
              have fz : ∀ o, wq.frozen? ⟨wb.heap.size, o, none⟩ = false := fun o => (hS.1.frozen (p := ⟨wb.heap.size, o, none⟩) hl_P).trans (f_P o)
              have P0 := Lib.hid p0
              have P1 := Lib.hid p1
              have P2 := Lib.hid p2
              have P3 := Lib.hid p3
              have P4 := Lib.hid p4
              have P5 := Lib.hid p5
              have P6 := Lib.hid p6
              have P7 := Lib.hid p7
              have P8 := Lib.hid p8
              have HS := Lib.hid hS
              clear hS hLi hafter p0 p1 p2 p3 p4 p5 p6 p7 p8
              simp only [Act.put, List.setIfInBounds_toArray, List.set_cons_zero, List.set_cons_succ]
              go_wp2_with fail
              exact ⟨u30, u31, u32, u33, u34, u35, u36, u37, .agg #[.bool (decide ((pn).num < 0)), .slice r8 (nlen (pn).num.natAbs) c8, .slice t8 (nlen (pn).den) d8], by simp only [Act.put, List.setIfInBounds_toArray, List.set_cons_zero, List.set_cons_succ], .inr ⟨by simp, fun j hj => by simp [HALL.out j hj], ⟨_, _, _, _, _, HS.out, HN8.out, HM8.out, rfl⟩⟩⟩
          · exfalso
            have hi : i < 10 := (Array.getElem?_eq_some_iff.1 ho).1
            rcases Nat.lt_or_ge i 9 with h | h
            · rw [hall i h] at hLi; cases hLi
            · obtain rfl : i = 9 := by omega
              rw [h10] at hLi; cases hLi
        · intro Ls a0 wq hall hJ
          obtain ⟨u30, u31, u32, u33, u34, u35, u36, u37, u38, rfl, ⟨h10, _⟩ | ⟨_, _, hcut⟩⟩ := hJ
          · rw [hall 9 (by decide)] at h10; cases h10
          · obtain ⟨we, rn, cn, rn2, cn2, hs, hn, hn', rfl⟩ := hcut
            have hb := hs.1
            clear hs
            have hs_we : W4.heap.size ≤ we.heap.size := hb.size
            replace k_P_0 : we.cell? ⟨wb.heap.size, 0, none⟩ = some (.bool (decide ((ps).num < 0))) := (hb.cell (p := ⟨wb.heap.size, 0, none⟩) hl_P).trans k_P_0
            replace k_P_1 : we.cell? ⟨wb.heap.size, 1, none⟩ = some (.slice rs (nlen (ps).num.natAbs) cs) := (hb.cell (p := ⟨wb.heap.size, 1, none⟩) hl_P).trans k_P_1
            replace k_P_2 : we.cell? ⟨wb.heap.size, 2, none⟩ = some (.slice rs2 (nlen (ps).den) cs2) := (hb.cell (p := ⟨wb.heap.size, 2, none⟩) hl_P).trans k_P_2
            replace f_P : ∀ o, we.frozen? ⟨wb.heap.size, o, none⟩ = false := fun o => (hb.frozen (p := ⟨wb.heap.size, o, none⟩) hl_P).trans (f_P o)
            replace HX_P := Lib.hid (HX_P.out.below hb)
            replace k_Q_0 : we.cell? ⟨wb.heap.size + 1, 0, none⟩ = some (.bool (decide ((pz).num < 0))) := (hb.cell (p := ⟨wb.heap.size + 1, 0, none⟩) hl_Q).trans k_Q_0
            replace k_Q_1 : we.cell? ⟨wb.heap.size + 1, 1, none⟩ = some (.slice rz (nlen (pz).num.natAbs) cz) := (hb.cell (p := ⟨wb.heap.size + 1, 1, none⟩) hl_Q).trans k_Q_1
            replace k_Q_2 : we.cell? ⟨wb.heap.size + 1, 2, none⟩ = some (.slice rz2 (nlen (pz).den) cz2) := (hb.cell (p := ⟨wb.heap.size + 1, 2, none⟩) hl_Q).trans k_Q_2
            replace f_Q : ∀ o, we.frozen? ⟨wb.heap.size + 1, o, none⟩ = false := fun o => (hb.frozen (p := ⟨wb.heap.size + 1, o, none⟩) hl_Q).trans (f_Q o)
            replace HX_Q := Lib.hid (HX_Q.out.below hb)
            replace k_R_0 : we.cell? ⟨w.heap.size, 0, none⟩ = some (.bool false) := (hb.cell (p := ⟨w.heap.size, 0, none⟩) hl_R).trans k_R_0
            replace k_R_1 : we.cell? ⟨w.heap.size, 1, none⟩ = some (.slice none 0 0) := (hb.cell (p := ⟨w.heap.size, 1, none⟩) hl_R).trans k_R_1
            replace k_R_2 : we.cell? ⟨w.heap.size, 2, none⟩ = some (.slice none 0 0) := (hb.cell (p := ⟨w.heap.size, 2, none⟩) hl_R).trans k_R_2
            replace f_R : ∀ o, we.frozen? ⟨w.heap.size, o, none⟩ = false := fun o => (hb.frozen (p := ⟨w.heap.size, o, none⟩) hl_R).trans (f_R o)
            replace HX_R := Lib.hid (HX_R.out.below hb)
            replace k_R2_0 : we.cell? ⟨w.heap.size + 1, 0, none⟩ = some (.bool false) := (hb.cell (p := ⟨w.heap.size + 1, 0, none⟩) hl_R2).trans k_R2_0
            replace k_R2_1 : we.cell? ⟨w.heap.size + 1, 1, none⟩ = some (.slice none 0 0) := (hb.cell (p := ⟨w.heap.size + 1, 1, none⟩) hl_R2).trans k_R2_1
            replace k_R2_2 : we.cell? ⟨w.heap.size + 1, 2, none⟩ = some (.slice none 0 0) := (hb.cell (p := ⟨w.heap.size + 1, 2, none⟩) hl_R2).trans k_R2_2
            replace f_R2 : ∀ o, we.frozen? ⟨w.heap.size + 1, o, none⟩ = false := fun o => (hb.frozen (p := ⟨w.heap.size + 1, o, none⟩) hl_R2).trans (f_R2 o)
            replace HX_R2 := Lib.hid (HX_R2.out.below hb)
            replace k_T_0 : we.cell? ⟨wr.heap.size, 0, none⟩ = some (.int .i64 ((x0 : Nat) : Int)) := (hb.cell (p := ⟨wr.heap.size, 0, none⟩) hl_T).trans k_T_0
            replace k_T_1 : we.cell? ⟨wr.heap.size, 1, none⟩ = some (.int .i64 ((x1 : Nat) : Int)) := (hb.cell (p := ⟨wr.heap.size, 1, none⟩) hl_T).trans k_T_1
            replace k_T_2 : we.cell? ⟨wr.heap.size, 2, none⟩ = some (.int .i64 ((x2 : Nat) : Int)) := (hb.cell (p := ⟨wr.heap.size, 2, none⟩) hl_T).trans k_T_2
            replace k_T_3 : we.cell? ⟨wr.heap.size, 3, none⟩ = some (.int .i64 ((x3 : Nat) : Int)) := (hb.cell (p := ⟨wr.heap.size, 3, none⟩) hl_T).trans k_T_3
            replace f_T : ∀ o, we.frozen? ⟨wr.heap.size, o, none⟩ = false := fun o => (hb.frozen (p := ⟨wr.heap.size, o, none⟩) hl_T).trans (f_T o)
            replace HX_T := Lib.hid (HX_T.out.below hb)
            replace Hs1 := Lib.hid (Hs1.out.below hb)
            replace Hs2 := Lib.hid (Hs2.out.below hb)
            replace Hz1 := Lib.hid (Hz1.out.below hb)
            replace Hz2 := Lib.hid (Hz2.out.below hb)
            replace HB := Lib.hid (HB.out.trans (hb.mono hs0))
            replace hN : N ≤ we.heap.size := Nat.le_trans hN hb.size
            replace hs0 : w.heap.size ≤ we.heap.size := Nat.le_trans hs0 hb.size
            replace hl_P : wb.heap.size < we.heap.size := Nat.lt_of_lt_of_le hl_P hb.size
            replace hl_Q : wb.heap.size + 1 < we.heap.size := Nat.lt_of_lt_of_le hl_Q hb.size
            replace hl_R : w.heap.size < we.heap.size := Nat.lt_of_lt_of_le hl_R hb.size
            replace hl_R2 : w.heap.size + 1 < we.heap.size := Nat.lt_of_lt_of_le hl_R2 hb.size
            replace hl_T : wr.heap.size < we.heap.size := Nat.lt_of_lt_of_le hl_T hb.size
            clear hb
            have Hn1 := Lib.hid hn
            have Hn2 := Lib.hid hn'
            clear hn hn'
            simp only [Act.put, List.setIfInBounds_toArray, List.set_cons_zero, List.set_cons_succ]
            go_wp2_with fail
            refine region_name fun W5 hW => ?_
            have hs_W5 : we.heap.size ≤ W5.heap.size := by rw [← hW]; (first | omega | (simp; done) | (simp; omega))
            have HK_W5 := Lib.hid (show Kp N we W5 by rw [← hW]; exact KpA)
            replace k_P_0 : W5.cell? ⟨wb.heap.size, 0, none⟩ = some (.bool (decide ((pn).num < 0))) := by rw [← hW]; (first | (go_simp; done) | (simp [go_sem, k_P_0]; done) | (simp [go_sem, k_P_0, k_P_1, k_P_2]; done) | (simp [go_sem, k_P_0, k_P_1, k_P_2, k_Q_0, k_Q_1, k_Q_2, k_R_0, k_R_1, k_R_2, k_R2_0, k_R2_1, k_R2_2, k_T_0, k_T_1, k_T_2, k_T_3, f_P, f_Q, f_R, f_R2, f_T, hl_P, hl_Q, hl_R, hl_R2, hl_T]; done))
            replace k_P_1 : W5.cell? ⟨wb.heap.size, 1, none⟩ = some (.slice rn (nlen (pn).num.natAbs) cn) := by rw [← hW]; (first | (go_simp; done) | (simp [go_sem, k_P_1]; done) | (simp [go_sem, k_P_0, k_P_1, k_P_2]; done) | (simp [go_sem, k_P_0, k_P_1, k_P_2, k_Q_0, k_Q_1, k_Q_2, k_R_0, k_R_1, k_R_2, k_R2_0, k_R2_1, k_R2_2, k_T_0, k_T_1, k_T_2, k_T_3, f_P, f_Q, f_R, f_R2, f_T, hl_P, hl_Q, hl_R, hl_R2, hl_T]; done))
            replace k_P_2 : W5.cell? ⟨wb.heap.size, 2, none⟩ = some (.slice rn2 (nlen (pn).den) cn2) := by rw [← hW]; (first | (go_simp; done) | (simp [go_sem, k_P_2]; done) | (simp [go_sem, k_P_0, k_P_1, k_P_2]; done) | (simp [go_sem, k_P_0, k_P_1, k_P_2, k_Q_0, k_Q_1, k_Q_2, k_R_0, k_R_1, k_R_2, k_R2_0, k_R2_1, k_R2_2, k_T_0, k_T_1, k_T_2, k_T_3, f_P, f_Q, f_R, f_R2, f_T, hl_P, hl_Q, hl_R, hl_R2, hl_T]; done))
            replace f_P : ∀ o, W5.frozen? ⟨wb.heap.size, o, none⟩ = false := by intro o; rw [← hW]; (first | with_reducible exact f_P o | (simp [go_sem, f_P]; done) | (simp [go_sem, f_P, hl_P]; done) | (go_simp; done) | (simp [go_sem, k_P_0, k_P_1, k_P_2, k_Q_0, k_Q_1, k_Q_2, k_R_0, k_R_1, k_R_2, k_R2_0, k_R2_1, k_R2_2, k_T_0, k_T_1, k_T_2, k_T_3, f_P, f_Q, f_R, f_R2, f_T, hl_P, hl_Q, hl_R, hl_R2, hl_T]; done))
            replace HX_P := Lib.hid (show Bn W5 (wb.heap.size) by rw [← hW]; exact KpA)
            replace k_Q_0 : W5.cell? ⟨wb.heap.size + 1, 0, none⟩ = some (.bool (decide ((pz).num < 0))) := by rw [← hW]; (first | with_reducible exact k_Q_0 | (simp [go_sem, k_Q_0]; done) | (simp [go_sem, k_Q_0, hl_Q]; done) | (go_simp; done) | (simp [go_sem, k_P_0, k_P_1, k_P_2, k_Q_0, k_Q_1, k_Q_2, k_R_0, k_R_1, k_R_2, k_R2_0, k_R2_1, k_R2_2, k_T_0, k_T_1, k_T_2, k_T_3, f_P, f_Q, f_R, f_R2, f_T, hl_P, hl_Q, hl_R, hl_R2, hl_T]; done))
            replace k_Q_1 : W5.cell? ⟨wb.heap.size + 1, 1, none⟩ = some (.slice rz (nlen (pz).num.natAbs) cz) := by rw [← hW]; (first | with_reducible exact k_Q_1 | (simp [go_sem, k_Q_1]; done) | (simp [go_sem, k_Q_1, hl_Q]; done) | (go_simp; done) | (simp [go_sem, k_P_0, k_P_1, k_P_2, k_Q_0, k_Q_1, k_Q_2, k_R_0, k_R_1, k_R_2, k_R2_0, k_R2_1, k_R2_2, k_T_0, k_T_1, k_T_2, k_T_3, f_P, f_Q, f_R, f_R2, f_T, hl_P, hl_Q, hl_R, hl_R2, hl_T]; done))
            replace k_Q_2 : W5.cell? ⟨wb.heap.size + 1, 2, none⟩ = some (.slice rz2 (nlen (pz).den) cz2) := by rw [← hW]; (first | with_reducible exact k_Q_2 | (simp [go_sem, k_Q_2]; done) | (simp [go_sem, k_Q_2, hl_Q]; done) | (go_simp; done) | (simp [go_sem, k_P_0, k_P_1, k_P_2, k_Q_0, k_Q_1, k_Q_2, k_R_0, k_R_1, k_R_2, k_R2_0, k_R2_1, k_R2_2, k_T_0, k_T_1, k_T_2, k_T_3, f_P, f_Q, f_R, f_R2, f_T, hl_P, hl_Q, hl_R, hl_R2, hl_T]; done))
            replace f_Q : ∀ o, W5.frozen? ⟨wb.heap.size + 1, o, none⟩ = false := by intro o; rw [← hW]; (first | with_reducible exact f_Q o | (simp [go_sem, f_Q]; done) | (simp [go_sem, f_Q, hl_Q]; done) | (go_simp; done) | (simp [go_sem, k_P_0, k_P_1, k_P_2, k_Q_0, k_Q_1, k_Q_2, k_R_0, k_R_1, k_R_2, k_R2_0, k_R2_1, k_R2_2, k_T_0, k_T_1, k_T_2, k_T_3, f_P, f_Q, f_R, f_R2, f_T, hl_P, hl_Q, hl_R, hl_R2, hl_T]; done))
            replace HX_Q := Lib.hid (show Bn W5 (wb.heap.size + 1) by rw [← hW]; exact KpA)
            replace k_R_0 : W5.cell? ⟨w.heap.size, 0, none⟩ = some (.bool false) := by rw [← hW]; (first | with_reducible exact k_R_0 | (simp [go_sem, k_R_0]; done) | (simp [go_sem, k_R_0, hl_R]; done) | (go_simp; done) | (simp [go_sem, k_P_0, k_P_1, k_P_2, k_Q_0, k_Q_1, k_Q_2, k_R_0, k_R_1, k_R_2, k_R2_0, k_R2_1, k_R2_2, k_T_0, k_T_1, k_T_2, k_T_3, f_P, f_Q, f_R, f_R2, f_T, hl_P, hl_Q, hl_R, hl_R2, hl_T]; done))
            replace k_R_1 : W5.cell? ⟨w.heap.size, 1, none⟩ = some (.slice none 0 0) := by rw [← hW]; (first | with_reducible exact k_R_1 | (simp [go_sem, k_R_1]; done) | (simp [go_sem, k_R_1, hl_R]; done) | (go_simp; done) | (simp [go_sem, k_P_0, k_P_1, k_P_2, k_Q_0, k_Q_1, k_Q_2, k_R_0, k_R_1, k_R_2, k_R2_0, k_R2_1, k_R2_2, k_T_0, k_T_1, k_T_2, k_T_3, f_P, f_Q, f_R, f_R2, f_T, hl_P, hl_Q, hl_R, hl_R2, hl_T]; done))
            replace k_R_2 : W5.cell? ⟨w.heap.size, 2, none⟩ = some (.slice none 0 0) := by rw [← hW]; (first | with_reducible exact k_R_2 | (simp [go_sem, k_R_2]; done) | (simp [go_sem, k_R_2, hl_R]; done) | (go_simp; done) | (simp [go_sem, k_P_0, k_P_1, k_P_2, k_Q_0, k_Q_1, k_Q_2, k_R_0, k_R_1, k_R_2, k_R2_0, k_R2_1, k_R2_2, k_T_0, k_T_1, k_T_2, k_T_3, f_P, f_Q, f_R, f_R2, f_T, hl_P, hl_Q, hl_R, hl_R2, hl_T]; done))
            replace f_R : ∀ o, W5.frozen? ⟨w.heap.size, o, none⟩ = false := by intro o; rw [← hW]; (first | with_reducible exact f_R o | (simp [go_sem, f_R]; done) | (simp [go_sem, f_R, hl_R]; done) | (go_simp; done) | (simp [go_sem, k_P_0, k_P_1, k_P_2, k_Q_0, k_Q_1, k_Q_2, k_R_0, k_R_1, k_R_2, k_R2_0, k_R2_1, k_R2_2, k_T_0, k_T_1, k_T_2, k_T_3, f_P, f_Q, f_R, f_R2, f_T, hl_P, hl_Q, hl_R, hl_R2, hl_T]; done))
            replace HX_R := Lib.hid (show Bn W5 (w.heap.size) by rw [← hW]; exact KpA)
            replace k_R2_0 : W5.cell? ⟨w.heap.size + 1, 0, none⟩ = some (.bool false) := by rw [← hW]; (first | with_reducible exact k_R2_0 | (simp [go_sem, k_R2_0]; done) | (simp [go_sem, k_R2_0, hl_R2]; done) | (go_simp; done) | (simp [go_sem, k_P_0, k_P_1, k_P_2, k_Q_0, k_Q_1, k_Q_2, k_R_0, k_R_1, k_R_2, k_R2_0, k_R2_1, k_R2_2, k_T_0, k_T_1, k_T_2, k_T_3, f_P, f_Q, f_R, f_R2, f_T, hl_P, hl_Q, hl_R, hl_R2, hl_T]; done))
            replace k_R2_1 : W5.cell? ⟨w.heap.size + 1, 1, none⟩ = some (.slice none 0 0) := by rw [← hW]; (first | with_reducible exact k_R2_1 | (simp [go_sem, k_R2_1]; done) | (simp [go_sem, k_R2_1, hl_R2]; done) | (go_simp; done) | (simp [go_sem, k_P_0, k_P_1, k_P_2, k_Q_0, k_Q_1, k_Q_2, k_R_0, k_R_1, k_R_2, k_R2_0, k_R2_1, k_R2_2, k_T_0, k_T_1, k_T_2, k_T_3, f_P, f_Q, f_R, f_R2, f_T, hl_P, hl_Q, hl_R, hl_R2, hl_T]; done))
            replace k_R2_2 : W5.cell? ⟨w.heap.size + 1, 2, none⟩ = some (.slice none 0 0) := by rw [← hW]; (first | with_reducible exact k_R2_2 | (simp [go_sem, k_R2_2]; done) | (simp [go_sem, k_R2_2, hl_R2]; done) | (go_simp; done) | (simp [go_sem, k_P_0, k_P_1, k_P_2, k_Q_0, k_Q_1, k_Q_2, k_R_0, k_R_1, k_R_2, k_R2_0, k_R2_1, k_R2_2, k_T_0, k_T_1, k_T_2, k_T_3, f_P, f_Q, f_R, f_R2, f_T, hl_P, hl_Q, hl_R, hl_R2, hl_T]; done))
            replace f_R2 : ∀ o, W5.frozen? ⟨w.heap.size + 1, o, none⟩ = false := by intro o; rw [← hW]; (first | with_reducible exact f_R2 o | (simp [go_sem, f_R2]; done) | (simp [go_sem, f_R2, hl_R2]; done) | (go_simp; done) | (simp [go_sem, k_P_0, k_P_1, k_P_2, k_Q_0, k_Q_1, k_Q_2, k_R_0, k_R_1, k_R_2, k_R2_0, k_R2_1, k_R2_2, k_T_0, k_T_1, k_T_2, k_T_3, f_P, f_Q, f_R, f_R2, f_T, hl_P, hl_Q, hl_R, hl_R2, hl_T]; done))
            replace HX_R2 := Lib.hid (show Bn W5 (w.heap.size + 1) by rw [← hW]; exact KpA)
            replace k_T_0 : W5.cell? ⟨wr.heap.size, 0, none⟩ = some (.int .i64 ((x0 : Nat) : Int)) := by rw [← hW]; (first | with_reducible exact k_T_0 | (simp [go_sem, k_T_0]; done) | (simp [go_sem, k_T_0, hl_T]; done) | (go_simp; done) | (simp [go_sem, k_P_0, k_P_1, k_P_2, k_Q_0, k_Q_1, k_Q_2, k_R_0, k_R_1, k_R_2, k_R2_0, k_R2_1, k_R2_2, k_T_0, k_T_1, k_T_2, k_T_3, f_P, f_Q, f_R, f_R2, f_T, hl_P, hl_Q, hl_R, hl_R2, hl_T]; done))
            replace k_T_1 : W5.cell? ⟨wr.heap.size, 1, none⟩ = some (.int .i64 ((x1 : Nat) : Int)) := by rw [← hW]; (first | with_reducible exact k_T_1 | (simp [go_sem, k_T_1]; done) | (simp [go_sem, k_T_1, hl_T]; done) | (go_simp; done) | (simp [go_sem, k_P_0, k_P_1, k_P_2, k_Q_0, k_Q_1, k_Q_2, k_R_0, k_R_1, k_R_2, k_R2_0, k_R2_1, k_R2_2, k_T_0, k_T_1, k_T_2, k_T_3, f_P, f_Q, f_R, f_R2, f_T, hl_P, hl_Q, hl_R, hl_R2, hl_T]; done))
            replace k_T_2 : W5.cell? ⟨wr.heap.size, 2, none⟩ = some (.int .i64 ((x2 : Nat) : Int)) := by rw [← hW]; (first | with_reducible exact k_T_2 | (simp [go_sem, k_T_2]; done) | (simp [go_sem, k_T_2, hl_T]; done) | (go_simp; done) | (simp [go_sem, k_P_0, k_P_1, k_P_2, k_Q_0, k_Q_1, k_Q_2, k_R_0, k_R_1, k_R_2, k_R2_0, k_R2_1, k_R2_2, k_T_0, k_T_1, k_T_2, k_T_3, f_P, f_Q, f_R, f_R2, f_T, hl_P, hl_Q, hl_R, hl_R2, hl_T]; done))
            replace k_T_3 : W5.cell? ⟨wr.heap.size, 3, none⟩ = some (.int .i64 ((x3 : Nat) : Int)) := by rw [← hW]; (first | with_reducible exact k_T_3 | (simp [go_sem, k_T_3]; done) | (simp [go_sem, k_T_3, hl_T]; done) | (go_simp; done) | (simp [go_sem, k_P_0, k_P_1, k_P_2, k_Q_0, k_Q_1, k_Q_2, k_R_0, k_R_1, k_R_2, k_R2_0, k_R2_1, k_R2_2, k_T_0, k_T_1, k_T_2, k_T_3, f_P, f_Q, f_R, f_R2, f_T, hl_P, hl_Q, hl_R, hl_R2, hl_T]; done))
            replace f_T : ∀ o, W5.frozen? ⟨wr.heap.size, o, none⟩ = false := by intro o; rw [← hW]; (first | with_reducible exact f_T o | (simp [go_sem, f_T]; done) | (simp [go_sem, f_T, hl_T]; done) | (go_simp; done) | (simp [go_sem, k_P_0, k_P_1, k_P_2, k_Q_0, k_Q_1, k_Q_2, k_R_0, k_R_1, k_R_2, k_R2_0, k_R2_1, k_R2_2, k_T_0, k_T_1, k_T_2, k_T_3, f_P, f_Q, f_R, f_R2, f_T, hl_P, hl_Q, hl_R, hl_R2, hl_T]; done))
            replace HX_T := Lib.hid (show Bn W5 (wr.heap.size) by rw [← hW]; exact KpA)
            replace Hs1 := Lib.hid (Hs1.out.keep HK_W5.out)
            replace Hs2 := Lib.hid (Hs2.out.keep HK_W5.out)
            replace Hz1 := Lib.hid (Hz1.out.keep HK_W5.out)
            replace Hz2 := Lib.hid (Hz2.out.keep HK_W5.out)
            replace Hn1 := Lib.hid (Hn1.out.keep HK_W5.out)
            replace Hn2 := Lib.hid (Hn2.out.keep HK_W5.out)
            replace HB := Lib.hid (show Below w.heap.size w W5 by rw [← hW]; exact BlA)
            replace hN : N ≤ W5.heap.size := by rw [← hW]; (first | omega | (simp; done) | (simp; omega))
            replace hs0 : w.heap.size ≤ W5.heap.size := by rw [← hW]; (first | omega | (simp; done) | (simp; omega))
            replace hl_P : wb.heap.size < W5.heap.size := by rw [← hW]; (first | omega | (simp; done) | (simp; omega))
            replace hl_Q : wb.heap.size + 1 < W5.heap.size := by rw [← hW]; (first | omega | (simp; done) | (simp; omega))
            replace hl_R : w.heap.size < W5.heap.size := by rw [← hW]; (first | omega | (simp; done) | (simp; omega))
            replace hl_R2 : w.heap.size + 1 < W5.heap.size := by rw [← hW]; (first | omega | (simp; done) | (simp; omega))
            replace hl_T : wr.heap.size < W5.heap.size := by rw [← hW]; (first | omega | (simp; done) | (simp; omega))
            clear hW HK_W5
            refine region_inv2 (by kernel_rfl) (OddJ2 N (wb.heap.size + 1) wr.heap.size x1 x2 yz m pz pl po rz rz2 cz cz2 (W5)) ?_ ?_ ?_ ?_
            · exact ⟨u39, u40, u41, u42, u43, u44, u45, u46, u47, by simp only [Act.put, List.setIfInBounds_toArray, List.set_cons_zero, List.set_cons_succ], .inl ⟨rfl, Since.drawn _, (fun h => by cases h), (fun h => by cases h), (fun h => by cases h), (fun h => by cases h), (fun h => by cases h), (fun h => by cases h), (fun h => by cases h), (fun h => by cases h), (fun h => by cases h)⟩⟩
            · exact acyc_spec (by kernel_rfl)
            · intro Ls a0 wq i o ho hLi hafter hJ
              obtain ⟨u39, u40, u41, u42, u43, u44, u45, u46, u47, rfl, hJ | ⟨h10, hall, _⟩⟩ := hJ
              · obtain ⟨hLl, hS, p0, p1, p2, p3, p4, p5, p6, p7, p8⟩ := hJ
                have hi : i < 10 := (Array.getElem?_eq_some_iff.1 ho).1
                obtain rfl | rfl | rfl | rfl | rfl | rfl | rfl | rfl | rfl | rfl : i = 0 ∨ i = 1 ∨ i = 2 ∨ i = 3 ∨ i = 4 ∨ i = 5 ∨ i = 6 ∨ i = 7 ∨ i = 8 ∨ i = 9 := by omega
                · simp only [List.getElem?_toArray, List.getElem?_cons_zero, Option.some.injEq] at ho
                  subst ho
                  have c0 := (hS.1.cell (p := ⟨(wb.heap.size + 1), 0, none⟩) hl_Q).trans k_Q_0
                  have c1 := (hS.1.cell (p := ⟨(wb.heap.size + 1), 1, none⟩) hl_Q).trans k_Q_1
                  have c2 := (hS.1.cell (p := ⟨(wb.heap.size + 1), 2, none⟩) hl_Q).trans k_Q_2
                  have P0 := Lib.hid p0
                  have P1 := Lib.hid p1
                  have P2 := Lib.hid p2
                  have P3 := Lib.hid p3
                  have P4 := Lib.hid p4
                  have P5 := Lib.hid p5
                  have P6 := Lib.hid p6
                  have P7 := Lib.hid p7
                  have P8 := Lib.hid p8
                  have HS := Lib.hid hS
                  clear hS hLi hafter p0 p1 p2 p3 p4 p5 p6 p7 p8
                  simp only [Act.put, List.setIfInBounds_toArray, List.set_cons_zero, List.set_cons_succ]
                  go_wp2_with fail
                  exact ⟨.agg #[.bool (decide ((pz).num < 0)), .slice rz (nlen (pz).num.natAbs) cz, .slice rz2 (nlen (pz).den) cz2], u40, u41, u42, u43, u44, u45, u46, u47, by simp only [Act.put, List.setIfInBounds_toArray, List.set_cons_zero, List.set_cons_succ], .inl ⟨by simpa using hLl, HS.out, (fun _ => rfl), (fun h => by first | rfl | exact P1.out (by simpa using h)), (fun h => by first | rfl | exact P2.out (by simpa using h)), (fun h => by first | rfl | exact P3.out (by simpa using h)), (fun h => by first | rfl | exact P4.out (by simpa using h)), (fun h => by first | rfl | exact P5.out (by simpa using h)), (fun h => by first | rfl | exact P6.out (by simpa using h)), (fun h => P7.out (by simpa using h)), (fun h => P8.out (by simpa using h))⟩⟩
                · simp only [List.getElem?_toArray, List.getElem?_cons_zero, List.getElem?_cons_succ, Option.some.injEq] at ho
                  subst ho
                  have P0 := Lib.hid p0
                  have P1 := Lib.hid p1
                  have P2 := Lib.hid p2
                  have P3 := Lib.hid p3
                  have P4 := Lib.hid p4
                  have P5 := Lib.hid p5
                  have P6 := Lib.hid p6
                  have P7 := Lib.hid p7
                  have P8 := Lib.hid p8
                  have HS := Lib.hid hS
                  clear hS hLi hafter p0 p1 p2 p3 p4 p5 p6 p7 p8
                  simp only [Act.put, List.setIfInBounds_toArray, List.set_cons_zero, List.set_cons_succ]
                  go_wp2_with fail
                  exact ⟨u39, .pointer (some ⟨wr.heap.size, 1, none⟩), u41, u42, u43, u44, u45, u46, u47, by simp only [Act.put, List.setIfInBounds_toArray, List.set_cons_zero, List.set_cons_succ], .inl ⟨by simpa using hLl, HS.out, (fun h => by first | rfl | exact P0.out (by simpa using h)), (fun _ => rfl), (fun h => by first | rfl | exact P2.out (by simpa using h)), (fun h => by first | rfl | exact P3.out (by simpa using h)), (fun h => by first | rfl | exact P4.out (by simpa using h)), (fun h => by first | rfl | exact P5.out (by simpa using h)), (fun h => by first | rfl | exact P6.out (by simpa using h)), (fun h => P7.out (by simpa using h)), (fun h => P8.out (by simpa using h))⟩⟩
                · simp only [List.getElem?_toArray, List.getElem?_cons_zero, List.getElem?_cons_succ, Option.some.injEq] at ho
                  subst ho
                  obtain rfl := p1 (hafter ⟨1, .data⟩ (by simp) rfl)
                  have c1 := (hS.1.cell (p := ⟨wr.heap.size, 1, none⟩) hl_T).trans k_T_1
                  have P0 := Lib.hid p0
                  have P1 := Lib.hid p1
                  have P2 := Lib.hid p2
                  have P3 := Lib.hid p3
                  have P4 := Lib.hid p4
                  have P5 := Lib.hid p5
                  have P6 := Lib.hid p6
                  have P7 := Lib.hid p7
                  have P8 := Lib.hid p8
                  have HS := Lib.hid hS
                  clear hS hLi hafter p0 p1 p2 p3 p4 p5 p6 p7 p8
                  simp only [Act.put, List.setIfInBounds_toArray, List.set_cons_zero, List.set_cons_succ]
                  go_wp2_with fail
                  exact ⟨u39, .pointer (some ⟨wr.heap.size, 1, none⟩), .int .i64 ((x1 : Nat) : Int), u42, u43, u44, u45, u46, u47, by simp only [Act.put, List.setIfInBounds_toArray, List.set_cons_zero, List.set_cons_succ], .inl ⟨by simpa using hLl, HS.out, (fun h => by first | rfl | exact P0.out (by simpa using h)), (fun h => by first | rfl | exact P1.out (by simpa using h)), (fun _ => rfl), (fun h => by first | rfl | exact P3.out (by simpa using h)), (fun h => by first | rfl | exact P4.out (by simpa using h)), (fun h => by first | rfl | exact P5.out (by simpa using h)), (fun h => by first | rfl | exact P6.out (by simpa using h)), (fun h => P7.out (by simpa using h)), (fun h => P8.out (by simpa using h))⟩⟩
                · simp only [List.getElem?_toArray, List.getElem?_cons_zero, List.getElem?_cons_succ, Option.some.injEq] at ho
                  subst ho
                  have P0 := Lib.hid p0
                  have P1 := Lib.hid p1
                  have P2 := Lib.hid p2
                  have P3 := Lib.hid p3
                  have P4 := Lib.hid p4
                  have P5 := Lib.hid p5
                  have P6 := Lib.hid p6
                  have P7 := Lib.hid p7
                  have P8 := Lib.hid p8
                  have HS := Lib.hid hS
                  clear hS hLi hafter p0 p1 p2 p3 p4 p5 p6 p7 p8
                  simp only [Act.put, List.setIfInBounds_toArray, List.set_cons_zero, List.set_cons_succ]
                  go_wp2_with fail
                  exact ⟨u39, u40, u41, .pointer (some ⟨wr.heap.size, 2, none⟩), u43, u44, u45, u46, u47, by simp only [Act.put, List.setIfInBounds_toArray, List.set_cons_zero, List.set_cons_succ], .inl ⟨by simpa using hLl, HS.out, (fun h => by first | rfl | exact P0.out (by simpa using h)), (fun h => by first | rfl | exact P1.out (by simpa using h)), (fun h => by first | rfl | exact P2.out (by simpa using h)), (fun _ => rfl), (fun h => by first | rfl | exact P4.out (by simpa using h)), (fun h => by first | rfl | exact P5.out (by simpa using h)), (fun h => by first | rfl | exact P6.out (by simpa using h)), (fun h => P7.out (by simpa using h)), (fun h => P8.out (by simpa using h))⟩⟩
                · simp only [List.getElem?_toArray, List.getElem?_cons_zero, List.getElem?_cons_succ, Option.some.injEq] at ho
                  subst ho
                  obtain rfl := p3 (hafter ⟨3, .data⟩ (by simp) rfl)
                  have c2 := (hS.1.cell (p := ⟨wr.heap.size, 2, none⟩) hl_T).trans k_T_2
                  have P0 := Lib.hid p0
                  have P1 := Lib.hid p1
                  have P2 := Lib.hid p2
                  have P3 := Lib.hid p3
                  have P4 := Lib.hid p4
                  have P5 := Lib.hid p5
                  have P6 := Lib.hid p6
                  have P7 := Lib.hid p7
                  have P8 := Lib.hid p8
                  have HS := Lib.hid hS
                  clear hS hLi hafter p0 p1 p2 p3 p4 p5 p6 p7 p8
                  simp only [Act.put, List.setIfInBounds_toArray, List.set_cons_zero, List.set_cons_succ]
                  go_wp2_with fail
                  exact ⟨u39, u40, u41, .pointer (some ⟨wr.heap.size, 2, none⟩), .int .i64 ((x2 : Nat) : Int), u44, u45, u46, u47, by simp only [Act.put, List.setIfInBounds_toArray, List.set_cons_zero, List.set_cons_succ], .inl ⟨by simpa using hLl, HS.out, (fun h => by first | rfl | exact P0.out (by simpa using h)), (fun h => by first | rfl | exact P1.out (by simpa using h)), (fun h => by first | rfl | exact P2.out (by simpa using h)), (fun h => by first | rfl | exact P3.out (by simpa using h)), (fun _ => rfl), (fun h => by first | rfl | exact P5.out (by simpa using h)), (fun h => by first | rfl | exact P6.out (by simpa using h)), (fun h => P7.out (by simpa using h)), (fun h => P8.out (by simpa using h))⟩⟩
                · simp only [List.getElem?_toArray, List.getElem?_cons_zero, List.getElem?_cons_succ, Option.some.injEq] at ho
                  subst ho
                  obtain rfl := p2 (hafter ⟨2, .data⟩ (by simp) rfl)
                  obtain rfl := p4 (hafter ⟨4, .data⟩ (by simp) rfl)
                  have P0 := Lib.hid p0
                  have P1 := Lib.hid p1
                  have P2 := Lib.hid p2
                  have P3 := Lib.hid p3
                  have P4 := Lib.hid p4
                  have P5 := Lib.hid p5
                  have P6 := Lib.hid p6
                  have P7 := Lib.hid p7
                  have P8 := Lib.hid p8
                  have HS := Lib.hid hS
                  clear hS hLi hafter p0 p1 p2 p3 p4 p5 p6 p7 p8
                  simp only [Act.put, List.setIfInBounds_toArray, List.set_cons_zero, List.set_cons_succ]
                  go_wp2_with fail
                  exact ⟨u39, u40, .int .i64 ((x1 : Nat) : Int), u42, .int .i64 ((x2 : Nat) : Int), .int .i64 ((yz : Nat) : Int), u45, u46, u47, by simp only [Act.put, List.setIfInBounds_toArray, List.set_cons_zero, List.set_cons_succ], .inl ⟨by simpa using hLl, HS.out, (fun h => by first | rfl | exact P0.out (by simpa using h)), (fun h => by first | rfl | exact P1.out (by simpa using h)), (fun h => by first | rfl | exact P2.out (by simpa using h)), (fun h => by first | rfl | exact P3.out (by simpa using h)), (fun h => by first | rfl | exact P4.out (by simpa using h)), (fun _ => rfl), (fun h => by first | rfl | exact P6.out (by simpa using h)), (fun h => P7.out (by simpa using h)), (fun h => P8.out (by simpa using h))⟩⟩
                · simp only [List.getElem?_toArray, List.getElem?_cons_zero, List.getElem?_cons_succ, Option.some.injEq] at ho
                  subst ho
                  have P0 := Lib.hid p0
                  have P1 := Lib.hid p1
                  have P2 := Lib.hid p2
                  have P3 := Lib.hid p3
                  have P4 := Lib.hid p4
                  have P5 := Lib.hid p5
                  have P6 := Lib.hid p6
                  have P7 := Lib.hid p7
                  have P8 := Lib.hid p8
                  have HS := Lib.hid hS
                  clear hS hLi hafter p0 p1 p2 p3 p4 p5 p6 p7 p8
                  simp only [Act.put, List.setIfInBounds_toArray, List.set_cons_zero, List.set_cons_succ]
                  go_wp2_with fail
                  exact ⟨u39, u40, u41, u42, u43, u44, .int .i64 ((m : Nat) : Int), u46, u47, by simp only [Act.put, List.setIfInBounds_toArray, List.set_cons_zero, List.set_cons_succ], .inl ⟨by simpa using hLl, HS.out, (fun h => by first | rfl | exact P0.out (by simpa using h)), (fun h => by first | rfl | exact P1.out (by simpa using h)), (fun h => by first | rfl | exact P2.out (by simpa using h)), (fun h => by first | rfl | exact P3.out (by simpa using h)), (fun h => by first | rfl | exact P4.out (by simpa using h)), (fun h => by first | rfl | exact P5.out (by simpa using h)), (fun _ => rfl), (fun h => P7.out (by simpa using h)), (fun h => P8.out (by simpa using h))⟩⟩
                · simp only [List.getElem?_toArray, List.getElem?_cons_zero, List.getElem?_cons_succ, Option.some.injEq] at ho
                  subst ho
                  obtain rfl := p5 (hafter ⟨5, .data⟩ (by simp) rfl)
                  obtain rfl := p6 (hafter ⟨6, .data⟩ (by simp) rfl)
                  have P0 := Lib.hid p0
                  have P1 := Lib.hid p1
                  have P2 := Lib.hid p2
                  have P3 := Lib.hid p3
                  have P4 := Lib.hid p4
                  have P5 := Lib.hid p5
                  have P6 := Lib.hid p6
                  have P7 := Lib.hid p7
                  have P8 := Lib.hid p8
                  have HS := Lib.hid hS
                  clear hS hLi hafter p0 p1 p2 p3 p4 p5 p6 p7 p8
                  simp only [Act.put, List.setIfInBounds_toArray, List.set_cons_zero, List.set_cons_succ]
                  go_wp2_with fail
                  refine (fof_any (N := N) (yz : Int) (m : Int) _ (by have := HS.out.2; omega) (by omega) (by omega) (by omega) (by omega) pl HPL.out).mono ?_
                  rintro e wn ⟨r, c, r2, c2, rfl, hn, hn', hb⟩
                  have HN := Lib.hid hn
                  have HM := Lib.hid hn'
                  have Hb := Lib.hid hb
                  clear hn hn' hb
                  go_wp2_with fail
                  exact ⟨u39, u40, u41, u42, u43, .int .i64 ((yz : Nat) : Int), .int .i64 ((m : Nat) : Int), _, u47, by simp only [Act.put, List.setIfInBounds_toArray, List.set_cons_zero, List.set_cons_succ], .inl ⟨by simpa using hLl, HS.out.below Hb.out, (fun h => by first | rfl | exact P0.out (by simpa using h)), (fun h => by first | rfl | exact P1.out (by simpa using h)), (fun h => by first | rfl | exact P2.out (by simpa using h)), (fun h => by first | rfl | exact P3.out (by simpa using h)), (fun h => by first | rfl | exact P4.out (by simpa using h)), (fun h => by first | rfl | exact P5.out (by simpa using h)), (fun h => by first | rfl | exact P6.out (by simpa using h)), (fun _ => ⟨r, c, r2, c2, rfl, HN.out, HM.out⟩), (fun h => (P8.out (by simpa using h)).below Hb.out)⟩⟩
                · simp only [List.getElem?_toArray, List.getElem?_cons_zero, List.getElem?_cons_succ, Option.some.injEq] at ho
                  subst ho
                  obtain rfl := p0 (hafter ⟨0, .data⟩ (by simp) rfl)
                  obtain ⟨r7, c7, t7, d7, rfl, hn7, hm7⟩ := p7 (hafter ⟨7, .data⟩ (by simp) rfl)
                  have HN7 := Lib.hid hn7
                  have HM7 := Lib.hid hm7
                  clear hn7 hm7
                  have P0 := Lib.hid p0
                  have P1 := Lib.hid p1
                  have P2 := Lib.hid p2
                  have P3 := Lib.hid p3
                  have P4 := Lib.hid p4
                  have P5 := Lib.hid p5
                  have P6 := Lib.hid p6
                  have P7 := Lib.hid p7
                  have P8 := Lib.hid p8
                  have HS := Lib.hid hS
                  clear hS hLi hafter p0 p1 p2 p3 p4 p5 p6 p7 p8
                  simp only [Act.put, List.setIfInBounds_toArray, List.set_cons_zero, List.set_cons_succ]
                  go_wp2_with fail
                  refine (radd_any (N := N) _ _ _ _ _ _ _ _ _ _ _ _ _ _ 100 2 pz pl _ (by have := HS.out.2; omega) (Rt.of_norm (Hz1.out.below HS.out.1) (Hz2.out.below HS.out.1) _ HZz.out) (Rt.of_norm HN7.out HM7.out 2 HZL.out) (by omega) (by omega) po HPO.out).mono ?_
                  rintro e wn ⟨r, c, r2, c2, rfl, hn, hn', hb⟩
                  have HN := Lib.hid hn
                  have HM := Lib.hid hn'
                  have Hb := Lib.hid hb
                  clear hn hn' hb
                  go_wp2_with fail
                  exact ⟨.agg #[.bool (decide ((pz).num < 0)), .slice rz (nlen (pz).num.natAbs) cz, .slice rz2 (nlen (pz).den) cz2], u40, u41, u42, u43, u44, u45, _, _, by simp only [Act.put, List.setIfInBounds_toArray, List.set_cons_zero, List.set_cons_succ], .inl ⟨by simpa using hLl, HS.out.below Hb.out, (fun h => by first | rfl | exact P0.out (by simpa using h)), (fun h => by first | rfl | exact P1.out (by simpa using h)), (fun h => by first | rfl | exact P2.out (by simpa using h)), (fun h => by first | rfl | exact P3.out (by simpa using h)), (fun h => by first | rfl | exact P4.out (by simpa using h)), (fun h => by first | rfl | exact P5.out (by simpa using h)), (fun h => by first | rfl | exact P6.out (by simpa using h)), (fun h => (P7.out (by simpa using h)).below Hb.out), (fun _ => ⟨r, c, r2, c2, rfl, HN.out, HM.out⟩)⟩⟩
                · simp only [List.getElem?_toArray, List.getElem?_cons_zero, List.getElem?_cons_succ, Option.some.injEq] at ho
                  subst ho
                  have hall : ∀ j, j < 9 → Ls j = true := by
                    intro j hj
                    obtain rfl | rfl | rfl | rfl | rfl | rfl | rfl | rfl | rfl : j = 0 ∨ j = 1 ∨ j = 2 ∨ j = 3 ∨ j = 4 ∨ j = 5 ∨ j = 6 ∨ j = 7 ∨ j = 8 := by omega
                    all_goals first | (refine hafter ⟨_, .phase⟩ ?_ rfl; simp; done) | (refine hafter ⟨_, .data⟩ ?_ rfl; simp; done)
                  have HALL := Lib.hid hall
                  clear hall
                  obtain ⟨r8, c8, t8, d8, rfl, hn8, hm8⟩ := p8 (hafter ⟨8, .data⟩ (by simp) rfl)
                  have HN8 := Lib.hid hn8
                  have HM8 := Lib.hid hm8
                  clear hn8 hm8
                  have c0 := (hS.1.cell (p := ⟨(wb.heap.size + 1), 0, none⟩) hl_Q).trans k_Q_0
                  have c1 := (hS.1.cell (p := ⟨(wb.heap.size + 1), 1, none⟩) hl_Q).trans k_Q_1
                  have c2 := (hS.1.cell (p := ⟨(wb.heap.size + 1), 2, none⟩) hl_Q).trans k_Q_2
                  have fz : ∀ o, wq.frozen? ⟨(wb.heap.size + 1), o, none⟩ = false := fun o => (hS.1.frozen (p := ⟨(wb.heap.size + 1), o, none⟩) hl_Q).trans (f_Q o)
                  have P0 := Lib.hid p0
                  have P1 := Lib.hid p1
                  have P2 := Lib.hid p2
                  have P3 := Lib.hid p3
                  have P4 := Lib.hid p4
                  have P5 := Lib.hid p5
                  have P6 := Lib.hid p6
                  have P7 := Lib.hid p7
                  have P8 := Lib.hid p8
                  have HS := Lib.hid hS
                  clear hS hLi hafter p0 p1 p2 p3 p4 p5 p6 p7 p8
                  simp only [Act.put, List.setIfInBounds_toArray, List.set_cons_zero, List.set_cons_succ]
                  go_wp2_with fail
                  exact ⟨u39, u40, u41, u42, u43, u44, u45, u46, .agg #[.bool (decide ((po).num < 0)), .slice r8 (nlen (po).num.natAbs) c8, .slice t8 (nlen (po).den) d8], by simp only [Act.put, List.setIfInBounds_toArray, List.set_cons_zero, List.set_cons_succ], .inr ⟨by simp, fun j hj => by simp [HALL.out j hj], ⟨_, _, _, _, _, HS.out, HN8.out, HM8.out, rfl⟩⟩⟩
              · exfalso
                have hi : i < 10 := (Array.getElem?_eq_some_iff.1 ho).1
                rcases Nat.lt_or_ge i 9 with h | h
                · rw [hall i h] at hLi; cases hLi
                · obtain rfl : i = 9 := by omega
                  rw [h10] at hLi; cases hLi
            · intro Ls a0 wq hall hJ
              obtain ⟨u39, u40, u41, u42, u43, u44, u45, u46, u47, rfl, ⟨h10, _⟩ | ⟨_, _, hcut⟩⟩ := hJ
              · rw [hall 9 (by decide)] at h10; cases h10
              · obtain ⟨wf, ro, co, ro2, co2, hs, hn, hn', rfl⟩ := hcut
                have hb := hs.1
                clear hs
                have hs_wf : W5.heap.size ≤ wf.heap.size := hb.size
                replace k_P_0 : wf.cell? ⟨wb.heap.size, 0, none⟩ = some (.bool (decide ((pn).num < 0))) := (hb.cell (p := ⟨wb.heap.size, 0, none⟩) hl_P).trans k_P_0
                replace k_P_1 : wf.cell? ⟨wb.heap.size, 1, none⟩ = some (.slice rn (nlen (pn).num.natAbs) cn) := (hb.cell (p := ⟨wb.heap.size, 1, none⟩) hl_P).trans k_P_1
                replace k_P_2 : wf.cell? ⟨wb.heap.size, 2, none⟩ = some (.slice rn2 (nlen (pn).den) cn2) := (hb.cell (p := ⟨wb.heap.size, 2, none⟩) hl_P).trans k_P_2
                replace f_P : ∀ o, wf.frozen? ⟨wb.heap.size, o, none⟩ = false := fun o => (hb.frozen (p := ⟨wb.heap.size, o, none⟩) hl_P).trans (f_P o)
                replace HX_P := Lib.hid (HX_P.out.below hb)
                replace k_Q_0 : wf.cell? ⟨wb.heap.size + 1, 0, none⟩ = some (.bool (decide ((pz).num < 0))) := (hb.cell (p := ⟨wb.heap.size + 1, 0, none⟩) hl_Q).trans k_Q_0
                replace k_Q_1 : wf.cell? ⟨wb.heap.size + 1, 1, none⟩ = some (.slice rz (nlen (pz).num.natAbs) cz) := (hb.cell (p := ⟨wb.heap.size + 1, 1, none⟩) hl_Q).trans k_Q_1
                replace k_Q_2 : wf.cell? ⟨wb.heap.size + 1, 2, none⟩ = some (.slice rz2 (nlen (pz).den) cz2) := (hb.cell (p := ⟨wb.heap.size + 1, 2, none⟩) hl_Q).trans k_Q_2
                replace f_Q : ∀ o, wf.frozen? ⟨wb.heap.size + 1, o, none⟩ = false := fun o => (hb.frozen (p := ⟨wb.heap.size + 1, o, none⟩) hl_Q).trans (f_Q o)
                replace HX_Q := Lib.hid (HX_Q.out.below hb)
                replace k_R_0 : wf.cell? ⟨w.heap.size, 0, none⟩ = some (.bool false) := (hb.cell (p := ⟨w.heap.size, 0, none⟩) hl_R).trans k_R_0
                replace k_R_1 : wf.cell? ⟨w.heap.size, 1, none⟩ = some (.slice none 0 0) := (hb.cell (p := ⟨w.heap.size, 1, none⟩) hl_R).trans k_R_1
                replace k_R_2 : wf.cell? ⟨w.heap.size, 2, none⟩ = some (.slice none 0 0) := (hb.cell (p := ⟨w.heap.size, 2, none⟩) hl_R).trans k_R_2
                replace f_R : ∀ o, wf.frozen? ⟨w.heap.size, o, none⟩ = false := fun o => (hb.frozen (p := ⟨w.heap.size, o, none⟩) hl_R).trans (f_R o)
                replace HX_R := Lib.hid (HX_R.out.below hb)
                replace k_R2_0 : wf.cell? ⟨w.heap.size + 1, 0, none⟩ = some (.bool false) := (hb.cell (p := ⟨w.heap.size + 1, 0, none⟩) hl_R2).trans k_R2_0
                replace k_R2_1 : wf.cell? ⟨w.heap.size + 1, 1, none⟩ = some (.slice none 0 0) := (hb.cell (p := ⟨w.heap.size + 1, 1, none⟩) hl_R2).trans k_R2_1
                replace k_R2_2 : wf.cell? ⟨w.heap.size + 1, 2, none⟩ = some (.slice none 0 0) := (hb.cell (p := ⟨w.heap.size + 1, 2, none⟩) hl_R2).trans k_R2_2
                replace f_R2 : ∀ o, wf.frozen? ⟨w.heap.size + 1, o, none⟩ = false := fun o => (hb.frozen (p := ⟨w.heap.size + 1, o, none⟩) hl_R2).trans (f_R2 o)
                replace HX_R2 := Lib.hid (HX_R2.out.below hb)
                replace k_T_0 : wf.cell? ⟨wr.heap.size, 0, none⟩ = some (.int .i64 ((x0 : Nat) : Int)) := (hb.cell (p := ⟨wr.heap.size, 0, none⟩) hl_T).trans k_T_0
                replace k_T_1 : wf.cell? ⟨wr.heap.size, 1, none⟩ = some (.int .i64 ((x1 : Nat) : Int)) := (hb.cell (p := ⟨wr.heap.size, 1, none⟩) hl_T).trans k_T_1
                replace k_T_2 : wf.cell? ⟨wr.heap.size, 2, none⟩ = some (.int .i64 ((x2 : Nat) : Int)) := (hb.cell (p := ⟨wr.heap.size, 2, none⟩) hl_T).trans k_T_2
                replace k_T_3 : wf.cell? ⟨wr.heap.size, 3, none⟩ = some (.int .i64 ((x3 : Nat) : Int)) := (hb.cell (p := ⟨wr.heap.size, 3, none⟩) hl_T).trans k_T_3
                replace f_T : ∀ o, wf.frozen? ⟨wr.heap.size, o, none⟩ = false := fun o => (hb.frozen (p := ⟨wr.heap.size, o, none⟩) hl_T).trans (f_T o)
                replace HX_T := Lib.hid (HX_T.out.below hb)
                replace Hs1 := Lib.hid (Hs1.out.below hb)
                replace Hs2 := Lib.hid (Hs2.out.below hb)
                replace Hz1 := Lib.hid (Hz1.out.below hb)
                replace Hz2 := Lib.hid (Hz2.out.below hb)
                replace Hn1 := Lib.hid (Hn1.out.below hb)
                replace Hn2 := Lib.hid (Hn2.out.below hb)
                replace HB := Lib.hid (HB.out.trans (hb.mono hs0))
                replace hN : N ≤ wf.heap.size := Nat.le_trans hN hb.size
                replace hs0 : w.heap.size ≤ wf.heap.size := Nat.le_trans hs0 hb.size
                replace hl_P : wb.heap.size < wf.heap.size := Nat.lt_of_lt_of_le hl_P hb.size
                replace hl_Q : wb.heap.size + 1 < wf.heap.size := Nat.lt_of_lt_of_le hl_Q hb.size
                replace hl_R : w.heap.size < wf.heap.size := Nat.lt_of_lt_of_le hl_R hb.size
                replace hl_R2 : w.heap.size + 1 < wf.heap.size := Nat.lt_of_lt_of_le hl_R2 hb.size
                replace hl_T : wr.heap.size < wf.heap.size := Nat.lt_of_lt_of_le hl_T hb.size
                clear hb
                have Ho1 := Lib.hid hn
                have Ho2 := Lib.hid hn'
                clear hn hn'
                simp only [Act.put, List.setIfInBounds_toArray, List.set_cons_zero, List.set_cons_succ]
                go_wp2_with fail
                go_roundw
                case rel =>
                  refine ⟨k + 1, pn, po, by omega, by go_num, HSN.out, HSM.out, ⟨rn, cn, rn2, cn2, ⟨by first | omega | (simp; done) | (simp; omega), by exact KpA, fun o => by first | with_reducible exact f_P o | (simp [go_sem, f_P]; done) | (simp [go_sem, f_P, hl_P]; done) | (go_simp; done) | (simp; done) | (simp [go_sem]; done) | (simp [go_sem, k_P_0, k_P_1, k_P_2, k_Q_0, k_Q_1, k_Q_2, k_R_0, k_R_1, k_R_2, k_R2_0, k_R2_1, k_R2_2, k_T_0, k_T_1, k_T_2, k_T_3, f_P, f_Q, f_R, f_R2, f_T, hl_P, hl_Q, hl_R, hl_R2, hl_T]; done), by first | with_reducible assumption | (simp [go_sem, k_P_0]; done) | (simp [go_sem, k_P_0, hl_P]; done) | (go_simp; done) | (simp; done) | (simp [go_sem]; done) | (simp [go_sem, k_P_0, k_P_1, k_P_2, k_Q_0, k_Q_1, k_Q_2, k_R_0, k_R_1, k_R_2, k_R2_0, k_R2_1, k_R2_2, k_T_0, k_T_1, k_T_2, k_T_3, f_P, f_Q, f_R, f_R2, f_T, hl_P, hl_Q, hl_R, hl_R2, hl_T]; done), by first | with_reducible assumption | (simp [go_sem, k_P_1]; done) | (simp [go_sem, k_P_1, hl_P]; done) | (go_simp; done) | (simp; done) | (simp [go_sem]; done) | (simp [go_sem, k_P_0, k_P_1, k_P_2, k_Q_0, k_Q_1, k_Q_2, k_R_0, k_R_1, k_R_2, k_R2_0, k_R2_1, k_R2_2, k_T_0, k_T_1, k_T_2, k_T_3, f_P, f_Q, f_R, f_R2, f_T, hl_P, hl_Q, hl_R, hl_R2, hl_T]; done), by first | with_reducible assumption | (simp [go_sem, k_P_2]; done) | (simp [go_sem, k_P_2, hl_P]; done) | (go_simp; done) | (simp; done) | (simp [go_sem]; done) | (simp [go_sem, k_P_0, k_P_1, k_P_2, k_Q_0, k_Q_1, k_Q_2, k_R_0, k_R_1, k_R_2, k_R2_0, k_R2_1, k_R2_2, k_T_0, k_T_1, k_T_2, k_T_3, f_P, f_Q, f_R, f_R2, f_T, hl_P, hl_Q, hl_R, hl_R2, hl_T]; done)⟩, Hn1.out.keep ?_, Hn2.out.keep ?_⟩, ⟨ro, co, ro2, co2, ⟨by first | omega | (simp; done) | (simp; omega), by exact KpA, fun o => by first | with_reducible exact f_Q o | (simp [go_sem, f_Q]; done) | (simp [go_sem, f_Q, hl_Q]; done) | (go_simp; done) | (simp; done) | (simp [go_sem]; done) | (simp [go_sem, k_P_0, k_P_1, k_P_2, k_Q_0, k_Q_1, k_Q_2, k_R_0, k_R_1, k_R_2, k_R2_0, k_R2_1, k_R2_2, k_T_0, k_T_1, k_T_2, k_T_3, f_P, f_Q, f_R, f_R2, f_T, hl_P, hl_Q, hl_R, hl_R2, hl_T]; done), by first | with_reducible assumption | (simp [go_sem, k_Q_0]; done) | (simp [go_sem, k_Q_0, hl_Q]; done) | (go_simp; done) | (simp; done) | (simp [go_sem]; done) | (simp [go_sem, k_P_0, k_P_1, k_P_2, k_Q_0, k_Q_1, k_Q_2, k_R_0, k_R_1, k_R_2, k_R2_0, k_R2_1, k_R2_2, k_T_0, k_T_1, k_T_2, k_T_3, f_P, f_Q, f_R, f_R2, f_T, hl_P, hl_Q, hl_R, hl_R2, hl_T]; done), by first | with_reducible assumption | (simp [go_sem, k_Q_1]; done) | (simp [go_sem, k_Q_1, hl_Q]; done) | (go_simp; done) | (simp; done) | (simp [go_sem]; done) | (simp [go_sem, k_P_0, k_P_1, k_P_2, k_Q_0, k_Q_1, k_Q_2, k_R_0, k_R_1, k_R_2, k_R2_0, k_R2_1, k_R2_2, k_T_0, k_T_1, k_T_2, k_T_3, f_P, f_Q, f_R, f_R2, f_T, hl_P, hl_Q, hl_R, hl_R2, hl_T]; done), by first | with_reducible assumption | (simp [go_sem, k_Q_2]; done) | (simp [go_sem, k_Q_2, hl_Q]; done) | (go_simp; done) | (simp; done) | (simp [go_sem]; done) | (simp [go_sem, k_P_0, k_P_1, k_P_2, k_Q_0, k_Q_1, k_Q_2, k_R_0, k_R_1, k_R_2, k_R2_0, k_R2_1, k_R2_2, k_T_0, k_T_1, k_T_2, k_T_3, f_P, f_Q, f_R, f_R2, f_T, hl_P, hl_Q, hl_R, hl_R2, hl_T]; done)⟩, Ho1.out.keep ?_, Ho2.out.keep ?_⟩, ⟨by first | omega | (simp; done) | (simp; omega), by exact KpA, fun o => by first | with_reducible exact f_R o | (simp [go_sem, f_R]; done) | (simp [go_sem, f_R, hl_R]; done) | (go_simp; done) | (simp; done) | (simp [go_sem]; done) | (simp [go_sem, k_P_0, k_P_1, k_P_2, k_Q_0, k_Q_1, k_Q_2, k_R_0, k_R_1, k_R_2, k_R2_0, k_R2_1, k_R2_2, k_T_0, k_T_1, k_T_2, k_T_3, f_P, f_Q, f_R, f_R2, f_T, hl_P, hl_Q, hl_R, hl_R2, hl_T]; done), by first | with_reducible assumption | (simp [go_sem, k_R_0]; done) | (simp [go_sem, k_R_0, hl_R]; done) | (go_simp; done) | (simp; done) | (simp [go_sem]; done) | (simp [go_sem, k_P_0, k_P_1, k_P_2, k_Q_0, k_Q_1, k_Q_2, k_R_0, k_R_1, k_R_2, k_R2_0, k_R2_1, k_R2_2, k_T_0, k_T_1, k_T_2, k_T_3, f_P, f_Q, f_R, f_R2, f_T, hl_P, hl_Q, hl_R, hl_R2, hl_T]; done), by first | with_reducible assumption | (simp [go_sem, k_R_1]; done) | (simp [go_sem, k_R_1, hl_R]; done) | (go_simp; done) | (simp; done) | (simp [go_sem]; done) | (simp [go_sem, k_P_0, k_P_1, k_P_2, k_Q_0, k_Q_1, k_Q_2, k_R_0, k_R_1, k_R_2, k_R2_0, k_R2_1, k_R2_2, k_T_0, k_T_1, k_T_2, k_T_3, f_P, f_Q, f_R, f_R2, f_T, hl_P, hl_Q, hl_R, hl_R2, hl_T]; done), by first | with_reducible assumption | (simp [go_sem, k_R_2]; done) | (simp [go_sem, k_R_2, hl_R]; done) | (go_simp; done) | (simp; done) | (simp [go_sem]; done) | (simp [go_sem, k_P_0, k_P_1, k_P_2, k_Q_0, k_Q_1, k_Q_2, k_R_0, k_R_1, k_R_2, k_R2_0, k_R2_1, k_R2_2, k_T_0, k_T_1, k_T_2, k_T_3, f_P, f_Q, f_R, f_R2, f_T, hl_P, hl_Q, hl_R, hl_R2, hl_T]; done)⟩, ⟨by first | omega | (simp; done) | (simp; omega), by exact KpA, fun o => by first | with_reducible exact f_R2 o | (simp [go_sem, f_R2]; done) | (simp [go_sem, f_R2, hl_R2]; done) | (go_simp; done) | (simp; done) | (simp [go_sem]; done) | (simp [go_sem, k_P_0, k_P_1, k_P_2, k_Q_0, k_Q_1, k_Q_2, k_R_0, k_R_1, k_R_2, k_R2_0, k_R2_1, k_R2_2, k_T_0, k_T_1, k_T_2, k_T_3, f_P, f_Q, f_R, f_R2, f_T, hl_P, hl_Q, hl_R, hl_R2, hl_T]; done), by first | with_reducible assumption | (simp [go_sem, k_R2_0]; done) | (simp [go_sem, k_R2_0, hl_R2]; done) | (go_simp; done) | (simp; done) | (simp [go_sem]; done) | (simp [go_sem, k_P_0, k_P_1, k_P_2, k_Q_0, k_Q_1, k_Q_2, k_R_0, k_R_1, k_R_2, k_R2_0, k_R2_1, k_R2_2, k_T_0, k_T_1, k_T_2, k_T_3, f_P, f_Q, f_R, f_R2, f_T, hl_P, hl_Q, hl_R, hl_R2, hl_T]; done), by first | with_reducible assumption | (simp [go_sem, k_R2_1]; done) | (simp [go_sem, k_R2_1, hl_R2]; done) | (go_simp; done) | (simp; done) | (simp [go_sem]; done) | (simp [go_sem, k_P_0, k_P_1, k_P_2, k_Q_0, k_Q_1, k_Q_2, k_R_0, k_R_1, k_R_2, k_R2_0, k_R2_1, k_R2_2, k_T_0, k_T_1, k_T_2, k_T_3, f_P, f_Q, f_R, f_R2, f_T, hl_P, hl_Q, hl_R, hl_R2, hl_T]; done), by first | with_reducible assumption | (simp [go_sem, k_R2_2]; done) | (simp [go_sem, k_R2_2, hl_R2]; done) | (go_simp; done) | (simp; done) | (simp [go_sem]; done) | (simp [go_sem, k_P_0, k_P_1, k_P_2, k_Q_0, k_Q_1, k_Q_2, k_R_0, k_R_1, k_R_2, k_R2_0, k_R2_1, k_R2_2, k_T_0, k_T_1, k_T_2, k_T_3, f_P, f_Q, f_R, f_R2, f_T, hl_P, hl_Q, hl_R, hl_R2, hl_T]; done)⟩, ?_, ?_⟩
                  all_goals exact KBA
                case measure => simp [intOf]; omega
    · obtain rfl : k = n := by omega
      obtain rfl : ps = p := HPS.out.symm.trans HP.out
      obtain rfl : pz = q := HPZ.out.symm.trans HQ.out
      go_wp2_with fail
      refine region_name fun W7 hW => ?_
      have HL_W7 := Lib.hid (show Below wr.heap.size wr W7 by rw [← hW]; exact BlA)
      have hs_W7 : wr.heap.size ≤ W7.heap.size := by rw [← hW]; (first | omega | (simp; done) | (simp; omega))
      have HK_W7 := Lib.hid (show Kp N wr W7 by rw [← hW]; exact KpA)
      replace k_P_0 : W7.cell? ⟨wb.heap.size, 0, none⟩ = some (.bool (decide ((ps).num < 0))) := (HL_W7.out.cell (p := ⟨wb.heap.size, 0, none⟩) hl_P).trans k_P_0
      replace k_P_1 : W7.cell? ⟨wb.heap.size, 1, none⟩ = some (.slice rs (nlen (ps).num.natAbs) cs) := (HL_W7.out.cell (p := ⟨wb.heap.size, 1, none⟩) hl_P).trans k_P_1
      replace k_P_2 : W7.cell? ⟨wb.heap.size, 2, none⟩ = some (.slice rs2 (nlen (ps).den) cs2) := (HL_W7.out.cell (p := ⟨wb.heap.size, 2, none⟩) hl_P).trans k_P_2
      replace f_P : ∀ o, W7.frozen? ⟨wb.heap.size, o, none⟩ = false := fun o => (HL_W7.out.frozen (p := ⟨wb.heap.size, o, none⟩) hl_P).trans (f_P o)
      replace HX_P := Lib.hid (show Bn W7 (wb.heap.size) by rw [← hW]; exact KpA)
      replace k_Q_0 : W7.cell? ⟨wb.heap.size + 1, 0, none⟩ = some (.bool (decide ((pz).num < 0))) := (HL_W7.out.cell (p := ⟨wb.heap.size + 1, 0, none⟩) hl_Q).trans k_Q_0
      replace k_Q_1 : W7.cell? ⟨wb.heap.size + 1, 1, none⟩ = some (.slice rz (nlen (pz).num.natAbs) cz) := (HL_W7.out.cell (p := ⟨wb.heap.size + 1, 1, none⟩) hl_Q).trans k_Q_1
      replace k_Q_2 : W7.cell? ⟨wb.heap.size + 1, 2, none⟩ = some (.slice rz2 (nlen (pz).den) cz2) := (HL_W7.out.cell (p := ⟨wb.heap.size + 1, 2, none⟩) hl_Q).trans k_Q_2
      replace f_Q : ∀ o, W7.frozen? ⟨wb.heap.size + 1, o, none⟩ = false := fun o => (HL_W7.out.frozen (p := ⟨wb.heap.size + 1, o, none⟩) hl_Q).trans (f_Q o)
      replace HX_Q := Lib.hid (show Bn W7 (wb.heap.size + 1) by rw [← hW]; exact KpA)
      replace k_R_0 : W7.cell? ⟨w.heap.size, 0, none⟩ = some (.bool false) := (HL_W7.out.cell (p := ⟨w.heap.size, 0, none⟩) hl_R).trans k_R_0
      replace k_R_1 : W7.cell? ⟨w.heap.size, 1, none⟩ = some (.slice none 0 0) := (HL_W7.out.cell (p := ⟨w.heap.size, 1, none⟩) hl_R).trans k_R_1
      replace k_R_2 : W7.cell? ⟨w.heap.size, 2, none⟩ = some (.slice none 0 0) := (HL_W7.out.cell (p := ⟨w.heap.size, 2, none⟩) hl_R).trans k_R_2
      replace f_R : ∀ o, W7.frozen? ⟨w.heap.size, o, none⟩ = false := fun o => (HL_W7.out.frozen (p := ⟨w.heap.size, o, none⟩) hl_R).trans (f_R o)
      replace HX_R := Lib.hid (show Bn W7 (w.heap.size) by rw [← hW]; exact KpA)
      replace k_R2_0 : W7.cell? ⟨w.heap.size + 1, 0, none⟩ = some (.bool false) := (HL_W7.out.cell (p := ⟨w.heap.size + 1, 0, none⟩) hl_R2).trans k_R2_0
      replace k_R2_1 : W7.cell? ⟨w.heap.size + 1, 1, none⟩ = some (.slice none 0 0) := (HL_W7.out.cell (p := ⟨w.heap.size + 1, 1, none⟩) hl_R2).trans k_R2_1
      replace k_R2_2 : W7.cell? ⟨w.heap.size + 1, 2, none⟩ = some (.slice none 0 0) := (HL_W7.out.cell (p := ⟨w.heap.size + 1, 2, none⟩) hl_R2).trans k_R2_2
      replace f_R2 : ∀ o, W7.frozen? ⟨w.heap.size + 1, o, none⟩ = false := fun o => (HL_W7.out.frozen (p := ⟨w.heap.size + 1, o, none⟩) hl_R2).trans (f_R2 o)
      replace HX_R2 := Lib.hid (show Bn W7 (w.heap.size + 1) by rw [← hW]; exact KpA)
      replace Hs1 := Lib.hid (Hs1.out.keep HK_W7.out)
      replace Hs2 := Lib.hid (Hs2.out.keep HK_W7.out)
      replace Hz1 := Lib.hid (Hz1.out.keep HK_W7.out)
      replace Hz2 := Lib.hid (Hz2.out.keep HK_W7.out)
      replace HB := Lib.hid (show Below w.heap.size w W7 by rw [← hW]; exact BlA)
      replace hN : N ≤ W7.heap.size := by rw [← hW]; (first | omega | (simp; done) | (simp; omega))
      replace hs0 : w.heap.size ≤ W7.heap.size := by rw [← hW]; (first | omega | (simp; done) | (simp; omega))
      replace hl_P : wb.heap.size < W7.heap.size := by rw [← hW]; (first | omega | (simp; done) | (simp; omega))
      replace hl_Q : wb.heap.size + 1 < W7.heap.size := by rw [← hW]; (first | omega | (simp; done) | (simp; omega))
      replace hl_R : w.heap.size < W7.heap.size := by rw [← hW]; (first | omega | (simp; done) | (simp; omega))
      replace hl_R2 : w.heap.size + 1 < W7.heap.size := by rw [← hW]; (first | omega | (simp; done) | (simp; omega))
      clear HL_W7
      clear hW HK_W7
      go_region
      all_goals go_wp2_with fail
      all_goals refine bodyPost_ret (v := .tuple #[.agg #[.bool (decide ((ps).num < 0)), .slice rs (nlen (ps).num.natAbs) cs, .slice rs2 (nlen (ps).den) cs2], .agg #[.bool (decide ((pz).num < 0)), .slice rz (nlen (pz).num.natAbs) cz, .slice rz2 (nlen (pz).den) cz2], .int .i64 0]) (by simp [results, Tryd.results9, go_sem, k_R_0, k_R_1, k_R_2, k_R2_0, k_R2_1, k_R2_2]) rfl ⟨_, _, _, _, _, _, _, _, rfl, Hs1.out.keep ?_, Hs2.out.keep ?_, Hz1.out.keep ?_, Hz2.out.keep ?_, ?_⟩
      all_goals exact KBA

end Go.Proofs.YtmecipfdelgfbaaDoor
