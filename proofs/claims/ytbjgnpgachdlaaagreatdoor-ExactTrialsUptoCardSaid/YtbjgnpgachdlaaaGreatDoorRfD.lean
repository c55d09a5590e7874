/- Contracts of the reference's product and Convolve (chapter 7). -/
import Derived.Test.YtbjgnpgachdlaaaGreatDoorRfS
namespace Go.Proofs.YtbjgnpgachdlaaaGreatDoor
open Go.RowKit

/-- the elements below k are those of the convolution, element k is the sum of its first i terms -/
def rowP (x : Nat → Rat) (n : Nat) (y : Nat → Rat) (m k i j : Nat) : Rat := if j < k then cnv x n y m j else sQ (cnvT x y m k) i
theorem rowP_at (x : Nat → Rat) (n : Nat) (y : Nat → Rat) (m k i : Nat) : rowP x n y m k i k = sQ (cnvT x y m k) i := by unfold rowP; rw [if_neg (Nat.lt_irrefl k)]
theorem rowP_old {x : Nat → Rat} {n : Nat} {y : Nat → Rat} {m k i j : Nat} (h : j < k) : rowP x n y m k i j = cnv x n y m j := by unfold rowP; rw [if_pos h]
theorem cnv_end (x : Nat → Rat) (n : Nat) (y : Nat → Rat) (m k i : Nat) (hi : i ≤ n) (h : ¬ (i ≤ k ∧ i < n)) (hk : i ≤ k + 1) : sQ (cnvT x y m k) i = cnv x n y m k := by
  unfold cnv
  exact (sQ_ext' hi (fun j h1 _ => by unfold cnvT; rw [if_neg (by omega)])).symm
theorem rowP_end (x : Nat → Rat) (n : Nat) (y : Nat → Rat) (m k i : Nat) (hi : i ≤ n) (h : ¬ (i ≤ k ∧ i < n)) (hk : i ≤ k + 1) : ∀ j, j < k + 1 → rowP x n y m k i j = cnv x n y m j := by
  intro j hj
  rcases Nat.lt_or_ge j k with h1 | h1
  · exact rowP_old h1
  · obtain rfl : j = k := by omega
    rw [rowP_at]; exact cnv_end x n y m j i hi h hk
theorem rowP_skip (x : Nat → Rat) (n : Nat) (y : Nat → Rat) (m k i : Nat) (h : m ≤ k - i) : ∀ j, j < k + 1 → rowP x n y m k i j = rowP x n y m k (i + 1) j := by
  intro j hj
  rcases Nat.lt_or_ge j k with h1 | h1
  · rw [rowP_old h1, rowP_old h1]
  · obtain rfl : j = k := by omega
    rw [rowP_at, rowP_at]
    show _ = sQ (cnvT x y m j) i + cnvT x y m j i
    have e : cnvT x y m j i = 0 := by unfold cnvT; rw [if_neg (by omega)]
    rw [e]; grind
theorem Rl.redo {N : Nat} {w : World} {b n k : Nat} {q q' : Nat → Rat} (h : Rl N w b n (k + 1) q) (hN : N ≤ b) (hk : k < n) (e : ∀ j, j < k → q j = q' j) (p : Rat) (hp : q' k = p) {r r2 : Option Addr} {c c2 : Nat} (h1 : Nt N w r (nlen p.num.natAbs) c p.num.natAbs) (h2 : Nt N w r2 (nlen p.den) c2 p.den) :
    Rl N (((w.setCell ⟨b, k * 3, none⟩ (.bool (decide (p.num < 0)))).setCell ⟨b, k * 3 + 1, none⟩ (.slice r (nlen p.num.natAbs) c)).setCell ⟨b, k * 3 + 2, none⟩ (.slice r2 (nlen p.den) c2)) b n (k + 1) q' := by
  subst hp
  have h0 : Rl N w b n k q := ⟨h.1, fun i hi => h.2 i (by omega)⟩
  exact Rl.step (h0.congr e) hN hk h1 h2
theorem Rl.next {N : Nat} {w : World} {b n k : Nat} {q q' : Nat → Rat} (h : Rl N w b n k q) (hN : N ≤ b) (hk : k < n) (e : ∀ j, j < k → q j = q' j) (p : Rat) (hp : q' k = p) {r r2 : Option Addr} {c c2 : Nat} (h1 : Nt N w r (nlen p.num.natAbs) c p.num.natAbs) (h2 : Nt N w r2 (nlen p.den) c2 p.den) :
    Rl N (((w.setCell ⟨b, k * 3, none⟩ (.bool (decide (p.num < 0)))).setCell ⟨b, k * 3 + 1, none⟩ (.slice r (nlen p.num.natAbs) c)).setCell ⟨b, k * 3 + 2, none⟩ (.slice r2 (nlen p.den) c2)) b n (k + 1) q' := by
  subst hp
  exact Rl.step (h.congr e) hN hk h1 h2
/-- three cells of block g were set to q in normal form, as the last thing since W -/
def CutAt (N : Nat) (W : World) (g o : Nat) (q : Rat) (w : World) : Prop :=
  ∃ w1 r c r2 c2, Since W w1 ∧ Nt N w1 r (nlen q.num.natAbs) c q.num.natAbs ∧ Nt N w1 r2 (nlen q.den) c2 q.den ∧ w = ((w1.setCell ⟨g, o, none⟩ (.bool (decide (q.num < 0)))).setCell ⟨g, o + 1, none⟩ (.slice r (nlen q.num.natAbs) c)).setCell ⟨g, o + 2, none⟩ (.slice r2 (nlen q.den) c2)
theorem cnvT_rsz {x y : Nat → Rat} {n m k L L' : Nat} (hx : ∀ i, i < n → rsz (x i) ≤ L) (hy : ∀ i, i < m → rsz (y i) ≤ L') (h1 : 1 ≤ L) : ∀ i, i < n → rsz (cnvT x y m k i) ≤ L + L' := by
  intro i hi
  unfold cnvT
  by_cases h : i ≤ k ∧ k - i < m
  · rw [if_pos h]
    have := rsz_mul (x i) (y (k - i))
    have := hx i hi
    have := hy (k - i) h.2
    omega
  · rw [if_neg h]
    have : rsz (0 : Rat) ≤ 1 := by decide +kernel
    omega
theorem wrap_nm (n m M : Nat) (h : n + m = M + 1) (hM : M ≤ 1000) : IntKind.i64.wrap (IntKind.i64.wrap ((n : Int) + (m : Int)) - 1) = (M : Int) := by
  rw [IntKind.wrap_i64, IntKind.wrap_i64]; omega
theorem wrap_ki (k i e : Nat) (h : k - i = e) (hik : i ≤ k) (hk : k ≤ 1000) : IntKind.i64.wrap ((k : Int) - (i : Int)) = (e : Int) := by
  rw [IntKind.wrap_i64]; omega

def PrdJ (N B M n ca m cb k i e : Nat) (ps pm pn : Rat) (s1 s2 : Bool) (ra da rb db : Option Addr) (rn1 rc1 dn1 dc1 rn2 rc2 dn2 dc2 b1 o1 b2 o2 : Nat) (r0 r02 : Option Addr) (e0 e02 : Nat) (W : World) (z0 : Act) (L : Nat → Bool) (z1 : Act) (w : World) : Prop :=
  ∃ u42 u43 u44 u45 u46 u47 u48 u49 u50 u51 u52 u53 u54 u55 u56 u57 u58 u59 u60, z1 = (((((((((((((((((((z0.put (some 42) u42).put (some 43) u43).put (some 44) u44).put (some 45) u45).put (some 46) u46).put (some 47) u47).put (some 48) u48).put (some 49) u49).put (some 50) u50).put (some 51) u51).put (some 52) u52).put (some 53) u53).put (some 54) u54).put (some 55) u55).put (some 56) u56).put (some 57) u57).put (some 58) u58).put (some 59) u59).put (some 60) u60) ∧
    ((L 19 = false ∧ Since W w ∧ (L 0 = true → u42 = .slice (some ⟨B, 0, none⟩) M M) ∧ (L 1 = true → u43 = .int .i64 k) ∧ (L 2 = true → u44 = .slice (some ⟨B, 0, none⟩) M M) ∧ (L 3 = true → u45 = .int .i64 k) ∧ (L 4 = true → u46 = .pointer (some ⟨B, k * 3, none⟩)) ∧ (L 5 = true → u47 = .agg #[.bool (decide (ps.num < 0)), .slice r0 (nlen ps.num.natAbs) e0, .slice r02 (nlen ps.den) e02]) ∧ (L 6 = true → u48 = .slice (some ⟨b1, o1, none⟩) n ca) ∧ (L 7 = true → u49 = .int .i64 i) ∧ (L 8 = true → u50 = .pointer (some ⟨b1, o1 + i * 3, none⟩)) ∧ (L 9 = true → u51 = .agg #[.bool s1, .slice ra rn1 rc1, .slice da dn1 dc1]) ∧ (L 10 = true → u52 = .slice (some ⟨b2, o2, none⟩) m cb) ∧ (L 11 = true → u53 = .int .i64 k) ∧ (L 12 = true → u54 = .int .i64 i) ∧ (L 13 = true → u55 = .int .i64 e) ∧ (L 14 = true → u56 = .pointer (some ⟨b2, o2 + e * 3, none⟩)) ∧ (L 15 = true → u57 = .agg #[.bool s2, .slice rb rn2 rc2, .slice db dn2 dc2]) ∧ (L 16 = true → IsRat N pm u58 w) ∧ (L 17 = true → IsRat N pn u59 w) ∧ (L 18 = true → u60 = .pointer (some ⟨B, k * 3, none⟩))) ∨
     (L 19 = true ∧ (∀ j, j < 19 → L j = true) ∧ CutAt N W B (k * 3) pn w))


set_option maxHeartbeats 16000000 in
theorem xprod_any {N : Nat} (a b : Option Addr) (n ca m cb : Nat) (x y : Nat → Rat) (L L' : Nat) (w : World) (hN : N ≤ w.heap.size) (h : Rs N w a n ca x L) (h' : Rs N w b m cb y L') (hL : L ≤ 4194304) (hL' : L' ≤ 4194304) (n0 : 0 < n) (m0 : 0 < m) (M : Nat) (hM : n + m = M + 1) (hshort : M ≤ 121) (p : Nat → Rat) (hp : ∀ k, k < M → cnv x n y m k = p k) :
    Calls Tryz.prog 53 #[.slice a n ca, .slice b m cb] w fun e w' => ∃ g, e = .returned (.slice (some ⟨g, 0, none⟩) M M) ∧ g < w'.heap.size ∧ Rl N w' g M M p ∧ Below w.heap.size w w' := by
  have hN0 := hN
  obtain ⟨B, hB⟩ : ∃ B, w.heap.size = B := ⟨_, rfl⟩
  have hNB : N ≤ B := by omega
  have hBw : w.heap.size ≤ B := by omega
  obtain ⟨p0, hp0⟩ : ∃ p : Rat, ((0 : Nat) : Rat) = p := ⟨_, rfl⟩
  have HE0 := Lib.hid (show sQ (cnvT x y m 0) 0 = p0 from (natQ_zero p0 hp0).symm)
  have HP0 := Lib.hid hp0
  have HLa := Lib.hid h.lim
  have HLb := Lib.hid h'.lim
  have HA := Lib.hid h
  have HC := Lib.hid h'
  have HCV := Lib.hid hp
  have bc1 := h.1
  have bc2 := h.2.1
  have bd1 := h'.1
  have bd2 := h'.2.1
  unfold maxLen at bc2 bd2
  have hL1 : 1 ≤ L := by have h1 := h.lim 0 (by omega); have h2 := (x 0).den_pos; have h3 : 1 ≤ nlen (x 0).den := (by have := nlen_pos (Nat.pos_iff_ne_zero.1 h2); omega); unfold rsz at h1; omega
  obtain ⟨LIM, hLL, hLM⟩ : ∃ l : Nat, 121 * (L + L' + 1) + 1 ≤ l ∧ l ≤ 68719476736 := ⟨121 * (L + L' + 1) + 1, Nat.le_refl _, by omega⟩
  have hmk := make_rats M (by omega)
  have hw1 := wrap_nm n m M hM (by omega)
  have hw2 : (n : Int) + (m : Int) - 1 = (M : Int) := by omega
  clear hp0 hp h h'
  go_enter Tryz.func53, Tryz.ntmps53
  go_wp2_with fail
  go_loopw [6] (fun i wr => ∃ k, k ≤ M ∧ i = .int .i64 ((k : Nat) : Int) ∧ Rl N wr B M k (cnv x n y m) ∧ Below w.heap.size w wr ∧ w.heap.size < wr.heap.size) (fun i _ => M - (intOf i).toNat)
  case atStart => exact ⟨0, Nat.zero_le _, rfl, by rw [← hB]; exact Rl.made N w M _, bel1 w _, by simp⟩
  case round =>
    obtain ⟨k, hk, rfl, hrow, hbel, hsz⟩ := hrel
    have HRow := Lib.hid hrow
    have HB := Lib.hid hbel
    have hs0 : w.heap.size ≤ wr.heap.size := by omega
    clear hN
    have hN : N ≤ wr.heap.size := by omega
    clear hrow hbel hmk
    by_cases hkM : k < M
    · have d1 : decide ((k : Int) < (M : Int)) = true := by simp; omega
      have d1' : decide (k < M) = true := by simp; omega
      have hx1 : (0 : Int) ≤ (k : Int) := by omega
      have hx2 : (k : Int) < (M : Int) := by omega
      go_wp2_with fail
      refine calls_name fun W1 hW => ?_
      have hs_W1 : wr.heap.size ≤ W1.heap.size := by rw [← hW]; (first | omega | (simp; done) | (simp; omega))
      have HL_W1 := Lib.hid (show Below wr.heap.size wr W1 by rw [← hW]; exact BlA)
      replace HB := Lib.hid (show Below w.heap.size w W1 by rw [← hW]; exact BlA)
      replace hN : N ≤ W1.heap.size := by rw [← hW]; (first | omega | (simp; done) | (simp; omega))
      replace hs0 : w.heap.size ≤ W1.heap.size := by rw [← hW]; (first | omega | (simp; done) | (simp; omega))
      replace HRow := Lib.hid (HRow.out.below HL_W1.out)
      clear HL_W1
      clear hW
      have lt_HRow := HRow.out.lt
      refine (Whole_z (N := N) 0 0 rfl _ hN (by omega) p0 HP0.out).mono ?_
      rintro e wa ⟨rz, cz, rz2, cz2, rfl, hn, hn', hb⟩
      have hs_wa : W1.heap.size ≤ wa.heap.size := hb.size
      replace HB := Lib.hid (HB.out.trans (hb.mono hs0))
      replace hN : N ≤ wa.heap.size := Nat.le_trans hN hb.size
      replace hs0 : w.heap.size ≤ wa.heap.size := Nat.le_trans hs0 hb.size
      replace HRow := Lib.hid (HRow.out.below hb)
      clear hb
      have HZ1 := Lib.hid hn
      clear hn
      have HZ2 := Lib.hid hn'
      clear hn'
      obtain ⟨v0, q0⟩ := HRow.out.1.cell (o := k * 3) (by omega)
      obtain ⟨v1, q1⟩ := HRow.out.1.cell (o := k * 3 + 1) (by omega)
      obtain ⟨v2, q2⟩ := HRow.out.1.cell (o := k * 3 + 2) (by omega)
      have fz := HRow.out.1.frozen
      go_wp2_with fail
      go_loopw [7] (fun v wr => ∃ i, i ≤ n ∧ i ≤ k + 1 ∧ v = .int .i64 ((i : Nat) : Int) ∧ Rl N wr B M (k + 1) (rowP x n y m k i) ∧ Below w.heap.size w wr ∧ w.heap.size < wr.heap.size) (fun v _ => n - (intOf v).toNat)
      case atStart => exact ⟨0, Nat.zero_le _, Nat.zero_le _, rfl, HRow.out.next hNB (by omega) (fun j hj => by rw [rowP_old hj]) p0 (by rw [rowP_at]; exact HE0.out) HZ1.out HZ2.out, ((HB.out.setCell hBw _).setCell hBw _).setCell hBw _, by simp [World.setCell]; have := HRow.out.lt; omega⟩
      case round =>
        clear HZ1 HZ2 q0 q1 q2 fz d1 d1' lt_HRow
        obtain ⟨i, hi1, hi2, rfl, hrow, hbel, hsz⟩ := hrel
        clear HRow HB hs0 hN
        have HRow := Lib.hid hrow
        have HB := Lib.hid hbel
        have hs0 : w.heap.size ≤ wr.heap.size := by omega
        have hN : N ≤ wr.heap.size := by omega
        have HAr := Lib.hid (HA.out.below hbel)
        have HCr := Lib.hid (HC.out.below hbel)
        clear hrow hbel
        by_cases hin : i ≤ k ∧ i < n
        · obtain ⟨hik, hin⟩ := hin
          have d2 : decide ((i : Int) ≤ (k : Int)) = true := by simp; omega
          have d2' : decide (i ≤ k) = true := by simp; omega
          have d3 : decide ((i : Int) < (n : Int)) = true := by simp; omega
          have d3' : decide (i < n) = true := by simp; omega
          obtain ⟨e, he⟩ : ∃ e : Nat, k - i = e := ⟨_, rfl⟩
          have hwe := wrap_ki k i e he hik (by omega)
          have hwe2 : (k : Int) - (i : Int) = (e : Int) := by omega
          by_cases hem : e < m
          · have d4 : decide ((e : Int) < (m : Int)) = true := by simp; omega
            have d4' : decide (e < m) = true := by simp; omega
            obtain ⟨b1, o1, rfl, hc1⟩ := HAr.out.2.2 (by omega)
            obtain ⟨s1, ra, rn1, rc1, da, dn1, dc1, g0, g1, g2, hra⟩ := hc1 i hin
            obtain ⟨b2, o2, rfl, hc2⟩ := HCr.out.2.2 (by omega)
            obtain ⟨s2, rb, rn2, rc2, db, dn2, dc2, g3, g4, g5, hrb⟩ := hc2 e hem
            obtain ⟨r0, e0, r02, e02, g6, g7, g8, hn0, hm0⟩ := HRow.out.2 k (by omega)
            obtain ⟨ps, hps⟩ : ∃ p, sQ (cnvT x y m k) i = p := ⟨_, rfl⟩
            rw [rowP_at, hps] at g6 g7 g8 hn0 hm0
            have HN0 := Lib.hid hn0
            have HM0 := Lib.hid hm0
            have HRa := Lib.hid hra
            have HRb := Lib.hid hrb
            have hl1 : b1 < wr.heap.size := World.block_lt_of_cell? wr _ g0
            have hl2 : b2 < wr.heap.size := World.block_lt_of_cell? wr _ g3
            have hlo : B < wr.heap.size := World.block_lt_of_cell? wr _ g6
            have fo := HRow.out.1.frozen
            clear hc1 hc2 hra hrb hn0 hm0 HAr HCr
            obtain ⟨pm, hpm⟩ : ∃ p, x i * y e = p := ⟨_, rfl⟩
            have HPM := Lib.hid hpm
            have HZM := Lib.hid (show rsz pm ≤ L + L' by rw [← hpm]; have h1 := rsz_mul (x i) (y e); have h2 := HLa.out i hin; have h3 := HLb.out e hem; omega)
            have HZS := Lib.hid (show rsz ps ≤ LIM by rw [← hps]; have h1 := sQ_rsz (q := cnvT x y m k) (k := i) (L := L + L') (fun j hj => cnvT_rsz HLa.out HLb.out hL1 j (by omega)); have h2 : i * (L + L' + 1) ≤ 121 * (L + L' + 1) := Nat.mul_le_mul_right _ (by omega); omega)
            obtain ⟨pn, hpn⟩ : ∃ p, ps + pm = p := ⟨_, rfl⟩
            have HPN := Lib.hid hpn
            have HSN := Lib.hid (show rowP x n y m k (i + 1) k = pn by rw [rowP_at, ← hpn, ← hps, ← hpm]; show sQ (cnvT x y m k) i + cnvT x y m k i = _; unfold cnvT; rw [if_pos (show i ≤ k ∧ k - i < m by omega), he])
            clear hps hpm hpn
            have hx1 : (0 : Int) ≤ (k : Int) := by omega
            have hx2 : (k : Int) < (M : Int) := by omega
            have hx3 : (0 : Int) ≤ (i : Int) := by omega
            have hx4 : (i : Int) < (n : Int) := by omega
            have hx5 : (0 : Int) ≤ (e : Int) := by omega
            have hx6 : (e : Int) < (m : Int) := by omega
            go_wp2_with fail
            refine region_name fun W5 hW => ?_
            have hs_W5 : wr.heap.size ≤ W5.heap.size := by rw [← hW]; (first | omega | (simp; done) | (simp; omega))
            have HK_W5 := Lib.hid (show Kp N wr W5 by rw [← hW]; exact KpA)
            rw [hW] at g0 g1 g2 g3 g4 g5 g6 g7 g8 hl1 hl2 hlo fo
            have HL_W5 := Lib.hid (show Below wr.heap.size wr W5 by rw [← hW]; exact BlA)
            replace HN0 := Lib.hid (HN0.out.keep HK_W5.out)
            replace HM0 := Lib.hid (HM0.out.keep HK_W5.out)
            replace HRa := Lib.hid (HRa.out.keep HK_W5.out)
            replace HRb := Lib.hid (HRb.out.keep HK_W5.out)
            replace HB := Lib.hid (show Below w.heap.size w W5 by rw [← hW]; exact BlA)
            replace hN : N ≤ W5.heap.size := by rw [← hW]; (first | omega | (simp; done) | (simp; omega))
            replace hs0 : w.heap.size ≤ W5.heap.size := by rw [← hW]; (first | omega | (simp; done) | (simp; omega))
            replace HRow := Lib.hid (HRow.out.below HL_W5.out)
            clear HL_W5
            clear hW HK_W5
            have lt_HRow := HRow.out.lt
            refine region_inv2 (by kernel_rfl) (PrdJ N B M n ca m cb k i e ps pm pn s1 s2 ra da rb db rn1 rc1 dn1 dc1 rn2 rc2 dn2 dc2 b1 o1 b2 o2 r0 r02 e0 e02 (W5)) ?_ ?_ ?_ ?_
            · exact ⟨u42, u43, u44, u45, u46, u47, u48, u49, u50, u51, u52, u53, u54, u55, u56, u57, u58, u59, u60, by simp only [Act.put, List.setIfInBounds_toArray, List.set_cons_zero, List.set_cons_succ], .inl ⟨rfl, Since.drawn _, (fun h => by cases h), (fun h => by cases h), (fun h => by cases h), (fun h => by cases h), (fun h => by cases h), (fun h => by cases h), (fun h => by cases h), (fun h => by cases h), (fun h => by cases h), (fun h => by cases h), (fun h => by cases h), (fun h => by cases h), (fun h => by cases h), (fun h => by cases h), (fun h => by cases h), (fun h => by cases h), (fun h => by cases h), (fun h => by cases h), (fun h => by cases h)⟩⟩
            · exact acyc_spec (by kernel_rfl)
            · intro Ls a0 wq i o ho hLi hafter hJ
              obtain ⟨u42, u43, u44, u45, u46, u47, u48, u49, u50, u51, u52, u53, u54, u55, u56, u57, u58, u59, u60, rfl, hJ | ⟨h10, hall, _⟩⟩ := hJ
              · obtain ⟨hLl, hS, p0, p1, p2, p3, p4, p5, p6, p7, p8, p9, p10, p11, p12, p13, p14, p15, p16, p17, p18⟩ := hJ
                have hi : i < 20 := (Array.getElem?_eq_some_iff.1 ho).1
                obtain rfl | rfl | rfl | rfl | rfl | rfl | rfl | rfl | rfl | rfl | rfl | rfl | rfl | rfl | rfl | rfl | rfl | rfl | rfl | rfl : i = 0 ∨ i = 1 ∨ i = 2 ∨ i = 3 ∨ i = 4 ∨ i = 5 ∨ i = 6 ∨ i = 7 ∨ i = 8 ∨ i = 9 ∨ i = 10 ∨ i = 11 ∨ i = 12 ∨ i = 13 ∨ i = 14 ∨ i = 15 ∨ i = 16 ∨ i = 17 ∨ i = 18 ∨ i = 19 := by omega
                · simp only [List.getElem?_toArray, List.getElem?_cons_zero, Option.some.injEq] at ho
                  subst ho
                  have P0 := Lib.hid p0
                  have P1 := Lib.hid p1
                  have P2 := Lib.hid p2
                  have P3 := Lib.hid p3
                  have P4 := Lib.hid p4
                  have P5 := Lib.hid p5
                  have P6 := Lib.hid p6
                  have P7 := Lib.hid p7
                  have P8 := Lib.hid p8
                  have P9 := Lib.hid p9
                  have P10 := Lib.hid p10
                  have P11 := Lib.hid p11
                  have P12 := Lib.hid p12
                  have P13 := Lib.hid p13
                  have P14 := Lib.hid p14
                  have P15 := Lib.hid p15
                  have P16 := Lib.hid p16
                  have P17 := Lib.hid p17
                  have P18 := Lib.hid p18
                  have HS := Lib.hid hS
                  clear hS hLi hafter p0 p1 p2 p3 p4 p5 p6 p7 p8 p9 p10 p11 p12 p13 p14 p15 p16 p17 p18
                  simp only [Act.put, List.setIfInBounds_toArray, List.set_cons_zero, List.set_cons_succ]
                  go_wp2_with fail
                  exact ⟨.slice (some ⟨B, 0, none⟩) M M, u43, u44, u45, u46, u47, u48, u49, u50, u51, u52, u53, u54, u55, u56, u57, u58, u59, u60, by simp only [Act.put, List.setIfInBounds_toArray, List.set_cons_zero, List.set_cons_succ], .inl ⟨by simpa using hLl, HS.out, (fun _ => rfl), (fun h => by first | rfl | exact P1.out (by simpa using h)), (fun h => by first | rfl | exact P2.out (by simpa using h)), (fun h => by first | rfl | exact P3.out (by simpa using h)), (fun h => by first | rfl | exact P4.out (by simpa using h)), (fun h => by first | rfl | exact P5.out (by simpa using h)), (fun h => by first | rfl | exact P6.out (by simpa using h)), (fun h => by first | rfl | exact P7.out (by simpa using h)), (fun h => by first | rfl | exact P8.out (by simpa using h)), (fun h => by first | rfl | exact P9.out (by simpa using h)), (fun h => by first | rfl | exact P10.out (by simpa using h)), (fun h => by first | rfl | exact P11.out (by simpa using h)), (fun h => by first | rfl | exact P12.out (by simpa using h)), (fun h => by first | rfl | exact P13.out (by simpa using h)), (fun h => by first | rfl | exact P14.out (by simpa using h)), (fun h => by first | rfl | exact P15.out (by simpa using h)), (fun h => P16.out (by simpa using h)), (fun h => P17.out (by simpa using h)), (fun h => by first | rfl | exact P18.out (by simpa using h))⟩⟩
                · simp only [List.getElem?_toArray, List.getElem?_cons_zero, List.getElem?_cons_succ, Option.some.injEq] at ho
                  subst ho
                  have P0 := Lib.hid p0
                  have P1 := Lib.hid p1
                  have P2 := Lib.hid p2
                  have P3 := Lib.hid p3
                  have P4 := Lib.hid p4
                  have P5 := Lib.hid p5
                  have P6 := Lib.hid p6
                  have P7 := Lib.hid p7
                  have P8 := Lib.hid p8
                  have P9 := Lib.hid p9
                  have P10 := Lib.hid p10
                  have P11 := Lib.hid p11
                  have P12 := Lib.hid p12
                  have P13 := Lib.hid p13
                  have P14 := Lib.hid p14
                  have P15 := Lib.hid p15
                  have P16 := Lib.hid p16
                  have P17 := Lib.hid p17
                  have P18 := Lib.hid p18
                  have HS := Lib.hid hS
                  clear hS hLi hafter p0 p1 p2 p3 p4 p5 p6 p7 p8 p9 p10 p11 p12 p13 p14 p15 p16 p17 p18
                  simp only [Act.put, List.setIfInBounds_toArray, List.set_cons_zero, List.set_cons_succ]
                  go_wp2_with fail
                  exact ⟨u42, .int .i64 k, u44, u45, u46, u47, u48, u49, u50, u51, u52, u53, u54, u55, u56, u57, u58, u59, u60, by simp only [Act.put, List.setIfInBounds_toArray, List.set_cons_zero, List.set_cons_succ], .inl ⟨by simpa using hLl, HS.out, (fun h => by first | rfl | exact P0.out (by simpa using h)), (fun _ => rfl), (fun h => by first | rfl | exact P2.out (by simpa using h)), (fun h => by first | rfl | exact P3.out (by simpa using h)), (fun h => by first | rfl | exact P4.out (by simpa using h)), (fun h => by first | rfl | exact P5.out (by simpa using h)), (fun h => by first | rfl | exact P6.out (by simpa using h)), (fun h => by first | rfl | exact P7.out (by simpa using h)), (fun h => by first | rfl | exact P8.out (by simpa using h)), (fun h => by first | rfl | exact P9.out (by simpa using h)), (fun h => by first | rfl | exact P10.out (by simpa using h)), (fun h => by first | rfl | exact P11.out (by simpa using h)), (fun h => by first | rfl | exact P12.out (by simpa using h)), (fun h => by first | rfl | exact P13.out (by simpa using h)), (fun h => by first | rfl | exact P14.out (by simpa using h)), (fun h => by first | rfl | exact P15.out (by simpa using h)), (fun h => P16.out (by simpa using h)), (fun h => P17.out (by simpa using h)), (fun h => by first | rfl | exact P18.out (by simpa using h))⟩⟩
                · simp only [List.getElem?_toArray, List.getElem?_cons_zero, List.getElem?_cons_succ, Option.some.injEq] at ho
                  subst ho
                  have P0 := Lib.hid p0
                  have P1 := Lib.hid p1
                  have P2 := Lib.hid p2
                  have P3 := Lib.hid p3
                  have P4 := Lib.hid p4
                  have P5 := Lib.hid p5
                  have P6 := Lib.hid p6
                  have P7 := Lib.hid p7
                  have P8 := Lib.hid p8
                  have P9 := Lib.hid p9
                  have P10 := Lib.hid p10
                  have P11 := Lib.hid p11
                  have P12 := Lib.hid p12
                  have P13 := Lib.hid p13
                  have P14 := Lib.hid p14
                  have P15 := Lib.hid p15
                  have P16 := Lib.hid p16
                  have P17 := Lib.hid p17
                  have P18 := Lib.hid p18
                  have HS := Lib.hid hS
                  clear hS hLi hafter p0 p1 p2 p3 p4 p5 p6 p7 p8 p9 p10 p11 p12 p13 p14 p15 p16 p17 p18
                  simp only [Act.put, List.setIfInBounds_toArray, List.set_cons_zero, List.set_cons_succ]
                  go_wp2_with fail
                  exact ⟨u42, u43, .slice (some ⟨B, 0, none⟩) M M, u45, u46, u47, u48, u49, u50, u51, u52, u53, u54, u55, u56, u57, u58, u59, u60, by simp only [Act.put, List.setIfInBounds_toArray, List.set_cons_zero, List.set_cons_succ], .inl ⟨by simpa using hLl, HS.out, (fun h => by first | rfl | exact P0.out (by simpa using h)), (fun h => by first | rfl | exact P1.out (by simpa using h)), (fun _ => rfl), (fun h => by first | rfl | exact P3.out (by simpa using h)), (fun h => by first | rfl | exact P4.out (by simpa using h)), (fun h => by first | rfl | exact P5.out (by simpa using h)), (fun h => by first | rfl | exact P6.out (by simpa using h)), (fun h => by first | rfl | exact P7.out (by simpa using h)), (fun h => by first | rfl | exact P8.out (by simpa using h)), (fun h => by first | rfl | exact P9.out (by simpa using h)), (fun h => by first | rfl | exact P10.out (by simpa using h)), (fun h => by first | rfl | exact P11.out (by simpa using h)), (fun h => by first | rfl | exact P12.out (by simpa using h)), (fun h => by first | rfl | exact P13.out (by simpa using h)), (fun h => by first | rfl | exact P14.out (by simpa using h)), (fun h => by first | rfl | exact P15.out (by simpa using h)), (fun h => P16.out (by simpa using h)), (fun h => P17.out (by simpa using h)), (fun h => by first | rfl | exact P18.out (by simpa using h))⟩⟩
                · simp only [List.getElem?_toArray, List.getElem?_cons_zero, List.getElem?_cons_succ, Option.some.injEq] at ho
                  subst ho
                  have P0 := Lib.hid p0
                  have P1 := Lib.hid p1
                  have P2 := Lib.hid p2
                  have P3 := Lib.hid p3
                  have P4 := Lib.hid p4
                  have P5 := Lib.hid p5
                  have P6 := Lib.hid p6
                  have P7 := Lib.hid p7
                  have P8 := Lib.hid p8
                  have P9 := Lib.hid p9
                  have P10 := Lib.hid p10
                  have P11 := Lib.hid p11
                  have P12 := Lib.hid p12
                  have P13 := Lib.hid p13
                  have P14 := Lib.hid p14
                  have P15 := Lib.hid p15
                  have P16 := Lib.hid p16
                  have P17 := Lib.hid p17
                  have P18 := Lib.hid p18
                  have HS := Lib.hid hS
                  clear hS hLi hafter p0 p1 p2 p3 p4 p5 p6 p7 p8 p9 p10 p11 p12 p13 p14 p15 p16 p17 p18
                  simp only [Act.put, List.setIfInBounds_toArray, List.set_cons_zero, List.set_cons_succ]
                  go_wp2_with fail
                  exact ⟨u42, u43, u44, .int .i64 k, u46, u47, u48, u49, u50, u51, u52, u53, u54, u55, u56, u57, u58, u59, u60, by simp only [Act.put, List.setIfInBounds_toArray, List.set_cons_zero, List.set_cons_succ], .inl ⟨by simpa using hLl, HS.out, (fun h => by first | rfl | exact P0.out (by simpa using h)), (fun h => by first | rfl | exact P1.out (by simpa using h)), (fun h => by first | rfl | exact P2.out (by simpa using h)), (fun _ => rfl), (fun h => by first | rfl | exact P4.out (by simpa using h)), (fun h => by first | rfl | exact P5.out (by simpa using h)), (fun h => by first | rfl | exact P6.out (by simpa using h)), (fun h => by first | rfl | exact P7.out (by simpa using h)), (fun h => by first | rfl | exact P8.out (by simpa using h)), (fun h => by first | rfl | exact P9.out (by simpa using h)), (fun h => by first | rfl | exact P10.out (by simpa using h)), (fun h => by first | rfl | exact P11.out (by simpa using h)), (fun h => by first | rfl | exact P12.out (by simpa using h)), (fun h => by first | rfl | exact P13.out (by simpa using h)), (fun h => by first | rfl | exact P14.out (by simpa using h)), (fun h => by first | rfl | exact P15.out (by simpa using h)), (fun h => P16.out (by simpa using h)), (fun h => P17.out (by simpa using h)), (fun h => by first | rfl | exact P18.out (by simpa using h))⟩⟩
                · simp only [List.getElem?_toArray, List.getElem?_cons_zero, List.getElem?_cons_succ, Option.some.injEq] at ho
                  subst ho
                  obtain rfl := p2 (hafter ⟨2, .data⟩ (by simp) rfl)
                  obtain rfl := p3 (hafter ⟨3, .data⟩ (by simp) rfl)
                  have P0 := Lib.hid p0
                  have P1 := Lib.hid p1
                  have P2 := Lib.hid p2
                  have P3 := Lib.hid p3
                  have P4 := Lib.hid p4
                  have P5 := Lib.hid p5
                  have P6 := Lib.hid p6
                  have P7 := Lib.hid p7
                  have P8 := Lib.hid p8
                  have P9 := Lib.hid p9
                  have P10 := Lib.hid p10
                  have P11 := Lib.hid p11
                  have P12 := Lib.hid p12
                  have P13 := Lib.hid p13
                  have P14 := Lib.hid p14
                  have P15 := Lib.hid p15
                  have P16 := Lib.hid p16
                  have P17 := Lib.hid p17
                  have P18 := Lib.hid p18
                  have HS := Lib.hid hS
                  clear hS hLi hafter p0 p1 p2 p3 p4 p5 p6 p7 p8 p9 p10 p11 p12 p13 p14 p15 p16 p17 p18
                  simp only [Act.put, List.setIfInBounds_toArray, List.set_cons_zero, List.set_cons_succ]
                  go_wp2_with fail
                  exact ⟨u42, u43, .slice (some ⟨B, 0, none⟩) M M, .int .i64 k, .pointer (some ⟨B, k * 3, none⟩), u47, u48, u49, u50, u51, u52, u53, u54, u55, u56, u57, u58, u59, u60, by simp only [Act.put, List.setIfInBounds_toArray, List.set_cons_zero, List.set_cons_succ], .inl ⟨by simpa using hLl, HS.out, (fun h => by first | rfl | exact P0.out (by simpa using h)), (fun h => by first | rfl | exact P1.out (by simpa using h)), (fun h => by first | rfl | exact P2.out (by simpa using h)), (fun h => by first | rfl | exact P3.out (by simpa using h)), (fun _ => rfl), (fun h => by first | rfl | exact P5.out (by simpa using h)), (fun h => by first | rfl | exact P6.out (by simpa using h)), (fun h => by first | rfl | exact P7.out (by simpa using h)), (fun h => by first | rfl | exact P8.out (by simpa using h)), (fun h => by first | rfl | exact P9.out (by simpa using h)), (fun h => by first | rfl | exact P10.out (by simpa using h)), (fun h => by first | rfl | exact P11.out (by simpa using h)), (fun h => by first | rfl | exact P12.out (by simpa using h)), (fun h => by first | rfl | exact P13.out (by simpa using h)), (fun h => by first | rfl | exact P14.out (by simpa using h)), (fun h => by first | rfl | exact P15.out (by simpa using h)), (fun h => P16.out (by simpa using h)), (fun h => P17.out (by simpa using h)), (fun h => by first | rfl | exact P18.out (by simpa using h))⟩⟩
                · simp only [List.getElem?_toArray, List.getElem?_cons_zero, List.getElem?_cons_succ, Option.some.injEq] at ho
                  subst ho
                  obtain rfl := p4 (hafter ⟨4, .data⟩ (by simp) rfl)
                  have c0 := (hS.1.cell (p := ⟨B, k * 3, none⟩) hlo).trans g6
                  have c1 := (hS.1.cell (p := ⟨B, k * 3 + 1, none⟩) hlo).trans g7
                  have c2 := (hS.1.cell (p := ⟨B, k * 3 + 2, none⟩) hlo).trans g8
                  have P0 := Lib.hid p0
                  have P1 := Lib.hid p1
                  have P2 := Lib.hid p2
                  have P3 := Lib.hid p3
                  have P4 := Lib.hid p4
                  have P5 := Lib.hid p5
                  have P6 := Lib.hid p6
                  have P7 := Lib.hid p7
                  have P8 := Lib.hid p8
                  have P9 := Lib.hid p9
                  have P10 := Lib.hid p10
                  have P11 := Lib.hid p11
                  have P12 := Lib.hid p12
                  have P13 := Lib.hid p13
                  have P14 := Lib.hid p14
                  have P15 := Lib.hid p15
                  have P16 := Lib.hid p16
                  have P17 := Lib.hid p17
                  have P18 := Lib.hid p18
                  have HS := Lib.hid hS
                  clear hS hLi hafter p0 p1 p2 p3 p4 p5 p6 p7 p8 p9 p10 p11 p12 p13 p14 p15 p16 p17 p18
                  simp only [Act.put, List.setIfInBounds_toArray, List.set_cons_zero, List.set_cons_succ]
                  go_wp2_with fail
                  exact ⟨u42, u43, u44, u45, .pointer (some ⟨B, k * 3, none⟩), .agg #[.bool (decide (ps.num < 0)), .slice r0 (nlen ps.num.natAbs) e0, .slice r02 (nlen ps.den) e02], u48, u49, u50, u51, u52, u53, u54, u55, u56, u57, u58, u59, u60, by simp only [Act.put, List.setIfInBounds_toArray, List.set_cons_zero, List.set_cons_succ], .inl ⟨by simpa using hLl, HS.out, (fun h => by first | rfl | exact P0.out (by simpa using h)), (fun h => by first | rfl | exact P1.out (by simpa using h)), (fun h => by first | rfl | exact P2.out (by simpa using h)), (fun h => by first | rfl | exact P3.out (by simpa using h)), (fun h => by first | rfl | exact P4.out (by simpa using h)), (fun _ => rfl), (fun h => by first | rfl | exact P6.out (by simpa using h)), (fun h => by first | rfl | exact P7.out (by simpa using h)), (fun h => by first | rfl | exact P8.out (by simpa using h)), (fun h => by first | rfl | exact P9.out (by simpa using h)), (fun h => by first | rfl | exact P10.out (by simpa using h)), (fun h => by first | rfl | exact P11.out (by simpa using h)), (fun h => by first | rfl | exact P12.out (by simpa using h)), (fun h => by first | rfl | exact P13.out (by simpa using h)), (fun h => by first | rfl | exact P14.out (by simpa using h)), (fun h => by first | rfl | exact P15.out (by simpa using h)), (fun h => P16.out (by simpa using h)), (fun h => P17.out (by simpa using h)), (fun h => by first | rfl | exact P18.out (by simpa using h))⟩⟩
                · simp only [List.getElem?_toArray, List.getElem?_cons_zero, List.getElem?_cons_succ, Option.some.injEq] at ho
                  subst ho
                  have P0 := Lib.hid p0
                  have P1 := Lib.hid p1
                  have P2 := Lib.hid p2
                  have P3 := Lib.hid p3
                  have P4 := Lib.hid p4
                  have P5 := Lib.hid p5
                  have P6 := Lib.hid p6
                  have P7 := Lib.hid p7
                  have P8 := Lib.hid p8
                  have P9 := Lib.hid p9
                  have P10 := Lib.hid p10
                  have P11 := Lib.hid p11
                  have P12 := Lib.hid p12
                  have P13 := Lib.hid p13
                  have P14 := Lib.hid p14
                  have P15 := Lib.hid p15
                  have P16 := Lib.hid p16
                  have P17 := Lib.hid p17
                  have P18 := Lib.hid p18
                  have HS := Lib.hid hS
                  clear hS hLi hafter p0 p1 p2 p3 p4 p5 p6 p7 p8 p9 p10 p11 p12 p13 p14 p15 p16 p17 p18
                  simp only [Act.put, List.setIfInBounds_toArray, List.set_cons_zero, List.set_cons_succ]
                  go_wp2_with fail
                  exact ⟨u42, u43, u44, u45, u46, u47, .slice (some ⟨b1, o1, none⟩) n ca, u49, u50, u51, u52, u53, u54, u55, u56, u57, u58, u59, u60, by simp only [Act.put, List.setIfInBounds_toArray, List.set_cons_zero, List.set_cons_succ], .inl ⟨by simpa using hLl, HS.out, (fun h => by first | rfl | exact P0.out (by simpa using h)), (fun h => by first | rfl | exact P1.out (by simpa using h)), (fun h => by first | rfl | exact P2.out (by simpa using h)), (fun h => by first | rfl | exact P3.out (by simpa using h)), (fun h => by first | rfl | exact P4.out (by simpa using h)), (fun h => by first | rfl | exact P5.out (by simpa using h)), (fun _ => rfl), (fun h => by first | rfl | exact P7.out (by simpa using h)), (fun h => by first | rfl | exact P8.out (by simpa using h)), (fun h => by first | rfl | exact P9.out (by simpa using h)), (fun h => by first | rfl | exact P10.out (by simpa using h)), (fun h => by first | rfl | exact P11.out (by simpa using h)), (fun h => by first | rfl | exact P12.out (by simpa using h)), (fun h => by first | rfl | exact P13.out (by simpa using h)), (fun h => by first | rfl | exact P14.out (by simpa using h)), (fun h => by first | rfl | exact P15.out (by simpa using h)), (fun h => P16.out (by simpa using h)), (fun h => P17.out (by simpa using h)), (fun h => by first | rfl | exact P18.out (by simpa using h))⟩⟩
                · simp only [List.getElem?_toArray, List.getElem?_cons_zero, List.getElem?_cons_succ, Option.some.injEq] at ho
                  subst ho
                  have P0 := Lib.hid p0
                  have P1 := Lib.hid p1
                  have P2 := Lib.hid p2
                  have P3 := Lib.hid p3
                  have P4 := Lib.hid p4
                  have P5 := Lib.hid p5
                  have P6 := Lib.hid p6
                  have P7 := Lib.hid p7
                  have P8 := Lib.hid p8
                  have P9 := Lib.hid p9
                  have P10 := Lib.hid p10
                  have P11 := Lib.hid p11
                  have P12 := Lib.hid p12
                  have P13 := Lib.hid p13
                  have P14 := Lib.hid p14
                  have P15 := Lib.hid p15
                  have P16 := Lib.hid p16
                  have P17 := Lib.hid p17
                  have P18 := Lib.hid p18
                  have HS := Lib.hid hS
                  clear hS hLi hafter p0 p1 p2 p3 p4 p5 p6 p7 p8 p9 p10 p11 p12 p13 p14 p15 p16 p17 p18
                  simp only [Act.put, List.setIfInBounds_toArray, List.set_cons_zero, List.set_cons_succ]
                  go_wp2_with fail
                  exact ⟨u42, u43, u44, u45, u46, u47, u48, .int .i64 i, u50, u51, u52, u53, u54, u55, u56, u57, u58, u59, u60, by simp only [Act.put, List.setIfInBounds_toArray, List.set_cons_zero, List.set_cons_succ], .inl ⟨by simpa using hLl, HS.out, (fun h => by first | rfl | exact P0.out (by simpa using h)), (fun h => by first | rfl | exact P1.out (by simpa using h)), (fun h => by first | rfl | exact P2.out (by simpa using h)), (fun h => by first | rfl | exact P3.out (by simpa using h)), (fun h => by first | rfl | exact P4.out (by simpa using h)), (fun h => by first | rfl | exact P5.out (by simpa using h)), (fun h => by first | rfl | exact P6.out (by simpa using h)), (fun _ => rfl), (fun h => by first | rfl | exact P8.out (by simpa using h)), (fun h => by first | rfl | exact P9.out (by simpa using h)), (fun h => by first | rfl | exact P10.out (by simpa using h)), (fun h => by first | rfl | exact P11.out (by simpa using h)), (fun h => by first | rfl | exact P12.out (by simpa using h)), (fun h => by first | rfl | exact P13.out (by simpa using h)), (fun h => by first | rfl | exact P14.out (by simpa using h)), (fun h => by first | rfl | exact P15.out (by simpa using h)), (fun h => P16.out (by simpa using h)), (fun h => P17.out (by simpa using h)), (fun h => by first | rfl | exact P18.out (by simpa using h))⟩⟩
                · simp only [List.getElem?_toArray, List.getElem?_cons_zero, List.getElem?_cons_succ, Option.some.injEq] at ho
                  subst ho
                  obtain rfl := p6 (hafter ⟨6, .data⟩ (by simp) rfl)
                  obtain rfl := p7 (hafter ⟨7, .data⟩ (by simp) rfl)
                  have P0 := Lib.hid p0
                  have P1 := Lib.hid p1
                  have P2 := Lib.hid p2
                  have P3 := Lib.hid p3
                  have P4 := Lib.hid p4
                  have P5 := Lib.hid p5
                  have P6 := Lib.hid p6
                  have P7 := Lib.hid p7
                  have P8 := Lib.hid p8
                  have P9 := Lib.hid p9
                  have P10 := Lib.hid p10
                  have P11 := Lib.hid p11
                  have P12 := Lib.hid p12
                  have P13 := Lib.hid p13
                  have P14 := Lib.hid p14
                  have P15 := Lib.hid p15
                  have P16 := Lib.hid p16
                  have P17 := Lib.hid p17
                  have P18 := Lib.hid p18
                  have HS := Lib.hid hS
                  clear hS hLi hafter p0 p1 p2 p3 p4 p5 p6 p7 p8 p9 p10 p11 p12 p13 p14 p15 p16 p17 p18
                  simp only [Act.put, List.setIfInBounds_toArray, List.set_cons_zero, List.set_cons_succ]
                  go_wp2_with fail
                  exact ⟨u42, u43, u44, u45, u46, u47, .slice (some ⟨b1, o1, none⟩) n ca, .int .i64 i, .pointer (some ⟨b1, o1 + i * 3, none⟩), u51, u52, u53, u54, u55, u56, u57, u58, u59, u60, by simp only [Act.put, List.setIfInBounds_toArray, List.set_cons_zero, List.set_cons_succ], .inl ⟨by simpa using hLl, HS.out, (fun h => by first | rfl | exact P0.out (by simpa using h)), (fun h => by first | rfl | exact P1.out (by simpa using h)), (fun h => by first | rfl | exact P2.out (by simpa using h)), (fun h => by first | rfl | exact P3.out (by simpa using h)), (fun h => by first | rfl | exact P4.out (by simpa using h)), (fun h => by first | rfl | exact P5.out (by simpa using h)), (fun h => by first | rfl | exact P6.out (by simpa using h)), (fun h => by first | rfl | exact P7.out (by simpa using h)), (fun _ => rfl), (fun h => by first | rfl | exact P9.out (by simpa using h)), (fun h => by first | rfl | exact P10.out (by simpa using h)), (fun h => by first | rfl | exact P11.out (by simpa using h)), (fun h => by first | rfl | exact P12.out (by simpa using h)), (fun h => by first | rfl | exact P13.out (by simpa using h)), (fun h => by first | rfl | exact P14.out (by simpa using h)), (fun h => by first | rfl | exact P15.out (by simpa using h)), (fun h => P16.out (by simpa using h)), (fun h => P17.out (by simpa using h)), (fun h => by first | rfl | exact P18.out (by simpa using h))⟩⟩
                · simp only [List.getElem?_toArray, List.getElem?_cons_zero, List.getElem?_cons_succ, Option.some.injEq] at ho
                  subst ho
                  obtain rfl := p8 (hafter ⟨8, .data⟩ (by simp) rfl)
                  have c0 := (hS.1.cell (p := ⟨b1, o1 + i * 3, none⟩) hl1).trans g0
                  have c1 := (hS.1.cell (p := ⟨b1, o1 + i * 3 + 1, none⟩) hl1).trans g1
                  have c2 := (hS.1.cell (p := ⟨b1, o1 + i * 3 + 2, none⟩) hl1).trans g2
                  have P0 := Lib.hid p0
                  have P1 := Lib.hid p1
                  have P2 := Lib.hid p2
                  have P3 := Lib.hid p3
                  have P4 := Lib.hid p4
                  have P5 := Lib.hid p5
                  have P6 := Lib.hid p6
                  have P7 := Lib.hid p7
                  have P8 := Lib.hid p8
                  have P9 := Lib.hid p9
                  have P10 := Lib.hid p10
                  have P11 := Lib.hid p11
                  have P12 := Lib.hid p12
                  have P13 := Lib.hid p13
                  have P14 := Lib.hid p14
                  have P15 := Lib.hid p15
                  have P16 := Lib.hid p16
                  have P17 := Lib.hid p17
                  have P18 := Lib.hid p18
                  have HS := Lib.hid hS
                  clear hS hLi hafter p0 p1 p2 p3 p4 p5 p6 p7 p8 p9 p10 p11 p12 p13 p14 p15 p16 p17 p18
                  simp only [Act.put, List.setIfInBounds_toArray, List.set_cons_zero, List.set_cons_succ]
                  go_wp2_with fail
                  exact ⟨u42, u43, u44, u45, u46, u47, u48, u49, .pointer (some ⟨b1, o1 + i * 3, none⟩), .agg #[.bool s1, .slice ra rn1 rc1, .slice da dn1 dc1], u52, u53, u54, u55, u56, u57, u58, u59, u60, by simp only [Act.put, List.setIfInBounds_toArray, List.set_cons_zero, List.set_cons_succ], .inl ⟨by simpa using hLl, HS.out, (fun h => by first | rfl | exact P0.out (by simpa using h)), (fun h => by first | rfl | exact P1.out (by simpa using h)), (fun h => by first | rfl | exact P2.out (by simpa using h)), (fun h => by first | rfl | exact P3.out (by simpa using h)), (fun h => by first | rfl | exact P4.out (by simpa using h)), (fun h => by first | rfl | exact P5.out (by simpa using h)), (fun h => by first | rfl | exact P6.out (by simpa using h)), (fun h => by first | rfl | exact P7.out (by simpa using h)), (fun h => by first | rfl | exact P8.out (by simpa using h)), (fun _ => rfl), (fun h => by first | rfl | exact P10.out (by simpa using h)), (fun h => by first | rfl | exact P11.out (by simpa using h)), (fun h => by first | rfl | exact P12.out (by simpa using h)), (fun h => by first | rfl | exact P13.out (by simpa using h)), (fun h => by first | rfl | exact P14.out (by simpa using h)), (fun h => by first | rfl | exact P15.out (by simpa using h)), (fun h => P16.out (by simpa using h)), (fun h => P17.out (by simpa using h)), (fun h => by first | rfl | exact P18.out (by simpa using h))⟩⟩
                · simp only [List.getElem?_toArray, List.getElem?_cons_zero, List.getElem?_cons_succ, Option.some.injEq] at ho
                  subst ho
                  have P0 := Lib.hid p0
                  have P1 := Lib.hid p1
                  have P2 := Lib.hid p2
                  have P3 := Lib.hid p3
                  have P4 := Lib.hid p4
                  have P5 := Lib.hid p5
                  have P6 := Lib.hid p6
                  have P7 := Lib.hid p7
                  have P8 := Lib.hid p8
                  have P9 := Lib.hid p9
                  have P10 := Lib.hid p10
                  have P11 := Lib.hid p11
                  have P12 := Lib.hid p12
                  have P13 := Lib.hid p13
                  have P14 := Lib.hid p14
                  have P15 := Lib.hid p15
                  have P16 := Lib.hid p16
                  have P17 := Lib.hid p17
                  have P18 := Lib.hid p18
                  have HS := Lib.hid hS
                  clear hS hLi hafter p0 p1 p2 p3 p4 p5 p6 p7 p8 p9 p10 p11 p12 p13 p14 p15 p16 p17 p18
                  simp only [Act.put, List.setIfInBounds_toArray, List.set_cons_zero, List.set_cons_succ]
                  go_wp2_with fail
                  exact ⟨u42, u43, u44, u45, u46, u47, u48, u49, u50, u51, .slice (some ⟨b2, o2, none⟩) m cb, u53, u54, u55, u56, u57, u58, u59, u60, by simp only [Act.put, List.setIfInBounds_toArray, List.set_cons_zero, List.set_cons_succ], .inl ⟨by simpa using hLl, HS.out, (fun h => by first | rfl | exact P0.out (by simpa using h)), (fun h => by first | rfl | exact P1.out (by simpa using h)), (fun h => by first | rfl | exact P2.out (by simpa using h)), (fun h => by first | rfl | exact P3.out (by simpa using h)), (fun h => by first | rfl | exact P4.out (by simpa using h)), (fun h => by first | rfl | exact P5.out (by simpa using h)), (fun h => by first | rfl | exact P6.out (by simpa using h)), (fun h => by first | rfl | exact P7.out (by simpa using h)), (fun h => by first | rfl | exact P8.out (by simpa using h)), (fun h => by first | rfl | exact P9.out (by simpa using h)), (fun _ => rfl), (fun h => by first | rfl | exact P11.out (by simpa using h)), (fun h => by first | rfl | exact P12.out (by simpa using h)), (fun h => by first | rfl | exact P13.out (by simpa using h)), (fun h => by first | rfl | exact P14.out (by simpa using h)), (fun h => by first | rfl | exact P15.out (by simpa using h)), (fun h => P16.out (by simpa using h)), (fun h => P17.out (by simpa using h)), (fun h => by first | rfl | exact P18.out (by simpa using h))⟩⟩
                · simp only [List.getElem?_toArray, List.getElem?_cons_zero, List.getElem?_cons_succ, Option.some.injEq] at ho
                  subst ho
                  have P0 := Lib.hid p0
                  have P1 := Lib.hid p1
                  have P2 := Lib.hid p2
                  have P3 := Lib.hid p3
                  have P4 := Lib.hid p4
                  have P5 := Lib.hid p5
                  have P6 := Lib.hid p6
                  have P7 := Lib.hid p7
                  have P8 := Lib.hid p8
                  have P9 := Lib.hid p9
                  have P10 := Lib.hid p10
                  have P11 := Lib.hid p11
                  have P12 := Lib.hid p12
                  have P13 := Lib.hid p13
                  have P14 := Lib.hid p14
                  have P15 := Lib.hid p15
                  have P16 := Lib.hid p16
                  have P17 := Lib.hid p17
                  have P18 := Lib.hid p18
                  have HS := Lib.hid hS
                  clear hS hLi hafter p0 p1 p2 p3 p4 p5 p6 p7 p8 p9 p10 p11 p12 p13 p14 p15 p16 p17 p18
                  simp only [Act.put, List.setIfInBounds_toArray, List.set_cons_zero, List.set_cons_succ]
                  go_wp2_with fail
                  exact ⟨u42, u43, u44, u45, u46, u47, u48, u49, u50, u51, u52, .int .i64 k, u54, u55, u56, u57, u58, u59, u60, by simp only [Act.put, List.setIfInBounds_toArray, List.set_cons_zero, List.set_cons_succ], .inl ⟨by simpa using hLl, HS.out, (fun h => by first | rfl | exact P0.out (by simpa using h)), (fun h => by first | rfl | exact P1.out (by simpa using h)), (fun h => by first | rfl | exact P2.out (by simpa using h)), (fun h => by first | rfl | exact P3.out (by simpa using h)), (fun h => by first | rfl | exact P4.out (by simpa using h)), (fun h => by first | rfl | exact P5.out (by simpa using h)), (fun h => by first | rfl | exact P6.out (by simpa using h)), (fun h => by first | rfl | exact P7.out (by simpa using h)), (fun h => by first | rfl | exact P8.out (by simpa using h)), (fun h => by first | rfl | exact P9.out (by simpa using h)), (fun h => by first | rfl | exact P10.out (by simpa using h)), (fun _ => rfl), (fun h => by first | rfl | exact P12.out (by simpa using h)), (fun h => by first | rfl | exact P13.out (by simpa using h)), (fun h => by first | rfl | exact P14.out (by simpa using h)), (fun h => by first | rfl | exact P15.out (by simpa using h)), (fun h => P16.out (by simpa using h)), (fun h => P17.out (by simpa using h)), (fun h => by first | rfl | exact P18.out (by simpa using h))⟩⟩
                · simp only [List.getElem?_toArray, List.getElem?_cons_zero, List.getElem?_cons_succ, Option.some.injEq] at ho
                  subst ho
                  have P0 := Lib.hid p0
                  have P1 := Lib.hid p1
                  have P2 := Lib.hid p2
                  have P3 := Lib.hid p3
                  have P4 := Lib.hid p4
                  have P5 := Lib.hid p5
                  have P6 := Lib.hid p6
                  have P7 := Lib.hid p7
                  have P8 := Lib.hid p8
                  have P9 := Lib.hid p9
                  have P10 := Lib.hid p10
                  have P11 := Lib.hid p11
                  have P12 := Lib.hid p12
                  have P13 := Lib.hid p13
                  have P14 := Lib.hid p14
                  have P15 := Lib.hid p15
                  have P16 := Lib.hid p16
                  have P17 := Lib.hid p17
                  have P18 := Lib.hid p18
                  have HS := Lib.hid hS
                  clear hS hLi hafter p0 p1 p2 p3 p4 p5 p6 p7 p8 p9 p10 p11 p12 p13 p14 p15 p16 p17 p18
                  simp only [Act.put, List.setIfInBounds_toArray, List.set_cons_zero, List.set_cons_succ]
                  go_wp2_with fail
                  exact ⟨u42, u43, u44, u45, u46, u47, u48, u49, u50, u51, u52, u53, .int .i64 i, u55, u56, u57, u58, u59, u60, by simp only [Act.put, List.setIfInBounds_toArray, List.set_cons_zero, List.set_cons_succ], .inl ⟨by simpa using hLl, HS.out, (fun h => by first | rfl | exact P0.out (by simpa using h)), (fun h => by first | rfl | exact P1.out (by simpa using h)), (fun h => by first | rfl | exact P2.out (by simpa using h)), (fun h => by first | rfl | exact P3.out (by simpa using h)), (fun h => by first | rfl | exact P4.out (by simpa using h)), (fun h => by first | rfl | exact P5.out (by simpa using h)), (fun h => by first | rfl | exact P6.out (by simpa using h)), (fun h => by first | rfl | exact P7.out (by simpa using h)), (fun h => by first | rfl | exact P8.out (by simpa using h)), (fun h => by first | rfl | exact P9.out (by simpa using h)), (fun h => by first | rfl | exact P10.out (by simpa using h)), (fun h => by first | rfl | exact P11.out (by simpa using h)), (fun _ => rfl), (fun h => by first | rfl | exact P13.out (by simpa using h)), (fun h => by first | rfl | exact P14.out (by simpa using h)), (fun h => by first | rfl | exact P15.out (by simpa using h)), (fun h => P16.out (by simpa using h)), (fun h => P17.out (by simpa using h)), (fun h => by first | rfl | exact P18.out (by simpa using h))⟩⟩
                · simp only [List.getElem?_toArray, List.getElem?_cons_zero, List.getElem?_cons_succ, Option.some.injEq] at ho
                  subst ho
                  obtain rfl := p11 (hafter ⟨11, .data⟩ (by simp) rfl)
                  obtain rfl := p12 (hafter ⟨12, .data⟩ (by simp) rfl)
                  have P0 := Lib.hid p0
                  have P1 := Lib.hid p1
                  have P2 := Lib.hid p2
                  have P3 := Lib.hid p3
                  have P4 := Lib.hid p4
                  have P5 := Lib.hid p5
                  have P6 := Lib.hid p6
                  have P7 := Lib.hid p7
                  have P8 := Lib.hid p8
                  have P9 := Lib.hid p9
                  have P10 := Lib.hid p10
                  have P11 := Lib.hid p11
                  have P12 := Lib.hid p12
                  have P13 := Lib.hid p13
                  have P14 := Lib.hid p14
                  have P15 := Lib.hid p15
                  have P16 := Lib.hid p16
                  have P17 := Lib.hid p17
                  have P18 := Lib.hid p18
                  have HS := Lib.hid hS
                  clear hS hLi hafter p0 p1 p2 p3 p4 p5 p6 p7 p8 p9 p10 p11 p12 p13 p14 p15 p16 p17 p18
                  simp only [Act.put, List.setIfInBounds_toArray, List.set_cons_zero, List.set_cons_succ]
                  go_wp2_with fail
                  exact ⟨u42, u43, u44, u45, u46, u47, u48, u49, u50, u51, u52, .int .i64 k, .int .i64 i, .int .i64 e, u56, u57, u58, u59, u60, by simp only [Act.put, List.setIfInBounds_toArray, List.set_cons_zero, List.set_cons_succ], .inl ⟨by simpa using hLl, HS.out, (fun h => by first | rfl | exact P0.out (by simpa using h)), (fun h => by first | rfl | exact P1.out (by simpa using h)), (fun h => by first | rfl | exact P2.out (by simpa using h)), (fun h => by first | rfl | exact P3.out (by simpa using h)), (fun h => by first | rfl | exact P4.out (by simpa using h)), (fun h => by first | rfl | exact P5.out (by simpa using h)), (fun h => by first | rfl | exact P6.out (by simpa using h)), (fun h => by first | rfl | exact P7.out (by simpa using h)), (fun h => by first | rfl | exact P8.out (by simpa using h)), (fun h => by first | rfl | exact P9.out (by simpa using h)), (fun h => by first | rfl | exact P10.out (by simpa using h)), (fun h => by first | rfl | exact P11.out (by simpa using h)), (fun h => by first | rfl | exact P12.out (by simpa using h)), (fun _ => rfl), (fun h => by first | rfl | exact P14.out (by simpa using h)), (fun h => by first | rfl | exact P15.out (by simpa using h)), (fun h => P16.out (by simpa using h)), (fun h => P17.out (by simpa using h)), (fun h => by first | rfl | exact P18.out (by simpa using h))⟩⟩
                · simp only [List.getElem?_toArray, List.getElem?_cons_zero, List.getElem?_cons_succ, Option.some.injEq] at ho
                  subst ho
                  obtain rfl := p10 (hafter ⟨10, .data⟩ (by simp) rfl)
                  obtain rfl := p13 (hafter ⟨13, .data⟩ (by simp) rfl)
                  have P0 := Lib.hid p0
                  have P1 := Lib.hid p1
                  have P2 := Lib.hid p2
                  have P3 := Lib.hid p3
                  have P4 := Lib.hid p4
                  have P5 := Lib.hid p5
                  have P6 := Lib.hid p6
                  have P7 := Lib.hid p7
                  have P8 := Lib.hid p8
                  have P9 := Lib.hid p9
                  have P10 := Lib.hid p10
                  have P11 := Lib.hid p11
                  have P12 := Lib.hid p12
                  have P13 := Lib.hid p13
                  have P14 := Lib.hid p14
                  have P15 := Lib.hid p15
                  have P16 := Lib.hid p16
                  have P17 := Lib.hid p17
                  have P18 := Lib.hid p18
                  have HS := Lib.hid hS
                  clear hS hLi hafter p0 p1 p2 p3 p4 p5 p6 p7 p8 p9 p10 p11 p12 p13 p14 p15 p16 p17 p18
                  simp only [Act.put, List.setIfInBounds_toArray, List.set_cons_zero, List.set_cons_succ]
                  go_wp2_with fail
                  exact ⟨u42, u43, u44, u45, u46, u47, u48, u49, u50, u51, .slice (some ⟨b2, o2, none⟩) m cb, u53, u54, .int .i64 e, .pointer (some ⟨b2, o2 + e * 3, none⟩), u57, u58, u59, u60, by simp only [Act.put, List.setIfInBounds_toArray, List.set_cons_zero, List.set_cons_succ], .inl ⟨by simpa using hLl, HS.out, (fun h => by first | rfl | exact P0.out (by simpa using h)), (fun h => by first | rfl | exact P1.out (by simpa using h)), (fun h => by first | rfl | exact P2.out (by simpa using h)), (fun h => by first | rfl | exact P3.out (by simpa using h)), (fun h => by first | rfl | exact P4.out (by simpa using h)), (fun h => by first | rfl | exact P5.out (by simpa using h)), (fun h => by first | rfl | exact P6.out (by simpa using h)), (fun h => by first | rfl | exact P7.out (by simpa using h)), (fun h => by first | rfl | exact P8.out (by simpa using h)), (fun h => by first | rfl | exact P9.out (by simpa using h)), (fun h => by first | rfl | exact P10.out (by simpa using h)), (fun h => by first | rfl | exact P11.out (by simpa using h)), (fun h => by first | rfl | exact P12.out (by simpa using h)), (fun h => by first | rfl | exact P13.out (by simpa using h)), (fun _ => rfl), (fun h => by first | rfl | exact P15.out (by simpa using h)), (fun h => P16.out (by simpa using h)), (fun h => P17.out (by simpa using h)), (fun h => by first | rfl | exact P18.out (by simpa using h))⟩⟩
                · simp only [List.getElem?_toArray, List.getElem?_cons_zero, List.getElem?_cons_succ, Option.some.injEq] at ho
                  subst ho
                  obtain rfl := p14 (hafter ⟨14, .data⟩ (by simp) rfl)
                  have c0 := (hS.1.cell (p := ⟨b2, o2 + e * 3, none⟩) hl2).trans g3
                  have c1 := (hS.1.cell (p := ⟨b2, o2 + e * 3 + 1, none⟩) hl2).trans g4
                  have c2 := (hS.1.cell (p := ⟨b2, o2 + e * 3 + 2, none⟩) hl2).trans g5
                  have P0 := Lib.hid p0
                  have P1 := Lib.hid p1
                  have P2 := Lib.hid p2
                  have P3 := Lib.hid p3
                  have P4 := Lib.hid p4
                  have P5 := Lib.hid p5
                  have P6 := Lib.hid p6
                  have P7 := Lib.hid p7
                  have P8 := Lib.hid p8
                  have P9 := Lib.hid p9
                  have P10 := Lib.hid p10
                  have P11 := Lib.hid p11
                  have P12 := Lib.hid p12
                  have P13 := Lib.hid p13
                  have P14 := Lib.hid p14
                  have P15 := Lib.hid p15
                  have P16 := Lib.hid p16
                  have P17 := Lib.hid p17
                  have P18 := Lib.hid p18
                  have HS := Lib.hid hS
                  clear hS hLi hafter p0 p1 p2 p3 p4 p5 p6 p7 p8 p9 p10 p11 p12 p13 p14 p15 p16 p17 p18
                  simp only [Act.put, List.setIfInBounds_toArray, List.set_cons_zero, List.set_cons_succ]
                  go_wp2_with fail
                  exact ⟨u42, u43, u44, u45, u46, u47, u48, u49, u50, u51, u52, u53, u54, u55, .pointer (some ⟨b2, o2 + e * 3, none⟩), .agg #[.bool s2, .slice rb rn2 rc2, .slice db dn2 dc2], u58, u59, u60, by simp only [Act.put, List.setIfInBounds_toArray, List.set_cons_zero, List.set_cons_succ], .inl ⟨by simpa using hLl, HS.out, (fun h => by first | rfl | exact P0.out (by simpa using h)), (fun h => by first | rfl | exact P1.out (by simpa using h)), (fun h => by first | rfl | exact P2.out (by simpa using h)), (fun h => by first | rfl | exact P3.out (by simpa using h)), (fun h => by first | rfl | exact P4.out (by simpa using h)), (fun h => by first | rfl | exact P5.out (by simpa using h)), (fun h => by first | rfl | exact P6.out (by simpa using h)), (fun h => by first | rfl | exact P7.out (by simpa using h)), (fun h => by first | rfl | exact P8.out (by simpa using h)), (fun h => by first | rfl | exact P9.out (by simpa using h)), (fun h => by first | rfl | exact P10.out (by simpa using h)), (fun h => by first | rfl | exact P11.out (by simpa using h)), (fun h => by first | rfl | exact P12.out (by simpa using h)), (fun h => by first | rfl | exact P13.out (by simpa using h)), (fun h => by first | rfl | exact P14.out (by simpa using h)), (fun _ => rfl), (fun h => P16.out (by simpa using h)), (fun h => P17.out (by simpa using h)), (fun h => by first | rfl | exact P18.out (by simpa using h))⟩⟩
                · simp only [List.getElem?_toArray, List.getElem?_cons_zero, List.getElem?_cons_succ, Option.some.injEq] at ho
                  subst ho
                  obtain rfl := p9 (hafter ⟨9, .data⟩ (by simp) rfl)
                  obtain rfl := p15 (hafter ⟨15, .data⟩ (by simp) rfl)
                  have P0 := Lib.hid p0
                  have P1 := Lib.hid p1
                  have P2 := Lib.hid p2
                  have P3 := Lib.hid p3
                  have P4 := Lib.hid p4
                  have P5 := Lib.hid p5
                  have P6 := Lib.hid p6
                  have P7 := Lib.hid p7
                  have P8 := Lib.hid p8
                  have P9 := Lib.hid p9
                  have P10 := Lib.hid p10
                  have P11 := Lib.hid p11
                  have P12 := Lib.hid p12
                  have P13 := Lib.hid p13
                  have P14 := Lib.hid p14
                  have P15 := Lib.hid p15
                  have P16 := Lib.hid p16
                  have P17 := Lib.hid p17
                  have P18 := Lib.hid p18
                  have HS := Lib.hid hS
                  clear hS hLi hafter p0 p1 p2 p3 p4 p5 p6 p7 p8 p9 p10 p11 p12 p13 p14 p15 p16 p17 p18
                  simp only [Act.put, List.setIfInBounds_toArray, List.set_cons_zero, List.set_cons_succ]
                  go_wp2_with fail
                  refine (xrmul_any (N := N) _ _ _ _ _ _ _ _ _ _ _ _ _ _ L L' (x i) (y e) _ (by have := HS.out.2; omega) (HRa.out.below HS.out.1) (HRb.out.below HS.out.1) (by omega) (by omega) pm HPM.out).mono ?_
                  rintro e wn ⟨r, c, r2, c2, rfl, hn, hn', hb⟩
                  have HN := Lib.hid hn
                  have HM := Lib.hid hn'
                  have Hb := Lib.hid hb
                  clear hn hn' hb
                  go_wp2_with fail
                  exact ⟨u42, u43, u44, u45, u46, u47, u48, u49, u50, .agg #[.bool s1, .slice ra rn1 rc1, .slice da dn1 dc1], u52, u53, u54, u55, u56, .agg #[.bool s2, .slice rb rn2 rc2, .slice db dn2 dc2], _, u59, u60, by simp only [Act.put, List.setIfInBounds_toArray, List.set_cons_zero, List.set_cons_succ], .inl ⟨by simpa using hLl, HS.out.below Hb.out, (fun h => by first | rfl | exact P0.out (by simpa using h)), (fun h => by first | rfl | exact P1.out (by simpa using h)), (fun h => by first | rfl | exact P2.out (by simpa using h)), (fun h => by first | rfl | exact P3.out (by simpa using h)), (fun h => by first | rfl | exact P4.out (by simpa using h)), (fun h => by first | rfl | exact P5.out (by simpa using h)), (fun h => by first | rfl | exact P6.out (by simpa using h)), (fun h => by first | rfl | exact P7.out (by simpa using h)), (fun h => by first | rfl | exact P8.out (by simpa using h)), (fun h => by first | rfl | exact P9.out (by simpa using h)), (fun h => by first | rfl | exact P10.out (by simpa using h)), (fun h => by first | rfl | exact P11.out (by simpa using h)), (fun h => by first | rfl | exact P12.out (by simpa using h)), (fun h => by first | rfl | exact P13.out (by simpa using h)), (fun h => by first | rfl | exact P14.out (by simpa using h)), (fun h => by first | rfl | exact P15.out (by simpa using h)), (fun _ => ⟨r, c, r2, c2, rfl, HN.out, HM.out⟩), (fun h => (P17.out (by simpa using h)).below Hb.out), (fun h => by first | rfl | exact P18.out (by simpa using h))⟩⟩
                · simp only [List.getElem?_toArray, List.getElem?_cons_zero, List.getElem?_cons_succ, Option.some.injEq] at ho
                  subst ho
                  obtain rfl := p5 (hafter ⟨5, .data⟩ (by simp) rfl)
                  obtain ⟨r16, c16, t16, d16, rfl, hn16, hm16⟩ := p16 (hafter ⟨16, .data⟩ (by simp) rfl)
                  have HN16 := Lib.hid hn16
                  have HM16 := Lib.hid hm16
                  clear hn16 hm16
                  have P0 := Lib.hid p0
                  have P1 := Lib.hid p1
                  have P2 := Lib.hid p2
                  have P3 := Lib.hid p3
                  have P4 := Lib.hid p4
                  have P5 := Lib.hid p5
                  have P6 := Lib.hid p6
                  have P7 := Lib.hid p7
                  have P8 := Lib.hid p8
                  have P9 := Lib.hid p9
                  have P10 := Lib.hid p10
                  have P11 := Lib.hid p11
                  have P12 := Lib.hid p12
                  have P13 := Lib.hid p13
                  have P14 := Lib.hid p14
                  have P15 := Lib.hid p15
                  have P16 := Lib.hid p16
                  have P17 := Lib.hid p17
                  have P18 := Lib.hid p18
                  have HS := Lib.hid hS
                  clear hS hLi hafter p0 p1 p2 p3 p4 p5 p6 p7 p8 p9 p10 p11 p12 p13 p14 p15 p16 p17 p18
                  simp only [Act.put, List.setIfInBounds_toArray, List.set_cons_zero, List.set_cons_succ]
                  go_wp2_with fail
                  refine (xradd_any (N := N) _ _ _ _ _ _ _ _ _ _ _ _ _ _ LIM (L + L') ps pm _ (by have := HS.out.2; omega) (Rt.of_norm (HN0.out.below HS.out.1) (HM0.out.below HS.out.1) _ HZS.out) (Rt.of_norm HN16.out HM16.out _ HZM.out) (by omega) (by omega) pn HPN.out).mono ?_
                  rintro e wn ⟨r, c, r2, c2, rfl, hn, hn', hb⟩
                  have HN := Lib.hid hn
                  have HM := Lib.hid hn'
                  have Hb := Lib.hid hb
                  clear hn hn' hb
                  go_wp2_with fail
                  exact ⟨u42, u43, u44, u45, u46, .agg #[.bool (decide (ps.num < 0)), .slice r0 (nlen ps.num.natAbs) e0, .slice r02 (nlen ps.den) e02], u48, u49, u50, u51, u52, u53, u54, u55, u56, u57, _, _, u60, by simp only [Act.put, List.setIfInBounds_toArray, List.set_cons_zero, List.set_cons_succ], .inl ⟨by simpa using hLl, HS.out.below Hb.out, (fun h => by first | rfl | exact P0.out (by simpa using h)), (fun h => by first | rfl | exact P1.out (by simpa using h)), (fun h => by first | rfl | exact P2.out (by simpa using h)), (fun h => by first | rfl | exact P3.out (by simpa using h)), (fun h => by first | rfl | exact P4.out (by simpa using h)), (fun h => by first | rfl | exact P5.out (by simpa using h)), (fun h => by first | rfl | exact P6.out (by simpa using h)), (fun h => by first | rfl | exact P7.out (by simpa using h)), (fun h => by first | rfl | exact P8.out (by simpa using h)), (fun h => by first | rfl | exact P9.out (by simpa using h)), (fun h => by first | rfl | exact P10.out (by simpa using h)), (fun h => by first | rfl | exact P11.out (by simpa using h)), (fun h => by first | rfl | exact P12.out (by simpa using h)), (fun h => by first | rfl | exact P13.out (by simpa using h)), (fun h => by first | rfl | exact P14.out (by simpa using h)), (fun h => by first | rfl | exact P15.out (by simpa using h)), (fun h => (P16.out (by simpa using h)).below Hb.out), (fun _ => ⟨r, c, r2, c2, rfl, HN.out, HM.out⟩), (fun h => by first | rfl | exact P18.out (by simpa using h))⟩⟩
                · simp only [List.getElem?_toArray, List.getElem?_cons_zero, List.getElem?_cons_succ, Option.some.injEq] at ho
                  subst ho
                  obtain rfl := p0 (hafter ⟨0, .data⟩ (by simp) rfl)
                  obtain rfl := p1 (hafter ⟨1, .data⟩ (by simp) rfl)
                  have P0 := Lib.hid p0
                  have P1 := Lib.hid p1
                  have P2 := Lib.hid p2
                  have P3 := Lib.hid p3
                  have P4 := Lib.hid p4
                  have P5 := Lib.hid p5
                  have P6 := Lib.hid p6
                  have P7 := Lib.hid p7
                  have P8 := Lib.hid p8
                  have P9 := Lib.hid p9
                  have P10 := Lib.hid p10
                  have P11 := Lib.hid p11
                  have P12 := Lib.hid p12
                  have P13 := Lib.hid p13
                  have P14 := Lib.hid p14
                  have P15 := Lib.hid p15
                  have P16 := Lib.hid p16
                  have P17 := Lib.hid p17
                  have P18 := Lib.hid p18
                  have HS := Lib.hid hS
                  clear hS hLi hafter p0 p1 p2 p3 p4 p5 p6 p7 p8 p9 p10 p11 p12 p13 p14 p15 p16 p17 p18
                  simp only [Act.put, List.setIfInBounds_toArray, List.set_cons_zero, List.set_cons_succ]
                  go_wp2_with fail
                  exact ⟨.slice (some ⟨B, 0, none⟩) M M, .int .i64 k, u44, u45, u46, u47, u48, u49, u50, u51, u52, u53, u54, u55, u56, u57, u58, u59, .pointer (some ⟨B, k * 3, none⟩), by simp only [Act.put, List.setIfInBounds_toArray, List.set_cons_zero, List.set_cons_succ], .inl ⟨by simpa using hLl, HS.out, (fun h => by first | rfl | exact P0.out (by simpa using h)), (fun h => by first | rfl | exact P1.out (by simpa using h)), (fun h => by first | rfl | exact P2.out (by simpa using h)), (fun h => by first | rfl | exact P3.out (by simpa using h)), (fun h => by first | rfl | exact P4.out (by simpa using h)), (fun h => by first | rfl | exact P5.out (by simpa using h)), (fun h => by first | rfl | exact P6.out (by simpa using h)), (fun h => by first | rfl | exact P7.out (by simpa using h)), (fun h => by first | rfl | exact P8.out (by simpa using h)), (fun h => by first | rfl | exact P9.out (by simpa using h)), (fun h => by first | rfl | exact P10.out (by simpa using h)), (fun h => by first | rfl | exact P11.out (by simpa using h)), (fun h => by first | rfl | exact P12.out (by simpa using h)), (fun h => by first | rfl | exact P13.out (by simpa using h)), (fun h => by first | rfl | exact P14.out (by simpa using h)), (fun h => by first | rfl | exact P15.out (by simpa using h)), (fun h => P16.out (by simpa using h)), (fun h => P17.out (by simpa using h)), (fun _ => rfl)⟩⟩
                · simp only [List.getElem?_toArray, List.getElem?_cons_zero, List.getElem?_cons_succ, Option.some.injEq] at ho
                  subst ho
                  have hall : ∀ j, j < 19 → Ls j = true := by
                    intro j hj
                    obtain rfl | rfl | rfl | rfl | rfl | rfl | rfl | rfl | rfl | rfl | rfl | rfl | rfl | rfl | rfl | rfl | rfl | rfl | rfl : j = 0 ∨ j = 1 ∨ j = 2 ∨ j = 3 ∨ j = 4 ∨ j = 5 ∨ j = 6 ∨ j = 7 ∨ j = 8 ∨ j = 9 ∨ j = 10 ∨ j = 11 ∨ j = 12 ∨ j = 13 ∨ j = 14 ∨ j = 15 ∨ j = 16 ∨ j = 17 ∨ j = 18 := by omega
                    all_goals first | (refine hafter ⟨_, .phase⟩ ?_ rfl; simp; done) | (refine hafter ⟨_, .data⟩ ?_ rfl; simp; done)
                  have HALL := Lib.hid hall
                  clear hall
                  obtain ⟨r17, c17, t17, d17, rfl, hn17, hm17⟩ := p17 (hafter ⟨17, .data⟩ (by simp) rfl)
                  have HN17 := Lib.hid hn17
                  have HM17 := Lib.hid hm17
                  clear hn17 hm17
                  obtain rfl := p18 (hafter ⟨18, .data⟩ (by simp) rfl)
                  have c0 := (hS.1.cell (p := ⟨B, k * 3, none⟩) hlo).trans g6
                  have c1 := (hS.1.cell (p := ⟨B, k * 3 + 1, none⟩) hlo).trans g7
                  have c2 := (hS.1.cell (p := ⟨B, k * 3 + 2, none⟩) hlo).trans g8
                  have fz : ∀ o, wq.frozen? ⟨B, o, none⟩ = false := fun o => (hS.1.frozen (p := ⟨B, o, none⟩) hlo).trans (fo o)
                  have P0 := Lib.hid p0
                  have P1 := Lib.hid p1
                  have P2 := Lib.hid p2
                  have P3 := Lib.hid p3
                  have P4 := Lib.hid p4
                  have P5 := Lib.hid p5
                  have P6 := Lib.hid p6
                  have P7 := Lib.hid p7
                  have P8 := Lib.hid p8
                  have P9 := Lib.hid p9
                  have P10 := Lib.hid p10
                  have P11 := Lib.hid p11
                  have P12 := Lib.hid p12
                  have P13 := Lib.hid p13
                  have P14 := Lib.hid p14
                  have P15 := Lib.hid p15
                  have P16 := Lib.hid p16
                  have P17 := Lib.hid p17
                  have P18 := Lib.hid p18
                  have HS := Lib.hid hS
                  clear hS hLi hafter p0 p1 p2 p3 p4 p5 p6 p7 p8 p9 p10 p11 p12 p13 p14 p15 p16 p17 p18
                  simp only [Act.put, List.setIfInBounds_toArray, List.set_cons_zero, List.set_cons_succ]
                  go_wp2_with fail
                  exact ⟨u42, u43, u44, u45, u46, u47, u48, u49, u50, u51, u52, u53, u54, u55, u56, u57, u58, .agg #[.bool (decide ((pn).num < 0)), .slice r17 (nlen (pn).num.natAbs) c17, .slice t17 (nlen (pn).den) d17], .pointer (some ⟨B, k * 3, none⟩), by simp only [Act.put, List.setIfInBounds_toArray, List.set_cons_zero, List.set_cons_succ], .inr ⟨by simp, fun j hj => by simp [HALL.out j hj], ⟨_, _, _, _, _, HS.out, HN17.out, HM17.out, rfl⟩⟩⟩
              · exfalso
                have hi : i < 20 := (Array.getElem?_eq_some_iff.1 ho).1
                rcases Nat.lt_or_ge i 19 with h | h
                · rw [hall i h] at hLi; cases hLi
                · obtain rfl : i = 19 := by omega
                  rw [h10] at hLi; cases hLi
            · intro Ls a0 wq hall hJ
              obtain ⟨u42, u43, u44, u45, u46, u47, u48, u49, u50, u51, u52, u53, u54, u55, u56, u57, u58, u59, u60, rfl, ⟨h10, _⟩ | ⟨_, _, hcut⟩⟩ := hJ
              · rw [hall 19 (by decide)] at h10; cases h10
              · obtain ⟨wc, rn, cn, rn2', cn2', hs, hn, hn', rfl⟩ := hcut
                have hb := hs.1
                clear hs g0 g1 g2 g3 g4 g5 g6 g7 g8 hl1 hl2 hlo fo
                clear HN0
                clear HM0
                clear HRa
                clear HRb
                have hs_wc : W5.heap.size ≤ wc.heap.size := hb.size
                replace HB := Lib.hid (HB.out.trans (hb.mono hs0))
                replace hN : N ≤ wc.heap.size := Nat.le_trans hN hb.size
                replace hs0 : w.heap.size ≤ wc.heap.size := Nat.le_trans hs0 hb.size
                replace HRow := Lib.hid (HRow.out.below hb)
                clear hb
                have HN1 := Lib.hid hn
                have HN2 := Lib.hid hn'
                clear hn hn'
                simp only [Act.put, List.setIfInBounds_toArray, List.set_cons_zero, List.set_cons_succ]
                go_wp2_with fail
                go_roundw
                case rel => exact ⟨i + 1, by omega, by omega, by go_num, HRow.out.redo hNB (by omega) (fun j hj => by rw [rowP_old hj, rowP_old hj]) pn HSN.out HN1.out HN2.out, ((HB.out.setCell hBw _).setCell hBw _).setCell hBw _, by simp [World.setCell]; have := HRow.out.lt; omega⟩
                case measure => simp [intOf]; omega
          · have d4 : decide ((e : Int) < (m : Int)) = false := by simp; omega
            have d4' : decide (e < m) = false := by simp; omega
            go_wp2_with fail
            go_roundw
            case rel => exact ⟨i + 1, by omega, by omega, by go_num, HRow.out.congr (rowP_skip x n y m k i (by omega)), HB.out, by have := HRow.out.lt; omega⟩
            case measure => simp [intOf]; omega
        · by_cases hik : i ≤ k
          · have d2 : decide ((i : Int) ≤ (k : Int)) = true := by simp; omega
            have d2' : decide (i ≤ k) = true := by simp; omega
            have d3 : decide ((i : Int) < (n : Int)) = false := by simp; omega
            have d3' : decide (i < n) = false := by simp; omega
            go_wp2_with fail
            go_roundw
            case rel => exact ⟨k + 1, by omega, by go_num, HRow.out.congr (rowP_end x n y m k i hi1 hin hi2), HB.out, by have := HRow.out.lt; omega⟩
            case measure => simp [intOf]; omega
          · have d2 : decide ((i : Int) ≤ (k : Int)) = false := by simp; omega
            have d2' : decide (i ≤ k) = false := by simp; omega
            go_wp2_with fail
            go_roundw
            case rel => exact ⟨k + 1, by omega, by go_num, HRow.out.congr (rowP_end x n y m k i hi1 hin hi2), HB.out, by have := HRow.out.lt; omega⟩
            case measure => simp [intOf]; omega
    · obtain rfl : k = M := by omega
      have d1 : decide ((k : Int) < (k : Int)) = false := by simp
      have d1' : decide (k < k) = false := by simp
      go_wp2_with fail
      go_ret
      exact ⟨_, rfl, HRow.out.lt, (HRow.out.congr fun j hj => HCV.out j hj), HB.out⟩

end Go.Proofs.YtbjgnpgachdlaaaGreatDoor
