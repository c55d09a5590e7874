/- Contracts of the reference's DivMod and Gcd of natural numbers: for all numbers of at most 2^38 limbs. -/
import Derived.Test.YtnidfpilmmhniaaRefD
import Derived.Deep.LoopGhost
namespace Go.Proofs.Ytnidfpilmmhniaa
open Go.RowKit

theorem rowIs_below {w w' : World} {b n : Nat} {t : TypeId} {f : Nat → Value} (h : w.rowIs b t n f) (hb : Below w.heap.size w w') : w'.rowIs b t n f := by
  obtain ⟨c, h1, h2⟩ := h
  exact ⟨c, (hb.block b (Array.getElem?_eq_some_iff.1 h1).1).trans h1, h2⟩
theorem rowIs_lt {w : World} {b n : Nat} {t : TypeId} {f : Nat → Value} (h : w.rowIs b t n f) : b < w.heap.size := by
  obtain ⟨c, h1, _⟩ := h; exact (Array.getElem?_eq_some_iff.1 h1).1
/-- the slice lies in another block than g -/
def Ne (g : Nat) (a : Option Addr) (n : Nat) : Prop := 0 < n → ∀ b o s, a = some ⟨b, o, s⟩ → b ≠ g
theorem Nt.setNe {N : Nat} {w : World} {a : Option Addr} {n cap m : Nat} (h : Nt N w a n cap m) {g o : Nat} (hne : Ne g a n) (v : Value) : Nt N (w.setCell ⟨g, o, none⟩ v) a n cap m := by
  obtain ⟨h0, h1, h2, h3⟩ := h
  refine ⟨h0, h1, h2, fun hn => ?_⟩
  obtain ⟨b, off, e, ho, hc⟩ := h3 hn
  have eb := Below.heap_setCell w ⟨g, o, none⟩ v b (hne hn b off none e)
  exact ⟨b, off, e, ho.of_block eb, fun i hi => (World.cell?_of_block (w := w) (a := ⟨b, off + i, none⟩) eb).trans (hc i hi)⟩
theorem Ne.of_old {N : Nat} {w : World} {a : Option Addr} {n cap m g : Nat} (h : Nt N w a n cap m) (hg : w.heap.size ≤ g) : Ne g a n := by
  intro hn b o s e hbg
  obtain ⟨b', off, e', _, hc⟩ := h.2.2.2 hn
  rw [e'] at e
  have hlt : b' < w.heap.size := World.block_lt_of_cell? w _ (hc 0 hn)
  simp at e <;> omega
theorem Ne.of_fr {g B n : Nat} {r : Option Addr} (h : Fr B r) (hg : g < B) : Ne g r n := by
  intro _ b o s e hbg
  have := h b o s e
  omega

/-- the quotient's row takes a bit more -/
theorem bitRow_step {w : World} {b n Q j p : Nat} {v : Int} (h : w.rowIs b 122 n (fun i => .int .u32 (dig Q i))) (hQ : Q % 2 ^ (j + 1) = 0) (hp : j / 32 = p) (hv : v = dig (Q + 2 ^ j) p) :
    (w.setCell ⟨b, p, none⟩ (.int .u32 v)).rowIs b 122 n (fun i => .int .u32 (dig (Q + 2 ^ j) i)) := by
  subst hp
  refine (h.set (j / 32) (.int .u32 v)).congr fun i hi => ?_
  by_cases h1 : i = j / 32
  · subst h1; rw [if_pos rfl, hv]
  · rw [if_neg h1, setbit_ne Q j i hQ h1]
theorem bit_v (Q j p q : Nat) (hQ : Q % 2 ^ (j + 1) = 0) (hp : j / 32 = p ∧ j % 32 = q) : bits BinOp.or IntKind.u32 (dig Q p : Int) (2 ^ q % 4294967296) = (dig (Q + 2 ^ j) p : Int) := by
  obtain ⟨rfl, rfl⟩ := hp
  have hs : 2 ^ (j % 32) ≤ 2147483648 := two_le _ (Nat.mod_lt _ (by decide))
  have e : ((2 : Int) ^ (j % 32)) % 4294967296 = ((2 ^ (j % 32) : Nat) : Int) := by
    have : ((2 : Int) ^ (j % 32)) = ((2 ^ (j % 32) : Nat) : Int) := by simp
    rw [this]
    generalize 2 ^ (j % 32) = x at hs
    omega
  rw [e, bits_or_u32_nat _ _ (dig_lt' _ _) (by omega), setbit_at Q j hQ]

/-- the loop of DivMod before the round at bit j - 1 -/
def DivRel (N : Nat) (w : World) (g L K A b j : Nat) (s0 s11 s12 : Value) (wr : World) : Prop :=
  ∃ x Q ra ca rd cd, s0 = .slice ra (nlen x) ca ∧ s11 = .slice rd (nlen (dvr b j)) cd ∧ s12 = .int .i64 ((j : Int) - 1) ∧ Nt N wr ra (nlen x) ca x ∧ Nt N wr rd (nlen (dvr b j)) cd (dvr b j) ∧
    Ne g ra (nlen x) ∧ Ne g rd (nlen (dvr b j)) ∧ wr.rowIs g 122 L (fun i => .int .u32 (dig Q i)) ∧ DivInv A b j x Q ∧ j ≤ K ∧ Below w.heap.size w wr

theorem Nt.alloc' {N : Nat} {w : World} {a : Option Addr} {n cap m : Nat} (h : Nt N w a n cap m) (o : Obj) : Nt N (w.alloc o) a n cap m :=
  h.below ((Below.refl _ _).alloc (Nat.le_refl _) o)
theorem dvr_len {b j k : Nat} (h : j ≤ k + 1) : nlen (dvr b j) ≤ nlen b + (k / 32 + 1) := by
  have h1 : dvr b j ≤ b * 2 ^ k := by
    have h2 := Nat.mul_le_mul_left b (Nat.pow_le_pow_right (show 0 < 2 by decide) h)
    rw [← dvr_succ b k]; unfold dvr
    exact Nat.div_le_div_right h2
  refine Nat.le_trans (nlen_mono h1) (Nat.le_trans (nlen_mul _ _) ?_)
  have : nlen (2 ^ k) ≤ k / 32 + 1 := nlen_le (Nat.lt_of_lt_of_le (Nat.pow_lt_pow_right (by decide) (Nat.lt_succ_self k)) (pow_fit k))
  omega
theorem DivInv.le {A b j x Q : Nat} (h : DivInv A b j x Q) : x ≤ A := by obtain ⟨h1, _⟩ := h; omega

set_option maxHeartbeats 1000000 in
theorem xdivMod_zero {N : Nat} (a b : Option Addr) (na ca ma nb cb : Nat) (w : World) (ha : Nt N w a na ca ma) (hb : Nt N w b nb cb 0) (la : na ≤ 274877906944) (lb : nb ≤ 274877906944) :
    Calls Try.prog 144 #[.slice a na ca, .slice b nb cb] w fun e w' => e = .returned (.tuple #[.slice none 0 0, .slice none 0 0, .bool false]) ∧ Below w.heap.size w w' := by
  have HA := Lib.hid ha
  have HB := Lib.hid hb
  clear ha hb
  have HZ := Lib.hid nlen_zero
  go_enter Try.func144, Try.ntmps144
  go_wp2_with fail
  refine (xnorm_any (N := N) _ _ _ ma _ HA.out (by omega)).mono ?_
  rintro e w1 ⟨r1, c1, rfl, hn1, hb1⟩
  have HB1 := Lib.hid hb1
  clear hn1 hb1
  go_wp2_with fail
  refine (xnorm_any (N := N) _ _ _ 0 _ (HB.out.below HB1.out) (by omega)).mono ?_
  rintro e w2 ⟨r2, c2, rfl, hn2, hb2⟩
  have HB2 := Lib.hid hb2
  clear hn2 hb2
  rw [HZ.out]
  go_wp2_with fail
  go_ret3
  exact ⟨rfl, HB1.out.trans (HB2.out.mono HB1.out.size)⟩

set_option maxRecDepth 100000 in
set_option maxHeartbeats 4000000 in
theorem xdivMod_any {N : Nat} (a b : Option Addr) (na ca ma nb cb mb : Nat) (w : World) (hN : N ≤ w.heap.size) (ha : Nt N w a na ca ma) (hb : Nt N w b nb cb mb) (la : na ≤ 274877906944) (lb : nb ≤ 274877906944) (hb0 : 0 < mb) :
    Calls Try.prog 144 #[.slice a na ca, .slice b nb cb] w fun e w' => ∃ r cr r2 cr2, e = .returned (.tuple #[.slice r (nlen (ma / mb)) cr, .slice r2 (nlen (ma % mb)) cr2, .bool true]) ∧ Nt N w' r (nlen (ma / mb)) cr (ma / mb) ∧ Nt N w' r2 (nlen (ma % mb)) cr2 (ma % mb) ∧ Below w.heap.size w w' := by
  have l1 := ha.len
  have l2 := hb.len
  have hnb : nlen mb ≠ 0 := fun h => by rw [nlen_eq_zero] at h; omega
  have hz : ((nlen mb : Int) == 0) = false := by simp; omega
  have HA := Lib.hid ha
  have HB := Lib.hid hb
  clear ha hb
  go_enter Try.func144, Try.ntmps144
  go_wp2_with fail
  refine (xnorm_any (N := N) _ _ _ ma _ HA.out (by omega)).mono ?_
  rintro e w1 ⟨r1, c1, rfl, hn1, hb1⟩
  have HN1 := Lib.hid hn1
  have HB1 := Lib.hid hb1
  clear hn1 hb1
  go_wp2_with fail
  refine (xnorm_any (N := N) _ _ _ mb _ (HB.out.below HB1.out) (by omega)).mono ?_
  rintro e w2 ⟨r2, c2, rfl, hn2, hb2⟩
  have HN2 := Lib.hid hn2
  have HN1' := Lib.hid (HN1.out.below hb2)
  have HB2 := Lib.hid (HB1.out.trans (hb2.mono HB1.out.size))
  have hs2 := HB2.out.size
  clear hn2 hb2 HB1 HN1
  by_cases h1 : nlen mb = 1
  · have h1b : ((nlen mb : Int) == 1) = true := by simp; omega
    have hd := dig_lt' mb 0
    have hmb : dig mb 0 = mb := by
      have := lt_pow_nlen mb
      rw [h1, Nat.pow_one] at this
      unfold dig; rw [Nat.pow_zero, Nat.div_one]; exact Nat.mod_eq_of_lt this
    obtain ⟨b1, o1, rfl, _, hcb⟩ := HN2.out.2.2.2 (by omega)
    have hcell := hcb 0 (by omega)
    rw [Nat.add_zero, hmb] at hcell
    rw [hmb] at hd
    have hpos : (0 : Int) < (nlen mb : Int) := by omega
    clear hcb hmb h1
    have Hml := Lib.hid (Nat.mod_lt ma hb0)
    have hml2 : ma % mb < 4294967296 := by have := Hml.out; omega
    generalize hmm : ma % mb = rr at *
    have HMM := Lib.hid hmm
    clear hmm
    go_wp2_with fail
    refine (short_any (N := N) _ _ _ ma mb _ HN1'.out (by omega) hb0 (by omega)).mono ?_
    rw [HMM.out]
    rintro e w3 ⟨r, cr, rfl, hn, hbel⟩
    have HN3 := Lib.hid hn
    have HB3 := Lib.hid hbel
    clear hn hbel
    go_wp2_with fail
    refine (xof_any (N := N) rr _ (by omega)).mono ?_
    rintro e w4 ⟨r4, cr4, rfl, hn, hbel⟩
    have HN4 := Lib.hid hn
    have HB4 := Lib.hid hbel
    clear hn hbel
    go_wp2_with fail
    go_ret3
    rw [HMM.out]
    exact ⟨_, _, _, _, rfl, HN3.out.below HB4.out, HN4.out, (HB2.out.trans (HB3.out.mono HB2.out.size)).trans (HB4.out.mono (Nat.le_trans HB2.out.size HB3.out.size))⟩
  · have h1b : ((nlen mb : Int) == 1) = false := by simp; omega
    clear h1
    have bm1 := bl_nlen ma
    have bm2 := bl_nlen mb
    go_wp2_with fail
    refine (bits_any (N := N) _ _ _ ma _ HN1'.out (by omega)).mono ?_
    rintro e w3 ⟨rfl, hbel⟩
    have HB3 := Lib.hid (HB2.out.trans (hbel.mono hs2))
    have HN1'' := Lib.hid (HN1'.out.below hbel)
    have HN2' := Lib.hid (HN2.out.below hbel)
    clear hbel HN1' HN2 HB2
    go_wp2_with fail
    refine (bits_any (N := N) _ _ _ mb _ HN2'.out (by omega)).mono ?_
    rintro e w4 ⟨rfl, hbel⟩
    have HB4 := Lib.hid (HB3.out.trans (hbel.mono HB3.out.size))
    have HN1 := Lib.hid (HN1''.out.below hbel)
    have HN2 := Lib.hid (HN2'.out.below hbel)
    have hs4 := HB4.out.size
    clear hbel HN1'' HN2' HB3 hs2
    rcases Nat.lt_or_ge (bl ma) (bl mb) with hlt | hge
    · have hlt2 : (bl ma : Int) - (bl mb : Int) < 0 := by omega
      have HQ := Lib.hid (Nat.div_eq_of_lt (lt_of_bl hlt))
      have HR := Lib.hid (Nat.mod_eq_of_lt (lt_of_bl hlt))
      have HZ := Lib.hid nlen_zero
      go_wp2_with fail
      go_ret3
      rw [HQ.out, HR.out, HZ.out]
      exact ⟨none, 0, _, _, rfl, ⟨⟨Nat.le_refl _, fun _ => rfl⟩, Nat.zero_le _, pB 0, fun h => by omega⟩, HN1.out, HB4.out⟩
    · obtain ⟨k, hk⟩ : ∃ k : Nat, (bl ma : Int) - (bl mb : Int) = (k : Int) := ⟨bl ma - bl mb, by omega⟩
      have hkm : k ≤ 32 * nlen ma := by omega
      obtain ⟨p, q, hp, hq, hpq, hq32⟩ : ∃ p q : Nat, (k : Int) / 32 = p ∧ (k : Int) % 32 = q ∧ k = 32 * p + q ∧ q < 32 := ⟨k / 32, k % 32, by omega, by omega, by omega, by omega⟩
      have HPQ := Lib.hid hpq
      have hp1 : p ≤ nlen ma := by omega
      have HK := Lib.hid (show k / 32 = p by omega)
      have HS := Lib.hid (DivInv.start (A := ma) (n := k) (show mb ≠ 0 by omega) (by omega))
      have HLow := Lib.hid (show ma < mb * 2 ^ (k + 1) from HS.out.2.2)
      have hmk := run_make_row' (P := Try.prog) 25 122 (.int .u32 0) 4 Try.underNat Try.infoU32 rfl .i64 .i64 (p + 1) (by omega) (by omega)
      have ec : ((p + 1 : Nat) : Int) = (p : Int) + 1 := by omega
      rw [ec] at hmk
      clear ec hpq
      go_wp2_with fail
      refine (shift_fr (N := N) _ _ _ mb p q _ _ (HN2.out.alloc' _) hq32 (by omega) (by have := HPQ.out; omega)).mono ?_
      rw [← HPQ.out]
      rintro e w5 ⟨r5, c5, rfl, hn, hbel, hfr⟩
      have HN5 := Lib.hid hn
      have HB5 := Lib.hid hbel
      have HF5 := Lib.hid hfr
      clear hn hbel hfr
      have hs5 : w4.heap.size + 1 ≤ w5.heap.size := by have := HB5.out.size; simp at this; omega
      have HR5 := Lib.hid (rowIs_below ((World.rowIs_made w4 (.int .u32 0) (p + 1) 122).congr (g := fun i => .int .u32 (dig 0 i)) (fun i hi => by simp [dig_zero])) HB5.out)
      have HN1a := Lib.hid ((HN1.out.alloc' _).below HB5.out)
      have HE1 := Lib.hid (Ne.of_old HN1.out (Nat.le_refl _))
      have HE5 := Lib.hid (fun n => Ne.of_fr (n := n) HF5.out (show w4.heap.size < _ by simp))
      have HBw5 := Lib.hid (show Below w.heap.size w w5 from (HB4.out.trans (((Below.refl _ _).alloc (Nat.le_refl _) _).mono hs4)).trans (HB5.out.mono (by simp; omega)))
      clear HB5 HN1 HN2 HF5 HB4
      have HDS := Lib.hid (dvr_succ mb k)
      go_wp2_with fail
      go_loopg [0, 11, 12] (k + 1) (fun j s0 s11 s12 wr => DivRel N w w4.heap.size (p + 1) (k + 1) ma mb j s0 s11 s12 wr)
      case atStart => exact ⟨ma, 0, _, _, _, _, rfl, by rw [HDS.out], i64_congr (by omega), HN1a.out, by rw [HDS.out]; exact HN5.out, HE1.out, by rw [HDS.out]; exact HE5.out _, HR5.out, HS.out, Nat.le_refl _, HBw5.out⟩
      case round =>
        clear hmk HR5 HN5 HN1a HE1 HE5 HBw5
        obtain ⟨x, Q, ra, ca', rd, cd', rfl, rfl, rfl, hx, hd, nx, nd, hrow, hinv, hjk, hbel⟩ := hrel
        have HX := Lib.hid hx
        have HD := Lib.hid hd
        have HNX := Lib.hid nx
        have HND := Lib.hid nd
        have HR := Lib.hid hrow
        have HI := Lib.hid hinv
        have HBel := Lib.hid hbel
        have lx := nlen_mono hinv.le
        have ld := dvr_len (b := mb) (k := k) hjk
        rw [HK.out] at ld
        have hsr := hbel.size
        have hgr := rowIs_lt hrow
        clear hx hd nx nd hrow hinv hbel
        rcases Nat.eq_zero_or_pos gk with hj | hj
        · obtain rfl : gk = 0 := hj
          have hn1 : ((0 : Nat) : Int) - 1 < 0 := by omega
          have HQ := Lib.hid HI.out.done.1
          have HRm := Lib.hid HI.out.done.2
          have HL := Lib.hid (show Q < B ^ (p + 1) by rw [← HK.out]; exact Nat.lt_of_lt_of_le (HI.out.low HLow.out) (pow_fit k))
          have HNQ := Lib.hid (Nt.of_row (N := N) HR.out (by unfold maxLen; omega) HL.out (fun i hi => rfl))
          go_wp2_with fail
          refine (xnorm_any (N := N) _ _ _ Q _ HNQ.out (by omega)).mono ?_
          rintro e w6 ⟨r6, c6, rfl, hn, hb6⟩
          have HN6 := Lib.hid hn
          have HB6 := Lib.hid hb6
          clear hn hb6
          go_wp2_with fail
          go_ret3
          rw [← HQ.out, ← HRm.out]
          exact ⟨_, _, _, _, rfl, HN6.out, HX.out.below HB6.out, HBel.out.trans (HB6.out.mono hsr)⟩
        · obtain ⟨t, rfl⟩ : ∃ t, gk = t + 1 := ⟨gk - 1, by omega⟩
          have HDT := Lib.hid (dvr_succ mb t)
          have HDH := Lib.hid (dvr_half mb t)
          rw [show (((t + 1 : Nat) : Int) - 1) = (t : Int) by omega]
          obtain ⟨pt, qt, hpt, hqt, hpq, hqt32⟩ : ∃ pt qt : Nat, (t : Int) / 32 = pt ∧ (t : Int) % 32 = qt ∧ t = 32 * pt + qt ∧ qt < 32 := ⟨t / 32, t % 32, by omega, by omega, by omega, by omega⟩
          have HPT := Lib.hid (show t / 32 = pt ∧ t % 32 = qt by omega)
          have hptp : pt ≤ p := by have := HK.out; omega
          clear hpq hj
          rcases Nat.lt_or_ge x (dvr mb (t + 1)) with hlt | hge
          · have hcmp : cmpN x (dvr mb (t + 1)) < 0 := by rw [cmpN_lt hlt]; decide
            have hcmp2 : decide (0 ≤ cmpN x (dvr mb (t + 1))) = false := by simp; omega
            have HI2 := Lib.hid (HI.out.no (by rw [← HDT.out]; exact hlt))
            clear hlt
            go_wp2_with fail
            refine (xcmp_any _ _ _ _ _ _ _ _ _ HX.out HD.out).mono ?_
            rintro e w6 ⟨rfl, rfl⟩
            go_wp2_with fail
            refine (half_fr (N := N) _ _ _ _ _ HD.out (by omega)).mono ?_
            rw [HDH.out]
            rintro e w6 ⟨r6, c6, rfl, hn, hb6, hfr⟩
            have HN6 := Lib.hid hn
            have HB6 := Lib.hid hb6
            have HE6 := Lib.hid (Ne.of_fr (n := nlen (dvr mb t)) hfr hgr)
            clear hn hb6 hfr
            go_wp2_with fail
            go_roundg t
            case measure => omega
            case rel => exact ⟨x, Q, _, _, _, _, rfl, rfl, rfl, HX.out.below HB6.out, HN6.out, HNX.out, HE6.out, rowIs_below HR.out HB6.out, HI2.out, by omega, HBel.out.trans (HB6.out.mono hsr)⟩
          · have hcmp : ¬ cmpN x (dvr mb (t + 1)) < 0 := by unfold cmpN; rw [if_neg (by omega)]; split <;> omega
            have hcmp2 : decide (0 ≤ cmpN x (dvr mb (t + 1))) = true := by simp; omega
            have HI2 := Lib.hid (show DivInv ma mb t (x - dvr mb (t + 1)) (Q + 2 ^ t) by rw [HDT.out]; exact HI.out.yes (by rw [← HDT.out]; exact hge))
            have HQ0 := Lib.hid HI.out.2.1
            go_wp2_with fail
            refine (xcmp_any _ _ _ _ _ _ _ _ _ HX.out HD.out).mono ?_
            rintro e w6 ⟨rfl, rfl⟩
            go_wp2_with fail
            refine (xsub_fr (N := N) _ _ _ _ x _ _ _ _ (by omega) HX.out HD.out (by omega) hge).mono ?_
            rintro e w6 ⟨r6, c6, rfl, hn, hb6, hfr⟩
            have HN6 := Lib.hid hn
            have HB6 := Lib.hid hb6
            have HE6 := Lib.hid (Ne.of_fr (n := nlen (x - dvr mb (t + 1))) hfr hgr)
            have hrow6 := rowIs_below HR.out hb6
            have hput := hrow6.cell (i := pt) (by omega)
            have hfz := hrow6.frozen pt
            have HR6 := Lib.hid hrow6
            have hs6 := hb6.size
            clear hn hb6 hfr hrow6
            have dq := dig_lt' Q pt
            go_wp2_with fail
            refine (half_fr (N := N) _ _ _ _ _ ((HD.out.below HB6.out).setNe HND.out _) (by omega)).mono ?_
            rw [HDH.out]
            rintro e w7 ⟨r7, c7, rfl, hn, hb7, hfr⟩
            have HN7 := Lib.hid hn
            have HB7 := Lib.hid hb7
            have HE7 := Lib.hid (Ne.of_fr (n := nlen (dvr mb t)) hfr (show w4.heap.size < _ by simp [World.setCell]; omega))
            clear hn hb7 hfr
            go_wp2_with fail
            go_roundg t
            case measure => omega
            case rel => exact ⟨x - dvr mb (t + 1), Q + 2 ^ t, _, _, _, _, rfl, rfl, rfl, (HN6.out.setNe HE6.out _).below HB7.out, HN7.out, HE6.out, HE7.out, rowIs_below (bitRow_step HR6.out HQ0.out HPT.out.1 (bit_v Q t pt qt HQ0.out HPT.out)) HB7.out, HI2.out, by omega, ((HBel.out.trans (HB6.out.mono hsr)).setCell hs4 _).trans (HB7.out.mono (by simp [World.setCell]; omega))⟩

def XGcdRel (N : Nat) (w : World) (ma mb y : Nat) (s0 s1 : Value) (wr : World) : Prop :=
  ∃ x ra ca rb cb, s0 = .slice ra (nlen x) ca ∧ s1 = .slice rb (nlen y) cb ∧ Nt N wr ra (nlen x) ca x ∧ Nt N wr rb (nlen y) cb y ∧ Nat.gcd x y = Nat.gcd ma mb ∧ nlen x ≤ 274877906944 ∧ nlen y ≤ 274877906944 ∧ Below w.heap.size w wr

set_option maxHeartbeats 2000000 in
theorem xgcd_any {N : Nat} (a b : Option Addr) (na ca ma nb cb mb : Nat) (w : World) (hN : N ≤ w.heap.size) (ha : Nt N w a na ca ma) (hb : Nt N w b nb cb mb) (la : na ≤ 274877906944) (lb : nb ≤ 274877906944) :
    Calls Try.prog 143 #[.slice a na ca, .slice b nb cb] w fun e w' => ∃ r cr, e = .returned (.slice r (nlen (Nat.gcd ma mb)) cr) ∧ Nt N w' r (nlen (Nat.gcd ma mb)) cr (Nat.gcd ma mb) ∧ Below w.heap.size w w' := by
  have l1 := ha.len
  have l2 := hb.len
  have HA := Lib.hid ha
  have HB := Lib.hid hb
  clear ha hb
  go_enter Try.func143, Try.ntmps143
  go_wp2_with fail
  refine (xnorm_any (N := N) _ _ _ ma _ HA.out (by omega)).mono ?_
  rintro e w1 ⟨r1, c1, rfl, hn1, hb1⟩
  have HN1 := Lib.hid hn1
  have HB1 := Lib.hid hb1
  clear hn1 hb1
  go_wp2_with fail
  refine (xnorm_any (N := N) _ _ _ mb _ (HB.out.below HB1.out) (by omega)).mono ?_
  rintro e w2 ⟨r2, c2, rfl, hn2, hb2⟩
  have HN2 := Lib.hid hn2
  have HB2 := Lib.hid hb2
  clear hn2 hb2
  go_wp2_with fail
  go_loopg [0, 1, 5, 6, 7] mb (fun y s0 s1 _ _ _ wr => XGcdRel N w ma mb y s0 s1 wr)
  case atStart => exact ⟨ma, _, _, _, _, rfl, rfl, HN1.out.below HB2.out, HN2.out, rfl, by omega, by omega, HB1.out.trans (HB2.out.mono HB1.out.size)⟩
  case round =>
    obtain ⟨x, ra, ca', rb, cb', rfl, rfl, hx, hy, hg, hlx, hly, hbel⟩ := hrel
    have HX := Lib.hid hx
    have HY := Lib.hid hy
    have HG := Lib.hid hg
    have HBel := Lib.hid hbel
    clear hx hy hg hbel
    by_cases hy0 : gk = 0
    · have HZ := Lib.hid (show nlen gk = 0 by rw [nlen_eq_zero]; exact hy0)
      have HE : Hid (x = Nat.gcd ma mb) := by have := HG.out; rw [hy0, Nat.gcd_zero_right] at this; exact this
      clear hy0
      have hz : ¬ (0 : Int) < (nlen gk : Int) := by have := HZ.out; omega
      go_wp2_with fail
      go_ret
      rw [← HE.out]
      exact ⟨_, _, rfl, HX.out, HBel.out⟩
    · have hpos : 0 < nlen gk := by
        have : nlen gk ≠ 0 := fun h => hy0 (nlen_eq_zero.1 h)
        omega
      have hgk : 0 < gk := by omega
      clear hy0
      go_wp2_with fail
      refine (xdivMod_any (N := N) _ _ _ _ x _ _ gk _ (by have := HBel.out.size; omega) HX.out HY.out hlx hly hgk).mono ?_
      rintro e w3 ⟨r3, c3, r4, c4, rfl, hn3, hn4, hb3⟩
      have HN4 := Lib.hid hn4
      have HB3 := Lib.hid hb3
      clear hn3 hn4 hb3
      go_wp2_with fail
      go_roundg (x % gk)
      case measure => exact Nat.mod_lt _ hgk
      case rel => exact ⟨gk, _, _, _, _, rfl, rfl, HY.out.below HB3.out, HN4.out, by rw [Nat.gcd_comm, ← Nat.gcd_rec, Nat.gcd_comm]; exact HG.out, hly, Nat.le_trans (nlen_mono (Nat.le_of_lt (Nat.mod_lt _ hgk))) hly, HBel.out.trans (HB3.out.mono HBel.out.size)⟩

end Go.Proofs.Ytnidfpilmmhniaa
