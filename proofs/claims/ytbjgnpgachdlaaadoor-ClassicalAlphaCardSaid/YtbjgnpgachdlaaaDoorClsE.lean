/- Contract of classical.reliability for rows that violate no rule. -/
import Derived.Test.YtbjgnpgachdlaaaDoorClsD
namespace Go.Proofs.YtbjgnpgachdlaaaDoor
open Go.RowKit

/-- behind the store of a sum into the box g -/
def CutSt (N : Nat) (W : World) (g : Nat) (q : Rat) (w : World) : Prop :=
  ∃ r c r2 c2 w1, Since W w1 ∧ Nt N w1 r (nlen q.num.natAbs) c q.num.natAbs ∧ Nt N w1 r2 (nlen q.den) c2 q.den ∧ w = set3 w1 g (.bool (decide (q.num < 0))) (.slice r (nlen q.num.natAbs) c) (.slice r2 (nlen q.den) c2)
theorem RelI.drew {N : Nat} {w : World} {g n : Nat} {z : Nat → Nat → Int} {i p : Nat} {fc : Nat → Int} {wr : World} (h : RelI N w g n z i p fc wr) : RelI N w g n z i p fc wr.drew :=
  ⟨h.1, h.2.1, h.2.2.1, h.2.2.2.1, h.2.2.2.2.1, h.2.2.2.2.2.drew⟩
theorem Is.of_row {w : World} {b n : Nat} {f : Nat → Value} {x : Nat → Int} (h : w.rowIs b 3 n f) (hf : ∀ i, i < n → f i = .int .i64 (x i)) (hn : n ≤ maxLen) : Is w (some ⟨b, 0, none⟩) n n x :=
  ⟨Nat.le_refl _, hn, fun _ => ⟨b, 0, rfl, fun i hi => by rw [Nat.zero_add, h.cell hi, hf i hi]⟩⟩

def RelJ (N n g : Nat) (q1 q2 q3 : Rat) (rx rx2 : Option Addr) (cx cx2 : Nat) (W : World) (z0 : Act) (L : Nat → Bool) (z1 : Act) (w : World) : Prop :=
  ∃ u64 u65 u66 u67 u68, z1 = (((((z0.put (some 64) u64).put (some 65) u65).put (some 66) u66).put (some 67) u67).put (some 68) u68) ∧
    ((L 5 = false ∧ Since W w ∧ (L 0 = true → u64 = .agg #[.bool (decide ((q1).num < 0)), .slice rx (nlen (q1).num.natAbs) cx, .slice rx2 (nlen (q1).den) cx2]) ∧ (L 1 = true → u65 = .slice (some ⟨g + 1 + 1, 0, none⟩) n n) ∧ (L 2 = true → u66 = .slice (some ⟨g + 1 + 1, 0, none⟩) n n) ∧ (L 3 = true → IsRat N q2 u67 w) ∧ (L 4 = true → IsRat N q3 u68 w)) ∨
     (L 5 = true ∧ (∀ j, j < 5 → L j = true) ∧ CutSt N W g q3 w))

theorem rsz_quot (p q : Rat) : rsz (p / q) ≤ rsz p + rsz q := by
  obtain ⟨x1, hx1⟩ : ∃ x, p.num * zI false q.den = x := ⟨_, rfl⟩
  obtain ⟨x2, hx2⟩ : ∃ x, q.num * zI false p.den = x := ⟨_, rfl⟩
  have h := div_mk p.num q.num x1 x2 p.den q.den p.den_pos q.den_pos p q (p / q) (Rat.mkRat_self p) (Rat.mkRat_self q) rfl hx1 hx2
  rw [← h]
  have h1 : nlen p.num.natAbs ≤ rsz p ∧ nlen p.den ≤ rsz p := by unfold rsz; omega
  have h2 : nlen q.num.natAbs ≤ rsz q ∧ nlen q.den ≤ rsz q := by unfold rsz; omega
  have a1 := nlen_mul p.num.natAbs q.den
  have a2 := nlen_mul q.num.natAbs p.den
  have e1 : x1.natAbs = p.num.natAbs * q.den := by rw [← hx1, Int.natAbs_mul, zI_abs]
  have e2 : x2.natAbs = q.num.natAbs * p.den := by rw [← hx2, Int.natAbs_mul, zI_abs]
  have := rsz_pos p
  exact rsz_mk _ _ _ (by omega) (by rw [zI_abs, e1]; omega) (by rw [e2]; omega)
theorem set3_heap {w : World} {g : Nat} {T : TypeId} {x y u : Value} (h : w.heap[g]? = some (.cells #[x, y, u] T (0, 0))) (v0 v1 v2 : Value) : (set3 w g v0 v1 v2).heap[g]? = some (.cells #[v0, v1, v2] T (0, 0)) := by
  simp [set3, World.setCell, Array.getElem?_modify, h]
theorem relO_next {N : Nat} {w : World} {g n : Nat} {z : Nat → Nat → Int} {k : Nat} {fc : Nat → Int} {W wx : World} (hI : RelI N w g n z k n fc W) (hcut : CutSt N W g (itm z n (k + 1)) wx) (hN : N ≤ w.heap.size) (hg : w.heap.size + 2 ≤ g) :
    RelO N w g n z (k + 1) (fun p => z p k) wx := by
  obtain ⟨r, c, r2, c2, w1, hs, h1, h2, rfl⟩ := hcut
  obtain ⟨⟨x0, y0, x1, y1, hh, _, _⟩, ht, hc, b0, b1, hbel⟩ := hI
  have hlt : g < W.heap.size := (Array.getElem?_eq_some_iff.1 hh).1
  have hh1 := (hs.1.block g hlt).trans hh
  have bx : Bx w1 g 28 := ⟨_, _, hh1⟩
  have hf := fin3 hN (show w.heap.size ≤ g by omega) bx h1 h2 (hbel.trans (hs.1.mono hbel.size)) (.bool (decide ((itm z n (k + 1)).num < 0))) (.slice r (nlen (itm z n (k + 1)).num.natAbs) c) (.slice r2 (nlen (itm z n (k + 1)).den) c2)
  refine ⟨⟨r, c, r2, c2, set3_heap hh1 _ _ _, hf.1, hf.2.1⟩, ?_, ?_, ?_, ?_, hf.2.2⟩
  · exact (rowIs_other (rowIs_other (rowIs_other (rowIs_below' ht hs.1) (by omega) _) (by omega) _) (by omega) _).congr (fun p hp => by rw [if_pos hp])
  · exact (rowIs_other (rowIs_other (rowIs_other (rowIs_below' hc hs.1) (by omega) _) (by omega) _) (by omega) _).congr (fun p hp => by rw [if_pos hp])
  · exact (((b0.below hs.1).set _ _).set _ _).set _ _
  · exact (((b1.below hs.1).set _ _).set _ _).set _ _

def Clo (L : Nat → Bool) : Prop := (L 8 = true → L 4 = true ∧ L 7 = true) ∧ (L 7 = true → L 5 = true ∧ L 6 = true) ∧ (L 5 = true → L 4 = true) ∧ (L 4 = true → L 1 = true ∧ L 3 = true) ∧ (L 3 = true → L 2 = true)
theorem Clo.s0 {L : Nat → Bool} (h : Clo L) : Clo (fun j => if j = 0 then true else L j) := by
  unfold Clo at *
  grind
theorem Clo.s1 {L : Nat → Bool} (h : Clo L) : Clo (fun j => if j = 1 then true else L j) := by
  unfold Clo at *
  grind
theorem Clo.s2 {L : Nat → Bool} (h : Clo L) : Clo (fun j => if j = 2 then true else L j) := by
  unfold Clo at *
  grind
theorem Clo.s3 {L : Nat → Bool} (h : Clo L) (h2 : L 2 = true) : Clo (fun j => if j = 3 then true else L j) := by
  unfold Clo at *
  grind
theorem Clo.s4 {L : Nat → Bool} (h : Clo L) (h1 : L 1 = true) (h3 : L 3 = true) : Clo (fun j => if j = 4 then true else L j) := by
  unfold Clo at *
  grind
theorem Clo.s5 {L : Nat → Bool} (h : Clo L) (h4 : L 4 = true) : Clo (fun j => if j = 5 then true else L j) := by
  unfold Clo at *
  grind
theorem Clo.s6 {L : Nat → Bool} (h : Clo L) : Clo (fun j => if j = 6 then true else L j) := by
  unfold Clo at *
  grind
theorem Clo.s7 {L : Nat → Bool} (h : Clo L) (h5 : L 5 = true) (h6 : L 6 = true) : Clo (fun j => if j = 7 then true else L j) := by
  unfold Clo at *
  grind
theorem Clo.s8 {L : Nat → Bool} (h : Clo L) (h4 : L 4 = true) (h7 : L 7 = true) : Clo (fun j => if j = 8 then true else L j) := by
  unfold Clo at *
  grind
theorem set3_eq (w : World) (b : Nat) (v0 v1 v2 : Value) : set3 w b v0 v1 v2 = ((w.setCell ⟨b, 0, none⟩ v0).setCell ⟨b, 1, none⟩ v1).setCell ⟨b, 2, none⟩ v2 := rfl
theorem up_all {L : Nat → Bool} {n m : Nat} (h : ∀ j, j < n → L j = true) (hn : L n = true) : ∀ j, j < n + 1 → (if j = m then true else L j) = true := by
  intro j hj
  rcases Nat.lt_or_ge j n with h' | h'
  · rw [h j h']; simp
  · obtain rfl : j = n := by omega
    rw [hn]; simp
theorem Clo.all {L : Nat → Bool} (h : Clo L) (h0 : L 0 = true) (h8 : L 8 = true) : ∀ j, j < 9 → L j = true := by
  intro j hj
  unfold Clo at h
  obtain rfl | rfl | rfl | rfl | rfl | rfl | rfl | rfl | rfl : j = 0 ∨ j = 1 ∨ j = 2 ∨ j = 3 ∨ j = 4 ∨ j = 5 ∨ j = 6 ∨ j = 7 ∨ j = 8 := by omega
  all_goals grind
def Cut2 (N b0 : Nat) (p1 p2 : Rat) (rv rv2 : Option Addr) (cv cv2 : Nat) (W w : World) : Prop :=
  ∃ r c r2 c2 w1, Since W w1 ∧ Nt N w1 r (nlen p2.num.natAbs) c p2.num.natAbs ∧ Nt N w1 r2 (nlen p2.den) c2 p2.den ∧ w = set3 (set3 w1 b0 (.bool (decide (p1.num < 0))) (.slice rv (nlen p1.num.natAbs) cv) (.slice rv2 (nlen p1.den) cv2)) (b0 + 1) (.bool (decide (p2.num < 0))) (.slice r (nlen p2.num.natAbs) c) (.slice r2 (nlen p2.den) c2)
def RelK (N K b0 : Nat) (p1 pa po sh pd p2 : Rat) (rv rv2 rs rs2 : Option Addr) (cv cv2 cs cs2 : Nat) (W : World) (z0 : Act) (L : Nat → Bool) (z1 : Act) (w : World) : Prop :=
  ∃ u82 u83 u84 u85 u86 u87 u88 u89 u90 u4, z1 = ((((((((((z0.put (some 82) u82).put (some 83) u83).put (some 84) u84).put (some 85) u85).put (some 86) u86).put (some 87) u87).put (some 88) u88).put (some 89) u89).put (some 90) u90).put (some 4) u4) ∧
    ((L 9 = false ∧ L 10 = false ∧ L 11 = false ∧ Clo L ∧ Since W w ∧ (L 0 = true → u82 = .agg #[.bool (decide (p1.num < 0)), .slice rv (nlen p1.num.natAbs) cv, .slice rv2 (nlen p1.den) cv2]) ∧ (L 1 = true → u83 = .int .i64 (K : Int)) ∧ (L 2 = true → u84 = .int .i64 (K : Int)) ∧ (L 3 = true → u85 = .int .i64 ((K : Int) - 1)) ∧ (L 4 = true → IsRat N pa u86 w) ∧ (L 5 = true → IsRat N po u87 w) ∧ (L 6 = true → u88 = .agg #[.bool (decide ((sh).num < 0)), .slice rs (nlen (sh).num.natAbs) cs, .slice rs2 (nlen (sh).den) cs2]) ∧ (L 7 = true → IsRat N pd u89 w) ∧ (L 8 = true → IsRat N p2 u90 w)) ∨
     (L 9 = true ∧ L 10 = false ∧ L 11 = false ∧ (∀ j, j < 9 → L j = true) ∧ ∃ w1, Since W w1 ∧ IsRat N p2 u90 w1 ∧ w = set3 w1 b0 (.bool (decide (p1.num < 0))) (.slice rv (nlen p1.num.natAbs) cv) (.slice rv2 (nlen p1.den) cv2)) ∨
     (L 10 = true ∧ L 11 = false ∧ (∀ j, j < 10 → L j = true) ∧ Cut2 N b0 p1 p2 rv rv2 cv cv2 W w) ∨
     (L 11 = true ∧ (∀ j, j < 11 → L j = true) ∧ u4 = .int .i64 0 ∧ Cut2 N b0 p1 p2 rv rv2 cv cv2 W w))

set_option maxHeartbeats 16000000 in
theorem rel_ok {N : Nat} (a : Option Addr) (n cap : Nat) (ra : Nat → Option Addr) (rn rc : Nat → Nat) (z : Nat → Nat → Int) (w : World) (hN : N ≤ w.heap.size) (h : Rw w a n cap ra rn rc z) (hc : rowsC n rn z = 0) (K : Nat) (hK : rn 0 = K) (p1 p2 : Rat) (c : Int) (v : Rat) (hv : cov (totZ z K) (totZ z K) n = v)
    (hcase : (v = 0 ∧ p1 = 0 ∧ p2 = 0 ∧ c = 20) ∨ (v ≠ 0 ∧ p1 = v ∧ p2 = ((K : Int) : Rat) / (((K : Int) - 1 : Int) : Rat) * (((1 : Int) : Rat) / ((1 : Int) : Rat) - itm z n K / v) ∧ c = 0)) :
    Calls Tryd.prog 50 #[.slice a n cap] w (RelPost N w p1 p2 c) := by
  obtain ⟨n200, n0, hrn, k2, k60, hin⟩ := rowsC_zero hc
  rw [hK] at hrn k2 k60 hin
  have HR0 := Lib.hid h
  have HR := Lib.hid ((h.alloc (.cells #[.bool false, .slice none 0 0, .slice none 0 0] 28)).alloc (.cells #[.bool false, .slice none 0 0, .slice none 0 0] 28))
  have HC := Lib.hid hc
  have HIn := Lib.hid hin
  have HRn := Lib.hid hrn
  have HCase := Lib.hid hcase
  have HV := Lib.hid hv
  have hmk := run_make_row' (P := Tryd.prog) 22 3 (.int .i64 0) 8 Tryd.underInts Tryd.infoInt rfl .i64 .i64 n (by omega) (by omega)
  obtain ⟨b, off, ea, hrows⟩ := h.2.2 n0
  have HRows := Lib.hid hrows
  have hcell0 := cell_mono (cell_mono (hrows 0 n0).1 (bel1 w (.cells #[.bool false, .slice none 0 0, .slice none 0 0] 28))) (bel1 _ (.cells #[.bool false, .slice none 0 0, .slice none 0 0] 28))
  rw [Nat.add_zero, hK] at hcell0
  subst ea
  obtain ⟨q0, hq0⟩ : ∃ q : Rat, (0 : Rat) = q := ⟨_, rfl⟩
  have HQ0 := Lib.hid hq0
  have hn0i : (0 : Int) < (n : Int) := by omega
  clear h hc hin hrn hcase hv hrows hq0
  go_enter Tryd.func50, Tryd.ntmps50
  go_wp2_with fail
  refine (checkRows_any _ _ _ ra rn rc z _ HR.out).mono ?_
  rw [HC.out]
  rintro e w' ⟨rfl, rfl⟩
  go_wp2_with fail
  refine (czero_any (N := N) _ (by simp; omega) q0 HQ0.out).mono ?_
  rintro e wa ⟨rx, cx, rx2, cx2, rfl, hn, hn', hb⟩
  obtain ⟨hcwa, hfwa⟩ := bcell hb
  have hzwa0 : w.heap.size < wa.heap.size := by have := hb.size; (try simp at this); omega
  have hzwa1 : w.heap.size + 1 < wa.heap.size := by have := hb.size; (try simp at this); omega
  have HBwa := Lib.hid hb
  have HNwa := Lib.hid hn
  have HN'wa := Lib.hid hn'
  clear hb hn hn'
  have HST := Lib.hid (start_rel (w := w) (n := n) (z := z) HQ0.out.symm HNwa.out HN'wa.out (((Bk.new' w #[.bool false, .slice none 0 0, .slice none 0 0] 28 w.heap.size rfl).below (bel1 _ (.cells #[.bool false, .slice none 0 0, .slice none 0 0] 28))).below HBwa.out) ((Bk.new' (w.alloc (.cells #[.bool false, .slice none 0 0, .slice none 0 0] 28)) #[.bool false, .slice none 0 0, .slice none 0 0] 28 (w.heap.size + 1) (by simp)).below HBwa.out) ((bel2 w _ _).trans (HBwa.out.mono (by first | omega | (simp; done) | (simp; omega)))))
  obtain ⟨g, hg⟩ : ∃ g, wa.heap.size = g := ⟨_, rfl⟩
  have hg2 : w.heap.size + 2 ≤ g := by omega
  go_wp2_with fail
  rw [hg] at HST
  clear HBwa HNwa HN'wa hcwa hfwa hcell0
  go_loopw [10, 11, 12] (fun i _ _ wr => ∃ (k : Nat) (fc : Nat → Int), k ≤ K ∧ i = .int .i64 k ∧ RelO N w g n z k fc wr) (fun i _ _ _ => K - (intOf i).toNat)
  case atStart => exact ⟨0, fun _ => 0, Nat.zero_le _, rfl, HST.out⟩
  case round =>
    clear hmk HST hzwa0 hzwa1
    obtain ⟨k, fc, hk, rfl, hO⟩ := hrel
    have HO := Lib.hid hO
    clear hO
    by_cases hkK : k < K
    · go_wp2_with fail
      obtain ⟨wo, rfl⟩ : ∃ wo : World, wo = wr := ⟨_, rfl⟩
      go_loopw [11, 12, 41] (fun _ _ j wq => ∃ p : Nat, p ≤ n ∧ j = .int .i64 p ∧ RelI N w g n z k p fc wq) (fun _ _ j _ => n - (intOf j).toNat)
      case atStart => exact ⟨0, Nat.zero_le _, rfl, HO.out.inner⟩
      case round =>
        obtain ⟨p, hp, rfl, hI⟩ := hrel
        have HI := Lib.hid hI
        by_cases hpn : p < n
        · have hbel := hI.2.2.2.2.2
          obtain ⟨hc1, hrow⟩ := HRows.out p hpn
          have hrnp := HRn.out p hpn
          obtain ⟨b2, o2, e2, hc2⟩ := hrow.2.2 (by omega)
          have hb2 : b2 < w.heap.size := World.block_lt_of_cell? w _ (hc2 0 (by omega))
          have hcellv := cell_mono (hc2 k (by omega)) hbel
          have hcellr := cell_mono hc1 hbel
          rw [e2, hrnp] at hcellr
          have hputc := hI.2.2.1.cell (i := p) hpn
          have hfzc := hI.2.2.1.frozen p
          have hputt := hI.2.1.cell (i := p) hpn
          have hfzt := hI.2.1.frozen p
          rw [if_neg (Nat.lt_irrefl p)] at hputc hputt
          obtain ⟨t0, t1⟩ := tot_bd HIn.out hpn k (by omega)
          obtain ⟨z0, z1⟩ := HIn.out p hpn k hkK
          have hsum : IntKind.i64.wrap (totZ z k p + z p k) = totZ z k p + z p k := by rw [IntKind.wrap_i64]; omega
          clear hI hrow hc1 hc2 e2 hrnp hbel
          go_wp2_with fail
          obtain ⟨W1, hW1, kt, kv, ft⟩ : ∃ W1, wr.setCell ⟨g + 1 + 1, p, none⟩ (.int .i64 (z p k)) = W1 ∧ W1.cell? ⟨g + 1, p, none⟩ = some (.int .i64 (totZ z k p)) ∧ W1.cell? ⟨b2, o2 + k, none⟩ = some (.int .i64 (z p k)) ∧ W1.frozen? ⟨g + 1, p, none⟩ = false := ⟨_, rfl, (World.cell?_setCell_other _ _ _ _ (by simp)).trans hputt, (World.cell?_setCell_other _ _ _ _ (by first | (simp; done) | (simp; omega))).trans hcellv, by go_simp⟩
          have HSt := Lib.hid (show RelI N w g n z k (p + 1) fc (W1.setCell ⟨g + 1, p, none⟩ (.int .i64 (totZ z k p + z p k))) by rw [← hW1]; exact HI.out.step hN hg2)
          rw [hW1]
          clear hW1 hputc hputt hcellv hcellr hfzc hfzt HI
          go_region
          go_wp2_with fail
          go_roundw
          case rel => exact ⟨p + 1, by omega, by go_num, HSt.out.drew⟩
          case measure => simp [intOf]; omega
        · obtain rfl : n = p := by omega
          obtain ⟨W, rfl⟩ : ∃ W : World, W = wr := ⟨_, rfl⟩
          obtain ⟨rx, cx, rx2, cx2, hh, hi1, hi2⟩ := hI.1
          have HCI := Lib.hid (Is.of_row (x := colZ z k) hI.2.2.1 (fun i hi => by rw [if_pos hi]; rfl) (by unfold maxLen; omega))
          have HIN := Lib.hid (col_in HIn.out hkK)
          have HSZ1 := Lib.hid (show rsz (itm z n k) ≤ 512 by have := rsz_itm HIn.out n200 k (by omega); omega)
          have HSZ2 := Lib.hid (rsz_cov HIN.out HIN.out n200)
          obtain ⟨q3, hq3⟩ : ∃ q, itm z n (k + 1) = q := ⟨_, rfl⟩
          have HQ := Lib.hid hq3
          have hq3' : itm z n k + cov (colZ z k) (colZ z k) n = q3 := hq3
          obtain ⟨q1, hq1⟩ : ∃ q, itm z n k = q := ⟨_, rfl⟩
          obtain ⟨q2, hq2⟩ : ∃ q, cov (colZ z k) (colZ z k) n = q := ⟨_, rfl⟩
          rw [hq1] at hh hi1 hi2 HSZ1 hq3'
          rw [hq2] at HSZ2 hq3'
          have hfr := (show Bk W g 28 3 from ⟨_, hh, rfl⟩).frozen
          have hgW := (show Bk W g 28 3 from ⟨_, hh, rfl⟩).lt
          have k0 : W.cell? ⟨g, 0, none⟩ = some (.bool (decide (q1.num < 0))) := by simp [World.cell?, hh]
          have k1 : W.cell? ⟨g, 1, none⟩ = some (.slice rx (nlen q1.num.natAbs) cx) := by simp [World.cell?, hh]
          have k2 : W.cell? ⟨g, 2, none⟩ = some (.slice rx2 (nlen q1.den) cx2) := by simp [World.cell?, hh]
          have HI1 := Lib.hid hi1
          have HI2 := Lib.hid hi2
          have HQ2 := Lib.hid hq2
          have HQ3 := Lib.hid hq3'
          have HNW := Lib.hid (show N ≤ W.heap.size by omega)
          clear hI hh hi1 hi2 hq1 hq2 hq3 hq3'
          go_upto_region 17 with fail
          refine region_inv2 (by kernel_rfl) (RelJ N n g q1 q2 q3 rx rx2 cx cx2 (W)) ?_ ?_ ?_ ?_
          · exact ⟨u64, u65, u66, u67, u68, by simp only [Act.put, List.setIfInBounds_toArray, List.set_cons_zero, List.set_cons_succ], .inl ⟨rfl, Since.drawn _, (fun h => by cases h), (fun h => by cases h), (fun h => by cases h), (fun h => by cases h), (fun h => by cases h)⟩⟩
          · exact acyc_spec (by kernel_rfl)
          · intro Ls a0 wq i o ho hLi hafter hJ
            obtain ⟨u64, u65, u66, u67, u68, rfl, hJ | ⟨h10, hall, _⟩⟩ := hJ
            · obtain ⟨hLl, hS, p0, p1, p2, p3, p4⟩ := hJ
              have hi : i < 6 := (Array.getElem?_eq_some_iff.1 ho).1
              obtain rfl | rfl | rfl | rfl | rfl | rfl : i = 0 ∨ i = 1 ∨ i = 2 ∨ i = 3 ∨ i = 4 ∨ i = 5 := by omega
              · simp only [List.getElem?_toArray, List.getElem?_cons_zero, Option.some.injEq] at ho
                subst ho
                have c0 := (hS.1.cell (p := ⟨g, 0, none⟩) (by show g < W.heap.size; omega)).trans k0
                have c1 := (hS.1.cell (p := ⟨g, 1, none⟩) (by show g < W.heap.size; omega)).trans k1
                have c2 := (hS.1.cell (p := ⟨g, 2, none⟩) (by show g < W.heap.size; omega)).trans k2
                have P0 := Lib.hid p0
                have P1 := Lib.hid p1
                have P2 := Lib.hid p2
                have P3 := Lib.hid p3
                have P4 := Lib.hid p4
                have HS := Lib.hid hS
                clear hS hLi hafter p0 p1 p2 p3 p4
                simp only [Act.put, List.setIfInBounds_toArray, List.set_cons_zero, List.set_cons_succ]
                go_wp2_with fail
                exact ⟨.agg #[.bool (decide ((q1).num < 0)), .slice rx (nlen (q1).num.natAbs) cx, .slice rx2 (nlen (q1).den) cx2], u65, u66, u67, u68, by simp only [Act.put, List.setIfInBounds_toArray, List.set_cons_zero, List.set_cons_succ], .inl ⟨by simpa using hLl, HS.out, (fun _ => rfl), (fun h => by first | rfl | exact P1.out (by simpa using h)), (fun h => by first | rfl | exact P2.out (by simpa using h)), (fun h => P3.out (by simpa using h)), (fun h => P4.out (by simpa using h))⟩⟩
              · simp only [List.getElem?_toArray, List.getElem?_cons_zero, List.getElem?_cons_succ, Option.some.injEq] at ho
                subst ho
                have P0 := Lib.hid p0
                have P1 := Lib.hid p1
                have P2 := Lib.hid p2
                have P3 := Lib.hid p3
                have P4 := Lib.hid p4
                have HS := Lib.hid hS
                clear hS hLi hafter p0 p1 p2 p3 p4
                simp only [Act.put, List.setIfInBounds_toArray, List.set_cons_zero, List.set_cons_succ]
                go_wp2_with fail
                exact ⟨u64, .slice (some ⟨g + 1 + 1, 0, none⟩) n n, u66, u67, u68, by simp only [Act.put, List.setIfInBounds_toArray, List.set_cons_zero, List.set_cons_succ], .inl ⟨by simpa using hLl, HS.out, (fun h => by first | rfl | exact P0.out (by simpa using h)), (fun _ => rfl), (fun h => by first | rfl | exact P2.out (by simpa using h)), (fun h => P3.out (by simpa using h)), (fun h => P4.out (by simpa using h))⟩⟩
              · simp only [List.getElem?_toArray, List.getElem?_cons_zero, List.getElem?_cons_succ, Option.some.injEq] at ho
                subst ho
                have P0 := Lib.hid p0
                have P1 := Lib.hid p1
                have P2 := Lib.hid p2
                have P3 := Lib.hid p3
                have P4 := Lib.hid p4
                have HS := Lib.hid hS
                clear hS hLi hafter p0 p1 p2 p3 p4
                simp only [Act.put, List.setIfInBounds_toArray, List.set_cons_zero, List.set_cons_succ]
                go_wp2_with fail
                exact ⟨u64, u65, .slice (some ⟨g + 1 + 1, 0, none⟩) n n, u67, u68, by simp only [Act.put, List.setIfInBounds_toArray, List.set_cons_zero, List.set_cons_succ], .inl ⟨by simpa using hLl, HS.out, (fun h => by first | rfl | exact P0.out (by simpa using h)), (fun h => by first | rfl | exact P1.out (by simpa using h)), (fun _ => rfl), (fun h => P3.out (by simpa using h)), (fun h => P4.out (by simpa using h))⟩⟩
              · simp only [List.getElem?_toArray, List.getElem?_cons_zero, List.getElem?_cons_succ, Option.some.injEq] at ho
                subst ho
                obtain rfl := p1 (hafter ⟨1, .data⟩ (by simp) rfl)
                obtain rfl := p2 (hafter ⟨2, .data⟩ (by simp) rfl)
                have P0 := Lib.hid p0
                have P1 := Lib.hid p1
                have P2 := Lib.hid p2
                have P3 := Lib.hid p3
                have P4 := Lib.hid p4
                have HS := Lib.hid hS
                clear hS hLi hafter p0 p1 p2 p3 p4
                simp only [Act.put, List.setIfInBounds_toArray, List.set_cons_zero, List.set_cons_succ]
                go_wp2_with fail
                refine (covariance_any (N := N) _ _ _ _ _ (colZ z k) (colZ z k) _ (Nat.le_trans HNW.out HS.out.2) (HCI.out.below HS.out.1) (HCI.out.below HS.out.1) HIN.out HIN.out n200 q2 HQ2.out).mono ?_
                rintro e wc ⟨r, c, r2, c2, rfl, hn, hn', hb⟩
                have HN := Lib.hid hn
                have HM := Lib.hid hn'
                have Hb := Lib.hid hb
                clear hn hn' hb
                go_wp2_with fail
                exact ⟨u64, .slice (some ⟨g + 1 + 1, 0, none⟩) n n, .slice (some ⟨g + 1 + 1, 0, none⟩) n n, _, u68, by simp only [Act.put, List.setIfInBounds_toArray, List.set_cons_zero, List.set_cons_succ], .inl ⟨by simpa using hLl, HS.out.below Hb.out, (fun h => by first | rfl | exact P0.out (by simpa using h)), (fun h => by first | rfl | exact P1.out (by simpa using h)), (fun h => by first | rfl | exact P2.out (by simpa using h)), (fun _ => ⟨r, c, r2, c2, rfl, HN.out, HM.out⟩), (fun h => (P4.out (by simpa using h)).below Hb.out)⟩⟩
              · simp only [List.getElem?_toArray, List.getElem?_cons_zero, List.getElem?_cons_succ, Option.some.injEq] at ho
                subst ho
                obtain rfl := p0 (hafter ⟨0, .data⟩ (by simp) rfl)
                obtain ⟨r3, c3, t3, d3, rfl, hn3, hm3⟩ := p3 (hafter ⟨3, .data⟩ (by simp) rfl)
                have HN3 := Lib.hid hn3
                have HM3 := Lib.hid hm3
                clear hn3 hm3
                have P0 := Lib.hid p0
                have P1 := Lib.hid p1
                have P2 := Lib.hid p2
                have P3 := Lib.hid p3
                have P4 := Lib.hid p4
                have HS := Lib.hid hS
                clear hS hLi hafter p0 p1 p2 p3 p4
                simp only [Act.put, List.setIfInBounds_toArray, List.set_cons_zero, List.set_cons_succ]
                go_wp2_with fail
                refine (radd_any (N := N) _ _ _ _ _ _ _ _ _ _ _ _ _ _ 512 7 q1 q2 _ (Nat.le_trans HNW.out HS.out.2) (Rt.of_norm (HI1.out.below HS.out.1) (HI2.out.below HS.out.1) 512 HSZ1.out) (Rt.of_norm HN3.out HM3.out 7 HSZ2.out) (by omega) (by omega) q3 HQ3.out).mono ?_
                rintro e wc ⟨r, c, r2, c2, rfl, hn, hn', hb⟩
                have HN := Lib.hid hn
                have HM := Lib.hid hn'
                have Hb := Lib.hid hb
                clear hn hn' hb
                go_wp2_with fail
                exact ⟨.agg #[.bool (decide ((q1).num < 0)), .slice rx (nlen (q1).num.natAbs) cx, .slice rx2 (nlen (q1).den) cx2], u65, u66, _, _, by simp only [Act.put, List.setIfInBounds_toArray, List.set_cons_zero, List.set_cons_succ], .inl ⟨by simpa using hLl, HS.out.below Hb.out, (fun h => by first | rfl | exact P0.out (by simpa using h)), (fun h => by first | rfl | exact P1.out (by simpa using h)), (fun h => by first | rfl | exact P2.out (by simpa using h)), (fun h => (P3.out (by simpa using h)).below Hb.out), (fun _ => ⟨r, c, r2, c2, rfl, HN.out, HM.out⟩)⟩⟩
              · simp only [List.getElem?_toArray, List.getElem?_cons_zero, List.getElem?_cons_succ, Option.some.injEq] at ho
                subst ho
                have hall : ∀ j, j < 5 → Ls j = true := by
                  intro j hj
                  obtain rfl | rfl | rfl | rfl | rfl : j = 0 ∨ j = 1 ∨ j = 2 ∨ j = 3 ∨ j = 4 := by omega
                  all_goals exact hafter ⟨_, .phase⟩ (by simp) rfl
                have HALL := Lib.hid hall
                clear hall
                obtain ⟨r4, c4, t4, d4, rfl, hn4, hm4⟩ := p4 (hafter ⟨4, .data⟩ (by simp) rfl)
                have HN4 := Lib.hid hn4
                have HM4 := Lib.hid hm4
                clear hn4 hm4
                have c0 := (hS.1.cell (p := ⟨g, 0, none⟩) (by show g < W.heap.size; omega)).trans k0
                have c1 := (hS.1.cell (p := ⟨g, 1, none⟩) (by show g < W.heap.size; omega)).trans k1
                have c2 := (hS.1.cell (p := ⟨g, 2, none⟩) (by show g < W.heap.size; omega)).trans k2
                have f0 : ∀ o, wq.frozen? ⟨g, o, none⟩ = false := fun o => (hS.1.frozen (p := ⟨g, o, none⟩) (by show g < W.heap.size; omega)).trans (hfr o)
                have P0 := Lib.hid p0
                have P1 := Lib.hid p1
                have P2 := Lib.hid p2
                have P3 := Lib.hid p3
                have P4 := Lib.hid p4
                have HS := Lib.hid hS
                clear hS hLi hafter p0 p1 p2 p3 p4
                simp only [Act.put, List.setIfInBounds_toArray, List.set_cons_zero, List.set_cons_succ]
                go_wp2_with fail
                exact ⟨u64, u65, u66, u67, .agg #[.bool (decide (q3.num < 0)), .slice r4 (nlen q3.num.natAbs) c4, .slice t4 (nlen q3.den) d4], by simp only [Act.put, List.setIfInBounds_toArray, List.set_cons_zero, List.set_cons_succ], .inr ⟨by simp, fun j hj => by simp [HALL.out j hj], ⟨_, _, _, _, wq, HS.out, HN4.out, HM4.out, rfl⟩⟩⟩
            · exfalso
              have hi : i < 6 := (Array.getElem?_eq_some_iff.1 ho).1
              rcases Nat.lt_or_ge i 5 with h | h
              · rw [hall i h] at hLi; cases hLi
              · obtain rfl : i = 5 := by omega
                rw [h10] at hLi; cases hLi
          · intro Ls a0 wq hall hJ
            obtain ⟨u64, u65, u66, u67, u68, rfl, ⟨h10, _⟩ | ⟨_, _, hcut⟩⟩ := hJ
            · rw [hall 5 (by decide)] at h10; cases h10
            · have HC := Lib.hid hcut
              clear hcut
              simp only [Act.put, List.setIfInBounds_toArray, List.set_cons_zero, List.set_cons_succ]
              have HRO := Lib.hid (show RelO N w g n z (k + 1) (fun p => z p k) wq from relO_next HI.out (by rw [HQ.out]; exact HC.out) hN hg2)
              clear HC k0 k1 k2 hfr HCI HI1 HI2 HI HO
              go_wp2_with fail
              go_roundw
              case rel => exact ⟨k + 1, _, by omega, by go_num, HRO.out⟩
              case measure => simp [intOf]; omega
    · obtain rfl : K = k := by omega
      obtain ⟨W, rfl⟩ : ∃ W : World, W = wr := ⟨_, rfl⟩
      obtain ⟨⟨rx, cx, rx2, cx2, hh, hi1, hi2⟩, hrt, _, hk0, hk1, hbW⟩ := HO.out
      have HTI := Lib.hid (Is.of_row (x := totZ z K) hrt (fun i hi => rfl) (by unfold maxLen; omega))
      have HTM := Lib.hid (tot_in HIn.out k60)
      have HSZ1 := Lib.hid (show rsz (itm z n K) ≤ 512 by have := rsz_itm HIn.out n200 K (by omega); omega)
      have HSZ2 := Lib.hid (show rsz v ≤ 7 by rw [← HV.out]; exact rsz_cov HTM.out HTM.out n200)
      obtain ⟨q1, hq1⟩ : ∃ q, itm z n K = q := ⟨_, rfl⟩
      obtain ⟨sh, hsh⟩ : ∃ q, q1 / v = q := ⟨_, rfl⟩
      have HCs := HCase.out
      rw [hq1] at hh hi1 hi2 HSZ1 HCs
      rw [hsh] at HCs
      have HSZ3 := Lib.hid (show rsz sh ≤ 519 by rw [← hsh]; have h1 := rsz_quot q1 v; have h2 := HSZ1.out; have h3 := HSZ2.out; omega)
      have hgW := (show Bk W g 28 3 from ⟨_, hh, rfl⟩).lt
      have k0 : W.cell? ⟨g, 0, none⟩ = some (.bool (decide (q1.num < 0))) := by simp [World.cell?, hh]
      have k1 : W.cell? ⟨g, 1, none⟩ = some (.slice rx (nlen q1.num.natAbs) cx) := by simp [World.cell?, hh]
      have k2 : W.cell? ⟨g, 2, none⟩ = some (.slice rx2 (nlen q1.den) cx2) := by simp [World.cell?, hh]
      have HI1 := Lib.hid hi1
      have HI2 := Lib.hid hi2
      have HSH := Lib.hid hsh
      have HCC := Lib.hid HCs
      have HK0 := Lib.hid hk0
      have HK1 := Lib.hid hk1
      have HBW := Lib.hid hbW
      clear hh hi1 hi2 hrt hk0 hk1 hbW hq1 hsh HCs HO HCase HR HR0 HRows
      go_wp2_with fail
      refine (covariance_any (N := N) _ _ _ _ _ (totZ z K) (totZ z K) _ (by omega) HTI.out HTI.out HTM.out HTM.out n200 v HV.out).mono ?_
      rintro e wv ⟨rv, cv, rv2, cv2, rfl, hn, hn', hb⟩
      obtain ⟨hcwv, hfwv⟩ := bcell hb
      have hzwv0 : w.heap.size < wv.heap.size := by have := hb.size; (try simp at this); omega
      have hzwv1 : w.heap.size + 1 < wv.heap.size := by have := hb.size; (try simp at this); omega
      have hzwv2 : g < wv.heap.size := by have := hb.size; (try simp at this); omega
      have HBwv := Lib.hid hb
      have HNwv := Lib.hid hn
      have HN'wv := Lib.hid hn'
      clear hb hn hn'
      have kv0 := cell_mono k0 HBwv.out
      have kv1 := cell_mono k1 HBwv.out
      have kv2 := cell_mono k2 HBwv.out
      rcases HCC.out with ⟨hv0, e1, e2, e3⟩ | ⟨hv0, e1, e2, e3⟩
      · have HOK := Lib.hid (show decide (v ≠ 0) = false by simpa using hv0)
        subst e3
        have HE1 := Lib.hid e1
        have HE2 := Lib.hid e2
        clear hv0 e1 e2 kv0 kv1 kv2 HCC
        go_wp2_with fail
        refine (rdiv_any (N := N) _ _ _ _ _ _ _ _ _ _ _ _ _ _ 512 7 q1 v _ (by simp; omega) ((Rt.of_norm (HI1.out.below HBwv.out) (HI2.out.below HBwv.out) 512 HSZ1.out).alloc (.cells #[.bool (decide ((v).num < 0)), .slice rv (nlen (v).num.natAbs) cv, .slice rv2 (nlen (v).den) cv2] 28)) ((Rt.of_norm HNwv.out HN'wv.out 7 HSZ2.out).alloc (.cells #[.bool (decide ((v).num < 0)), .slice rv (nlen (v).num.natAbs) cv, .slice rv2 (nlen (v).den) cv2] 28)) (by omega) (by omega) sh HSH.out false HOK.out).mono ?_
        rintro e ws ⟨rs, cs, rs2, cs2, rfl, hn, hn', hb⟩
        obtain ⟨hcws, hfws⟩ := bcell hb
        have hzws0 : w.heap.size < ws.heap.size := by have := hb.size; (try simp at this); omega
        have hzws1 : w.heap.size + 1 < ws.heap.size := by have := hb.size; (try simp at this); omega
        have hzws2 : g < ws.heap.size := by have := hb.size; (try simp at this); omega
        have hzws3 : wv.heap.size < ws.heap.size := by have := hb.size; (try simp at this); omega
        have HBws := Lib.hid hb
        have HNws := Lib.hid hn
        have HN'ws := Lib.hid hn'
        clear hb hn hn'
        go_wp2_with fail
        refine (czero_any (N := N) _ (by simp; omega) p1 HE1.out.symm).mono ?_
        rintro e wy ⟨ry, cy, ry2, cy2, rfl, hn, hn', hb⟩
        obtain ⟨hcwy, hfwy⟩ := bcell hb
        have hzwy0 : w.heap.size < wy.heap.size := by have := hb.size; (try simp at this); omega
        have hzwy1 : w.heap.size + 1 < wy.heap.size := by have := hb.size; (try simp at this); omega
        have hzwy2 : g < wy.heap.size := by have := hb.size; (try simp at this); omega
        have hzwy3 : wv.heap.size < wy.heap.size := by have := hb.size; (try simp at this); omega
        have hzwy4 : ws.heap.size < wy.heap.size := by have := hb.size; (try simp at this); omega
        have HBwy := Lib.hid hb
        have HNwy := Lib.hid hn
        have HN'wy := Lib.hid hn'
        clear hb hn hn'
        go_wp2_with fail
        refine (czero_any (N := N) _ (by omega) p2 HE2.out.symm).mono ?_
        rintro e wz ⟨rz, cz, rz2, cz2, rfl, hn, hn', hb⟩
        obtain ⟨hcwz, hfwz⟩ := bcell hb
        have hzwz0 : w.heap.size < wz.heap.size := by have := hb.size; (try simp at this); omega
        have hzwz1 : w.heap.size + 1 < wz.heap.size := by have := hb.size; (try simp at this); omega
        have hzwz2 : g < wz.heap.size := by have := hb.size; (try simp at this); omega
        have hzwz3 : wv.heap.size < wz.heap.size := by have := hb.size; (try simp at this); omega
        have hzwz4 : ws.heap.size < wz.heap.size := by have := hb.size; (try simp at this); omega
        have HBwz := Lib.hid hb
        have HNwz := Lib.hid hn
        have HN'wz := Lib.hid hn'
        clear hb hn hn'
        have KB0 := Lib.hid (((((HK0.out.below HBwv.out).below (bel_of_alloc HBws.out)).below (bel_of_alloc HBwy.out)).below HBwz.out))
        have KB1 := Lib.hid (((((HK1.out.below HBwv.out).below (bel_of_alloc HBws.out)).below (bel_of_alloc HBwy.out)).below HBwz.out))
        obtain ⟨x00, hu00⟩ := KB0.out.cell (o := 0) (by decide)
        obtain ⟨x01, hu01⟩ := KB0.out.cell (o := 1) (by decide)
        obtain ⟨x02, hu02⟩ := KB0.out.cell (o := 2) (by decide)
        obtain ⟨x10, hu10⟩ := KB1.out.cell (o := 0) (by decide)
        obtain ⟨x11, hu11⟩ := KB1.out.cell (o := 1) (by decide)
        obtain ⟨x12, hu12⟩ := KB1.out.cell (o := 2) (by decide)
        have fz0 := KB0.out.frozen
        have fz1 := KB1.out.frozen
        clear hcwv hfwv hcws hfws hcwy hfwy hcwz hfwz
        have HF := Lib.hid (fun v0 v1 v2 v3 v4 v5 => fin33 hN (Nat.le_refl _) (Nat.le_succ _) KB0.out.bx KB1.out.bx (HNwy.out.below HBwz.out) (HN'wy.out.below HBwz.out) HNwz.out HN'wz.out (((((HBW.out.trans (HBwv.out.mono (by first | omega | (simp; omega)))).trans ((bel_of_alloc HBws.out).mono (by first | omega | (simp; omega)))).trans ((bel_of_alloc HBwy.out).mono (by first | omega | (simp; omega)))).trans (HBwz.out.mono (by first | omega | (simp; omega))))) v0 v1 v2 v3 v4 v5)
        go_wp2_with fail
        exact bodyPost_ret (v := .tuple #[.agg #[.bool (decide ((p1).num < 0)), .slice ry (nlen (p1).num.natAbs) cy, .slice ry2 (nlen (p1).den) cy2], .agg #[.bool (decide ((p2).num < 0)), .slice rz (nlen (p2).num.natAbs) cz, .slice rz2 (nlen (p2).den) cz2], .int .i64 20]) (by simp [results, Tryd.results50, go_sem, hu00, hu01, hu02, hu10, hu11, hu12]) rfl ⟨_, _, _, _, _, _, _, _, rfl, (HF.out _ _ _ _ _ _).1, (HF.out _ _ _ _ _ _).2.1, (HF.out _ _ _ _ _ _).2.2.1, (HF.out _ _ _ _ _ _).2.2.2.1, (HF.out _ _ _ _ _ _).2.2.2.2⟩
      · have HOK := Lib.hid (show decide (v ≠ 0) = true by simpa using hv0)
        subst e3
        subst e1
        obtain ⟨pa, hpa⟩ : ∃ q, ((K : Int) : Rat) / (((K : Int) - 1 : Int) : Rat) = q := ⟨_, rfl⟩
        obtain ⟨po, hpo⟩ : ∃ q, ((1 : Int) : Rat) / ((1 : Int) : Rat) = q := ⟨_, rfl⟩
        obtain ⟨pd, hpd⟩ : ∃ q, po - sh = q := ⟨_, rfl⟩
        rw [hpa, hpo, hpd] at e2
        have HSA := Lib.hid (show rsz pa ≤ 2 from rsz_div K (K - 1) pa (by rw [← hpa, show (((K - 1 : Nat) : Int)) = (K : Int) - 1 by omega]) (by omega) (by omega))
        have HSO := Lib.hid (show rsz po ≤ 2 from rsz_div 1 1 po hpo (by decide) (by decide))
        have HSD := Lib.hid (show rsz pd ≤ 522 by rw [← hpd]; have h1 := rsz_sub po sh; have h2 := HSO.out; have h3 := HSZ3.out; omega)
        have HPA := Lib.hid hpa
        have HPO := Lib.hid hpo
        have HPD := Lib.hid hpd
        have HE2 := Lib.hid e2.symm
        have hwr : IntKind.i64.wrap ((K : Int) - 1) = (K : Int) - 1 := by rw [IntKind.wrap_i64]; omega
        have tok1 : True := trivial
        clear hv0 e2 kv0 kv1 kv2 HCC hpa hpo hpd
        go_wp2_with fail
        refine (rdiv_any (N := N) _ _ _ _ _ _ _ _ _ _ _ _ _ _ 512 7 q1 p1 _ (by simp; omega) ((Rt.of_norm (HI1.out.below HBwv.out) (HI2.out.below HBwv.out) 512 HSZ1.out).alloc (.cells #[.bool (decide ((p1).num < 0)), .slice rv (nlen (p1).num.natAbs) cv, .slice rv2 (nlen (p1).den) cv2] 28)) ((Rt.of_norm HNwv.out HN'wv.out 7 HSZ2.out).alloc (.cells #[.bool (decide ((p1).num < 0)), .slice rv (nlen (p1).num.natAbs) cv, .slice rv2 (nlen (p1).den) cv2] 28)) (by omega) (by omega) sh HSH.out true HOK.out).mono ?_
        rintro e ws ⟨rs, cs, rs2, cs2, rfl, hn, hn', hb⟩
        obtain ⟨hcws, hfws⟩ := bcell hb
        have hzws0 : w.heap.size < ws.heap.size := by have := hb.size; (try simp at this); omega
        have hzws1 : w.heap.size + 1 < ws.heap.size := by have := hb.size; (try simp at this); omega
        have hzws2 : g < ws.heap.size := by have := hb.size; (try simp at this); omega
        have hzws3 : wv.heap.size < ws.heap.size := by have := hb.size; (try simp at this); omega
        have HBws := Lib.hid hb
        have HNws := Lib.hid hn
        have HN'ws := Lib.hid hn'
        clear hb hn hn'
        have HV0 := Lib.hid (show (ws.alloc (.cells #[.bool (decide ((sh).num < 0)), .slice rs (nlen (sh).num.natAbs) cs, .slice rs2 (nlen (sh).den) cs2] 28)).cell? ⟨wv.heap.size, 0, none⟩ = some (.bool (decide (p1.num < 0))) from cell_mono (cell_mono (show (wv.alloc (.cells #[.bool (decide ((p1).num < 0)), .slice rv (nlen (p1).num.natAbs) cv, .slice rv2 (nlen (p1).den) cv2] 28)).cell? ⟨wv.heap.size, 0, none⟩ = some (.bool (decide (p1.num < 0))) by first | (unfold World.cell?; rw [heap_alloc_new]; rfl) | (go_simp; done)) HBws.out) (bel1 ws (.cells #[.bool (decide ((sh).num < 0)), .slice rs (nlen (sh).num.natAbs) cs, .slice rs2 (nlen (sh).den) cs2] 28)))
        have HV1 := Lib.hid (show (ws.alloc (.cells #[.bool (decide ((sh).num < 0)), .slice rs (nlen (sh).num.natAbs) cs, .slice rs2 (nlen (sh).den) cs2] 28)).cell? ⟨wv.heap.size, 1, none⟩ = some (.slice rv (nlen p1.num.natAbs) cv) from cell_mono (cell_mono (show (wv.alloc (.cells #[.bool (decide ((p1).num < 0)), .slice rv (nlen (p1).num.natAbs) cv, .slice rv2 (nlen (p1).den) cv2] 28)).cell? ⟨wv.heap.size, 1, none⟩ = some (.slice rv (nlen p1.num.natAbs) cv) by first | (unfold World.cell?; rw [heap_alloc_new]; rfl) | (go_simp; done)) HBws.out) (bel1 ws (.cells #[.bool (decide ((sh).num < 0)), .slice rs (nlen (sh).num.natAbs) cs, .slice rs2 (nlen (sh).den) cs2] 28)))
        have HV2 := Lib.hid (show (ws.alloc (.cells #[.bool (decide ((sh).num < 0)), .slice rs (nlen (sh).num.natAbs) cs, .slice rs2 (nlen (sh).den) cs2] 28)).cell? ⟨wv.heap.size, 2, none⟩ = some (.slice rv2 (nlen p1.den) cv2) from cell_mono (cell_mono (show (wv.alloc (.cells #[.bool (decide ((p1).num < 0)), .slice rv (nlen (p1).num.natAbs) cv, .slice rv2 (nlen (p1).den) cv2] 28)).cell? ⟨wv.heap.size, 2, none⟩ = some (.slice rv2 (nlen p1.den) cv2) by first | (unfold World.cell?; rw [heap_alloc_new]; rfl) | (go_simp; done)) HBws.out) (bel1 ws (.cells #[.bool (decide ((sh).num < 0)), .slice rs (nlen (sh).num.natAbs) cs, .slice rs2 (nlen (sh).den) cs2] 28)))
        have HT0 := Lib.hid (show (ws.alloc (.cells #[.bool (decide ((sh).num < 0)), .slice rs (nlen (sh).num.natAbs) cs, .slice rs2 (nlen (sh).den) cs2] 28)).cell? ⟨ws.heap.size, 0, none⟩ = some (.bool (decide ((sh).num < 0))) by first | (unfold World.cell?; rw [heap_alloc_new]; rfl) | (go_simp; done))
        have HT1 := Lib.hid (show (ws.alloc (.cells #[.bool (decide ((sh).num < 0)), .slice rs (nlen (sh).num.natAbs) cs, .slice rs2 (nlen (sh).den) cs2] 28)).cell? ⟨ws.heap.size, 1, none⟩ = some (.slice rs (nlen (sh).num.natAbs) cs) by first | (unfold World.cell?; rw [heap_alloc_new]; rfl) | (go_simp; done))
        have HT2 := Lib.hid (show (ws.alloc (.cells #[.bool (decide ((sh).num < 0)), .slice rs (nlen (sh).num.natAbs) cs, .slice rs2 (nlen (sh).den) cs2] 28)).cell? ⟨ws.heap.size, 2, none⟩ = some (.slice rs2 (nlen (sh).den) cs2) by first | (unfold World.cell?; rw [heap_alloc_new]; rfl) | (go_simp; done))
        have HKB0 := Lib.hid (((HK0.out.below HBwv.out).below (bel_of_alloc HBws.out)).below (bel1 ws (.cells #[.bool (decide ((sh).num < 0)), .slice rs (nlen (sh).num.natAbs) cs, .slice rs2 (nlen (sh).den) cs2] 28)))
        have HKB1 := Lib.hid (((HK1.out.below HBwv.out).below (bel_of_alloc HBws.out)).below (bel1 ws (.cells #[.bool (decide ((sh).num < 0)), .slice rs (nlen (sh).num.natAbs) cs, .slice rs2 (nlen (sh).den) cs2] 28)))
        have HNV1 := Lib.hid ((HNwv.out.below (bel_of_alloc HBws.out)).below (bel1 ws (.cells #[.bool (decide ((sh).num < 0)), .slice rs (nlen (sh).num.natAbs) cs, .slice rs2 (nlen (sh).den) cs2] 28)))
        have HNV2 := Lib.hid ((HN'wv.out.below (bel_of_alloc HBws.out)).below (bel1 ws (.cells #[.bool (decide ((sh).num < 0)), .slice rs (nlen (sh).num.natAbs) cs, .slice rs2 (nlen (sh).den) cs2] 28)))
        have HNS1 := Lib.hid (HNws.out.below (bel1 ws (.cells #[.bool (decide ((sh).num < 0)), .slice rs (nlen (sh).num.natAbs) cs, .slice rs2 (nlen (sh).den) cs2] 28)))
        have HNS2 := Lib.hid (HN'ws.out.below (bel1 ws (.cells #[.bool (decide ((sh).num < 0)), .slice rs (nlen (sh).num.natAbs) cs, .slice rs2 (nlen (sh).den) cs2] 28)))
        have HBR := Lib.hid (((HBW.out.trans (HBwv.out.mono (by first | omega | (simp; omega)))).trans ((bel_of_alloc HBws.out).mono (by first | omega | (simp; omega)))).trans ((bel1 ws (.cells #[.bool (decide ((sh).num < 0)), .slice rs (nlen (sh).num.natAbs) cs, .slice rs2 (nlen (sh).den) cs2] 28)).mono (by omega)))
        go_wp2_with fail
        obtain ⟨WR, hWR⟩ : ∃ W, ws.alloc (.cells #[.bool (decide ((sh).num < 0)), .slice rs (nlen (sh).num.natAbs) cs, .slice rs2 (nlen (sh).den) cs2] 28) = W := ⟨_, rfl⟩
        have hsz : ws.heap.size < WR.heap.size := by rw [← hWR]; simp
        have HNWR := Lib.hid (show N ≤ WR.heap.size by omega)
        rw [hWR] at HV0 HV1 HV2 HT0 HT1 HT2 HKB0 HKB1 HNV1 HNV2 HNS1 HNS2 HBR
        clear hcwv hfwv hcws hfws
        try rw [hWR]
        clear hWR HBwv HBws HNwv HN'wv HNws HN'ws HTI HTM HIn HRn HC
        refine region_inv2 (by kernel_rfl) (RelK N K w.heap.size p1 pa po sh pd p2 rv rv2 rs rs2 cv cv2 cs cs2 WR) ?_ ?_ ?_ ?_
        · exact ⟨undef, undef, undef, undef, undef, undef, undef, undef, undef, .int .i64 0, by simp only [Act.put, List.setIfInBounds_toArray, List.set_cons_zero, List.set_cons_succ], .inl ⟨rfl, rfl, rfl, by simp [Clo], Since.drawn _, (fun h => by cases h), (fun h => by cases h), (fun h => by cases h), (fun h => by cases h), (fun h => by cases h), (fun h => by cases h), (fun h => by cases h), (fun h => by cases h), (fun h => by cases h)⟩⟩
        · exact acyc_spec (by kernel_rfl)
        · intro Ls a0 wq i o ho hLi hafter hJ
          obtain ⟨u82, u83, u84, u85, u86, u87, u88, u89, u90, u4, rfl, hJ | hJ | hJ | hJ⟩ := hJ
          · obtain ⟨h9, h10, h11, hCl, hS, p0, p1, p2, p3, p4, p5, p6, p7, p8⟩ := hJ
            have hi : i < 12 := (Array.getElem?_eq_some_iff.1 ho).1
            obtain rfl | rfl | rfl | rfl | rfl | rfl | rfl | rfl | rfl | rfl | rfl | rfl : i = 0 ∨ i = 1 ∨ i = 2 ∨ i = 3 ∨ i = 4 ∨ i = 5 ∨ i = 6 ∨ i = 7 ∨ i = 8 ∨ i = 9 ∨ i = 10 ∨ i = 11 := by omega
            · simp only [List.getElem?_toArray, List.getElem?_cons_zero, Option.some.injEq] at ho
              subst ho
              have HCl := Lib.hid (Clo.s0 hCl)
              have c0 := (hS.1.cell (p := ⟨wv.heap.size, 0, none⟩) (by show wv.heap.size < WR.heap.size; omega)).trans HV0.out
              have c1 := (hS.1.cell (p := ⟨wv.heap.size, 1, none⟩) (by show wv.heap.size < WR.heap.size; omega)).trans HV1.out
              have c2 := (hS.1.cell (p := ⟨wv.heap.size, 2, none⟩) (by show wv.heap.size < WR.heap.size; omega)).trans HV2.out
              have P0 := Lib.hid p0
              have P1 := Lib.hid p1
              have P2 := Lib.hid p2
              have P3 := Lib.hid p3
              have P4 := Lib.hid p4
              have P5 := Lib.hid p5
              have P6 := Lib.hid p6
              have P7 := Lib.hid p7
              have P8 := Lib.hid p8
              have HS := Lib.hid hS
              have HL9 := Lib.hid h9
              have HL10 := Lib.hid h10
              have HL11 := Lib.hid h11
              clear hCl h9 h10 h11 hS hLi hafter p0 p1 p2 p3 p4 p5 p6 p7 p8
              simp only [Act.put, List.setIfInBounds_toArray, List.set_cons_zero, List.set_cons_succ]
              go_wp2_with fail
              exact ⟨.agg #[.bool (decide (p1.num < 0)), .slice rv (nlen p1.num.natAbs) cv, .slice rv2 (nlen p1.den) cv2], u83, u84, u85, u86, u87, u88, u89, u90, u4, by simp only [Act.put, List.setIfInBounds_toArray, List.set_cons_zero, List.set_cons_succ], .inl ⟨by simpa using HL9.out, by simpa using HL10.out, by simpa using HL11.out, HCl.out, HS.out, (fun _ => rfl), (fun h => by first | rfl | exact P1.out (by simpa using h)), (fun h => by first | rfl | exact P2.out (by simpa using h)), (fun h => by first | rfl | exact P3.out (by simpa using h)), (fun h => P4.out (by simpa using h)), (fun h => P5.out (by simpa using h)), (fun h => by first | rfl | exact P6.out (by simpa using h)), (fun h => P7.out (by simpa using h)), (fun h => P8.out (by simpa using h))⟩⟩
            · simp only [List.getElem?_toArray, List.getElem?_cons_zero, List.getElem?_cons_succ, Option.some.injEq] at ho
              subst ho
              have HCl := Lib.hid (Clo.s1 hCl)
              have P0 := Lib.hid p0
              have P1 := Lib.hid p1
              have P2 := Lib.hid p2
              have P3 := Lib.hid p3
              have P4 := Lib.hid p4
              have P5 := Lib.hid p5
              have P6 := Lib.hid p6
              have P7 := Lib.hid p7
              have P8 := Lib.hid p8
              have HS := Lib.hid hS
              have HL9 := Lib.hid h9
              have HL10 := Lib.hid h10
              have HL11 := Lib.hid h11
              clear hCl h9 h10 h11 hS hLi hafter p0 p1 p2 p3 p4 p5 p6 p7 p8
              simp only [Act.put, List.setIfInBounds_toArray, List.set_cons_zero, List.set_cons_succ]
              go_wp2_with fail
              exact ⟨u82, .int .i64 (K : Int), u84, u85, u86, u87, u88, u89, u90, u4, by simp only [Act.put, List.setIfInBounds_toArray, List.set_cons_zero, List.set_cons_succ], .inl ⟨by simpa using HL9.out, by simpa using HL10.out, by simpa using HL11.out, HCl.out, HS.out, (fun h => by first | rfl | exact P0.out (by simpa using h)), (fun _ => rfl), (fun h => by first | rfl | exact P2.out (by simpa using h)), (fun h => by first | rfl | exact P3.out (by simpa using h)), (fun h => P4.out (by simpa using h)), (fun h => P5.out (by simpa using h)), (fun h => by first | rfl | exact P6.out (by simpa using h)), (fun h => P7.out (by simpa using h)), (fun h => P8.out (by simpa using h))⟩⟩
            · simp only [List.getElem?_toArray, List.getElem?_cons_zero, List.getElem?_cons_succ, Option.some.injEq] at ho
              subst ho
              have HCl := Lib.hid (Clo.s2 hCl)
              have P0 := Lib.hid p0
              have P1 := Lib.hid p1
              have P2 := Lib.hid p2
              have P3 := Lib.hid p3
              have P4 := Lib.hid p4
              have P5 := Lib.hid p5
              have P6 := Lib.hid p6
              have P7 := Lib.hid p7
              have P8 := Lib.hid p8
              have HS := Lib.hid hS
              have HL9 := Lib.hid h9
              have HL10 := Lib.hid h10
              have HL11 := Lib.hid h11
              clear hCl h9 h10 h11 hS hLi hafter p0 p1 p2 p3 p4 p5 p6 p7 p8
              simp only [Act.put, List.setIfInBounds_toArray, List.set_cons_zero, List.set_cons_succ]
              go_wp2_with fail
              exact ⟨u82, u83, .int .i64 (K : Int), u85, u86, u87, u88, u89, u90, u4, by simp only [Act.put, List.setIfInBounds_toArray, List.set_cons_zero, List.set_cons_succ], .inl ⟨by simpa using HL9.out, by simpa using HL10.out, by simpa using HL11.out, HCl.out, HS.out, (fun h => by first | rfl | exact P0.out (by simpa using h)), (fun h => by first | rfl | exact P1.out (by simpa using h)), (fun _ => rfl), (fun h => by first | rfl | exact P3.out (by simpa using h)), (fun h => P4.out (by simpa using h)), (fun h => P5.out (by simpa using h)), (fun h => by first | rfl | exact P6.out (by simpa using h)), (fun h => P7.out (by simpa using h)), (fun h => P8.out (by simpa using h))⟩⟩
            · simp only [List.getElem?_toArray, List.getElem?_cons_zero, List.getElem?_cons_succ, Option.some.injEq] at ho
              subst ho
              have HCl := Lib.hid (Clo.s3 hCl (hafter ⟨2, .data⟩ (by simp) rfl))
              obtain rfl := p2 (hafter ⟨2, .data⟩ (by simp) rfl)
              have P0 := Lib.hid p0
              have P1 := Lib.hid p1
              have P2 := Lib.hid p2
              have P3 := Lib.hid p3
              have P4 := Lib.hid p4
              have P5 := Lib.hid p5
              have P6 := Lib.hid p6
              have P7 := Lib.hid p7
              have P8 := Lib.hid p8
              have HS := Lib.hid hS
              have HL9 := Lib.hid h9
              have HL10 := Lib.hid h10
              have HL11 := Lib.hid h11
              clear hCl h9 h10 h11 hS hLi hafter p0 p1 p2 p3 p4 p5 p6 p7 p8
              simp only [Act.put, List.setIfInBounds_toArray, List.set_cons_zero, List.set_cons_succ]
              go_wp2_with fail
              try rw [hwr]
              exact ⟨u82, u83, .int .i64 (K : Int), .int .i64 ((K : Int) - 1), u86, u87, u88, u89, u90, u4, by simp only [Act.put, List.setIfInBounds_toArray, List.set_cons_zero, List.set_cons_succ], .inl ⟨by simpa using HL9.out, by simpa using HL10.out, by simpa using HL11.out, HCl.out, HS.out, (fun h => by first | rfl | exact P0.out (by simpa using h)), (fun h => by first | rfl | exact P1.out (by simpa using h)), (fun h => by first | rfl | exact P2.out (by simpa using h)), (fun _ => rfl), (fun h => P4.out (by simpa using h)), (fun h => P5.out (by simpa using h)), (fun h => by first | rfl | exact P6.out (by simpa using h)), (fun h => P7.out (by simpa using h)), (fun h => P8.out (by simpa using h))⟩⟩
            · simp only [List.getElem?_toArray, List.getElem?_cons_zero, List.getElem?_cons_succ, Option.some.injEq] at ho
              subst ho
              have HCl := Lib.hid (Clo.s4 hCl (hafter ⟨1, .data⟩ (by simp) rfl) (hafter ⟨3, .data⟩ (by simp) rfl))
              obtain rfl := p1 (hafter ⟨1, .data⟩ (by simp) rfl)
              obtain rfl := p3 (hafter ⟨3, .data⟩ (by simp) rfl)
              have P0 := Lib.hid p0
              have P1 := Lib.hid p1
              have P2 := Lib.hid p2
              have P3 := Lib.hid p3
              have P4 := Lib.hid p4
              have P5 := Lib.hid p5
              have P6 := Lib.hid p6
              have P7 := Lib.hid p7
              have P8 := Lib.hid p8
              have HS := Lib.hid hS
              have HL9 := Lib.hid h9
              have HL10 := Lib.hid h10
              have HL11 := Lib.hid h11
              clear hCl h9 h10 h11 hS hLi hafter p0 p1 p2 p3 p4 p5 p6 p7 p8
              simp only [Act.put, List.setIfInBounds_toArray, List.set_cons_zero, List.set_cons_succ]
              go_wp2_with fail
              refine (cof_any (N := N) (K : Int) ((K : Int) - 1) _ (Nat.le_trans HNWR.out HS.out.2) (by omega) (by omega) (by omega) (by omega) pa HPA.out).mono ?_
              rintro e wc ⟨r, c, r2, c2, rfl, hn, hn', hb⟩
              have HN := Lib.hid hn
              have HM := Lib.hid hn'
              have Hb := Lib.hid hb
              clear hn hn' hb
              go_wp2_with fail
              exact ⟨u82, .int .i64 (K : Int), u84, .int .i64 ((K : Int) - 1), _, u87, u88, u89, u90, u4, by simp only [Act.put, List.setIfInBounds_toArray, List.set_cons_zero, List.set_cons_succ], .inl ⟨by simpa using HL9.out, by simpa using HL10.out, by simpa using HL11.out, HCl.out, HS.out.below Hb.out, (fun h => by first | rfl | exact P0.out (by simpa using h)), (fun h => by first | rfl | exact P1.out (by simpa using h)), (fun h => by first | rfl | exact P2.out (by simpa using h)), (fun h => by first | rfl | exact P3.out (by simpa using h)), (fun _ => ⟨r, c, r2, c2, rfl, HN.out, HM.out⟩), (fun h => (P5.out (by simpa using h)).below Hb.out), (fun h => by first | rfl | exact P6.out (by simpa using h)), (fun h => (P7.out (by simpa using h)).below Hb.out), (fun h => (P8.out (by simpa using h)).below Hb.out)⟩⟩
            · simp only [List.getElem?_toArray, List.getElem?_cons_zero, List.getElem?_cons_succ, Option.some.injEq] at ho
              subst ho
              have HCl := Lib.hid (Clo.s5 hCl (hafter ⟨4, .chain⟩ (by simp) rfl))
              have P0 := Lib.hid p0
              have P1 := Lib.hid p1
              have P2 := Lib.hid p2
              have P3 := Lib.hid p3
              have P4 := Lib.hid p4
              have P5 := Lib.hid p5
              have P6 := Lib.hid p6
              have P7 := Lib.hid p7
              have P8 := Lib.hid p8
              have HS := Lib.hid hS
              have HL9 := Lib.hid h9
              have HL10 := Lib.hid h10
              have HL11 := Lib.hid h11
              clear hCl h9 h10 h11 hS hLi hafter p0 p1 p2 p3 p4 p5 p6 p7 p8
              simp only [Act.put, List.setIfInBounds_toArray, List.set_cons_zero, List.set_cons_succ]
              go_wp2_with fail
              refine (cof_any (N := N) 1 1 _ (Nat.le_trans HNWR.out HS.out.2) (by omega) (by omega) (by omega) (by omega) po HPO.out).mono ?_
              rintro e wc ⟨r, c, r2, c2, rfl, hn, hn', hb⟩
              have HN := Lib.hid hn
              have HM := Lib.hid hn'
              have Hb := Lib.hid hb
              clear hn hn' hb
              go_wp2_with fail
              exact ⟨u82, u83, u84, u85, u86, _, u88, u89, u90, u4, by simp only [Act.put, List.setIfInBounds_toArray, List.set_cons_zero, List.set_cons_succ], .inl ⟨by simpa using HL9.out, by simpa using HL10.out, by simpa using HL11.out, HCl.out, HS.out.below Hb.out, (fun h => by first | rfl | exact P0.out (by simpa using h)), (fun h => by first | rfl | exact P1.out (by simpa using h)), (fun h => by first | rfl | exact P2.out (by simpa using h)), (fun h => by first | rfl | exact P3.out (by simpa using h)), (fun h => (P4.out (by simpa using h)).below Hb.out), (fun _ => ⟨r, c, r2, c2, rfl, HN.out, HM.out⟩), (fun h => by first | rfl | exact P6.out (by simpa using h)), (fun h => (P7.out (by simpa using h)).below Hb.out), (fun h => (P8.out (by simpa using h)).below Hb.out)⟩⟩
            · simp only [List.getElem?_toArray, List.getElem?_cons_zero, List.getElem?_cons_succ, Option.some.injEq] at ho
              subst ho
              have HCl := Lib.hid (Clo.s6 hCl)
              have c0 := (hS.1.cell (p := ⟨ws.heap.size, 0, none⟩) (by show ws.heap.size < WR.heap.size; omega)).trans HT0.out
              have c1 := (hS.1.cell (p := ⟨ws.heap.size, 1, none⟩) (by show ws.heap.size < WR.heap.size; omega)).trans HT1.out
              have c2 := (hS.1.cell (p := ⟨ws.heap.size, 2, none⟩) (by show ws.heap.size < WR.heap.size; omega)).trans HT2.out
              have P0 := Lib.hid p0
              have P1 := Lib.hid p1
              have P2 := Lib.hid p2
              have P3 := Lib.hid p3
              have P4 := Lib.hid p4
              have P5 := Lib.hid p5
              have P6 := Lib.hid p6
              have P7 := Lib.hid p7
              have P8 := Lib.hid p8
              have HS := Lib.hid hS
              have HL9 := Lib.hid h9
              have HL10 := Lib.hid h10
              have HL11 := Lib.hid h11
              clear hCl h9 h10 h11 hS hLi hafter p0 p1 p2 p3 p4 p5 p6 p7 p8
              simp only [Act.put, List.setIfInBounds_toArray, List.set_cons_zero, List.set_cons_succ]
              go_wp2_with fail
              exact ⟨u82, u83, u84, u85, u86, u87, .agg #[.bool (decide ((sh).num < 0)), .slice rs (nlen (sh).num.natAbs) cs, .slice rs2 (nlen (sh).den) cs2], u89, u90, u4, by simp only [Act.put, List.setIfInBounds_toArray, List.set_cons_zero, List.set_cons_succ], .inl ⟨by simpa using HL9.out, by simpa using HL10.out, by simpa using HL11.out, HCl.out, HS.out, (fun h => by first | rfl | exact P0.out (by simpa using h)), (fun h => by first | rfl | exact P1.out (by simpa using h)), (fun h => by first | rfl | exact P2.out (by simpa using h)), (fun h => by first | rfl | exact P3.out (by simpa using h)), (fun h => P4.out (by simpa using h)), (fun h => P5.out (by simpa using h)), (fun _ => rfl), (fun h => P7.out (by simpa using h)), (fun h => P8.out (by simpa using h))⟩⟩
            · simp only [List.getElem?_toArray, List.getElem?_cons_zero, List.getElem?_cons_succ, Option.some.injEq] at ho
              subst ho
              have HCl := Lib.hid (Clo.s7 hCl (hafter ⟨5, .data⟩ (by simp) rfl) (hafter ⟨6, .data⟩ (by simp) rfl))
              obtain ⟨r5, c5, t5, d5, rfl, hn5, hm5⟩ := p5 (hafter ⟨5, .data⟩ (by simp) rfl)
              have HN5 := Lib.hid hn5
              have HM5 := Lib.hid hm5
              clear hn5 hm5
              obtain rfl := p6 (hafter ⟨6, .data⟩ (by simp) rfl)
              have P0 := Lib.hid p0
              have P1 := Lib.hid p1
              have P2 := Lib.hid p2
              have P3 := Lib.hid p3
              have P4 := Lib.hid p4
              have P5 := Lib.hid p5
              have P6 := Lib.hid p6
              have P7 := Lib.hid p7
              have P8 := Lib.hid p8
              have HS := Lib.hid hS
              have HL9 := Lib.hid h9
              have HL10 := Lib.hid h10
              have HL11 := Lib.hid h11
              clear hCl h9 h10 h11 hS hLi hafter p0 p1 p2 p3 p4 p5 p6 p7 p8
              simp only [Act.put, List.setIfInBounds_toArray, List.set_cons_zero, List.set_cons_succ]
              go_wp2_with fail
              refine (rsub_any (N := N) _ _ _ _ _ _ _ _ _ _ _ _ _ _ 2 519 po sh _ (Nat.le_trans HNWR.out HS.out.2) (Rt.of_norm HN5.out HM5.out 2 HSO.out) (Rt.of_norm (HNS1.out.below HS.out.1) (HNS2.out.below HS.out.1) 519 HSZ3.out) (by omega) (by omega) pd HPD.out).mono ?_
              rintro e wc ⟨r, c, r2, c2, rfl, hn, hn', hb⟩
              have HN := Lib.hid hn
              have HM := Lib.hid hn'
              have Hb := Lib.hid hb
              clear hn hn' hb
              go_wp2_with fail
              exact ⟨u82, u83, u84, u85, u86, _, .agg #[.bool (decide ((sh).num < 0)), .slice rs (nlen (sh).num.natAbs) cs, .slice rs2 (nlen (sh).den) cs2], _, u90, u4, by simp only [Act.put, List.setIfInBounds_toArray, List.set_cons_zero, List.set_cons_succ], .inl ⟨by simpa using HL9.out, by simpa using HL10.out, by simpa using HL11.out, HCl.out, HS.out.below Hb.out, (fun h => by first | rfl | exact P0.out (by simpa using h)), (fun h => by first | rfl | exact P1.out (by simpa using h)), (fun h => by first | rfl | exact P2.out (by simpa using h)), (fun h => by first | rfl | exact P3.out (by simpa using h)), (fun h => (P4.out (by simpa using h)).below Hb.out), (fun h => (P5.out (by simpa using h)).below Hb.out), (fun h => by first | rfl | exact P6.out (by simpa using h)), (fun _ => ⟨r, c, r2, c2, rfl, HN.out, HM.out⟩), (fun h => (P8.out (by simpa using h)).below Hb.out)⟩⟩
            · simp only [List.getElem?_toArray, List.getElem?_cons_zero, List.getElem?_cons_succ, Option.some.injEq] at ho
              subst ho
              have HCl := Lib.hid (Clo.s8 hCl (hafter ⟨4, .data⟩ (by simp) rfl) (hafter ⟨7, .data⟩ (by simp) rfl))
              obtain ⟨r4, c4, t4, d4, rfl, hn4, hm4⟩ := p4 (hafter ⟨4, .data⟩ (by simp) rfl)
              have HN4 := Lib.hid hn4
              have HM4 := Lib.hid hm4
              clear hn4 hm4
              obtain ⟨r7, c7, t7, d7, rfl, hn7, hm7⟩ := p7 (hafter ⟨7, .data⟩ (by simp) rfl)
              have HN7 := Lib.hid hn7
              have HM7 := Lib.hid hm7
              clear hn7 hm7
              have P0 := Lib.hid p0
              have P1 := Lib.hid p1
              have P2 := Lib.hid p2
              have P3 := Lib.hid p3
              have P4 := Lib.hid p4
              have P5 := Lib.hid p5
              have P6 := Lib.hid p6
              have P7 := Lib.hid p7
              have P8 := Lib.hid p8
              have HS := Lib.hid hS
              have HL9 := Lib.hid h9
              have HL10 := Lib.hid h10
              have HL11 := Lib.hid h11
              clear hCl h9 h10 h11 hS hLi hafter p0 p1 p2 p3 p4 p5 p6 p7 p8
              simp only [Act.put, List.setIfInBounds_toArray, List.set_cons_zero, List.set_cons_succ]
              go_wp2_with fail
              refine (rmul_any (N := N) _ _ _ _ _ _ _ _ _ _ _ _ _ _ 2 522 pa pd _ (Nat.le_trans HNWR.out HS.out.2) (Rt.of_norm HN4.out HM4.out 2 HSA.out) (Rt.of_norm HN7.out HM7.out 522 HSD.out) (by omega) (by omega) p2 HE2.out).mono ?_
              rintro e wc ⟨r, c, r2, c2, rfl, hn, hn', hb⟩
              have HN := Lib.hid hn
              have HM := Lib.hid hn'
              have Hb := Lib.hid hb
              clear hn hn' hb
              go_wp2_with fail
              exact ⟨u82, u83, u84, u85, _, u87, u88, _, _, u4, by simp only [Act.put, List.setIfInBounds_toArray, List.set_cons_zero, List.set_cons_succ], .inl ⟨by simpa using HL9.out, by simpa using HL10.out, by simpa using HL11.out, HCl.out, HS.out.below Hb.out, (fun h => by first | rfl | exact P0.out (by simpa using h)), (fun h => by first | rfl | exact P1.out (by simpa using h)), (fun h => by first | rfl | exact P2.out (by simpa using h)), (fun h => by first | rfl | exact P3.out (by simpa using h)), (fun h => (P4.out (by simpa using h)).below Hb.out), (fun h => (P5.out (by simpa using h)).below Hb.out), (fun h => by first | rfl | exact P6.out (by simpa using h)), (fun h => (P7.out (by simpa using h)).below Hb.out), (fun _ => ⟨r, c, r2, c2, rfl, HN.out, HM.out⟩)⟩⟩
            · simp only [List.getElem?_toArray, List.getElem?_cons_zero, List.getElem?_cons_succ, Option.some.injEq] at ho
              subst ho
              have h0 := hafter ⟨0, .data⟩ (by simp) rfl
              have h8 := hafter ⟨8, .chain⟩ (by simp) rfl
              have HALL := Lib.hid (hCl.all h0 h8)
              obtain rfl := p0 h0
              have HP8 := Lib.hid (p8 h8)
              have HS := Lib.hid hS
              have HL10 := Lib.hid h10
              have HL11 := Lib.hid h11
              have bk : Bk wq w.heap.size 28 3 := HKB0.out.below hS.1
              obtain ⟨x0, c0⟩ := bk.cell (o := 0) (by decide)
              obtain ⟨x1, c1⟩ := bk.cell (o := 1) (by decide)
              obtain ⟨x2, c2⟩ := bk.cell (o := 2) (by decide)
              have f0 := bk.frozen
              clear bk
              clear hCl h9 h10 h11 hS hLi hafter h0 h8 p1 p2 p3 p4 p5 p6 p7 p8
              simp only [Act.put, List.setIfInBounds_toArray, List.set_cons_zero, List.set_cons_succ]
              go_wp2_with fail
              exact ⟨.agg #[.bool (decide (p1.num < 0)), .slice rv (nlen p1.num.natAbs) cv, .slice rv2 (nlen p1.den) cv2], u83, u84, u85, u86, u87, u88, u89, u90, u4, by simp only [Act.put, List.setIfInBounds_toArray, List.set_cons_zero, List.set_cons_succ], .inr (.inl ⟨by simp, by simpa using HL10.out, by simpa using HL11.out, fun j hj => by simp [HALL.out j hj], wq, HS.out, HP8.out, rfl⟩)⟩
            · simp only [List.getElem?_toArray, List.getElem?_cons_zero, List.getElem?_cons_succ, Option.some.injEq] at ho
              subst ho
              exfalso
              have hh := hafter ⟨9, .chain⟩ (by simp) rfl
              rw [h9] at hh
              cases hh
            · simp only [List.getElem?_toArray, List.getElem?_cons_zero, List.getElem?_cons_succ, Option.some.injEq] at ho
              subst ho
              exfalso
              have hh := hafter ⟨10, .chain⟩ (by simp) rfl
              rw [h10] at hh
              cases hh
          · obtain ⟨h9, h10, h11, hall, w1, hS, hP, hw⟩ := hJ
            have hi : i < 12 := (Array.getElem?_eq_some_iff.1 ho).1
            rcases Nat.lt_or_ge i 9 with h | h
            · exfalso; rw [hall i h] at hLi; cases hLi
            · obtain rfl | rfl | rfl : i = 9 ∨ i = 10 ∨ i = 11 := by omega
              · exfalso; rw [h9] at hLi; cases hLi
              · simp only [List.getElem?_toArray, List.getElem?_cons_zero, List.getElem?_cons_succ, Option.some.injEq] at ho
                subst ho
                obtain ⟨r, cc, r2, cc2, rfl, hn, hm⟩ := hP
                have HW := Lib.hid hw
                have HS := Lib.hid hS
                have HN8 := Lib.hid hn
                have HM8 := Lib.hid hm
                have HALL := Lib.hid hall
                have HL9 := Lib.hid h9
                have HL11 := Lib.hid h11
                have bk : Bk wq (w.heap.size + 1) 28 3 := by rw [hw]; exact (((HKB1.out.below hS.1).set _ _).set _ _).set _ _
                obtain ⟨x0, c0⟩ := bk.cell (o := 0) (by decide)
                obtain ⟨x1, c1⟩ := bk.cell (o := 1) (by decide)
                obtain ⟨x2, c2⟩ := bk.cell (o := 2) (by decide)
                have f0 := bk.frozen
                clear bk
                clear hw hS hn hm hall h9 h10 h11 hLi hafter
                simp only [Act.put, List.setIfInBounds_toArray, List.set_cons_zero, List.set_cons_succ]
                go_wp2_with fail
                exact ⟨u82, u83, u84, u85, u86, u87, u88, u89, .agg #[.bool (decide (p2.num < 0)), .slice r (nlen p2.num.natAbs) cc, .slice r2 (nlen p2.den) cc2], u4, by simp only [Act.put, List.setIfInBounds_toArray, List.set_cons_zero, List.set_cons_succ], .inr (.inr (.inl ⟨by simp, by simpa using HL11.out, up_all (n := 9) HALL.out HL9.out, r, cc, r2, cc2, w1, HS.out, HN8.out, HM8.out, by rw [HW.out]; exact (set3_eq _ _ _ _ _).symm⟩))⟩
              · simp only [List.getElem?_toArray, List.getElem?_cons_zero, List.getElem?_cons_succ, Option.some.injEq] at ho
                subst ho
                exfalso
                have hh := hafter ⟨10, .chain⟩ (by simp) rfl
                rw [h10] at hh
                cases hh
          · obtain ⟨h10, h11, hall, hcu⟩ := hJ
            have hi : i < 12 := (Array.getElem?_eq_some_iff.1 ho).1
            rcases Nat.lt_or_ge i 10 with h | h
            · exfalso; rw [hall i h] at hLi; cases hLi
            · obtain rfl | rfl : i = 10 ∨ i = 11 := by omega
              · exfalso; rw [h10] at hLi; cases hLi
              · simp only [List.getElem?_toArray, List.getElem?_cons_zero, List.getElem?_cons_succ, Option.some.injEq] at ho
                subst ho
                have HALL := Lib.hid hall
                have HL10 := Lib.hid h10
                have HCu := Lib.hid hcu
                clear hall h10 h11 hcu hLi hafter
                simp only [Act.put, List.setIfInBounds_toArray, List.set_cons_zero, List.set_cons_succ]
                go_wp2_with fail
                exact ⟨u82, u83, u84, u85, u86, u87, u88, u89, u90, .int .i64 0, by simp only [Act.put, List.setIfInBounds_toArray, List.set_cons_zero, List.set_cons_succ], .inr (.inr (.inr ⟨by simp, up_all (n := 10) HALL.out HL10.out, rfl, HCu.out⟩))⟩
          · obtain ⟨h11, hall, _, _⟩ := hJ
            have hi : i < 12 := (Array.getElem?_eq_some_iff.1 ho).1
            rcases Nat.lt_or_ge i 11 with h | h
            · exfalso; rw [hall i h] at hLi; cases hLi
            · obtain rfl : i = 11 := by omega
              exfalso; rw [h11] at hLi; cases hLi
        · intro Ls a0 wq hall hJ
          obtain ⟨u82, u83, u84, u85, u86, u87, u88, u89, u90, u4, rfl, ⟨h, _⟩ | ⟨_, h, _⟩ | ⟨_, h, _⟩ | ⟨_, _, rfl, hcu⟩⟩ := hJ
          · rw [hall 9 (by decide)] at h; cases h
          · rw [hall 10 (by decide)] at h; cases h
          · rw [hall 11 (by decide)] at h; cases h
          · obtain ⟨ry, cy, ry2, cy2, w1, hS, hn, hm, rfl⟩ := hcu
            have HF := Lib.hid (fun v0 v1 v2 v3 v4 v5 => fin33 hN (Nat.le_refl _) (Nat.le_succ _) (HKB0.out.below hS.1).bx (HKB1.out.below hS.1).bx (HNV1.out.below hS.1) (HNV2.out.below hS.1) hn hm (HBR.out.trans (hS.1.mono (by omega))) v0 v1 v2 v3 v4 v5)
            obtain ⟨x00, hu00⟩ := (HKB0.out.below hS.1).cell (o := 0) (by decide)
            obtain ⟨x01, hu01⟩ := (HKB0.out.below hS.1).cell (o := 1) (by decide)
            obtain ⟨x02, hu02⟩ := (HKB0.out.below hS.1).cell (o := 2) (by decide)
            obtain ⟨x10, hu10⟩ := (HKB1.out.below hS.1).cell (o := 0) (by decide)
            obtain ⟨x11, hu11⟩ := (HKB1.out.below hS.1).cell (o := 1) (by decide)
            obtain ⟨x12, hu12⟩ := (HKB1.out.below hS.1).cell (o := 2) (by decide)
            clear hS hn hm hall
            simp only [Act.put, List.setIfInBounds_toArray, List.set_cons_zero, List.set_cons_succ]
            go_wp2_with fail
            exact bodyPost_ret (v := .tuple #[.agg #[.bool (decide ((p1).num < 0)), .slice rv (nlen (p1).num.natAbs) cv, .slice rv2 (nlen (p1).den) cv2], .agg #[.bool (decide ((p2).num < 0)), .slice ry (nlen (p2).num.natAbs) cy, .slice ry2 (nlen (p2).den) cy2], .int .i64 0]) (by simp [results, Tryd.results50, go_sem, set3, hu00, hu01, hu02, hu10, hu11, hu12]) rfl ⟨_, _, _, _, _, _, _, _, rfl, (HF.out _ _ _ _ _ _).1, (HF.out _ _ _ _ _ _).2.1, (HF.out _ _ _ _ _ _).2.2.1, (HF.out _ _ _ _ _ _).2.2.2.1, (HF.out _ _ _ _ _ _).2.2.2.2⟩

end Go.Proofs.YtbjgnpgachdlaaaDoor
