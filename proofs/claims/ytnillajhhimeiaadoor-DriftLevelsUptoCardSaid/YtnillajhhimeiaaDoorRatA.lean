/- What it means that a struct is a rational number; contracts of ratio.whole, zero, parts and reduce. -/
import Derived.Test.YtnillajhhimeiaaDoorIntD
namespace Go.Proofs.YtnillajhhimeiaaDoor
open Go.RowKit

/-- the ratio with numerator s, a and denominator d is q; both have at most L limbs -/
def Rt (N : Nat) (w : World) (s : Bool) (a : Option Addr) (na ca : Nat) (d : Option Addr) (nd cd : Nat) (q : Rat) (L : Nat) : Prop :=
  1 ≤ L ∧ na ≤ L ∧ nd ≤ L ∧ ∃ mn md, Nt N w a na ca mn ∧ Nt N w d nd cd md ∧ mkRat (zI s mn) md = q
/-- how many limbs the normal form has at most in a part -/
def rsz (q : Rat) : Nat := max (nlen q.num.natAbs) (nlen q.den)
/-- it returns the normal form of q -/
def RatPost (N : Nat) (w : World) (q : Rat) (e : Ending) (w' : World) : Prop :=
  ∃ r cr r2 cr2, e = .returned (.agg #[.bool (decide (q.num < 0)), .slice r (nlen q.num.natAbs) cr, .slice r2 (nlen q.den) cr2]) ∧ Nt N w' r (nlen q.num.natAbs) cr q.num.natAbs ∧ Nt N w' r2 (nlen q.den) cr2 q.den ∧ Below w.heap.size w w'

theorem Rt.below {N : Nat} {w w' : World} {s : Bool} {a d : Option Addr} {na ca nd cd L : Nat} {q : Rat} (h : Rt N w s a na ca d nd cd q L) (hb : Below w.heap.size w w') : Rt N w' s a na ca d nd cd q L := by
  obtain ⟨h0, h1, h2, mn, md, h3, h4, h5⟩ := h
  exact ⟨h0, h1, h2, mn, md, h3.below hb, h4.below hb, h5⟩
theorem Rt.alloc {N : Nat} {w : World} {s : Bool} {a d : Option Addr} {na ca nd cd L : Nat} {q : Rat} (h : Rt N w s a na ca d nd cd q L) (o : Obj) : Rt N (w.alloc o) s a na ca d nd cd q L :=
  h.below ((Below.refl _ _).alloc (Nat.le_refl _) o)
theorem Rt.set {N : Nat} {w : World} {s : Bool} {a d : Option Addr} {na ca nd cd L : Nat} {q : Rat} (h : Rt N w s a na ca d nd cd q L) {b o : Nat} {T : TypeId} (hN : N ≤ b) (hp : Bx w b T) (hT : T ≠ 51) (v : Value) : Rt N (w.setCell ⟨b, o, none⟩ v) s a na ca d nd cd q L := by
  obtain ⟨h0, h1, h2, mn, md, h3, h4, h5⟩ := h
  exact ⟨h0, h1, h2, mn, md, h3.set hN hp hT v, h4.set hN hp hT v, h5⟩
theorem Rt.mono {N : Nat} {w : World} {s : Bool} {a d : Option Addr} {na ca nd cd L L' : Nat} {q : Rat} (h : Rt N w s a na ca d nd cd q L) (hL : L ≤ L') : Rt N w s a na ca d nd cd q L' := by
  obtain ⟨h0, h1, h2, h3⟩ := h
  exact ⟨by omega, by omega, by omega, h3⟩

theorem rsz_pos (q : Rat) : 1 ≤ rsz q := by
  have : nlen q.den ≠ 0 := fun h => by rw [nlen_eq_zero] at h; exact q.den_nz h
  unfold rsz; omega
theorem mkRat_norm (q : Rat) : mkRat (zI (decide (q.num < 0)) q.num.natAbs) q.den = q := by rw [zI_norm, Rat.mkRat_self]
theorem Rt.of_norm {N : Nat} {w : World} {q : Rat} {r r2 : Option Addr} {cr cr2 : Nat} (h1 : Nt N w r (nlen q.num.natAbs) cr q.num.natAbs) (h2 : Nt N w r2 (nlen q.den) cr2 q.den) (L : Nat) (hL : rsz q ≤ L) :
    Rt N w (decide (q.num < 0)) r (nlen q.num.natAbs) cr r2 (nlen q.den) cr2 q L := by
  have := rsz_pos q
  unfold rsz at *
  exact ⟨by omega, by omega, by omega, _, _, h1, h2, mkRat_norm q⟩

/-- the normal form of a fraction -/
theorem red_num (s : Bool) (mn md : Nat) (h : 0 < md) : (mkRat (zI s mn) md).num = zI s (mn / Nat.gcd mn md) := by
  rw [Rat.num_mkRat, if_neg (by omega), zI_abs, Nat.gcd_comm]
  have hd := Nat.gcd_dvd_left mn md
  unfold zI
  cases s
  · simp
  · simp only [if_true]
    rw [Int.neg_ediv_of_dvd (Int.natCast_dvd_natCast.2 hd)]; simp
theorem red_abs (s : Bool) (mn md : Nat) (h : 0 < md) : (mkRat (zI s mn) md).num.natAbs = mn / Nat.gcd mn md := by rw [red_num s mn md h, zI_abs]
theorem red_den (s : Bool) (mn md : Nat) (h : 0 < md) : (mkRat (zI s mn) md).den = md / Nat.gcd mn md := by
  rw [Rat.den_mkRat, if_neg (by omega), zI_abs, Nat.gcd_comm]
theorem rsz_mk (z : Int) (d : Nat) (L : Nat) (h1 : 1 ≤ L) (hz : nlen z.natAbs ≤ L) (hd : nlen d ≤ L) : rsz (mkRat z d) ≤ L := by
  rcases Nat.eq_zero_or_pos d with h | h
  · subst h
    rw [Rat.mkRat_zero]
    have : nlen (0 : Rat).num.natAbs = 0 := nlen_zero
    have h2 : nlen (0 : Rat).den ≤ 1 := nlen_small (by decide)
    unfold rsz; omega
  · have e := zI_norm z
    have a1 := red_abs (decide (z < 0)) z.natAbs d h
    have a2 := red_den (decide (z < 0)) z.natAbs d h
    rw [e] at a1 a2
    unfold rsz
    rw [a1, a2]
    have b1 := nlen_mono (Nat.div_le_self z.natAbs (Nat.gcd z.natAbs d))
    have b2 := nlen_mono (Nat.div_le_self d (Nat.gcd z.natAbs d))
    omega
theorem rsz_of {N : Nat} {w : World} {s : Bool} {a d : Option Addr} {na ca nd cd L : Nat} {q : Rat} (h : Rt N w s a na ca d nd cd q L) : rsz q ≤ L := by
  obtain ⟨h0, h1, h2, mn, md, h3, h4, rfl⟩ := h
  exact rsz_mk _ _ L h0 (by rw [zI_abs]; exact nlen_bound h3 _ h1) (nlen_bound h4 _ h2)

theorem fin3 {N b0 b n m cr n2 m2 cr2 : Nat} {w w1 : World} {r r2 : Option Addr} (hN : N ≤ b0) (hb : b0 ≤ b) (hbx : Bx w1 b 30) (hn : Nt N w1 r n cr m) (hn2 : Nt N w1 r2 n2 cr2 m2) (hbel : Below b0 w w1) (v0 v1 v2 : Value) :
    Nt N (((w1.setCell ⟨b, 0, none⟩ v0).setCell ⟨b, 1, none⟩ v1).setCell ⟨b, 2, none⟩ v2) r n cr m ∧ Nt N (((w1.setCell ⟨b, 0, none⟩ v0).setCell ⟨b, 1, none⟩ v1).setCell ⟨b, 2, none⟩ v2) r2 n2 cr2 m2 ∧ Below b0 w (((w1.setCell ⟨b, 0, none⟩ v0).setCell ⟨b, 1, none⟩ v1).setCell ⟨b, 2, none⟩ v2) :=
  ⟨((hn.set (by omega) hbx (by decide) v0).set (by omega) (hbx.set _ _) (by decide) v1).set (by omega) ((hbx.set _ _).set _ _) (by decide) v2,
   ((hn2.set (by omega) hbx (by decide) v0).set (by omega) (hbx.set _ _) (by decide) v1).set (by omega) ((hbx.set _ _).set _ _) (by decide) v2, ((hbel.setCell hb _).setCell hb _).setCell hb _⟩

set_option maxHeartbeats 1000000 in
theorem whole_any {N : Nat} (a : Option Addr) (n cap m : Nat) (w : World) (hN : N ≤ w.heap.size) (h : Nt N w a n cap m) (hl : n ≤ 1099511627776) :
    Calls Tryd.prog 36 #[.slice a n cap] w fun e w' => ∃ r cr, e = .returned (.agg #[.bool false, .slice r (nlen m) cr]) ∧ Nt N w' r (nlen m) cr m ∧ Below w.heap.size w w' := by
  have HA := Lib.hid (h.alloc (.cells #[.bool false, .slice none 0 0] 28))
  clear h
  go_enter Tryd.func36, Tryd.ntmps36
  go_wp2_with fail
  refine (make_any (N := N) false _ _ _ m _ (by simp; omega) HA.out hl).mono ?_
  rw [Bool.false_and]
  rintro e wb ⟨rb, cb', rfl, hn, hb⟩
  obtain ⟨hcwb, hfwb⟩ := bcell hb
  have hzwb0 : w.heap.size < wb.heap.size := by have := hb.size; simp at this; omega
  have HX := Lib.hid ((Bx.new w #[.bool false, .slice none 0 0] 28).below hb)
  have HF := Lib.hid (fun v0 v1 => fin2 hN (Nat.le_refl _) HX.out hn ((bel1 w _).trans (hb.mono (by simp))) v0 v1)
  clear hn hb
  go_wp2_with fail
  exact bodyPost_ret (v := .agg #[.bool false, .slice rb (nlen m) cb']) (by simp [results, Tryd.results36, go_sem, hcwb]) rfl ⟨_, _, rfl, (HF.out _ _).1, (HF.out _ _).2⟩

end Go.Proofs.YtnillajhhimeiaaDoor
