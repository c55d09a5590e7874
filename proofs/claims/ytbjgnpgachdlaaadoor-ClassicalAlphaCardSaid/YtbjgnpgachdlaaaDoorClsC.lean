/- What the loops of classical.reliability keep. -/
import Derived.Test.YtbjgnpgachdlaaaDoorClsB
import Derived.Test.YtbjgnpgachdlaaaDoorCut
namespace Go.Proofs.YtbjgnpgachdlaaaDoor
open Go.RowKit

theorem Tryd.infoInt : (Tryd.prog.info? 3).map (fun i => (i.zero, i.size, i.bytes)) = some (some (.int .i64 0), 1, 8) := by kernel_rfl
theorem Tryd.underInts : Tryd.prog.underlying 22 = some (.slice 3) := by kernel_rfl

def colZ (z : Nat → Nat → Int) (i p : Nat) : Int := z p i
def totZ (z : Nat → Nat → Int) (i p : Nat) : Int := sumZ (z p) i
/-- the sum of the variances of the first i items -/
def itm (z : Nat → Nat → Int) (n : Nat) : Nat → Rat
  | 0 => 0
  | i + 1 => itm z n i + cov (colZ z i) (colZ z i) n

theorem rsz_add (p q : Rat) : rsz (p + q) ≤ rsz p + rsz q + 1 := by
  have e : p + q = mkRat (p.num * q.den + q.num * p.den) (p.den * q.den) := by
    have h := Rat.mkRat_add_mkRat p.num q.num (d₁ := p.den) (d₂ := q.den) p.den_nz q.den_nz
    rw [Rat.mkRat_self, Rat.mkRat_self] at h
    exact h
  rw [e]
  have h1 : nlen p.num.natAbs ≤ rsz p ∧ nlen p.den ≤ rsz p := by unfold rsz; omega
  have h2 : nlen q.num.natAbs ≤ rsz q ∧ nlen q.den ≤ rsz q := by unfold rsz; omega
  have a1 := nlen_mul p.num.natAbs q.den
  have a2 := nlen_mul q.num.natAbs p.den
  have a3 := nlen_mul p.den q.den
  have b1 : (p.num * q.den + q.num * p.den).natAbs ≤ p.num.natAbs * q.den + q.num.natAbs * p.den := by
    have := Int.natAbs_add_le (p.num * q.den) (q.num * p.den)
    rw [Int.natAbs_mul, Int.natAbs_mul, Int.natAbs_natCast, Int.natAbs_natCast] at this
    exact this
  have b2 := nlen_mono b1
  have b3 := nlen_add (p.num.natAbs * q.den) (q.num.natAbs * p.den)
  exact rsz_mk _ _ _ (by omega) (by omega) (by omega)
theorem rsz_sub (p q : Rat) : rsz (p - q) ≤ rsz p + rsz q + 1 := by
  rw [Rat.sub_eq_add_neg]
  have := rsz_add p (-q)
  rw [rsz_neg] at this
  exact this
theorem rsz_cov {x y : Nat → Int} {n : Nat} (hx : InM x n) (hy : InM y n) (hn : n ≤ 200) : rsz (cov x y n) ≤ 7 := by
  obtain ⟨bp0, bp1⟩ := sumP_bd hx hy n (Nat.le_refl _)
  obtain ⟨bx0, bx1⟩ := sumZ_bd hx n (Nat.le_refl _)
  obtain ⟨by0, by1⟩ := sumZ_bd hy n (Nat.le_refl _)
  have h1 := rsz_div (sumP x y n) n _ rfl (by omega) (by omega)
  have h2 := rsz_div (sumZ x n) n _ rfl (by omega) (by omega)
  have h3 := rsz_div (sumZ y n) n _ rfl (by omega) (by omega)
  unfold cov
  have h4 := rsz_mul (((sumZ x n : Int) : Rat) / ((n : Int) : Rat)) (((sumZ y n : Int) : Rat) / ((n : Int) : Rat))
  have h5 := rsz_sub (((sumP x y n : Int) : Rat) / ((n : Int) : Rat)) ((((sumZ x n : Int) : Rat) / ((n : Int) : Rat)) * (((sumZ y n : Int) : Rat) / ((n : Int) : Rat)))
  omega
theorem rsz_zero : rsz 0 ≤ 1 := by
  have h1 : nlen (0 : Rat).num.natAbs = 0 := nlen_zero
  have h2 : nlen (0 : Rat).den ≤ 1 := nlen_small (by decide)
  unfold rsz; omega
theorem col_in {z : Nat → Nat → Int} {n K : Nat} (h : ∀ p, p < n → InR (z p) K) {i : Nat} (hi : i < K) : InM (colZ z i) n := fun p hp => by
  have := h p hp i hi
  show -60000000 ≤ z p i ∧ z p i ≤ 60000000
  omega
theorem rsz_itm {z : Nat → Nat → Int} {n K : Nat} (h : ∀ p, p < n → InR (z p) K) (hn : n ≤ 200) : ∀ i, i ≤ K → rsz (itm z n i) ≤ 1 + 8 * i
  | 0, _ => by have := rsz_zero; simpa [itm] using this
  | i + 1, hi => by
    have h1 := rsz_itm h hn i (by omega)
    have h2 := rsz_cov (col_in h (show i < K by omega)) (col_in h (show i < K by omega)) hn
    have h3 := rsz_add (itm z n i) (cov (colZ z i) (colZ z i) n)
    simp only [itm]; omega
theorem tot_bd {z : Nat → Nat → Int} {n K : Nat} (h : ∀ p, p < n → InR (z p) K) {p : Nat} (hp : p < n) : ∀ i, i ≤ K → -(1000000 * (i : Int)) ≤ totZ z i p ∧ totZ z i p ≤ 1000000 * (i : Int)
  | 0, _ => by simp [totZ, sumZ]
  | i + 1, hi => by
    have := tot_bd h hp i (by omega)
    have := h p hp i (by omega)
    simp only [totZ, sumZ] at *; omega
theorem tot_in {z : Nat → Nat → Int} {n K : Nat} (h : ∀ p, p < n → InR (z p) K) (hK : K ≤ 60) : InM (totZ z K) n := fun p hp => by
  have := tot_bd h hp K (Nat.le_refl _)
  omega

/-- a box that holds q in normal form -/
def RBox (N : Nat) (w : World) (g : Nat) (q : Rat) : Prop :=
  ∃ r c r2 c2, w.heap[g]? = some (.cells #[.bool (decide (q.num < 0)), .slice r (nlen q.num.natAbs) c, .slice r2 (nlen q.den) c2] 28 (0, 0)) ∧ Nt N w r (nlen q.num.natAbs) c q.num.natAbs ∧ Nt N w r2 (nlen q.den) c2 q.den
/-- before round i of the items -/
def RelO (N : Nat) (w : World) (g n : Nat) (z : Nat → Nat → Int) (i : Nat) (fc : Nat → Int) (wr : World) : Prop :=
  RBox N wr g (itm z n i) ∧ wr.rowIs (g + 1) 3 n (fun p => .int .i64 (totZ z i p)) ∧ wr.rowIs (g + 2) 3 n (fun p => .int .i64 (fc p)) ∧
  Bk wr w.heap.size 28 3 ∧ Bk wr (w.heap.size + 1) 28 3 ∧ Below w.heap.size w wr
/-- before person p in round i -/
def RelI (N : Nat) (w : World) (g n : Nat) (z : Nat → Nat → Int) (i p : Nat) (fc : Nat → Int) (wr : World) : Prop :=
  RBox N wr g (itm z n i) ∧ wr.rowIs (g + 1) 3 n (fun p' => .int .i64 (if p' < p then totZ z (i + 1) p' else totZ z i p')) ∧ wr.rowIs (g + 2) 3 n (fun p' => .int .i64 (if p' < p then z p' i else fc p')) ∧
  Bk wr w.heap.size 28 3 ∧ Bk wr (w.heap.size + 1) 28 3 ∧ Below w.heap.size w wr
theorem RelO.inner {N : Nat} {w : World} {g n : Nat} {z : Nat → Nat → Int} {i : Nat} {fc : Nat → Int} {wr : World} (h : RelO N w g n z i fc wr) : RelI N w g n z i 0 fc wr := by
  obtain ⟨h1, h2, h3, h4⟩ := h
  exact ⟨h1, h2.congr (fun p hp => by simp), h3.congr (fun p hp => by simp), h4⟩
theorem RBox.set {N : Nat} {w : World} {g b k : Nat} {q : Rat} {T : TypeId} (h : RBox N w g q) (hN : N ≤ b) (hb : Bx w b T) (hT : T ≠ 58) (hg : g ≠ b) (v : Value) : RBox N (w.setCell ⟨b, k, none⟩ v) g q := by
  obtain ⟨r, c, r2, c2, h1, h2, h3⟩ := h
  exact ⟨r, c, r2, c2, (Below.heap_setCell _ _ _ _ hg).trans h1, h2.set hN hb hT v, h3.set hN hb hT v⟩
theorem rowIs_other {w : World} {b n g k : Nat} {t : TypeId} {f : Nat → Value} (h : w.rowIs b t n f) (hg : b ≠ g) (v : Value) : (w.setCell ⟨g, k, none⟩ v).rowIs b t n f := by
  obtain ⟨c, h1, h2⟩ := h
  exact ⟨c, (Below.heap_setCell _ _ _ _ hg).trans h1, h2⟩
theorem rowIs_bx {w : World} {b n : Nat} {t : TypeId} {f : Nat → Value} (h : w.rowIs b t n f) : Bx w b t := by
  obtain ⟨c, h1, _⟩ := h; exact ⟨c, _, h1⟩
theorem RelI.step {N : Nat} {w : World} {g n : Nat} {z : Nat → Nat → Int} {i p : Nat} {fc : Nat → Int} {wr : World} (h : RelI N w g n z i p fc wr) (hN : N ≤ w.heap.size) (hg : w.heap.size + 2 ≤ g) :
    RelI N w g n z i (p + 1) fc ((wr.setCell ⟨g + 2, p, none⟩ (.int .i64 (z p i))).setCell ⟨g + 1, p, none⟩ (.int .i64 (totZ z i p + z p i))) := by
  obtain ⟨h1, h2, h3, h4, h5, h6⟩ := h
  have b2 := rowIs_bx h3
  have b1 := rowIs_bx (rowIs_other (g := g + 2) (k := p) h2 (by omega) (.int .i64 (z p i)))
  refine ⟨(h1.set (by omega) b2 (by decide) (by omega) _).set (by omega) b1 (by decide) (by omega) _, ?_, ?_, (h4.set _ _).set _ _, (h5.set _ _).set _ _, (h6.setCell (by simp; omega) _).setCell (by simp; omega) _⟩
  · refine ((rowIs_other (g := g + 2) (k := p) h2 (by omega) (.int .i64 (z p i))).set p (.int .i64 (totZ z i p + z p i))).congr fun p' hp => ?_
    by_cases e : p' = p
    · subst e; rw [if_pos rfl, if_pos (by omega)]; rfl
    · rw [if_neg e]
      by_cases e2 : p' < p
      · rw [if_pos e2, if_pos (by omega)]
      · rw [if_neg e2, if_neg (by omega)]
  · refine rowIs_other (g := g + 1) (k := p) ((h3.set p (.int .i64 (z p i))).congr fun p' hp => ?_) (by omega) _
    by_cases e : p' = p
    · subst e; rw [if_pos rfl, if_pos (by omega)]
    · rw [if_neg e]
      by_cases e2 : p' < p
      · rw [if_pos e2, if_pos (by omega)]
      · rw [if_neg e2, if_neg (by omega)]

end Go.Proofs.YtbjgnpgachdlaaaDoor
