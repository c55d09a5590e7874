/- Contract of nat.divLong: the quotient and the remainder of numbers in normal form, the divisor of at least two limbs and not longer than the dividend. Contracts of nat.DivMod and nat.Gcd: for all numbers of at most 2^40 limbs. Contracts of integer.Make, Of, Sign and Neg: for all integers of at most 2^40 limbs. Contracts of integer.Sign, Neg, Mul, Add and Cmp: for all integers of at most 2^39 limbs. Contracts of integer.Add and Cmp: for all integers of at most 2^38 limbs. Contract of integer.Cmp: for all integers. -/
import Derived.Test.YtonnbcongnkcdaaJoN1
import Derived.Test.YtonnbcongnkcdaaShelfB
import Derived.Lib.ItoaNum
import Derived.Deep.RegionWith
import Derived.Deep.LoopGhost
import Derived.Deep.RegionHeld3
namespace Go.Proofs.Ytonnbcongnkcdaa
open Go.RowKit

/-- the shift that brings the top bit up -/
theorem lead_zeros (v : Nat) (h0 : v ≠ 0) (h : v < 4294967296) : ∃ s : Nat, s < 32 ∧ (32 - (Lib.bitLen v : Int)) = (s : Int) ∧ 2147483648 ≤ v * 2 ^ s ∧ v * 2 ^ s < 4294967296 := by
  obtain ⟨h1, h2, h3⟩ := Lib.bitLenAux_bounds 64 v (by omega) h0
  have h4 := Lib.bitLen_le v 32 (by omega) (by simpa using h)
  unfold Lib.bitLen at *
  generalize Lib.bitLenAux 64 v = b at *
  refine ⟨32 - b, by omega, by omega, ?_, ?_⟩
  · have := Nat.mul_le_mul_right (2 ^ (32 - b)) h2
    rw [← Nat.pow_add, show b - 1 + (32 - b) = 31 by omega] at this
    exact this
  · have := Nat.mul_lt_mul_of_pos_right h3 (Nat.pow_pos (show 0 < 2 by decide) (n := 32 - b))
    rw [← Nat.pow_add, show b + (32 - b) = 32 by omega] at this
    exact this

/-- the divisor, shifted -/
theorem dsh_lt (b n s : Nat) (hn : nlen b = n + 1) (hs : dig b n * 2 ^ s < 4294967296) : b * 2 ^ s < B ^ (n + 1) := by
  have h1 := lt_pow_nlen b
  rw [hn] at h1
  have h2 := div_top b n
  rw [Nat.div_eq_of_lt h1, Nat.mul_zero, Nat.zero_add] at h2
  have h3 : b < (dig b n + 1) * B ^ n := by rw [← h2, Nat.mul_comm]; exact Nat.lt_mul_div_succ b (pB n)
  have h4 := Nat.mul_lt_mul_of_pos_right h3 (Nat.pow_pos (show 0 < 2 by decide) (n := s))
  refine Nat.lt_of_lt_of_le h4 ?_
  have h5 : (dig b n + 1) * 2 ^ s ≤ B := by
    rcases Nat.lt_or_ge 32 s with h6 | h6
    · have := top_ne b n hn
      have h7 := Nat.mul_le_mul (show 1 ≤ dig b n by omega) (Nat.pow_le_pow_right (show 0 < 2 by decide) (show 33 ≤ s by omega))
      simp at h7
      omega
    · have h8 : B = 2 ^ s * 2 ^ (32 - s) := by rw [← Nat.pow_add, show s + (32 - s) = 32 by omega]; rfl
      rw [h8]
      have h9 : dig b n * 2 ^ s < 2 ^ (32 - s) * 2 ^ s := by rw [Nat.mul_comm (2 ^ (32 - s)), ← h8]; exact hs
      have h10 := Nat.lt_of_mul_lt_mul_right h9
      rw [Nat.mul_comm (2 ^ s)]
      exact Nat.mul_le_mul_right _ h10
  calc (dig b n + 1) * B ^ n * 2 ^ s = (dig b n + 1) * 2 ^ s * B ^ n := by rw [Nat.mul_assoc, Nat.mul_comm (B ^ n), ← Nat.mul_assoc]
    _ ≤ B * B ^ n := Nat.mul_le_mul_right _ h5
    _ = B ^ (n + 1) := by rw [pB_succ, Nat.mul_comm]
theorem dsh_top (b n s : Nat) (hn : nlen b = n + 1) (hs : dig b n * 2 ^ s < 4294967296) (h31 : 2147483648 ≤ dig b n * 2 ^ s) : 2147483648 ≤ dig (b * 2 ^ s) n := by
  have hl := dsh_lt b n s hn hs
  have e : dig (b * 2 ^ s) n = b * 2 ^ s / B ^ n := by
    unfold dig
    exact Nat.mod_eq_of_lt ((Nat.div_lt_iff_lt_mul (pB n)).2 (by rw [Nat.mul_comm B (B ^ n), ← pB_succ]; exact hl))
  rw [e]
  refine Nat.le_trans h31 ((Nat.le_div_iff_mul_le (pB n)).2 ?_)
  have h1 := lt_pow_nlen b
  rw [hn] at h1
  have h2 := div_top b n
  rw [Nat.div_eq_of_lt h1, Nat.mul_zero, Nat.zero_add] at h2
  rw [← h2, Nat.mul_assoc, Nat.mul_comm (2 ^ s), ← Nat.mul_assoc]
  exact Nat.mul_le_mul_right _ (Nat.div_mul_le_self b _)

/-- the rest above place k, and one step -/
theorem rest_part (A D j : Nat) (_hD : 0 < D) : A % (D * B ^ (j + 1)) / B ^ j / D = dig (A / D) j := by
  rw [Nat.div_div_eq_div_mul, Nat.mul_comm (B ^ j), pB_succ, ← Nat.mul_assoc, Nat.mod_mul_right_div_self]
  unfold dig
  rw [Nat.div_div_eq_div_mul]
theorem rest_lt (A D k : Nat) (hD : 0 < D) : A % (D * B ^ k) < D * B ^ k := Nat.mod_lt _ (Nat.mul_pos hD (pB k))
theorem rest_next (A D j : Nat) (hD : 0 < D) : A % (D * B ^ j) = A % (D * B ^ (j + 1)) - dig (A / D) j * D * B ^ j := by
  have h1 := rest_part A D j hD
  have e : A % (D * B ^ j) = A % (D * B ^ (j + 1)) % (D * B ^ j) := by
    rw [pB_succ, ← Nat.mul_assoc]; exact (Nat.mod_mul_right_mod A (D * B ^ j) B).symm
  rw [e, ← h1, Nat.div_div_eq_div_mul, Nat.mul_comm (B ^ j)]
  generalize A % (D * B ^ (j + 1)) = R
  have := Nat.div_add_mod R (D * B ^ j)
  have e2 : R / (D * B ^ j) * D * B ^ j = D * B ^ j * (R / (D * B ^ j)) := by rw [Nat.mul_assoc, Nat.mul_comm]
  omega

/-- the row of the rest behind the subtraction -/
theorem rest_row (R D j n q i : Nat) (hR : R < D * B ^ (j + 1)) (hD : D < B ^ n) (hq : q * D * B ^ j ≤ R) (hqn : q < B) :
    dig (R - q * D * B ^ j) i = if j ≤ i ∧ i < j + (n + 1) then dig (R / B ^ j + B ^ (n + 1) - q * D) (i - j) else dig R i := by
  have hRn : R < B ^ (j + (n + 1)) := by
    refine Nat.lt_of_lt_of_le hR ?_
    rw [show j + (n + 1) = n + (j + 1) by omega, Nat.pow_add B n (j + 1)]
    exact Nat.mul_le_mul_right _ (Nat.le_of_lt hD)
  have hqD := qd_lt q D n hD hqn
  have hqp : q * D ≤ R / B ^ j := (Nat.le_div_iff_mul_le (pB j)).2 hq
  by_cases h1 : i < j
  · rw [if_neg (by omega)]
    have e : R = (R - q * D * B ^ j) + B ^ j * (q * D) := by rw [Nat.mul_comm (B ^ j)]; omega
    conv => rhs; rw [e]
    rw [dig_add_mul _ _ _ _ h1]
  · by_cases h2 : i < j + (n + 1)
    · rw [if_pos ⟨by omega, h2⟩]
      have e1 : R / B ^ j + B ^ (n + 1) - q * D = (R / B ^ j - q * D) + B ^ (n + 1) := by omega
      rw [e1, dig_up _ (n + 1) (i - j) (by omega)]
      have e2 : R / B ^ j - q * D = (R - q * D * B ^ j) / B ^ j := by
        rw [Nat.mul_comm (q * D), Nat.sub_mul_div_of_le]
        rw [Nat.mul_comm]; exact hq
      rw [e2]
      unfold dig
      rw [Nat.div_div_eq_div_mul, ← Nat.pow_add, show j + (i - j) = i by omega]
    · rw [if_neg (by omega), dig_high' R (j + (n + 1)) i hRn (by omega), dig_high' _ (j + (n + 1)) i (Nat.lt_of_le_of_lt (Nat.sub_le _ _) hRn) (by omega)]


theorem first_lt (a b s : Nat) (hs : s < 32) (h1 : 1 ≤ nlen b) (hba : nlen b ≤ nlen a) (hD : b * 2 ^ s < B ^ nlen b) (ht : 2147483648 ≤ dig (b * 2 ^ s) (nlen b - 1)) : a * 2 ^ s < b * 2 ^ s * B ^ (nlen a - nlen b + 1) := by
  have h2 : 2147483648 * B ^ (nlen b - 1) ≤ b * 2 ^ s := by
    have e := div_top (b * 2 ^ s) (nlen b - 1)
    rw [show nlen b - 1 + 1 = nlen b by omega, Nat.div_eq_of_lt hD, Nat.mul_zero, Nat.zero_add] at e
    rw [← e] at ht
    exact Nat.le_trans (Nat.mul_le_mul_right _ ht) (Nat.div_mul_le_self _ _)
  have h3 := Nat.mul_le_mul_right (B ^ (nlen a - nlen b + 1)) h2
  rw [Nat.mul_assoc, ← Nat.pow_add, show nlen b - 1 + (nlen a - nlen b + 1) = nlen a by omega] at h3
  refine Nat.lt_of_lt_of_le ?_ h3
  rw [Nat.mul_comm 2147483648]
  exact Nat.mul_lt_mul_of_lt_of_le (lt_pow_nlen a) (two_le s hs) (by decide)

theorem quot_lt (a b s : Nat) {A D : Nat} (hD : b * 2 ^ s = D) (hA : a * 2 ^ s = A) (hn2 : 2 ≤ nlen b) (hba : nlen b ≤ nlen a) : A / D < B ^ (nlen a - nlen b + 1) := by
  subst hD hA
  rw [Nat.mul_div_mul_right _ _ (Nat.pow_pos (by decide))]
  have h1 := pow_le_of_nlen (m := b) (n := nlen b - 1) (by omega)
  have hb0 : 0 < b := Nat.lt_of_lt_of_le (pB _) h1
  refine (Nat.div_lt_iff_lt_mul hb0).2 (Nat.lt_of_lt_of_le (lt_pow_nlen a) ?_)
  refine Nat.le_trans ?_ (Nat.mul_le_mul_left _ h1)
  rw [← Nat.pow_add]
  exact pB_le (by omega)

theorem bel_of_drew {K : Nat} {w w' : World} (h : Below K w.drew w') : Below K w w' := ⟨h.os, h.tape, h.output, h.size, h.block⟩
theorem bel_of_drewN {K q : Nat} {w w' : World} (h : Below K (w.drewN q) w') : Below K w w' := ⟨h.os, h.tape, h.output, h.size, h.block⟩
theorem row_drewN {w : World} {b t n q : Nat} {f : Nat → Value} (h : w.rowIs b t n f) : (w.drewN q).rowIs b t n f := h
theorem row_below {w w' : World} {b t n : Nat} {f : Nat → Value} (h : w.rowIs b t n f) (hb : Below w.heap.size w w') : w'.rowIs b t n f := h.of_block (hb.block b h.lt)
theorem row_grown {w w' : World} {b t n r : Nat} {f : Nat → Value} (h : w.rowIs b t n f) (hb : w.grownBy w' (some r)) (hne : b ≠ r) : w'.rowIs b t n f := h.of_block (hb.block b h.lt (by simpa using hne))

end Go.Proofs.Ytonnbcongnkcdaa

namespace Go.Proofs.Ytonnbcongnkcdaa
open Go.RowKit

def GcdRel (N : Nat) (w : World) (ma mb y : Nat) (s0 s1 : Value) (wr : World) : Prop :=
  ∃ x ra ca rb cb, s0 = .slice ra (nlen x) ca ∧ s1 = .slice rb (nlen y) cb ∧ Nt N wr ra (nlen x) ca x ∧ Nt N wr rb (nlen y) cb y ∧ Nat.gcd x y = Nat.gcd ma mb ∧ nlen x ≤ 1099511627776 ∧ nlen y ≤ 1099511627776 ∧ Below w.heap.size w wr

end Go.Proofs.Ytonnbcongnkcdaa

namespace Go.Proofs.Ytonnbcongnkcdaa
open Go.RowKit

theorem bcell {W w1 : World} (hb : Below W.heap.size W w1) : (∀ b o, b < W.heap.size → w1.cell? ⟨b, o, none⟩ = W.cell? ⟨b, o, none⟩) ∧ (∀ b o, b < W.heap.size → w1.frozen? ⟨b, o, none⟩ = W.frozen? ⟨b, o, none⟩) :=
  ⟨fun b o h => hb.cell (p := ⟨b, o, none⟩) h, fun b o h => hb.frozen (p := ⟨b, o, none⟩) h⟩

theorem Nt.alloc {N : Nat} {w : World} {a : Option Addr} {n cap m : Nat} (h : Nt N w a n cap m) (o : Obj) : Nt N (w.alloc o) a n cap m :=
  h.below ((Below.refl _ _).alloc (Nat.le_refl _) o)

/-- block b is a box of type T -/
def Bx (w : World) (b : Nat) (T : TypeId) : Prop := ∃ cur fz, w.heap[b]? = some (.cells cur T fz)
theorem Bx.new (w : World) (c : Array Value) (T : TypeId) : Bx (w.alloc (.cells c T)) w.heap.size T := ⟨c, (0, 0), heap_alloc_new w _⟩
theorem Bx.lt {w : World} {b : Nat} {T : TypeId} (h : Bx w b T) : b < w.heap.size := by
  obtain ⟨c, f, h⟩ := h; exact (Array.getElem?_eq_some_iff.1 h).1
theorem Bx.below {w w' : World} {b : Nat} {T : TypeId} (h : Bx w b T) (hb : Below w.heap.size w w') : Bx w' b T := by
  have hl := h.lt
  obtain ⟨c, f, h⟩ := h; exact ⟨c, f, (hb.block b hl).trans h⟩
theorem Bx.alloc {w : World} {b : Nat} {T : TypeId} (h : Bx w b T) (o : Obj) : Bx (w.alloc o) b T := h.below ((Below.refl _ _).alloc (Nat.le_refl _) o)
theorem Bx.set {w : World} {b : Nat} {T : TypeId} (h : Bx w b T) (p : Addr) (v : Value) : Bx (w.setCell p v) b T := by
  obtain ⟨c, f, h⟩ := h
  by_cases e : b = p.block
  · subst e
    refine ⟨if p.spot.isSome then c else c.setIfInBounds p.off v, f, ?_⟩
    simp [World.setCell, Array.getElem?_modify, h]
  · exact ⟨c, f, (Below.heap_setCell _ _ _ _ e).trans h⟩
theorem Nt.set {N : Nat} {w : World} {a : Option Addr} {n cap m : Nat} (h : Nt N w a n cap m) {b o : Nat} {T : TypeId} (hN : N ≤ b) (hp : Bx w b T) (hT : T ≠ 81) (v : Value) : Nt N (w.setCell ⟨b, o, none⟩ v) a n cap m := by
  obtain ⟨c, f, hp⟩ := hp
  exact h.setCell (p := ⟨b, o, none⟩) hN hp hT v

/-- the integer with that sign and magnitude -/
def zI (ng : Bool) (m : Nat) : Int := if ng then -(m : Int) else m
theorem zI_abs (ng : Bool) (m : Nat) : (zI ng m).natAbs = m := by unfold zI; cases ng <;> simp
theorem zI_neg (ng : Bool) (m : Nat) : (ng && decide (0 < m)) = decide (zI ng m < 0) := by
  unfold zI; cases ng <;> simp <;> omega
theorem zI_norm (z : Int) : zI (decide (z < 0)) z.natAbs = z := by
  unfold zI
  by_cases h : z < 0 <;> simp [h] <;> omega

theorem Nt.zero (N : Nat) (w : World) : Nt N w none 0 0 0 := ⟨⟨Nat.le_refl _, fun _ => rfl⟩, Nat.zero_le _, pB 0, fun h => by omega⟩

theorem conv_neg (z : Int) (h : -9223372036854775808 ≤ z) (h0 : z < 0) : IntKind.u64.wrap (-IntKind.u64.wrap z) = (z.natAbs : Int) := by
  rw [wrap_u64, wrap_u64]; omega

end Go.Proofs.Ytonnbcongnkcdaa

namespace Go.Proofs.Ytonnbcongnkcdaa
open Go.RowKit

theorem cell_set2 (w : World) (b o1 o2 : Nat) (v1 v2 : Value) (b' o' : Nat) (h : b' ≠ b) : ((w.setCell ⟨b, o1, none⟩ v1).setCell ⟨b, o2, none⟩ v2).cell? ⟨b', o', none⟩ = w.cell? ⟨b', o', none⟩ := by
  rw [World.cell?_of_block (w := w.setCell ⟨b, o1, none⟩ v1) (Below.heap_setCell _ _ _ _ h), World.cell?_of_block (w := w) (Below.heap_setCell _ _ _ _ h)]
theorem cell_set3 (w : World) (b o1 o2 o3 : Nat) (v1 v2 v3 : Value) (b' o' : Nat) (h : b' ≠ b) : (((w.setCell ⟨b, o1, none⟩ v1).setCell ⟨b, o2, none⟩ v2).setCell ⟨b, o3, none⟩ v3).cell? ⟨b', o', none⟩ = w.cell? ⟨b', o', none⟩ := by
  rw [World.cell?_of_block (w := (w.setCell ⟨b, o1, none⟩ v1).setCell ⟨b, o2, none⟩ v2) (Below.heap_setCell _ _ _ _ h), cell_set2 _ _ _ _ _ _ _ _ h]
theorem nlen_bound {N : Nat} {w : World} {a : Option Addr} {n cap m : Nat} (h : Nt N w a n cap m) (L : Nat) (hl : n ≤ L) : nlen m ≤ L := Nat.le_trans h.len hl

theorem zI_mul (sa sb : Bool) (ma mb : Nat) : zI (sa != sb) (ma * mb) = zI sa ma * zI sb mb := by
  unfold zI
  cases sa <;> cases sb <;> simp [Int.neg_mul, Int.mul_neg]

theorem Bx.new' (w : World) (c : Array Value) (T : TypeId) (b : Nat) (h : b = w.heap.size) : Bx (w.alloc (.cells c T)) b T := by subst h; exact Bx.new w c T
theorem bel1 (w : World) (o1 : Obj) : Below w.heap.size w (w.alloc o1) := (Below.refl _ _).alloc (Nat.le_refl _) o1
theorem bel2 (w : World) (o1 o2 : Obj) : Below w.heap.size w ((w.alloc o1).alloc o2) := (bel1 w o1).alloc (by simp) o2
theorem bel3 (w : World) (o1 o2 o3 : Obj) : Below w.heap.size w (((w.alloc o1).alloc o2).alloc o3) := (bel2 w o1 o2).alloc (by simp; omega) o3
theorem bel4 (w : World) (o1 o2 o3 o4 : Obj) : Below w.heap.size w ((((w.alloc o1).alloc o2).alloc o3).alloc o4) := (bel3 w o1 o2 o3).alloc (by simp; omega) o4
theorem Bx.drewB {w w' : World} {b : Nat} {T : TypeId} (h : Bx w b T) (hb : Below w.drew.heap.size w.drew w') : Bx w' b T := h.below (bel_of_drew hb)

theorem cmpN_zero (m : Nat) : cmpN m 0 = if 0 < m then 1 else 0 := by unfold cmpN; rw [if_neg (by omega)]
theorem cmpN_bd (a b : Nat) : -1 ≤ cmpN a b ∧ cmpN a b ≤ 1 := by unfold cmpN; split <;> (try split) <;> omega
theorem sign_f (m : Nat) : cmpN m 0 = (zI false m).sign := by
  rw [cmpN_zero]; unfold zI
  rcases Nat.eq_zero_or_pos m with h | h
  · subst h; rfl
  · rw [if_pos h]; simp only [Bool.false_eq_true, if_false]; exact (Int.sign_eq_one_of_pos (by omega)).symm
theorem sign_t (m : Nat) : -(cmpN m 0) = (zI true m).sign := by
  rw [sign_f]; unfold zI; simp

theorem zI_not (sa : Bool) (m : Nat) : zI (!sa) m = -zI sa m := by unfold zI; cases sa <;> simp

end Go.Proofs.Ytonnbcongnkcdaa

namespace Go.Proofs.Ytonnbcongnkcdaa
open Go.RowKit

theorem zI_add (s : Bool) (ma mb : Nat) : zI s (ma + mb) = zI s ma + zI s mb := by unfold zI; cases s <;> simp <;> omega
theorem zI_sub1 (s : Bool) (ma mb : Nat) (h : mb ≤ ma) : zI s (ma - mb) = zI s ma + zI (!s) mb := by unfold zI; cases s <;> simp <;> omega
theorem zI_sub2 (s : Bool) (ma mb : Nat) (h : ma ≤ mb) : zI (!s) (mb - ma) = zI s ma + zI (!s) mb := by unfold zI; cases s <;> simp <;> omega

/-- -1, 0 or 1 -/
def cmpZ (x y : Int) : Int := if x < y then -1 else if y < x then 1 else 0
theorem cmpZ_sl {x y : Int} (h : x.sign < y.sign) : cmpZ x y = -1 := by
  unfold cmpZ; rw [if_pos]
  rcases Int.lt_trichotomy x 0 with h1 | h1 | h1 <;> rcases Int.lt_trichotomy y 0 with h2 | h2 | h2 <;>
    simp_all [Int.sign_eq_one_of_pos, Int.sign_eq_neg_one_of_neg] <;> omega
theorem cmpZ_sg {x y : Int} (h : y.sign < x.sign) : cmpZ x y = 1 := by
  have h2 := cmpZ_sl h
  unfold cmpZ at h2 ⊢
  split at h2
  · rw [if_neg (by omega), if_pos (by assumption)]
  · split at h2 <;> simp at h2
theorem cmpZ_pos {sa sb : Bool} {ma mb : Nat} (h1 : (zI sa ma).sign = 1) (h2 : (zI sb mb).sign = 1) : cmpZ (zI sa ma) (zI sb mb) = cmpN ma mb := by
  have p1 := Int.sign_eq_one_iff_pos.1 h1
  have p2 := Int.sign_eq_one_iff_pos.1 h2
  unfold cmpZ cmpN zI at *
  cases sa <;> cases sb <;> simp at * <;> omega
theorem cmpZ_neg {sa sb : Bool} {ma mb : Nat} (h1 : (zI sa ma).sign = -1) (h2 : (zI sb mb).sign = -1) : cmpZ (zI sa ma) (zI sb mb) = -cmpN ma mb := by
  have p1 := Int.sign_eq_neg_one_iff_neg.1 h1
  have p2 := Int.sign_eq_neg_one_iff_neg.1 h2
  unfold cmpZ cmpN zI at *
  cases sa <;> cases sb <;> simp at * <;> (repeat' split) <;> omega
theorem cmpZ_zero {x y : Int} (h1 : x.sign = 0) (h2 : y.sign = 0) : cmpZ x y = 0 := by
  have p1 := Int.sign_eq_zero_iff_zero.1 h1
  have p2 := Int.sign_eq_zero_iff_zero.1 h2
  subst p1 p2; rfl
theorem sgn3 (x : Int) : x.sign = -1 ∨ x.sign = 0 ∨ x.sign = 1 := by
  rcases Int.lt_trichotomy x 0 with h1 | h1 | h1
  · exact .inl (Int.sign_eq_neg_one_of_neg h1)
  · subst h1; exact .inr (.inl rfl)
  · exact .inr (.inr (Int.sign_eq_one_of_pos h1))

end Go.Proofs.Ytonnbcongnkcdaa

namespace Go.Proofs.Ytonnbcongnkcdaa
open Go.RowKit

end Go.Proofs.Ytonnbcongnkcdaa
