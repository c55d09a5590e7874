/- What it means that a struct is a rational number; contracts of ratio.whole, zero, parts and reduce. Contracts of ratio.zero, parts and reduce. Contracts of ratio.Sign, Norm, Neg, Mul and Cmp: for rational numbers of at most 2^36 limbs in a part. Contracts of ratio.Cmp and Add: for rational numbers of at most 2^36 limbs in a part. A region whose order is open, by one step for each operation: whatever order is drawn, an invariant that each operation keeps holds at the end. No program in sight. Contract of ratio.Add: for rational numbers of at most 2^36 limbs in a part. Contracts of ratio.Make and Of. A rational number in a value or in a box of its own: what a region that draws its order leaves behind. How many limbs sums and products of rational numbers have. Contracts of ratio.Sub and Div: for rational numbers of at most 2^36 limbs in a part. What a walk keeps: worlds by name, old blocks and rows of limbs. No condition. -/
import Derived.Test.YtonnbcongnkcdaaJoN2
import Derived.Orders
import Derived.Tactics
import Derived.WalkKit
import Derived.Deep.DeepCutAuto
namespace Go.Proofs.Ytonnbcongnkcdaa
open Go.RowKit

/-- the ratio with numerator s, a and denominator d is q; both have at most L limbs -/
def Rt (N : Nat) (w : World) (s : Bool) (a : Option Addr) (na ca : Nat) (d : Option Addr) (nd cd : Nat) (q : Rat) (L : Nat) : Prop :=
  1 ≤ L ∧ na ≤ L ∧ nd ≤ L ∧ ∃ mn md, Nt N w a na ca mn ∧ Nt N w d nd cd md ∧ mkRat (zI s mn) md = q
/-- how many limbs the normal form has at most in a part -/
def rsz (q : Rat) : Nat := max (nlen q.num.natAbs) (nlen q.den)
/-- it returns the normal form of q -/
def RatPost (N : Nat) (w : World) (q : Rat) (e : Ending) (w' : World) : Prop :=
  ∃ r cr r2 cr2, e = .returned (.agg #[.bool (decide (q.num < 0)), .slice r (nlen q.num.natAbs) cr, .slice r2 (nlen q.den) cr2]) ∧ Nt N w' r (nlen q.num.natAbs) cr q.num.natAbs ∧ Nt N w' r2 (nlen q.den) cr2 q.den ∧ Below w.heap.size w w'

theorem Rt.below {N : Nat} {w w' : World} {s : Bool} {a d : Option Addr} {na ca nd cd L : Nat} {q : Rat} (h : Rt N w s a na ca d nd cd q L) (hb : Below w.heap.size w w') : Rt N w' s a na ca d nd cd q L := by
  obtain ⟨h0, h1, h2, mn, md, h3, h4, h5⟩ := h
  exact ⟨h0, h1, h2, mn, md, h3.below hb, h4.below hb, h5⟩
theorem Rt.alloc {N : Nat} {w : World} {s : Bool} {a d : Option Addr} {na ca nd cd L : Nat} {q : Rat} (h : Rt N w s a na ca d nd cd q L) (o : Obj) : Rt N (w.alloc o) s a na ca d nd cd q L :=
  h.below ((Below.refl _ _).alloc (Nat.le_refl _) o)
theorem Rt.set {N : Nat} {w : World} {s : Bool} {a d : Option Addr} {na ca nd cd L : Nat} {q : Rat} (h : Rt N w s a na ca d nd cd q L) {b o : Nat} {T : TypeId} (hN : N ≤ b) (hp : Bx w b T) (hT : T ≠ 81) (v : Value) : Rt N (w.setCell ⟨b, o, none⟩ v) s a na ca d nd cd q L := by
  obtain ⟨h0, h1, h2, mn, md, h3, h4, h5⟩ := h
  exact ⟨h0, h1, h2, mn, md, h3.set hN hp hT v, h4.set hN hp hT v, h5⟩
theorem Rt.mono {N : Nat} {w : World} {s : Bool} {a d : Option Addr} {na ca nd cd L L' : Nat} {q : Rat} (h : Rt N w s a na ca d nd cd q L) (hL : L ≤ L') : Rt N w s a na ca d nd cd q L' := by
  obtain ⟨h0, h1, h2, h3⟩ := h
  exact ⟨by omega, by omega, by omega, h3⟩

theorem rsz_pos (q : Rat) : 1 ≤ rsz q := by
  have : nlen q.den ≠ 0 := fun h => by rw [nlen_eq_zero] at h; exact q.den_nz h
  unfold rsz; omega
theorem mkRat_norm (q : Rat) : mkRat (zI (decide (q.num < 0)) q.num.natAbs) q.den = q := by rw [zI_norm, Rat.mkRat_self]
theorem Rt.of_norm {N : Nat} {w : World} {q : Rat} {r r2 : Option Addr} {cr cr2 : Nat} (h1 : Nt N w r (nlen q.num.natAbs) cr q.num.natAbs) (h2 : Nt N w r2 (nlen q.den) cr2 q.den) (L : Nat) (hL : rsz q ≤ L) :
    Rt N w (decide (q.num < 0)) r (nlen q.num.natAbs) cr r2 (nlen q.den) cr2 q L := by
  have := rsz_pos q
  unfold rsz at *
  exact ⟨by omega, by omega, by omega, _, _, h1, h2, mkRat_norm q⟩

/-- the normal form of a fraction -/
theorem red_num (s : Bool) (mn md : Nat) (h : 0 < md) : (mkRat (zI s mn) md).num = zI s (mn / Nat.gcd mn md) := by
  rw [Rat.num_mkRat, if_neg (by omega), zI_abs, Nat.gcd_comm]
  have hd := Nat.gcd_dvd_left mn md
  unfold zI
  cases s
  · simp
  · simp only [if_true]
    rw [Int.neg_ediv_of_dvd (Int.natCast_dvd_natCast.2 hd)]; simp
theorem red_abs (s : Bool) (mn md : Nat) (h : 0 < md) : (mkRat (zI s mn) md).num.natAbs = mn / Nat.gcd mn md := by rw [red_num s mn md h, zI_abs]
theorem red_den (s : Bool) (mn md : Nat) (h : 0 < md) : (mkRat (zI s mn) md).den = md / Nat.gcd mn md := by
  rw [Rat.den_mkRat, if_neg (by omega), zI_abs, Nat.gcd_comm]
theorem rsz_mk (z : Int) (d : Nat) (L : Nat) (h1 : 1 ≤ L) (hz : nlen z.natAbs ≤ L) (hd : nlen d ≤ L) : rsz (mkRat z d) ≤ L := by
  rcases Nat.eq_zero_or_pos d with h | h
  · subst h
    rw [Rat.mkRat_zero]
    have : nlen (0 : Rat).num.natAbs = 0 := nlen_zero
    have h2 : nlen (0 : Rat).den ≤ 1 := nlen_small (by decide)
    unfold rsz; omega
  · have e := zI_norm z
    have a1 := red_abs (decide (z < 0)) z.natAbs d h
    have a2 := red_den (decide (z < 0)) z.natAbs d h
    rw [e] at a1 a2
    unfold rsz
    rw [a1, a2]
    have b1 := nlen_mono (Nat.div_le_self z.natAbs (Nat.gcd z.natAbs d))
    have b2 := nlen_mono (Nat.div_le_self d (Nat.gcd z.natAbs d))
    omega
theorem rsz_of {N : Nat} {w : World} {s : Bool} {a d : Option Addr} {na ca nd cd L : Nat} {q : Rat} (h : Rt N w s a na ca d nd cd q L) : rsz q ≤ L := by
  obtain ⟨h0, h1, h2, mn, md, h3, h4, rfl⟩ := h
  exact rsz_mk _ _ L h0 (by rw [zI_abs]; exact nlen_bound h3 _ h1) (nlen_bound h4 _ h2)

end Go.Proofs.Ytonnbcongnkcdaa

namespace Go.Proofs.Ytonnbcongnkcdaa
open Go.RowKit

theorem one_den : (0 : Rat).den = 1 := rfl
/-- numerator and denominator, the denominator not 0 -/
def PartsPost (N : Nat) (w : World) (q : Rat) (L : Nat) (e : Ending) (w' : World) : Prop :=
  ∃ s a na ca d nd cd mn md, e = .returned (.tuple #[.agg #[.bool s, .slice a na ca], .slice d nd cd]) ∧ Nt N w' a na ca mn ∧ Nt N w' d nd cd md ∧ 0 < md ∧ mkRat (zI s mn) md = q ∧ na ≤ L ∧ nd ≤ L ∧ Below w.heap.size w w'

theorem cmp0 (m : Nat) (h : 0 < m) : (cmpN m 0 == 0) = false := by rw [cmpN_zero, if_pos h]; rfl
theorem cmp00 : (cmpN 0 0 == 0) = true := rfl

end Go.Proofs.Ytonnbcongnkcdaa

namespace Go.Proofs.Ytonnbcongnkcdaa
open Go.RowKit

theorem bel_of_alloc {w w' : World} {o : Obj} (h : Below (w.alloc o).heap.size (w.alloc o) w') : Below w.heap.size w w' := (bel1 w o).trans (h.mono (by simp))
theorem sgn_mk (s : Bool) (mn md : Nat) (h : 0 < md) : (zI s mn).sign = (mkRat (zI s mn) md).num.sign := by
  rw [red_num s mn md h]
  have hg : 0 < Nat.gcd mn md := Nat.gcd_pos_of_pos_right _ h
  have hd := Nat.gcd_dvd_left mn md
  rcases Nat.eq_zero_or_pos mn with h0 | h0
  · subst h0; simp [zI]
  · have h1 : 0 < mn / Nat.gcd mn md := Nat.div_pos (Nat.le_of_dvd h0 hd) hg
    unfold zI
    cases s
    · simp only [Bool.false_eq_true, if_false]
      rw [Int.sign_eq_one_of_pos (by omega), Int.sign_eq_one_of_pos (by omega)]
    · simp only [if_true]
      rw [Int.sign_eq_neg_one_of_neg (by omega), Int.sign_eq_neg_one_of_neg (by omega)]

theorem neg_mk (s : Bool) (mn md : Nat) (q p : Rat) (h : mkRat (zI s mn) md = q) (hp : -q = p) (z : Int) (hz : -zI s mn = z) : mkRat (zI (decide (z < 0)) z.natAbs) md = p := by
  rw [zI_norm, ← hz, ← hp, ← h, Rat.neg_mkRat]
theorem mul_mk (z : Int) (s1 s2 : Bool) (mn1 md1 mn2 md2 : Nat) (q q' p : Rat) (h1 : mkRat (zI s1 mn1) md1 = q) (h2 : mkRat (zI s2 mn2) md2 = q') (hp : q * q' = p) (hz : zI s1 mn1 * zI s2 mn2 = z) : mkRat (zI (decide (z < 0)) z.natAbs) (md1 * md2) = p := by
  rw [zI_norm, ← hz, ← hp, ← h1, ← h2, Rat.mkRat_mul_mkRat]
theorem nlen_imul {z : Int} {s1 s2 : Bool} {m1 m2 : Nat} (hz : zI s1 m1 * zI s2 m2 = z) : nlen z.natAbs ≤ nlen m1 + nlen m2 := by
  rw [← hz, Int.natAbs_mul, zI_abs, zI_abs]; exact nlen_mul _ _
end Go.Proofs.Ytonnbcongnkcdaa

namespace Go.Proofs.Ytonnbcongnkcdaa
open Go.RowKit

/-- -1, 0 or 1 -/
def cmpQ (p q : Rat) : Int := if p < q then -1 else if q < p then 1 else 0
theorem mk_cross (z : Int) (d : Nat) (h : 0 < d) : mkRat z d * (d : Rat) = (z : Rat) := by
  rw [Rat.mkRat_eq_div, Rat.div_mul_cancel]
  intro e
  have := Rat.natCast_pos.2 h
  rw [e] at this
  exact Rat.lt_irrefl this
theorem mk_lt (z1 z2 : Int) (d1 d2 : Nat) (h1 : 0 < d1) (h2 : 0 < d2) : mkRat z1 d1 < mkRat z2 d2 ↔ z1 * d2 < z2 * d1 := by
  have p1 : (0 : Rat) < (d1 : Rat) := Rat.natCast_pos.2 h1
  have p2 : (0 : Rat) < (d2 : Rat) := Rat.natCast_pos.2 h2
  rw [← Rat.mul_lt_mul_right (Rat.mul_pos p1 p2)]
  have e1 : mkRat z1 d1 * ((d1 : Rat) * (d2 : Rat)) = ((z1 * d2 : Int) : Rat) := by rw [← Rat.mul_assoc, mk_cross z1 d1 h1]; simp; rfl
  have e2 : mkRat z2 d2 * ((d1 : Rat) * (d2 : Rat)) = ((z2 * d1 : Int) : Rat) := by rw [Rat.mul_comm (d1 : Rat), ← Rat.mul_assoc, mk_cross z2 d2 h2]; simp; rfl
  rw [e1, e2, Rat.intCast_lt_intCast]
theorem cmp_mk (z1 z2 x1 x2 : Int) (d1 d2 : Nat) (h1 : 0 < d1) (h2 : 0 < d2) (p q : Rat) (e1 : mkRat z1 d1 = p) (e2 : mkRat z2 d2 = q) (a1 : z1 * zI false d2 = x1) (a2 : z2 * zI false d1 = x2) : cmpZ (zI (decide (x1 < 0)) x1.natAbs) (zI (decide (x2 < 0)) x2.natAbs) = cmpQ p q := by
  rw [zI_norm, zI_norm, ← a1, ← a2, ← e1, ← e2]
  unfold cmpZ cmpQ
  have l1 := mk_lt z1 z2 d1 d2 h1 h2
  have l2 := mk_lt z2 z1 d2 d1 h2 h1
  have f1 : zI false d1 = (d1 : Int) := rfl
  have f2 : zI false d2 = (d2 : Int) := rfl
  rw [f1, f2]
  by_cases c1 : mkRat z1 d1 < mkRat z2 d2
  · rw [if_pos c1, if_pos (l1.1 c1)]
  · rw [if_neg c1, if_neg (fun h => c1 (l1.2 h))]
    by_cases c2 : mkRat z2 d2 < mkRat z1 d1
    · rw [if_pos c2, if_pos (l2.1 c2)]
    · rw [if_neg c2, if_neg (fun h => c2 (l2.2 h))]

end Go.Proofs.Ytonnbcongnkcdaa

namespace Go.Proofs.Ytonnbcongnkcdaa
open Go

variable {P : Program} {ops : Array Oper} {Q : Exit → Act → World → Prop}

theorem wpOp_of_list {i : Nat} {o : Oper} {K : Act → World → Prop} {a : Act} {w : World} (h : ops[i]? = some o) (hl : wpList P ops (Exit.then K Q) [o] a w) : wpOp P ops Q i K a w := by
  unfold wpOp
  rw [h]
  unfold wpList at hl
  simp only
  by_cases hw : Region.wanted o (yielded ops a.tmps) = true
  · rw [if_pos hw] at hl ⊢
    rcases hl with hl | ⟨h1, h2⟩
    · left
      unfold Oper.wp at hl ⊢
      generalize (execOp a.eval o).run P w = r at *
      cases r with
      | ok n w' =>
        cases n <;> simp only [Oper.upon] at hl ⊢ <;>
          first
            | exact hl
            | exact Calls.mono hl (fun e w'' he => by cases e <;> first | exact he | (obtain ⟨a1, w1, h1⟩ := he; exact ⟨a1, w1, h1⟩))
            | exact Rows.mono hl (fun _ _ he => he)
      | halt x w' => cases x <;> simp only [Oper.upon] at hl ⊢ <;> exact hl
    · right
      obtain ⟨a1, w1, h2⟩ := h2
      exact ⟨h1, a1, w1, h2⟩
  · rw [if_neg hw] at hl ⊢
    exact hl

/-- how many are not listed -/
def cnt (listed : Array Bool) : Nat := (listed.toList.filter (fun b => !b)).length
theorem cnt_set : ∀ (l : List Bool) (i : Nat), l[i]? = some false → ((l.set i true).filter (fun b => !b)).length + 1 = (l.filter (fun b => !b)).length
  | [], i, h => by simp at h
  | b :: l, 0, h => by simp at h; subst h; simp
  | b :: l, i + 1, h => by
    have := cnt_set l i (by simpa using h)
    simp only [List.set_cons_succ, List.filter_cons]
    split
    · simp only [List.length_cons]; omega
    · omega
theorem cnt_zero {l : List Bool} (h : (l.filter (fun b => !b)).length = 0) {i : Nat} {b : Bool} (hi : l[i]? = some b) : b = true := by
  have h1 := List.length_eq_zero_iff.1 h
  cases b with
  | true => rfl
  | false =>
    have hm : false ∈ l.filter (fun b => !b) := List.mem_filter.2 ⟨List.mem_of_getElem? hi, rfl⟩
    rw [h1] at hm; cases hm

theorem ready_mem {md : Region.Mode} {listed : Array Bool} {i : Nat} (h : i ∈ Region.ready md ops listed) (hs : listed.size = ops.size) :
    ∃ o, ops[i]? = some o ∧ listed[i]? = some false ∧ ∀ e ∈ o.after, Region.binds md e = true → listed.getD e.on false = true := by
  unfold Region.ready at h
  rw [List.mem_filter] at h
  obtain ⟨h1, h2⟩ := h
  have hi : i < ops.size := by simpa using h1
  simp only [Bool.and_eq_true, Bool.not_eq_true'] at h2
  obtain ⟨h3, h4⟩ := h2
  have ho : ops[i]? = some ops[i] := by simp [hi]
  refine ⟨ops[i], ho, ?_, ?_⟩
  · have hl : i < listed.size := by omega
    simp [Array.getD, hl] at h3 ⊢
    exact h3
  · rw [ho] at h4
    simp only [Option.map_some, Option.getD_some, Array.all_eq_true] at h4
    intro e he hb
    obtain ⟨j, hj, rfl⟩ := Array.mem_iff_getElem.1 he
    have := h4 j hj
    simpa [hb] using this
theorem ready_nil {md : Region.Mode} {listed : Array Bool} (h : Region.ready md ops listed = []) (hs : listed.size = ops.size) (hac : ∀ (i : Nat) (o : Oper), ops[i]? = some o → ∀ (e : Edge), e ∈ o.after → e.on < i) :
    ∀ i, i < ops.size → listed.getD i false = true := by
  intro i
  induction i using Nat.strongRecOn with
  | ind i ih =>
    intro hi
    cases hc : listed.getD i false with
    | true => rfl
    | false =>
      exfalso
      have ho : ops[i]? = some ops[i] := by simp [hi]
      have hm : i ∈ Region.ready md ops listed := by
        unfold Region.ready
        rw [List.mem_filter]
        refine ⟨by simpa using hi, ?_⟩
        have hl : i < listed.size := by omega
        have hc' : listed.getD i true = false := by simp [Array.getD, hl] at hc ⊢; exact hc
        rw [hc', ho]
        simp only [Bool.not_false, Option.map_some, Option.getD_some, Bool.true_and, Array.all_eq_true]
        intro j hj
        have hlt := hac i _ ho ops[i].after[j] (Array.getElem_mem hj)
        have := ih _ hlt (by omega)
        simp [this]
      rw [h] at hm; cases hm

theorem wpAny_inv {md : Region.Mode} {J : (Nat → Bool) → Act → World → Prop} (hac : ∀ (i : Nat) (o : Oper), ops[i]? = some o → ∀ (e : Edge), e ∈ o.after → e.on < i)
    (hstep : ∀ L a w i o, ops[i]? = some o → L i = false → (∀ e ∈ o.after, Region.binds md e = true → L e.on = true) → J L a w → wpList P ops (Exit.then (J (fun j => if j = i then true else L j)) Q) [o] a w)
    (hend : ∀ L a w, (∀ i, i < ops.size → L i = true) → J L a w → Q .normal a w) :
    ∀ (fuel : Nat) (listed : Array Bool) (a : Act) (w : World), listed.size = ops.size → cnt listed ≤ fuel → J (fun j => listed.getD j false) a w → wpAny P md ops Q fuel listed a w := by
  intro fuel
  induction fuel with
  | zero =>
    intro listed a w hs hc hJ
    have hall : ∀ i, i < ops.size → listed.getD i false = true := by
      intro i hi
      have hl : i < listed.size := by omega
      have := cnt_zero (l := listed.toList) (by unfold cnt at hc; omega) (i := i) (b := listed[i]) (by simp [hl])
      simp [Array.getD, hl, this]
    refine ⟨?_, hend _ a w hall hJ⟩
    cases hr : Region.ready md ops listed with
    | nil => rfl
    | cons x xs =>
      exfalso
      obtain ⟨o, ho, hf, _⟩ := ready_mem (md := md) (ops := ops) (listed := listed) (i := x) (by rw [hr]; simp) hs
      have hx : x < ops.size := (Array.getElem?_eq_some_iff.1 ho).1
      have := hall x hx
      simp [Array.getD, show x < listed.size by omega] at this hf
      rw [this] at hf; cases hf
  | succ fuel ih =>
    intro listed a w hs hc hJ
    refine ⟨fun hr => hend _ a w (ready_nil hr hs hac) hJ, fun i hi => ?_⟩
    obtain ⟨o, ho, hf, hafter⟩ := ready_mem hi hs
    have hl : i < listed.size := (Array.getElem?_eq_some_iff.1 hf).1
    have hJ2 := hstep _ a w i o ho (by simp [Array.getD, hl] at hf ⊢; exact hf) hafter hJ
    refine wpOp_mono (fun a' w' h => ?_) (wpOp_of_list ho hJ2)
    refine ih (listed.setIfInBounds i true) a' w' (by simpa using hs) ?_ ?_
    · have := cnt_set listed.toList i (by simpa using hf)
      unfold cnt at hc ⊢
      simp only [Array.toList_setIfInBounds]
      omega
    · have e : (fun j => (listed.setIfInBounds i true).getD j false) = (fun j => if j = i then true else listed.getD j false) := by
        funext j
        by_cases hj : j = i
        · subst hj; simp [Array.getD, hl]
        · rw [if_neg hj]
          simp only [Array.getD, Array.size_setIfInBounds]
          split
          · exact Array.getElem_setIfInBounds_ne _ (fun e => hj e.symm)
          · rfl
      rw [e]; exact h

/-- a region that draws its order, by an invariant -/
theorem region_inv {id : Nat} {a : Act} {w : World} (hm : P.follows .mixedOrders = true) (J : (Nat → Bool) → Act → World → Prop)
    (h0 : J (fun _ => false) a w.drew) (hac : ∀ (i : Nat) (o : Oper), ops[i]? = some o → ∀ (e : Edge), e ∈ o.after → e.on < i)
    (hstep : ∀ L a w i o, ops[i]? = some o → L i = false → (∀ e ∈ o.after, Region.binds .any e = true → L e.on = true) → J L a w → wpList P ops (Exit.then (J (fun j => if j = i then true else L j)) Q) [o] a w)
    (hend : ∀ L a w, (∀ i, i < ops.size → L i = true) → J L a w → Q .normal a w) : (Code.region id ops true).wp P Q a w := by
  refine wp_region_any hm (wpAny_inv hac hstep hend ops.size _ a _ (by simp) ?_ ?_)
  · unfold cnt; exact Nat.le_trans (List.length_filter_le _ _) (by simp)
  · have e : (fun j => (Array.replicate ops.size false).getD j false) = (fun _ => false) := by
      funext j; simp [Array.getD]
    rw [e]; exact h0

theorem region_inv2 {id : Nat} {a : Act} {w : World} (hm : P.follows .mixedOrders = true) (J : Act → (Nat → Bool) → Act → World → Prop)
    (h0 : J a (fun _ => false) a w.drew) (hac : ∀ (i : Nat) (o : Oper), ops[i]? = some o → ∀ (e : Edge), e ∈ o.after → e.on < i)
    (hstep : ∀ L a' w i o, ops[i]? = some o → L i = false → (∀ e ∈ o.after, Region.binds .any e = true → L e.on = true) → J a L a' w → wpList P ops (Exit.then (J a (fun j => if j = i then true else L j)) Q) [o] a' w)
    (hend : ∀ L a' w, (∀ i, i < ops.size → L i = true) → J a L a' w → Q .normal a' w) : (Code.region id ops true).wp P Q a w :=
  region_inv hm (J a) h0 hac hstep hend

/-- each operation waits for earlier ones alone -/
def acyc (ops : Array Oper) : Bool := (List.range ops.size).all fun i => ((ops[i]?).map fun o => o.after.toList.all fun e => decide (e.on < i)).getD true
theorem acyc_spec (h : acyc ops = true) : ∀ (i : Nat) (o : Oper), ops[i]? = some o → ∀ (e : Edge), e ∈ o.after → e.on < i := by
  intro i o ho e he
  unfold acyc at h
  rw [List.all_eq_true] at h
  have := h i (List.mem_range.2 (Array.getElem?_eq_some_iff.1 ho).1)
  rw [ho] at this
  simp only [Option.map_some, Option.getD_some, List.all_eq_true, decide_eq_true_eq] at this
  exact this e (by simpa using he)

end Go.Proofs.Ytonnbcongnkcdaa

namespace Go.Proofs.Ytonnbcongnkcdaa
open Go.RowKit

/-- block b is a box of type T with k cells, none frozen -/
def Bk (w : World) (b : Nat) (T : TypeId) (k : Nat) : Prop := ∃ cur, w.heap[b]? = some (.cells cur T (0, 0)) ∧ cur.size = k
theorem Bk.bx {w : World} {b k : Nat} {T : TypeId} (h : Bk w b T k) : Bx w b T := by obtain ⟨c, h, _⟩ := h; exact ⟨c, _, h⟩
theorem Bk.lt {w : World} {b k : Nat} {T : TypeId} (h : Bk w b T k) : b < w.heap.size := h.bx.lt
theorem Bk.below {w w' : World} {b k : Nat} {T : TypeId} (h : Bk w b T k) (hb : Below w.heap.size w w') : Bk w' b T k := by
  have hl := h.lt
  obtain ⟨c, h, hk⟩ := h; exact ⟨c, (hb.block b hl).trans h, hk⟩
theorem Bk.new (w : World) (c : Array Value) (T : TypeId) : Bk (w.alloc (.cells c T)) w.heap.size T c.size := ⟨c, heap_alloc_new w _, rfl⟩
theorem Bk.cell {w : World} {b k : Nat} {T : TypeId} (h : Bk w b T k) {o : Nat} (ho : o < k) : ∃ v, w.cell? ⟨b, o, none⟩ = some v := by
  obtain ⟨c, h, rfl⟩ := h
  exact ⟨c[o], by simp [World.cell?, h, ho]⟩
theorem Bk.frozen {w : World} {b k : Nat} {T : TypeId} (h : Bk w b T k) (o : Nat) : w.frozen? ⟨b, o, none⟩ = false := by
  obtain ⟨c, h, rfl⟩ := h; simp [World.frozen?, h]
theorem Bk.set {w : World} {b k : Nat} {T : TypeId} (h : Bk w b T k) (p : Addr) (v : Value) : Bk (w.setCell p v) b T k := by
  obtain ⟨c, h, hk⟩ := h
  by_cases e : b = p.block
  · subst e
    refine ⟨if p.spot.isSome then c else c.setIfInBounds p.off v, ?_, ?_⟩
    · simp [World.setCell, Array.getElem?_modify, h]
    · split <;> simp [hk]
  · exact ⟨c, (Below.heap_setCell _ _ _ _ e).trans h, hk⟩

/-- u is the whole number m as an integer -/
def IsWh (N m : Nat) (u : Value) (w : World) : Prop := ∃ r c, u = .agg #[.bool false, .slice r (nlen m) c] ∧ Nt N w r (nlen m) c m
/-- u is the integer z in normal form -/
def IsInt (N : Nat) (z : Int) (u : Value) (w : World) : Prop := ∃ r c, u = .agg #[.bool (decide (z < 0)), .slice r (nlen z.natAbs) c] ∧ Nt N w r (nlen z.natAbs) c z.natAbs
/-- u points to a box of its own -/
def IsBox (b0 : Nat) (T : TypeId) (k : Nat) (u : Value) (w : World) : Prop := ∃ g, u = .pointer (some ⟨g, 0, none⟩) ∧ b0 ≤ g ∧ Bk w g T k
theorem Bk.new' (w : World) (c : Array Value) (T : TypeId) (b : Nat) (h : b = w.heap.size) : Bk (w.alloc (.cells c T)) b T c.size := by subst h; exact Bk.new w c T
theorem set2_cells {w : World} {g : Nat} {a0 a1 v0 v1 : Value} (h0 : w.cell? ⟨g, 0, none⟩ = some a0) (h1 : w.cell? ⟨g, 1, none⟩ = some a1) :
    ((w.setCell ⟨g, 0, none⟩ v0).setCell ⟨g, 1, none⟩ v1).cell? ⟨g, 0, none⟩ = some v0 ∧ ((w.setCell ⟨g, 0, none⟩ v0).setCell ⟨g, 1, none⟩ v1).cell? ⟨g, 1, none⟩ = some v1 :=
  ⟨(World.cell?_setCell_other _ _ _ _ (by simp)).trans (World.cell?_setCell_same _ _ _ h0), World.cell?_setCell_same _ _ _ ((World.cell?_setCell_other _ _ _ _ (by simp)).trans h1)⟩
theorem IsWh.below {N m : Nat} {u : Value} {w w' : World} (h : IsWh N m u w) (hb : Below w.heap.size w w') : IsWh N m u w' := by obtain ⟨r, c, e, h⟩ := h; exact ⟨r, c, e, h.below hb⟩
theorem IsInt.below {N : Nat} {z : Int} {u : Value} {w w' : World} (h : IsInt N z u w) (hb : Below w.heap.size w w') : IsInt N z u w' := by obtain ⟨r, c, e, h⟩ := h; exact ⟨r, c, e, h.below hb⟩
theorem IsBox.below {b0 k : Nat} {T : TypeId} {u : Value} {w w' : World} (h : IsBox b0 T k u w) (hb : Below w.heap.size w w') : IsBox b0 T k u w' := by obtain ⟨g, e, h1, h⟩ := h; exact ⟨g, e, h1, h.below hb⟩

theorem add_mk (z1 z2 x1 x2 x : Int) (d1 d2 : Nat) (h1 : 0 < d1) (h2 : 0 < d2) (q q' p : Rat) (e1 : mkRat z1 d1 = q) (e2 : mkRat z2 d2 = q') (hp : q + q' = p) (a1 : z1 * zI false d2 = x1) (a2 : z2 * zI false d1 = x2) (hx : zI (decide (x1 < 0)) x1.natAbs + zI (decide (x2 < 0)) x2.natAbs = x) : mkRat (zI (decide (x < 0)) x.natAbs) (d1 * d2) = p := by
  rw [zI_norm, zI_norm] at hx
  rw [zI_norm, ← hx, ← a1, ← a2, ← hp, ← e1, ← e2, Rat.mkRat_add_mkRat _ _ (by omega) (by omega)]
  rfl
theorem nlen_iadd {z : Int} {s1 s2 : Bool} {m1 m2 : Nat} (hz : zI s1 m1 + zI s2 m2 = z) : nlen z.natAbs ≤ max (nlen m1) (nlen m2) + 1 := by
  have h : z.natAbs ≤ m1 + m2 := by
    have h1 := zI_abs s1 m1
    have h2 := zI_abs s2 m2
    omega
  exact Nat.le_trans (nlen_mono h) (nlen_add m1 m2)

theorem cell_mono {w w' : World} {b o : Nat} {v : Value} (h : w.cell? ⟨b, o, none⟩ = some v) (hb : Below w.heap.size w w') : w'.cell? ⟨b, o, none⟩ = some v := (hb.cell (p := ⟨b, o, none⟩) (World.block_lt_of_cell? w _ h)).trans h
end Go.Proofs.Ytonnbcongnkcdaa

namespace Go.Proofs.Ytonnbcongnkcdaa
open Go.RowKit

/-- it returns the normal form of q, and a word -/
def RatPost2 (N : Nat) (w : World) (q : Rat) (ok : Bool) (e : Ending) (w' : World) : Prop :=
  ∃ r cr r2 cr2, e = .returned (.tuple #[.agg #[.bool (decide (q.num < 0)), .slice r (nlen q.num.natAbs) cr, .slice r2 (nlen q.den) cr2], .bool ok]) ∧ Nt N w' r (nlen q.num.natAbs) cr q.num.natAbs ∧ Nt N w' r2 (nlen q.den) cr2 q.den ∧ Below w.heap.size w w'
theorem zI_sign_ne (s : Bool) (m : Nat) (h : 0 < m) : ((zI s m).sign == 0) = false := by
  unfold zI
  cases s
  · simp only [Bool.false_eq_true, if_false]; rw [Int.sign_eq_one_of_pos (by omega)]; rfl
  · simp only [if_true]; rw [Int.sign_eq_neg_one_of_neg (by omega)]; rfl
theorem zI_sign_zero (s : Bool) : ((zI s 0).sign == 0) = true := by cases s <;> rfl

end Go.Proofs.Ytonnbcongnkcdaa

namespace Go.Proofs.Ytonnbcongnkcdaa
open Go.RowKit

/-- u is the rational number q in normal form -/
def IsRat (N : Nat) (q : Rat) (u : Value) (w : World) : Prop :=
  ∃ r c r2 c2, u = .agg #[.bool (decide (q.num < 0)), .slice r (nlen q.num.natAbs) c, .slice r2 (nlen q.den) c2] ∧ Nt N w r (nlen q.num.natAbs) c q.num.natAbs ∧ Nt N w r2 (nlen q.den) c2 q.den
theorem IsRat.below {N : Nat} {q : Rat} {u : Value} {w w' : World} (h : IsRat N q u w) (hb : Below w.heap.size w w') : IsRat N q u w' := by
  obtain ⟨r, c, r2, c2, e, h1, h2⟩ := h; exact ⟨r, c, r2, c2, e, h1.below hb, h2.below hb⟩
theorem set3_cells {w : World} {g : Nat} {a0 a1 a2 v0 v1 v2 : Value} (h0 : w.cell? ⟨g, 0, none⟩ = some a0) (h1 : w.cell? ⟨g, 1, none⟩ = some a1) (h2 : w.cell? ⟨g, 2, none⟩ = some a2) :
    (((w.setCell ⟨g, 0, none⟩ v0).setCell ⟨g, 1, none⟩ v1).setCell ⟨g, 2, none⟩ v2).cell? ⟨g, 0, none⟩ = some v0 ∧
    (((w.setCell ⟨g, 0, none⟩ v0).setCell ⟨g, 1, none⟩ v1).setCell ⟨g, 2, none⟩ v2).cell? ⟨g, 1, none⟩ = some v1 ∧
    (((w.setCell ⟨g, 0, none⟩ v0).setCell ⟨g, 1, none⟩ v1).setCell ⟨g, 2, none⟩ v2).cell? ⟨g, 2, none⟩ = some v2 :=
  ⟨(World.cell?_setCell_other _ _ _ _ (by simp)).trans (set2_cells h0 h1).1, (World.cell?_setCell_other _ _ _ _ (by simp)).trans (set2_cells h0 h1).2,
   World.cell?_setCell_same _ _ _ ((World.cell?_setCell_other _ _ _ _ (by simp)).trans ((World.cell?_setCell_other _ _ _ _ (by simp)).trans h2))⟩
/-- the region has begun at W, and nothing of W has changed -/
def Since (W w : World) : Prop := Below W.heap.size W w ∧ W.heap.size ≤ w.heap.size
theorem Since.below {W w w' : World} (h : Since W w) (hb : Below w.heap.size w w') : Since W w' := ⟨h.1.trans (hb.mono h.2), Nat.le_trans h.2 hb.size⟩
theorem Since.drawn (W : World) : Since W W.drew := ⟨(Below.refl _ _).drew, Nat.le_refl _⟩
end Go.Proofs.Ytonnbcongnkcdaa

namespace Go.Proofs.Ytonnbcongnkcdaa
open Go.RowKit

theorem rsz_mul (p q : Rat) : rsz (p * q) ≤ rsz p + rsz q := by
  have e : p * q = mkRat (p.num * q.num) (p.den * q.den) := by
    have h1 := Rat.mkRat_mul_mkRat p.num q.num p.den q.den
    rw [Rat.mkRat_self, Rat.mkRat_self] at h1
    exact h1
  rw [e]
  have l1 := nlen_mul p.num.natAbs q.num.natAbs
  have l2 := nlen_mul p.den q.den
  have := rsz_pos p
  have := rsz_pos q
  have h1 : nlen p.num.natAbs ≤ rsz p ∧ nlen p.den ≤ rsz p := by unfold rsz; omega
  have h2 : nlen q.num.natAbs ≤ rsz q ∧ nlen q.den ≤ rsz q := by unfold rsz; omega
  exact rsz_mk _ _ _ (by omega) (by rw [Int.natAbs_mul]; omega) (by omega)
theorem Rt.rsz_le {N : Nat} {w : World} {s : Bool} {a d : Option Addr} {na ca nd cd L : Nat} {q : Rat} (h : Rt N w s a na ca d nd cd q L) : rsz q ≤ L := by
  obtain ⟨l0, l1, l2, mn, md, hn, hd, rfl⟩ := h
  exact rsz_mk _ _ _ l0 (by rw [zI_abs]; exact nlen_bound hn _ l1) (nlen_bound hd _ l2)

end Go.Proofs.Ytonnbcongnkcdaa

namespace Go.Proofs.Ytonnbcongnkcdaa
open Go.RowKit

theorem rsz_neg (q : Rat) : rsz (-q) = rsz q := by
  have h1 : (-q).num = -q.num := rfl
  have h2 : (-q).den = q.den := rfl
  unfold rsz; rw [h1, h2, Int.natAbs_neg]
theorem mk_div (x1 x2 : Int) : mkRat (zI (decide (x1 < 0) != decide (x2 < 0)) x1.natAbs) x2.natAbs = (x1 : Rat) / (x2 : Rat) := by
  have h1 : zI (decide (x1 < 0) != decide (x2 < 0)) x1.natAbs = if x2 < 0 then -x1 else x1 := by
    by_cases a : x1 < 0 <;> by_cases b : x2 < 0 <;> simp [zI, a, b] <;> omega
  rw [h1, Rat.mkRat_eq_div]
  by_cases b : x2 < 0
  · rw [if_pos b]
    have h2 : ((x2.natAbs : Nat) : Rat) = -(x2 : Rat) := by
      have : (x2.natAbs : Int) = -x2 := by omega
      have h3 : (((x2.natAbs : Nat) : Int) : Rat) = ((-x2 : Int) : Rat) := by rw [this]
      rw [Rat.intCast_neg] at h3
      exact h3
    rw [h2, Rat.intCast_neg]
    grind
  · rw [if_neg b]
    have h2 : ((x2.natAbs : Nat) : Rat) = (x2 : Rat) := by
      have : (x2.natAbs : Int) = x2 := by omega
      have h3 : (((x2.natAbs : Nat) : Int) : Rat) = ((x2 : Int) : Rat) := by rw [this]
      exact h3
    rw [h2]
theorem div_mk (z1 z2 x1 x2 : Int) (d1 d2 : Nat) (h1 : 0 < d1) (h2 : 0 < d2) (q q' p : Rat) (e1 : mkRat z1 d1 = q) (e2 : mkRat z2 d2 = q') (hp : q / q' = p) (a1 : z1 * zI false d2 = x1) (a2 : z2 * zI false d1 = x2) : mkRat (zI (decide (x1 < 0) != decide (x2 < 0)) x1.natAbs) x2.natAbs = p := by
  rw [mk_div, ← hp, ← e1, ← e2, ← a1, ← a2, Rat.mkRat_eq_div, Rat.mkRat_eq_div]
  have c1 : ((zI false d2 : Int) : Rat) = (d2 : Rat) := rfl
  have c2 : ((zI false d1 : Int) : Rat) = (d1 : Rat) := rfl
  rw [Rat.intCast_mul, Rat.intCast_mul, c1, c2]
  have n1 : (d1 : Rat) ≠ 0 := by intro e; have := Rat.natCast_inj.1 (e.trans (by rfl : (0 : Rat) = ((0 : Nat) : Rat))); omega
  have n2 : (d2 : Rat) ≠ 0 := by intro e; have := Rat.natCast_inj.1 (e.trans (by rfl : (0 : Rat) = ((0 : Nat) : Rat))); omega
  grind
theorem div_ok (z2 x2 : Int) (d1 d2 : Nat) (h1 : 0 < d1) (h2 : 0 < d2) (q' : Rat) (e2 : mkRat z2 d2 = q') (a2 : z2 * zI false d1 = x2) : decide (0 < x2.natAbs) = decide (q' ≠ 0) := by
  have hz : q' = 0 ↔ z2 = 0 := by rw [← e2]; exact Rat.mkRat_eq_zero (by omega)
  have hx : x2 = 0 ↔ z2 = 0 := by
    rw [← a2]
    have : zI false d1 ≠ 0 := by show (d1 : Int) ≠ 0; omega
    exact ⟨fun h => (Int.mul_eq_zero.1 h).resolve_right this, fun h => by rw [h]; exact Int.zero_mul _⟩
  apply decide_eq_decide.2
  rw [Ne, hz, ← hx]; omega

end Go.Proofs.Ytonnbcongnkcdaa

namespace Go.Proofs.Ytonnbcongnkcdaa
open Go.RowKit

theorem calls_name {P : Program} {f : FuncId} {args : Array Value} {w : World} {Q : Ending → World → Prop} (h : ∀ W, w = W → Calls P f args W Q) : Calls P f args w Q := h w rfl
theorem region_name {P : Program} {Q : Exit → Act → World → Prop} {id : Nat} {ops : Array Oper} {b : Bool} {a : Act} {w : World} (h : ∀ W, w = W → (Code.region id ops b).wp P Q a W) : (Code.region id ops b).wp P Q a w := h w rfl

/-- old blocks and rows of limbs are as they were -/
def Kp (N : Nat) (w w' : World) : Prop := w.heap.size ≤ w'.heap.size ∧ ∀ b, b < w.heap.size → Own N 81 w b → w'.heap[b]? = w.heap[b]?
theorem Kp.refl (N : Nat) (w : World) : Kp N w w := ⟨Nat.le_refl _, fun _ _ _ => rfl⟩
theorem Kp.trans {N : Nat} {a b c : World} (h : Kp N a b) (k : Kp N b c) : Kp N a c :=
  ⟨Nat.le_trans h.1 k.1, fun i hi ho => (k.2 i (by have := h.1; omega) (ho.of_block (h.2 i hi ho))).trans (h.2 i hi ho)⟩
theorem Kp.below {N : Nat} {w w' : World} (hb : Below w.heap.size w w') : Kp N w w' := ⟨hb.size, fun b h _ => hb.block b h⟩
theorem Kp.alloc {N : Nat} {w W : World} (h : Kp N w W) (o : Obj) : Kp N w (W.alloc o) := h.trans (Kp.below (bel1 W o))
theorem Kp.drew {N : Nat} {w W : World} (h : Kp N w W) : Kp N w W.drew := h.trans (Kp.below (Below.refl _ _).drew)
theorem Kp.set {N : Nat} {w W : World} {b o : Nat} {T : TypeId} (h : Kp N w W) (hN : N ≤ b) (hp : Bx W b T) (hT : T ≠ 81) (v : Value) : Kp N w (W.setCell ⟨b, o, none⟩ v) := by
  refine ⟨by simpa [World.setCell] using h.1, fun i hi ho => ?_⟩
  have e := h.2 i hi ho
  have hne : i ≠ b := by
    rintro rfl
    rcases ho with ho | ⟨c, z, ho⟩
    · omega
    · obtain ⟨c2, z2, hp⟩ := hp
      rw [ho, hp] at e; simp at e; exact hT e.2.1
  exact (Below.heap_setCell W ⟨b, o, none⟩ v i hne).trans e
theorem Nt.keep {N : Nat} {w w' : World} {a : Option Addr} {n cap m : Nat} (h : Nt N w a n cap m) (k : Kp N w w') : Nt N w' a n cap m := by
  obtain ⟨h0, h1, h2, h3⟩ := h
  refine ⟨h0, h1, h2, fun hn => ?_⟩
  obtain ⟨b, off, e, ho, hc⟩ := h3 hn
  have hlt : b < w.heap.size := World.block_lt_of_cell? w _ (hc 0 hn)
  have eb := k.2 b hlt ho
  exact ⟨b, off, e, ho.of_block eb, fun i hi => (World.cell?_of_block (w := w) (a := ⟨b, off + i, none⟩) eb).trans (hc i hi)⟩
theorem Rt.keep {N : Nat} {w w' : World} {s : Bool} {a d : Option Addr} {na ca nd cd L : Nat} {q : Rat} (h : Rt N w s a na ca d nd cd q L) (k : Kp N w w') : Rt N w' s a na ca d nd cd q L := by
  obtain ⟨h0, h1, h2, mn, md, h3, h4, h5⟩ := h
  exact ⟨h0, h1, h2, mn, md, h3.keep k, h4.keep k, h5⟩
/-- block b is a box, but no row of limbs -/
def Bn (w : World) (b : Nat) : Prop := ∃ T, Bx w b T ∧ T ≠ 81
theorem Bx.bn {w : World} {b : Nat} {T : TypeId} (h : Bx w b T) (hT : T ≠ 81) : Bn w b := ⟨T, h, hT⟩
theorem Bn.alloc {w : World} {b : Nat} (h : Bn w b) (o : Obj) : Bn (w.alloc o) b := by obtain ⟨T, h, hT⟩ := h; exact ⟨T, h.alloc o, hT⟩
theorem Bn.set {w : World} {b : Nat} (h : Bn w b) (p : Addr) (v : Value) : Bn (w.setCell p v) b := by obtain ⟨T, h, hT⟩ := h; exact ⟨T, h.set p v, hT⟩
theorem Bn.drew {w : World} {b : Nat} (h : Bn w b) : Bn w.drew b := h
theorem Bn.below {w w' : World} {b : Nat} (h : Bn w b) (hb : Below w.heap.size w w') : Bn w' b := by obtain ⟨T, h, hT⟩ := h; exact ⟨T, h.below hb, hT⟩
theorem Bn.new (w : World) (c : Array Value) (T : TypeId) (b : Nat) (h : b = w.heap.size) (hT : T ≠ 81) : Bn (w.alloc (.cells c T)) b := ⟨T, Bx.new' w c T b h, hT⟩
theorem Kp.put {N : Nat} {w W : World} {b o : Nat} (h : Kp N w W) (hN : N ≤ b) (hp : Bn W b) (v : Value) : Kp N w (W.setCell ⟨b, o, none⟩ v) := by obtain ⟨T, hp, hT⟩ := hp; exact h.set hN hp hT v
theorem Bx.drew {w : World} {b : Nat} {T : TypeId} (h : Bx w b T) : Bx w.drew b T := h
theorem size_set (w : World) (p : Addr) (v : Value) : (w.setCell p v).heap.size = w.heap.size := by simp [World.setCell]
theorem size_drew (w : World) : w.drew.heap.size = w.heap.size := rfl
theorem size_alloc (w : World) (o : Obj) : (w.alloc o).heap.size = w.heap.size + 1 := by simp

/-- block g is a box of three cells -/
def Box3 (w : World) (g : Nat) (v0 v1 v2 : Value) : Prop := g < w.heap.size ∧ Bn w g ∧ (∀ o, w.frozen? ⟨g, o, none⟩ = false) ∧ w.cell? ⟨g, 0, none⟩ = some v0 ∧ w.cell? ⟨g, 1, none⟩ = some v1 ∧ w.cell? ⟨g, 2, none⟩ = some v2
/-- block g holds the rational number q, of at most L limbs -/
def QBox (N : Nat) (w : World) (g : Nat) (q : Rat) (L : Nat) : Prop := ∃ s a na ca d nd cd, Box3 w g (.bool s) (.slice a na ca) (.slice d nd cd) ∧ Rt N w s a na ca d nd cd q L
/-- block g holds the rational number q in normal form -/
def NBox (N : Nat) (w : World) (g : Nat) (q : Rat) : Prop := ∃ r c r2 c2, Box3 w g (.bool (decide (q.num < 0))) (.slice r (nlen q.num.natAbs) c) (.slice r2 (nlen q.den) c2) ∧ Nt N w r (nlen q.num.natAbs) c q.num.natAbs ∧ Nt N w r2 (nlen q.den) c2 q.den

/-- what a walk keeps, by the build of its world -/
theorem KpA {P : Prop} (h : P := by (repeat' (first | with_reducible exact Kp.refl _ _ | with_reducible exact Hid.out (by with_reducible assumption) | with_reducible apply Kp.alloc | with_reducible apply Kp.drew | (with_reducible refine Kp.put ?_ ?_ ?_ _; rotate_left; (focus (first | omega | (simp; done) | (simp; omega))); rotate_left) | (with_reducible refine Bn.new _ _ _ _ ?_ ?_; (focus (first | omega | (simp; done) | (simp; omega))); decide) | with_reducible apply Bn.alloc | with_reducible apply Bn.drew | with_reducible apply Bn.set))) : P := h
theorem BlA {P : Prop} (h : P := by (repeat' (first | with_reducible exact Below.refl _ _ | with_reducible exact Hid.out (by with_reducible assumption) | (with_reducible refine Below.alloc ?_ ?_ _; rotate_left; (focus (first | omega | (simp; done) | (simp; omega)))) | with_reducible apply Below.drew | (with_reducible refine Below.setCell ?_ ?_ _; rotate_left; (focus (first | omega | (simp; done) | (simp; omega))))))) : P := h
theorem KBA {P : Prop} (h : P := by first | ((repeat' (first | with_reducible exact Kp.refl _ _ | with_reducible exact Hid.out (by with_reducible assumption) | with_reducible apply Kp.alloc | with_reducible apply Kp.drew | (with_reducible refine Kp.put ?_ ?_ ?_ _; rotate_left; (focus (first | omega | (simp; done) | (simp; omega))); rotate_left) | (with_reducible refine Bn.new _ _ _ _ ?_ ?_; (focus (first | omega | (simp; done) | (simp; omega))); decide) | with_reducible apply Bn.alloc | with_reducible apply Bn.drew | with_reducible apply Bn.set)); done) | ((repeat' (first | with_reducible exact Below.refl _ _ | with_reducible exact Hid.out (by with_reducible assumption) | (with_reducible refine Below.alloc ?_ ?_ _; rotate_left; (focus (first | omega | (simp; done) | (simp; omega)))) | with_reducible apply Below.drew | (with_reducible refine Below.setCell ?_ ?_ _; rotate_left; (focus (first | omega | (simp; done) | (simp; omega)))))); done) | (simp; omega)) : P := h

end Go.Proofs.Ytonnbcongnkcdaa
