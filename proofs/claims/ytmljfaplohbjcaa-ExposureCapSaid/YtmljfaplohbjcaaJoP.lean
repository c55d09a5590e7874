/- Plain arithmetic for the reference's natural numbers: bits, halves, division by shifted subtraction. No program in sight; no condition. Contracts of the reference's limb, Norm, Of and Cmp of natural numbers: for all numbers of at most 2^40 limbs. Contracts of the reference's Cmp, Add, Sub, Mul and Of of natural numbers: for all numbers of at most 2^40 limbs. Contracts of the reference's Mul, short and Bits of natural numbers: for all numbers of at most 2^40 limbs. Contracts of the reference's Shift and half of natural numbers: for all numbers of at most 2^40 limbs. Contracts of the reference's DivMod and Gcd of natural numbers: for all numbers of at most 2^38 limbs. -/
import Derived.Test.YtmljfaplohbjcaaJoN1
import Derived.Laws.CopyOwn
import Derived.Deep.RegionHeld3
import Derived.Deep.LoopGhost
namespace Go.Proofs.Ytmljfaplohbjcaa
open Go.RowKit

/-- how many bits a number has -/
def bl (m : Nat) : Nat := if h : m = 0 then 0 else bl (m / 2) + 1
termination_by m
decreasing_by exact Nat.div_lt_self (Nat.pos_of_ne_zero h) (by decide)
theorem bl_zero : bl 0 = 0 := by unfold bl; simp
theorem bl_pos {m : Nat} (h : m ≠ 0) : bl m = bl (m / 2) + 1 := by rw [bl]; simp [h]
theorem bl_eq_zero {m : Nat} : bl m = 0 ↔ m = 0 := by
  constructor
  · intro h; by_cases h0 : m = 0
    · exact h0
    · rw [bl_pos h0] at h; omega
  · rintro rfl; exact bl_zero
theorem lt_two_bl (m : Nat) : m < 2 ^ bl m := by
  induction m using Nat.strongRecOn with
  | ind m ih =>
    by_cases h : m = 0
    · subst h; simp [bl_zero]
    · rw [bl_pos h, Nat.pow_succ]
      have := ih (m / 2) (Nat.div_lt_self (Nat.pos_of_ne_zero h) (by decide))
      omega
theorem two_bl_le {m : Nat} (h : m ≠ 0) : 2 ^ (bl m - 1) ≤ m := by
  induction m using Nat.strongRecOn with
  | ind m ih =>
    rw [bl_pos h, Nat.add_sub_cancel]
    by_cases h1 : m / 2 = 0
    · rw [h1, bl_zero]; simp; omega
    · have h2 := ih (m / 2) (Nat.div_lt_self (Nat.pos_of_ne_zero h) (by decide)) h1
      have h3 : bl (m / 2) ≠ 0 := fun e => h1 (bl_eq_zero.1 e)
      obtain ⟨k, hk⟩ : ∃ k, bl (m / 2) = k + 1 := ⟨bl (m / 2) - 1, by omega⟩
      rw [hk] at h2 ⊢
      rw [Nat.add_sub_cancel] at h2
      rw [Nat.pow_succ]; omega
theorem bl_shift (t : Nat) (ht : t ≠ 0) : ∀ (j low : Nat), low < 2 ^ j → bl (low + 2 ^ j * t) = j + bl t
  | 0, low, hl => by
    have : low = 0 := by simp at hl; exact hl
    subst this; simp
  | j + 1, low, hl => by
    have hp : 0 < 2 ^ (j + 1) * t := Nat.mul_pos (Nat.pow_pos (by decide)) (by omega)
    rw [bl_pos (by omega)]
    have e : (low + 2 ^ (j + 1) * t) / 2 = low / 2 + 2 ^ j * t := by
      rw [Nat.pow_succ, Nat.mul_comm (2 ^ j) 2, Nat.mul_assoc, Nat.add_mul_div_left _ _ (by decide)]
    rw [e, bl_shift t ht j (low / 2) (by rw [Nat.pow_succ] at hl; omega)]; omega
theorem B_two : B = 2 ^ 32 := by decide
theorem pB_two (k : Nat) : B ^ k = 2 ^ (32 * k) := by rw [B_two, ← Nat.pow_mul]
theorem bl_top {m k : Nat} (h : nlen m = k + 1) : bl m = 32 * k + bl (dig m k) := by
  have h1 := lt_pow_nlen m
  rw [h] at h1
  have e := mod_succ m k
  rw [Nat.mod_eq_of_lt h1] at e
  have h2 := bl_shift (dig m k) (top_ne m k h) (32 * k) (m % B ^ k) (by rw [← pB_two]; exact Nat.mod_lt _ (pB k))
  rw [← pB_two, ← e] at h2
  exact h2
theorem bl_le {m n : Nat} (h : m < 2 ^ n) : bl m ≤ n := by
  by_cases h0 : m = 0
  · subst h0; rw [bl_zero]; omega
  · have h1 := two_bl_le h0
    rcases Nat.lt_or_ge n (bl m) with h2 | h2
    · have := Nat.pow_le_pow_right (show 0 < 2 by decide) (show n ≤ bl m - 1 by omega); omega
    · exact h2
theorem bl_dig (m k : Nat) : bl (dig m k) ≤ 32 := bl_le (by have := dig_lt' m k; omega)
theorem bl_nlen (m : Nat) : bl m ≤ 32 * nlen m := bl_le (by rw [← pB_two]; exact lt_pow_nlen m)
theorem lt_of_bl {a b : Nat} (h : bl a < bl b) : a < b := by
  have h1 := lt_two_bl a
  have hb : b ≠ 0 := fun e => by subst e; rw [bl_zero] at h; omega
  have h2 := two_bl_le hb
  have := Nat.pow_le_pow_right (show 0 < 2 by decide) (show bl a ≤ bl b - 1 by omega)
  omega

/-! ### Bits of limbs -/
theorem dig_shift (x i : Nat) : dig x i = (x >>> (32 * i)) % 2 ^ 32 := by
  unfold dig; rw [Nat.shiftRight_eq_div_pow, ← pB_two, ← B_two]
theorem dig_or (a b i : Nat) : dig (a ||| b) i = dig a i ||| dig b i := by
  rw [dig_shift, dig_shift, dig_shift, Nat.shiftRight_or_distrib, Nat.or_mod_two_pow]
theorem dig_two (j i : Nat) : dig (2 ^ j) i = if i = j / 32 then 2 ^ (j % 32) else 0 := by
  have hj : 2 ^ j = B ^ (j / 32) * 2 ^ (j % 32) := by
    rw [pB_two, ← Nat.pow_add]; congr 1; omega
  have hs : 2 ^ (j % 32) < B := by
    rw [B_two]; exact Nat.pow_lt_pow_right (by decide) (Nat.mod_lt _ (by decide))
  generalize j / 32 = p at *
  generalize 2 ^ (j % 32) = s at *
  rw [hj]
  split
  · rename_i h; subst h
    unfold dig; rw [Nat.mul_div_cancel_left _ (pB i), Nat.mod_eq_of_lt hs]
  · rename_i h
    rcases Nat.lt_or_ge i p with h1 | h1
    · obtain ⟨d, rfl⟩ : ∃ d, p = i + (d + 1) := ⟨p - i - 1, by omega⟩
      unfold dig
      rw [Nat.pow_add, Nat.mul_assoc, Nat.mul_div_cancel_left _ (pB i), pB_succ, Nat.mul_comm (B ^ d) B, Nat.mul_assoc, Nat.mul_mod_right]
    · refine dig_high' _ (p + 1) i ?_ (by omega)
      rw [pB_succ]; exact Nat.mul_lt_mul_of_pos_left hs (pB p)
theorem or_bit (Q j : Nat) (h : Q % 2 ^ (j + 1) = 0) : Q + 2 ^ j = Q ||| 2 ^ j := by
  have h1 := Nat.div_add_mod Q (2 ^ (j + 1))
  rw [h, Nat.add_zero] at h1
  have h2 := Nat.two_pow_add_eq_or_of_lt (i := j + 1) (b := 2 ^ j) (Nat.pow_lt_pow_right (by decide) (by omega)) (Q / 2 ^ (j + 1))
  rw [h1] at h2
  exact h2
theorem setbit_at (Q j : Nat) (h : Q % 2 ^ (j + 1) = 0) : dig (Q + 2 ^ j) (j / 32) = dig Q (j / 32) ||| 2 ^ (j % 32) := by
  rw [or_bit Q j h, dig_or, dig_two, if_pos rfl]
theorem setbit_ne (Q j i : Nat) (h : Q % 2 ^ (j + 1) = 0) (hi : i ≠ j / 32) : dig (Q + 2 ^ j) i = dig Q i := by
  rw [or_bit Q j h, dig_or, dig_two, if_neg hi, Nat.or_zero]

/-! ### Halves -/
theorem dig_half (m i : Nat) : dig (m / 2) i = (dig m (i + 1) * B + dig m i) / 2 % B := by
  unfold dig
  rw [Nat.div_div_eq_div_mul, Nat.mul_comm 2, ← Nat.div_div_eq_div_mul, pB_succ, ← Nat.div_div_eq_div_mul]
  generalize m / B ^ i = q
  simp only [B]
  omega

/-! ### Division by shifted subtraction -/
/-- before the round at bit j - 1: what is left, what the quotient has -/
def DivInv (A b j x Q : Nat) : Prop := A = x + Q * b ∧ Q % 2 ^ j = 0 ∧ x < b * 2 ^ j
theorem DivInv.start {A b n : Nat} (hb : b ≠ 0) (hn : bl A ≤ bl b + n) : DivInv A b (n + 1) A 0 := by
  refine ⟨by omega, Nat.zero_mod _, ?_⟩
  have h1 := lt_two_bl A
  have h2 := two_bl_le hb
  have h3 := Nat.pow_le_pow_right (show 0 < 2 by decide) (show bl A ≤ (bl b - 1) + (n + 1) by omega)
  have h4 := Nat.mul_le_mul_right (2 ^ (n + 1)) h2
  rw [← Nat.pow_add] at h4
  omega
theorem DivInv.yes {A b j x Q : Nat} (h : DivInv A b (j + 1) x Q) (hx : b * 2 ^ j ≤ x) : DivInv A b j (x - b * 2 ^ j) (Q + 2 ^ j) := by
  obtain ⟨h1, h2, h3⟩ := h
  refine ⟨?_, ?_, ?_⟩
  · rw [Nat.add_mul, Nat.mul_comm (2 ^ j) b]; omega
  · have e : Q % 2 ^ j = 0 := by
      have := Nat.mod_mod_of_dvd Q (show 2 ^ j ∣ 2 ^ (j + 1) from ⟨2, by rw [Nat.pow_succ]⟩)
      rw [h2, Nat.zero_mod] at this; exact this.symm
    rw [Nat.add_mod, e, Nat.mod_self]; simp
  · rw [Nat.pow_succ, ← Nat.mul_assoc] at h3; omega
theorem DivInv.no {A b j x Q : Nat} (h : DivInv A b (j + 1) x Q) (hx : x < b * 2 ^ j) : DivInv A b j x Q := by
  obtain ⟨h1, h2, h3⟩ := h
  refine ⟨h1, ?_, hx⟩
  have := Nat.mod_mod_of_dvd Q (show 2 ^ j ∣ 2 ^ (j + 1) from ⟨2, by rw [Nat.pow_succ]⟩)
  rw [h2, Nat.zero_mod] at this; exact this.symm
theorem DivInv.done {A b x Q : Nat} (h : DivInv A b 0 x Q) : Q = A / b ∧ x = A % b := by
  obtain ⟨h1, _, h3⟩ := h
  rw [Nat.pow_zero, Nat.mul_one] at h3
  have e : A = x + b * Q := by rw [Nat.mul_comm b]; exact h1
  refine ⟨?_, ?_⟩
  · rw [e, Nat.add_mul_div_left _ _ (by omega), Nat.div_eq_of_lt h3, Nat.zero_add]
  · rw [e, Nat.add_mul_mod_self_left, Nat.mod_eq_of_lt h3]
theorem DivInv.low {A b j x Q n : Nat} (h : DivInv A b j x Q) (hA : A < b * 2 ^ (n + 1)) : Q < 2 ^ (n + 1) := by
  obtain ⟨h1, _, _⟩ := h
  rcases Nat.lt_or_ge Q (2 ^ (n + 1)) with h2 | h2
  · exact h2
  · have := Nat.mul_le_mul_right b h2
    rw [Nat.mul_comm (2 ^ (n + 1)) b] at this; omega
theorem pow_fit (n : Nat) : 2 ^ (n + 1) ≤ B ^ (n / 32 + 1) := by
  rw [pB_two]; exact Nat.pow_le_pow_right (by decide) (by omega)
/-- the divisor before the round at bit j - 1 -/
def dvr (b j : Nat) : Nat := b * 2 ^ j / 2
theorem dvr_succ (b j : Nat) : dvr b (j + 1) = b * 2 ^ j := by
  unfold dvr; rw [Nat.pow_succ, ← Nat.mul_assoc, Nat.mul_div_cancel _ (by decide)]
theorem dvr_half (b j : Nat) : dvr b (j + 1) / 2 = dvr b j := by rw [dvr_succ]; rfl

end Go.Proofs.Ytmljfaplohbjcaa

namespace Go.Proofs.Ytmljfaplohbjcaa
open Go.RowKit

set_option maxHeartbeats 1000000 in
theorem limb_any {N : Nat} (a : Option Addr) (n cap m : Nat) (z : Int) (i : Nat) (w : World) (h : Nt N w a n cap m) (hz : z = i) :
    Calls Try.prog 115 #[.slice a n cap, .int .i64 z] w fun e w' => e = .returned (.int .u64 (dig m i)) ∧ w' = w := by
  subst hz
  obtain ⟨⟨h0, _⟩, h1, h2, h3⟩ := h
  unfold maxLen at h1
  by_cases hi : i < n
  · obtain ⟨b, off, rfl, _, hc⟩ := h3 (by omega)
    have hcell := hc i hi
    clear hc h3 h2
    have hd := dig_lt' m i
    go_enter Try.func115, Try.ntmps115
    go_wp2
    go_ret
    exact ⟨rfl, rfl⟩
  · have HZ := Lib.hid (dig_high' m n i h2 (by omega))
    clear h2 h3
    go_enter Try.func115, Try.ntmps115
    go_wp2
    go_ret
    rw [HZ.out]
    exact ⟨rfl, rfl⟩

theorem Try.infoU32s : (Try.prog.info? 90).map (·.size) = some 1 := by kernel_rfl
theorem Nt.of_cells {N b n m : Nat} {w : World} (h : w.heap[b]? = some (.cells (limbsOf m n).toArray 90 (0, 0))) (hn : n ≤ maxLen) (hm : m < B ^ n) : Nt N w (some ⟨b, 0, none⟩) n n m :=
  Nt.of_row (f := fun i => .int .u32 (dig m i)) ⟨_, h, by simp [limbsOf], fun i hi => by simp [limbsOf, hi]⟩ hn hm (fun _ _ => rfl)
theorem limbsOf_one {m n : Nat} : ∀ u ∈ limbsOf m n, u.oneCell' = true := by
  intro u hu
  obtain ⟨i, _, rfl⟩ := List.mem_map.1 hu
  rfl
theorem Nt.limbs {N : Nat} {w : World} {ad : Addr} {n cap m k : Nat} (h : Nt N w (some ad) n cap m) (hk : k ≤ n) : ∀ j u, (limbsOf m k)[j]? = some u → w.cell? (ad.add j) = some u := by
  intro j u hu
  have hj : j < k := by
    have := (List.getElem?_eq_some_iff.1 hu).1
    rwa [limbsOf_len] at this
  obtain ⟨b, off, e, _, hc⟩ := h.2.2.2 (by omega)
  rw [limbsOf_get hj] at hu
  simp only [Option.some.injEq] at e hu
  subst e hu
  have hadd : (⟨b, off, none⟩ : Addr).add j = ⟨b, off + j, none⟩ := by unfold Addr.add; split <;> simp_all
  rw [hadd]; exact hc j (by omega)
/-- r lies in a block from b on -/
def Fr (B : Nat) (r : Option Addr) : Prop := ∀ b o s, r = some ⟨b, o, s⟩ → B ≤ b
theorem Fr.mono {B B' : Nat} {r : Option Addr} (h : Fr B r) (hb : B' ≤ B) : Fr B' r := fun b o s e => Nat.le_trans hb (h b o s e)
theorem splice_all {α : Type} (L cs : List α) (h : cs.length = L.length) : splice L 0 cs = cs := by simp [splice, h]

set_option maxRecDepth 100000 in
set_option maxHeartbeats 1000000 in
theorem xnorm_fr {N : Nat} (a : Option Addr) (n cap m : Nat) (w : World) (h : Nt N w a n cap m) (hl : n ≤ 4398046511104) :
    Calls Try.prog 97 #[.slice a n cap] w fun e w' => ∃ r cr, e = .returned (.slice r (nlen m) cr) ∧ Nt N w' r (nlen m) cr m ∧ Below w.heap.size w w' ∧ Fr w.heap.size r := by
  have l1 := h.len
  have HT := Lib.hid h
  obtain ⟨⟨h0, _⟩, h1, h2, h3⟩ := h
  have hA := Lib.hid h3
  have HM := Lib.hid h2
  clear h2 h3
  unfold maxLen at h1
  have hmk := run_make_row' (P := Try.prog) 34 90 (.int .u32 0) 4 Try.underNat Try.infoU32 rfl .i64 .i64 (nlen m) (by omega) (by omega)
  have HC0 := Lib.hid (show (w.alloc (.cells (madeCells #[.int .u32 0] (nlen m)) 90)).heap[w.heap.size]? = some (.cells (madeCells #[.int .u32 0] (nlen m)).toList.toArray 90 (0, 0)) from heap_alloc_new w _)
  have HC1 := Lib.hid (show (limbsOf m (nlen m)).length = Nat.min n (nlen m) by rw [limbsOf_len]; exact (Nat.min_eq_right l1).symm)
  have HC3 := Lib.hid (show 0 + (limbsOf m (nlen m)).length ≤ (madeCells #[Value.int .u32 0] (nlen m)).toList.length by simp [limbsOf_len, size_madeCells])
  have HC2 := Lib.hid (show 0 < (limbsOf m (nlen m)).length → ∃ ad, a = some ad ∧ ∀ j v, (limbsOf m (nlen m))[j]? = some v → (w.alloc (.cells (madeCells #[.int .u32 0] (nlen m)) 90)).cell? (ad.add j) = some v from by
    intro hp
    rw [limbsOf_len] at hp
    obtain ⟨b, off, e, _, _⟩ := hA.out (by omega)
    exact ⟨_, e, (show Nt N _ (some ⟨b, off, none⟩) n cap m by rw [← e]; exact HT.out.below ((Below.refl _ _).alloc (Nat.le_refl _) _)).limbs l1⟩)
  go_enter Try.func97, Try.ntmps97
  go_wp2_with fail
  go_loop [3] (fun s => ∃ k, k ≤ n ∧ s = .int .i64 k ∧ Hid (m < B ^ k)) (fun s => (intOf s).toNat)
  case atStart => exact ⟨n, Nat.le_refl _, rfl, HM⟩
  case round =>
    obtain ⟨k, hk, rfl, hk2⟩ := hrel
    by_cases hcont : 0 < k ∧ dig m (k - 1) = 0
    · obtain ⟨hz, hd0⟩ := hcont
      obtain ⟨b, off, rfl, _, hc⟩ := hA.out (by omega)
      have hcell := hc (k - 1) (by omega)
      have hz1 : ((k : Int) - 1).toNat = k - 1 := by omega
      clear hc
      rw [hd0] at hcell
      have HD := Lib.hid hd0
      clear hd0
      go_wp2_with fail
      go_round
      case rel => exact ⟨k - 1, by omega, i64_congr (by omega), trim_zero hk2.out hz HD.out⟩
      case measure => simp [intOf]; omega
    · obtain rfl : k = nlen m := trim_done hk2.out (by rcases Nat.eq_zero_or_pos k with h | h; exact .inl h; exact .inr (fun e => hcont ⟨h, e⟩))
      rcases Nat.eq_zero_or_pos (nlen m) with hz | hz
      · have hz0 : ¬ (0 : Int) < (nlen m : Int) := by omega
        clear hz hcont
        go_wp2_with (refine wpList_copy_splice (o := ⟨some 23, _, _, _, _, _⟩) rfl (.tmp 21) (.tmp 22) 34 34 rfl 90 Try.underNat Try.infoU32s _ _ _ _ _ _ rfl rfl w.heap.size 0 (madeCells #[.int .u32 0] (nlen m)).toList 90 HC0.out (limbsOf m (nlen m)) HC1.out (fun hp => ⟨rfl, HC2.out hp⟩) HC3.out limbsOf_one w.heap.size w ((Below.refl _ _).alloc (Nat.le_refl _) _) (Nat.le_refl _) ?_)
        intro w1 hh hb
        rw [splice_all _ _ (by simp [limbsOf_len, size_madeCells])] at hh
        have HN := Lib.hid (Nt.of_cells (N := N) hh.out (by unfold maxLen; omega) (lt_pow_nlen m))
        have HB := Lib.hid hb
        clear hh hb
        go_wp2_with fail
        go_ret
        exact ⟨_, _, rfl, HN.out, HB.out, fun b o s e => by cases e; exact Nat.le_refl _⟩
      · obtain ⟨b, off, rfl, _, hc⟩ := hA.out (by omega)
        have hcell := hc (nlen m - 1) (by omega)
        have hz1 : ((nlen m : Int) - 1).toNat = nlen m - 1 := by omega
        clear hc
        have hd := dig_lt' m (nlen m - 1)
        have hb : ((dig m (nlen m - 1) : Int) == 0) = false := by
          have : dig m (nlen m - 1) ≠ 0 := fun e => hcont ⟨hz, e⟩
          simp; omega
        clear hcont
        go_wp2_with (refine wpList_copy_splice (o := ⟨some 23, _, _, _, _, _⟩) rfl (.tmp 21) (.tmp 22) 34 34 rfl 90 Try.underNat Try.infoU32s _ _ _ _ _ _ rfl rfl w.heap.size 0 (madeCells #[.int .u32 0] (nlen m)).toList 90 HC0.out (limbsOf m (nlen m)) HC1.out (fun hp => ⟨rfl, HC2.out hp⟩) HC3.out limbsOf_one w.heap.size w ((Below.refl _ _).alloc (Nat.le_refl _) _) (Nat.le_refl _) ?_)
        intro w1 hh hb
        rw [splice_all _ _ (by simp [limbsOf_len, size_madeCells])] at hh
        have HN := Lib.hid (Nt.of_cells (N := N) hh.out (by unfold maxLen; omega) (lt_pow_nlen m))
        have HB := Lib.hid hb
        clear hh hb
        go_wp2_with fail
        go_ret
        exact ⟨_, _, rfl, HN.out, HB.out, fun b o s e => by cases e; exact Nat.le_refl _⟩

theorem xnorm_any {N : Nat} (a : Option Addr) (n cap m : Nat) (w : World) (h : Nt N w a n cap m) (hl : n ≤ 4398046511104) :
    Calls Try.prog 97 #[.slice a n cap] w fun e w' => ∃ r cr, e = .returned (.slice r (nlen m) cr) ∧ Nt N w' r (nlen m) cr m ∧ Below w.heap.size w w' :=
  (xnorm_fr a n cap m w h hl).mono fun _ _ ⟨r, cr, e, hn, hb, _⟩ => ⟨r, cr, e, hn, hb⟩

end Go.Proofs.Ytmljfaplohbjcaa

namespace Go.Proofs.Ytmljfaplohbjcaa
open Go.RowKit

set_option maxHeartbeats 1000000 in
theorem xof_any {N : Nat} (n : Nat) (w : World) (h : n < 18446744073709551616) :
    Calls Try.prog 98 #[.int .u64 n] w fun e w' => ∃ r cr, e = .returned (.slice r (nlen n) cr) ∧ Nt N w' r (nlen n) cr n ∧ Below w.heap.size w w' := by
  have hr := World.rowIs_alloc w #[Value.int IntKind.u32 ((n : Int) % 4294967296), Value.int IntKind.u32 ((n : Int) / 4294967296)] 90 (fun i => .int .u32 (dig n i)) (fun i hi => by
    have hi2 : i < 2 := hi
    have e0 := dig0 n
    have e1 := dig1 n
    rcases (show i = 0 ∨ i = 1 by omega) with rfl | rfl
    · simp [e0]
    · simp [e1]; omega)
  have hnt := Nt.of_row (N := N) hr (show 2 ≤ maxLen by unfold maxLen; decide) (two_limbs n h) (fun i hi => rfl)
  have H := Lib.hid hnt
  clear hr hnt
  go_enter Try.func98, Try.ntmps98
  go_wp2_with fail
  refine (xnorm_any _ _ _ _ _ H.out (by show 2 ≤ 4398046511104; omega)).mono ?_
  rintro e w' ⟨r, cr, rfl, hn, hb⟩
  have HN := Lib.hid hn
  have HB := Lib.hid hb
  clear hn hb
  go_wp2_with fail
  go_ret
  exact ⟨_, _, rfl, HN.out, ((Below.refl _ _).alloc (Nat.le_refl _) _).trans (HB.out.mono (by simp))⟩

set_option maxHeartbeats 1000000 in
theorem xcmp_any {N : Nat} (a b : Option Addr) (na ca ma nb cb mb : Nat) (w : World) (ha : Nt N w a na ca ma) (hb : Nt N w b nb cb mb) :
    Calls Try.prog 101 #[.slice a na ca, .slice b nb cb] w fun e w' => e = .returned (.int .i64 (cmpN ma mb)) ∧ w = w' := by
  have l3 : na ≤ 9223372036854775807 := by have := ha.1.1; have := ha.2.1; unfold maxLen at this; omega
  have l4 : nb ≤ 9223372036854775807 := by have := hb.1.1; have := hb.2.1; unfold maxLen at this; omega
  have HA := Lib.hid ha
  have HB := Lib.hid hb
  rcases Nat.lt_or_ge na nb with hab | hab
  · have HLA := Lib.hid (Nat.lt_of_lt_of_le ha.2.2.1 (pB_le (show na ≤ nb by omega)))
    have HLB := Lib.hid (Nat.lt_of_lt_of_le hb.2.2.1 (pB_le (show nb ≤ nb by omega)))
    clear ha hb
    go_enter Try.func101, Try.ntmps101
    go_wp2_with fail
    go_loop [5] (fun i => ∃ k : Nat, k ≤ nb ∧ i = .int .i64 ((k : Int) - 1) ∧ Hid (∀ j, k ≤ j → j < nb → dig ma j = dig mb j)) (fun i => (intOf i + 1).toNat)
    case atStart => exact ⟨nb, Nat.le_refl _, rfl, (fun j h1 h2 => by omega)⟩
    case round =>
      obtain ⟨k, hk, rfl, hsame⟩ := hrel
      by_cases hk0 : 0 < k
      · have d1 := dig_lt' ma (k - 1)
        have d2 := dig_lt' mb (k - 1)
        have hh1 : (0 : Int) ≤ (k : Int) - 1 := by omega
        rcases Nat.lt_trichotomy (dig ma (k - 1)) (dig mb (k - 1)) with hd | hd | hd
        · have HF := Lib.hid (cmpN_lt (lt_of_high HLA.out HLB.out (by omega : k - 1 < nb) (fun i h1 h2 => hsame.out i (by omega) h2) hd))
          go_wp2_with fail
          refine (limb_any (N := N) _ _ _ ma _ (k - 1) _ HA.out (by omega)).mono ?_
          rintro e w' ⟨rfl, rfl⟩
          go_wp2_with fail
          refine (limb_any (N := N) _ _ _ mb _ (k - 1) _ HB.out (by omega)).mono ?_
          rintro e w' ⟨rfl, rfl⟩
          go_wp2_with fail
          go_ret
          rw [HF.out]
          exact ⟨rfl, rfl⟩
        · have hn1 : ¬ dig ma (k - 1) < dig mb (k - 1) := by omega
          have hn2 : ¬ dig mb (k - 1) < dig ma (k - 1) := by omega
          have HD := Lib.hid hd
          clear hd
          go_wp2_with fail
          refine (limb_any (N := N) _ _ _ ma _ (k - 1) _ HA.out (by omega)).mono ?_
          rintro e w' ⟨rfl, rfl⟩
          go_wp2_with fail
          refine (limb_any (N := N) _ _ _ mb _ (k - 1) _ HB.out (by omega)).mono ?_
          rintro e w' ⟨rfl, rfl⟩
          go_wp2_with fail
          go_round
          case rel => exact ⟨k - 1, by omega, i64_congr (by omega), (fun j h1 h2 => by by_cases e : j = k - 1; (· subst e; exact HD.out); (· exact hsame.out j (by omega) h2))⟩
          case measure => simp [intOf]; omega
        · have hn1 : ¬ dig ma (k - 1) < dig mb (k - 1) := by omega
          have HF := Lib.hid (cmpN_gt (lt_of_high HLB.out HLA.out (by omega : k - 1 < nb) (fun i h1 h2 => (hsame.out i (by omega) h2).symm) hd))
          go_wp2_with fail
          refine (limb_any (N := N) _ _ _ ma _ (k - 1) _ HA.out (by omega)).mono ?_
          rintro e w' ⟨rfl, rfl⟩
          go_wp2_with fail
          refine (limb_any (N := N) _ _ _ mb _ (k - 1) _ HB.out (by omega)).mono ?_
          rintro e w' ⟨rfl, rfl⟩
          go_wp2_with fail
          go_ret
          rw [HF.out]
          exact ⟨rfl, rfl⟩
      · obtain rfl : k = 0 := by omega
        have HF := Lib.hid (cmpN_eq (ext_digs ma mb nb HLA.out HLB.out (fun i hi => hsame.out i (by omega) hi)))
        go_wp2_with fail
        go_ret
        rw [HF.out]
        exact ⟨rfl, rfl⟩
  · have HLA := Lib.hid (Nat.lt_of_lt_of_le ha.2.2.1 (pB_le (show na ≤ na by omega)))
    have HLB := Lib.hid (Nat.lt_of_lt_of_le hb.2.2.1 (pB_le (show nb ≤ na by omega)))
    clear ha hb
    go_enter Try.func101, Try.ntmps101
    go_wp2_with fail
    go_loop [5] (fun i => ∃ k : Nat, k ≤ na ∧ i = .int .i64 ((k : Int) - 1) ∧ Hid (∀ j, k ≤ j → j < na → dig ma j = dig mb j)) (fun i => (intOf i + 1).toNat)
    case atStart => exact ⟨na, Nat.le_refl _, rfl, (fun j h1 h2 => by omega)⟩
    case round =>
      obtain ⟨k, hk, rfl, hsame⟩ := hrel
      by_cases hk0 : 0 < k
      · have d1 := dig_lt' ma (k - 1)
        have d2 := dig_lt' mb (k - 1)
        have hh1 : (0 : Int) ≤ (k : Int) - 1 := by omega
        rcases Nat.lt_trichotomy (dig ma (k - 1)) (dig mb (k - 1)) with hd | hd | hd
        · have HF := Lib.hid (cmpN_lt (lt_of_high HLA.out HLB.out (by omega : k - 1 < na) (fun i h1 h2 => hsame.out i (by omega) h2) hd))
          go_wp2_with fail
          refine (limb_any (N := N) _ _ _ ma _ (k - 1) _ HA.out (by omega)).mono ?_
          rintro e w' ⟨rfl, rfl⟩
          go_wp2_with fail
          refine (limb_any (N := N) _ _ _ mb _ (k - 1) _ HB.out (by omega)).mono ?_
          rintro e w' ⟨rfl, rfl⟩
          go_wp2_with fail
          go_ret
          rw [HF.out]
          exact ⟨rfl, rfl⟩
        · have hn1 : ¬ dig ma (k - 1) < dig mb (k - 1) := by omega
          have hn2 : ¬ dig mb (k - 1) < dig ma (k - 1) := by omega
          have HD := Lib.hid hd
          clear hd
          go_wp2_with fail
          refine (limb_any (N := N) _ _ _ ma _ (k - 1) _ HA.out (by omega)).mono ?_
          rintro e w' ⟨rfl, rfl⟩
          go_wp2_with fail
          refine (limb_any (N := N) _ _ _ mb _ (k - 1) _ HB.out (by omega)).mono ?_
          rintro e w' ⟨rfl, rfl⟩
          go_wp2_with fail
          go_round
          case rel => exact ⟨k - 1, by omega, i64_congr (by omega), (fun j h1 h2 => by by_cases e : j = k - 1; (· subst e; exact HD.out); (· exact hsame.out j (by omega) h2))⟩
          case measure => simp [intOf]; omega
        · have hn1 : ¬ dig ma (k - 1) < dig mb (k - 1) := by omega
          have HF := Lib.hid (cmpN_gt (lt_of_high HLB.out HLA.out (by omega : k - 1 < na) (fun i h1 h2 => (hsame.out i (by omega) h2).symm) hd))
          go_wp2_with fail
          refine (limb_any (N := N) _ _ _ ma _ (k - 1) _ HA.out (by omega)).mono ?_
          rintro e w' ⟨rfl, rfl⟩
          go_wp2_with fail
          refine (limb_any (N := N) _ _ _ mb _ (k - 1) _ HB.out (by omega)).mono ?_
          rintro e w' ⟨rfl, rfl⟩
          go_wp2_with fail
          go_ret
          rw [HF.out]
          exact ⟨rfl, rfl⟩
      · obtain rfl : k = 0 := by omega
        have HF := Lib.hid (cmpN_eq (ext_digs ma mb na HLA.out HLB.out (fun i hi => hsame.out i (by omega) hi)))
        go_wp2_with fail
        go_ret
        rw [HF.out]
        exact ⟨rfl, rfl⟩

theorem car_intx (a b k : Nat) : ((dig a k : Int) + (dig b k : Int) + (car a b k : Int)) / 4294967296 = (car a b (k + 1) : Int) := by
  have h := car_succ a b k; simp only [B] at h; omega
theorem dig_intx (a b k : Nat) : ((dig a k : Int) + (dig b k : Int) + (car a b k : Int)) % 4294967296 = (dig (a + b) k : Int) := by
  have h := dig_add a b k; simp only [B] at h; omega

theorem subx_dig (a b k : Nat) (hle : b ≤ a) (h : dig a k < dig b k + bor a b k) : (dig a k : Int) + 4294967296 - ((dig b k : Int) + (bor a b k : Int)) = (dig (a - b) k : Int) := by
  have h4 := dig_lt' (a - b) k
  have h5 := dig_sub a b k hle
  rw [if_pos h] at h5
  simp only [B] at h5
  omega
theorem subx_dig0 (a b k : Nat) (hle : b ≤ a) (h : ¬ dig a k < dig b k + bor a b k) : (dig a k : Int) - ((dig b k : Int) + (bor a b k : Int)) = (dig (a - b) k : Int) := by
  have h4 := dig_lt' (a - b) k
  have h5 := dig_sub a b k hle
  rw [if_neg h] at h5
  omega

set_option maxHeartbeats 1000000 in
theorem xsub_fr {N : Nat} (a b : Option Addr) (na ca ma nb cb mb : Nat) (w : World) (_hN : N ≤ w.heap.size) (ha : Nt N w a na ca ma) (hb : Nt N w b nb cb mb) (la : na ≤ 1099511627776) (hle : mb ≤ ma) :
    Calls Try.prog 112 #[.slice a na ca, .slice b nb cb] w fun e w' => ∃ r cr, e = .returned (.tuple #[.slice r (nlen (ma - mb)) cr, .bool true]) ∧ Nt N w' r (nlen (ma - mb)) cr (ma - mb) ∧ Below w.heap.size w w' ∧ Fr w.heap.size r := by
  have HA := Lib.hid ha
  have HB := Lib.hid hb
  have HLE := Lib.hid hle
  have HL := Lib.hid (show ma - mb < B ^ na from Nat.lt_of_le_of_lt (Nat.sub_le ma mb) ha.2.2.1)
  have hcmp : ¬ cmpN ma mb < 0 := by unfold cmpN; rw [if_neg (by omega)]; split <;> omega
  have hcmp2 : (decide (cmpN ma mb < 0)) = false := by simpa using hcmp
  clear ha hb hle
  have hmk := run_make_row' (P := Try.prog) 34 90 (.int .u32 0) 4 Try.underNat Try.infoU32 rfl .i64 .i64 na (by omega) (by omega)
  go_enter Try.func112, Try.ntmps112
  go_wp2_with fail
  refine (xcmp_any _ _ _ _ _ _ _ _ _ HA.out HB.out).mono ?_
  rintro e w' ⟨rfl, rfl⟩
  go_wp2_with fail
  go_loopw [7, 8, 9, 10] (fun c i _ _ wr => ∃ k : Nat, k ≤ na ∧ i = .int .i64 k ∧ c = .int .u64 (bor ma mb k) ∧ wr.rowIs w.heap.size 90 na (sumRow (ma - mb) k) ∧ Below w.heap.size w wr) (fun _ i _ _ _ => na - (intOf i).toNat)
  case atStart => exact ⟨0, Nat.zero_le _, rfl, by rw [bor_zero]; rfl, (World.rowIs_made _ _ _ _).congr (fun i hi => by simp [sumRow]), (Below.refl _ _).alloc (Nat.le_refl _) _⟩
  case round =>
    clear hmk
    obtain ⟨k, hk, rfl, rfl, hrow, hbel⟩ := hrel
    have d3 := bor_le ma mb k
    by_cases hkn : k < na
    · have hput := hrow.cell (i := k) (by omega)
      have hfz := hrow.frozen k
      have d1 := dig_lt' ma k
      have d2 := dig_lt' mb k
      have HR := Lib.hid hrow
      have HBel := Lib.hid hbel
      have HBS := Lib.hid (bor_succ ma mb k)
      clear hrow hbel
      by_cases hlt : dig ma k < dig mb k + bor ma mb k
      · have hlt2 : (dig ma k : Int) < (dig mb k : Int) + (bor ma mb k : Int) := by omega
        go_wp2_with fail
        refine (limb_any (N := N) _ _ _ ma _ k _ (HA.out.below HBel.out) rfl).mono ?_
        rintro e w' ⟨rfl, rfl⟩
        go_wp2_with fail
        refine (limb_any (N := N) _ _ _ mb _ k _ (HB.out.below HBel.out) rfl).mono ?_
        rintro e w' ⟨rfl, rfl⟩
        go_wp2_with fail
        go_roundw
        case rel => exact ⟨k + 1, by omega, by go_num, u64_congr (by rw [HBS.out, if_pos hlt]; rfl), sumRow_step HR.out (subx_dig ma mb k HLE.out hlt), HBel.out.setCell (Nat.le_refl _) _⟩
        case measure => simp [intOf]; omega
      · have hlt2 : ¬ (dig ma k : Int) < (dig mb k : Int) + (bor ma mb k : Int) := by omega
        go_wp2_with fail
        refine (limb_any (N := N) _ _ _ ma _ k _ (HA.out.below HBel.out) rfl).mono ?_
        rintro e w' ⟨rfl, rfl⟩
        go_wp2_with fail
        refine (limb_any (N := N) _ _ _ mb _ k _ (HB.out.below HBel.out) rfl).mono ?_
        rintro e w' ⟨rfl, rfl⟩
        go_wp2_with fail
        go_roundw
        case rel => exact ⟨k + 1, by omega, by go_num, u64_congr (by rw [HBS.out, if_neg hlt]; rfl), sumRow_step HR.out (subx_dig0 ma mb k HLE.out hlt), HBel.out.setCell (Nat.le_refl _) _⟩
        case measure => simp [intOf]; omega
    · obtain rfl : k = na := by omega
      have HBel := Lib.hid hbel
      have hnt := Nt.of_row (N := N) hrow (by unfold maxLen; omega) HL.out (fun i hi => by simp [sumRow, hi])
      have HN := Lib.hid hnt
      clear hrow hbel hnt
      go_wp2_with fail
      refine (xnorm_fr (N := N) _ _ _ _ _ HN.out (by omega)).mono ?_
      rintro e w' ⟨r, cr, rfl, hn, hb, hfr⟩
      have HN2 := Lib.hid hn
      have HB2 := Lib.hid hb
      have HF2 := Lib.hid (hfr.mono HBel.out.size)
      clear hn hb hfr
      go_wp2_with fail
      go_ret2
      exact ⟨_, _, rfl, HN2.out, HBel.out.trans (HB2.out.mono HBel.out.size), HF2.out⟩

theorem xsub_any {N : Nat} (a b : Option Addr) (na ca ma nb cb mb : Nat) (w : World) (hN : N ≤ w.heap.size) (ha : Nt N w a na ca ma) (hb : Nt N w b nb cb mb) (la : na ≤ 1099511627776) (hle : mb ≤ ma) :
    Calls Try.prog 112 #[.slice a na ca, .slice b nb cb] w fun e w' => ∃ r cr, e = .returned (.tuple #[.slice r (nlen (ma - mb)) cr, .bool true]) ∧ Nt N w' r (nlen (ma - mb)) cr (ma - mb) ∧ Below w.heap.size w w' :=
  (xsub_fr a b na ca ma nb cb mb w hN ha hb la hle).mono fun _ _ ⟨r, cr, e, hn, hb, _⟩ => ⟨r, cr, e, hn, hb⟩

set_option maxHeartbeats 1000000 in
theorem xsub_no {N : Nat} (a b : Option Addr) (na ca ma nb cb mb : Nat) (w : World) (ha : Nt N w a na ca ma) (hb : Nt N w b nb cb mb) (hlt : ma < mb) :
    Calls Try.prog 112 #[.slice a na ca, .slice b nb cb] w fun e w' => e = .returned (.tuple #[.slice none 0 0, .bool false]) ∧ w = w' := by
  have HA := Lib.hid ha
  have HB := Lib.hid hb
  have hcmp : cmpN ma mb < 0 := by rw [cmpN_lt hlt]; decide
  have hcmp2 : (decide (cmpN ma mb < 0)) = true := by simpa using hcmp
  clear ha hb hlt
  go_enter Try.func112, Try.ntmps112
  go_wp2_with fail
  refine (xcmp_any _ _ _ _ _ _ _ _ _ HA.out HB.out).mono ?_
  rintro e w' ⟨rfl, rfl⟩
  go_wp2_with fail
  go_ret2
  exact ⟨rfl, rfl⟩

end Go.Proofs.Ytmljfaplohbjcaa

namespace Go.Proofs.Ytmljfaplohbjcaa
open Go.RowKit

theorem mca_intx (a b i j : Nat) : ((dig (prj a b i 0) (i + j) : Int) + (dig a i : Int) * (dig b j : Int) + (mca a b i j : Int)) / 4294967296 = (mca a b i (j + 1) : Int) := by
  rw [← mca_int]; congr 1; omega
theorem mdg_intx (a b i j : Nat) : ((dig (prj a b i 0) (i + j) : Int) + (dig a i : Int) * (dig b j : Int) + (mca a b i j : Int)) % 4294967296 = (mst a b i j % B : Nat) := by
  rw [← mdg_int]; congr 1; omega
theorem wrap_u64_id (x : Int) (h0 : 0 ≤ x) (h1 : x < 18446744073709551616) : IntKind.u64.wrap x = x := by rw [wrap_u64]; omega

set_option maxHeartbeats 1000000 in
theorem xmul_any {N : Nat} (a b : Option Addr) (na ca ma nb cb mb : Nat) (w : World) (_hN : N ≤ w.heap.size) (ha : Nt N w a na ca ma) (hb : Nt N w b nb cb mb) (la : na ≤ 1099511627776) (lb : nb ≤ 1099511627776) :
    Calls Try.prog 75 #[.slice a na ca, .slice b nb cb] w fun e w' => ∃ r cr, e = .returned (.slice r (nlen (ma * mb)) cr) ∧ Nt N w' r (nlen (ma * mb)) cr (ma * mb) ∧ Below w.heap.size w w' := by
  have HTA := Lib.hid ha
  have HTB := Lib.hid hb
  have HLB := Lib.hid hb.2.2.1
  have HLA := Lib.hid ha.2.2.1
  clear ha hb
  have hmk := run_make_row' (P := Try.prog) 34 90 (.int .u32 0) 4 Try.underNat Try.infoU32 rfl .i64 .i64 (na + nb) (by omega) (by omega)
  have ec : ((na + nb : Nat) : Int) = (na : Int) + (nb : Int) := by omega
  rw [ec] at hmk
  clear ec
  go_enter Try.func75, Try.ntmps75
  go_wp2_with fail
  go_loopw [6] (fun i wr => ∃ k : Nat, k ≤ na ∧ i = .int .i64 k ∧ wr.rowIs w.heap.size 90 (na + nb) (mulRow ma mb k 0) ∧ Below w.heap.size w wr) (fun i _ => na - (intOf i).toNat)
  case atStart => exact ⟨0, Nat.zero_le _, rfl, (World.rowIs_made _ _ _ _).congr (fun i hi => by simp [mulRow, prj, Nat.mod_one, dig_zero]), (Below.refl _ _).alloc (Nat.le_refl _) _⟩
  case round =>
    clear hmk
    obtain ⟨k, hk, rfl, hrow, hbel⟩ := hrel
    by_cases hkn : k < na
    · obtain ⟨b1, o1, rfl, _, hc1⟩ := HTA.out.2.2.2 (by omega)
      have HC1 := Lib.hid (hc1 k hkn)
      clear hc1
      have d1 := dig_lt' ma k
      have HR := Lib.hid hrow
      have HBel := Lib.hid hbel
      clear hrow hbel
      go_wp2_with fail
      obtain ⟨wo, rfl⟩ : ∃ wo : World, wo = wr := ⟨_, rfl⟩
      go_loopw [7, 8, 9] (fun c j _ wq => ∃ l : Nat, l ≤ nb ∧ j = .int .i64 l ∧ c = .int .u64 (mca ma mb k l) ∧ wq.rowIs w.heap.size 90 (na + nb) (mulRow ma mb k l) ∧ Below w.heap.size w wq) (fun _ j _ _ => nb - (intOf j).toNat)
      case atStart => exact ⟨0, Nat.zero_le _, rfl, by rw [mca_zero]; rfl, HR.out, HBel.out⟩
      case round =>
        obtain ⟨l, hl, rfl, rfl, hrow, hbel⟩ := hrel
        have d5 := mca_lt ma mb k l
        rw [B_eq] at d5
        by_cases hln : l < nb
        · obtain ⟨b2, o2, rfl, _, hc2⟩ := HTB.out.2.2.2 (by omega)
          have hcell2 := (hbel.cell (p := ⟨b2, o2 + l, none⟩) (World.block_lt_of_cell? w _ (hc2 l hln))).trans (hc2 l hln)
          have hcell1 := (hbel.cell (p := ⟨b1, o1 + k, none⟩) (World.block_lt_of_cell? w _ HC1.out)).trans HC1.out
          clear hc2
          have d2 := dig_lt' mb l
          have d3 := dig_lt' (prj ma mb k 0) (k + l)
          have d4 := dd_le _ _ d1 d2
          have hput : wr.cell? ⟨w.heap.size, k + l, none⟩ = some (.int .u32 (dig (prj ma mb k 0) (k + l))) := by
            have := hrow.cell (i := k + l) (by omega)
            simpa [mulRow] using this
          have hfz := hrow.frozen (k + l)
          have HR2 := Lib.hid hrow
          have HBel2 := Lib.hid hbel
          clear hrow hbel
          have w2 : ((k : Int) + (l : Int)).toNat = k + l := by omega
          have w3 : (0 : Int) ≤ (k : Int) + (l : Int) := by omega
          have w1 : IntKind.i64.wrap ((k : Int) + (l : Int)) = (k : Int) + (l : Int) := by rw [IntKind.wrap_i64]; omega
          have w9 : (dig ma k : Int) * (dig mb l : Int) ≤ 18446744065119617025 := by have h := Int.ofNat_le.2 d4; rw [Int.natCast_mul] at h; exact h
          have w8 : (0 : Int) ≤ (dig ma k : Int) * (dig mb l : Int) := Int.mul_nonneg (by omega) (by omega)
          have w4 : IntKind.u64.wrap ((dig ma k : Int) * (dig mb l : Int)) = (dig ma k : Int) * (dig mb l : Int) := wrap_u64_id _ w8 (by omega)
          have w5 : IntKind.u64.wrap ((dig (prj ma mb k 0) (k + l) : Int) + (dig ma k : Int) * (dig mb l : Int)) = (dig (prj ma mb k 0) (k + l) : Int) + (dig ma k : Int) * (dig mb l : Int) := wrap_u64_id _ (by omega) (by omega)
          have w6 : IntKind.u64.wrap ((dig (prj ma mb k 0) (k + l) : Int) + (dig ma k : Int) * (dig mb l : Int) + (mca ma mb k l : Int)) = (dig (prj ma mb k 0) (k + l) : Int) + (dig ma k : Int) * (dig mb l : Int) + (mca ma mb k l : Int) := wrap_u64_id _ (by omega) (by omega)
          go_wp2_with fail
          go_quiet (fail)
          go_wp2_with fail
          go_roundw
          case rel => exact ⟨l + 1, by omega, by go_num, u64_congr (mca_intx ma mb k l), mulRow_step HR2.out (mdg_intx ma mb k l), (below_drewN HBel2.out _).setCell (Nat.le_refl _) _⟩
          case measure => simp [intOf]; omega
        · obtain rfl : l = nb := by omega
          have hput : ∃ v, wr.cell? ⟨w.heap.size, k + l, none⟩ = some v := ⟨_, hrow.cell (i := k + l) (by omega)⟩
          obtain ⟨v0, hput⟩ := hput
          have hfz := hrow.frozen (k + l)
          have HR2 := Lib.hid hrow
          have HBel2 := Lib.hid hbel
          clear hrow hbel
          go_wp2_with fail
          go_roundw
          case rel => exact ⟨k + 1, by omega, by go_num, mulRow_next HR2.out HLB.out rfl, HBel2.out.setCell (Nat.le_refl _) _⟩
          case measure => simp [intOf]; omega
    · obtain rfl : k = na := by omega
      have HL := Lib.hid (show ma * mb < B ^ (k + nb) by rw [Nat.pow_add]; exact Nat.mul_lt_mul_of_lt_of_le HLA.out (Nat.le_of_lt HLB.out) (pB _))
      have HM := Lib.hid (Nat.mod_eq_of_lt HLA.out)
      have HR := Lib.hid hrow
      have HBel := Lib.hid hbel
      clear hrow hbel
      go_wp2_with fail
      have hnt := Nt.of_row (N := N) HR.out (by unfold maxLen; omega) HL.out (fun i hi => by simp [mulRow, prj_zero, HM.out])
      have HN := Lib.hid hnt
      clear hnt
      refine (xnorm_any (N := N) _ _ _ _ _ HN.out (by omega)).mono ?_
      rintro e w' ⟨r, cr, rfl, hn, hb⟩
      have HN2 := Lib.hid hn
      have HB2 := Lib.hid hb
      clear hn hb
      go_wp2_with fail
      go_ret
      exact ⟨_, _, rfl, HN2.out, HBel.out.trans (HB2.out.mono HBel.out.size)⟩

set_option maxHeartbeats 1000000 in
theorem short_any {N : Nat} (a : Option Addr) (n cap m d : Nat) (w : World) (h : Nt N w a n cap m) (hl : n ≤ 1099511627776) (hd : 0 < d) (hdB : d < 4294967296) :
    Calls Try.prog 110 #[.slice a n cap, .int .u64 d] w fun e w' => ∃ r cr, e = .returned (.tuple #[.slice r (nlen (m / d)) cr, .int .u64 (m % d : Nat)]) ∧ Nt N w' r (nlen (m / d)) cr (m / d) ∧ Below w.heap.size w w' := by
  have H := Lib.hid h
  clear h
  have hmk := run_make_row' (P := Try.prog) 34 90 (.int .u32 0) 4 Try.underNat Try.infoU32 rfl .i64 .i64 n (by omega) (by omega)
  go_enter Try.func110, Try.ntmps110
  go_wp2_with fail
  go_loopw [7, 8] (fun c i wr => ∃ k : Nat, k ≤ n ∧ i = .int .i64 ((k : Int) - 1) ∧ c = .int .u64 (rst m d k) ∧ wr.rowIs w.heap.size 90 n (divRow (m / d) k) ∧ Below w.heap.size w wr) (fun _ i _ => (intOf i + 1).toNat)
  case atStart => exact ⟨n, Nat.le_refl _, rfl, by rw [rst_top m d n H.out.2.2.1 hd]; rfl, (World.rowIs_made _ _ _ _).congr (fun i hi => by simp only [divRow]; rw [if_neg (by omega)]; rfl), (Below.refl _ _).alloc (Nat.le_refl _) _⟩
  case round =>
    obtain ⟨k, hk, rfl, rfl, hrow, hbel⟩ := hrel
    have d3 := rst_lt m d k hd
    by_cases hk0 : 0 < k
    · obtain ⟨b1, o1, rfl, _, hc1⟩ := H.out.2.2.2 (by omega)
      have hcell1 := (hbel.cell (p := ⟨b1, o1 + (k - 1), none⟩) (World.block_lt_of_cell? w _ (hc1 (k - 1) (by omega)))).trans (hc1 (k - 1) (by omega))
      clear hc1
      have hput := hrow.cell (i := k - 1) (by omega)
      have hfz := hrow.frozen (k - 1)
      have hz1 : ((k : Int) - 1).toNat = k - 1 := by omega
      have hh1 : (0 : Int) ≤ (k : Int) - 1 := by omega
      have d1 := dig_lt' m (k - 1)
      have HR := Lib.hid hrow
      have HBel := Lib.hid hbel
      clear hrow hbel hmk
      go_wp2_with fail
      go_roundw
      case rel =>
        have e : k - 1 + 1 = k := by omega
        have q1 := quo_int m d (k - 1) hd hdB
        have q2 := rst_int m d (k - 1) hd
        rw [e] at q1 q2
        exact ⟨k - 1, by omega, i64_congr (by omega), u64_congr q2, divRow_step (by rw [e]; exact HR.out) q1, HBel.out.setCell (Nat.le_refl _) _⟩
      case measure => simp [intOf]; omega
    · obtain rfl : k = 0 := by omega
      have HL := Lib.hid (Nat.lt_of_le_of_lt (Nat.div_le_self m d) H.out.2.2.1)
      have HR := Lib.hid hrow
      have HBel := Lib.hid hbel
      have HZ := Lib.hid (rst_zero m d)
      clear hrow hbel hmk
      go_wp2_with fail
      have hnt := Nt.of_row (N := N) HR.out (by unfold maxLen; omega) HL.out (fun i hi => by simp [divRow])
      have HN := Lib.hid hnt
      clear hnt
      refine (xnorm_any (N := N) _ _ _ _ _ HN.out (by omega)).mono ?_
      rintro e w' ⟨r, cr, rfl, hn, hb⟩
      have HN2 := Lib.hid hn
      have HB2 := Lib.hid hb
      clear hn hb
      go_wp2_with fail
      go_ret2
      rw [HZ.out]
      exact ⟨_, _, rfl, HN2.out, HBel.out.trans (HB2.out.mono HBel.out.size)⟩

set_option maxHeartbeats 1000000 in
theorem bits_any {N : Nat} (a : Option Addr) (n cap m : Nat) (w : World) (h : Nt N w a n cap m) (hl : n ≤ 1099511627776) :
    Calls Try.prog 92 #[.slice a n cap] w fun e w' => e = .returned (.int .i64 (bl m)) ∧ Below w.heap.size w w' := by
  have l1 := h.len
  have H := Lib.hid h
  clear h
  go_enter Try.func92, Try.ntmps92
  go_wp2_with fail
  refine (xnorm_any (N := N) _ _ _ m _ H.out (by omega)).mono ?_
  rintro e w1 ⟨r, cr, rfl, hn, hb⟩
  have HN := Lib.hid hn
  have HB := Lib.hid hb
  clear hn hb
  rcases Nat.eq_zero_or_pos (nlen m) with hz | hz
  · have HZ := Lib.hid (show bl m = 0 from bl_eq_zero.2 (nlen_eq_zero.1 hz))
    have hz2 : ((nlen m : Int) == 0) = true := by simp; omega
    clear hz
    go_wp2_with fail
    go_ret
    rw [HZ.out]
    exact ⟨rfl, HB.out⟩
  · obtain ⟨t, ht⟩ : ∃ t, nlen m = t + 1 := ⟨nlen m - 1, by omega⟩
    have HT := Lib.hid (bl_top ht)
    obtain ⟨b, off, rfl, _, hc⟩ := HN.out.2.2.2 hz
    have hcell := hc t (by omega)
    rw [ht] at l1 ⊢
    clear hc ht hz HN
    have hd := dig_lt' m t
    have hbd := bl_dig m t
    have hz2 : (((t + 1 : Nat) : Int) == 0) = false := by simp; omega
    go_wp2_with fail
    go_loop [3, 4] (fun s x => ∃ y c : Nat, y ≤ dig m t ∧ c + bl y = bl (dig m t) ∧ s = .int .i64 (32 * (t : Int) + c) ∧ x = .int .u32 y) (fun _ x => (intOf x).toNat)
    case atStart => exact ⟨dig m t, 0, Nat.le_refl _, by omega, i64_congr (by omega), rfl⟩
    case round =>
      obtain ⟨y, c, hy, hcb, rfl, rfl⟩ := hrel
      have HCB := Lib.hid hcb
      have hc32 : c ≤ 32 := by omega
      clear hcb
      by_cases hy0 : y = 0
      · subst hy0
        have HE := Lib.hid (show bl m = 32 * t + c by have h1 := HCB.out; have h2 := HT.out; rw [bl_zero] at h1; omega)
        go_wp2_with fail
        go_ret
        rw [HE.out]
        exact ⟨rfl, HB.out⟩
      · have HP := Lib.hid (bl_pos hy0)
        have hy1 : 0 < y := by omega
        clear hy0
        go_wp2_with fail
        go_round
        case rel => exact ⟨y / 2, c + 1, by omega, by have h1 := HCB.out; have h2 := HP.out; omega, i64_congr (by omega), u32_congr (by omega)⟩
        case measure => simp [intOf]; omega

end Go.Proofs.Ytmljfaplohbjcaa

namespace Go.Proofs.Ytmljfaplohbjcaa
open Go.RowKit

theorem half_int (m i : Nat) : ((dig m (i + 1) : Int) * 4294967296 + (dig m i : Int)) / 2 % 4294967296 = (dig (m / 2) i : Int) := by
  rw [dig_half]; simp [B]
theorem half_v (m i : Nat) : IntKind.u32.wrap (IntKind.u64.wrap ((dig m (i + 1) : Int) * 4294967296 + IntKind.u64.wrap (dig m i : Int)) / 2) = (dig (m / 2) i : Int) := by
  have d1 := dig_lt' m i
  have d2 := dig_lt' m (i + 1)
  rw [wrap_u64_id (dig m i : Int) (by omega) (by omega), wrap_u64_id _ (by omega) (by omega), IntKind.wrap_u32, half_int]

set_option maxHeartbeats 1000000 in
theorem half_fr {N : Nat} (a : Option Addr) (n cap m : Nat) (w : World) (h : Nt N w a n cap m) (hl : n ≤ 1099511627776) :
    Calls Try.prog 113 #[.slice a n cap] w fun e w' => ∃ r cr, e = .returned (.slice r (nlen (m / 2)) cr) ∧ Nt N w' r (nlen (m / 2)) cr (m / 2) ∧ Below w.heap.size w w' ∧ Fr w.heap.size r := by
  have HL := Lib.hid (Nat.lt_of_le_of_lt (Nat.div_le_self m 2) h.2.2.1)
  have HA := Lib.hid h
  clear h
  have hmk := run_make_row' (P := Try.prog) 34 90 (.int .u32 0) 4 Try.underNat Try.infoU32 rfl .i64 .i64 n (by omega) (by omega)
  go_enter Try.func113, Try.ntmps113
  go_wp2_with fail
  go_loopw [4] (fun i wr => ∃ k : Nat, k ≤ n ∧ i = .int .i64 k ∧ wr.rowIs w.heap.size 90 n (sumRow (m / 2) k) ∧ Below w.heap.size w wr) (fun i _ => n - (intOf i).toNat)
  case atStart => exact ⟨0, Nat.zero_le _, rfl, (World.rowIs_made _ _ _ _).congr (fun i hi => by simp [sumRow]), (Below.refl _ _).alloc (Nat.le_refl _) _⟩
  case round =>
    clear hmk
    obtain ⟨k, hk, rfl, hrow, hbel⟩ := hrel
    by_cases hkn : k < n
    · obtain ⟨b1, o1, rfl, _, hc1⟩ := HA.out.2.2.2 (by omega)
      have hcell1 := (hbel.cell (p := ⟨b1, o1 + k, none⟩) (World.block_lt_of_cell? w _ (hc1 k hkn))).trans (hc1 k hkn)
      have hb1 : b1 < w.heap.size := World.block_lt_of_cell? w _ (hc1 k hkn)
      clear hc1
      have hput := hrow.cell (i := k) (by omega)
      have hfz := hrow.frozen k
      have d1 := dig_lt' m k
      have d2 := dig_lt' m (k + 1)
      have HR := Lib.hid hrow
      have HBel := Lib.hid hbel
      clear hrow hbel
      have w1 : IntKind.i64.wrap ((k : Int) + 1) = (k : Int) + 1 := by rw [IntKind.wrap_i64]; omega
      have w4 : IntKind.u64.wrap ((dig m (k + 1) : Int) * 4294967296) = (dig m (k + 1) : Int) * 4294967296 := wrap_u64_id _ (by omega) (by omega)
      have w5 : IntKind.u64.wrap ((dig m (k + 1) : Int) * 4294967296 + (dig m k : Int)) = (dig m (k + 1) : Int) * 4294967296 + (dig m k : Int) := wrap_u64_id _ (by omega) (by omega)
      go_wp2_with fail
      go_region_held3 (fun w' => w'.cell? ⟨b1, o1 + k, none⟩ = some (.int .u32 (dig m k))) (first | (go_keep; done) | assumption | exact (World.cell?_setCell_other _ _ _ _ (by first | (simp; done) | (simp; omega))).trans hcell1)
        (first
          | (go_at_call 115; (try rw [w1]); refine (limb_any (N := N) _ _ _ m _ (k + 1) _ (by exact HA.out.below HBel.out.drew) (by omega)).mono ?_; rintro e w' ⟨rfl, rfl⟩))
      go_wp2_with fail
      go_roundw
      case rel => exact ⟨k + 1, by omega, by go_num, sumRow_step HR.out (by first | exact half_int m k | exact half_v m k), HBel.out.drew.setCell (Nat.le_refl _) _⟩
      case measure => simp [intOf]; omega
    · obtain rfl : k = n := by omega
      have HBel := Lib.hid hbel
      have hnt := Nt.of_row (N := N) hrow (by unfold maxLen; omega) HL.out (fun i hi => by simp [sumRow, hi])
      have HN := Lib.hid hnt
      clear hrow hbel hnt
      go_wp2_with fail
      refine (xnorm_fr (N := N) _ _ _ _ _ HN.out (by omega)).mono ?_
      rintro e w' ⟨r, cr, rfl, hn, hb, hfr⟩
      have HN2 := Lib.hid hn
      have HB2 := Lib.hid hb
      have HF2 := Lib.hid (hfr.mono HBel.out.size)
      clear hn hb hfr
      go_wp2_with fail
      go_ret
      exact ⟨_, _, rfl, HN2.out, HBel.out.trans (HB2.out.mono HBel.out.size), HF2.out⟩

/-- the row of m shifted by p limbs and s bits, behind k rounds -/
def shfRow (m s p k i : Nat) : Value := .int .u32 (if i < p then 0 else dig (m % B ^ k * 2 ^ s) (i - p) : Nat)
theorem shf_lt (m s k : Nat) (hs : s < 32) : m % B ^ k * 2 ^ s < B ^ (k + 1) := by
  rw [pB_succ]
  exact Nat.mul_lt_mul_of_lt_of_le (Nat.mod_lt _ (pB k)) (Nat.le_trans (two_le s hs) (by decide)) (by decide)
theorem shfRow_step {w : World} {b n m s p k : Nat} {v1 v2 : Int} (hs : s < 32) (h : w.rowIs b 90 n (shfRow m s p k)) (h1 : v1 = dig (m % B ^ (k + 1) * 2 ^ s) k) (h2 : v2 = dig (m % B ^ (k + 1) * 2 ^ s) (k + 1)) :
    ((w.setCell ⟨b, k + p, none⟩ (.int .u32 v1)).setCell ⟨b, k + p + 1, none⟩ (.int .u32 v2)).rowIs b 90 n (shfRow m s p (k + 1)) := by
  refine ((h.set (k + p) (.int .u32 v1)).set (k + p + 1) (.int .u32 v2)).congr fun i hi => ?_
  simp only [shfRow]
  by_cases e2 : i = k + p + 1
  · subst e2; rw [if_pos rfl, if_neg (by omega), h2, show k + p + 1 - p = k + 1 by omega]
  · rw [if_neg e2]
    by_cases e1 : i = k + p
    · subst e1; rw [if_pos rfl, if_neg (by omega), h1, show k + p - p = k by omega]
    · rw [if_neg e1]
      by_cases e0 : i < p
      · rw [if_pos e0, if_pos e0]
      · rw [if_neg e0, if_neg e0]
        rcases Nat.lt_or_ge (i - p) k with h3 | h3
        · rw [shl_old m s k _ h3]
        · rw [dig_high' _ (k + 1) (i - p) (shf_lt m s k hs) (by omega), dig_high' _ (k + 2) (i - p) (shf_lt m s (k + 1) hs) (by omega)]
theorem xdig_up (x p i : Nat) : dig (B ^ p * x) i = if i < p then 0 else dig x (i - p) := by
  split
  · rename_i h
    obtain ⟨d, rfl⟩ : ∃ d, p = i + (d + 1) := ⟨p - i - 1, by omega⟩
    unfold dig
    rw [Nat.pow_add, Nat.mul_assoc, Nat.mul_div_cancel_left _ (pB i), pB_succ, Nat.mul_comm (B ^ d) B, Nat.mul_assoc, Nat.mul_mod_right]
  · rename_i h
    obtain ⟨d, rfl⟩ : ∃ d, i = p + d := ⟨i - p, by omega⟩
    unfold dig
    rw [Nat.pow_add, ← Nat.div_div_eq_div_mul, Nat.mul_div_cancel_left _ (pB p), Nat.add_sub_cancel_left]
theorem shf_val (m p s : Nat) : m * 2 ^ (32 * p + s) = B ^ p * (m * 2 ^ s) := by
  rw [Nat.pow_add, ← pB_two]; simp only [Nat.mul_left_comm]

set_option maxHeartbeats 1000000 in
theorem shift_fr {N : Nat} (a : Option Addr) (n cap m p s : Nat) (z : Int) (w : World) (h : Nt N w a n cap m) (hs : s < 32) (hl : n + p + 1 ≤ 1099511627776) (hz : z = (32 * p + s : Nat)) :
    Calls Try.prog 111 #[.slice a n cap, .int .i64 z] w fun e w' => ∃ r cr, e = .returned (.slice r (nlen (m * 2 ^ (32 * p + s))) cr) ∧ Nt N w' r (nlen (m * 2 ^ (32 * p + s))) cr (m * 2 ^ (32 * p + s)) ∧ Below w.heap.size w w' ∧ Fr w.heap.size r := by
  have HV := Lib.hid (shf_val m p s)
  have HL := Lib.hid (show B ^ p * (m * 2 ^ s) < B ^ (n + p + 1) by
    have h1 := shf_lt m s n hs
    rw [Nat.mod_eq_of_lt h.2.2.1] at h1
    rw [show n + p + 1 = p + (n + 1) by omega, Nat.pow_add]
    exact Nat.mul_lt_mul_of_pos_left h1 (pB p))
  have HM := Lib.hid (Nat.mod_eq_of_lt h.2.2.1)
  have HA := Lib.hid h
  clear h
  have hz1 : z / 32 = (p : Int) := by omega
  have hz2 : z % 32 = (s : Int) := by omega
  have hz3 : 0 ≤ z := by omega
  have hz4 : z ≤ 35184372088832 := by omega
  clear hz
  have hmk := run_make_row' (P := Try.prog) 34 90 (.int .u32 0) 4 Try.underNat Try.infoU32 rfl .i64 .i64 (n + p + 1) (by omega) (by omega)
  have ec : ((n + p + 1 : Nat) : Int) = (n : Int) + (p : Int) + 1 := by omega
  rw [ec] at hmk
  clear ec
  go_enter Try.func111, Try.ntmps111
  go_wp2_with fail
  go_loopw [6] (fun i wr => ∃ k : Nat, k ≤ n ∧ i = .int .i64 k ∧ wr.rowIs w.heap.size 90 (n + p + 1) (shfRow m s p k) ∧ Below w.heap.size w wr) (fun i _ => n - (intOf i).toNat)
  case atStart => exact ⟨0, Nat.zero_le _, rfl, (World.rowIs_made _ _ _ _).congr (fun i hi => by simp [shfRow, Nat.mod_one, dig_zero]), (Below.refl _ _).alloc (Nat.le_refl _) _⟩
  case round =>
    clear hmk
    obtain ⟨k, hk, rfl, hrow, hbel⟩ := hrel
    by_cases hkn : k < n
    · obtain ⟨b1, o1, rfl, _, hc1⟩ := HA.out.2.2.2 (by omega)
      have hcell1 := (hbel.cell (p := ⟨b1, o1 + k, none⟩) (World.block_lt_of_cell? w _ (hc1 k hkn))).trans (hc1 k hkn)
      clear hc1
      have hput : wr.cell? ⟨w.heap.size, k + p, none⟩ = some (.int .u32 (dig (m % B ^ k * 2 ^ s) k)) := by
        have := hrow.cell (i := k + p) (by omega)
        simp only [shfRow] at this
        rw [if_neg (by omega), show k + p - p = k by omega] at this
        exact this
      obtain ⟨v9, hput2⟩ : ∃ v, wr.cell? ⟨w.heap.size, k + p + 1, none⟩ = some v := ⟨_, hrow.cell (i := k + p + 1) (by omega)⟩
      have hfz := hrow.frozen (k + p)
      have hfz2 := hrow.frozen (k + p + 1)
      have d1 := dig_lt' m k
      have HR := Lib.hid hrow
      have HBel := Lib.hid hbel
      clear hrow hbel
      have d2 := dig_lt' (m % B ^ k * 2 ^ s) k
      go_wp2_with fail
      go_roundw
      case rel => exact ⟨k + 1, by omega, by go_num, shfRow_step hs HR.out (shl_v1 m s k hs) (shl_v2 m s k hs), (HBel.out.setCell (Nat.le_refl _) _).setCell (Nat.le_refl _) _⟩
      case measure => simp [intOf]; omega
    · obtain rfl : k = n := by omega
      have HBel := Lib.hid hbel
      have hnt := Nt.of_row (N := N) hrow (by unfold maxLen; omega) HL.out (fun i hi => by simp only [shfRow]; rw [HM.out, xdig_up])
      have HN := Lib.hid hnt
      clear hrow hbel hnt
      go_wp2_with fail
      refine (xnorm_fr (N := N) _ _ _ _ _ HN.out (by omega)).mono ?_
      rintro e w' ⟨r, cr, rfl, hn, hb, hfr⟩
      have HN2 := Lib.hid hn
      have HB2 := Lib.hid hb
      have HF2 := Lib.hid (hfr.mono HBel.out.size)
      clear hn hb hfr
      go_wp2_with fail
      go_ret
      rw [HV.out]
      exact ⟨_, _, rfl, HN2.out, HBel.out.trans (HB2.out.mono HBel.out.size), HF2.out⟩

end Go.Proofs.Ytmljfaplohbjcaa

namespace Go.Proofs.Ytmljfaplohbjcaa
open Go.RowKit

theorem rowIs_below {w w' : World} {b n : Nat} {t : TypeId} {f : Nat → Value} (h : w.rowIs b t n f) (hb : Below w.heap.size w w') : w'.rowIs b t n f := by
  obtain ⟨c, h1, h2⟩ := h
  exact ⟨c, (hb.block b (Array.getElem?_eq_some_iff.1 h1).1).trans h1, h2⟩
theorem rowIs_lt {w : World} {b n : Nat} {t : TypeId} {f : Nat → Value} (h : w.rowIs b t n f) : b < w.heap.size := by
  obtain ⟨c, h1, _⟩ := h; exact (Array.getElem?_eq_some_iff.1 h1).1
/-- the slice lies in another block than g -/
def Ne (g : Nat) (a : Option Addr) (n : Nat) : Prop := 0 < n → ∀ b o s, a = some ⟨b, o, s⟩ → b ≠ g
theorem Nt.setNe {N : Nat} {w : World} {a : Option Addr} {n cap m : Nat} (h : Nt N w a n cap m) {g o : Nat} (hne : Ne g a n) (v : Value) : Nt N (w.setCell ⟨g, o, none⟩ v) a n cap m := by
  obtain ⟨h0, h1, h2, h3⟩ := h
  refine ⟨h0, h1, h2, fun hn => ?_⟩
  obtain ⟨b, off, e, ho, hc⟩ := h3 hn
  have eb := Below.heap_setCell w ⟨g, o, none⟩ v b (hne hn b off none e)
  exact ⟨b, off, e, ho.of_block eb, fun i hi => (World.cell?_of_block (w := w) (a := ⟨b, off + i, none⟩) eb).trans (hc i hi)⟩
theorem Ne.of_old {N : Nat} {w : World} {a : Option Addr} {n cap m g : Nat} (h : Nt N w a n cap m) (hg : w.heap.size ≤ g) : Ne g a n := by
  intro hn b o s e hbg
  obtain ⟨b', off, e', _, hc⟩ := h.2.2.2 hn
  rw [e'] at e
  have hlt : b' < w.heap.size := World.block_lt_of_cell? w _ (hc 0 hn)
  simp at e <;> omega
theorem Ne.of_fr {g B n : Nat} {r : Option Addr} (h : Fr B r) (hg : g < B) : Ne g r n := by
  intro _ b o s e hbg
  have := h b o s e
  omega

/-- the quotient's row takes a bit more -/
theorem bitRow_step {w : World} {b n Q j p : Nat} {v : Int} (h : w.rowIs b 90 n (fun i => .int .u32 (dig Q i))) (hQ : Q % 2 ^ (j + 1) = 0) (hp : j / 32 = p) (hv : v = dig (Q + 2 ^ j) p) :
    (w.setCell ⟨b, p, none⟩ (.int .u32 v)).rowIs b 90 n (fun i => .int .u32 (dig (Q + 2 ^ j) i)) := by
  subst hp
  refine (h.set (j / 32) (.int .u32 v)).congr fun i hi => ?_
  by_cases h1 : i = j / 32
  · subst h1; rw [if_pos rfl, hv]
  · rw [if_neg h1, setbit_ne Q j i hQ h1]
theorem bit_v (Q j p q : Nat) (hQ : Q % 2 ^ (j + 1) = 0) (hp : j / 32 = p ∧ j % 32 = q) : bits BinOp.or IntKind.u32 (dig Q p : Int) (2 ^ q % 4294967296) = (dig (Q + 2 ^ j) p : Int) := by
  obtain ⟨rfl, rfl⟩ := hp
  have hs : 2 ^ (j % 32) ≤ 2147483648 := two_le _ (Nat.mod_lt _ (by decide))
  have e : ((2 : Int) ^ (j % 32)) % 4294967296 = ((2 ^ (j % 32) : Nat) : Int) := by
    have : ((2 : Int) ^ (j % 32)) = ((2 ^ (j % 32) : Nat) : Int) := by simp
    rw [this]
    generalize 2 ^ (j % 32) = x at hs
    omega
  rw [e, bits_or_u32_nat _ _ (dig_lt' _ _) (by omega), setbit_at Q j hQ]

/-- the loop of DivMod before the round at bit j - 1 -/
def DivRel (N : Nat) (w : World) (g L K A b j : Nat) (s0 s11 s12 : Value) (wr : World) : Prop :=
  ∃ x Q ra ca rd cd, s0 = .slice ra (nlen x) ca ∧ s11 = .slice rd (nlen (dvr b j)) cd ∧ s12 = .int .i64 ((j : Int) - 1) ∧ Nt N wr ra (nlen x) ca x ∧ Nt N wr rd (nlen (dvr b j)) cd (dvr b j) ∧
    Ne g ra (nlen x) ∧ Ne g rd (nlen (dvr b j)) ∧ wr.rowIs g 90 L (fun i => .int .u32 (dig Q i)) ∧ DivInv A b j x Q ∧ j ≤ K ∧ Below w.heap.size w wr

theorem Nt.alloc' {N : Nat} {w : World} {a : Option Addr} {n cap m : Nat} (h : Nt N w a n cap m) (o : Obj) : Nt N (w.alloc o) a n cap m :=
  h.below ((Below.refl _ _).alloc (Nat.le_refl _) o)
theorem dvr_len {b j k : Nat} (h : j ≤ k + 1) : nlen (dvr b j) ≤ nlen b + (k / 32 + 1) := by
  have h1 : dvr b j ≤ b * 2 ^ k := by
    have h2 := Nat.mul_le_mul_left b (Nat.pow_le_pow_right (show 0 < 2 by decide) h)
    rw [← dvr_succ b k]; unfold dvr
    exact Nat.div_le_div_right h2
  refine Nat.le_trans (nlen_mono h1) (Nat.le_trans (nlen_mul _ _) ?_)
  have : nlen (2 ^ k) ≤ k / 32 + 1 := nlen_le (Nat.lt_of_lt_of_le (Nat.pow_lt_pow_right (by decide) (Nat.lt_succ_self k)) (pow_fit k))
  omega
theorem DivInv.le {A b j x Q : Nat} (h : DivInv A b j x Q) : x ≤ A := by obtain ⟨h1, _⟩ := h; omega

set_option maxHeartbeats 1000000 in
theorem xdivMod_zero {N : Nat} (a b : Option Addr) (na ca ma nb cb : Nat) (w : World) (ha : Nt N w a na ca ma) (hb : Nt N w b nb cb 0) (la : na ≤ 274877906944) (lb : nb ≤ 274877906944) :
    Calls Try.prog 95 #[.slice a na ca, .slice b nb cb] w fun e w' => e = .returned (.tuple #[.slice none 0 0, .slice none 0 0, .bool false]) ∧ Below w.heap.size w w' := by
  have HA := Lib.hid ha
  have HB := Lib.hid hb
  clear ha hb
  have HZ := Lib.hid nlen_zero
  go_enter Try.func95, Try.ntmps95
  go_wp2_with fail
  refine (xnorm_any (N := N) _ _ _ ma _ HA.out (by omega)).mono ?_
  rintro e w1 ⟨r1, c1, rfl, hn1, hb1⟩
  have HB1 := Lib.hid hb1
  clear hn1 hb1
  go_wp2_with fail
  refine (xnorm_any (N := N) _ _ _ 0 _ (HB.out.below HB1.out) (by omega)).mono ?_
  rintro e w2 ⟨r2, c2, rfl, hn2, hb2⟩
  have HB2 := Lib.hid hb2
  clear hn2 hb2
  rw [HZ.out]
  go_wp2_with fail
  go_ret3
  exact ⟨rfl, HB1.out.trans (HB2.out.mono HB1.out.size)⟩

set_option maxRecDepth 100000 in
set_option maxHeartbeats 4000000 in
theorem xdivMod_any {N : Nat} (a b : Option Addr) (na ca ma nb cb mb : Nat) (w : World) (hN : N ≤ w.heap.size) (ha : Nt N w a na ca ma) (hb : Nt N w b nb cb mb) (la : na ≤ 274877906944) (lb : nb ≤ 274877906944) (hb0 : 0 < mb) :
    Calls Try.prog 95 #[.slice a na ca, .slice b nb cb] w fun e w' => ∃ r cr r2 cr2, e = .returned (.tuple #[.slice r (nlen (ma / mb)) cr, .slice r2 (nlen (ma % mb)) cr2, .bool true]) ∧ Nt N w' r (nlen (ma / mb)) cr (ma / mb) ∧ Nt N w' r2 (nlen (ma % mb)) cr2 (ma % mb) ∧ Below w.heap.size w w' := by
  have l1 := ha.len
  have l2 := hb.len
  have hnb : nlen mb ≠ 0 := fun h => by rw [nlen_eq_zero] at h; omega
  have hz : ((nlen mb : Int) == 0) = false := by simp; omega
  have HA := Lib.hid ha
  have HB := Lib.hid hb
  clear ha hb
  go_enter Try.func95, Try.ntmps95
  go_wp2_with fail
  refine (xnorm_any (N := N) _ _ _ ma _ HA.out (by omega)).mono ?_
  rintro e w1 ⟨r1, c1, rfl, hn1, hb1⟩
  have HN1 := Lib.hid hn1
  have HB1 := Lib.hid hb1
  clear hn1 hb1
  go_wp2_with fail
  refine (xnorm_any (N := N) _ _ _ mb _ (HB.out.below HB1.out) (by omega)).mono ?_
  rintro e w2 ⟨r2, c2, rfl, hn2, hb2⟩
  have HN2 := Lib.hid hn2
  have HN1' := Lib.hid (HN1.out.below hb2)
  have HB2 := Lib.hid (HB1.out.trans (hb2.mono HB1.out.size))
  have hs2 := HB2.out.size
  clear hn2 hb2 HB1 HN1
  by_cases h1 : nlen mb = 1
  · have h1b : ((nlen mb : Int) == 1) = true := by simp; omega
    have hd := dig_lt' mb 0
    have hmb : dig mb 0 = mb := by
      have := lt_pow_nlen mb
      rw [h1, Nat.pow_one] at this
      unfold dig; rw [Nat.pow_zero, Nat.div_one]; exact Nat.mod_eq_of_lt this
    obtain ⟨b1, o1, rfl, _, hcb⟩ := HN2.out.2.2.2 (by omega)
    have hcell := hcb 0 (by omega)
    rw [Nat.add_zero, hmb] at hcell
    rw [hmb] at hd
    have hpos : (0 : Int) < (nlen mb : Int) := by omega
    clear hcb hmb h1
    have Hml := Lib.hid (Nat.mod_lt ma hb0)
    have hml2 : ma % mb < 4294967296 := by have := Hml.out; omega
    generalize hmm : ma % mb = rr at *
    have HMM := Lib.hid hmm
    clear hmm
    go_wp2_with fail
    refine (short_any (N := N) _ _ _ ma mb _ HN1'.out (by omega) hb0 (by omega)).mono ?_
    rw [HMM.out]
    rintro e w3 ⟨r, cr, rfl, hn, hbel⟩
    have HN3 := Lib.hid hn
    have HB3 := Lib.hid hbel
    clear hn hbel
    go_wp2_with fail
    refine (xof_any (N := N) rr _ (by omega)).mono ?_
    rintro e w4 ⟨r4, cr4, rfl, hn, hbel⟩
    have HN4 := Lib.hid hn
    have HB4 := Lib.hid hbel
    clear hn hbel
    go_wp2_with fail
    go_ret3
    rw [HMM.out]
    exact ⟨_, _, _, _, rfl, HN3.out.below HB4.out, HN4.out, (HB2.out.trans (HB3.out.mono HB2.out.size)).trans (HB4.out.mono (Nat.le_trans HB2.out.size HB3.out.size))⟩
  · have h1b : ((nlen mb : Int) == 1) = false := by simp; omega
    clear h1
    have bm1 := bl_nlen ma
    have bm2 := bl_nlen mb
    go_wp2_with fail
    refine (bits_any (N := N) _ _ _ ma _ HN1'.out (by omega)).mono ?_
    rintro e w3 ⟨rfl, hbel⟩
    have HB3 := Lib.hid (HB2.out.trans (hbel.mono hs2))
    have HN1'' := Lib.hid (HN1'.out.below hbel)
    have HN2' := Lib.hid (HN2.out.below hbel)
    clear hbel HN1' HN2 HB2
    go_wp2_with fail
    refine (bits_any (N := N) _ _ _ mb _ HN2'.out (by omega)).mono ?_
    rintro e w4 ⟨rfl, hbel⟩
    have HB4 := Lib.hid (HB3.out.trans (hbel.mono HB3.out.size))
    have HN1 := Lib.hid (HN1''.out.below hbel)
    have HN2 := Lib.hid (HN2'.out.below hbel)
    have hs4 := HB4.out.size
    clear hbel HN1'' HN2' HB3 hs2
    rcases Nat.lt_or_ge (bl ma) (bl mb) with hlt | hge
    · have hlt2 : (bl ma : Int) - (bl mb : Int) < 0 := by omega
      have HQ := Lib.hid (Nat.div_eq_of_lt (lt_of_bl hlt))
      have HR := Lib.hid (Nat.mod_eq_of_lt (lt_of_bl hlt))
      have HZ := Lib.hid nlen_zero
      go_wp2_with fail
      go_ret3
      rw [HQ.out, HR.out, HZ.out]
      exact ⟨none, 0, _, _, rfl, ⟨⟨Nat.le_refl _, fun _ => rfl⟩, Nat.zero_le _, pB 0, fun h => by omega⟩, HN1.out, HB4.out⟩
    · obtain ⟨k, hk⟩ : ∃ k : Nat, (bl ma : Int) - (bl mb : Int) = (k : Int) := ⟨bl ma - bl mb, by omega⟩
      have hkm : k ≤ 32 * nlen ma := by omega
      obtain ⟨p, q, hp, hq, hpq, hq32⟩ : ∃ p q : Nat, (k : Int) / 32 = p ∧ (k : Int) % 32 = q ∧ k = 32 * p + q ∧ q < 32 := ⟨k / 32, k % 32, by omega, by omega, by omega, by omega⟩
      have HPQ := Lib.hid hpq
      have hp1 : p ≤ nlen ma := by omega
      have HK := Lib.hid (show k / 32 = p by omega)
      have HS := Lib.hid (DivInv.start (A := ma) (n := k) (show mb ≠ 0 by omega) (by omega))
      have HLow := Lib.hid (show ma < mb * 2 ^ (k + 1) from HS.out.2.2)
      have hmk := run_make_row' (P := Try.prog) 34 90 (.int .u32 0) 4 Try.underNat Try.infoU32 rfl .i64 .i64 (p + 1) (by omega) (by omega)
      have ec : ((p + 1 : Nat) : Int) = (p : Int) + 1 := by omega
      rw [ec] at hmk
      clear ec hpq
      go_wp2_with fail
      refine (shift_fr (N := N) _ _ _ mb p q _ _ (HN2.out.alloc' _) hq32 (by omega) (by have := HPQ.out; omega)).mono ?_
      rw [← HPQ.out]
      rintro e w5 ⟨r5, c5, rfl, hn, hbel, hfr⟩
      have HN5 := Lib.hid hn
      have HB5 := Lib.hid hbel
      have HF5 := Lib.hid hfr
      clear hn hbel hfr
      have hs5 : w4.heap.size + 1 ≤ w5.heap.size := by have := HB5.out.size; simp at this; omega
      have HR5 := Lib.hid (rowIs_below ((World.rowIs_made w4 (.int .u32 0) (p + 1) 90).congr (g := fun i => .int .u32 (dig 0 i)) (fun i hi => by simp [dig_zero])) HB5.out)
      have HN1a := Lib.hid ((HN1.out.alloc' _).below HB5.out)
      have HE1 := Lib.hid (Ne.of_old HN1.out (Nat.le_refl _))
      have HE5 := Lib.hid (fun n => Ne.of_fr (n := n) HF5.out (show w4.heap.size < _ by simp))
      have HBw5 := Lib.hid (show Below w.heap.size w w5 from (HB4.out.trans (((Below.refl _ _).alloc (Nat.le_refl _) _).mono hs4)).trans (HB5.out.mono (by simp; omega)))
      clear HB5 HN1 HN2 HF5 HB4
      have HDS := Lib.hid (dvr_succ mb k)
      go_wp2_with fail
      go_loopg [0, 11, 12] (k + 1) (fun j s0 s11 s12 wr => DivRel N w w4.heap.size (p + 1) (k + 1) ma mb j s0 s11 s12 wr)
      case atStart => exact ⟨ma, 0, _, _, _, _, rfl, by rw [HDS.out], i64_congr (by omega), HN1a.out, by rw [HDS.out]; exact HN5.out, HE1.out, by rw [HDS.out]; exact HE5.out _, HR5.out, HS.out, Nat.le_refl _, HBw5.out⟩
      case round =>
        clear hmk HR5 HN5 HN1a HE1 HE5 HBw5
        obtain ⟨x, Q, ra, ca', rd, cd', rfl, rfl, rfl, hx, hd, nx, nd, hrow, hinv, hjk, hbel⟩ := hrel
        have HX := Lib.hid hx
        have HD := Lib.hid hd
        have HNX := Lib.hid nx
        have HND := Lib.hid nd
        have HR := Lib.hid hrow
        have HI := Lib.hid hinv
        have HBel := Lib.hid hbel
        have lx := nlen_mono hinv.le
        have ld := dvr_len (b := mb) (k := k) hjk
        rw [HK.out] at ld
        have hsr := hbel.size
        have hgr := rowIs_lt hrow
        clear hx hd nx nd hrow hinv hbel
        rcases Nat.eq_zero_or_pos gk with hj | hj
        · obtain rfl : gk = 0 := hj
          have hn1 : ((0 : Nat) : Int) - 1 < 0 := by omega
          have HQ := Lib.hid HI.out.done.1
          have HRm := Lib.hid HI.out.done.2
          have HL := Lib.hid (show Q < B ^ (p + 1) by rw [← HK.out]; exact Nat.lt_of_lt_of_le (HI.out.low HLow.out) (pow_fit k))
          have HNQ := Lib.hid (Nt.of_row (N := N) HR.out (by unfold maxLen; omega) HL.out (fun i hi => rfl))
          go_wp2_with fail
          refine (xnorm_any (N := N) _ _ _ Q _ HNQ.out (by omega)).mono ?_
          rintro e w6 ⟨r6, c6, rfl, hn, hb6⟩
          have HN6 := Lib.hid hn
          have HB6 := Lib.hid hb6
          clear hn hb6
          go_wp2_with fail
          go_ret3
          rw [← HQ.out, ← HRm.out]
          exact ⟨_, _, _, _, rfl, HN6.out, HX.out.below HB6.out, HBel.out.trans (HB6.out.mono hsr)⟩
        · obtain ⟨t, rfl⟩ : ∃ t, gk = t + 1 := ⟨gk - 1, by omega⟩
          have HDT := Lib.hid (dvr_succ mb t)
          have HDH := Lib.hid (dvr_half mb t)
          rw [show (((t + 1 : Nat) : Int) - 1) = (t : Int) by omega]
          obtain ⟨pt, qt, hpt, hqt, hpq, hqt32⟩ : ∃ pt qt : Nat, (t : Int) / 32 = pt ∧ (t : Int) % 32 = qt ∧ t = 32 * pt + qt ∧ qt < 32 := ⟨t / 32, t % 32, by omega, by omega, by omega, by omega⟩
          have HPT := Lib.hid (show t / 32 = pt ∧ t % 32 = qt by omega)
          have hptp : pt ≤ p := by have := HK.out; omega
          clear hpq hj
          rcases Nat.lt_or_ge x (dvr mb (t + 1)) with hlt | hge
          · have hcmp : cmpN x (dvr mb (t + 1)) < 0 := by rw [cmpN_lt hlt]; decide
            have hcmp2 : decide (0 ≤ cmpN x (dvr mb (t + 1))) = false := by simp; omega
            have HI2 := Lib.hid (HI.out.no (by rw [← HDT.out]; exact hlt))
            clear hlt
            go_wp2_with fail
            refine (xcmp_any _ _ _ _ _ _ _ _ _ HX.out HD.out).mono ?_
            rintro e w6 ⟨rfl, rfl⟩
            go_wp2_with fail
            refine (half_fr (N := N) _ _ _ _ _ HD.out (by omega)).mono ?_
            rw [HDH.out]
            rintro e w6 ⟨r6, c6, rfl, hn, hb6, hfr⟩
            have HN6 := Lib.hid hn
            have HB6 := Lib.hid hb6
            have HE6 := Lib.hid (Ne.of_fr (n := nlen (dvr mb t)) hfr hgr)
            clear hn hb6 hfr
            go_wp2_with fail
            go_roundg t
            case measure => omega
            case rel => exact ⟨x, Q, _, _, _, _, rfl, rfl, rfl, HX.out.below HB6.out, HN6.out, HNX.out, HE6.out, rowIs_below HR.out HB6.out, HI2.out, by omega, HBel.out.trans (HB6.out.mono hsr)⟩
          · have hcmp : ¬ cmpN x (dvr mb (t + 1)) < 0 := by unfold cmpN; rw [if_neg (by omega)]; split <;> omega
            have hcmp2 : decide (0 ≤ cmpN x (dvr mb (t + 1))) = true := by simp; omega
            have HI2 := Lib.hid (show DivInv ma mb t (x - dvr mb (t + 1)) (Q + 2 ^ t) by rw [HDT.out]; exact HI.out.yes (by rw [← HDT.out]; exact hge))
            have HQ0 := Lib.hid HI.out.2.1
            go_wp2_with fail
            refine (xcmp_any _ _ _ _ _ _ _ _ _ HX.out HD.out).mono ?_
            rintro e w6 ⟨rfl, rfl⟩
            go_wp2_with fail
            refine (xsub_fr (N := N) _ _ _ _ x _ _ _ _ (by omega) HX.out HD.out (by omega) hge).mono ?_
            rintro e w6 ⟨r6, c6, rfl, hn, hb6, hfr⟩
            have HN6 := Lib.hid hn
            have HB6 := Lib.hid hb6
            have HE6 := Lib.hid (Ne.of_fr (n := nlen (x - dvr mb (t + 1))) hfr hgr)
            have hrow6 := rowIs_below HR.out hb6
            have hput := hrow6.cell (i := pt) (by omega)
            have hfz := hrow6.frozen pt
            have HR6 := Lib.hid hrow6
            have hs6 := hb6.size
            clear hn hb6 hfr hrow6
            have dq := dig_lt' Q pt
            go_wp2_with fail
            refine (half_fr (N := N) _ _ _ _ _ ((HD.out.below HB6.out).setNe HND.out _) (by omega)).mono ?_
            rw [HDH.out]
            rintro e w7 ⟨r7, c7, rfl, hn, hb7, hfr⟩
            have HN7 := Lib.hid hn
            have HB7 := Lib.hid hb7
            have HE7 := Lib.hid (Ne.of_fr (n := nlen (dvr mb t)) hfr (show w4.heap.size < _ by simp [World.setCell]; omega))
            clear hn hb7 hfr
            go_wp2_with fail
            go_roundg t
            case measure => omega
            case rel => exact ⟨x - dvr mb (t + 1), Q + 2 ^ t, _, _, _, _, rfl, rfl, rfl, (HN6.out.setNe HE6.out _).below HB7.out, HN7.out, HE6.out, HE7.out, rowIs_below (bitRow_step HR6.out HQ0.out HPT.out.1 (bit_v Q t pt qt HQ0.out HPT.out)) HB7.out, HI2.out, by omega, ((HBel.out.trans (HB6.out.mono hsr)).setCell hs4 _).trans (HB7.out.mono (by simp [World.setCell]; omega))⟩

def XGcdRel (N : Nat) (w : World) (ma mb y : Nat) (s0 s1 : Value) (wr : World) : Prop :=
  ∃ x ra ca rb cb, s0 = .slice ra (nlen x) ca ∧ s1 = .slice rb (nlen y) cb ∧ Nt N wr ra (nlen x) ca x ∧ Nt N wr rb (nlen y) cb y ∧ Nat.gcd x y = Nat.gcd ma mb ∧ nlen x ≤ 274877906944 ∧ nlen y ≤ 274877906944 ∧ Below w.heap.size w wr

set_option maxHeartbeats 2000000 in
theorem xgcd_any {N : Nat} (a b : Option Addr) (na ca ma nb cb mb : Nat) (w : World) (hN : N ≤ w.heap.size) (ha : Nt N w a na ca ma) (hb : Nt N w b nb cb mb) (la : na ≤ 274877906944) (lb : nb ≤ 274877906944) :
    Calls Try.prog 94 #[.slice a na ca, .slice b nb cb] w fun e w' => ∃ r cr, e = .returned (.slice r (nlen (Nat.gcd ma mb)) cr) ∧ Nt N w' r (nlen (Nat.gcd ma mb)) cr (Nat.gcd ma mb) ∧ Below w.heap.size w w' := by
  have l1 := ha.len
  have l2 := hb.len
  have HA := Lib.hid ha
  have HB := Lib.hid hb
  clear ha hb
  go_enter Try.func94, Try.ntmps94
  go_wp2_with fail
  refine (xnorm_any (N := N) _ _ _ ma _ HA.out (by omega)).mono ?_
  rintro e w1 ⟨r1, c1, rfl, hn1, hb1⟩
  have HN1 := Lib.hid hn1
  have HB1 := Lib.hid hb1
  clear hn1 hb1
  go_wp2_with fail
  refine (xnorm_any (N := N) _ _ _ mb _ (HB.out.below HB1.out) (by omega)).mono ?_
  rintro e w2 ⟨r2, c2, rfl, hn2, hb2⟩
  have HN2 := Lib.hid hn2
  have HB2 := Lib.hid hb2
  clear hn2 hb2
  go_wp2_with fail
  go_loopg [0, 1, 5, 6, 7] mb (fun y s0 s1 _ _ _ wr => XGcdRel N w ma mb y s0 s1 wr)
  case atStart => exact ⟨ma, _, _, _, _, rfl, rfl, HN1.out.below HB2.out, HN2.out, rfl, by omega, by omega, HB1.out.trans (HB2.out.mono HB1.out.size)⟩
  case round =>
    obtain ⟨x, ra, ca', rb, cb', rfl, rfl, hx, hy, hg, hlx, hly, hbel⟩ := hrel
    have HX := Lib.hid hx
    have HY := Lib.hid hy
    have HG := Lib.hid hg
    have HBel := Lib.hid hbel
    clear hx hy hg hbel
    by_cases hy0 : gk = 0
    · have HZ := Lib.hid (show nlen gk = 0 by rw [nlen_eq_zero]; exact hy0)
      have HE : Hid (x = Nat.gcd ma mb) := by have := HG.out; rw [hy0, Nat.gcd_zero_right] at this; exact this
      clear hy0
      have hz : ¬ (0 : Int) < (nlen gk : Int) := by have := HZ.out; omega
      go_wp2_with fail
      go_ret
      rw [← HE.out]
      exact ⟨_, _, rfl, HX.out, HBel.out⟩
    · have hpos : 0 < nlen gk := by
        have : nlen gk ≠ 0 := fun h => hy0 (nlen_eq_zero.1 h)
        omega
      have hgk : 0 < gk := by omega
      clear hy0
      go_wp2_with fail
      refine (xdivMod_any (N := N) _ _ _ _ x _ _ gk _ (by have := HBel.out.size; omega) HX.out HY.out hlx hly hgk).mono ?_
      rintro e w3 ⟨r3, c3, r4, c4, rfl, hn3, hn4, hb3⟩
      have HN4 := Lib.hid hn4
      have HB3 := Lib.hid hb3
      clear hn3 hn4 hb3
      go_wp2_with fail
      go_roundg (x % gk)
      case measure => exact Nat.mod_lt _ hgk
      case rel => exact ⟨gk, _, _, _, _, rfl, rfl, HY.out.below HB3.out, HN4.out, by rw [Nat.gcd_comm, ← Nat.gcd_rec, Nat.gcd_comm]; exact HG.out, hly, Nat.le_trans (nlen_mono (Nat.le_of_lt (Nat.mod_lt _ hgk))) hly, HBel.out.trans (HB3.out.mono HBel.out.size)⟩

end Go.Proofs.Ytmljfaplohbjcaa
