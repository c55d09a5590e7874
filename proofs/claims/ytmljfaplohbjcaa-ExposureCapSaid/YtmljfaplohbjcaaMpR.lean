/- Contracts of the reference's least and rising, and of its Filter and exposure.Filter: the eligible items of a pool. Conditions: numbers of at most 2^30 limbs, lists of at most 2^40 elements. -/
import Derived.Test.YtmljfaplohbjcaaMpC
import Derived.Test.YtmljfaplohbjcaaSlI
namespace Go.Proofs.Ytmljfaplohbjcaa
open Go.RowKit

/-- a slice of n numbers -/
def Zs (w : World) (a : Option Addr) (n cap : Nat) (z : Nat → Int) : Prop :=
  n ≤ cap ∧ cap ≤ maxLen ∧ (0 < n → ∃ b off, a = some ⟨b, off, none⟩ ∧ ∀ i, i < n → w.cell? ⟨b, off + i, none⟩ = some (.int .i64 (z i)))
theorem Zs.below {w w' : World} {a : Option Addr} {n cap : Nat} {z : Nat → Int} (h : Zs w a n cap z) (hb : Below w.heap.size w w') : Zs w' a n cap z := by
  obtain ⟨h1, h2, h3⟩ := h
  refine ⟨h1, h2, fun hn => ?_⟩
  obtain ⟨b, off, e, hc⟩ := h3 hn
  exact ⟨b, off, e, fun j hj => cell_mono (hc j hj) hb⟩
theorem Il.zs {w : World} {v : Value} {l : List Int} (h : Il w v l) : ∃ a cap, v = .slice a l.length cap ∧ Zs w a l.length cap (fun j => l.getD j 0) := by
  obtain ⟨a, cap, e, h1, h2, h3⟩ := h
  exact ⟨a, cap, e, h1, h2, h3⟩
def bIs (o : Option Int) : Bool := o.isSome
def bOf (o : Option Int) : Int := o.getD 0
def boolOf : Value → Bool | .bool b => b | _ => false
theorem infoIntE : (Try.prog.info? 3).map (fun i => (i.zero, i.size, i.bytes)) = some (some (.int .i64 0), 1, 8) := by kernel_rfl
theorem underIntsE : Try.prog.underlying 23 = some (.slice 3) := by kernel_rfl

set_option maxHeartbeats 4000000 in
theorem xleast_any (a : Option Addr) (n cap : Nat) (z : Nat → Int) (af : Bool) (x : Int) (w : World) (h : Zs w a n cap z) :
    Calls Try.prog 45 #[.slice a n cap, .bool af, .int .i64 x] w fun e w' => e = .returned (.tuple #[.int .i64 (bOf (lstO z af x n)), .bool (bIs (lstO z af x n))]) ∧ w' = w := by
  have HZ := Lib.hid h
  have b1 := h.1
  have b2 := h.2.1
  unfold maxLen at b2
  clear h
  go_enter Try.func45, Try.ntmps45
  go_wp2_with fail
  go_loop [8, 9, 10] (fun bs fs i => ∃ k : Nat, k ≤ n ∧ i = .int .i64 k ∧ bs = .int .i64 (bOf (lstO z af x k)) ∧ fs = .bool (bIs (lstO z af x k))) (fun _ _ i => n - (intOf i).toNat)
  case atStart => exact ⟨0, Nat.zero_le _, rfl, rfl, rfl⟩
  case round =>
    obtain ⟨k, hk, rfl, rfl, rfl⟩ := hrel
    by_cases hkn : k < n
    · obtain ⟨b, off, rfl, hc⟩ := HZ.out.2.2 (by omega)
      have hcell := hc k hkn
      clear hc
      obtain ⟨v, hv⟩ : ∃ v, z k = v := ⟨_, rfl⟩
      rw [hv] at hcell
      have HV := Lib.hid hv
      clear hv
      have hix0 : (0 : Int) ≤ (k : Int) := by omega
      have hix1 : (k : Int) < (n : Int) := by omega
      obtain ⟨o, ho⟩ : ∃ o, lstO z af x k = o := ⟨_, rfl⟩
      rw [ho]
      have HO := Lib.hid ho
      clear ho
      rcases Bool.eq_false_or_eq_true af with haf | haf
      · by_cases h2 : x < v
        · have HT := Lib.hid (show af = true → x < z k from fun _ => by rw [HV.out]; exact h2)
          rcases o with _ | c
          · have HE := Lib.hid (lstO_first (z := z) (af := af) (x := x) HT.out HO.out)
            rw [HV.out] at HE
            have HB1 : bIs (none : Option Int) = false := rfl
            have HB2 : bOf (none : Option Int) = 0 := rfl
            rw [HB1, HB2]
            clear HB1 HB2
            go_wp2_with fail
            go_round
            case rel => exact ⟨k + 1, by omega, by go_num, by rw [HE.out]; rfl, by rw [HE.out]; rfl⟩
            case measure => simp [intOf]; omega
          · have HB1 : bIs (some c) = true := rfl
            have HB2 : bOf (some c) = c := rfl
            rw [HB1, HB2]
            clear HB1 HB2
            by_cases h3 : v < c
            · have HE := Lib.hid (lstO_less (z := z) (af := af) (x := x) HT.out HO.out (by rw [HV.out]; exact h3))
              rw [HV.out] at HE
              go_wp2_with fail
              go_round
              case rel => exact ⟨k + 1, by omega, by go_num, by rw [HE.out]; rfl, by rw [HE.out]; rfl⟩
              case measure => simp [intOf]; omega
            · have HE := Lib.hid (lstO_more (z := z) (af := af) (x := x) HT.out HO.out (by rw [HV.out]; exact h3))
              go_wp2_with fail
              go_round
              case rel => exact ⟨k + 1, by omega, by go_num, by rw [HE.out]; rfl, by rw [HE.out]; rfl⟩
              case measure => simp [intOf]; omega
        · have HAF := Lib.hid haf
          have HE := Lib.hid (lstO_no (z := z) (x := x) HAF.out (by rw [HV.out]; exact h2))
          rw [HO.out] at HE
          rcases o with _ | c
          · have HB1 : bIs (none : Option Int) = false := rfl
            have HB2 : bOf (none : Option Int) = 0 := rfl
            rw [HB1, HB2]
            clear HB1 HB2
            go_wp2_with fail
            go_round
            case rel => exact ⟨k + 1, by omega, by go_num, by rw [HE.out]; rfl, by rw [HE.out]; rfl⟩
            case measure => simp [intOf]; omega
          · have HB1 : bIs (some c) = true := rfl
            have HB2 : bOf (some c) = c := rfl
            rw [HB1, HB2]
            clear HB1 HB2
            go_wp2_with fail
            go_round
            case rel => exact ⟨k + 1, by omega, by go_num, by rw [HE.out]; rfl, by rw [HE.out]; rfl⟩
            case measure => simp [intOf]; omega
      · have HT := Lib.hid (show af = true → x < z k from fun h => by rw [haf] at h; cases h)
        rcases o with _ | c
        · have HE := Lib.hid (lstO_first (z := z) (af := af) (x := x) HT.out HO.out)
          rw [HV.out] at HE
          have HB1 : bIs (none : Option Int) = false := rfl
          have HB2 : bOf (none : Option Int) = 0 := rfl
          rw [HB1, HB2]
          clear HB1 HB2
          go_wp2_with fail
          go_round
          case rel => exact ⟨k + 1, by omega, by go_num, by rw [HE.out]; rfl, by rw [HE.out]; rfl⟩
          case measure => simp [intOf]; omega
        · have HB1 : bIs (some c) = true := rfl
          have HB2 : bOf (some c) = c := rfl
          rw [HB1, HB2]
          clear HB1 HB2
          by_cases h3 : v < c
          · have HE := Lib.hid (lstO_less (z := z) (af := af) (x := x) HT.out HO.out (by rw [HV.out]; exact h3))
            rw [HV.out] at HE
            go_wp2_with fail
            go_round
            case rel => exact ⟨k + 1, by omega, by go_num, by rw [HE.out]; rfl, by rw [HE.out]; rfl⟩
            case measure => simp [intOf]; omega
          · have HE := Lib.hid (lstO_more (z := z) (af := af) (x := x) HT.out HO.out (by rw [HV.out]; exact h3))
            go_wp2_with fail
            go_round
            case rel => exact ⟨k + 1, by omega, by go_num, by rw [HE.out]; rfl, by rw [HE.out]; rfl⟩
            case measure => simp [intOf]; omega
    · obtain rfl : k = n := by omega
      go_wp2_with fail
      go_ret2
      exact ⟨rfl, rfl⟩

set_option maxHeartbeats 4000000 in
theorem xrising_own (a : Option Addr) (n cap : Nat) (z : Nat → Int) (L : List Int) (w : World) (h : Zs w a n cap z) (hl : ∀ x, x ∈ L ↔ ∃ i, i < n ∧ z i = x) (hn : n ≤ 1099511627776) :
    Calls Try.prog 26 #[.slice a n cap] w fun e w' => ∃ v, e = .returned v ∧ Il w' v (rise L) ∧ Below w.heap.size w w' := by
  have HZ := Lib.hid h
  have b1 := h.1
  have b2 := h.2.1
  unfold maxLen at b2
  clear h
  obtain ⟨i0, hi, hzz⟩ := Option.map_eq_some_iff.1 infoIntE
  simp only [Prod.mk.injEq] at hzz
  obtain ⟨hz0, hz1, hz2⟩ := hzz
  go_enter Try.func26, Try.ntmps26
  go_wp2_with fail
  refine calls_name fun W0 hW => ?_
  have HB := Lib.hid (show Below w.heap.size w W0 by rw [← hW]; exact Below.refl _ _)
  have HZ0 := Lib.hid (HZ.out.below HB.out)
  clear hW
  refine (xleast_any _ _ _ z false 0 _ HZ0.out).mono ?_
  rintro e w1 ⟨rfl, rfl⟩
  go_wp2_with fail
  go_loopw [3, 4, 5] (fun out xs oks wr => ∃ (o : Option Int) (l : List Int), xs = .int .i64 (bOf o) ∧ oks = .bool (bIs o) ∧ Gat z n o l ∧ Ow w1.heap.size 3 wr out l ∧ Below w1.heap.size w1 wr) (fun _ xs oks _ => if boolOf oks then cge z n (intOf xs) else 0)
  case atStart => exact ⟨lstO z false 0 n, [], rfl, rfl, Gat.start z n, Ow.nil _ _ _, Below.refl _ _⟩
  case round =>
    obtain ⟨o, l, rfl, rfl, hg, how, hbel⟩ := hrel
    have HG := Lib.hid hg
    have HOW := Lib.hid how
    have HB2 := Lib.hid hbel
    have hsz := hbel.size
    have hll := gat_len hg
    clear hg how
    rcases o with _ | x
    · have HB3 : bIs (none : Option Int) = false := rfl
      rw [HB3]
      clear HB3
      have HR := Lib.hid (HG.out.end hl)
      have hil := HOW.out.il
      rw [HR.out] at hil
      have HIL := Lib.hid hil
      clear hil
      go_wp2_with fail
      go_ret
      exact ⟨_, rfl, HIL.out, HB.out.trans (hbel.mono HB.out.size)⟩
    · have HB3 : bIs (some x) = true := rfl
      have HB4 : bOf (some x) = x := rfl
      rw [HB3, HB4]
      clear HB3 HB4
      obtain ⟨hx5, hx6, hx7⟩ := HG.out.2.2.2 x rfl
      have hcp := cge_pos hx5
      have HX5 := Lib.hid hx5
      clear hx5 hx6 hx7
      go_wp2_with (at_builtin; refine wpList_append_own_at _ rfl (.tmp 12) (.tmp 14) 23 rfl w1.heap.size 3 i0 (.int .i64 0) 1 8 underIntsE hi hz0 hz1 hz2 rfl (by decide) _ l.length (l.map (Value.int .i64)) rfl (World.ownsRow.alloc HOW.out _) ⟨wr.heap.size, 0, none⟩ 1 1 [.int .i64 x] (by first | rfl | simp) rfl (by intro j u hj; rcases j with _ | j; (· simp at hj; subst hj; simp [Addr.add]); (· simp at hj)) (by intro u hu; simp at hu; subst hu; rfl) (by unfold maxLen; omega) (by omega) (by simp; omega) ?_; intro v2 w2 hm2 hg2 _ hat2; have HO2 := Lib.hid (Ow.push hm2); have HB5 := Lib.hid ((HB2.out.alloc hsz _).grown hg2 (by simp; omega) (fun k hk => (HOW.out.lt k hk).1)); clear hm2 hg2 hat2)
      have HZ2 := Lib.hid (HZ0.out.below HB5.out)
      refine (xleast_any _ _ _ z true x _ HZ2.out).mono ?_
      rintro e w3 ⟨rfl, rfl⟩
      have HG2 := Lib.hid HG.out.step
      obtain ⟨o2, ho2⟩ : ∃ o, lstO z true x n = o := ⟨_, rfl⟩
      rw [ho2] at HG2 ⊢
      have HO3 := Lib.hid ho2
      clear ho2
      go_wp2_with fail
      go_roundw
      case rel => exact ⟨o2, l ++ [x], rfl, rfl, HG2.out, HO2.out, HB5.out⟩
      case measure =>
        simp only [boolOf, intOf, if_true]
        rcases o2 with _ | y
        · simp only [bIs, Option.isSome_none, Bool.false_eq_true, if_false]; exact hcp
        · simp only [bIs, bOf, Option.isSome_some, if_true, Option.getD_some]
          exact cge_lt HX5.out ((HG2.out.2.2.2 y rfl).2.1 x (by simp))

end Go.Proofs.Ytmljfaplohbjcaa
