/- Contracts of slices.rotateCmpFunc and symMergeCmpFunc at a row of int that the call made: 'cmp' may lay blocks. -/
import Derived.Test.YtnillajhhimeiaaDoorSrtA
namespace Go.Proofs.YtnillajhhimeiaaDoor
open Go.RowKit

set_option maxHeartbeats 8000000 in
set_option maxRecDepth 100000 in
/-- slices.rotateCmpFunc: two neighbouring ranges exchanged -/
theorem rotate_any (g n K cap a m b : Nat) (cv : Value) (d : Nat → Nat) (w0 w : World) (hS : Sw g n K d w0 w) (ham : a < m) (hmb : m < b) (hb : b ≤ n) (hn : n ≤ 2 ^ 40) :
    Calls Tryd.prog 90 #[.slice (some ⟨g, 0, none⟩) n cap, .int .i64 a, .int .i64 m, .int .i64 b, cv] w fun e w' => e = .returned (.tuple #[]) ∧ Sw g n K (rot a m b d) w0 w' := by
  have HS := Lib.hid hS
  clear hS
  have mixed : Tryd.prog.follows Departure.mixedOrders = true := by kernel_rfl
  go_enter Tryd.func90, Tryd.ntmps90
  go_wp2
  go_loopw [10, 11] (fun vi vj wr => ∃ (i j : Nat) (dk : Nat → Nat), vi = .int .i64 i ∧ vj = .int .i64 j ∧ 0 < i ∧ 0 < j ∧ i ≤ m - a ∧ j ≤ b - m ∧ Hid (Sw g n K dk w0 wr) ∧ Hid (rot (m - i) m (m + j) dk = rot a m b d)) (fun vi vj _ => (intOf vi).toNat + (intOf vj).toNat)
  case atStart => exact ⟨m - a, b - m, d, by first | go_num | (congr 1; omega), by first | go_num | (congr 1; omega), by omega, by omega, by omega, by omega, HS, Lib.hid (by rw [show m - (m - a) = a by omega, show m + (b - m) = b by omega])⟩
  case round =>
    clear HS
    obtain ⟨i, j, dk, rfl, rfl, hi0, hj0, hi, hj, HS, HE⟩ := hrel
    have em : IntKind.i64.wrap ((m : Int) - (i : Int)) = ((m - i : Nat) : Int) := by rw [IntKind.wrap_i64]; omega
    rcases Nat.lt_trichotomy i j with hij | hij | hij
    · have h1 : ¬ (i : Int) = (j : Int) := by omega
      have h2 : ¬ (j : Int) < (i : Int) := by omega
      have e3 : ((m : Int) - (i : Int)) = ((m - i : Nat) : Int) := by omega
      have e4 : ((m : Int) + (j : Int) - (i : Int)) = ((m + j - i : Nat) : Int) := by omega
      have HC := Lib.hid (swapRange_any g n K cap (m - i) (m + j - i) i cv dk w0 wr HS.out (by omega) (by omega) hn)
      clear HS
      go_wp2_with fail
      refine HC.out.mono ?_
      rintro e w1 ⟨rfl, hs⟩
      have HS := Lib.hid hs
      clear hs HC
      go_wp2
      go_roundw
      case rel => exact ⟨i, j - i, _, rfl, by first | go_num | (congr 1; omega), by omega, by omega, by omega, by omega, HS, Lib.hid (by rw [rot_right m i j dk (by omega) hij hi0]; exact HE.out)⟩
      case measure => (first | (simp [intOf]; done) | (simp [intOf]; omega))
    · subst hij
      have e3 : ((m : Int) - (i : Int)) = ((m - i : Nat) : Int) := by omega
      have HC := Lib.hid (swapRange_any g n K cap (m - i) m i cv dk w0 wr HS.out (by omega) (by omega) hn)
      clear HS
      rw [rot_end m i dk (by omega), HE.out] at HC
      go_wp2_with fail
      refine HC.out.mono ?_
      rintro e w1 ⟨rfl, hs⟩
      go_wp2
      go_end0
      exact ⟨rfl, hs⟩
    · have h1 : ¬ (i : Int) = (j : Int) := by omega
      have h2 : (j : Int) < (i : Int) := by omega
      have e3 : ((m : Int) - (i : Int)) = ((m - i : Nat) : Int) := by omega
      have HC := Lib.hid (swapRange_any g n K cap (m - i) m j cv dk w0 wr HS.out (by omega) (by omega) hn)
      clear HS
      go_wp2_with fail
      refine HC.out.mono ?_
      rintro e w1 ⟨rfl, hs⟩
      have HS := Lib.hid hs
      clear hs HC
      go_wp2
      go_roundw
      case rel => exact ⟨i - j, j, _, by first | go_num | (congr 1; omega), rfl, by omega, by omega, by omega, by omega, HS, Lib.hid (by rw [rot_left m i j dk (by omega) hij hj0]; exact HE.out)⟩
      case measure => (first | (simp [intOf]; done) | (simp [intOf]; omega))

set_option maxHeartbeats 16000000 in
set_option maxRecDepth 100000 in
/-- slices.symMergeCmpFunc: one element on the left -/
theorem symA_any (g n K cap : Nat) (T : Nat → Nat → Bool) (hO : Ord T) (cf : Nat) (cb : Array Value) (w0 : World) (eg : ∀ args w, (callFunc cf args).run Tryd.prog w = .ok (.enter cf args) w) (hC : Cmp g K T cf cb w0) (hn : n ≤ 2 ^ 40) (a m b : Nat) (d : Nat → Nat) (w : World)
    (h1 : a < m) (h2 : m < b) (hb : b ≤ n) (hS : Sw g n K d w0 w) (hT1 : Srt T a m d) (hT2 : Srt T m b d) (hCr : Crs a m b d) (c1 : m = a + 1) :
    Calls Tryd.prog 82 #[.slice (some ⟨g, 0, none⟩) n cap, .int .i64 a, .int .i64 m, .int .i64 b, .func (.func cf) #[] cb] w fun e w' => e = .returned (.tuple #[]) ∧ ∃ d', Sw g n K d' w0 w' ∧ Rng a b d d' ∧ Srt T a b d' := by
  have HO := Lib.hid hO
  have HC := Lib.hid hC
  have HS := Lib.hid hS
  have HA := Lib.hid hT1
  have HB := Lib.hid hT2
  have HCR := Lib.hid hCr
  clear hO hC hS hT1 hT2 hCr
  have mixed : Tryd.prog.follows Departure.mixedOrders = true := by kernel_rfl
  have e1 : (m : Int) - (a : Int) = 1 := by omega
  have hm1 : m ≤ a + 1 := by omega
  clear c1
  go_enter Tryd.func82, Tryd.ntmps82
  go_wp2
  go_loopw [10, 11] (fun vi vj wr => ∃ i j : Nat, vi = .int .i64 i ∧ vj = .int .i64 j ∧ m ≤ i ∧ i ≤ j ∧ j ≤ b ∧ Hid (Sw g n K d w0 wr) ∧ Hid (∀ q, m ≤ q → q < i → T (d q) (d a) = true) ∧ Hid (∀ q, j ≤ q → q < b → T (d a) (d q) = true)) (fun vi vj _ => (intOf vj).toNat - (intOf vi).toNat)
  case atStart => exact ⟨m, b, rfl, rfl, by omega, by omega, by omega, HS, Lib.hid (fun q q1 q2 => by omega), Lib.hid (fun q q1 q2 => by omega)⟩
  case round =>
    clear HS
    obtain ⟨i, j, rfl, rfl, hi1, hij, hjb, HS, HL, HR⟩ := hrel
    by_cases hlt : i < j
    · have hltz : (i : Int) < (j : Int) := by omega
      obtain ⟨h, hh⟩ : ∃ h, (i + j) / 2 = h := ⟨_, rfl⟩
      have e5 : ((i : Int) + (j : Int)) / 2 = (h : Int) := by omega
      have hi2 : i ≤ h := by omega
      have hj2 : h < j := by omega
      have hhz : (h : Int) < (n : Int) := by omega
      have haz : (a : Int) < (n : Int) := by omega
      clear hh
      have l1 := HS.out.cell (h) (by omega)
      have l2 := HS.out.cell (a) (by omega)
      obtain ⟨x, hx⟩ : ∃ x, d (h) = x := ⟨_, rfl⟩
      obtain ⟨y, hy⟩ : ∃ x, d (a) = x := ⟨_, rfl⟩
      rw [hx] at l1
      rw [hy] at l2
      have hlt2 : y < x := by have := HCR.out (a) (h) (by omega) (by omega) (by omega) (by omega); omega
      have hxK : x < K := by have := HS.out.lt (h) (by omega); omega
      have HX := Lib.hid hx
      have HY := Lib.hid hy
      clear hx hy
      by_cases hT : T x y = true
      · have HT2 := Lib.hid hT
        clear hT
        go_wp2_with fail
        go_region_held3 (fun w' => w'.cell? ⟨g, h, none⟩ = some (.int .i64 x) ∧ w'.cell? ⟨g, a, none⟩ = some (.int .i64 y))
          (first | (go_keep; done) | ((try dsimp only); (repeat' apply And.intro) <;> (first | assumption | (go_keep; done))))
          (first | (go_at_fn cf; refine (HC.out _ x y (by first | with_reducible exact HS.out.sk | with_reducible exact HS.out.sk.drew) hlt2 hxK).mono ?_; rintro e w1 ⟨c, rfl, hb, hc⟩; replace hb : Below wr.heap.size wr w1 := bel_of_drw hb; have l3 := (hb.cell (p := ⟨g, h, none⟩) HS.out.bk.lt).trans l1; have l4 := (hb.cell (p := ⟨g, a, none⟩) HS.out.bk.lt).trans l2; have HS1 := Lib.hid (HS.out.below hb); have hcl : c < 0 := hc.2 HT2.out; clear hc hb l1 l2 HS))
        have hcd : decide (c < 0) = true := decide_eq_true (by omega)
        clear l3 l4
        have HZ := Lib.hid (show ∀ q, m ≤ q → q < h + 1 → T (d q) (d a) = true from fun q q1 q2 => by
          by_cases e : q = h
          · rw [e, HX.out, HY.out]; exact HT2.out
          · exact HO.out.trans _ _ _ (HB.out q h q1 (by omega) (by omega)) (by rw [HX.out, HY.out]; exact HT2.out))
        go_wp2
        go_roundw
        case rel => first | exact ⟨h + 1, j, by go_num, rfl, by omega, by omega, hjb, HS1, HZ, HR⟩ | exact ⟨h + 1, by omega, j, rfl, by omega, by omega, hjb, HZ, HR⟩
        case measure => (first | (simp [intOf]; done) | (simp [intOf]; omega))
      · have HT2 := Lib.hid hT
        clear hT
        go_wp2_with fail
        go_region_held3 (fun w' => w'.cell? ⟨g, h, none⟩ = some (.int .i64 x) ∧ w'.cell? ⟨g, a, none⟩ = some (.int .i64 y))
          (first | (go_keep; done) | ((try dsimp only); (repeat' apply And.intro) <;> (first | assumption | (go_keep; done))))
          (first | (go_at_fn cf; refine (HC.out _ x y (by first | with_reducible exact HS.out.sk | with_reducible exact HS.out.sk.drew) hlt2 hxK).mono ?_; rintro e w1 ⟨c, rfl, hb, hc⟩; replace hb : Below wr.heap.size wr w1 := bel_of_drw hb; have l3 := (hb.cell (p := ⟨g, h, none⟩) HS.out.bk.lt).trans l1; have l4 := (hb.cell (p := ⟨g, a, none⟩) HS.out.bk.lt).trans l2; have HS1 := Lib.hid (HS.out.below hb); have hcl : ¬ c < 0 := fun hh => HT2.out (hc.1 hh); clear hc hb l1 l2 HS))
        have hcd : decide (c < 0) = false := decide_eq_false (by omega)
        clear l3 l4
        have hcn : ¬ c < 0 := by omega
        have HZ := Lib.hid (show ∀ q, h ≤ q → q < b → T (d a) (d q) = true from fun q q1 q2 => by
          have h3 : T (d a) (d h) = true := by rw [HX.out, HY.out]; exact HO.out.swap hlt2 HT2.out
          by_cases e : q = h
          · rw [e]; exact h3
          · exact HO.out.trans _ _ _ h3 (HB.out h q (by omega) (by omega) q2))
        go_wp2
        go_roundw
        case rel => first | exact ⟨i, h, rfl, by first | rfl | go_num, by omega, by omega, by omega, HS1, HL, HZ⟩ | exact ⟨i, rfl, h, rfl, by omega, by omega, by omega, HL, HZ⟩ | ((repeat apply Exists.intro); exact ⟨⟨i, h, rfl, by first | rfl | go_num, by omega, by omega, by omega, HS1, HL, HZ⟩, rfl⟩)
        case measure => (first | (simp [intOf]; done) | (simp [intOf]; omega))
    · have hltz : ¬ (i : Int) < (j : Int) := by omega
      obtain rfl : i = j := by omega
      go_wp2
      go_loopw [13] (fun vk wr => ∃ k : Nat, vk = .int .i64 k ∧ a ≤ k ∧ k + 1 ≤ i ∧ Hid (Sw g n K (shl a k d) w0 wr)) (fun vk _ => i - (intOf vk).toNat)
      case atStart => exact ⟨a, rfl, Nat.le_refl _, by omega, by rw [shl_zero]; exact HS⟩
      case round =>
        clear HS
        obtain ⟨k, rfl, hak, hki, HS⟩ := hrel
        by_cases hk : k + 1 < i
        · have hkz : (k : Int) < (i : Int) - 1 := by omega
          have ek : ((k : Int) + 1).toNat = k + 1 := by omega
          have bk1 : (k : Int) + 1 < (n : Int) := by omega
          have bk0 : (k : Int) < (n : Int) := by omega
          have l1 := HS.out.cell (k) (by omega)
          have l2 := HS.out.cell (k + 1) (by omega)
          have HS2 := Lib.hid (HS.out.swp (i := k) (j := k + 1) (by omega) (by omega))
          rw [shl_succ a k d hak] at HS2
          obtain ⟨x, hx⟩ : ∃ x, shl a k d (k) = x := ⟨_, rfl⟩
          obtain ⟨y, hy⟩ : ∃ x, shl a k d (k + 1) = x := ⟨_, rfl⟩
          rw [hx] at l1 HS2
          rw [hy] at l2 HS2
          clear hx hy
          have hf1 := HS.out.bk.frozen (k)
          have hf2 := HS.out.bk.frozen (k + 1)
          obtain ⟨u, l5⟩ := HS.out.mid (i := k) (j := k + 1) (by omega) (.int .i64 y)
          clear HS
          go_wp2_with fail
          go_big_region_o
          clear l1 l2 l5 hf1 hf2
          generalize hw2 : World.setCell (World.setCell wr _ _) _ _ = w2 at HS2 ⊢
          clear hw2
          go_wp2
          go_roundw
          case rel => exact ⟨k + 1, by go_num, by omega, by omega, by first | exact HS2 | exact Lib.hid HS2.out.drew⟩
          case measure => (first | (simp [intOf]; done) | (simp [intOf]; omega))
        · have hkz : ¬ (k : Int) < (i : Int) - 1 := by omega
          go_wp2
          (try simp only [Exit.inBlock, Exit.then]); refine bodyPost_ret (results_none rfl _ _ _) rfl ?_
          obtain rfl : i = k + 1 := by omega
          obtain rfl : m = a + 1 := by omega
          have HD := shl_done (T := T) (a := a) (b := b) (i := k + 1) (d := d) HB.out (by omega) hjb HL.out HR.out
          rw [Nat.add_sub_cancel] at HD
          exact ⟨rfl, _, HS.out, HD.1, HD.2⟩

set_option maxHeartbeats 16000000 in
set_option maxRecDepth 100000 in
/-- slices.symMergeCmpFunc: one element on the right -/
theorem symB_any (g n K cap : Nat) (T : Nat → Nat → Bool) (hO : Ord T) (cf : Nat) (cb : Array Value) (w0 : World) (eg : ∀ args w, (callFunc cf args).run Tryd.prog w = .ok (.enter cf args) w) (hC : Cmp g K T cf cb w0) (hn : n ≤ 2 ^ 40) (a m b : Nat) (d : Nat → Nat) (w : World)
    (h1 : a < m) (h2 : m < b) (hb : b ≤ n) (hS : Sw g n K d w0 w) (hT1 : Srt T a m d) (hT2 : Srt T m b d) (hCr : Crs a m b d) (c1 : ¬ m = a + 1) (c2 : b = m + 1) :
    Calls Tryd.prog 82 #[.slice (some ⟨g, 0, none⟩) n cap, .int .i64 a, .int .i64 m, .int .i64 b, .func (.func cf) #[] cb] w fun e w' => e = .returned (.tuple #[]) ∧ ∃ d', Sw g n K d' w0 w' ∧ Rng a b d d' ∧ Srt T a b d' := by
  have HO := Lib.hid hO
  have HC := Lib.hid hC
  have HS := Lib.hid hS
  have HA := Lib.hid hT1
  have HB := Lib.hid hT2
  have HCR := Lib.hid hCr
  clear hO hC hS hT1 hT2 hCr
  have mixed : Tryd.prog.follows Departure.mixedOrders = true := by kernel_rfl
  have e1 : ¬ (m : Int) - (a : Int) = 1 := by omega
  have e1b : ((m : Int) - (a : Int) == 1) = false := by simpa using e1
  have e2 : (b : Int) - (m : Int) = 1 := by omega
  have hm1 : b ≤ m + 1 := by omega
  clear c1 c2
  go_enter Tryd.func82, Tryd.ntmps82
  go_wp2
  go_loopw [14, 15] (fun vi vj wr => ∃ i j : Nat, vi = .int .i64 i ∧ vj = .int .i64 j ∧ a ≤ i ∧ i ≤ j ∧ j ≤ m ∧ Hid (Sw g n K d w0 wr) ∧ Hid (∀ q, a ≤ q → q < i → T (d q) (d m) = true) ∧ Hid (∀ q, j ≤ q → q < m → T (d m) (d q) = true)) (fun vi vj _ => (intOf vj).toNat - (intOf vi).toNat)
  case atStart => exact ⟨a, m, rfl, rfl, by omega, by omega, by omega, HS, Lib.hid (fun q q1 q2 => by omega), Lib.hid (fun q q1 q2 => by omega)⟩
  case round =>
    clear HS
    obtain ⟨i, j, rfl, rfl, hi1, hij, hjb, HS, HL, HR⟩ := hrel
    by_cases hlt : i < j
    · have hltz : (i : Int) < (j : Int) := by omega
      obtain ⟨h, hh⟩ : ∃ h, (i + j) / 2 = h := ⟨_, rfl⟩
      have e5 : ((i : Int) + (j : Int)) / 2 = (h : Int) := by omega
      have hi2 : i ≤ h := by omega
      have hj2 : h < j := by omega
      have hhz : (h : Int) < (n : Int) := by omega
      have haz : (m : Int) < (n : Int) := by omega
      clear hh
      have l1 := HS.out.cell (m) (by omega)
      have l2 := HS.out.cell (h) (by omega)
      obtain ⟨x, hx⟩ : ∃ x, d (m) = x := ⟨_, rfl⟩
      obtain ⟨y, hy⟩ : ∃ x, d (h) = x := ⟨_, rfl⟩
      rw [hx] at l1
      rw [hy] at l2
      have hlt2 : y < x := by have := HCR.out (h) (m) (by omega) (by omega) (by omega) (by omega); omega
      have hxK : x < K := by have := HS.out.lt (m) (by omega); omega
      have HX := Lib.hid hx
      have HY := Lib.hid hy
      clear hx hy
      by_cases hT : T x y = true
      · have HT2 := Lib.hid hT
        clear hT
        go_wp2_with fail
        go_region_held3 (fun w' => w'.cell? ⟨g, m, none⟩ = some (.int .i64 x) ∧ w'.cell? ⟨g, h, none⟩ = some (.int .i64 y))
          (first | (go_keep; done) | ((try dsimp only); (repeat' apply And.intro) <;> (first | assumption | (go_keep; done))))
          (first | (go_at_fn cf; refine (HC.out _ x y (by first | with_reducible exact HS.out.sk | with_reducible exact HS.out.sk.drew) hlt2 hxK).mono ?_; rintro e w1 ⟨c, rfl, hb, hc⟩; replace hb : Below wr.heap.size wr w1 := bel_of_drw hb; have l3 := (hb.cell (p := ⟨g, m, none⟩) HS.out.bk.lt).trans l1; have l4 := (hb.cell (p := ⟨g, h, none⟩) HS.out.bk.lt).trans l2; have HS1 := Lib.hid (HS.out.below hb); have hcl : c < 0 := hc.2 HT2.out; clear hc hb l1 l2 HS))
        have hcd : decide (c < 0) = true := decide_eq_true (by omega)
        try simp only [hcd, Bool.not_true, Bool.not_false]
        clear l3 l4
        have HZ := Lib.hid (show ∀ q, h ≤ q → q < m → T (d m) (d q) = true from fun q q1 q2 => by
          have h3 : T (d m) (d h) = true := by rw [HX.out, HY.out]; exact HT2.out
          by_cases e : q = h
          · rw [e]; exact h3
          · exact HO.out.trans _ _ _ h3 (HA.out h q (by omega) (by omega) q2))
        go_wp2
        go_roundw
        case rel => first | exact ⟨i, h, rfl, by first | rfl | go_num, by omega, by omega, by omega, HS1, HL, HZ⟩ | exact ⟨i, rfl, h, rfl, by omega, by omega, by omega, HL, HZ⟩ | ((repeat apply Exists.intro); exact ⟨⟨i, h, rfl, by first | rfl | go_num, by omega, by omega, by omega, HS1, HL, HZ⟩, rfl⟩)
        case measure => (first | (simp [intOf]; done) | (simp [intOf]; omega))
      · have HT2 := Lib.hid hT
        clear hT
        go_wp2_with fail
        go_region_held3 (fun w' => w'.cell? ⟨g, m, none⟩ = some (.int .i64 x) ∧ w'.cell? ⟨g, h, none⟩ = some (.int .i64 y))
          (first | (go_keep; done) | ((try dsimp only); (repeat' apply And.intro) <;> (first | assumption | (go_keep; done))))
          (first | (go_at_fn cf; refine (HC.out _ x y (by first | with_reducible exact HS.out.sk | with_reducible exact HS.out.sk.drew) hlt2 hxK).mono ?_; rintro e w1 ⟨c, rfl, hb, hc⟩; replace hb : Below wr.heap.size wr w1 := bel_of_drw hb; have l3 := (hb.cell (p := ⟨g, m, none⟩) HS.out.bk.lt).trans l1; have l4 := (hb.cell (p := ⟨g, h, none⟩) HS.out.bk.lt).trans l2; have HS1 := Lib.hid (HS.out.below hb); have hcl : ¬ c < 0 := fun hh => HT2.out (hc.1 hh); clear hc hb l1 l2 HS))
        have hcd : decide (c < 0) = false := decide_eq_false (by omega)
        try simp only [hcd, Bool.not_false]
        clear l3 l4
        have hcn : ¬ c < 0 := by omega
        have HZ := Lib.hid (show ∀ q, a ≤ q → q < h + 1 → T (d q) (d m) = true from fun q q1 q2 => by
          have h3 : T (d h) (d m) = true := by rw [HX.out, HY.out]; exact HO.out.swap hlt2 HT2.out
          by_cases e : q = h
          · rw [e]; exact h3
          · exact HO.out.trans _ _ _ (HA.out q h q1 (by omega) (by omega)) h3)
        go_wp2
        go_roundw
        case rel => first | exact ⟨h + 1, j, by go_num, rfl, by omega, by omega, hjb, HS1, HZ, HR⟩ | exact ⟨h + 1, by omega, j, rfl, by omega, by omega, hjb, HZ, HR⟩
        case measure => (first | (simp [intOf]; done) | (simp [intOf]; omega))
    · have hltz : ¬ (i : Int) < (j : Int) := by omega
      obtain rfl : i = j := by omega
      go_wp2
      go_loopw [17] (fun vk wr => ∃ k : Nat, vk = .int .i64 k ∧ i ≤ k ∧ k ≤ m ∧ Hid (Sw g n K (shr m k d) w0 wr)) (fun vk _ => (intOf vk).toNat)
      case atStart => exact ⟨m, rfl, by omega, Nat.le_refl _, by rw [shr_zero]; exact HS⟩
      case round =>
        clear HS
        obtain ⟨k, rfl, hak, hki, HS⟩ := hrel
        by_cases hk : i < k
        · obtain ⟨kp, rfl⟩ : ∃ q, k = q + 1 := ⟨k - 1, by omega⟩
          have zk : ((kp + 1 : Nat) : Int) = (kp : Int) + 1 := by omega
          have hkz : (i : Int) < (kp : Int) + 1 := by omega
          have ek : ((kp : Int) + 1).toNat = kp + 1 := by omega
          have bk1 : (kp : Int) + 1 < (n : Int) := by omega
          have bk0 : (kp : Int) < (n : Int) := by omega
          have l1 := HS.out.cell (kp + 1) (by omega)
          have l2 := HS.out.cell (kp) (by omega)
          have HS2 := Lib.hid (HS.out.swp (i := kp + 1) (j := kp) (by omega) (by omega))
          rw [show swpN (shr m (kp + 1) d) (kp + 1) kp = shr m kp d from shr_succ m (kp + 1) d hki (by omega)] at HS2
          obtain ⟨x, hx⟩ : ∃ x, shr m (kp + 1) d (kp + 1) = x := ⟨_, rfl⟩
          obtain ⟨y, hy⟩ : ∃ x, shr m (kp + 1) d (kp) = x := ⟨_, rfl⟩
          rw [hx] at l1 HS2
          rw [hy] at l2 HS2
          clear hx hy
          have hf1 := HS.out.bk.frozen (kp + 1)
          have hf2 := HS.out.bk.frozen (kp)
          obtain ⟨u, l5⟩ := HS.out.mid (i := kp + 1) (j := kp) (by omega) (.int .i64 y)
          clear HS
          go_wp2_with fail
          go_big_region_o
          clear l1 l2 l5 hf1 hf2
          generalize hw2 : World.setCell (World.setCell wr _ _) _ _ = w2 at HS2 ⊢
          clear hw2
          go_wp2
          go_roundw
          case rel => exact ⟨kp, by first | rfl | go_num, by omega, by omega, by first | exact HS2 | exact Lib.hid HS2.out.drew⟩
          case measure => (first | (simp [intOf]; done) | (simp [intOf]; omega))
        · have hkz : ¬ (i : Int) < (k : Int) := by omega
          go_wp2
          (try simp only [Exit.inBlock, Exit.then]); refine bodyPost_ret (results_none rfl _ _ _) rfl ?_
          obtain rfl : i = k := by omega
          obtain rfl : b = m + 1 := by omega
          have HD := shr_done (T := T) (a := a) (m := m) (i := i) (d := d) HA.out (by omega) hjb HL.out HR.out
          exact ⟨rfl, _, HS.out, HD.1, HD.2⟩

end Go.Proofs.YtnillajhhimeiaaDoor
