/- Contracts of ref25.within, all, rank, law25.many, small. No condition but the slices' form. -/
import Derived.Test.YtjlefaojlngbiaaGrpA
namespace Go.Proofs.Ytjlefaojlngbiaa
open Go.RowKit

set_option maxHeartbeats 1000000 in
theorem within_any (x : Int) (w : World) : Calls Try.prog 17 #[.int .i64 x] w fun e w' => e = .returned (.bool (decide (-1000000 ≤ x ∧ x ≤ 1000000))) ∧ w = w' := by
  go_enter Try.func17, Try.ntmps17
  by_cases h1 : -1000000 ≤ x
  · go_wp2
    go_ret
    exact ⟨by first | (simp [h1]; done) | (simp; omega), rfl⟩
  · go_wp2
    go_ret
    exact ⟨by first | (simp; done) | (simp; omega) | (simp [h1]; omega), rfl⟩

set_option maxHeartbeats 2000000 in
theorem all_any (a : Option Addr) (n cap : Nat) (z : Nat → Int) (w : World) (h : Is w a n cap z) :
    Calls Try.prog 13 #[.slice a n cap] w fun e w' => e = .returned (.bool (inRb z n)) ∧ Below w.heap.size w w' := by
  obtain ⟨h0, h1, h2⟩ := h
  have HZ := Lib.hid h2
  have HT := Lib.hid (fun (h : InR z n) => inRb_true h)
  have HF := Lib.hid (fun k (hk : k < n) (h : ¬ (-1000000 ≤ z k ∧ z k ≤ 1000000)) => inRb_false hk h)
  unfold maxLen at h1
  clear h2
  obtain ⟨r, hr⟩ : ∃ r, inRb z n = r := ⟨_, rfl⟩
  rw [hr] at HT HF ⊢
  clear hr
  have HW := Lib.hid (fun x w => within_any x w)
  go_enter Try.func13, Try.ntmps13
  go_wp2
  go_loopw [3] (fun i wr => ∃ k : Nat, k ≤ n ∧ i = .int .i64 k ∧ Hid (∀ j, j < k → -1000000 ≤ z j ∧ z j ≤ 1000000) ∧ wr = w) (fun i _ => n - (intOf i).toNat)
  case atStart => exact ⟨0, Nat.zero_le _, rfl, Lib.hid (fun j hj => by omega), rfl⟩
  case round =>
    obtain ⟨k, hk, rfl, HK, rfl⟩ := hrel
    by_cases hkn : k < n
    · have hkz : (k : Int) < (n : Int) := by omega
      obtain ⟨b, off, rfl, hc⟩ := HZ.out (by omega)
      have c1 := hc k hkn
      clear hc
      obtain ⟨u, hu⟩ : ∃ u, z k = u := ⟨_, rfl⟩
      rw [hu] at c1
      have HU := Lib.hid hu
      clear hu
      by_cases g1 : -1000000 ≤ u ∧ u ≤ 1000000
      · have hd : decide (-1000000 ≤ u ∧ u ≤ 1000000) = true := decide_eq_true g1
        have HW2 := HW.out u
        rw [hd] at HW2
        have HG := Lib.hid g1
        clear hd g1
        go_wp2_with (go_at_call 17; refine (HW2 _).mono ?_; rintro e w' ⟨rfl, rfl⟩)
        go_roundw
        case rel => exact ⟨k + 1, by omega, by go_num, Lib.hid (fun j hj => by
          by_cases e : j = k
          · rw [e, HU.out]; exact HG.out
          · exact HK.out j (by omega)), by first | trivial | rfl⟩
        case measure => (first | (simp [intOf]; done) | (simp [intOf]; omega))
      · have hd : decide (-1000000 ≤ u ∧ u ≤ 1000000) = false := decide_eq_false g1
        have HW2 := HW.out u
        rw [hd] at HW2
        have HR := Lib.hid (HF.out k hkn (by rw [HU.out]; exact g1))
        clear hd g1
        go_wp2_with (go_at_call 17; refine (HW2 _).mono ?_; rintro e w' ⟨rfl, rfl⟩)
        go_ret
        refine ⟨?_, Below.refl _ _⟩
        simp [HR.out]
    · have hkz : ¬ (k : Int) < (n : Int) := by omega
      have HR := Lib.hid (HT.out (fun j hj => HK.out j (by omega)))
      go_wp2
      go_ret
      refine ⟨?_, Below.refl _ _⟩
      simp [HR.out]

set_option maxHeartbeats 4000000 in
theorem rank_any (a : Option Addr) (n cap i : Nat) (z : Nat → Int) (w : World) (h : Is w a n cap z) (hi : i < n) (hn : n ≤ 1000) :
    Calls Try.prog 14 #[.slice a n cap, .int .i64 i] w fun e w' => e = .returned (.int .i64 (rnk (keyT (totL z)) n i : Nat)) ∧ Below w.heap.size w w' := by
  obtain ⟨h0, h1, h2⟩ := h
  obtain ⟨b, off, rfl, hz⟩ := h2 (by omega)
  have c2 := hz i hi
  have hiz : (i : Int) < (n : Int) := by omega
  have HZ := Lib.hid hz
  unfold maxLen at h1
  clear h2 hz
  obtain ⟨v, hv⟩ : ∃ u, z i = u := ⟨_, rfl⟩
  rw [hv] at c2
  have HV := Lib.hid hv
  have C2 := Lib.hid c2
  clear hv c2
  have mixed : Try.prog.follows Departure.mixedOrders = true := by kernel_rfl
  unfold rnk
  obtain ⟨F, hF⟩ : ∃ F : Nat → Bool, F = fun u => keyT (totL z) u i := ⟨_, rfl⟩
  rw [← hF]
  have HF := Lib.hid (fun u => congrFun hF u)
  clear hF
  have HS := Lib.hid (cntP_succ · F)
  have HL := Lib.hid (cntP_le · F)
  go_enter Try.func14, Try.ntmps14
  go_wp2
  go_loopw [5, 6] (fun s j wr => ∃ k : Nat, k ≤ n ∧ s = .int .i64 (cntP k F : Nat) ∧ j = .int .i64 k ∧ Below w.heap.size w wr) (fun _ j _ => n - (intOf j).toNat)
  case atStart => exact ⟨0, Nat.zero_le _, rfl, rfl, Below.refl _ _⟩
  case round =>
    obtain ⟨k, hk, rfl, rfl, hbel⟩ := hrel
    have HB := Lib.hid hbel
    clear hbel
    by_cases hkn : k < n
    · have hkz : (k : Int) < (n : Int) := by omega
      have c1 := cell_keep (HZ.out k hkn) HB.out
      have c2 := cell_keep C2.out HB.out
      obtain ⟨u, hu⟩ : ∃ u, z k = u := ⟨_, rfl⟩
      rw [hu] at c1
      have HU := Lib.hid hu
      clear hu
      have hle := HL.out k
      obtain ⟨q, hq⟩ : ∃ q, cntP k F = q := ⟨_, rfl⟩
      have HQ := Lib.hid hq
      rw [hq] at hle ⊢
      clear hq
      have FT : Hid (F k = true → cntP (k + 1) F = q + 1) := Lib.hid (fun h => by rw [HS.out, h, HQ.out]; rfl)
      have FF : Hid (F k = false → cntP (k + 1) F = q) := Lib.hid (fun h => by rw [HS.out, h, HQ.out]; rfl)
      have FK := Lib.hid (HF.out k)
      rcases Int.lt_trichotomy u v with g | g | g
      · have d1 : decide (u < v) = true := decide_eq_true g
        have HK := Lib.hid (FT.out (by rw [FK.out]; unfold keyT totL; rw [HU.out, HV.out, d1]; rfl))
        go_wp2_with fail
        go_big_region_o
        go_wp2
        go_roundw
        case rel => exact ⟨k + 1, by omega, by rw [HK.out]; first | rfl | go_num, by go_num, HB.out.drew⟩
        case measure => (first | (simp [intOf]; done) | (simp [intOf]; omega))
      · have d1 : decide (u < v) = false := decide_eq_false (by omega)
        have d3 : decide (v < u) = false := decide_eq_false (by omega)
        have d2 : (u == v) = true := by simpa using g
        have n1 : ¬ u < v := by omega
        by_cases hki : k < i
        · have hkiz : (k : Int) < (i : Int) := by omega
          have HK := Lib.hid (FT.out (by rw [FK.out]; unfold keyT totL; rw [HU.out, HV.out, d1, d3, decide_eq_true hki]; rfl))
          have HG := Lib.hid g
          subst g
          go_wp2_with fail
          go_big_region_o
          go_wp2
          go_roundw
          case rel => exact ⟨k + 1, by omega, by rw [HK.out]; first | rfl | go_num, by go_num, HB.out.drew⟩
          case measure => (first | (simp [intOf]; done) | (simp [intOf]; omega))
        · have hkiz : ¬ (k : Int) < (i : Int) := by omega
          have HK := Lib.hid (FF.out (by rw [FK.out]; unfold keyT totL; rw [HU.out, HV.out, d1, d3, decide_eq_false hki]; rfl))
          subst g
          go_wp2_with fail
          go_big_region_o
          go_wp2
          go_roundw
          case rel => exact ⟨k + 1, by omega, by rw [HK.out], by go_num, HB.out.drew⟩
          case measure => (first | (simp [intOf]; done) | (simp [intOf]; omega))
      · have d1 : decide (u < v) = false := decide_eq_false (by omega)
        have d3 : decide (v < u) = true := decide_eq_true g
        have n1 : ¬ u < v := by omega
        have n2 : ¬ u = v := by omega
        have d2 : (u == v) = false := by simpa using n2
        have HK := Lib.hid (FF.out (by rw [FK.out]; unfold keyT totL; rw [HU.out, HV.out, d1, d3]; rfl))
        go_wp2_with fail
        go_big_region_o
        go_wp2
        go_roundw
        case rel => exact ⟨k + 1, by omega, by rw [HK.out], by go_num, HB.out.drew⟩
        case measure => (first | (simp [intOf]; done) | (simp [intOf]; omega))
    · have hkz : ¬ (k : Int) < (n : Int) := by omega
      obtain rfl : k = n := by omega
      go_wp2
      go_ret
      exact ⟨rfl, HB.out⟩

set_option maxHeartbeats 1000000 in
theorem many_any (a : Option Addr) (n cap : Nat) (z : Nat → Int) (w : World) (h : Is w a n cap z) : Calls Try.prog 5 #[.slice a n cap] w fun e w' => e = .returned (.bool (decide (40 < n ∧ n ≤ 200))) ∧ w = w' := by
  have l1 := h.1
  have l2 := h.2.1
  unfold maxLen at l2
  clear h
  by_cases h1 : 40 < n
  · have d1 : decide (40 < (n : Int)) = true := by simp; omega
    by_cases h2 : n ≤ 200
    · have d2 : decide ((n : Int) ≤ 200) = true := by simp; omega
      go_enter Try.func5, Try.ntmps5
      go_wp2_with fail
      go_ret
      exact ⟨by simp [h1, h2], rfl⟩
    · have d2 : decide ((n : Int) ≤ 200) = false := by simp; omega
      go_enter Try.func5, Try.ntmps5
      go_wp2_with fail
      go_ret
      exact ⟨by simp [h1, h2], rfl⟩
  · have d1 : decide (40 < (n : Int)) = false := by simp; omega
    go_enter Try.func5, Try.ntmps5
    go_wp2_with fail
    go_ret
    exact ⟨by simp [h1], rfl⟩

end Go.Proofs.Ytjlefaojlngbiaa
