import Derived.Test.YtjobopafcgnljaaGreatJoS
namespace Go.Proofs.YtjobopafcgnljaaGreat
open Go.RowKit
set_option maxHeartbeats 16000000 in
set_option maxRecDepth 100000 in
theorem symC_any (g n K cap : Nat) (T : Nat → Nat → Bool) (hO : Ord T) (cf : Nat) (cb : Array Value) (w0 : World) (eg : ∀ args w, (callFunc cf args).run Tryz.prog w = .ok (.enter cf args) w) (hC : Cmp g K T cf cb w0) (hn : n ≤ 2 ^ 40) (a m b : Nat) (d : Nat → Nat) (w : World)
  (h1 : a < m) (h2 : m < b) (hb : b ≤ n) (hS : Sw g n K d w0 w) (hT1 : Srt T a m d) (hT2 : Srt T m b d) (hCr : Crs a m b d) (c1 : ¬ m = a + 1) (c2 : ¬ b = m + 1) (s : Nat) (hs : b - a ≤ s + 1) (HI : Hid (∀ (a m b : Nat) (d : Nat → Nat) (w : World), b - a ≤ s → a < m → m < b → b ≤ n → Sw g n K d w0 w → Srt T a m d → Srt T m b d → Crs a m b d → Calls Tryz.prog 75 #[.slice (some ⟨g, 0, none⟩) n cap, .int .i64 a, .int .i64 m, .int .i64 b, .func (.func cf) #[] cb] w fun e w' => e = .returned (.tuple #[]) ∧ ∃ d', Sw g n K d' w0 w' ∧ Rng a b d d' ∧ Srt T a b d')) :
  Calls Tryz.prog 75 #[.slice (some ⟨g, 0, none⟩) n cap, .int .i64 a, .int .i64 m, .int .i64 b, .func (.func cf) #[] cb] w fun e w' => e = .returned (.tuple #[]) ∧ ∃ d', Sw g n K d' w0 w' ∧ Rng a b d d' ∧ Srt T a b d' := by
 have HO := Lib.hid hO
 have HC := Lib.hid hC
 have HS := Lib.hid hS
 have HA := Lib.hid hT1
 have HB := Lib.hid hT2
 have HCR := Lib.hid hCr
 clear hO hC hS hT1 hT2 hCr
 have mixed : Tryz.prog.follows Departure.mixedOrders = true := by kernel_rfl
 have e1 : ¬ (m : Int) - (a : Int) = 1 := by omega
 have e1b : ((m : Int) - (a : Int) == 1) = false := by simpa using e1
 have e2 : ¬ (b : Int) - (m : Int) = 1 := by omega
 have e2b : ((b : Int) - (m : Int) == 1) = false := by simpa using e2
 obtain ⟨mid, hmid⟩ : ∃ q, (a + b) / 2 = q := ⟨_, rfl⟩
 have e3 : ((a : Int) + (b : Int)) / 2 = (mid : Int) := by omega
 have hmd1 : a < mid := by omega
 have hmd2 : mid < b := by omega
 have hlo : a ≤ slo a m b := by unfold slo; split <;> omega
 have hhi : shi a m b ≤ m := by unfold shi; split <;> omega
 have hls : slo a m b ≤ shi a m b := by unfold slo shi; split <;> omega
 have hp1 : mid + m < b + slo a m b + 1 ∧ slo a m b + 1 ≤ mid + m := by unfold slo; split <;> omega
 have hp2 : shi a m b ≤ mid := by unfold shi; split <;> omega
 obtain ⟨lo, hlo2⟩ : ∃ q, slo a m b = q := ⟨_, rfl⟩
 obtain ⟨hi, hhi2⟩ : ∃ q, shi a m b = q := ⟨_, rfl⟩
 rw [hlo2] at hlo hls hp1
 rw [hhi2] at hhi hls hp2
 have HV1 := Lib.hid (fun (c3 : mid < m) => show lo + b = mid + m ∧ hi = mid by
  rw [← hlo2, ← hhi2]; unfold slo shi; rw [hmid, if_pos c3, if_pos c3]; omega)
 have HV2 := Lib.hid (fun (c3 : ¬ mid < m) => show lo = a ∧ hi = m by
  rw [← hlo2, ← hhi2]; unfold slo shi; rw [hmid, if_neg c3, if_neg c3]; exact ⟨rfl, rfl⟩)
 obtain ⟨nn, hnn⟩ : ∃ q, mid + m = q := ⟨_, rfl⟩
 have e11 : (mid : Int) + (m : Int) = (nn : Int) := by omega
 obtain ⟨pp, hpp⟩ : ∃ q, nn - 1 = q := ⟨_, rfl⟩
 have e12 : (nn : Int) - 1 = (pp : Int) := by omega
 have zp : pp + 1 = mid + m := by omega
 clear hnn hpp
 have HMID := Lib.hid hmid
 have HLO := Lib.hid hlo2
 have HHI := Lib.hid hhi2
 clear c1 c2 hmid hlo2 hhi2
 go_enter Tryz.func75, Tryz.ntmps75
 go_upto_if 140 with fail
 go_cut [20, 21] from 25 (fun s20 s21 wx => s20 = .int .i64 lo ∧ s21 = .int .i64 hi ∧ wx = w)
 case first =>
  by_cases c3 : mid < m
  ·have c3z : (mid : Int) < (m : Int) := by omega
   have zv := HV1.out c3
   have e9 : (nn : Int) - (b : Int) = (lo : Int) := by omega
   have e10 : (mid : Int) = (hi : Int) := by omega
   go_wp2_with fail
   go_meet
   case rel => exact ⟨by first | rfl | (congr 1; done) | (congr 1; omega), by first | rfl | (congr 1; done) | (congr 1; omega), rfl⟩
  ·have c3z : ¬ (mid : Int) < (m : Int) := by omega
   have zv := HV2.out c3
   go_wp2_with fail
   go_meet
   case rel => exact ⟨by first | rfl | (congr 1; done) | (congr 1; omega), by first | rfl | (congr 1; done) | (congr 1; omega), rfl⟩
 case rest =>
  obtain ⟨rfl, rfl, rfl⟩ := hcut
  go_wp2
  go_loopw [20, 21] (fun vi vj wr => ∃ i j : Nat, vi = .int .i64 i ∧ vj = .int .i64 j ∧ lo ≤ i ∧ i ≤ j ∧ j ≤ hi ∧ Hid (Sw g n K d w0 wr) ∧ Hid (∀ c, lo ≤ c → c < i → T (d c) (d (mid + m - 1 - c)) = true) ∧ Hid (∀ c, j ≤ c → c < hi → T (d (mid + m - 1 - c)) (d c) = true)) (fun vi vj _ => (intOf vj).toNat - (intOf vi).toNat)
  case atStart => exact ⟨lo, hi, rfl, rfl, by omega, by omega, by omega, HS, Lib.hid (fun q q1 q2 => by omega), Lib.hid (fun q q1 q2 => by omega)⟩
  case round =>
   clear HS
   obtain ⟨i, j, rfl, rfl, hi1, hij, hjb, HS, HL, HR⟩ := hrel
   by_cases hlt : i < j
   ·have hltz : (i : Int) < (j : Int) := by omega
    obtain ⟨h, hh⟩ : ∃ h, (i + j) / 2 = h := ⟨_, rfl⟩
    have e5 : ((i : Int) + (j : Int)) / 2 = (h : Int) := by omega
    have hi2 : i ≤ h := by omega
    have hj2 : h < j := by omega
    have hhz : (h : Int) < (n : Int) := by omega
    obtain ⟨p, hp⟩ : ∃ q, mid + m - 1 - h = q := ⟨_, rfl⟩
    have e7 : (pp : Int) - (h : Int) = (p : Int) := by omega
    have e7x : IntKind.i64.wrap (p : Int) = (p : Int) := by rw [IntKind.wrap_i64]; omega
    have e7w : IntKind.i64.wrap ((pp : Int) - (h : Int)) = (p : Int) := by rw [e7]; exact e7x
    have hpm : m ≤ p := by omega
    have hpb : p < b := by omega
    have hpz : (p : Int) < (n : Int) := by omega
    have HP := Lib.hid hp
    clear hh hp
    have l1 := HS.out.cell (p) (by omega)
    have l2 := HS.out.cell (h) (by omega)
    obtain ⟨x, hx⟩ : ∃ x, d (p) = x := ⟨_, rfl⟩
    obtain ⟨y, hy⟩ : ∃ x, d (h) = x := ⟨_, rfl⟩
    rw [hx] at l1
    rw [hy] at l2
    have hlt2 : y < x := by have := HCR.out (h) (p) (by omega) (by omega) (by omega) (by omega); omega
    have hxK : x < K := by have := HS.out.lt (p) (by omega); omega
    have HX := Lib.hid hx
    have HY := Lib.hid hy
    clear hx hy
    by_cases hT : T x y = true
    ·have HT2 := Lib.hid hT
     clear hT
     go_wp2_with fail
     go_region_held3 (fun w' => w'.cell? ⟨g, p, none⟩ = some (.int .i64 x) ∧ w'.cell? ⟨g, h, none⟩ = some (.int .i64 y))
      (first | (go_keep; done) | ((try dsimp only); (repeat' apply And.intro) <;> (first | assumption | (go_keep; done))))
      (first | (go_at_fn cf; refine (HC.out _ x y (by first | with_reducible exact HS.out.sk | with_reducible exact HS.out.sk.drew) hlt2 hxK).mono ?_; rintro e w1 ⟨c, rfl, hb, hc⟩; replace hb : Below wr.heap.size wr w1 := bel_of_drw hb; have l3 := (hb.cell (p := ⟨g, p, none⟩) HS.out.bk.lt).trans l1; have l4 := (hb.cell (p := ⟨g, h, none⟩) HS.out.bk.lt).trans l2; have HS1 := Lib.hid (HS.out.below hb); have hcl : c < 0 := hc.2 HT2.out; clear hc hb l1 l2 HS))
     have hcd : decide (c < 0) = true := decide_eq_true (by omega)
     try simp only [hcd, Bool.not_true, Bool.not_false]
     clear l3 l4
     have HZ := Lib.hid (show ∀ c, h ≤ c → c < hi → T (d (mid + m - 1 - c)) (d c) = true from fun c q1 q2 => by
      have hpe := HP.out
      have h3 : T (d p) (d h) = true := by rw [HX.out, HY.out]; exact HT2.out
      by_cases e : c = h
      ·rw [e, hpe]; exact h3
      ·exact HO.out.trans _ _ _ (HB.out _ p (by omega) (by omega) (by omega)) (HO.out.trans _ _ _ h3 (HA.out h c (by omega) (by omega) (by omega))))
     go_wp2
     go_roundw
     case rel => first | exact ⟨i, h, rfl, by first | rfl | go_num, by omega, by omega, by omega, HS1, HL, HZ⟩ | exact ⟨i, rfl, h, rfl, by omega, by omega, by omega, HL, HZ⟩ | ((repeat apply Exists.intro); exact ⟨⟨i, h, rfl, by first | rfl | go_num, by omega, by omega, by omega, HS1, HL, HZ⟩, rfl⟩)
     case measure => (first | (simp [intOf]; done) | (simp [intOf]; omega))
    ·have HT2 := Lib.hid hT
     clear hT
     go_wp2_with fail
     go_region_held3 (fun w' => w'.cell? ⟨g, p, none⟩ = some (.int .i64 x) ∧ w'.cell? ⟨g, h, none⟩ = some (.int .i64 y))
      (first | (go_keep; done) | ((try dsimp only); (repeat' apply And.intro) <;> (first | assumption | (go_keep; done))))
      (first | (go_at_fn cf; refine (HC.out _ x y (by first | with_reducible exact HS.out.sk | with_reducible exact HS.out.sk.drew) hlt2 hxK).mono ?_; rintro e w1 ⟨c, rfl, hb, hc⟩; replace hb : Below wr.heap.size wr w1 := bel_of_drw hb; have l3 := (hb.cell (p := ⟨g, p, none⟩) HS.out.bk.lt).trans l1; have l4 := (hb.cell (p := ⟨g, h, none⟩) HS.out.bk.lt).trans l2; have HS1 := Lib.hid (HS.out.below hb); have hcl : ¬ c < 0 := fun hh => HT2.out (hc.1 hh); clear hc hb l1 l2 HS))
     have hcd : decide (c < 0) = false := decide_eq_false (by omega)
     try simp only [hcd, Bool.not_false]
     clear l3 l4
     have hcn : ¬ c < 0 := by omega
     have HZ := Lib.hid (show ∀ c, lo ≤ c → c < h + 1 → T (d c) (d (mid + m - 1 - c)) = true from fun c q1 q2 => by
      have hpe := HP.out
      have h3 : T (d h) (d p) = true := by rw [HX.out, HY.out]; exact HO.out.swap hlt2 HT2.out
      by_cases e : c = h
      ·rw [e, hpe]; exact h3
      ·exact HO.out.trans _ _ _ (HA.out c h (by omega) (by omega) (by omega)) (HO.out.trans _ _ _ h3 (HB.out p _ (by omega) (by omega) (by omega))))
     go_wp2
     go_roundw
     case rel => first | exact ⟨h + 1, j, by go_num, rfl, by omega, by omega, hjb, HS1, HZ, HR⟩ | exact ⟨h + 1, by omega, j, rfl, by omega, by omega, hjb, HZ, HR⟩ | ((repeat apply Exists.intro); exact ⟨⟨h + 1, j, by go_num, rfl, by omega, by omega, hjb, HS1, HZ, HR⟩, rfl⟩)
     case measure => (first | (simp [intOf]; done) | (simp [intOf]; omega))
   ·have hltz : ¬ (i : Int) < (j : Int) := by omega
    obtain rfl : i = j := by omega
    have HSY := sym_of (T := T) (a := a) (m := m) (b := b) (st := i) (d := d) HO.out h1 h2 HA.out HB.out (by rw [HLO.out]; exact hi1) (by rw [HHI.out]; exact hjb) (fun c q1 q2 => by rw [HMID.out]; exact HL.out c (by rw [← HLO.out]; exact q1) q2) (fun c q1 q2 => by rw [HMID.out]; exact HR.out c q1 (by rw [← HHI.out]; exact q2))
    have HSP := Lib.hid (Spl.mk' h1 h2 HA.out HB.out HCR.out HSY)
    have HD := Lib.hid (fun d1 d2 k1 k2 => Spl.done (d1 := d1) (d2 := d2) h1 h2 HSP.out k1 k2)
    have HLF := Lib.hid (HSP.out.left)
    have HRI := Lib.hid (fun d1 k1 => HSP.out.right_in (d1 := d1) k1)
    have HRF := Lib.hid (fun d1 k1 => HSP.out.right (d1 := d1) k1)
    have HLS := Lib.hid HSP.out.s1
    have HLT := Lib.hid HSP.out.s2
    have HLC := Lib.hid HSP.out.c1
    have g3 := HSY.le
    have g4 := HSY.re
    rw [HMID.out] at HD HLF HRI HRF g3 g4 HLS HLT HLC
    obtain ⟨en, hen⟩ : ∃ q, mid + m - i = q := ⟨_, rfl⟩
    rw [hen] at HD HLF HRI HRF g3 g4 HLS HLT HLC
    have e8 : (nn : Int) - (i : Int) = (en : Int) := by omega
    have him : i ≤ mid := by omega
    clear hen HSY HL HR HSP
    go_upto_region 39 with fail
    obtain ⟨t1, ht1⟩ : ∃ t : Bool, t = decide (i < m ∧ m < en) := ⟨_, rfl⟩
    have Ht1 := Lib.hid ht1
    clear ht1
    go_cut [185] from 25 (fun s wx => s = .bool t1 ∧ wx = wr)
    case first =>
     by_cases hq : i < m
     ·have z1 : (i : Int) < (m : Int) := by omega
      by_cases hq2 : m < en
      ·have z2 : (m : Int) < (en : Int) := by omega
       have zd := decide_eq_true (And.intro hq hq2)
       have HZD := Lib.hid zd
       clear zd
       go_wp2_with fail
       go_meet
       case rel => exact ⟨by rw [Ht1.out]; rw [HZD.out], rfl⟩
      ·have z2 : ¬ (m : Int) < (en : Int) := by omega
       have zd : decide (i < m ∧ m < en) = false := decide_eq_false (fun h => hq2 h.2)
       have HZD := Lib.hid zd
       clear zd
       go_wp2_with fail
       go_meet
       case rel => exact ⟨by rw [Ht1.out]; rw [HZD.out], rfl⟩
     ·have z1 : ¬ (i : Int) < (m : Int) := by omega
      have zd : decide (i < m ∧ m < en) = false := decide_eq_false (fun h => hq h.1)
      have HZD := Lib.hid zd
      clear zd
      go_wp2_with fail
      go_meet
      case rel => exact ⟨by rw [Ht1.out]; rw [HZD.out], rfl⟩
    case rest =>
     obtain ⟨rfl, rfl⟩ := hcut
     go_upto_if 185 with fail
     go_cut [20] from 25 (fun s wx => s = .int .i64 i ∧ Hid (Sw g n K (rot i m en d) w0 wx))
     case first =>
      cases t1
      ·have hr : ¬ (i < m ∧ m < en) := by have := Ht1.out; simpa using this
       rw [← rot_none (st := i) (m := m) (e := en) d hr (by omega) (by omega)] at HS
       go_wp2_with fail
       go_meet
       case rel => exact ⟨rfl, HS⟩
      ·have hr : i < m ∧ m < en := by have := Ht1.out; simpa using this
       go_wp2_with fail
       refine (rotate_any g n K cap i m en _ d w0 _ HS.out hr.1 hr.2 (by omega) hn).mono ?_
       rintro e wz ⟨rfl, hs9⟩
       have HSn := Lib.hid hs9
       clear hs9 HS
       go_wp2_with fail
       go_meet
       case rel => exact ⟨rfl, HSn⟩
     case rest =>
      clear HS Ht1
      obtain ⟨rfl, HS⟩ := hcut
      as_aux_lemma =>
       go_upto_region 41 with fail
       obtain ⟨t2, ht2⟩ : ∃ t : Bool, t = decide (a < i ∧ i < mid) := ⟨_, rfl⟩
       have Ht2 := Lib.hid ht2
       clear ht2
       go_cut [199] from 25 (fun s wx => s = .bool t2 ∧ wx = wc)
       case first =>
        by_cases hq : a < i
        ·have z1 : (a : Int) < (i : Int) := by omega
         by_cases hq2 : i < mid
         ·have z2 : (i : Int) < (mid : Int) := by omega
          have zd := decide_eq_true (And.intro hq hq2)
          have HZD := Lib.hid zd
          clear zd
          go_wp2_with fail
          go_meet
          case rel => exact ⟨by rw [Ht2.out]; rw [HZD.out], rfl⟩
         ·have z2 : ¬ (i : Int) < (mid : Int) := by omega
          have zd : decide (a < i ∧ i < mid) = false := decide_eq_false (fun h => hq2 h.2)
          have HZD := Lib.hid zd
          clear zd
          go_wp2_with fail
          go_meet
          case rel => exact ⟨by rw [Ht2.out]; rw [HZD.out], rfl⟩
        ·have z1 : ¬ (a : Int) < (i : Int) := by omega
         have zd : decide (a < i ∧ i < mid) = false := decide_eq_false (fun h => hq h.1)
         have HZD := Lib.hid zd
         clear zd
         go_wp2_with fail
         go_meet
         case rel => exact ⟨by rw [Ht2.out]; rw [HZD.out], rfl⟩
       case rest =>
        obtain ⟨rfl, rfl⟩ := hcut
        go_upto_if 199 with fail
        go_cut [20] from 25 (fun s wx => s = .int .i64 i ∧ ∃ d1, Hid (Sw g n K d1 w0 wx) ∧ Hid (Rng a mid (rot i m en d) d1 ∧ Srt T a mid d1))
        case first =>
         cases t2
         ·have hr : ¬ (a < i ∧ i < mid) := by have := Ht2.out; simpa using this
          go_wp2_with fail
          go_meet
          case rel => exact ⟨rfl, _, HS, Lib.hid (HLF.out hr)⟩
         ·have hr : a < i ∧ i < mid := by have := Ht2.out; simpa using this
          go_wp2_with fail
          refine (HI.out a i mid _ _ (by omega) hr.1 hr.2 (by omega) HS.out HLS.out HLT.out HLC.out).mono ?_
          rintro e w2 ⟨rfl, d1, hs1, hr1, ht1⟩
          have HSn := Lib.hid hs1
          have HK := Lib.hid (And.intro hr1 ht1)
          clear hs1 hr1 ht1 HS
          go_wp2_with fail
          go_meet
          case rel => exact ⟨rfl, d1, HSn, HK⟩
        case rest =>
         clear HS Ht2
         obtain ⟨rfl, d1, HS, HK⟩ := hcut
         go_upto_region 43 with fail
         obtain ⟨t3, ht3⟩ : ∃ t : Bool, t = decide (mid < en ∧ en < b) := ⟨_, rfl⟩
         have Ht3 := Lib.hid ht3
         clear ht3
         go_cut [213] from 25 (fun s wx => s = .bool t3 ∧ wx = wc)
         case first =>
          by_cases hq : mid < en
          ·have z1 : (mid : Int) < (en : Int) := by omega
           by_cases hq2 : en < b
           ·have z2 : (en : Int) < (b : Int) := by omega
            have zd := decide_eq_true (And.intro hq hq2)
            have HZD := Lib.hid zd
            clear zd
            go_wp2_with fail
            go_meet
            case rel => exact ⟨by rw [Ht3.out]; rw [HZD.out], rfl⟩
           ·have z2 : ¬ (en : Int) < (b : Int) := by omega
            have zd : decide (mid < en ∧ en < b) = false := decide_eq_false (fun h => hq2 h.2)
            have HZD := Lib.hid zd
            clear zd
            go_wp2_with fail
            go_meet
            case rel => exact ⟨by rw [Ht3.out]; rw [HZD.out], rfl⟩
          ·have z1 : ¬ (mid : Int) < (en : Int) := by omega
           have zd : decide (mid < en ∧ en < b) = false := decide_eq_false (fun h => hq h.1)
           have HZD := Lib.hid zd
           clear zd
           go_wp2_with fail
           go_meet
           case rel => exact ⟨by rw [Ht3.out]; rw [HZD.out], rfl⟩
         case rest =>
          obtain ⟨rfl, rfl⟩ := hcut
          go_upto_if 213 with fail
          cases t3
          ·have hr : ¬ (mid < en ∧ en < b) := by have := Ht3.out; simpa using this
           have HF := Lib.hid (HD.out _ _ HK.out (HRF.out _ HK.out.1 hr))
           go_wp2
           go_end0
           exact ⟨rfl, _, HS.out, HF.out.1, HF.out.2⟩
          ·have hr : mid < en ∧ en < b := by have := Ht3.out; simpa using this
           have HRR := Lib.hid (HRI.out _ HK.out.1)
           go_wp2_with fail
           refine (HI.out mid en b _ _ (by omega) hr.1 hr.2 hb HS.out HRR.out.1 HRR.out.2.1 HRR.out.2.2).mono ?_
           rintro e w3 ⟨rfl, d2, hs2, hr2, ht2⟩
           have HF := Lib.hid (HD.out _ _ HK.out ⟨hr2, ht2⟩)
           have HS3 := Lib.hid hs2
           clear hs2 hr2 ht2
           go_wp2
           go_end0
           exact ⟨rfl, _, HS3.out, HF.out.1, HF.out.2⟩
theorem symMerge_any (g n K cap : Nat) (T : Nat → Nat → Bool) (hO : Ord T) (cf : Nat) (cb : Array Value) (w0 : World) (eg : ∀ args w, (callFunc cf args).run Tryz.prog w = .ok (.enter cf args) w) (hC : Cmp g K T cf cb w0) (hn : n ≤ 2 ^ 40) : ∀ (s a m b : Nat) (d : Nat → Nat) (w : World),
  b - a ≤ s → a < m → m < b → b ≤ n → Sw g n K d w0 w → Srt T a m d → Srt T m b d → Crs a m b d →
  Calls Tryz.prog 75 #[.slice (some ⟨g, 0, none⟩) n cap, .int .i64 a, .int .i64 m, .int .i64 b, .func (.func cf) #[] cb] w fun e w' => e = .returned (.tuple #[]) ∧ ∃ d', Sw g n K d' w0 w' ∧ Rng a b d d' ∧ Srt T a b d'
 | 0, a, m, b, d, w, hs, h1, h2, _, _, _, _, _ => by omega
 | s + 1, a, m, b, d, w, hs, h1, h2, hb, hS, hT1, hT2, hCr => by
  by_cases c1 : m = a + 1
  ·exact symA_any g n K cap T hO cf cb w0 eg hC hn a m b d w h1 h2 hb hS hT1 hT2 hCr c1
  ·by_cases c2 : b = m + 1
   ·exact symB_any g n K cap T hO cf cb w0 eg hC hn a m b d w h1 h2 hb hS hT1 hT2 hCr c1 c2
   ·exact symC_any g n K cap T hO cf cb w0 eg hC hn a m b d w h1 h2 hb hS hT1 hT2 hCr c1 c2 s hs (Lib.hid (symMerge_any g n K cap T hO cf cb w0 eg hC hn s))
end Go.Proofs.YtjobopafcgnljaaGreat
