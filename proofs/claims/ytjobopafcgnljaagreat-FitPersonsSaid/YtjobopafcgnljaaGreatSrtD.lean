import Derived.Test.YtjobopafcgnljaaGreatSrtC
namespace Go.Proofs.YtjobopafcgnljaaGreat
open Go.RowKit
set_option maxHeartbeats 8000000 in
set_option maxRecDepth 100000 in
theorem stable_any (g n K cap : Nat) (T : Nat → Nat → Bool) (hO : Ord T) (cf : Nat) (cb : Array Value) (d : Nat → Nat) (w0 w : World) (eg : ∀ args w, (callFunc cf args).run Tryz.prog w = .ok (.enter cf args) w)
    (hC : Cmp g K T cf cb w0) (hS : Sw g n K d w0 w) (hI : Inc 0 n d) (hn : n ≤ 60) :
    Calls Tryz.prog 41 #[.slice (some ⟨g, 0, none⟩) n cap, .int .i64 n, .func (.func cf) #[] cb] w fun e w' => e = .returned (.tuple #[]) ∧ ∃ d', Sw g n K d' w0 w' ∧ Rng 0 n d d' ∧ Srt T 0 n d' := by
  have IN := Lib.hid (fun a b dk w1 => insertion_any g n K cap a b T hO cf cb dk w0 w1 eg hC)
  have SY := Lib.hid (symMerge_any g n K cap T hO cf cb w0 eg hC (by omega) n)
  have HS := Lib.hid hS
  have HI := Lib.hid hI
  clear hO hC hS hI
  have mixed : Tryz.prog.follows Departure.mixedOrders = true := by kernel_rfl
  go_enter Tryz.func41, Tryz.ntmps41
  go_wp2
  go_loopw [7, 8] (fun va vb wr => ∃ (a : Nat) (dk : Nat → Nat), va = .int .i64 a ∧ vb = .int .i64 ((a : Int) + 20) ∧ a ≤ n ∧ Hid (Sw g n K dk w0 wr) ∧ Hid (Bef T 20 a d dk)) (fun va _ _ => n - (intOf va).toNat)
  case atStart => exact ⟨0, d, rfl, rfl, Nat.zero_le _, HS, Lib.hid (Bef.start _ _ _)⟩
  case round =>
    clear HS
    obtain ⟨a, dk, rfl, rfl, han, HS, HB⟩ := hrel
    have hI2 : Inc a (a + 20) dk ∨ True := .inr trivial
    clear hI2
    by_cases hc : a + 20 ≤ n
    · have hz : (a : Int) + 20 ≤ (n : Int) := by omega
      have HC := Lib.hid (IN.out a (a + 20) dk wr HS.out (fun i j h1 h2 h3 => by rw [HB.out.aft i h1, HB.out.aft j (by omega)]; exact HI.out i j (Nat.zero_le _) h2 (by omega)) (by omega) hc (by omega))
      have e1 : ((a + 20 : Nat) : Int) = (a : Int) + 20 := by omega
      rw [e1] at HC
      clear e1
      go_wp2_with fail
      refine HC.out.mono ?_
      rintro e w1 ⟨rfl, d1, hs, hr, ht⟩
      have HS1 := Lib.hid hs
      have HB1 := Lib.hid (HB.out.step20 hr ht)
      clear hs hr ht HC HS HB
      go_wp2
      go_roundw
      case rel => exact ⟨a + 20, d1, by go_num, by first | go_num | (congr 1; omega), hc, HS1, HB1⟩
      case measure => (first | (simp [intOf]; done) | (simp [intOf]; omega))
    · have hz : ¬ (a : Int) + 20 ≤ (n : Int) := by omega
      have HC := Lib.hid (IN.out a n dk wr HS.out (fun i j h1 h2 h3 => by rw [HB.out.aft i h1, HB.out.aft j (by omega)]; exact HI.out i j (Nat.zero_le _) h2 h3) han (Nat.le_refl _) (by omega))
      go_wp2_with fail
      refine HC.out.mono ?_
      rintro e w1 ⟨rfl, d1, hs, hr, ht⟩
      have HS1 := Lib.hid hs
      have HB1 := Lib.hid (HB.out.end20 HI.out han (by omega) hr ht)
      clear hs hr ht HC HS HB
      go_wp2
      go_loopw [6] (fun vs wr => ∃ (s : Int) (dk : Nat → Nat), vs = .int .i64 s ∧ (s = 20 ∨ s = 40 ∨ s = 80) ∧ Hid (Sw g n K dk w0 wr) ∧ Hid (Rng 0 n d dk) ∧ Hid ((s = 20 → Blk T 20 n dk) ∧ (s = 40 → Blk T 40 n dk) ∧ (s = 80 → Srt T 0 n dk))) (fun vs _ => 80 - (intOf vs).toNat)
      case atStart => exact ⟨20, d1, rfl, .inl rfl, HS1, Lib.hid HB1.out.2, Lib.hid ⟨fun _ => HB1.out.1, fun h => by omega, fun h => by omega⟩⟩
      case round =>
        clear HS1 HB1
        obtain ⟨s, dk, rfl, hs, HS, HR, HQ⟩ := hrel
        by_cases hsn : s < (n : Int)
        · rcases hs with rfl | rfl | rfl
          · have HL := Lib.hid (HQ.out.1 rfl)
            clear HQ
            go_wp2
            go_loopw [7, 8] (fun va vb wr => ∃ (a : Nat) (dl : Nat → Nat), va = .int .i64 a ∧ vb = .int .i64 ((a : Int) + 40) ∧ a ≤ n ∧ Hid (Sw g n K dl w0 wr) ∧ Hid (Bef T 40 a dk dl)) (fun va _ _ => n - (intOf va).toNat)
            case atStart => exact ⟨0, dk, rfl, rfl, Nat.zero_le _, HS, Lib.hid (Bef.start _ _ _)⟩
            case round =>
              clear HS
              obtain ⟨a, dl, rfl, rfl, han, HS, HB⟩ := hrel
              by_cases hc : a + 40 ≤ n
              · have hz : (a : Int) + 40 ≤ (n : Int) := by omega
                have HC := Lib.hid (SY.out a (a + 20) (a + 40) dl wr (by omega) (by omega) (by omega) hc HS.out (HB.out.pair1 HL.out (by omega)) (HB.out.pair2 HL.out (by omega) hc) (HB.out.pair3 HL.out (by omega) hc))
                have e1 : ((a + 20 : Nat) : Int) = (a : Int) + 20 := by omega
                have e2 : ((a + 40 : Nat) : Int) = (a : Int) + 40 := by omega
                rw [e1, e2] at HC
                clear e1 e2
                go_wp2_with fail
                refine HC.out.mono ?_
                rintro e w1 ⟨rfl, d1, hs, hr, ht⟩
                have HS1 := Lib.hid hs
                have HB1 := Lib.hid (HB.out.step40 hr ht)
                clear hs hr ht HC HS HB
                go_wp2
                go_roundw
                case rel => exact ⟨a + 40, d1, by go_num, by first | go_num | (congr 1; omega), hc, HS1, HB1⟩
                case measure => (first | (simp [intOf]; done) | (simp [intOf]; omega))
              · have hz : ¬ (a : Int) + 40 ≤ (n : Int) := by omega
                by_cases hm : a + 20 < n
                · have hmz : (a : Int) + 20 < (n : Int) := by omega
                  have HC := Lib.hid (SY.out a (a + 20) n dl wr (by omega) (by omega) hm (Nat.le_refl _) HS.out (HB.out.pair1 HL.out (by omega)) (HB.out.pair2 HL.out (by omega) (Nat.le_refl _)) (HB.out.pair3 HL.out (by omega) (Nat.le_refl _)))
                  have e1 : ((a + 20 : Nat) : Int) = (a : Int) + 20 := by omega
                  rw [e1] at HC
                  clear e1
                  go_wp2_with fail
                  refine HC.out.mono ?_
                  rintro e w1 ⟨rfl, d1, hs, hr, ht⟩
                  have HS1 := Lib.hid hs
                  have HB1 := Lib.hid (HB.out.end40 HL.out han (by omega) hr ht)
                  clear hs hr ht HC HS HB
                  go_wp2
                  go_roundw
                  case rel => exact ⟨40, d1, rfl, .inr (.inl rfl), HS1, Lib.hid (HR.out.trans HB1.out.2), Lib.hid ⟨fun h => by omega, fun _ => HB1.out.1, fun h => by omega⟩⟩
                  case measure => (first | (simp [intOf]; done) | (simp [intOf]; omega))
                · have hmz : ¬ (a : Int) + 20 < (n : Int) := by omega
                  have HB1 := Lib.hid (HB.out.end40 HL.out han (by omega) (Rng.refl _ _ _) (HB.out.one HL.out (by omega)))
                  clear HB
                  go_wp2
                  go_roundw
                  case rel => exact ⟨40, dl, rfl, .inr (.inl rfl), HS, Lib.hid (HR.out.trans HB1.out.2), Lib.hid ⟨fun h => by omega, fun _ => HB1.out.1, fun h => by omega⟩⟩
                  case measure => (first | (simp [intOf]; done) | (simp [intOf]; omega))
          · have HL := Lib.hid (HQ.out.2.1 rfl)
            clear HQ
            have HZ := Lib.hid (HL.out.last (by omega) (by omega))
            go_wp2
            go_loopw [7, 8] (fun va vb wx => va = .int .i64 0 ∧ vb = .int .i64 80 ∧ Hid (Sw g n K dk w0 wx)) (fun _ _ _ => 0)
            case atStart => exact ⟨rfl, rfl, HS⟩
            case round =>
              clear HS
              obtain ⟨rfl, rfl, HS⟩ := hrel
              have hz : ¬ (80 : Int) ≤ (n : Int) := by omega
              have HC := Lib.hid (SY.out 0 40 n dk wr (by omega) (by omega) (by omega) (Nat.le_refl _) HS.out HZ.out.1 HZ.out.2.1 HZ.out.2.2)
              go_wp2_with fail
              refine HC.out.mono ?_
              rintro e w1 ⟨rfl, d1, hs, hr, ht⟩
              have HS1 := Lib.hid hs
              have HK := Lib.hid (And.intro hr ht)
              clear hs hr ht HC HS HZ
              go_wp2
              go_roundw
              case rel => exact ⟨80, d1, rfl, .inr (.inr rfl), HS1, Lib.hid (HR.out.trans HK.out.1), Lib.hid ⟨fun h => by omega, fun h => by omega, fun _ => HK.out.2⟩⟩
              case measure => (first | (simp [intOf]; done) | (simp [intOf]; omega))
          · exfalso; omega
        · have HZ := Lib.hid (show Srt T 0 n dk by
            rcases hs with rfl | rfl | rfl
            · exact (HQ.out.1 rfl).srt20 (by omega)
            · exact (HQ.out.2.1 rfl).srt40 (by omega)
            · exact HQ.out.2.2 rfl)
          clear HQ
          go_wp2
          go_end0
          exact ⟨rfl, dk, HS.out, HR.out, HZ.out⟩
set_option maxHeartbeats 8000000 in
theorem sortStable_any (g n K cap : Nat) (T : Nat → Nat → Bool) (hO : Ord T) (cf : Nat) (cb : Array Value) (d : Nat → Nat) (w0 w : World) (eg : ∀ args w, (callFunc cf args).run Tryz.prog w = .ok (.enter cf args) w)
  (hC : Cmp g K T cf cb w0) (hS : Sw g n K d w0 w) (hI : Inc 0 n d) (hn : n ≤ 60) :
  Calls Tryz.prog 23 #[.slice (some ⟨g, 0, none⟩) n cap, .func (.func cf) #[] cb] w fun e w' => e = .returned (.tuple #[]) ∧ ∃ d', Sw g n K d' w0 w' ∧ Rng 0 n d d' ∧ Srt T 0 n d' := by
 have HC := Lib.hid (stable_any g n K cap T hO cf cb d w0 w eg hC hS hI hn)
 clear hO hC hS hI
 go_enter Tryz.func23, Tryz.ntmps23
 go_wp2_with fail
 refine HC.out.mono ?_
 rintro e w1 ⟨rfl, d1, hs⟩
 have HS := Lib.hid hs
 clear hs HC
 go_wp2
 go_end0
 exact ⟨rfl, d1, HS.out⟩
end Go.Proofs.YtjobopafcgnljaaGreat
