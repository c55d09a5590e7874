/- Contracts of integer.Add and Cmp: for all integers of at most 2^38 limbs. -/
import Derived.Test.YtbjgnpgachdlaaaGreatDoorIntB
namespace Go.Proofs.YtbjgnpgachdlaaaGreatDoor
open Go.RowKit

theorem zI_add (s : Bool) (ma mb : Nat) : zI s (ma + mb) = zI s ma + zI s mb := by unfold zI; cases s <;> simp <;> omega
theorem zI_sub1 (s : Bool) (ma mb : Nat) (h : mb ≤ ma) : zI s (ma - mb) = zI s ma + zI (!s) mb := by unfold zI; cases s <;> simp <;> omega
theorem zI_sub2 (s : Bool) (ma mb : Nat) (h : ma ≤ mb) : zI (!s) (mb - ma) = zI s ma + zI (!s) mb := by unfold zI; cases s <;> simp <;> omega

set_option maxHeartbeats 4000000 in
theorem iadd_true_true {N : Nat} (a b : Option Addr) (na ca ma nb cb mb : Nat) (w : World) (hN : N ≤ w.heap.size) (ha : Nt N w a na ca ma) (hb : Nt N w b nb cb mb) (la : na ≤ 274877906944) (lb : nb ≤ 274877906944) (z : Int) (hz : zI true ma + zI true mb = z) :
    Calls Tryz.prog 103 #[.agg #[.bool true, .slice a na ca], .agg #[.bool true, .slice b nb cb]] w fun e w' => ∃ r cr, e = .returned (.agg #[.bool (decide (z < 0)), .slice r (nlen z.natAbs) cr]) ∧ Nt N w' r (nlen z.natAbs) cr z.natAbs ∧ Below w.heap.size w w' := by
  have HZ := Lib.hid ((zI_add true ma mb).trans hz)
  have lm := nlen_add ma mb
  have la' := nlen_bound ha _ la
  have lb' := nlen_bound hb _ lb
  have HA := Lib.hid (((ha.alloc (.cells #[.bool true, .slice a na ca] 26)).alloc (.cells #[.bool true, .slice b nb cb] 26)).alloc (.cells #[.bool false, .slice none 0 0] 26))
  have HB := Lib.hid (((hb.alloc (.cells #[.bool true, .slice a na ca] 26)).alloc (.cells #[.bool true, .slice b nb cb] 26)).alloc (.cells #[.bool false, .slice none 0 0] 26))
  clear ha hb hz
  go_enter Tryz.func103, Tryz.ntmps103
  go_wp2_with fail
  go_region_held3 (fun w' => w'.cell? ⟨w.heap.size, 0, none⟩ = some (.bool true) ∧ w'.cell? ⟨w.heap.size, 1, none⟩ = some (.slice a na ca) ∧ w'.cell? ⟨w.heap.size + 1, 0, none⟩ = some (.bool true) ∧ w'.cell? ⟨w.heap.size + 1, 1, none⟩ = some (.slice b nb cb))
    (first | (go_keep; done) | ((try dsimp only); (repeat' apply And.intro) <;> (first | (go_keep; done) | (rw [cell_set2 _ _ _ _ _ _ _ _ (by omega)]; assumption) | (rw [cell_set3 _ _ _ _ _ _ _ _ _ _ (by omega)]; assumption))))
    (first
      | (go_at_call 60; refine (add_any (N := N) _ _ _ _ ma _ _ mb _ (by simp; omega) (by exact HA.out) (by exact HB.out) (by omega) (by omega)).mono ?_; rintro e wa ⟨ra, ca', rfl, hn, hb⟩; have kwa0 : wa.cell? ⟨w.heap.size, 0, none⟩ = some (.bool true) := (hb.cell (p := ⟨w.heap.size, 0, none⟩) (by first | (simp; done) | (simp; omega))).trans (by go_simp); have kwa1 : wa.cell? ⟨w.heap.size, 1, none⟩ = some (.slice a na ca) := (hb.cell (p := ⟨w.heap.size, 1, none⟩) (by first | (simp; done) | (simp; omega))).trans (by go_simp); have kwa2 : wa.cell? ⟨w.heap.size + 1, 0, none⟩ = some (.bool true) := (hb.cell (p := ⟨w.heap.size + 1, 0, none⟩) (by first | (simp; done) | (simp; omega))).trans (by go_simp); have kwa3 : wa.cell? ⟨w.heap.size + 1, 1, none⟩ = some (.slice b nb cb) := (hb.cell (p := ⟨w.heap.size + 1, 1, none⟩) (by first | (simp; done) | (simp; omega))).trans (by go_simp); have hzwa0 : w.heap.size < wa.heap.size := (by have := hb.size; (try simp at this); omega); have hzwa1 : w.heap.size + 1 < wa.heap.size := (by have := hb.size; (try simp at this); omega); have hzwa2 : w.heap.size + 2 < wa.heap.size := (by have := hb.size; (try simp at this); omega); obtain ⟨hcwa, hfwa⟩ := bcell hb; have HBwa := Lib.hid hb; have HNwa := Lib.hid hn; clear hb hn)
      | (go_at_call 62; refine (make_z (N := N) true _ _ _ (ma + mb) _ (by omega) (by exact HNwa.out) (by omega) z HZ.out).mono ?_; rintro e wb ⟨rb, cb', rfl, hn, hb⟩; have kwb0 : wb.cell? ⟨w.heap.size, 0, none⟩ = some (.bool true) := (hb.cell (p := ⟨w.heap.size, 0, none⟩) (by omega)).trans kwa0; have kwb1 : wb.cell? ⟨w.heap.size, 1, none⟩ = some (.slice a na ca) := (hb.cell (p := ⟨w.heap.size, 1, none⟩) (by omega)).trans kwa1; have kwb2 : wb.cell? ⟨w.heap.size + 1, 0, none⟩ = some (.bool true) := (hb.cell (p := ⟨w.heap.size + 1, 0, none⟩) (by omega)).trans kwa2; have kwb3 : wb.cell? ⟨w.heap.size + 1, 1, none⟩ = some (.slice b nb cb) := (hb.cell (p := ⟨w.heap.size + 1, 1, none⟩) (by omega)).trans kwa3; have hzwb0 : w.heap.size < wb.heap.size := (by have := hb.size; (try simp at this); omega); have hzwb1 : w.heap.size + 1 < wb.heap.size := (by have := hb.size; (try simp at this); omega); have hzwb2 : w.heap.size + 2 < wb.heap.size := (by have := hb.size; (try simp at this); omega); obtain ⟨hcwb, hfwb⟩ := bcell hb; have HBwb := Lib.hid hb; have HNwb := Lib.hid hn; clear hb hn))
  have HX := Lib.hid (((Bx.new' ((w.alloc (.cells #[.bool true, .slice a na ca] 26)).alloc (.cells #[.bool true, .slice b nb cb] 26)) #[.bool false, .slice none 0 0] 26 (w.heap.size + 1 + 1) (by simp)).drewB HBwa.out).below HBwb.out)
  have HF := Lib.hid (fun v0 v1 => fin2 hN (by omega) HX.out HNwb.out (((bel3 w _ _ _).trans ((bel_of_drew HBwa.out).mono (by first | (simp; done) | (simp; omega)))).trans (HBwb.out.mono (by omega))) v0 v1)
  go_wp2_with fail
  exact bodyPost_ret (v := .agg #[.bool (decide (z < 0)), .slice rb (nlen z.natAbs) cb']) (by simp [results, Tryz.results103, go_sem, hcwa, hcwb, hzwa2]) rfl ⟨_, _, rfl, (HF.out _ _).1, (HF.out _ _).2⟩

set_option maxHeartbeats 4000000 in
theorem iadd_true_false_ge {N : Nat} (a b : Option Addr) (na ca ma nb cb mb : Nat) (w : World) (hN : N ≤ w.heap.size) (ha : Nt N w a na ca ma) (hb : Nt N w b nb cb mb) (la : na ≤ 274877906944) (lb : nb ≤ 274877906944) (hle : mb ≤ ma) (z : Int) (hz : zI true ma + zI false mb = z) :
    Calls Tryz.prog 103 #[.agg #[.bool true, .slice a na ca], .agg #[.bool false, .slice b nb cb]] w fun e w' => ∃ r cr, e = .returned (.agg #[.bool (decide (z < 0)), .slice r (nlen z.natAbs) cr]) ∧ Nt N w' r (nlen z.natAbs) cr z.natAbs ∧ Below w.heap.size w w' := by
  have HZ := Lib.hid ((zI_sub1 true ma mb hle).trans hz)
  have la' := nlen_bound ha _ la
  have lb' := nlen_bound hb _ lb
  have HA := Lib.hid (((ha.alloc (.cells #[.bool true, .slice a na ca] 26)).alloc (.cells #[.bool false, .slice b nb cb] 26)).alloc (.cells #[.bool false, .slice none 0 0] 26))
  have HB := Lib.hid (((hb.alloc (.cells #[.bool true, .slice a na ca] 26)).alloc (.cells #[.bool false, .slice b nb cb] 26)).alloc (.cells #[.bool false, .slice none 0 0] 26))
  clear ha hb hz
  go_enter Tryz.func103, Tryz.ntmps103
  go_wp2_with fail
  refine (sub_any (N := N) _ _ _ _ ma _ _ mb _ (by simp; omega) HA.out HB.out (by omega) hle).mono ?_
  rintro e wa ⟨ra, ca', rfl, hn, hb⟩
  obtain ⟨hcwa, hfwa⟩ := bcell hb
  have hzwa0 : w.heap.size < wa.heap.size := by have := hb.size; (try simp at this); omega
  have hzwa1 : w.heap.size + 1 < wa.heap.size := by have := hb.size; (try simp at this); omega
  have hzwa2 : w.heap.size + 2 < wa.heap.size := by have := hb.size; (try simp at this); omega
  have HBwa := Lib.hid hb
  have HNwa := Lib.hid hn
  clear hn hb
  have ld := nlen_mono (Nat.sub_le ma mb)
  go_wp2_with fail
  refine (make_z (N := N) true _ _ _ (ma - mb) _ (by omega) HNwa.out (by omega) z HZ.out).mono ?_
  rintro e wb ⟨rb, cb', rfl, hn, hb⟩
  obtain ⟨hcwb, hfwb⟩ := bcell hb
  have hzwb0 : w.heap.size < wb.heap.size := by have := hb.size; (try simp at this); omega
  have hzwb1 : w.heap.size + 1 < wb.heap.size := by have := hb.size; (try simp at this); omega
  have hzwb2 : w.heap.size + 2 < wb.heap.size := by have := hb.size; (try simp at this); omega
  have HBwb := Lib.hid hb
  have HNwb := Lib.hid hn
  clear hn hb
  have HX := Lib.hid (((Bx.new' ((w.alloc (.cells #[.bool true, .slice a na ca] 26)).alloc (.cells #[.bool false, .slice b nb cb] 26)) #[.bool false, .slice none 0 0] 26 (w.heap.size + 1 + 1) (by simp)).below HBwa.out).below HBwb.out)
  have HF := Lib.hid (fun v0 v1 => fin2 hN (by omega) HX.out HNwb.out (((bel3 w _ _ _).trans (HBwa.out.mono (by first | (simp; done) | (simp; omega)))).trans (HBwb.out.mono (by omega))) v0 v1)
  go_wp2_with fail
  exact bodyPost_ret (v := .agg #[.bool (decide (z < 0)), .slice rb (nlen z.natAbs) cb']) (by simp [results, Tryz.results103, go_sem, hcwa, hcwb, hzwa2]) rfl ⟨_, _, rfl, (HF.out _ _).1, (HF.out _ _).2⟩
  
set_option maxHeartbeats 4000000 in
theorem iadd_true_false_lt {N : Nat} (a b : Option Addr) (na ca ma nb cb mb : Nat) (w : World) (hN : N ≤ w.heap.size) (ha : Nt N w a na ca ma) (hb : Nt N w b nb cb mb) (la : na ≤ 274877906944) (lb : nb ≤ 274877906944) (hlt : ma < mb) (z : Int) (hz : zI true ma + zI false mb = z) :
    Calls Tryz.prog 103 #[.agg #[.bool true, .slice a na ca], .agg #[.bool false, .slice b nb cb]] w fun e w' => ∃ r cr, e = .returned (.agg #[.bool (decide (z < 0)), .slice r (nlen z.natAbs) cr]) ∧ Nt N w' r (nlen z.natAbs) cr z.natAbs ∧ Below w.heap.size w w' := by
  have HZ := Lib.hid ((zI_sub2 true ma mb (Nat.le_of_lt hlt)).trans hz)
  have la' := nlen_bound ha _ la
  have lb' := nlen_bound hb _ lb
  have HA := Lib.hid (((ha.alloc (.cells #[.bool true, .slice a na ca] 26)).alloc (.cells #[.bool false, .slice b nb cb] 26)).alloc (.cells #[.bool false, .slice none 0 0] 26))
  have HB := Lib.hid (((hb.alloc (.cells #[.bool true, .slice a na ca] 26)).alloc (.cells #[.bool false, .slice b nb cb] 26)).alloc (.cells #[.bool false, .slice none 0 0] 26))
  clear ha hb hz
  go_enter Tryz.func103, Tryz.ntmps103
  go_wp2_with fail
  refine (sub_no (N := N) _ _ _ _ ma _ _ mb _ HA.out HB.out hlt).mono ?_
  rintro e wc ⟨rfl, hb⟩
  have hn := trivial
  obtain ⟨hcwc, hfwc⟩ := bcell hb
  have hzwc0 : w.heap.size < wc.heap.size := by have := hb.size; (try simp at this); omega
  have hzwc1 : w.heap.size + 1 < wc.heap.size := by have := hb.size; (try simp at this); omega
  have hzwc2 : w.heap.size + 2 < wc.heap.size := by have := hb.size; (try simp at this); omega
  have HBwc := Lib.hid hb
  have HNwc := Lib.hid hn
  clear hn hb
  go_wp2_with fail
  refine (sub_any (N := N) _ _ _ _ mb _ _ ma _ (by omega) (HB.out.below HBwc.out) (HA.out.below HBwc.out) (by omega) (Nat.le_of_lt hlt)).mono ?_
  rintro e wa ⟨ra, ca', rfl, hn, hb⟩
  obtain ⟨hcwa, hfwa⟩ := bcell hb
  have hzwa0 : w.heap.size < wa.heap.size := by have := hb.size; (try simp at this); omega
  have hzwa1 : w.heap.size + 1 < wa.heap.size := by have := hb.size; (try simp at this); omega
  have hzwa2 : w.heap.size + 2 < wa.heap.size := by have := hb.size; (try simp at this); omega
  have HBwa := Lib.hid hb
  have HNwa := Lib.hid hn
  clear hn hb
  have ld := nlen_mono (Nat.sub_le mb ma)
  go_wp2_with fail
  refine (make_z (N := N) false _ _ _ (mb - ma) _ (by omega) HNwa.out (by omega) z HZ.out).mono ?_
  rintro e wb ⟨rb, cb', rfl, hn, hb⟩
  obtain ⟨hcwb, hfwb⟩ := bcell hb
  have hzwb0 : w.heap.size < wb.heap.size := by have := hb.size; (try simp at this); omega
  have hzwb1 : w.heap.size + 1 < wb.heap.size := by have := hb.size; (try simp at this); omega
  have hzwb2 : w.heap.size + 2 < wb.heap.size := by have := hb.size; (try simp at this); omega
  have HBwb := Lib.hid hb
  have HNwb := Lib.hid hn
  clear hn hb
  have HX := Lib.hid ((((Bx.new' ((w.alloc (.cells #[.bool true, .slice a na ca] 26)).alloc (.cells #[.bool false, .slice b nb cb] 26)) #[.bool false, .slice none 0 0] 26 (w.heap.size + 1 + 1) (by simp)).below HBwc.out).below HBwa.out).below HBwb.out)
  have HF := Lib.hid (fun v0 v1 => fin2 hN (by omega) HX.out HNwb.out ((((bel3 w _ _ _).trans (HBwc.out.mono (by first | (simp; done) | (simp; omega)))).trans (HBwa.out.mono (by omega))).trans (HBwb.out.mono (by omega))) v0 v1)
  go_wp2_with fail
  exact bodyPost_ret (v := .agg #[.bool (decide (z < 0)), .slice rb (nlen z.natAbs) cb']) (by simp [results, Tryz.results103, go_sem, hcwc, hcwa, hcwb, hzwc2, hzwa2]) rfl ⟨_, _, rfl, (HF.out _ _).1, (HF.out _ _).2⟩
  
set_option maxHeartbeats 4000000 in
theorem iadd_false_false {N : Nat} (a b : Option Addr) (na ca ma nb cb mb : Nat) (w : World) (hN : N ≤ w.heap.size) (ha : Nt N w a na ca ma) (hb : Nt N w b nb cb mb) (la : na ≤ 274877906944) (lb : nb ≤ 274877906944) (z : Int) (hz : zI false ma + zI false mb = z) :
    Calls Tryz.prog 103 #[.agg #[.bool false, .slice a na ca], .agg #[.bool false, .slice b nb cb]] w fun e w' => ∃ r cr, e = .returned (.agg #[.bool (decide (z < 0)), .slice r (nlen z.natAbs) cr]) ∧ Nt N w' r (nlen z.natAbs) cr z.natAbs ∧ Below w.heap.size w w' := by
  have HZ := Lib.hid ((zI_add false ma mb).trans hz)
  have lm := nlen_add ma mb
  have la' := nlen_bound ha _ la
  have lb' := nlen_bound hb _ lb
  have HA := Lib.hid (((ha.alloc (.cells #[.bool false, .slice a na ca] 26)).alloc (.cells #[.bool false, .slice b nb cb] 26)).alloc (.cells #[.bool false, .slice none 0 0] 26))
  have HB := Lib.hid (((hb.alloc (.cells #[.bool false, .slice a na ca] 26)).alloc (.cells #[.bool false, .slice b nb cb] 26)).alloc (.cells #[.bool false, .slice none 0 0] 26))
  clear ha hb hz
  go_enter Tryz.func103, Tryz.ntmps103
  go_wp2_with fail
  go_region_held3 (fun w' => w'.cell? ⟨w.heap.size, 0, none⟩ = some (.bool false) ∧ w'.cell? ⟨w.heap.size, 1, none⟩ = some (.slice a na ca) ∧ w'.cell? ⟨w.heap.size + 1, 0, none⟩ = some (.bool false) ∧ w'.cell? ⟨w.heap.size + 1, 1, none⟩ = some (.slice b nb cb))
    (first | (go_keep; done) | ((try dsimp only); (repeat' apply And.intro) <;> (first | (go_keep; done) | (rw [cell_set2 _ _ _ _ _ _ _ _ (by omega)]; assumption) | (rw [cell_set3 _ _ _ _ _ _ _ _ _ _ (by omega)]; assumption))))
    (first
      | (go_at_call 60; refine (add_any (N := N) _ _ _ _ ma _ _ mb _ (by simp; omega) (by exact HA.out) (by exact HB.out) (by omega) (by omega)).mono ?_; rintro e wa ⟨ra, ca', rfl, hn, hb⟩; have kwa0 : wa.cell? ⟨w.heap.size, 0, none⟩ = some (.bool false) := (hb.cell (p := ⟨w.heap.size, 0, none⟩) (by first | (simp; done) | (simp; omega))).trans (by go_simp); have kwa1 : wa.cell? ⟨w.heap.size, 1, none⟩ = some (.slice a na ca) := (hb.cell (p := ⟨w.heap.size, 1, none⟩) (by first | (simp; done) | (simp; omega))).trans (by go_simp); have kwa2 : wa.cell? ⟨w.heap.size + 1, 0, none⟩ = some (.bool false) := (hb.cell (p := ⟨w.heap.size + 1, 0, none⟩) (by first | (simp; done) | (simp; omega))).trans (by go_simp); have kwa3 : wa.cell? ⟨w.heap.size + 1, 1, none⟩ = some (.slice b nb cb) := (hb.cell (p := ⟨w.heap.size + 1, 1, none⟩) (by first | (simp; done) | (simp; omega))).trans (by go_simp); have hzwa0 : w.heap.size < wa.heap.size := (by have := hb.size; (try simp at this); omega); have hzwa1 : w.heap.size + 1 < wa.heap.size := (by have := hb.size; (try simp at this); omega); have hzwa2 : w.heap.size + 2 < wa.heap.size := (by have := hb.size; (try simp at this); omega); obtain ⟨hcwa, hfwa⟩ := bcell hb; have HBwa := Lib.hid hb; have HNwa := Lib.hid hn; clear hb hn)
      | (go_at_call 62; refine (make_z (N := N) false _ _ _ (ma + mb) _ (by omega) (by exact HNwa.out) (by omega) z HZ.out).mono ?_; rintro e wb ⟨rb, cb', rfl, hn, hb⟩; have kwb0 : wb.cell? ⟨w.heap.size, 0, none⟩ = some (.bool false) := (hb.cell (p := ⟨w.heap.size, 0, none⟩) (by omega)).trans kwa0; have kwb1 : wb.cell? ⟨w.heap.size, 1, none⟩ = some (.slice a na ca) := (hb.cell (p := ⟨w.heap.size, 1, none⟩) (by omega)).trans kwa1; have kwb2 : wb.cell? ⟨w.heap.size + 1, 0, none⟩ = some (.bool false) := (hb.cell (p := ⟨w.heap.size + 1, 0, none⟩) (by omega)).trans kwa2; have kwb3 : wb.cell? ⟨w.heap.size + 1, 1, none⟩ = some (.slice b nb cb) := (hb.cell (p := ⟨w.heap.size + 1, 1, none⟩) (by omega)).trans kwa3; have hzwb0 : w.heap.size < wb.heap.size := (by have := hb.size; (try simp at this); omega); have hzwb1 : w.heap.size + 1 < wb.heap.size := (by have := hb.size; (try simp at this); omega); have hzwb2 : w.heap.size + 2 < wb.heap.size := (by have := hb.size; (try simp at this); omega); obtain ⟨hcwb, hfwb⟩ := bcell hb; have HBwb := Lib.hid hb; have HNwb := Lib.hid hn; clear hb hn))
  have HX := Lib.hid (((Bx.new' ((w.alloc (.cells #[.bool false, .slice a na ca] 26)).alloc (.cells #[.bool false, .slice b nb cb] 26)) #[.bool false, .slice none 0 0] 26 (w.heap.size + 1 + 1) (by simp)).drewB HBwa.out).below HBwb.out)
  have HF := Lib.hid (fun v0 v1 => fin2 hN (by omega) HX.out HNwb.out (((bel3 w _ _ _).trans ((bel_of_drew HBwa.out).mono (by first | (simp; done) | (simp; omega)))).trans (HBwb.out.mono (by omega))) v0 v1)
  go_wp2_with fail
  exact bodyPost_ret (v := .agg #[.bool (decide (z < 0)), .slice rb (nlen z.natAbs) cb']) (by simp [results, Tryz.results103, go_sem, hcwa, hcwb, hzwa2]) rfl ⟨_, _, rfl, (HF.out _ _).1, (HF.out _ _).2⟩

set_option maxHeartbeats 4000000 in
theorem iadd_false_true_ge {N : Nat} (a b : Option Addr) (na ca ma nb cb mb : Nat) (w : World) (hN : N ≤ w.heap.size) (ha : Nt N w a na ca ma) (hb : Nt N w b nb cb mb) (la : na ≤ 274877906944) (lb : nb ≤ 274877906944) (hle : mb ≤ ma) (z : Int) (hz : zI false ma + zI true mb = z) :
    Calls Tryz.prog 103 #[.agg #[.bool false, .slice a na ca], .agg #[.bool true, .slice b nb cb]] w fun e w' => ∃ r cr, e = .returned (.agg #[.bool (decide (z < 0)), .slice r (nlen z.natAbs) cr]) ∧ Nt N w' r (nlen z.natAbs) cr z.natAbs ∧ Below w.heap.size w w' := by
  have HZ := Lib.hid ((zI_sub1 false ma mb hle).trans hz)
  have la' := nlen_bound ha _ la
  have lb' := nlen_bound hb _ lb
  have HA := Lib.hid (((ha.alloc (.cells #[.bool false, .slice a na ca] 26)).alloc (.cells #[.bool true, .slice b nb cb] 26)).alloc (.cells #[.bool false, .slice none 0 0] 26))
  have HB := Lib.hid (((hb.alloc (.cells #[.bool false, .slice a na ca] 26)).alloc (.cells #[.bool true, .slice b nb cb] 26)).alloc (.cells #[.bool false, .slice none 0 0] 26))
  clear ha hb hz
  go_enter Tryz.func103, Tryz.ntmps103
  go_wp2_with fail
  refine (sub_any (N := N) _ _ _ _ ma _ _ mb _ (by simp; omega) HA.out HB.out (by omega) hle).mono ?_
  rintro e wa ⟨ra, ca', rfl, hn, hb⟩
  obtain ⟨hcwa, hfwa⟩ := bcell hb
  have hzwa0 : w.heap.size < wa.heap.size := by have := hb.size; (try simp at this); omega
  have hzwa1 : w.heap.size + 1 < wa.heap.size := by have := hb.size; (try simp at this); omega
  have hzwa2 : w.heap.size + 2 < wa.heap.size := by have := hb.size; (try simp at this); omega
  have HBwa := Lib.hid hb
  have HNwa := Lib.hid hn
  clear hn hb
  have ld := nlen_mono (Nat.sub_le ma mb)
  go_wp2_with fail
  refine (make_z (N := N) false _ _ _ (ma - mb) _ (by omega) HNwa.out (by omega) z HZ.out).mono ?_
  rintro e wb ⟨rb, cb', rfl, hn, hb⟩
  obtain ⟨hcwb, hfwb⟩ := bcell hb
  have hzwb0 : w.heap.size < wb.heap.size := by have := hb.size; (try simp at this); omega
  have hzwb1 : w.heap.size + 1 < wb.heap.size := by have := hb.size; (try simp at this); omega
  have hzwb2 : w.heap.size + 2 < wb.heap.size := by have := hb.size; (try simp at this); omega
  have HBwb := Lib.hid hb
  have HNwb := Lib.hid hn
  clear hn hb
  have HX := Lib.hid (((Bx.new' ((w.alloc (.cells #[.bool false, .slice a na ca] 26)).alloc (.cells #[.bool true, .slice b nb cb] 26)) #[.bool false, .slice none 0 0] 26 (w.heap.size + 1 + 1) (by simp)).below HBwa.out).below HBwb.out)
  have HF := Lib.hid (fun v0 v1 => fin2 hN (by omega) HX.out HNwb.out (((bel3 w _ _ _).trans (HBwa.out.mono (by first | (simp; done) | (simp; omega)))).trans (HBwb.out.mono (by omega))) v0 v1)
  go_wp2_with fail
  exact bodyPost_ret (v := .agg #[.bool (decide (z < 0)), .slice rb (nlen z.natAbs) cb']) (by simp [results, Tryz.results103, go_sem, hcwa, hcwb, hzwa2]) rfl ⟨_, _, rfl, (HF.out _ _).1, (HF.out _ _).2⟩
  
set_option maxHeartbeats 4000000 in
theorem iadd_false_true_lt {N : Nat} (a b : Option Addr) (na ca ma nb cb mb : Nat) (w : World) (hN : N ≤ w.heap.size) (ha : Nt N w a na ca ma) (hb : Nt N w b nb cb mb) (la : na ≤ 274877906944) (lb : nb ≤ 274877906944) (hlt : ma < mb) (z : Int) (hz : zI false ma + zI true mb = z) :
    Calls Tryz.prog 103 #[.agg #[.bool false, .slice a na ca], .agg #[.bool true, .slice b nb cb]] w fun e w' => ∃ r cr, e = .returned (.agg #[.bool (decide (z < 0)), .slice r (nlen z.natAbs) cr]) ∧ Nt N w' r (nlen z.natAbs) cr z.natAbs ∧ Below w.heap.size w w' := by
  have HZ := Lib.hid ((zI_sub2 false ma mb (Nat.le_of_lt hlt)).trans hz)
  have la' := nlen_bound ha _ la
  have lb' := nlen_bound hb _ lb
  have HA := Lib.hid (((ha.alloc (.cells #[.bool false, .slice a na ca] 26)).alloc (.cells #[.bool true, .slice b nb cb] 26)).alloc (.cells #[.bool false, .slice none 0 0] 26))
  have HB := Lib.hid (((hb.alloc (.cells #[.bool false, .slice a na ca] 26)).alloc (.cells #[.bool true, .slice b nb cb] 26)).alloc (.cells #[.bool false, .slice none 0 0] 26))
  clear ha hb hz
  go_enter Tryz.func103, Tryz.ntmps103
  go_wp2_with fail
  refine (sub_no (N := N) _ _ _ _ ma _ _ mb _ HA.out HB.out hlt).mono ?_
  rintro e wc ⟨rfl, hb⟩
  have hn := trivial
  obtain ⟨hcwc, hfwc⟩ := bcell hb
  have hzwc0 : w.heap.size < wc.heap.size := by have := hb.size; (try simp at this); omega
  have hzwc1 : w.heap.size + 1 < wc.heap.size := by have := hb.size; (try simp at this); omega
  have hzwc2 : w.heap.size + 2 < wc.heap.size := by have := hb.size; (try simp at this); omega
  have HBwc := Lib.hid hb
  have HNwc := Lib.hid hn
  clear hn hb
  go_wp2_with fail
  refine (sub_any (N := N) _ _ _ _ mb _ _ ma _ (by omega) (HB.out.below HBwc.out) (HA.out.below HBwc.out) (by omega) (Nat.le_of_lt hlt)).mono ?_
  rintro e wa ⟨ra, ca', rfl, hn, hb⟩
  obtain ⟨hcwa, hfwa⟩ := bcell hb
  have hzwa0 : w.heap.size < wa.heap.size := by have := hb.size; (try simp at this); omega
  have hzwa1 : w.heap.size + 1 < wa.heap.size := by have := hb.size; (try simp at this); omega
  have hzwa2 : w.heap.size + 2 < wa.heap.size := by have := hb.size; (try simp at this); omega
  have HBwa := Lib.hid hb
  have HNwa := Lib.hid hn
  clear hn hb
  have ld := nlen_mono (Nat.sub_le mb ma)
  go_wp2_with fail
  refine (make_z (N := N) true _ _ _ (mb - ma) _ (by omega) HNwa.out (by omega) z HZ.out).mono ?_
  rintro e wb ⟨rb, cb', rfl, hn, hb⟩
  obtain ⟨hcwb, hfwb⟩ := bcell hb
  have hzwb0 : w.heap.size < wb.heap.size := by have := hb.size; (try simp at this); omega
  have hzwb1 : w.heap.size + 1 < wb.heap.size := by have := hb.size; (try simp at this); omega
  have hzwb2 : w.heap.size + 2 < wb.heap.size := by have := hb.size; (try simp at this); omega
  have HBwb := Lib.hid hb
  have HNwb := Lib.hid hn
  clear hn hb
  have HX := Lib.hid ((((Bx.new' ((w.alloc (.cells #[.bool false, .slice a na ca] 26)).alloc (.cells #[.bool true, .slice b nb cb] 26)) #[.bool false, .slice none 0 0] 26 (w.heap.size + 1 + 1) (by simp)).below HBwc.out).below HBwa.out).below HBwb.out)
  have HF := Lib.hid (fun v0 v1 => fin2 hN (by omega) HX.out HNwb.out ((((bel3 w _ _ _).trans (HBwc.out.mono (by first | (simp; done) | (simp; omega)))).trans (HBwa.out.mono (by omega))).trans (HBwb.out.mono (by omega))) v0 v1)
  go_wp2_with fail
  exact bodyPost_ret (v := .agg #[.bool (decide (z < 0)), .slice rb (nlen z.natAbs) cb']) (by simp [results, Tryz.results103, go_sem, hcwc, hcwa, hcwb, hzwc2, hzwa2]) rfl ⟨_, _, rfl, (HF.out _ _).1, (HF.out _ _).2⟩
  
theorem iadd_any {N : Nat} (sa sb : Bool) (a b : Option Addr) (na ca ma nb cb mb : Nat) (w : World) (hN : N ≤ w.heap.size) (ha : Nt N w a na ca ma) (hb : Nt N w b nb cb mb) (la : na ≤ 274877906944) (lb : nb ≤ 274877906944) (z : Int) (hz : zI sa ma + zI sb mb = z) :
    Calls Tryz.prog 103 #[.agg #[.bool sa, .slice a na ca], .agg #[.bool sb, .slice b nb cb]] w fun e w' => ∃ r cr, e = .returned (.agg #[.bool (decide (z < 0)), .slice r (nlen z.natAbs) cr]) ∧ Nt N w' r (nlen z.natAbs) cr z.natAbs ∧ Below w.heap.size w w' := by
  cases sa <;> cases sb
  · exact iadd_false_false a b na ca ma nb cb mb w hN ha hb la lb z hz
  · rcases Nat.lt_or_ge ma mb with h | h
    · exact iadd_false_true_lt a b na ca ma nb cb mb w hN ha hb la lb h z hz
    · exact iadd_false_true_ge a b na ca ma nb cb mb w hN ha hb la lb h z hz
  · rcases Nat.lt_or_ge ma mb with h | h
    · exact iadd_true_false_lt a b na ca ma nb cb mb w hN ha hb la lb h z hz
    · exact iadd_true_false_ge a b na ca ma nb cb mb w hN ha hb la lb h z hz
  · exact iadd_true_true a b na ca ma nb cb mb w hN ha hb la lb z hz

/-- -1, 0 or 1 -/
def cmpZ (x y : Int) : Int := if x < y then -1 else if y < x then 1 else 0
theorem cmpZ_sl {x y : Int} (h : x.sign < y.sign) : cmpZ x y = -1 := by
  unfold cmpZ; rw [if_pos]
  rcases Int.lt_trichotomy x 0 with h1 | h1 | h1 <;> rcases Int.lt_trichotomy y 0 with h2 | h2 | h2 <;>
    simp_all [Int.sign_eq_one_of_pos, Int.sign_eq_neg_one_of_neg] <;> omega
theorem cmpZ_sg {x y : Int} (h : y.sign < x.sign) : cmpZ x y = 1 := by
  have h2 := cmpZ_sl h
  unfold cmpZ at h2 ⊢
  split at h2
  · rw [if_neg (by omega), if_pos (by assumption)]
  · split at h2 <;> simp at h2
theorem cmpZ_pos {sa sb : Bool} {ma mb : Nat} (h1 : (zI sa ma).sign = 1) (h2 : (zI sb mb).sign = 1) : cmpZ (zI sa ma) (zI sb mb) = cmpN ma mb := by
  have p1 := Int.sign_eq_one_iff_pos.1 h1
  have p2 := Int.sign_eq_one_iff_pos.1 h2
  unfold cmpZ cmpN zI at *
  cases sa <;> cases sb <;> simp at * <;> omega
theorem cmpZ_neg {sa sb : Bool} {ma mb : Nat} (h1 : (zI sa ma).sign = -1) (h2 : (zI sb mb).sign = -1) : cmpZ (zI sa ma) (zI sb mb) = -cmpN ma mb := by
  have p1 := Int.sign_eq_neg_one_iff_neg.1 h1
  have p2 := Int.sign_eq_neg_one_iff_neg.1 h2
  unfold cmpZ cmpN zI at *
  cases sa <;> cases sb <;> simp at * <;> (repeat' split) <;> omega
theorem cmpZ_zero {x y : Int} (h1 : x.sign = 0) (h2 : y.sign = 0) : cmpZ x y = 0 := by
  have p1 := Int.sign_eq_zero_iff_zero.1 h1
  have p2 := Int.sign_eq_zero_iff_zero.1 h2
  subst p1 p2; rfl
theorem sgn3 (x : Int) : x.sign = -1 ∨ x.sign = 0 ∨ x.sign = 1 := by
  rcases Int.lt_trichotomy x 0 with h1 | h1 | h1
  · exact .inl (Int.sign_eq_neg_one_of_neg h1)
  · subst h1; exact .inr (.inl rfl)
  · exact .inr (.inr (Int.sign_eq_one_of_pos h1))

end Go.Proofs.YtbjgnpgachdlaaaGreatDoor
