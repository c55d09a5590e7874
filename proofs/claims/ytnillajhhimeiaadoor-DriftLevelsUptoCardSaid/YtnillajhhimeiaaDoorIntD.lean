/- Contract of integer.Cmp: for all integers. -/
import Derived.Test.YtnillajhhimeiaaDoorIntC
namespace Go.Proofs.YtnillajhhimeiaaDoor
open Go.RowKit

set_option maxHeartbeats 4000000 in
theorem icmp_lt {N : Nat} (sa sb : Bool) (a b : Option Addr) (na ca ma nb cb mb : Nat) (w : World) (ha : Nt N w a na ca ma) (hb : Nt N w b nb cb mb) (hs : (zI sa ma).sign < (zI sb mb).sign) :
    Calls Tryd.prog 34 #[.agg #[.bool sa, .slice a na ca], .agg #[.bool sb, .slice b nb cb]] w fun e w' => e = .returned (.int .i64 (cmpZ (zI sa ma) (zI sb mb))) ∧ Below w.heap.size w w' := by
  have HE := Lib.hid (cmpZ_sl hs)
  have HA := Lib.hid ((ha.alloc (.cells #[.bool sa, .slice a na ca] 28)).alloc (.cells #[.bool sb, .slice b nb cb] 28))
  have HB := Lib.hid ((hb.alloc (.cells #[.bool sa, .slice a na ca] 28)).alloc (.cells #[.bool sb, .slice b nb cb] 28))
  have hbd := cmpN_bd ma mb
  clear ha hb
  have tok1 := trivial
  go_enter Tryd.func34, Tryd.ntmps34
  go_wp2_with fail
  go_region_held3 (fun w' => w'.cell? ⟨w.heap.size, 0, none⟩ = some (.bool sa) ∧ w'.cell? ⟨w.heap.size, 1, none⟩ = some (.slice a na ca) ∧ w'.cell? ⟨w.heap.size + 1, 0, none⟩ = some (.bool sb) ∧ w'.cell? ⟨w.heap.size + 1, 1, none⟩ = some (.slice b nb cb))
    (first | (go_keep; done) | ((try dsimp only); (repeat' apply And.intro) <;> (first | (go_keep; done) | (rw [cell_set2 _ _ _ _ _ _ _ _ (by omega)]; assumption) | (rw [cell_set3 _ _ _ _ _ _ _ _ _ _ (by omega)]; assumption))))
    (first
      | (go_at_call 37; have _t := tok1; refine (isign_any (N := N) sa _ _ _ ma _ (by exact HA.out)).mono ?_; rintro e wa ⟨rfl, hb⟩; have kwa0 : wa.cell? ⟨w.heap.size, 0, none⟩ = some (.bool sa) := (hb.cell (p := ⟨w.heap.size, 0, none⟩) (by first | (simp; done) | (simp; omega))).trans (by go_simp); have kwa1 : wa.cell? ⟨w.heap.size, 1, none⟩ = some (.slice a na ca) := (hb.cell (p := ⟨w.heap.size, 1, none⟩) (by first | (simp; done) | (simp; omega))).trans (by go_simp); have kwa2 : wa.cell? ⟨w.heap.size + 1, 0, none⟩ = some (.bool sb) := (hb.cell (p := ⟨w.heap.size + 1, 0, none⟩) (by first | (simp; done) | (simp; omega))).trans (by go_simp); have kwa3 : wa.cell? ⟨w.heap.size + 1, 1, none⟩ = some (.slice b nb cb) := (hb.cell (p := ⟨w.heap.size + 1, 1, none⟩) (by first | (simp; done) | (simp; omega))).trans (by go_simp); have hzwa0 : w.heap.size < wa.heap.size := (by have := hb.size; (try simp at this); omega); have hzwa1 : w.heap.size + 1 < wa.heap.size := (by have := hb.size; (try simp at this); omega); obtain ⟨hcwa, hfwa⟩ := bcell hb; have HBwa := Lib.hid hb; clear hb  _t tok1)
      | (go_at_call 37; refine (isign_any (N := N) sb _ _ _ mb _ (by exact (HB.out.below (bel_of_drew HBwa.out)))).mono ?_; rintro e wb ⟨rfl, hb⟩; have kwb0 : wb.cell? ⟨w.heap.size, 0, none⟩ = some (.bool sa) := (hb.cell (p := ⟨w.heap.size, 0, none⟩) (by omega)).trans kwa0; have kwb1 : wb.cell? ⟨w.heap.size, 1, none⟩ = some (.slice a na ca) := (hb.cell (p := ⟨w.heap.size, 1, none⟩) (by omega)).trans kwa1; have kwb2 : wb.cell? ⟨w.heap.size + 1, 0, none⟩ = some (.bool sb) := (hb.cell (p := ⟨w.heap.size + 1, 0, none⟩) (by omega)).trans kwa2; have kwb3 : wb.cell? ⟨w.heap.size + 1, 1, none⟩ = some (.slice b nb cb) := (hb.cell (p := ⟨w.heap.size + 1, 1, none⟩) (by omega)).trans kwa3; have hzwb0 : w.heap.size < wb.heap.size := (by have := hb.size; (try simp at this); omega); have hzwb1 : w.heap.size + 1 < wb.heap.size := (by have := hb.size; (try simp at this); omega); obtain ⟨hcwb, hfwb⟩ := bcell hb; have HBwb := Lib.hid hb; clear hb ))
  have HBB := Lib.hid (((bel2 w _ _).trans ((bel_of_drew HBwa.out).mono (by first | (simp; done) | (simp; omega)))).trans (HBwb.out.mono (by omega)))
  go_wp2_with fail
  go_ret
  rw [HE.out]
  exact ⟨rfl, HBB.out⟩

set_option maxHeartbeats 4000000 in
theorem icmp_gt {N : Nat} (sa sb : Bool) (a b : Option Addr) (na ca ma nb cb mb : Nat) (w : World) (ha : Nt N w a na ca ma) (hb : Nt N w b nb cb mb) (hs : (zI sb mb).sign < (zI sa ma).sign) :
    Calls Tryd.prog 34 #[.agg #[.bool sa, .slice a na ca], .agg #[.bool sb, .slice b nb cb]] w fun e w' => e = .returned (.int .i64 (cmpZ (zI sa ma) (zI sb mb))) ∧ Below w.heap.size w w' := by
  have HE := Lib.hid (cmpZ_sg hs)
  have HA := Lib.hid ((ha.alloc (.cells #[.bool sa, .slice a na ca] 28)).alloc (.cells #[.bool sb, .slice b nb cb] 28))
  have HB := Lib.hid ((hb.alloc (.cells #[.bool sa, .slice a na ca] 28)).alloc (.cells #[.bool sb, .slice b nb cb] 28))
  have hbd := cmpN_bd ma mb
  clear ha hb
  have tok1 := trivial
  go_enter Tryd.func34, Tryd.ntmps34
  go_wp2_with fail
  go_region_held3 (fun w' => w'.cell? ⟨w.heap.size, 0, none⟩ = some (.bool sa) ∧ w'.cell? ⟨w.heap.size, 1, none⟩ = some (.slice a na ca) ∧ w'.cell? ⟨w.heap.size + 1, 0, none⟩ = some (.bool sb) ∧ w'.cell? ⟨w.heap.size + 1, 1, none⟩ = some (.slice b nb cb))
    (first | (go_keep; done) | ((try dsimp only); (repeat' apply And.intro) <;> (first | (go_keep; done) | (rw [cell_set2 _ _ _ _ _ _ _ _ (by omega)]; assumption) | (rw [cell_set3 _ _ _ _ _ _ _ _ _ _ (by omega)]; assumption))))
    (first
      | (go_at_call 37; have _t := tok1; refine (isign_any (N := N) sa _ _ _ ma _ (by exact HA.out)).mono ?_; rintro e wa ⟨rfl, hb⟩; have kwa0 : wa.cell? ⟨w.heap.size, 0, none⟩ = some (.bool sa) := (hb.cell (p := ⟨w.heap.size, 0, none⟩) (by first | (simp; done) | (simp; omega))).trans (by go_simp); have kwa1 : wa.cell? ⟨w.heap.size, 1, none⟩ = some (.slice a na ca) := (hb.cell (p := ⟨w.heap.size, 1, none⟩) (by first | (simp; done) | (simp; omega))).trans (by go_simp); have kwa2 : wa.cell? ⟨w.heap.size + 1, 0, none⟩ = some (.bool sb) := (hb.cell (p := ⟨w.heap.size + 1, 0, none⟩) (by first | (simp; done) | (simp; omega))).trans (by go_simp); have kwa3 : wa.cell? ⟨w.heap.size + 1, 1, none⟩ = some (.slice b nb cb) := (hb.cell (p := ⟨w.heap.size + 1, 1, none⟩) (by first | (simp; done) | (simp; omega))).trans (by go_simp); have hzwa0 : w.heap.size < wa.heap.size := (by have := hb.size; (try simp at this); omega); have hzwa1 : w.heap.size + 1 < wa.heap.size := (by have := hb.size; (try simp at this); omega); obtain ⟨hcwa, hfwa⟩ := bcell hb; have HBwa := Lib.hid hb; clear hb  _t tok1)
      | (go_at_call 37; refine (isign_any (N := N) sb _ _ _ mb _ (by exact (HB.out.below (bel_of_drew HBwa.out)))).mono ?_; rintro e wb ⟨rfl, hb⟩; have kwb0 : wb.cell? ⟨w.heap.size, 0, none⟩ = some (.bool sa) := (hb.cell (p := ⟨w.heap.size, 0, none⟩) (by omega)).trans kwa0; have kwb1 : wb.cell? ⟨w.heap.size, 1, none⟩ = some (.slice a na ca) := (hb.cell (p := ⟨w.heap.size, 1, none⟩) (by omega)).trans kwa1; have kwb2 : wb.cell? ⟨w.heap.size + 1, 0, none⟩ = some (.bool sb) := (hb.cell (p := ⟨w.heap.size + 1, 0, none⟩) (by omega)).trans kwa2; have kwb3 : wb.cell? ⟨w.heap.size + 1, 1, none⟩ = some (.slice b nb cb) := (hb.cell (p := ⟨w.heap.size + 1, 1, none⟩) (by omega)).trans kwa3; have hzwb0 : w.heap.size < wb.heap.size := (by have := hb.size; (try simp at this); omega); have hzwb1 : w.heap.size + 1 < wb.heap.size := (by have := hb.size; (try simp at this); omega); obtain ⟨hcwb, hfwb⟩ := bcell hb; have HBwb := Lib.hid hb; clear hb ))
  have HBB := Lib.hid (((bel2 w _ _).trans ((bel_of_drew HBwa.out).mono (by first | (simp; done) | (simp; omega)))).trans (HBwb.out.mono (by omega)))
  go_wp2_with fail
  go_ret
  rw [HE.out]
  exact ⟨rfl, HBB.out⟩

set_option maxHeartbeats 4000000 in
theorem icmp_pos {N : Nat} (sa sb : Bool) (a b : Option Addr) (na ca ma nb cb mb : Nat) (w : World) (ha : Nt N w a na ca ma) (hb : Nt N w b nb cb mb) (h1 : (zI sa ma).sign = 1) (h2 : (zI sb mb).sign = 1) :
    Calls Tryd.prog 34 #[.agg #[.bool sa, .slice a na ca], .agg #[.bool sb, .slice b nb cb]] w fun e w' => e = .returned (.int .i64 (cmpZ (zI sa ma) (zI sb mb))) ∧ Below w.heap.size w w' := by
  have HE := Lib.hid (cmpZ_pos h1 h2)
  have HA := Lib.hid ((ha.alloc (.cells #[.bool sa, .slice a na ca] 28)).alloc (.cells #[.bool sb, .slice b nb cb] 28))
  have HB := Lib.hid ((hb.alloc (.cells #[.bool sa, .slice a na ca] 28)).alloc (.cells #[.bool sb, .slice b nb cb] 28))
  have hbd := cmpN_bd ma mb
  clear ha hb
  have tok1 := trivial
  go_enter Tryd.func34, Tryd.ntmps34
  go_wp2_with fail
  go_region_held3 (fun w' => w'.cell? ⟨w.heap.size, 0, none⟩ = some (.bool sa) ∧ w'.cell? ⟨w.heap.size, 1, none⟩ = some (.slice a na ca) ∧ w'.cell? ⟨w.heap.size + 1, 0, none⟩ = some (.bool sb) ∧ w'.cell? ⟨w.heap.size + 1, 1, none⟩ = some (.slice b nb cb))
    (first | (go_keep; done) | ((try dsimp only); (repeat' apply And.intro) <;> (first | (go_keep; done) | (rw [cell_set2 _ _ _ _ _ _ _ _ (by omega)]; assumption) | (rw [cell_set3 _ _ _ _ _ _ _ _ _ _ (by omega)]; assumption))))
    (first
      | (go_at_call 37; have _t := tok1; refine (isign_any (N := N) sa _ _ _ ma _ (by exact HA.out)).mono ?_; rintro e wa ⟨rfl, hb⟩; have kwa0 : wa.cell? ⟨w.heap.size, 0, none⟩ = some (.bool sa) := (hb.cell (p := ⟨w.heap.size, 0, none⟩) (by first | (simp; done) | (simp; omega))).trans (by go_simp); have kwa1 : wa.cell? ⟨w.heap.size, 1, none⟩ = some (.slice a na ca) := (hb.cell (p := ⟨w.heap.size, 1, none⟩) (by first | (simp; done) | (simp; omega))).trans (by go_simp); have kwa2 : wa.cell? ⟨w.heap.size + 1, 0, none⟩ = some (.bool sb) := (hb.cell (p := ⟨w.heap.size + 1, 0, none⟩) (by first | (simp; done) | (simp; omega))).trans (by go_simp); have kwa3 : wa.cell? ⟨w.heap.size + 1, 1, none⟩ = some (.slice b nb cb) := (hb.cell (p := ⟨w.heap.size + 1, 1, none⟩) (by first | (simp; done) | (simp; omega))).trans (by go_simp); have hzwa0 : w.heap.size < wa.heap.size := (by have := hb.size; (try simp at this); omega); have hzwa1 : w.heap.size + 1 < wa.heap.size := (by have := hb.size; (try simp at this); omega); obtain ⟨hcwa, hfwa⟩ := bcell hb; have HBwa := Lib.hid hb; clear hb  _t tok1)
      | (go_at_call 37; refine (isign_any (N := N) sb _ _ _ mb _ (by exact (HB.out.below (bel_of_drew HBwa.out)))).mono ?_; rintro e wb ⟨rfl, hb⟩; have kwb0 : wb.cell? ⟨w.heap.size, 0, none⟩ = some (.bool sa) := (hb.cell (p := ⟨w.heap.size, 0, none⟩) (by omega)).trans kwa0; have kwb1 : wb.cell? ⟨w.heap.size, 1, none⟩ = some (.slice a na ca) := (hb.cell (p := ⟨w.heap.size, 1, none⟩) (by omega)).trans kwa1; have kwb2 : wb.cell? ⟨w.heap.size + 1, 0, none⟩ = some (.bool sb) := (hb.cell (p := ⟨w.heap.size + 1, 0, none⟩) (by omega)).trans kwa2; have kwb3 : wb.cell? ⟨w.heap.size + 1, 1, none⟩ = some (.slice b nb cb) := (hb.cell (p := ⟨w.heap.size + 1, 1, none⟩) (by omega)).trans kwa3; have hzwb0 : w.heap.size < wb.heap.size := (by have := hb.size; (try simp at this); omega); have hzwb1 : w.heap.size + 1 < wb.heap.size := (by have := hb.size; (try simp at this); omega); obtain ⟨hcwb, hfwb⟩ := bcell hb; have HBwb := Lib.hid hb; clear hb ))
  have HBB := Lib.hid (((bel2 w _ _).trans ((bel_of_drew HBwa.out).mono (by first | (simp; done) | (simp; omega)))).trans (HBwb.out.mono (by omega)))
  go_wp2_with fail
  refine (cmp_any (N := N) _ _ _ _ ma _ _ mb _ ((HA.out.below (bel_of_drew HBwa.out)).below HBwb.out) ((HB.out.below (bel_of_drew HBwa.out)).below HBwb.out)).mono ?_
  rintro e wc ⟨rfl, q, rfl⟩
  go_wp2_with fail
  go_ret
  rw [HE.out]
  exact ⟨rfl, below_drewN HBB.out _⟩

set_option maxHeartbeats 4000000 in
theorem icmp_neg {N : Nat} (sa sb : Bool) (a b : Option Addr) (na ca ma nb cb mb : Nat) (w : World) (ha : Nt N w a na ca ma) (hb : Nt N w b nb cb mb) (h1 : (zI sa ma).sign = -1) (h2 : (zI sb mb).sign = -1) :
    Calls Tryd.prog 34 #[.agg #[.bool sa, .slice a na ca], .agg #[.bool sb, .slice b nb cb]] w fun e w' => e = .returned (.int .i64 (cmpZ (zI sa ma) (zI sb mb))) ∧ Below w.heap.size w w' := by
  have HE := Lib.hid (cmpZ_neg h1 h2)
  have HA := Lib.hid ((ha.alloc (.cells #[.bool sa, .slice a na ca] 28)).alloc (.cells #[.bool sb, .slice b nb cb] 28))
  have HB := Lib.hid ((hb.alloc (.cells #[.bool sa, .slice a na ca] 28)).alloc (.cells #[.bool sb, .slice b nb cb] 28))
  have hbd := cmpN_bd ma mb
  clear ha hb
  have tok1 := trivial
  go_enter Tryd.func34, Tryd.ntmps34
  go_wp2_with fail
  go_region_held3 (fun w' => w'.cell? ⟨w.heap.size, 0, none⟩ = some (.bool sa) ∧ w'.cell? ⟨w.heap.size, 1, none⟩ = some (.slice a na ca) ∧ w'.cell? ⟨w.heap.size + 1, 0, none⟩ = some (.bool sb) ∧ w'.cell? ⟨w.heap.size + 1, 1, none⟩ = some (.slice b nb cb))
    (first | (go_keep; done) | ((try dsimp only); (repeat' apply And.intro) <;> (first | (go_keep; done) | (rw [cell_set2 _ _ _ _ _ _ _ _ (by omega)]; assumption) | (rw [cell_set3 _ _ _ _ _ _ _ _ _ _ (by omega)]; assumption))))
    (first
      | (go_at_call 37; have _t := tok1; refine (isign_any (N := N) sa _ _ _ ma _ (by exact HA.out)).mono ?_; rintro e wa ⟨rfl, hb⟩; have kwa0 : wa.cell? ⟨w.heap.size, 0, none⟩ = some (.bool sa) := (hb.cell (p := ⟨w.heap.size, 0, none⟩) (by first | (simp; done) | (simp; omega))).trans (by go_simp); have kwa1 : wa.cell? ⟨w.heap.size, 1, none⟩ = some (.slice a na ca) := (hb.cell (p := ⟨w.heap.size, 1, none⟩) (by first | (simp; done) | (simp; omega))).trans (by go_simp); have kwa2 : wa.cell? ⟨w.heap.size + 1, 0, none⟩ = some (.bool sb) := (hb.cell (p := ⟨w.heap.size + 1, 0, none⟩) (by first | (simp; done) | (simp; omega))).trans (by go_simp); have kwa3 : wa.cell? ⟨w.heap.size + 1, 1, none⟩ = some (.slice b nb cb) := (hb.cell (p := ⟨w.heap.size + 1, 1, none⟩) (by first | (simp; done) | (simp; omega))).trans (by go_simp); have hzwa0 : w.heap.size < wa.heap.size := (by have := hb.size; (try simp at this); omega); have hzwa1 : w.heap.size + 1 < wa.heap.size := (by have := hb.size; (try simp at this); omega); obtain ⟨hcwa, hfwa⟩ := bcell hb; have HBwa := Lib.hid hb; clear hb  _t tok1)
      | (go_at_call 37; refine (isign_any (N := N) sb _ _ _ mb _ (by exact (HB.out.below (bel_of_drew HBwa.out)))).mono ?_; rintro e wb ⟨rfl, hb⟩; have kwb0 : wb.cell? ⟨w.heap.size, 0, none⟩ = some (.bool sa) := (hb.cell (p := ⟨w.heap.size, 0, none⟩) (by omega)).trans kwa0; have kwb1 : wb.cell? ⟨w.heap.size, 1, none⟩ = some (.slice a na ca) := (hb.cell (p := ⟨w.heap.size, 1, none⟩) (by omega)).trans kwa1; have kwb2 : wb.cell? ⟨w.heap.size + 1, 0, none⟩ = some (.bool sb) := (hb.cell (p := ⟨w.heap.size + 1, 0, none⟩) (by omega)).trans kwa2; have kwb3 : wb.cell? ⟨w.heap.size + 1, 1, none⟩ = some (.slice b nb cb) := (hb.cell (p := ⟨w.heap.size + 1, 1, none⟩) (by omega)).trans kwa3; have hzwb0 : w.heap.size < wb.heap.size := (by have := hb.size; (try simp at this); omega); have hzwb1 : w.heap.size + 1 < wb.heap.size := (by have := hb.size; (try simp at this); omega); obtain ⟨hcwb, hfwb⟩ := bcell hb; have HBwb := Lib.hid hb; clear hb ))
  have HBB := Lib.hid (((bel2 w _ _).trans ((bel_of_drew HBwa.out).mono (by first | (simp; done) | (simp; omega)))).trans (HBwb.out.mono (by omega)))
  go_wp2_with fail
  refine (cmp_any (N := N) _ _ _ _ ma _ _ mb _ ((HA.out.below (bel_of_drew HBwa.out)).below HBwb.out) ((HB.out.below (bel_of_drew HBwa.out)).below HBwb.out)).mono ?_
  rintro e wc ⟨rfl, q, rfl⟩
  go_wp2_with fail
  go_ret
  rw [HE.out]
  exact ⟨rfl, below_drewN HBB.out _⟩

set_option maxHeartbeats 4000000 in
theorem icmp_zero {N : Nat} (sa sb : Bool) (a b : Option Addr) (na ca ma nb cb mb : Nat) (w : World) (ha : Nt N w a na ca ma) (hb : Nt N w b nb cb mb) (h1 : (zI sa ma).sign = 0) (h2 : (zI sb mb).sign = 0) :
    Calls Tryd.prog 34 #[.agg #[.bool sa, .slice a na ca], .agg #[.bool sb, .slice b nb cb]] w fun e w' => e = .returned (.int .i64 (cmpZ (zI sa ma) (zI sb mb))) ∧ Below w.heap.size w w' := by
  have HE := Lib.hid (cmpZ_zero h1 h2)
  have HA := Lib.hid ((ha.alloc (.cells #[.bool sa, .slice a na ca] 28)).alloc (.cells #[.bool sb, .slice b nb cb] 28))
  have HB := Lib.hid ((hb.alloc (.cells #[.bool sa, .slice a na ca] 28)).alloc (.cells #[.bool sb, .slice b nb cb] 28))
  have hbd := cmpN_bd ma mb
  clear ha hb
  have tok1 := trivial
  go_enter Tryd.func34, Tryd.ntmps34
  go_wp2_with fail
  go_region_held3 (fun w' => w'.cell? ⟨w.heap.size, 0, none⟩ = some (.bool sa) ∧ w'.cell? ⟨w.heap.size, 1, none⟩ = some (.slice a na ca) ∧ w'.cell? ⟨w.heap.size + 1, 0, none⟩ = some (.bool sb) ∧ w'.cell? ⟨w.heap.size + 1, 1, none⟩ = some (.slice b nb cb))
    (first | (go_keep; done) | ((try dsimp only); (repeat' apply And.intro) <;> (first | (go_keep; done) | (rw [cell_set2 _ _ _ _ _ _ _ _ (by omega)]; assumption) | (rw [cell_set3 _ _ _ _ _ _ _ _ _ _ (by omega)]; assumption))))
    (first
      | (go_at_call 37; have _t := tok1; refine (isign_any (N := N) sa _ _ _ ma _ (by exact HA.out)).mono ?_; rintro e wa ⟨rfl, hb⟩; have kwa0 : wa.cell? ⟨w.heap.size, 0, none⟩ = some (.bool sa) := (hb.cell (p := ⟨w.heap.size, 0, none⟩) (by first | (simp; done) | (simp; omega))).trans (by go_simp); have kwa1 : wa.cell? ⟨w.heap.size, 1, none⟩ = some (.slice a na ca) := (hb.cell (p := ⟨w.heap.size, 1, none⟩) (by first | (simp; done) | (simp; omega))).trans (by go_simp); have kwa2 : wa.cell? ⟨w.heap.size + 1, 0, none⟩ = some (.bool sb) := (hb.cell (p := ⟨w.heap.size + 1, 0, none⟩) (by first | (simp; done) | (simp; omega))).trans (by go_simp); have kwa3 : wa.cell? ⟨w.heap.size + 1, 1, none⟩ = some (.slice b nb cb) := (hb.cell (p := ⟨w.heap.size + 1, 1, none⟩) (by first | (simp; done) | (simp; omega))).trans (by go_simp); have hzwa0 : w.heap.size < wa.heap.size := (by have := hb.size; (try simp at this); omega); have hzwa1 : w.heap.size + 1 < wa.heap.size := (by have := hb.size; (try simp at this); omega); obtain ⟨hcwa, hfwa⟩ := bcell hb; have HBwa := Lib.hid hb; clear hb  _t tok1)
      | (go_at_call 37; refine (isign_any (N := N) sb _ _ _ mb _ (by exact (HB.out.below (bel_of_drew HBwa.out)))).mono ?_; rintro e wb ⟨rfl, hb⟩; have kwb0 : wb.cell? ⟨w.heap.size, 0, none⟩ = some (.bool sa) := (hb.cell (p := ⟨w.heap.size, 0, none⟩) (by omega)).trans kwa0; have kwb1 : wb.cell? ⟨w.heap.size, 1, none⟩ = some (.slice a na ca) := (hb.cell (p := ⟨w.heap.size, 1, none⟩) (by omega)).trans kwa1; have kwb2 : wb.cell? ⟨w.heap.size + 1, 0, none⟩ = some (.bool sb) := (hb.cell (p := ⟨w.heap.size + 1, 0, none⟩) (by omega)).trans kwa2; have kwb3 : wb.cell? ⟨w.heap.size + 1, 1, none⟩ = some (.slice b nb cb) := (hb.cell (p := ⟨w.heap.size + 1, 1, none⟩) (by omega)).trans kwa3; have hzwb0 : w.heap.size < wb.heap.size := (by have := hb.size; (try simp at this); omega); have hzwb1 : w.heap.size + 1 < wb.heap.size := (by have := hb.size; (try simp at this); omega); obtain ⟨hcwb, hfwb⟩ := bcell hb; have HBwb := Lib.hid hb; clear hb ))
  have HBB := Lib.hid (((bel2 w _ _).trans ((bel_of_drew HBwa.out).mono (by first | (simp; done) | (simp; omega)))).trans (HBwb.out.mono (by omega)))
  go_wp2_with fail
  refine (cmp_any (N := N) _ _ _ _ ma _ _ mb _ ((HA.out.below (bel_of_drew HBwa.out)).below HBwb.out) ((HB.out.below (bel_of_drew HBwa.out)).below HBwb.out)).mono ?_
  rintro e wc ⟨rfl, q, rfl⟩
  go_wp2_with fail
  go_ret
  rw [HE.out]
  exact ⟨rfl, below_drewN HBB.out _⟩

theorem icmp_any {N : Nat} (sa sb : Bool) (a b : Option Addr) (na ca ma nb cb mb : Nat) (w : World) (ha : Nt N w a na ca ma) (hb : Nt N w b nb cb mb) :
    Calls Tryd.prog 34 #[.agg #[.bool sa, .slice a na ca], .agg #[.bool sb, .slice b nb cb]] w fun e w' => e = .returned (.int .i64 (cmpZ (zI sa ma) (zI sb mb))) ∧ Below w.heap.size w w' := by
  rcases sgn3 (zI sa ma) with h1 | h1 | h1 <;> rcases sgn3 (zI sb mb) with h2 | h2 | h2
  · exact icmp_neg sa sb a b na ca ma nb cb mb w ha hb h1 h2
  · exact icmp_lt sa sb a b na ca ma nb cb mb w ha hb (by omega)
  · exact icmp_lt sa sb a b na ca ma nb cb mb w ha hb (by omega)
  · exact icmp_gt sa sb a b na ca ma nb cb mb w ha hb (by omega)
  · exact icmp_zero sa sb a b na ca ma nb cb mb w ha hb h1 h2
  · exact icmp_lt sa sb a b na ca ma nb cb mb w ha hb (by omega)
  · exact icmp_gt sa sb a b na ca ma nb cb mb w ha hb (by omega)
  · exact icmp_gt sa sb a b na ca ma nb cb mb w ha hb (by omega)
  · exact icmp_pos sa sb a b na ca ma nb cb mb w ha hb h1 h2

end Go.Proofs.YtnillajhhimeiaaDoor
