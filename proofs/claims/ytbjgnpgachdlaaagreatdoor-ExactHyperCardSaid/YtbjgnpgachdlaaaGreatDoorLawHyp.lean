/- ExactHyper returns true for every input (the walk). -/
import Derived.Test.YtbjgnpgachdlaaaGreatDoorRfC
import Derived.Test.YtbjgnpgachdlaaaGreatDoorExU
namespace Go.Proofs.YtbjgnpgachdlaaaGreatDoor
open Go.RowKit

set_option maxHeartbeats 2000000 in
theorem hypl_no {N : Nat} (t m d : Int) (w : World) (hN : N ≤ w.heap.size) (htab : TabW w) (hbad : t < 0 ∨ 121 ≤ t ∨ m < 0 ∨ t < m ∨ d < 0 ∨ t < d) : Calls Tryz.prog 4 #[.int .i64 t, .int .i64 m, .int .i64 d] w fun e w' => e = .returned (.bool true) ∧ Below w.heap.size w w' := by
  have HBad := Lib.hid hbad
  clear hbad
  have hN0 := hN
  have HT := Lib.hid htab
  clear htab
  have HB := Lib.hid (Below.refl w.heap.size w)
  go_enter Tryz.func4, Tryz.ntmps4
  go_wp2_with fail
  refine calls_name fun W0 hW => ?_
  have hN_W0 : N ≤ W0.heap.size := by rw [← hW]; (first | omega | (simp; done) | (simp; omega))
  have hs_W0 : w.heap.size ≤ W0.heap.size := by rw [← hW]; (first | omega | (simp; done) | (simp; omega))
  have hs0_W0 : w.heap.size ≤ W0.heap.size := by rw [← hW]; (first | omega | (simp; done) | (simp; omega))
  have HB_W0 := Lib.hid (show Below w.heap.size w W0 by rw [← hW]; (repeat' (first | with_reducible exact Below.refl _ _ | with_reducible exact HB.out | (with_reducible refine Below.alloc ?_ ?_ _; rotate_left; (focus (first | omega | (simp; done) | (simp; omega)))) | with_reducible apply Below.drew | (with_reducible refine Below.setCell ?_ ?_ _; rotate_left; (focus (first | omega | (simp; done) | (simp; omega)))))))
  have HL_W0 := Lib.hid (show Below w.heap.size w W0 by rw [← hW]; (repeat' (first | with_reducible exact Below.refl _ _ | (with_reducible refine Below.alloc ?_ ?_ _; rotate_left; (focus (first | omega | (simp; done) | (simp; omega)))) | with_reducible apply Below.drew | (with_reducible refine Below.setCell ?_ ?_ _; rotate_left; (focus (first | omega | (simp; done) | (simp; omega)))))))
  have HT_W0 := Lib.hid (HT.out.below HL_W0.out)
  clear HL_W0
  clear hW
  clear HB hN
  have hN := hN_W0
  have HB := HB_W0
  have hs0 := hs0_W0
  clear hN_W0 HB_W0 hs0_W0
  clear HT
  have HT := HT_W0
  clear HT_W0
  refine (hyper_no t m d _ HBad.out).mono ?_
  rintro e wa ⟨rfl, hb⟩
  have HT_wa := Lib.hid (HT.out.below hb)
  have hN_wa : N ≤ wa.heap.size := Nat.le_trans hN hb.size
  have hs_wa : W0.heap.size ≤ wa.heap.size := hb.size
  have hs0_wa : w.heap.size ≤ wa.heap.size := Nat.le_trans hs0 hb.size
  have HB_wa := Lib.hid (HB.out.trans (hb.mono hs0))
  clear hb
  clear HB hN hs0
  have hN := hN_wa
  have HB := HB_wa
  have hs0 := hs0_wa
  clear hN_wa HB_wa hs0_wa
  clear HT
  have HT := HT_wa
  clear HT_wa
  go_wp2_with fail
  refine calls_name fun W1 hW => ?_
  have hN_W1 : N ≤ W1.heap.size := by rw [← hW]; (first | omega | (simp; done) | (simp; omega))
  have hs_W1 : wa.heap.size ≤ W1.heap.size := by rw [← hW]; (first | omega | (simp; done) | (simp; omega))
  have hs0_W1 : w.heap.size ≤ W1.heap.size := by rw [← hW]; (first | omega | (simp; done) | (simp; omega))
  have HB_W1 := Lib.hid (show Below w.heap.size w W1 by rw [← hW]; (repeat' (first | with_reducible exact Below.refl _ _ | with_reducible exact HB.out | (with_reducible refine Below.alloc ?_ ?_ _; rotate_left; (focus (first | omega | (simp; done) | (simp; omega)))) | with_reducible apply Below.drew | (with_reducible refine Below.setCell ?_ ?_ _; rotate_left; (focus (first | omega | (simp; done) | (simp; omega)))))))
  have HL_W1 := Lib.hid (show Below wa.heap.size wa W1 by rw [← hW]; (repeat' (first | with_reducible exact Below.refl _ _ | (with_reducible refine Below.alloc ?_ ?_ _; rotate_left; (focus (first | omega | (simp; done) | (simp; omega)))) | with_reducible apply Below.drew | (with_reducible refine Below.setCell ?_ ?_ _; rotate_left; (focus (first | omega | (simp; done) | (simp; omega)))))))
  have HT_W1 := Lib.hid (HT.out.below HL_W1.out)
  clear HL_W1
  clear hW
  clear HB hN hs0
  have hN := hN_W1
  have HB := HB_W1
  have hs0 := hs0_W1
  clear hN_W1 HB_W1 hs0_W1
  clear HT
  have HT := HT_W1
  clear HT_W1
  refine (xhyper_no t m d _ HBad.out).mono ?_
  rintro e wb ⟨rfl, hb⟩
  have HT_wb := Lib.hid (HT.out.below hb)
  have hN_wb : N ≤ wb.heap.size := Nat.le_trans hN hb.size
  have hs_wb : W1.heap.size ≤ wb.heap.size := hb.size
  have hs0_wb : w.heap.size ≤ wb.heap.size := Nat.le_trans hs0 hb.size
  have HB_wb := Lib.hid (HB.out.trans (hb.mono hs0))
  clear hb
  clear HB hN hs0
  have hN := hN_wb
  have HB := HB_wb
  have hs0 := hs0_wb
  clear hN_wb HB_wb hs0_wb
  clear HT
  have HT := HT_wb
  clear HT_wb
  go_wp2_with fail
  refine calls_name fun W2 hW => ?_
  have hN_W2 : N ≤ W2.heap.size := by rw [← hW]; (first | omega | (simp; done) | (simp; omega))
  have hs_W2 : wb.heap.size ≤ W2.heap.size := by rw [← hW]; (first | omega | (simp; done) | (simp; omega))
  have hs0_W2 : w.heap.size ≤ W2.heap.size := by rw [← hW]; (first | omega | (simp; done) | (simp; omega))
  have HB_W2 := Lib.hid (show Below w.heap.size w W2 by rw [← hW]; (repeat' (first | with_reducible exact Below.refl _ _ | with_reducible exact HB.out | (with_reducible refine Below.alloc ?_ ?_ _; rotate_left; (focus (first | omega | (simp; done) | (simp; omega)))) | with_reducible apply Below.drew | (with_reducible refine Below.setCell ?_ ?_ _; rotate_left; (focus (first | omega | (simp; done) | (simp; omega)))))))
  have HL_W2 := Lib.hid (show Below wb.heap.size wb W2 by rw [← hW]; (repeat' (first | with_reducible exact Below.refl _ _ | (with_reducible refine Below.alloc ?_ ?_ _; rotate_left; (focus (first | omega | (simp; done) | (simp; omega)))) | with_reducible apply Below.drew | (with_reducible refine Below.setCell ?_ ?_ _; rotate_left; (focus (first | omega | (simp; done) | (simp; omega)))))))
  have HT_W2 := Lib.hid (HT.out.below HL_W2.out)
  clear HL_W2
  clear hW
  clear HB hN hs0
  have hN := hN_W2
  have HB := HB_W2
  have hs0 := hs0_W2
  clear hN_W2 HB_W2 hs0_W2
  clear HT
  have HT := HT_W2
  clear HT_W2
  refine (SameList_nil _).mono ?_
  rintro e wc ⟨rfl, hb⟩
  have HT_wc := Lib.hid (HT.out.below hb)
  have hN_wc : N ≤ wc.heap.size := Nat.le_trans hN hb.size
  have hs_wc : W2.heap.size ≤ wc.heap.size := hb.size
  have hs0_wc : w.heap.size ≤ wc.heap.size := Nat.le_trans hs0 hb.size
  have HB_wc := Lib.hid (HB.out.trans (hb.mono hs0))
  clear hb
  clear HB hN hs0
  have hN := hN_wc
  have HB := HB_wc
  have hs0 := hs0_wc
  clear hN_wc HB_wc hs0_wc
  clear HT
  have HT := HT_wc
  clear HT_wc
  go_wp2_with fail
  refine calls_name fun W3 hW => ?_
  have hN_W3 : N ≤ W3.heap.size := by rw [← hW]; (first | omega | (simp; done) | (simp; omega))
  have hs_W3 : wc.heap.size ≤ W3.heap.size := by rw [← hW]; (first | omega | (simp; done) | (simp; omega))
  have hs0_W3 : w.heap.size ≤ W3.heap.size := by rw [← hW]; (first | omega | (simp; done) | (simp; omega))
  have HB_W3 := Lib.hid (show Below w.heap.size w W3 by rw [← hW]; (repeat' (first | with_reducible exact Below.refl _ _ | with_reducible exact HB.out | (with_reducible refine Below.alloc ?_ ?_ _; rotate_left; (focus (first | omega | (simp; done) | (simp; omega)))) | with_reducible apply Below.drew | (with_reducible refine Below.setCell ?_ ?_ _; rotate_left; (focus (first | omega | (simp; done) | (simp; omega)))))))
  have HL_W3 := Lib.hid (show Below wc.heap.size wc W3 by rw [← hW]; (repeat' (first | with_reducible exact Below.refl _ _ | (with_reducible refine Below.alloc ?_ ?_ _; rotate_left; (focus (first | omega | (simp; done) | (simp; omega)))) | with_reducible apply Below.drew | (with_reducible refine Below.setCell ?_ ?_ _; rotate_left; (focus (first | omega | (simp; done) | (simp; omega)))))))
  have HT_W3 := Lib.hid (HT.out.below HL_W3.out)
  clear HL_W3
  clear hW
  clear HB hN hs0
  have hN := hN_W3
  have HB := HB_W3
  have hs0 := hs0_W3
  clear hN_W3 HB_W3 hs0_W3
  clear HT
  have HT := HT_W3
  clear HT_W3
  refine (awake_any (N := N) _ hN HT.out).mono ?_
  rintro e wd ⟨rfl, hb⟩
  have HT_wd := Lib.hid (HT.out.below hb)
  have hN_wd : N ≤ wd.heap.size := Nat.le_trans hN hb.size
  have hs_wd : W3.heap.size ≤ wd.heap.size := hb.size
  have hs0_wd : w.heap.size ≤ wd.heap.size := Nat.le_trans hs0 hb.size
  have HB_wd := Lib.hid (HB.out.trans (hb.mono hs0))
  clear hb
  clear HB hN hs0
  have hN := hN_wd
  have HB := HB_wd
  have hs0 := hs0_wd
  clear hN_wd HB_wd hs0_wd
  clear HT
  have HT := HT_wd
  clear HT_wd
  go_wp2_with fail
  go_ret
  exact ⟨rfl, HB.out⟩

set_option maxHeartbeats 2000000 in
theorem hypl_ok {N : Nat} (t m d n : Nat) (w : World) (hN : N ≤ w.heap.size) (htab : TabW w) (ht : t ≤ 120) (hm : m ≤ t) (hd : d ≤ t) (hn : min m d + 1 = n) : Calls Tryz.prog 4 #[.int .i64 t, .int .i64 m, .int .i64 d] w fun e w' => e = .returned (.bool true) ∧ Below w.heap.size w w' := by
  have hn121 : n ≤ 121 := by omega
  have HN1 := Lib.hid hn
  clear hn
  have hN0 := hN
  have HT := Lib.hid htab
  clear htab
  have HB := Lib.hid (Below.refl w.heap.size w)
  go_enter Tryz.func4, Tryz.ntmps4
  go_wp2_with fail
  refine calls_name fun W0 hW => ?_
  have hN_W0 : N ≤ W0.heap.size := by rw [← hW]; (first | omega | (simp; done) | (simp; omega))
  have hs_W0 : w.heap.size ≤ W0.heap.size := by rw [← hW]; (first | omega | (simp; done) | (simp; omega))
  have hs0_W0 : w.heap.size ≤ W0.heap.size := by rw [← hW]; (first | omega | (simp; done) | (simp; omega))
  have HB_W0 := Lib.hid (show Below w.heap.size w W0 by rw [← hW]; (repeat' (first | with_reducible exact Below.refl _ _ | with_reducible exact HB.out | (with_reducible refine Below.alloc ?_ ?_ _; rotate_left; (focus (first | omega | (simp; done) | (simp; omega)))) | with_reducible apply Below.drew | (with_reducible refine Below.setCell ?_ ?_ _; rotate_left; (focus (first | omega | (simp; done) | (simp; omega)))))))
  have HL_W0 := Lib.hid (show Below w.heap.size w W0 by rw [← hW]; (repeat' (first | with_reducible exact Below.refl _ _ | (with_reducible refine Below.alloc ?_ ?_ _; rotate_left; (focus (first | omega | (simp; done) | (simp; omega)))) | with_reducible apply Below.drew | (with_reducible refine Below.setCell ?_ ?_ _; rotate_left; (focus (first | omega | (simp; done) | (simp; omega)))))))
  have HT_W0 := Lib.hid (HT.out.below HL_W0.out)
  clear HL_W0
  clear hW
  clear HB hN
  have hN := hN_W0
  have HB := HB_W0
  have hs0 := hs0_W0
  clear hN_W0 HB_W0 hs0_W0
  clear HT
  have HT := HT_W0
  clear HT_W0
  refine (hyper_ok (N := N) t m d n _ hN ht hm hd HN1.out (hyQ t m d) (fun i _ => rfl)).mono ?_
  rintro e wa ⟨ba, rfl, hb1a, hb2a, hn, hb⟩
  have HT_wa := Lib.hid (HT.out.below hb)
  have hN_wa : N ≤ wa.heap.size := Nat.le_trans hN hb.size
  have hs_wa : W0.heap.size ≤ wa.heap.size := hb.size
  have hs0_wa : w.heap.size ≤ wa.heap.size := Nat.le_trans hs0 hb.size
  have HB_wa := Lib.hid (HB.out.trans (hb.mono hs0))
  clear hb
  clear HB hN hs0
  have hN := hN_wa
  have HB := HB_wa
  have hs0 := hs0_wa
  clear hN_wa HB_wa hs0_wa
  clear HT
  have HT := HT_wa
  clear HT_wa
  have HTa := Lib.hid hn
  clear hn
  go_wp2_with fail
  refine calls_name fun W1 hW => ?_
  have hN_W1 : N ≤ W1.heap.size := by rw [← hW]; (first | omega | (simp; done) | (simp; omega))
  have hs_W1 : wa.heap.size ≤ W1.heap.size := by rw [← hW]; (first | omega | (simp; done) | (simp; omega))
  have hs0_W1 : w.heap.size ≤ W1.heap.size := by rw [← hW]; (first | omega | (simp; done) | (simp; omega))
  have HB_W1 := Lib.hid (show Below w.heap.size w W1 by rw [← hW]; (repeat' (first | with_reducible exact Below.refl _ _ | with_reducible exact HB.out | (with_reducible refine Below.alloc ?_ ?_ _; rotate_left; (focus (first | omega | (simp; done) | (simp; omega)))) | with_reducible apply Below.drew | (with_reducible refine Below.setCell ?_ ?_ _; rotate_left; (focus (first | omega | (simp; done) | (simp; omega)))))))
  have HL_W1 := Lib.hid (show Below wa.heap.size wa W1 by rw [← hW]; (repeat' (first | with_reducible exact Below.refl _ _ | (with_reducible refine Below.alloc ?_ ?_ _; rotate_left; (focus (first | omega | (simp; done) | (simp; omega)))) | with_reducible apply Below.drew | (with_reducible refine Below.setCell ?_ ?_ _; rotate_left; (focus (first | omega | (simp; done) | (simp; omega)))))))
  have HTa_W1 := Lib.hid (HTa.out.below HL_W1.out)
  have HT_W1 := Lib.hid (HT.out.below HL_W1.out)
  clear HL_W1
  clear hW
  clear HB hN hs0
  have hN := hN_W1
  have HB := HB_W1
  have hs0 := hs0_W1
  clear hN_W1 HB_W1 hs0_W1
  clear HTa HT
  have HTa := HTa_W1
  have HT := HT_W1
  clear HTa_W1 HT_W1
  have lt_HTa := HTa.out.lt
  refine (xhyper_ok (N := N) t m d n _ hN ht hm hd HN1.out (hyQ t m d) (fun i _ => rfl)).mono ?_
  rintro e wb ⟨ao, co, rfl, hn, hb⟩
  have HTa_wb := Lib.hid (HTa.out.below hb)
  have HT_wb := Lib.hid (HT.out.below hb)
  have hN_wb : N ≤ wb.heap.size := Nat.le_trans hN hb.size
  have hs_wb : W1.heap.size ≤ wb.heap.size := hb.size
  have hs0_wb : w.heap.size ≤ wb.heap.size := Nat.le_trans hs0 hb.size
  have HB_wb := Lib.hid (HB.out.trans (hb.mono hs0))
  clear hb
  clear HB hN hs0
  have hN := hN_wb
  have HB := HB_wb
  have hs0 := hs0_wb
  clear hN_wb HB_wb hs0_wb
  clear HTa HT
  have HTa := HTa_wb
  have HT := HT_wb
  clear HTa_wb HT_wb
  have HR := Lib.hid hn
  clear hn
  go_wp2_with fail
  refine calls_name fun W2 hW => ?_
  have hN_W2 : N ≤ W2.heap.size := by rw [← hW]; (first | omega | (simp; done) | (simp; omega))
  have hs_W2 : wb.heap.size ≤ W2.heap.size := by rw [← hW]; (first | omega | (simp; done) | (simp; omega))
  have hs0_W2 : w.heap.size ≤ W2.heap.size := by rw [← hW]; (first | omega | (simp; done) | (simp; omega))
  have HB_W2 := Lib.hid (show Below w.heap.size w W2 by rw [← hW]; (repeat' (first | with_reducible exact Below.refl _ _ | with_reducible exact HB.out | (with_reducible refine Below.alloc ?_ ?_ _; rotate_left; (focus (first | omega | (simp; done) | (simp; omega)))) | with_reducible apply Below.drew | (with_reducible refine Below.setCell ?_ ?_ _; rotate_left; (focus (first | omega | (simp; done) | (simp; omega)))))))
  have HL_W2 := Lib.hid (show Below wb.heap.size wb W2 by rw [← hW]; (repeat' (first | with_reducible exact Below.refl _ _ | (with_reducible refine Below.alloc ?_ ?_ _; rotate_left; (focus (first | omega | (simp; done) | (simp; omega)))) | with_reducible apply Below.drew | (with_reducible refine Below.setCell ?_ ?_ _; rotate_left; (focus (first | omega | (simp; done) | (simp; omega)))))))
  have HTa_W2 := Lib.hid (HTa.out.below HL_W2.out)
  have HT_W2 := Lib.hid (HT.out.below HL_W2.out)
  have HR_W2 := Lib.hid (HR.out.below HL_W2.out)
  clear HL_W2
  clear hW
  clear HB hN hs0
  have hN := hN_W2
  have HB := HB_W2
  have hs0 := hs0_W2
  clear hN_W2 HB_W2 hs0_W2
  clear HTa HT HR
  have HTa := HTa_W2
  have HT := HT_W2
  have HR := HR_W2
  clear HTa_W2 HT_W2 HR_W2
  have lt_HTa := HTa.out.lt
  refine (SameList_rn (N := N) _ _ _ _ _ (hyQ t m d) _ hN (HTa.out.rn (by unfold maxLen; omega)) HR.out).mono ?_
  rintro e wc ⟨rfl, hb⟩
  have HTa_wc := Lib.hid (HTa.out.below hb)
  have HT_wc := Lib.hid (HT.out.below hb)
  have HR_wc := Lib.hid (HR.out.below hb)
  have hN_wc : N ≤ wc.heap.size := Nat.le_trans hN hb.size
  have hs_wc : W2.heap.size ≤ wc.heap.size := hb.size
  have hs0_wc : w.heap.size ≤ wc.heap.size := Nat.le_trans hs0 hb.size
  have HB_wc := Lib.hid (HB.out.trans (hb.mono hs0))
  clear hb
  clear HB hN hs0
  have hN := hN_wc
  have HB := HB_wc
  have hs0 := hs0_wc
  clear hN_wc HB_wc hs0_wc
  clear HTa HT HR
  have HTa := HTa_wc
  have HT := HT_wc
  have HR := HR_wc
  clear HTa_wc HT_wc HR_wc
  go_wp2_with fail
  refine calls_name fun W3 hW => ?_
  have hN_W3 : N ≤ W3.heap.size := by rw [← hW]; (first | omega | (simp; done) | (simp; omega))
  have hs_W3 : wc.heap.size ≤ W3.heap.size := by rw [← hW]; (first | omega | (simp; done) | (simp; omega))
  have hs0_W3 : w.heap.size ≤ W3.heap.size := by rw [← hW]; (first | omega | (simp; done) | (simp; omega))
  have HB_W3 := Lib.hid (show Below w.heap.size w W3 by rw [← hW]; (repeat' (first | with_reducible exact Below.refl _ _ | with_reducible exact HB.out | (with_reducible refine Below.alloc ?_ ?_ _; rotate_left; (focus (first | omega | (simp; done) | (simp; omega)))) | with_reducible apply Below.drew | (with_reducible refine Below.setCell ?_ ?_ _; rotate_left; (focus (first | omega | (simp; done) | (simp; omega)))))))
  have HL_W3 := Lib.hid (show Below wc.heap.size wc W3 by rw [← hW]; (repeat' (first | with_reducible exact Below.refl _ _ | (with_reducible refine Below.alloc ?_ ?_ _; rotate_left; (focus (first | omega | (simp; done) | (simp; omega)))) | with_reducible apply Below.drew | (with_reducible refine Below.setCell ?_ ?_ _; rotate_left; (focus (first | omega | (simp; done) | (simp; omega)))))))
  have HTa_W3 := Lib.hid (HTa.out.below HL_W3.out)
  have HT_W3 := Lib.hid (HT.out.below HL_W3.out)
  have HR_W3 := Lib.hid (HR.out.below HL_W3.out)
  clear HL_W3
  clear hW
  clear HB hN hs0
  have hN := hN_W3
  have HB := HB_W3
  have hs0 := hs0_W3
  clear hN_W3 HB_W3 hs0_W3
  clear HTa HT HR
  have HTa := HTa_W3
  have HT := HT_W3
  have HR := HR_W3
  clear HTa_W3 HT_W3 HR_W3
  have lt_HTa := HTa.out.lt
  refine (awake_any (N := N) _ hN HT.out).mono ?_
  rintro e wd ⟨rfl, hb⟩
  have HTa_wd := Lib.hid (HTa.out.below hb)
  have HT_wd := Lib.hid (HT.out.below hb)
  have HR_wd := Lib.hid (HR.out.below hb)
  have hN_wd : N ≤ wd.heap.size := Nat.le_trans hN hb.size
  have hs_wd : W3.heap.size ≤ wd.heap.size := hb.size
  have hs0_wd : w.heap.size ≤ wd.heap.size := Nat.le_trans hs0 hb.size
  have HB_wd := Lib.hid (HB.out.trans (hb.mono hs0))
  clear hb
  clear HB hN hs0
  have hN := hN_wd
  have HB := HB_wd
  have hs0 := hs0_wd
  clear hN_wd HB_wd hs0_wd
  clear HTa HT HR
  have HTa := HTa_wd
  have HT := HT_wd
  have HR := HR_wd
  clear HTa_wd HT_wd HR_wd
  go_wp2_with fail
  go_ret
  exact ⟨rfl, HB.out⟩

theorem hypl_any (t m d : Int) (w : World) (htab : TabW w) : Calls Tryz.prog 4 #[.int .i64 t, .int .i64 m, .int .i64 d] w fun e w' => e = .returned (.bool true) ∧ Below w.heap.size w w' := by
  by_cases hbad : t < 0 ∨ 121 ≤ t ∨ m < 0 ∨ t < m ∨ d < 0 ∨ t < d
  · exact hypl_no (N := w.heap.size) t m d w (Nat.le_refl _) htab hbad
  · have h := hypl_ok (N := w.heap.size) t.toNat m.toNat d.toNat _ w (Nat.le_refl _) htab (by omega) (by omega) (by omega) rfl
    rwa [Int.toNat_of_nonneg (by omega), Int.toNat_of_nonneg (by omega), Int.toNat_of_nonneg (by omega)] at h

end Go.Proofs.YtbjgnpgachdlaaaGreatDoor
