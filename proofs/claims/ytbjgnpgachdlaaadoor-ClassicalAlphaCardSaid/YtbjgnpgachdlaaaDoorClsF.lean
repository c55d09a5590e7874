/- Contracts of classical.Alpha and Error. -/
import Derived.Test.YtbjgnpgachdlaaaDoorClsE
import Derived.Test.YtbjgnpgachdlaaaDoorKp
namespace Go.Proofs.YtbjgnpgachdlaaaDoor
open Go.RowKit

set_option maxHeartbeats 1000000 in
theorem alpha_any {N : Nat} (a : Option Addr) (n cap : Nat) (ra : Nat → Option Addr) (rn rc : Nat → Nat) (z : Nat → Nat → Int) (w : World) (hN : N ≤ w.heap.size) (h : Rw w a n cap ra rn rc z) (p1 p2 : Rat) (c : Int) (hrel : ∀ w', N ≤ w'.heap.size → Rw w' a n cap ra rn rc z → Calls Tryd.prog 50 #[.slice a n cap] w' (RelPost N w' p1 p2 c)) :
    Calls Tryd.prog 15 #[.slice a n cap] w (RatPostC N w p2 c) := by
  have HREL := Lib.hid hrel
  have HR := Lib.hid (h.alloc (.cells #[.bool false, .slice none 0 0, .slice none 0 0] 28))
  have HBX := Lib.hid (Bn.new w #[.bool false, .slice none 0 0, .slice none 0 0] 28 _ rfl (by decide))
  clear h hrel
  go_enter Tryd.func15, Tryd.ntmps15
  go_wp2_with fail
  refine (HREL.out _ (by simp; omega) HR.out).mono ?_
  rintro e wa ⟨rx, cx, rx2, cx2, ry, cy, ry2, cy2, rfl, hn, hn', hm, hm', hb⟩
  obtain ⟨hcwa, hfwa⟩ := bcell hb
  have hzwa0 : w.heap.size < wa.heap.size := by have := hb.size; (try simp at this); omega
  have HBwa := Lib.hid hb
  have HNwa := Lib.hid hn
  have HN'wa := Lib.hid hn'
  clear hb hn hn'
  have HMwa := Lib.hid hm
  have HM'wa := Lib.hid hm'
  have HX := Lib.hid (HBX.out.below HBwa.out)
  have HB := Lib.hid (show Below w.heap.size w wa from (bel1 w _).trans (HBwa.out.mono (by simp)))
  clear hm hm' HBX
  go_wp2_with fail
  refine bodyPost_ret (v := .tuple #[.agg #[.bool (decide ((p2).num < 0)), .slice ry (nlen (p2).num.natAbs) cy, .slice ry2 (nlen (p2).den) cy2], .int .i64 c]) (by simp [results, Tryd.results15, go_sem, hcwa, hzwa0]) rfl ⟨_, _, _, _, rfl, HMwa.out.keep ?_, HM'wa.out.keep ?_, ?_⟩
  · (repeat' (first | exact Kp.refl _ _ | exact HX.out | apply Kp.alloc | apply Kp.drew | refine Kp.put ?_ (by first | omega | (simp; done) | (simp; omega)) ?_ _ | exact Bn.new _ _ _ _ (by first | rfl | (simp; done) | (simp; omega)) (by decide) | apply Bn.alloc | apply Bn.drew | apply Bn.set))
  · (repeat' (first | exact Kp.refl _ _ | exact HX.out | apply Kp.alloc | apply Kp.drew | refine Kp.put ?_ (by first | omega | (simp; done) | (simp; omega)) ?_ _ | exact Bn.new _ _ _ _ (by first | rfl | (simp; done) | (simp; omega)) (by decide) | apply Bn.alloc | apply Bn.drew | apply Bn.set))
  · (repeat' (first | exact Below.refl _ _ | exact HB.out | refine Below.alloc ?_ (by first | omega | (simp; done) | (simp; omega)) _ | apply Below.drew | refine Below.setCell ?_ (by first | omega | (simp; done) | (simp; omega)) _))

end Go.Proofs.YtbjgnpgachdlaaaDoor
