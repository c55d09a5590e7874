import Derived.Test.YtnillajhhimeiaaGreatDoorExT
namespace Go.Proofs.YtnillajhhimeiaaGreatDoor
open Go.RowKit
theorem rsz_small (q : Rat) (h1 : q.num.natAbs < 4294967296) (h2 : q.den < 4294967296) : rsz q ≤ 1 := by
  have a := nlen_small h1
  have b := nlen_small h2
  unfold rsz;omega
theorem txt_small (q : Rat) (a b : Nat) (h0 : 0 ≤ q.num) (h1 : q.num.natAbs = a) (h2 : q.den = b) (ha : a < 10) (hb : b < 10) (h3 : ¬ b = 1) : Tx q ⟨#[UInt8.ofNat (48 + a),47,UInt8.ofNat (48 + b)]⟩ := by
  refine ⟨h0,by omega,by omega,?_⟩
  unfold txt
  rw [h1,h2,if_neg h3,Lib.decDigits_one ha,Lib.decDigits_one hb];rfl
end Go.Proofs.YtnillajhhimeiaaGreatDoor
