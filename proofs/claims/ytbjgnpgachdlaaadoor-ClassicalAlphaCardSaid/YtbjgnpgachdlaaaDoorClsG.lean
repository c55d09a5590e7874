/- Contracts of the helpers of law 25: limbs, same, much; two lists that grow side by side. -/
import Derived.Test.YtbjgnpgachdlaaaDoorClsF
import Derived.Maps.AppendAt
namespace Go.Proofs.YtbjgnpgachdlaaaDoor
open Go.RowKit

set_option maxHeartbeats 2000000 in
theorem limbs25_any {N : Nat} (a b : Option Addr) (n ca cb m : Nat) (w : World) (ha : Nt N w a n ca m) (hb : Nt N w b n cb m) :
    Calls Tryd.prog 40 #[.slice a n ca, .slice b n cb] w fun e w' => e = .returned (.bool true) ∧ Below w.heap.size w w' := by
  have l3 : n ≤ 9223372036854775807 := by have := ha.1.1; have := ha.2.1; unfold maxLen at this; omega
  have HA := Lib.hid ha
  have HB := Lib.hid hb
  clear ha hb
  go_enter Tryd.func40, Tryd.ntmps40
  go_wp2_with fail
  go_loopw [5] (fun i wr => ∃ k : Nat, k ≤ n ∧ i = .int .i64 k ∧ Below w.heap.size w wr) (fun i _ => n - (intOf i).toNat)
  case atStart => exact ⟨0, Nat.zero_le _, rfl, Below.refl _ _⟩
  case round =>
    obtain ⟨k, hk, rfl, hbel⟩ := hrel
    by_cases hkn : k < n
    · obtain ⟨b1, o1, rfl, _, hc1⟩ := HA.out.2.2.2 (by omega)
      obtain ⟨b2, o2, rfl, _, hc2⟩ := HB.out.2.2.2 (by omega)
      have hcell1 := cell_mono (hc1 k hkn) hbel
      have hcell2 := cell_mono (hc2 k hkn) hbel
      have HBel := Lib.hid hbel
      clear hc1 hc2 hbel
      go_wp2_with fail
      go_quiet (fail)
      go_wp2_with fail
      go_roundw
      case rel => exact ⟨k + 1, by omega, by go_num, below_drewN HBel.out _⟩
      case measure => simp [intOf]; omega
    · obtain rfl : k = n := by omega
      have HBel := Lib.hid hbel
      clear hbel
      go_wp2_with fail
      go_ret
      exact ⟨rfl, HBel.out⟩

set_option maxHeartbeats 2000000 in
theorem same25_any {N : Nat} (s : Bool) (a a2 b b2 : Option Addr) (n1 m1 n2 m2 c c2 cb cb2 : Nat) (w : World) (h1 : Nt N w a n1 c m1) (h2 : Nt N w a2 n2 c2 m2) (g1 : Nt N w b n1 cb m1) (g2 : Nt N w b2 n2 cb2 m2) :
    Calls Tryd.prog 10 #[.agg #[.bool s, .slice a n1 c, .slice a2 n2 c2], .agg #[.bool s, .slice b n1 cb, .slice b2 n2 cb2]] w fun e w' => e = .returned (.bool true) ∧ Below w.heap.size w w' := by
  have Hh1 := Lib.hid ((h1.alloc (.cells #[.bool s, .slice a n1 c, .slice a2 n2 c2] 28)).alloc (.cells #[.bool s, .slice b n1 cb, .slice b2 n2 cb2] 28))
  have Hh2 := Lib.hid ((h2.alloc (.cells #[.bool s, .slice a n1 c, .slice a2 n2 c2] 28)).alloc (.cells #[.bool s, .slice b n1 cb, .slice b2 n2 cb2] 28))
  have Hg1 := Lib.hid ((g1.alloc (.cells #[.bool s, .slice a n1 c, .slice a2 n2 c2] 28)).alloc (.cells #[.bool s, .slice b n1 cb, .slice b2 n2 cb2] 28))
  have Hg2 := Lib.hid ((g2.alloc (.cells #[.bool s, .slice a n1 c, .slice a2 n2 c2] 28)).alloc (.cells #[.bool s, .slice b n1 cb, .slice b2 n2 cb2] 28))
  clear h1 h2 g1 g2
  go_enter Tryd.func10, Tryd.ntmps10
  go_wp2_with fail
  refine (limbs25_any (N := N) _ _ _ _ _ m1 _ Hh1.out Hg1.out).mono ?_
  rintro e wa ⟨rfl, hb⟩
  obtain ⟨hcwa, hfwa⟩ := bcell hb
  have hzwa0 : w.heap.size < wa.heap.size := by have := hb.size; (try simp at this); omega
  have hzwa1 : w.heap.size + 1 < wa.heap.size := by have := hb.size; (try simp at this); omega
  have HBwa := Lib.hid hb
  clear hb 
  go_wp2_with fail
  refine (limbs25_any (N := N) _ _ _ _ _ m2 _ (Hh2.out.below HBwa.out) (Hg2.out.below HBwa.out)).mono ?_
  rintro e wb ⟨rfl, hb⟩
  obtain ⟨hcwb, hfwb⟩ := bcell hb
  have hzwb0 : w.heap.size < wb.heap.size := by have := hb.size; (try simp at this); omega
  have hzwb1 : w.heap.size + 1 < wb.heap.size := by have := hb.size; (try simp at this); omega
  have HBwb := Lib.hid hb
  clear hb 
  go_wp2_with fail
  go_ret
  exact ⟨rfl, (((bel2 w _ _).trans (HBwa.out.mono (by first | omega | (simp; done) | (simp; omega)))).trans (HBwb.out.mono (by first | omega | (simp; done) | (simp; omega))))⟩


/-- it returns some word, and the world is as it was -/
def MuchPost (w : World) (e : Ending) (w' : World) : Prop := ∃ b, e = .returned (.bool b) ∧ w = w'
set_option maxHeartbeats 4000000 in
theorem much_any (a : Option Addr) (n cap : Nat) (ra : Nat → Option Addr) (rn rc : Nat → Nat) (z : Nat → Nat → Int) (w : World) (h : Rw w a n cap ra rn rc z) :
    Calls Tryd.prog 14 #[.slice a n cap] w (MuchPost w) := by
  obtain ⟨h0, h1, h2⟩ := h
  unfold maxLen at h1
  have HA := Lib.hid h2
  clear h2
  by_cases h12 : 12 < n
  · by_cases h200 : n ≤ 200
    · go_enter Tryd.func14, Tryd.ntmps14
      go_wp2_with fail
      go_ret
      exact ⟨_, rfl, rfl⟩
    · go_enter Tryd.func14, Tryd.ntmps14
      go_wp2_with fail
      go_loop [3] (fun i => i = .int .i64 0) (fun _ => 0)
      case atStart => exact rfl
      case round =>
        subst hrel
        go_wp2_with fail
        go_ret
        exact ⟨_, rfl, rfl⟩
  · have h200 : n ≤ 200 := by omega
    go_enter Tryd.func14, Tryd.ntmps14
    go_wp2_with fail
    go_loop [3] (fun i => ∃ k : Nat, k ≤ n ∧ i = .int .i64 k) (fun i => n - (intOf i).toNat)
    case atStart => exact ⟨0, Nat.zero_le _, rfl⟩
    case round =>
      obtain ⟨k, hk, rfl⟩ := hrel
      by_cases hkn : k < n
      · obtain ⟨b, off, rfl, hc⟩ := HA.out (by omega)
        obtain ⟨hcell, hrow⟩ := hc k hkn
        have hmx := hrow.2.1
        have hle := hrow.1
        unfold maxLen at hmx
        clear hc hrow
        by_cases h8 : 8 < rn k
        · by_cases h60 : rn k ≤ 60
          · go_wp2_with fail
            go_ret
            exact ⟨_, rfl, rfl⟩
          · go_wp2_with fail
            go_round
            case rel => exact ⟨k + 1, by omega, by go_num⟩
            case measure => simp [intOf]; omega
        · go_wp2_with fail
          go_round
          case rel => exact ⟨k + 1, by omega, by go_num⟩
          case measure => simp [intOf]; omega
      · obtain rfl : k = n := by omega
        go_wp2_with fail
        go_ret
        exact ⟨_, rfl, rfl⟩

/-! ### Two lists of integers that grow side by side -/
def ints (X : Nat → Int) (p : Nat) : List Value := (List.range p).map fun i => .int .i64 (X i)
theorem ints_len (X : Nat → Int) (p : Nat) : (ints X p).length = p := by simp [ints]
theorem ints_succ (X : Nat → Int) (p : Nat) : ints X (p + 1) = ints X p ++ [.int .i64 (X p)] := by simp [ints, List.range_succ]
theorem Is.of_owns {w : World} {B n : Nat} {v : Value} {X : Nat → Int} (h : w.ownsRow B 3 1 v n (ints X n)) : ∃ a cap, v = .slice a n cap ∧ Is w a n cap X := by
  obtain ⟨_, ⟨rfl, rfl⟩ | ⟨g, cap, cur, rfl, hg, hh, h1, h2, h3, h4⟩⟩ := h
  · exact ⟨_, _, rfl, Nat.le_refl _, Nat.zero_le _, fun h => by omega⟩
  · refine ⟨_, _, rfl, h1, h2, fun _ => ⟨g, 0, rfl, fun i hi => ?_⟩⟩
    have h5 : cur.toList[i]? = some (.int .i64 (X i)) := by
      have : (cur.toList.take (n * 1))[i]? = some (.int .i64 (X i)) := by rw [h4]; simp [ints, hi]
      rwa [List.getElem?_take_of_lt (by omega)] at this
    rw [Nat.zero_add]
    simp [World.cell?, hh]
    simpa using h5
def Apart (x y : Value) : Prop := ∀ k, x.ownBlock = some k → y.ownBlock ≠ some k
theorem Apart.symm {x y : Value} (h : Apart x y) : Apart y x := fun k hk hx => h k hx hk
theorem own_step {B : Nat} {e : TypeId} {w0 w w1 : World} {x y x' : Value} {n m n' : Nat} {xs ys xs' : List Value} (hx : w.ownsRow B e 1 x n xs) (hy : w.ownsRow B e 1 y m ys) (hne : Apart x y) (hbel : Below B w0 w) (hB : B ≤ w.heap.size) {o : Obj}
    (hown : w1.ownsRow B e 1 x' n' xs') (hg : (w.alloc o).grownBy w1 x.ownBlock) (hat : x'.ownBlock = x.ownBlock ∨ x'.ownBlock = some (w.alloc o).heap.size) :
    w1.ownsRow B e 1 x' n' xs' ∧ w1.ownsRow B e 1 y m ys ∧ Apart x' y ∧ Below B w0 w1 ∧ B ≤ w1.heap.size := by
  have hb : Below B w0 w1 := (hbel.alloc hB o).grown hg (by simp; omega) (fun k hk => (hx.lt k hk).1)
  have hb2 : Below B w w1 := ((Below.refl _ _).alloc hB o).grown hg (by simp; omega) (fun k hk => (hx.lt k hk).1)
  refine ⟨hown, (hy.alloc o).kept hg ?_, fun k hk hy' => ?_, hb, Nat.le_trans hB hb2.size⟩
  · rcases hyo : y.ownBlock with _ | k
    · exact .inl rfl
    · exact .inr (fun h => hne k h.symm hyo)
  · rcases hat with h | h
    · exact hne k (h ▸ hk) hy'
    · rw [hk] at h
      have := (hy.lt k hy').2
      simp at h; omega

end Go.Proofs.YtbjgnpgachdlaaaDoor
