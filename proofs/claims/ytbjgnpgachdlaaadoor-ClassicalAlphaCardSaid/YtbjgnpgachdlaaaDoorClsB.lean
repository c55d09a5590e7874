/- Contract of classical.checkRows: for every slice of slices of integers. -/
import Derived.Test.YtbjgnpgachdlaaaDoorClsA
namespace Go.Proofs.YtbjgnpgachdlaaaDoor
open Go.RowKit

/-- the slice holds n slices of integers -/
def Rw (w : World) (a : Option Addr) (n cap : Nat) (ra : Nat → Option Addr) (rn rc : Nat → Nat) (z : Nat → Nat → Int) : Prop :=
  n ≤ cap ∧ cap ≤ maxLen ∧ (0 < n → ∃ b off, a = some ⟨b, off, none⟩ ∧ ∀ i, i < n → w.cell? ⟨b, off + i, none⟩ = some (.slice (ra i) (rn i) (rc i)) ∧ Is w (ra i) (rn i) (rc i) (z i))
theorem Rw.below {w w' : World} {a : Option Addr} {n cap : Nat} {ra : Nat → Option Addr} {rn rc : Nat → Nat} {z : Nat → Nat → Int} (h : Rw w a n cap ra rn rc z) (hb : Below w.heap.size w w') : Rw w' a n cap ra rn rc z := by
  obtain ⟨h0, h1, h2⟩ := h
  refine ⟨h0, h1, fun hn => ?_⟩
  obtain ⟨b, off, e, hc⟩ := h2 hn
  exact ⟨b, off, e, fun i hi => ⟨cell_mono (hc i hi).1 hb, (hc i hi).2.below hb⟩⟩
theorem Rw.alloc {w : World} {a : Option Addr} {n cap : Nat} {ra : Nat → Option Addr} {rn rc : Nat → Nat} {z : Nat → Nat → Int} (h : Rw w a n cap ra rn rc z) (o : Obj) : Rw (w.alloc o) a n cap ra rn rc z := h.below (bel1 w o)

def allB (f : Nat → Bool) : Nat → Bool
  | 0 => true
  | k + 1 => allB f k && f k
theorem allB_true {f : Nat → Bool} : ∀ {n : Nat}, allB f n = true ↔ ∀ i, i < n → f i = true
  | 0 => by simp [allB]
  | n + 1 => by
    simp only [allB, Bool.and_eq_true, allB_true (n := n)]
    constructor
    · rintro ⟨h1, h2⟩ i hi
      rcases Nat.lt_or_ge i n with h | h
      · exact h1 i h
      · obtain rfl : i = n := by omega
        exact h2
    · intro h; exact ⟨fun i hi => h i (by omega), h n (by omega)⟩
theorem allB_false {f : Nat → Bool} {n k : Nat} (hk : k < n) (h : f k = false) : allB f n = false := by
  rw [← Bool.not_eq_true]; intro e
  rw [allB_true.1 e k hk] at h; cases h
theorem allB_succ {f : Nat → Bool} {k : Nat} (h1 : allB f k = true) (h2 : f k = true) : allB f (k + 1) = true := by simp only [allB]; rw [h1, h2]; rfl
def f60 (rn : Nat → Nat) (i : Nat) : Bool := decide (rn i ≤ 60)
def fin_ (rn : Nat → Nat) (z : Nat → Nat → Int) (i : Nat) : Bool := inrB (z i) (rn i)
def f2 (rn : Nat → Nat) (i : Nat) : Bool := decide (2 ≤ rn i ∧ rn i = rn 0)
/-- the first rule that rows violate, 0 if none -/
def rowsC (n : Nat) (rn : Nat → Nat) (z : Nat → Nat → Int) : Int :=
  if 200 < n then 5 else if allB (f60 rn) n = false then 5 else if allB (fin_ rn z) n = false then 3 else if allB (f2 rn) n = false then 1 else if n = 0 then 20 else 0
theorem rowsC_zero {n : Nat} {rn : Nat → Nat} {z : Nat → Nat → Int} (h : rowsC n rn z = 0) : n ≤ 200 ∧ 0 < n ∧ (∀ i, i < n → rn i = rn 0) ∧ 2 ≤ rn 0 ∧ rn 0 ≤ 60 ∧ ∀ i, i < n → InR (z i) (rn 0) := by
  unfold rowsC at h
  by_cases a1 : 200 < n
  · rw [if_pos a1] at h; cases h
  rw [if_neg a1] at h
  by_cases a2 : allB (f60 rn) n = false
  · rw [if_pos a2] at h; cases h
  rw [if_neg a2] at h
  by_cases a3 : allB (fin_ rn z) n = false
  · rw [if_pos a3] at h; cases h
  rw [if_neg a3] at h
  by_cases a4 : allB (f2 rn) n = false
  · rw [if_pos a4] at h; cases h
  rw [if_neg a4] at h
  by_cases a5 : n = 0
  · rw [if_pos a5] at h; cases h
  rw [Bool.not_eq_false] at a2 a3 a4
  have b2 := allB_true.1 a2
  have b3 := allB_true.1 a3
  have b4 := allB_true.1 a4
  simp only [f60, fin_, f2, decide_eq_true_eq] at b2 b3 b4
  refine ⟨by omega, by omega, fun i hi => (b4 i hi).2, (b4 0 (by omega)).1, b2 0 (by omega), fun i hi => ?_⟩
  have := inrB_true.1 (b3 i hi)
  rwa [(b4 i hi).2] at this

set_option maxHeartbeats 8000000 in
theorem checkRows_any (a : Option Addr) (n cap : Nat) (ra : Nat → Option Addr) (rn rc : Nat → Nat) (z : Nat → Nat → Int) (w : World) (h : Rw w a n cap ra rn rc z) :
    Calls Tryd.prog 79 #[.slice a n cap] w fun e w' => e = .returned (.int .i64 (rowsC n rn z)) ∧ w = w' := by
  obtain ⟨h0, h1, h2⟩ := h
  unfold maxLen at h1
  have HA := Lib.hid h2
  clear h2
  by_cases hn : 200 < n
  · have HE := Lib.hid (show rowsC n rn z = 5 by unfold rowsC; rw [if_pos hn])
    go_enter Tryd.func79, Tryd.ntmps79
    go_wp2_with fail
    go_ret
    rw [HE.out]
    exact ⟨rfl, rfl⟩
  · have HC1 := Lib.hid (show rowsC n rn z = if allB (f60 rn) n = false then 5 else if allB (fin_ rn z) n = false then 3 else if allB (f2 rn) n = false then 1 else if n = 0 then 20 else 0 by unfold rowsC; rw [if_neg hn])
    go_enter Tryd.func79, Tryd.ntmps79
    go_wp2_with fail
    go_loop [4, 14] (fun _ i => ∃ k : Nat, k ≤ n ∧ i = .int .i64 k ∧ Hid (allB (f60 rn) k = true)) (fun _ i => n - (intOf i).toNat)
    case atStart => exact ⟨0, Nat.zero_le _, rfl, (show allB (f60 rn) 0 = true from rfl)⟩
    case round =>
      obtain ⟨k, hk, rfl, hin⟩ := hrel
      by_cases hkn : k < n
      · obtain ⟨b, off, rfl, hc⟩ := HA.out (by omega)
        obtain ⟨hcell, hrow⟩ := hc k hkn
        have hmx := hrow.2.1
        have hle := hrow.1
        unfold maxLen at hmx
        clear hc hrow
        by_cases h60 : 60 < rn k
        · have HE := Lib.hid (show rowsC n rn z = 5 by rw [HC1.out, if_pos (allB_false hkn (by simp [f60]; omega))])
          go_wp2_with fail
          go_ret
          rw [HE.out]
          exact ⟨rfl, rfl⟩
        · have HE : Hid (allB (f60 rn) (k + 1) = true) := allB_succ hin.out (by simp [f60]; omega)
          go_wp2_with fail
          go_round
          case rel => exact ⟨k + 1, by omega, by go_num, HE⟩
          case measure => simp [intOf]; omega
      · obtain rfl : k = n := by omega
        have HC2 := Lib.hid (show rowsC k rn z = if allB (fin_ rn z) k = false then 3 else if allB (f2 rn) k = false then 1 else if k = 0 then 20 else 0 by rw [HC1.out, if_neg (by rw [hin.out]; simp)])
        clear HC1 hin
        go_wp2_with fail
        go_loop [6, 24] (fun _ i => ∃ j : Nat, j ≤ k ∧ i = .int .i64 j ∧ Hid (allB (fin_ rn z) j = true)) (fun _ i => k - (intOf i).toNat)
        case atStart => exact ⟨0, Nat.zero_le _, rfl, (show allB (fin_ rn z) 0 = true from rfl)⟩
        case round =>
          obtain ⟨j, hj, rfl, hin⟩ := hrel
          by_cases hjn : j < k
          · obtain ⟨b, off, rfl, hc⟩ := HA.out (by omega)
            obtain ⟨hcell, hrow⟩ := hc j hjn
            have HR := Lib.hid hrow
            clear hc hrow
            rcases Bool.eq_false_or_eq_true (inrB (z j) (rn j)) with hb | hb
            · have HE : Hid (allB (fin_ rn z) (j + 1) = true) := allB_succ hin.out hb
              have HBB := Lib.hid hb
              clear hb
              go_wp2_with fail
              refine (inRange_any _ _ _ (z j) _ HR.out).mono ?_
              rw [HBB.out]
              rintro e w' ⟨rfl, rfl⟩
              go_wp2_with fail
              go_round
              case rel => exact ⟨j + 1, by omega, by go_num, HE⟩
              case measure => simp [intOf]; omega
            · have HE := Lib.hid (show rowsC k rn z = 3 by rw [HC2.out, if_pos (allB_false hjn hb)])
              have HBB := Lib.hid hb
              clear hb
              go_wp2_with fail
              refine (inRange_any _ _ _ (z j) _ HR.out).mono ?_
              rw [HBB.out]
              rintro e w' ⟨rfl, rfl⟩
              go_wp2_with fail
              go_ret
              rw [HE.out]
              exact ⟨rfl, rfl⟩
          · obtain rfl : j = k := by omega
            have HC3 := Lib.hid (show rowsC j rn z = if allB (f2 rn) j = false then 1 else if j = 0 then 20 else 0 by rw [HC2.out, if_neg (by rw [hin.out]; simp)])
            clear HC2 hin
            go_wp2_with fail
            go_loop [8, 34] (fun _ i => ∃ l : Nat, l ≤ j ∧ i = .int .i64 l ∧ Hid (allB (f2 rn) l = true)) (fun _ i => j - (intOf i).toNat)
            case atStart => exact ⟨0, Nat.zero_le _, rfl, (show allB (f2 rn) 0 = true from rfl)⟩
            case round =>
              obtain ⟨l, hl, rfl, hin⟩ := hrel
              by_cases hln : l < j
              · obtain ⟨b, off, rfl, hc⟩ := HA.out (by omega)
                obtain ⟨hcell, hrow⟩ := hc l hln
                obtain ⟨hcell0, _⟩ := hc 0 (by omega)
                have hmx := hrow.2.1
                have hle := hrow.1
                unfold maxLen at hmx
                rw [Nat.add_zero] at hcell0
                clear hc hrow
                by_cases h2 : rn l < 2
                · have HE := Lib.hid (show rowsC j rn z = 1 by rw [HC3.out, if_pos (allB_false hln (by simp [f2]; omega))])
                  go_wp2_with fail
                  go_ret
                  rw [HE.out]
                  exact ⟨rfl, rfl⟩
                · by_cases h3 : rn l = rn 0
                  · have HE : Hid (allB (f2 rn) (l + 1) = true) := allB_succ hin.out (by simp [f2]; omega)
                    have h3b : ((rn l : Int) != (rn 0 : Int)) = false := by simp; omega
                    clear h3
                    go_wp2_with fail
                    go_round
                    case rel => exact ⟨l + 1, by omega, by go_num, HE⟩
                    case measure => simp [intOf]; omega
                  · have HE := Lib.hid (show rowsC j rn z = 1 by rw [HC3.out, if_pos (allB_false hln (by simp [f2]; omega))])
                    have h3b : ((rn l : Int) != (rn 0 : Int)) = true := by simp; omega
                    clear h3
                    go_wp2_with fail
                    go_ret
                    rw [HE.out]
                    exact ⟨rfl, rfl⟩
              · obtain rfl : l = j := by omega
                have HC4 := Lib.hid (show rowsC l rn z = if l = 0 then 20 else 0 by rw [HC3.out, if_neg (by rw [hin.out]; simp)])
                clear HC3 hin
                by_cases hz : l = 0
                · have HE := Lib.hid (show rowsC l rn z = 20 by rw [HC4.out, if_pos hz])
                  have hzb : ((l : Int) == 0) = true := by simp; omega
                  clear hz
                  go_wp2_with fail
                  go_ret
                  rw [HE.out]
                  exact ⟨rfl, rfl⟩
                · have HE := Lib.hid (show rowsC l rn z = 0 by rw [HC4.out, if_neg hz])
                  have hzb : ((l : Int) == 0) = false := by simp; omega
                  clear hz
                  go_wp2_with fail
                  go_ret
                  rw [HE.out]
                  exact ⟨rfl, rfl⟩

end Go.Proofs.YtbjgnpgachdlaaaDoor
