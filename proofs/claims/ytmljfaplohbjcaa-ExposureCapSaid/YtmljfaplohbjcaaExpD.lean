/- Contracts of exposure.Count and of the reference's Count: for every slice of uses. -/
import Derived.Test.YtmljfaplohbjcaaExpC
namespace Go.Proofs.Ytmljfaplohbjcaa
open Go.RowKit

/-- the slice holds n uses, their items and counts -/
def Us (w : World) (a : Option Addr) (n cap : Nat) (it ct : Nat → Int) : Prop :=
  n ≤ cap ∧ cap ≤ maxLen ∧ (0 < n → ∃ b off, a = some ⟨b, off, none⟩ ∧ ∀ i, i < n → w.cell? ⟨b, off + i * 2, none⟩ = some (.int .i64 (it i)) ∧ w.cell? ⟨b, off + i * 2 + 1, none⟩ = some (.int .i64 (ct i)))
theorem Us.below {w w' : World} {a : Option Addr} {n cap : Nat} {it ct : Nat → Int} (h : Us w a n cap it ct) (hb : Below w.heap.size w w') : Us w' a n cap it ct := by
  obtain ⟨h0, h1, h2⟩ := h
  refine ⟨h0, h1, fun hn => ?_⟩
  obtain ⟨b, off, e, hc⟩ := h2 hn
  exact ⟨b, off, e, fun i hi => ⟨cell_mono (hc i hi).1 hb, cell_mono (hc i hi).2 hb⟩⟩
theorem Us.alloc {w : World} {a : Option Addr} {n cap : Nat} {it ct : Nat → Int} (h : Us w a n cap it ct) (o : Obj) : Us (w.alloc o) a n cap it ct := h.below (bel1 w o)

theorem cell_mono' {w w' : World} {b o : Nat} {v : Value} (hb : Below w.heap.size w w') (h : w.cell? ⟨b, o, none⟩ = some v) : w'.cell? ⟨b, o, none⟩ = some v := cell_mono h hb

/-- how often the item was used, by the first k uses -/
def cntN (it ct : Nat → Int) (item : Int) : Nat → Int
  | 0 => 0
  | k + 1 => if it k = item then lim (cntN it ct item k + lim (ct k)) else cntN it ct item k
theorem cntN_bd (it ct : Nat → Int) (item : Int) : ∀ k, 0 ≤ cntN it ct item k ∧ cntN it ct item k ≤ 1000000
  | 0 => by simp [cntN]
  | k + 1 => by
    have := cntN_bd it ct item k
    have := lim_bd (cntN it ct item k + lim (ct k))
    simp only [cntN]; split <;> omega

set_option maxHeartbeats 2000000 in
theorem count_any (a : Option Addr) (n cap : Nat) (it ct : Nat → Int) (item : Int) (w : World) (h : Us w a n cap it ct) :
    Calls Try.prog 8 #[.slice a n cap, .int .i64 item] w fun e w' => e = .returned (.int .i64 (cntN it ct item n)) ∧ Below w.heap.size w w' := by
  obtain ⟨h0, h1, h2⟩ := h
  unfold maxLen at h1
  have HA := Lib.hid h2
  clear h2
  go_enter Try.func8, Try.ntmps8
  go_wp2_with fail
  go_loopw [5, 7, 10] (fun c _ i wr => ∃ k : Nat, k ≤ n ∧ i = .int .i64 k ∧ c = .int .i64 (cntN it ct item k) ∧ Below w.heap.size w wr) (fun _ _ i _ => n - (intOf i).toNat)
  case atStart => exact ⟨0, Nat.zero_le _, rfl, rfl, Below.refl _ _⟩
  case round =>
    obtain ⟨k, hk, rfl, rfl, hbel⟩ := hrel
    obtain ⟨c0, c1⟩ := cntN_bd it ct item k
    have HB := Lib.hid hbel
    have hsz := hbel.size
    by_cases hkn : k < n
    · obtain ⟨b, off, rfl, hc⟩ := HA.out (by omega)
      have hcell0 := cell_mono' hbel (hc k hkn).1
      have hcell1 := cell_mono' hbel (hc k hkn).2
      clear hc hbel
      obtain ⟨l0, l1⟩ := lim_bd (ct k)
      by_cases hi : it k = item
      · have HS := Lib.hid (show cntN it ct item (k + 1) = lim (cntN it ct item k + lim (ct k)) by simp only [cntN]; rw [if_pos hi])
        have hi2 : (it k == item) = true := by simpa using hi
        clear hi
        go_wp2_with fail
        refine (limited_any _ _).mono ?_
        rintro e w' ⟨rfl, rfl⟩
        go_wp2_with fail
        refine (limited_any _ _).mono ?_
        rintro e w' ⟨rfl, rfl⟩
        go_wp2_with fail
        go_roundw
        case rel => exact ⟨k + 1, by omega, by go_num, by rw [HS.out], HB.out.alloc hsz _⟩
        case measure => simp [intOf]; omega
      · have HS := Lib.hid (show cntN it ct item (k + 1) = cntN it ct item k by simp only [cntN]; rw [if_neg hi])
        have hi2 : (it k == item) = false := by simpa using hi
        clear hi
        go_wp2_with fail
        go_roundw
        case rel => exact ⟨k + 1, by omega, by go_num, by rw [HS.out], HB.out.alloc hsz _⟩
        case measure => simp [intOf]; omega
    · obtain rfl : k = n := by omega
      clear hbel
      go_wp2_with fail
      go_ret
      exact ⟨rfl, HB.out⟩

set_option maxHeartbeats 2000000 in
theorem xcount_any (a : Option Addr) (n cap : Nat) (it ct : Nat → Int) (item : Int) (w : World) (h : Us w a n cap it ct) :
    Calls Try.prog 25 #[.slice a n cap, .int .i64 item] w fun e w' => e = .returned (.int .i64 (cntN it ct item n)) ∧ w' = w := by
  obtain ⟨h0, h1, h2⟩ := h
  unfold maxLen at h1
  have HA := Lib.hid h2
  clear h2
  go_enter Try.func25, Try.ntmps25
  go_wp2_with fail
  go_loop [5, 6] (fun c i => ∃ k : Nat, k ≤ n ∧ i = .int .i64 k ∧ c = .int .i64 (cntN it ct item k)) (fun _ i => n - (intOf i).toNat)
  case atStart => exact ⟨0, Nat.zero_le _, rfl, rfl⟩
  case round =>
    obtain ⟨k, hk, rfl, rfl⟩ := hrel
    obtain ⟨c0, c1⟩ := cntN_bd it ct item k
    by_cases hkn : k < n
    · obtain ⟨b, off, rfl, hc⟩ := HA.out (by omega)
      obtain ⟨hcell0, hcell1⟩ := hc k hkn
      clear hc
      obtain ⟨l0, l1⟩ := lim_bd (ct k)
      by_cases hi : it k = item
      · have HS := Lib.hid (show cntN it ct item (k + 1) = lim (cntN it ct item k + lim (ct k)) by simp only [cntN]; rw [if_pos hi])
        have hi2 : (it k == item) = true := by simpa using hi
        clear hi
        go_wp2_with fail
        refine (xlimited_any _ _).mono ?_
        rintro e w' ⟨rfl, rfl⟩
        go_wp2_with fail
        refine (xlimited_any _ _).mono ?_
        rintro e w' ⟨rfl, rfl⟩
        go_wp2_with fail
        go_round
        case rel => exact ⟨k + 1, by omega, by go_num, by rw [HS.out]⟩
        case measure => simp [intOf]; omega
      · have HS := Lib.hid (show cntN it ct item (k + 1) = cntN it ct item k by simp only [cntN]; rw [if_neg hi])
        have hi2 : (it k == item) = false := by simpa using hi
        clear hi
        go_wp2_with fail
        go_round
        case rel => exact ⟨k + 1, by omega, by go_num, by rw [HS.out]⟩
        case measure => simp [intOf]; omega
    · obtain rfl : k = n := by omega
      go_wp2_with fail
      go_ret
      exact ⟨rfl, rfl⟩

end Go.Proofs.Ytmljfaplohbjcaa
