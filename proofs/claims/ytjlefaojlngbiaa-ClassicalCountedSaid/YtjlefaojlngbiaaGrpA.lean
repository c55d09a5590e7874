/- Contracts of cmp.Compare[int], the comparison of classical.Groups, inRange, ref25.within, all, rank, law25.many, small. No condition but the slices' form. -/
import Derived.Test.YtjlefaojlngbiaaSrtA
namespace Go.Proofs.Ytjlefaojlngbiaa
open Go.RowKit

/-- the slice holds n integers -/
def Is (w : World) (a : Option Addr) (n cap : Nat) (z : Nat → Int) : Prop :=
  n ≤ cap ∧ cap ≤ maxLen ∧ (0 < n → ∃ b off, a = some ⟨b, off, none⟩ ∧ ∀ i, i < n → w.cell? ⟨b, off + i, none⟩ = some (.int .i64 (z i)))
theorem cell_keep {w w' : World} {p : Addr} {v : Value} (h : w.cell? p = some v) (hb : Below w.heap.size w w') : w'.cell? p = some v := (hb.cell (World.block_lt_of_cell? w p h)).trans h
theorem Is.below {w w' : World} {a : Option Addr} {n cap : Nat} {z : Nat → Int} (h : Is w a n cap z) (hb : Below w.heap.size w w') : Is w' a n cap z := by
  obtain ⟨h0, h1, h2⟩ := h
  refine ⟨h0, h1, fun hn => ?_⟩
  obtain ⟨b, off, e, hc⟩ := h2 hn
  exact ⟨b, off, e, fun i hi => cell_keep (hc i hi) hb⟩
/-- all are from -1000000 to 1000000 -/
def InR (z : Nat → Int) (n : Nat) : Prop := ∀ i, i < n → -1000000 ≤ z i ∧ z i ≤ 1000000
def inRb (z : Nat → Int) (n : Nat) : Bool := (List.range n).all fun i => decide (-1000000 ≤ z i ∧ z i ≤ 1000000)
theorem inRb_iff (z : Nat → Int) (n : Nat) : inRb z n = true ↔ InR z n := by
  unfold inRb InR
  rw [List.all_eq_true]
  constructor
  · intro h i hi; have := h i (List.mem_range.2 hi); simpa using this
  · intro h i hi; have := h i (List.mem_range.1 hi); simpa using this
theorem inRb_true {z : Nat → Int} {n : Nat} (h : InR z n) : inRb z n = true := (inRb_iff z n).2 h
theorem inRb_false {z : Nat → Int} {n k : Nat} (hk : k < n) (h : ¬ (-1000000 ≤ z k ∧ z k ≤ 1000000)) : inRb z n = false := by
  rw [Bool.eq_false_iff]; intro e; exact h ((inRb_iff z n).1 e k hk)

theorem isNaN_any (x : Int) (w : World) : Calls Try.prog 16 #[.int .i64 x] w fun e w' => e = .returned (.bool false) ∧ w = w' := by
  go_enter Try.func16, Try.ntmps16
  go_wp2
  go_ret
  exact ⟨by simp, rfl⟩
set_option maxHeartbeats 1000000 in
/-- cmp.Compare[int] -/
theorem compare_any (x y : Int) (w : World) : Calls Try.prog 12 #[.int .i64 x, .int .i64 y] w fun e w' => ∃ c : Int, e = .returned (.int .i64 c) ∧ w = w' ∧ (c < 0 ↔ x < y) := by
  have h := fun z w => isNaN_any z w
  go_enter Try.func12, Try.ntmps12
  rcases Int.lt_trichotomy x y with hlt | heq | hgt
  · have g : decide (x < y) = true := decide_eq_true hlt
    go_wp2_with (go_at_call 16; refine (h _ _).mono ?_; rintro e w' ⟨rfl, rfl⟩)
    go_ret
    exact ⟨_, rfl, rfl, by omega⟩
  · have g : decide (x < y) = false := decide_eq_false (by omega)
    have g2 : decide (y < x) = false := decide_eq_false (by omega)
    have n1 : ¬ x < y := by omega
    have n2 : ¬ y < x := by omega
    clear heq
    go_wp2_with (go_at_call 16; refine (h _ _).mono ?_; rintro e w' ⟨rfl, rfl⟩)
    go_ret
    exact ⟨_, rfl, rfl, by omega⟩
  · have g : decide (x < y) = false := decide_eq_false (by omega)
    have n1 : ¬ x < y := by omega
    go_wp2_with (go_at_call 16; refine (h _ _).mono ?_; rintro e w' ⟨rfl, rfl⟩)
    go_ret
    exact ⟨_, rfl, rfl, by omega⟩

/-- less by the totals -/
def totL (z : Nat → Int) (x y : Nat) : Bool := decide (z x < z y)
theorem totL_weak (z : Nat → Int) : Weak (totL z) := by
  refine ⟨fun x y h => ?_, fun x y w h k => ?_⟩ <;> unfold totL at *
  · have := of_decide_eq_true h; exact decide_eq_false (by omega)
  · have h1 := of_decide_eq_false h; have h2 := of_decide_eq_false k; exact decide_eq_false (by omega)

set_option maxHeartbeats 2000000 in
/-- the comparison of classical.Groups -/
theorem less_any (a : Option Addr) (n cap x y bx : Nat) (z : Nat → Int) (w : World) (hA : Is w a n cap z) (hx : x < n) (hy : y < n) (hc : w.cell? ⟨bx, 0, none⟩ = some (.slice a n cap)) :
    Calls Try.prog 11 #[.int .i64 x, .int .i64 y, .pointer (some ⟨bx, 0, none⟩)] w fun e w' => ∃ c : Int, e = .returned (.int .i64 c) ∧ Below w.heap.size w w' ∧ (c < 0 ↔ z x < z y) := by
  obtain ⟨h0, h1, h2⟩ := hA
  obtain ⟨b, off, rfl, hz⟩ := h2 (by omega)
  have c1 := hz x hx
  have c2 := hz y hy
  have zx : (x : Int) < (n : Int) := by omega
  have zy : (y : Int) < (n : Int) := by omega
  have mixed : Try.prog.follows Departure.mixedOrders = true := by kernel_rfl
  clear hz h2
  obtain ⟨u, hu⟩ : ∃ u, z x = u := ⟨_, rfl⟩
  obtain ⟨v, hv⟩ : ∃ u, z y = u := ⟨_, rfl⟩
  rw [hu] at c1 ⊢
  rw [hv] at c2 ⊢
  clear hu hv
  have h := fun w => compare_any u v w
  go_enter Try.func11, Try.ntmps11
  go_wp2_with fail
  go_region_held3 (fun w' => w'.cell? ⟨bx, 0, none⟩ = some (.slice (some ⟨b, off, none⟩) n cap) ∧ w'.cell? ⟨b, off + x, none⟩ = some (.int .i64 u) ∧ w'.cell? ⟨b, off + y, none⟩ = some (.int .i64 v))
    (first | (go_keep; done) | ((try dsimp only); (repeat' apply And.intro) <;> (first | assumption | (go_keep; done))))
    (first | (go_at_call 12; refine (h _).mono ?_; rintro e w1 ⟨c, rfl, rfl, hcc⟩))
  have HC := Lib.hid hcc
  clear hcc
  go_wp2
  go_ret
  exact ⟨c, rfl, by first | exact Below.refl _ _ | exact (Below.refl _ _).drew, HC.out⟩

set_option maxHeartbeats 1000000 in
theorem inRange_any (a : Option Addr) (n cap : Nat) (z : Nat → Int) (w : World) (h : Is w a n cap z) :
    Calls Try.prog 9 #[.slice a n cap] w fun e w' => e = .returned (.bool (inRb z n)) ∧ Below w.heap.size w w' := by
  obtain ⟨h0, h1, h2⟩ := h
  have HZ := Lib.hid h2
  have HT := Lib.hid (fun (h : InR z n) => inRb_true h)
  have HF := Lib.hid (fun k (hk : k < n) (h : ¬ (-1000000 ≤ z k ∧ z k ≤ 1000000)) => inRb_false hk h)
  unfold maxLen at h1
  clear h2
  obtain ⟨r, hr⟩ : ∃ r, inRb z n = r := ⟨_, rfl⟩
  rw [hr] at HT HF ⊢
  clear hr
  go_enter Try.func9, Try.ntmps9
  go_wp2
  go_loopw [7] (fun i wr => ∃ k : Nat, k ≤ n ∧ i = .int .i64 k ∧ Hid (∀ j, j < k → -1000000 ≤ z j ∧ z j ≤ 1000000) ∧ wr = w) (fun i _ => n - (intOf i).toNat)
  case atStart => exact ⟨0, Nat.zero_le _, rfl, Lib.hid (fun j hj => by omega), rfl⟩
  case round =>
    obtain ⟨k, hk, rfl, HK, rfl⟩ := hrel
    by_cases hkn : k < n
    · have hkz : (k : Int) < (n : Int) := by omega
      obtain ⟨b, off, rfl, hc⟩ := HZ.out (by omega)
      have c1 := hc k hkn
      clear hc
      obtain ⟨u, hu⟩ : ∃ u, z k = u := ⟨_, rfl⟩
      rw [hu] at c1
      have HU := Lib.hid hu
      clear hu
      by_cases g1 : u < -1000000
      · have HR := Lib.hid (HF.out k hkn (by rw [HU.out]; omega))
        go_wp2
        go_ret
        refine ⟨?_, Below.refl _ _⟩
        simp [HR.out]
      · by_cases g2 : 1000000 < u
        · have HR := Lib.hid (HF.out k hkn (by rw [HU.out]; omega))
          go_wp2
          go_ret
          refine ⟨?_, Below.refl _ _⟩
          simp [HR.out]
        · go_wp2
          go_roundw
          case rel => exact ⟨k + 1, by omega, by go_num, Lib.hid (fun j hj => by
            by_cases e : j = k
            · rw [e, HU.out]; omega
            · exact HK.out j (by omega)), by first | trivial | rfl⟩
          case measure => (first | (simp [intOf]; done) | (simp [intOf]; omega))
    · have hkz : ¬ (k : Int) < (n : Int) := by omega
      have HR := Lib.hid (HT.out (fun j hj => HK.out j (by omega)))
      go_wp2
      go_ret
      refine ⟨?_, Below.refl _ _⟩
      simp [HR.out]

end Go.Proofs.Ytjlefaojlngbiaa
