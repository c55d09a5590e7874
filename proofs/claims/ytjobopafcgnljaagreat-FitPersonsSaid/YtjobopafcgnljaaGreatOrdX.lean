import Derived.Test.YtjobopafcgnljaaGreatSrtD
import Derived.Test.YtjobopafcgnljaaGreatFtP
namespace Go.Proofs.YtjobopafcgnljaaGreat
open Go.RowKit
def BestI (T : Nat → Nat → Bool) (n m j : Nat) (b : Value) : Prop :=
 (b = .int .i64 (-1) ∧ ∀ x, x < j → rnk T n x < m) ∨ ∃ y : Nat, b = .int .i64 (y : Int) ∧ y < j ∧ m ≤ rnk T n y ∧ ∀ x, x < j → m ≤ rnk T n x → rnk T n y ≤ rnk T n x
theorem BestI.start (T : Nat → Nat → Bool) (n m : Nat) : BestI T n m 0 (.int .i64 (-1)) := .inl ⟨rfl, fun x hx => by omega⟩
theorem BestI.used {T : Nat → Nat → Bool} {n m j : Nat} {b : Value} (h : BestI T n m j b) (hr : rnk T n j < m) : BestI T n m (j + 1) b := by
 rcases h with ⟨e, h⟩ | ⟨y, e, h1, h2, h3⟩
 ·exact .inl ⟨e, fun x hx => by by_cases e2 : x = j; (· subst e2; exact hr); (· exact h x (by omega))⟩
 ·exact .inr ⟨y, e, by omega, h2, fun x hx hm => by by_cases e2 : x = j; (· subst e2; omega); (· exact h3 x (by omega) hm)⟩
theorem BestI.first {T : Nat → Nat → Bool} {n m j : Nat} (h : ∀ x, x < j → rnk T n x < m) (hr : m ≤ rnk T n j) : BestI T n m (j + 1) (.int .i64 (j : Int)) :=
 .inr ⟨j, rfl, by omega, hr, fun x hx hm => by by_cases e2 : x = j; (· subst e2; omega); (· have := h x (by omega); omega)⟩
theorem BestI.keepY {T : Nat → Nat → Bool} {n m j y : Nat} (h1 : y < j) (h2 : m ≤ rnk T n y) (h3 : ∀ x, x < j → m ≤ rnk T n x → rnk T n y ≤ rnk T n x) (hr : rnk T n y ≤ rnk T n j) : BestI T n m (j + 1) (.int .i64 (y : Int)) :=
 .inr ⟨y, rfl, by omega, h2, fun x hx hm => by by_cases e2 : x = j; (· subst e2; exact hr); (· exact h3 x (by omega) hm)⟩
theorem BestI.newY {T : Nat → Nat → Bool} {n m j y : Nat} (h3 : ∀ x, x < j → m ≤ rnk T n x → rnk T n y ≤ rnk T n x) (hr : rnk T n j < rnk T n y) (hm : m ≤ rnk T n j) : BestI T n m (j + 1) (.int .i64 (j : Int)) :=
 .inr ⟨j, rfl, by omega, hm, fun x hx hx2 => by by_cases e2 : x = j; (· subst e2; omega); (· have := h3 x (by omega) hx2; omega)⟩
theorem rnk_ltX {T : Nat → Nat → Bool} (hO : Ord T) {n : Nat} {d : Nat → Nat} (hp : Prm n d) (hs : Srt T 0 n d) {x y : Nat} (hx : x < n) (hy : y < n) (h : T x y = true) : rnk T n x < rnk T n y := by
 obtain ⟨s, hs1, rfl⟩ := hp.surj x hx
 obtain ⟨t, ht1, rfl⟩ := hp.surj y hy
 rw [Srt.rnk hO hp hs hs1, Srt.rnk hO hp hs ht1]
 rcases Nat.lt_trichotomy s t with k | k | k
 ·exact k
 ·subst k; exact absurd h (hO.irrefl _)
 ·exact absurd h (fun h2 => hO.asymm _ _ (hs t s (Nat.zero_le _) k hs1) h2)
theorem BestI.done {T : Nat → Nat → Bool} (hO : Ord T) {n m : Nat} {d : Nat → Nat} {b : Value} (hp : Prm n d) (hs : Srt T 0 n d) (hm : m < n) (h : BestI T n m n b) : b = .int .i64 ((d m : Nat) : Int) := by
 have h0 := Srt.rnk hO hp hs hm
 rcases h with ⟨_, h⟩ | ⟨y, rfl, h1, h2, h3⟩
 ·have := h (d m) (hp.lt m hm); omega
 ·have h4 := h3 (d m) (hp.lt m hm) (by omega)
  obtain ⟨s, hs1, rfl⟩ := hp.surj y h1
  rw [Srt.rnk hO hp hs hs1] at h2 h4
  obtain rfl : s = m := by omega
  rfl
theorem gt_T {q : Nat → Rat} {x y : Nat} (h : q y < q x) : keyT (gtQ q) x y = true := by
 unfold keyT gtQ
 rw [show decide (q y < q x) = true from decide_eq_true h]; rfl
theorem gt_T2 {q : Nat → Rat} {x y : Nat} (h : ¬ q x < q y) (hl : x < y) : keyT (gtQ q) x y = true := by
 unfold keyT gtQ
 rw [show decide (q x < q y) = false from decide_eq_false h, decide_eq_true hl]; simp
end Go.Proofs.YtjobopafcgnljaaGreat
