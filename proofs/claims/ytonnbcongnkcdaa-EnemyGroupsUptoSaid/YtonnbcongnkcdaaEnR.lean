/- Plain: what Add, Remove and Are do to the relation. -/
import Derived.Test.YtonnbcongnkcdaaEnZ
namespace Go.Proofs.Ytonnbcongnkcdaa
open Go.RowKit

theorem areP_iff {L : List (Int × Int)} {a b : Int} : areP L a b = true ↔ a ≠ b ∧ ∃ p ∈ L, ordP p.1 p.2 = ordP a b := by
  unfold areP
  rw [Bool.and_eq_true, decide_eq_true_eq, List.any_eq_true]
  exact ⟨fun ⟨h, p, hp, e⟩ => ⟨h, p, hp, of_decide_eq_true e⟩, fun ⟨h, p, hp, e⟩ => ⟨h, p, hp, decide_eq_true e⟩⟩
theorem areP_comm (L : List (Int × Int)) (a b : Int) : areP L a b = areP L b a := by
  rw [Bool.eq_iff_iff, areP_iff, areP_iff, ordP_comm a b]
  exact and_congr_left' (ne_comm)
theorem ordP_ne_iff {a b : Int} : (ordP a b).1 ≠ (ordP a b).2 ↔ a ≠ b := by unfold ordP; simp only; omega
theorem normR_lt {L : List (Int × Int)} {p : Int × Int} (h : p ∈ normR L) : p.1 < p.2 := by
  obtain ⟨q, _, hne, e⟩ := ((normR_is L).2 p).1 h
  rw [← e]; exact ordP_ne hne
theorem areP_norm (L : List (Int × Int)) (a b : Int) : areP (normR L) a b = areP L a b := by
  rw [Bool.eq_iff_iff, areP_iff, areP_iff]
  refine and_congr_right fun hne => ⟨?_, ?_⟩
  · rintro ⟨p, hp, e⟩
    obtain ⟨q, hq, _, e2⟩ := ((normR_is L).2 p).1 hp
    refine ⟨q, hq, ?_⟩
    rw [ordP_idem (normR_lt hp)] at e
    rw [e2, e]
  · rintro ⟨q, hq, e⟩
    have hq2 : q.1 ≠ q.2 := by rw [← ordP_ne_iff, e, ordP_ne_iff]; exact hne
    exact ⟨ordP a b, ((normR_is L).2 _).2 ⟨q, hq, hq2, e⟩, ordP_le a b⟩
theorem addR_mem {L : List (Int × Int)} {x y : Int} {p : Int × Int} : p ∈ addR L x y ↔ p ∈ normR L ∨ (x ≠ y ∧ p = ordP x y) := by
  unfold addR
  rw [← normR_push, (normR_is _).2]
  constructor
  · rintro ⟨q, hq, hne, e⟩
    rcases List.mem_append.1 hq with hq | hq
    · rw [ordP_idem (normR_lt hq)] at e
      exact .inl (e ▸ hq)
    · rw [List.mem_singleton] at hq
      subst hq
      rw [ordP_le] at e
      exact .inr ⟨ordP_ne_iff.1 hne, e.symm⟩
  · rintro (h | ⟨h, e⟩)
    · exact ⟨p, List.mem_append_left _ h, by have := normR_lt h; omega, ordP_idem (normR_lt h)⟩
    · exact ⟨ordP x y, by simp, ordP_ne_iff.2 h, by rw [ordP_le, e]⟩
theorem addR_lt {L : List (Int × Int)} {x y : Int} {p : Int × Int} (h : p ∈ addR L x y) : p.1 < p.2 := by
  rcases addR_mem.1 h with h2 | ⟨h2, e⟩
  · exact normR_lt h2
  · rw [e]; exact ordP_ne h2
theorem addR_idem (L : List (Int × Int)) (x y : Int) : normR (addR L x y) = addR L x y := by
  unfold addR
  rw [← normR_push, normR_idem]
theorem are_add {L : List (Int × Int)} {x y : Int} (h : x ≠ y) : areP (addR L x y) x y = true := areP_iff.2 ⟨h, ordP x y, addR_mem.2 (.inr ⟨h, rfl⟩), ordP_le x y⟩
theorem are_add_other {L : List (Int × Int)} {x y c d : Int} (h : ordP c d ≠ ordP x y) : areP (addR L x y) c d = areP L c d := by
  rw [← areP_norm L, Bool.eq_iff_iff, areP_iff, areP_iff]
  refine and_congr_right fun hne => ⟨?_, ?_⟩
  · rintro ⟨p, hp, e⟩
    rcases addR_mem.1 hp with hp | ⟨_, rfl⟩
    · exact ⟨p, hp, e⟩
    · rw [ordP_le] at e; exact absurd e.symm h
  · rintro ⟨p, hp, e⟩
    exact ⟨p, addR_mem.2 (.inl hp), e⟩
theorem addR_sorted (L : List (Int × Int)) (x y : Int) : (addR L x y).Pairwise lxL := by rw [← addR_idem]; exact (normR_is _).1
theorem rem_add {L : List (Int × Int)} {x y : Int} (h : areP L x y = false) (hne : x ≠ y) : remF (normR (addR L x y)) (ordP y x) = normR L := by
  rw [addR_idem, ordP_comm y x]
  refine lx_unique _ _ ?_ (normR_is L).1 fun p => ?_
  · unfold remF; exact (addR_sorted L x y).filter _
  · unfold remF
    rw [List.mem_filter, addR_mem, decide_eq_true_eq]
    constructor
    · rintro ⟨h1 | ⟨_, h1⟩, h2⟩
      · exact h1
      · exact absurd h1 h2
    · intro hp
      refine ⟨.inl hp, fun e => ?_⟩
      have : areP L x y = true := by rw [← areP_norm]; exact areP_iff.2 ⟨hne, p, hp, by rw [e, ordP_le]⟩
      rw [h] at this; cases this
theorem addE_norm (L : List (Int × Int)) (x y : Int) : addE (normR L) y x = addE L x y := by
  unfold addE
  rw [areP_norm, areP_comm L y x, normR_idem]
  have e1 : (y < 1 ∨ 9999999 < y ∨ x < 1 ∨ 9999999 < x) ↔ (x < 1 ∨ 9999999 < x ∨ y < 1 ∨ 9999999 < y) := by omega
  have e2 : y = x ↔ x = y := eq_comm
  simp only [e1, e2]
theorem addR_norm (L : List (Int × Int)) (x y : Int) : addR (normR L) y x = addR L x y := by
  unfold addR
  rw [normR_idem, ordP_comm y x]
theorem addE_zero {L : List (Int × Int)} {x y : Int} (h : addE L x y = 0) : x ≠ y ∧ areP L x y = false ∧ (normR L).length < 400 := by
  unfold addE at h
  split at h
  · cases h
  · split at h
    · cases h
    · split at h
      · cases h
      · split at h
        · cases h
        · rename_i _ h2 h3 h4
          exact ⟨h2, by simpa using h3, by omega⟩
theorem pr_nil (w : World) : Pr w none 0 0 [] := ⟨rfl, Nat.le_refl _, Nat.zero_le _, fun h => absurd h (Nat.lt_irrefl _)⟩

end Go.Proofs.Ytonnbcongnkcdaa
