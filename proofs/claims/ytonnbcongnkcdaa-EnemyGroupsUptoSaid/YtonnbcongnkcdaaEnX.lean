/- Plain: the members of the families, and the pairs of them. -/
import Derived.Test.YtonnbcongnkcdaaEnW
namespace Go.Proofs.Ytonnbcongnkcdaa
open Go.RowKit

/-- the items of family x among the first k -/
def memF (it fm : Nat → Int) (k : Nat) (x : Int) : List Int := ((List.range k).filter fun j => decide (0 < fm j) && decide (fm j = x)).map it
theorem memF_zero (it fm : Nat → Int) (x : Int) : memF it fm 0 x = [] := rfl
theorem memF_succ (it fm : Nat → Int) (k : Nat) (x : Int) : memF it fm (k + 1) x = if 0 < fm k ∧ fm k = x then memF it fm k x ++ [it k] else memF it fm k x := by
  unfold memF
  rw [List.range_succ, List.filter_append, List.map_append]
  by_cases c : 0 < fm k ∧ fm k = x
  · rw [if_pos c]
    have : (decide (0 < fm k) && decide (fm k = x)) = true := by rw [decide_eq_true c.1, decide_eq_true c.2]; rfl
    simp only [List.filter_cons, this, if_true, List.filter_nil, List.map_cons, List.map_nil]
  · rw [if_neg c]
    have : (decide (0 < fm k) && decide (fm k = x)) = false := by
      by_cases h : 0 < fm k
      · have : ¬ fm k = x := fun e => c ⟨h, e⟩
        simp [this]
      · simp [h]
    simp [this]
theorem memF_yes {it fm : Nat → Int} {k : Nat} {x y : Int} {zs : List Int} (hy : fm k = y) (hx : it k = x) (hp : 0 < y) (hz : memF it fm k y = zs) (z : Int) : (if z = y then zs ++ [x] else memF it fm k z) = memF it fm (k + 1) z := by
  rw [memF_succ, hy, hx]
  by_cases e : z = y
  · subst e; rw [if_pos rfl, if_pos ⟨hp, rfl⟩, hz]
  · rw [if_neg e, if_neg (fun h => e h.2.symm)]
theorem memF_no {it fm : Nat → Int} {k : Nat} (h : ¬ 0 < fm k) (z : Int) : memF it fm k z = memF it fm (k + 1) z := by rw [memF_succ, if_neg (fun h2 => h h2.1)]
theorem memF_mem {it fm : Nat → Int} {k : Nat} {x a : Int} : a ∈ memF it fm k x ↔ ∃ j, j < k ∧ 0 < fm j ∧ fm j = x ∧ it j = a := by
  unfold memF
  rw [List.mem_map]
  constructor
  · rintro ⟨j, hj, e⟩
    rw [List.mem_filter, List.mem_range, Bool.and_eq_true, decide_eq_true_eq, decide_eq_true_eq] at hj
    exact ⟨j, hj.1, hj.2.1, hj.2.2, e⟩
  · rintro ⟨j, h1, h2, h3, e⟩
    refine ⟨j, ?_, e⟩
    rw [List.mem_filter, List.mem_range, Bool.and_eq_true, decide_eq_true_eq, decide_eq_true_eq]
    exact ⟨h1, h2, h3⟩
theorem memF_len (it fm : Nat → Int) (k : Nat) (x : Int) : (memF it fm k x).length ≤ k := by
  unfold memF
  rw [List.length_map]
  exact Nat.le_trans (List.length_filter_le _ _) (by simp)

/-- the pairs (a, b) of a list, b behind a, a among the first i -/
def prs (R : List Int) (i : Nat) : List (Int × Int) := (List.range i).flatMap fun j => (R.drop (j + 1)).map fun b => (R.getD j 0, b)
theorem prs_succ (R : List Int) (i : Nat) {a : Int} (h : R.getD i 0 = a) : prs R (i + 1) = prs R i ++ (R.drop (i + 1)).map fun b => (a, b) := by
  unfold prs
  rw [List.range_succ, List.flatMap_append, List.flatMap_cons, List.flatMap_nil, List.append_nil, h]
theorem prs_mem {R : List Int} (hR : R.Pairwise (fun a b => a < b)) {p : Int × Int} : p ∈ prs R R.length ↔ p.1 ∈ R ∧ p.2 ∈ R ∧ p.1 < p.2 := by
  unfold prs
  rw [List.mem_flatMap]
  constructor
  · rintro ⟨j, hj, hp⟩
    rw [List.mem_range] at hj
    obtain ⟨b, hb, rfl⟩ := List.mem_map.1 hp
    obtain ⟨i, hi, e⟩ := List.getElem_of_mem hb
    rw [List.getElem_drop] at e
    rw [List.length_drop] at hi
    have hj2 : j + 1 + i < R.length := by omega
    refine ⟨by rw [getD_lt1 hj]; exact List.getElem_mem hj, List.mem_of_mem_drop hb, ?_⟩
    show R.getD j 0 < b
    rw [getD_lt1 hj, ← e]
    exact List.pairwise_iff_getElem.1 hR j (j + 1 + i) hj hj2 (by omega)
  · rintro ⟨h1, h2, h3⟩
    obtain ⟨j, hj, e1⟩ := List.getElem_of_mem h1
    obtain ⟨i, hi, e2⟩ := List.getElem_of_mem h2
    have hji : j < i := by
      rcases Nat.lt_trichotomy j i with h | h | h
      · exact h
      · subst h; rw [e1] at e2; omega
      · have := List.pairwise_iff_getElem.1 hR i j hi hj h; rw [e1, e2] at this; omega
    refine ⟨j, List.mem_range.2 hj, List.mem_map.2 ⟨p.2, ?_, by rw [getD_lt1 hj, e1]⟩⟩
    rw [List.mem_iff_getElem]
    refine ⟨i - (j + 1), by rw [List.length_drop]; omega, ?_⟩
    rw [List.getElem_drop]
    have e3 : j + 1 + (i - (j + 1)) = i := by omega
    simp only [e3]; exact e2
theorem prs_len (R : List Int) : ∀ i, (prs R i).length ≤ i * R.length
  | 0 => by simp [prs]
  | i + 1 => by
    rw [prs_succ R i rfl, List.length_append, List.length_map, List.length_drop, Nat.add_mul]
    have := prs_len R i
    omega

/-- Q are the pairs of the families that are not left -/
def FamI (it fm : Nat → Int) (n : Nat) (left : Int → Bool) (Q : List (Int × Int)) : Prop :=
  ∀ p : Int × Int, (∃ q ∈ Q, q.1 ≠ q.2 ∧ ordP q.1 q.2 = p) ↔ ∃ x, W64 x ∧ left x = false ∧ ∃ a ∈ memF it fm n x, ∃ b ∈ memF it fm n x, a ≠ b ∧ ordP a b = p
theorem FamI.start {it fm : Nat → Int} {n : Nat} {left : Int → Bool} (h : ∀ x, W64 x → left x = false → memF it fm n x = []) : FamI it fm n left [] := fun p => by
  constructor
  · rintro ⟨q, hq, _⟩; cases hq
  · rintro ⟨x, hx, hl, a, ha, _⟩
    rw [h x hx hl] at ha; cases ha
theorem FamI.step {it fm : Nat → Int} {n : Nat} {left : Int → Bool} {Q : List (Int × Int)} {x : Int} {R : List Int} (h : FamI it fm n left Q) (hx : W64 x) (hlx : left x = true) (hR : R.Pairwise (fun a b => a < b)) (hm : ∀ a, a ∈ R ↔ a ∈ memF it fm n x) :
    FamI it fm n (fun z => left z && !decide (z = x)) (Q ++ prs R R.length) := fun p => by
  constructor
  · rintro ⟨q, hq, hne, e⟩
    rcases List.mem_append.1 hq with hq | hq
    · obtain ⟨y, hy, hly, r⟩ := (h p).1 ⟨q, hq, hne, e⟩
      exact ⟨y, hy, by simp [hly], r⟩
    · obtain ⟨h1, h2, _⟩ := (prs_mem hR).1 hq
      exact ⟨x, hx, by simp, q.1, (hm _).1 h1, q.2, (hm _).1 h2, hne, e⟩
  · rintro ⟨y, hy, hly, a, ha, b, hb, hne, e⟩
    by_cases eyx : y = x
    · subst eyx
      rcases Int.lt_or_gt_of_ne hne with hlt | hlt
      · exact ⟨(a, b), List.mem_append_right _ ((prs_mem hR).2 ⟨(hm _).2 ha, (hm _).2 hb, hlt⟩), hne, e⟩
      · exact ⟨(b, a), List.mem_append_right _ ((prs_mem hR).2 ⟨(hm _).2 hb, (hm _).2 ha, hlt⟩), fun h => hne h.symm, by rw [ordP_comm]; exact e⟩
    · have hl2 : left y = false := by simpa [eyx] using hly
      obtain ⟨q, hq, r⟩ := (h p).2 ⟨y, hy, hl2, a, ha, b, hb, hne, e⟩
      exact ⟨q, List.mem_append_left _ hq, r⟩
/-- the pairs as the reference lists them -/
def famR (it fm : Nat → Int) (n : Nat) : List (Int × Int) := (List.range n).flatMap fun i => ((List.range i).filter fun k => decide (0 < fm i) && decide (fm i = fm k)).map fun k => (it k, it i)
theorem famR_mem {it fm : Nat → Int} {n : Nat} {p : Int × Int} : p ∈ famR it fm n ↔ ∃ i k, i < n ∧ k < i ∧ 0 < fm i ∧ fm i = fm k ∧ (it k, it i) = p := by
  unfold famR
  rw [List.mem_flatMap]
  constructor
  · rintro ⟨i, hi, hp⟩
    obtain ⟨k, hk, e⟩ := List.mem_map.1 hp
    rw [List.mem_filter, List.mem_range, Bool.and_eq_true, decide_eq_true_eq, decide_eq_true_eq] at hk
    exact ⟨i, k, List.mem_range.1 hi, hk.1, hk.2.1, hk.2.2, e⟩
  · rintro ⟨i, k, hi, hk, h1, h2, e⟩
    refine ⟨i, List.mem_range.2 hi, List.mem_map.2 ⟨k, ?_, e⟩⟩
    rw [List.mem_filter, List.mem_range, Bool.and_eq_true, decide_eq_true_eq, decide_eq_true_eq]
    exact ⟨hk, h1, h2⟩
theorem FamI.end {it fm : Nat → Int} {n : Nat} {left : Int → Bool} {Q : List (Int × Int)} (h : FamI it fm n left Q) (hl : ∀ x, W64 x → left x = false) (h64 : ∀ j, j < n → W64 (fm j)) : normR Q = normR (famR it fm n) := by
  refine normR_congr fun p => (h p).trans ⟨?_, ?_⟩
  · rintro ⟨x, hx, _, a, ha, b, hb, hne, e⟩
    obtain ⟨i, hi, h1, h2, rfl⟩ := memF_mem.1 ha
    obtain ⟨k, hk, k1, k2, rfl⟩ := memF_mem.1 hb
    rcases Nat.lt_trichotomy i k with hik | hik | hik
    · exact ⟨(it i, it k), famR_mem.2 ⟨k, i, hk, hik, k1, by rw [k2, h2], rfl⟩, hne, e⟩
    · subst hik; exact absurd rfl hne
    · exact ⟨(it k, it i), famR_mem.2 ⟨i, k, hi, hik, h1, by rw [k2, h2], rfl⟩, fun h => hne h.symm, by rw [ordP_comm]; exact e⟩
  · rintro ⟨q, hq, hne, e⟩
    obtain ⟨i, k, hi, hk, h1, h2, rfl⟩ := famR_mem.1 hq
    exact ⟨fm i, h64 i hi, hl _ (h64 i hi), it k, memF_mem.2 ⟨k, by omega, by rw [← h2]; exact h1, h2.symm, rfl⟩, it i, memF_mem.2 ⟨i, hi, h1, rfl, rfl⟩, hne, e⟩
/-- how many items are in a family that is left -/
def cntL (fm : Nat → Int) (n : Nat) (left : Int → Bool) : Nat := (List.range n).countP fun j => decide (0 < fm j) && left (fm j)
theorem cntL_le (fm : Nat → Int) (n : Nat) (left : Int → Bool) : cntL fm n left ≤ n := by
  unfold cntL
  exact Nat.le_trans (List.countP_le_length) (by simp)
theorem countP_split {α : Type} (p q r : α → Bool) : ∀ l : List α, (∀ x ∈ l, p x = (q x || r x)) → (∀ x ∈ l, (q x && r x) = false) → l.countP p = l.countP q + l.countP r
  | [], _, _ => rfl
  | a :: l, h1, h2 => by
    have ih := countP_split p q r l (fun x hx => h1 x (List.mem_cons_of_mem _ hx)) (fun x hx => h2 x (List.mem_cons_of_mem _ hx))
    have e1 := h1 a List.mem_cons_self
    have e2 := h2 a List.mem_cons_self
    rw [List.countP_cons, List.countP_cons, List.countP_cons, ih, e1]
    cases hq : q a <;> cases hr : r a <;> simp [hq, hr] at e2 ⊢ <;> omega
theorem cntL_step {it fm : Nat → Int} {n : Nat} {left : Int → Bool} {x : Int} (hl : left x = true) : cntL fm n left = cntL fm n (fun z => left z && !decide (z = x)) + (memF it fm n x).length := by
  unfold cntL memF
  rw [List.length_map, ← List.countP_eq_length_filter]
  refine countP_split _ _ _ _ (fun j _ => ?_) (fun j _ => ?_)
  · by_cases e : fm j = x
    · rw [e, hl]; simp
    · simp [e]
  · by_cases e : fm j = x
    · rw [e]; simp
    · simp [e]

end Go.Proofs.Ytonnbcongnkcdaa
