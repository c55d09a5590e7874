/- Plain laws of exposure.Record: the counts behind a test, in normal form. No condition. -/
import Derived.Test.YtmljfaplohbjcaaMpC
namespace Go.Proofs.Ytmljfaplohbjcaa
open Go

def hasB (z : Nat → Int) (k : Nat) (x : Int) : Bool := (List.range k).any fun i => z i == x
theorem hasB_iff {z : Nat → Int} {k : Nat} {x : Int} : hasB z k x = true ↔ ∃ i, i < k ∧ z i = x := by simp [hasB]
theorem hasB_false {z : Nat → Int} {k : Nat} {x : Int} : hasB z k x = false ↔ ∀ i, i < k → z i ≠ x := by simp [hasB]
theorem hasB_up {z : Nat → Int} {k : Nat} {x : Int} (hx : z k = x) : ∀ y, upB (hasB z k) x true y = hasB z (k + 1) y := by
  intro y
  unfold upB hasB
  rw [List.range_succ, List.any_append]
  by_cases e : y = x
  · subst e; simp [hx]
  · rw [if_neg e]
    have : (x == y) = false := by simp; exact fun h => e h.symm
    simp [hx, this]
def NoD (z : Nat → Int) (m : Nat) : Prop := ∀ i j, i < j → j < m → z i ≠ z j
def InR (z : Nat → Int) (m : Nat) : Prop := ∀ i, i < m → 1 ≤ z i ∧ z i ≤ 9999999
theorem NoD.succ {z : Nat → Int} {k : Nat} {x : Int} (h : NoD z k) (hx : z k = x) (hb : hasB z k x = false) : NoD z (k + 1) := fun i j hij hj => by
  by_cases e : j = k
  · subst e; rw [hx]; exact hasB_false.1 hb i hij
  · exact h i j hij (by omega)
theorem NoD.not {z : Nat → Int} {k m : Nat} {x : Int} (hk : k < m) (hx : z k = x) (hb : hasB z k x = true) : ¬ NoD z m := fun h => by
  obtain ⟨i, hi, e⟩ := hasB_iff.1 hb
  exact h i k hi hk (e.trans hx.symm)
/-- the counts after the first k items -/
def recF (f : Int → Int) (z : Nat → Int) (k : Nat) : Int → Int := fun x => if hasB z k x = true then lim (f x + 1) else f x
theorem recF_start (f : Int → Int) (z : Nat → Int) : recF f z 0 = f := by funext x; simp [recF, hasB]
theorem recF_at {f : Int → Int} {z : Nat → Int} {k : Nat} {x : Int} (h : hasB z k x = false) : recF f z k x = f x := by simp [recF, h]
theorem recF_up {f : Int → Int} {z : Nat → Int} {k : Nat} {x y : Int} (hx : z k = x) (hb : hasB z k x = false) (hy : lim (f x + 1) = y) : ∀ u, upI (recF f z k) x y u = recF f z (k + 1) u := by
  intro u
  have h := hasB_up hx u
  unfold upB at h
  unfold upI recF
  by_cases e : u = x
  · subst e
    rw [if_pos rfl] at h ⊢
    rw [← h, if_pos rfl]; exact hy.symm
  · rw [if_neg e] at h ⊢
    rw [h]
/-- the uses in normal form -/
def RecL (F : Int → Int) (L : List (Int × Int)) : Prop := (L.Pairwise fun p q => p.1 < q.1) ∧ ∀ x c, (x, c) ∈ L ↔ W64 x ∧ F x = c ∧ 0 < c
theorem incP_unique : ∀ (l m : List (Int × Int)), (l.Pairwise fun p q => p.1 < q.1) → (m.Pairwise fun p q => p.1 < q.1) → (∀ x, x ∈ l ↔ x ∈ m) → l = m
  | [], m, _, _, h => by
    cases m with
    | nil => rfl
    | cons y m => exact absurd ((h y).2 List.mem_cons_self) (by simp)
  | x :: l, [], _, _, h => absurd ((h x).1 List.mem_cons_self) (by simp)
  | x :: l, y :: m, hl, hm, h => by
    rw [List.pairwise_cons] at hl hm
    have h1 : x = y := by
      rcases List.mem_cons.1 ((h x).1 List.mem_cons_self) with e | e
      · exact e
      · rcases List.mem_cons.1 ((h y).2 List.mem_cons_self) with e2 | e2
        · exact e2.symm
        · have := hl.1 y e2
          have := hm.1 x e
          omega
    subst h1
    rw [incP_unique l m hl.2 hm.2 fun z => ⟨fun hz => ?_, fun hz => ?_⟩]
    · rcases List.mem_cons.1 ((h z).1 (List.mem_cons_of_mem _ hz)) with e | e
      · subst e; have := hl.1 z hz
        omega
      · exact e
    · rcases List.mem_cons.1 ((h z).2 (List.mem_cons_of_mem _ hz)) with e | e
      · subst e; have := hm.1 z hz
        omega
      · exact e
theorem RecL.unique {F G : Int → Int} {L M : List (Int × Int)} (h1 : RecL F L) (h2 : RecL G M) (e : ∀ x, W64 x → F x = G x) : L = M :=
  incP_unique L M h1.1 h2.1 fun ⟨x, c⟩ => by
    rw [h1.2, h2.2]
    exact ⟨fun ⟨a, b, d⟩ => ⟨a, by rw [← e x a]; exact b, d⟩, fun ⟨a, b, d⟩ => ⟨a, by rw [e x a]; exact b, d⟩⟩
/-- what is collected while the map is ranged over -/
def Cls (F : Int → Int) (left : Int → Bool) (L : List (Int × Int)) : Prop := (L.Pairwise fun p q => p.1 ≠ q.1) ∧ ∀ x c, (x, c) ∈ L ↔ W64 x ∧ F x = c ∧ 0 < c ∧ left x = false
theorem Cls.start {F : Int → Int} {left : Int → Bool} (h : ∀ x, W64 x → F x ≠ 0 → left x = true) : Cls F left [] :=
  ⟨List.Pairwise.nil, fun x c => ⟨fun h => (by cases h), fun ⟨a, b, d, e⟩ => (by rw [h x a (by omega)] at e; cases e)⟩⟩
theorem Cls.yes {F : Int → Int} {left : Int → Bool} {L : List (Int × Int)} {x c : Int} (h : Cls F left L) (hx : W64 x) (hl : left x = true) (hf : F x = c) (hc : 0 < c) : Cls F (fun z => left z && !decide (z = x)) (L ++ [(x, c)]) := by
  obtain ⟨h1, h2⟩ := h
  refine ⟨?_, fun y d => ?_⟩
  · rw [List.pairwise_append]
    refine ⟨h1, by simp, fun p hp q hq => ?_⟩
    obtain rfl : q = (x, c) := by simpa using hq
    intro e
    obtain ⟨_, _, _, g⟩ := (h2 p.1 p.2).1 hp
    rw [show p.1 = x from e, hl] at g; cases g
  · rw [List.mem_append, h2, List.mem_singleton]
    constructor
    · rintro (⟨a, b, d, e⟩ | e)
      · exact ⟨a, b, d, by simp [e]⟩
      · cases e
        exact ⟨hx, hf, hc, by simp⟩
    · rintro ⟨a, b, d, e⟩
      by_cases g : y = x
      · subst g; exact .inr (by rw [← b, hf])
      · exact .inl ⟨a, b, d, by simpa [g] using e⟩
theorem Cls.no {F : Int → Int} {left : Int → Bool} {L : List (Int × Int)} {x c : Int} (h : Cls F left L) (hf : F x = c) (hc : ¬ 0 < c) : Cls F (fun z => left z && !decide (z = x)) L := by
  obtain ⟨h1, h2⟩ := h
  refine ⟨h1, fun y d => ?_⟩
  rw [h2]
  constructor
  · rintro ⟨a, b, d, e⟩
    exact ⟨a, b, d, by simp [e]⟩
  · rintro ⟨a, b, d, e⟩
    by_cases g : y = x
    · subst g; omega
    · exact ⟨a, b, d, by simpa [g] using e⟩
theorem Cls.end {F : Int → Int} {left : Int → Bool} {L M : List (Int × Int)} (h : Cls F left L) (hl : ∀ x, W64 x → left x = false) (hp : M.Perm L) (hs : M.Pairwise fun p q => ¬ q.1 < p.1) : RecL F M := by
  obtain ⟨h1, h2⟩ := h
  have h3 : M.Pairwise fun p q => p.1 ≠ q.1 := (hp.symm.pairwise_iff (fun h e => h e.symm)).1 h1
  refine ⟨(hs.and h3).imp fun h => by omega, fun x c => ?_⟩
  rw [hp.mem_iff, h2]
  exact ⟨fun ⟨a, b, d, _⟩ => ⟨a, b, d⟩, fun ⟨a, b, d⟩ => ⟨a, b, d, hl x a⟩⟩
end Go.Proofs.Ytmljfaplohbjcaa
