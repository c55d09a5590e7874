/- Plain laws: rising lists of numbers: sorted and compacted, and gathered by always taking the least of what is left. No condition. -/
import Derived.Test.YtonnbcongnkcdaaProg
import Derived.Lib.SlicesCompact
namespace Go.Proofs.Ytonnbcongnkcdaa
open Go

theorem inc_unique : ∀ (l m : List Int), l.Pairwise (· < ·) → m.Pairwise (· < ·) → (∀ x, x ∈ l ↔ x ∈ m) → l = m
  | [], m, _, _, h => by
    cases m with
    | nil => rfl
    | cons y m => exact absurd ((h y).2 List.mem_cons_self) (by simp)
  | x :: l, [], _, _, h => absurd ((h x).1 List.mem_cons_self) (by simp)
  | x :: l, y :: m, hl, hm, h => by
    rw [List.pairwise_cons] at hl hm
    have h1 : x = y := by
      rcases List.mem_cons.1 ((h x).1 List.mem_cons_self) with e | e
      · exact e
      · rcases List.mem_cons.1 ((h y).2 List.mem_cons_self) with e2 | e2
        · exact e2.symm
        · have := hl.1 y e2
          have := hm.1 x e
          omega
    subst h1
    rw [inc_unique l m hl.2 hm.2 fun z => ⟨fun hz => ?_, fun hz => ?_⟩]
    · rcases List.mem_cons.1 ((h z).1 (List.mem_cons_of_mem _ hz)) with e | e
      · have := hl.1 z hz
        omega
      · exact e
    · rcases List.mem_cons.1 ((h z).2 (List.mem_cons_of_mem _ hz)) with e | e
      · have := hm.1 z hz
        omega
      · exact e
theorem comp_up (d : Array Int) (hs : ∀ i j, i < j → j < d.size → d[i]! ≤ d[j]!) : ∀ m, m ≤ d.size → (Lib.compactUpTo d m).Pairwise (· < ·) ∧ (∀ x ∈ Lib.compactUpTo d m, ∃ j, j < m ∧ d[j]! = x) ∧ ∀ j, j < m → d[j]! ∈ Lib.compactUpTo d m
  | 0, _ => ⟨by simp [Lib.compactUpTo], by simp [Lib.compactUpTo], fun j hj => by omega⟩
  | m + 1, hm => by
    obtain ⟨h1, h2, h3⟩ := comp_up d hs m (by omega)
    rw [Lib.compactUpTo_succ]
    cases hk : Lib.keeps d m
    · have hd : d[m]! = d[m - 1]! ∧ 0 < m := by simp [Lib.keeps] at hk; omega
      simp only [Bool.false_eq_true, if_false, List.append_nil]
      refine ⟨h1, fun x hx => ?_, fun j hj => ?_⟩
      · obtain ⟨j, hj, e⟩ := h2 x hx
        exact ⟨j, by omega, e⟩
      · by_cases e : j = m
        · subst e; rw [hd.1]; exact h3 _ (by omega)
        · exact h3 j (by omega)
    · simp only [if_true]
      have hd : m = 0 ∨ d[m]! ≠ d[m - 1]! := by simpa [Lib.keeps] using hk
      refine ⟨?_, fun x hx => ?_, fun j hj => ?_⟩
      · rw [List.pairwise_append]
        refine ⟨h1, by simp, fun x hx y hy => ?_⟩
        obtain rfl : y = d[m]! := by simpa using hy
        obtain ⟨j, hj, rfl⟩ := h2 x hx
        have g1 := hs (m - 1) m (by omega) (by omega)
        have g2 : d[j]! ≤ d[m - 1]! := by
          by_cases e : j = m - 1
          · rw [e]; exact Int.le_refl _
          · exact hs j (m - 1) (by omega) (by omega)
        omega
      · rcases List.mem_append.1 hx with hx | hx
        · obtain ⟨j, hj, e⟩ := h2 x hx
          exact ⟨j, by omega, e⟩
        · exact ⟨m, by omega, by simpa using (List.mem_singleton.1 hx).symm⟩
      · by_cases e : j = m
        · subst e; simp
        · exact List.mem_append_left _ (h3 j (by omega))
/-- sorted and compacted -/
def rise (l : List Int) : List Int := Lib.compact (l.mergeSort fun x y => decide (x ≤ y))
theorem rise_spec (l : List Int) : (rise l).Pairwise (· < ·) ∧ ∀ x, x ∈ rise l ↔ x ∈ l := by
  have hp : (l.mergeSort fun x y => decide (x ≤ y)).Pairwise fun x y => decide (x ≤ y) = true := List.pairwise_mergeSort (by intro a b c h1 h2; simp at *; omega) (by intro a b; simp; omega) l
  have hmem : ∀ x, x ∈ (l.mergeSort fun x y => decide (x ≤ y)) ↔ x ∈ l := fun x => List.mem_mergeSort
  unfold rise Lib.compact
  generalize (l.mergeSort fun x y => decide (x ≤ y)) = s at hp hmem
  have hs : ∀ i j, i < j → j < s.toArray.size → s.toArray[i]! ≤ s.toArray[j]! := fun i j hij hj => by
    have hj' : j < s.length := by simpa using hj
    have h1 := List.pairwise_iff_getElem.1 hp i j (by omega) hj' hij
    simp at h1
    simpa [hj', show i < s.length by omega] using h1
  obtain ⟨h1, h2, h3⟩ := comp_up s.toArray hs s.length (by simp)
  refine ⟨h1, fun x => ⟨fun hx => ?_, fun hx => ?_⟩⟩
  · obtain ⟨j, hj, rfl⟩ := h2 x hx
    rw [← hmem]
    simp [hj]
  · rw [← hmem] at hx
    obtain ⟨j, hj, rfl⟩ := List.mem_iff_getElem.1 hx
    have := h3 j hj
    simpa [hj] using this
theorem rise_len (l : List Int) : (rise l).length ≤ l.length := by
  unfold rise Lib.compact Lib.compactUpTo
  rw [List.length_map]
  refine Nat.le_trans (List.length_filter_le _ _) ?_
  simp
theorem rise_unique {l m : List Int} (h1 : m.Pairwise (· < ·)) (h2 : ∀ x, x ∈ m ↔ x ∈ l) : m = rise l :=
  inc_unique m (rise l) h1 (rise_spec l).1 fun x => by rw [h2, (rise_spec l).2]

/-- the least number among the first k that may be taken -/
def lstO (z : Nat → Int) (af : Bool) (x : Int) : Nat → Option Int
  | 0 => none
  | k + 1 => if af = true → x < z k then (match lstO z af x k with | none => some (z k) | some b => if z k < b then some (z k) else some b) else lstO z af x k
theorem lstO_no {z : Nat → Int} {af : Bool} {x : Int} {k : Nat} (h : af = true) (h2 : ¬ x < z k) : lstO z af x (k + 1) = lstO z af x k := by
  rw [lstO]; rw [if_neg (fun g => h2 (g h))]
theorem lstO_first {z : Nat → Int} {af : Bool} {x : Int} {k : Nat} (h : af = true → x < z k) (h2 : lstO z af x k = none) : lstO z af x (k + 1) = some (z k) := by
  rw [lstO, if_pos h, h2]
theorem lstO_less {z : Nat → Int} {af : Bool} {x b : Int} {k : Nat} (h : af = true → x < z k) (h2 : lstO z af x k = some b) (h3 : z k < b) : lstO z af x (k + 1) = some (z k) := by
  rw [lstO, if_pos h, h2]; exact if_pos h3
theorem lstO_more {z : Nat → Int} {af : Bool} {x b : Int} {k : Nat} (h : af = true → x < z k) (h2 : lstO z af x k = some b) (h3 : ¬ z k < b) : lstO z af x (k + 1) = some b := by
  rw [lstO, if_pos h, h2]; exact if_neg h3
theorem lstO_spec (z : Nat → Int) (af : Bool) (x : Int) : ∀ k, (lstO z af x k = none ∧ ∀ i, i < k → ¬ (af = true → x < z i)) ∨ ∃ b, lstO z af x k = some b ∧ (∃ i, i < k ∧ z i = b) ∧ (af = true → x < b) ∧ ∀ i, i < k → (af = true → x < z i) → b ≤ z i
  | 0 => .inl ⟨rfl, fun i hi => by omega⟩
  | k + 1 => by
    by_cases hk : af = true → x < z k
    · rcases lstO_spec z af x k with ⟨h1, h2⟩ | ⟨b, h1, ⟨i, hi, hb⟩, h3, h4⟩
      · refine .inr ⟨z k, lstO_first hk h1, ⟨k, by omega, rfl⟩, hk, fun i hi hx => ?_⟩
        by_cases e : i = k
        · subst e; exact Int.le_refl _
        · exact absurd hx (h2 i (by omega))
      · by_cases hl : z k < b
        · refine .inr ⟨z k, lstO_less hk h1 hl, ⟨k, by omega, rfl⟩, hk, fun j hj hx => ?_⟩
          by_cases e : j = k
          · subst e; exact Int.le_refl _
          · have := h4 j (by omega) hx
            omega
        · refine .inr ⟨b, lstO_more hk h1 hl, ⟨i, by omega, hb⟩, h3, fun j hj hx => ?_⟩
          by_cases e : j = k
          · subst e; omega
          · exact h4 j (by omega) hx
    · have e : lstO z af x (k + 1) = lstO z af x k := by rw [lstO, if_neg hk]
      rw [e]
      rcases lstO_spec z af x k with ⟨h1, h2⟩ | ⟨b, h1, ⟨i, hi, hb⟩, h3, h4⟩
      · refine .inl ⟨h1, fun i hi => ?_⟩
        by_cases e : i = k
        · subst e; exact hk
        · exact h2 i (by omega)
      · refine .inr ⟨b, h1, ⟨i, by omega, hb⟩, h3, fun j hj hx => ?_⟩
        by_cases e : j = k
        · subst e; exact absurd hx hk
        · exact h4 j (by omega) hx
/-- what is gathered so far, and the next one -/
def Gat (z : Nat → Int) (n : Nat) (o : Option Int) (zs : List Int) : Prop :=
  zs.Pairwise (· < ·) ∧ (∀ y ∈ zs, ∃ i, i < n ∧ z i = y) ∧ (o = none → ∀ i, i < n → z i ∈ zs) ∧ ∀ x, o = some x → (∃ i, i < n ∧ z i = x) ∧ (∀ y ∈ zs, y < x) ∧ ∀ i, i < n → z i < x → z i ∈ zs
theorem Gat.start (z : Nat → Int) (n : Nat) : Gat z n (lstO z false 0 n) [] := by
  refine ⟨by simp, by simp, fun h i hi => ?_, fun x hx => ?_⟩
  · rcases lstO_spec z false 0 n with ⟨_, h2⟩ | ⟨b, h1, _⟩
    · exact absurd (fun h => by cases h) (h2 i hi)
    · rw [h] at h1; cases h1
  · rcases lstO_spec z false 0 n with ⟨h1, _⟩ | ⟨b, h1, h2, _, h4⟩
    · rw [hx] at h1; cases h1
    · rw [hx] at h1
      cases h1
      refine ⟨h2, by simp, fun i hi hl => ?_⟩
      have := h4 i hi (fun h => by cases h)
      omega
theorem Gat.step {z : Nat → Int} {n : Nat} {x : Int} {zs : List Int} (h : Gat z n (some x) zs) : Gat z n (lstO z true x n) (zs ++ [x]) := by
  obtain ⟨h1, h2, _, h4⟩ := h
  obtain ⟨h5, h6, h7⟩ := h4 x rfl
  have hin : ∀ i, i < n → z i ≤ x → z i ∈ zs ++ [x] := fun i hi hl => by
    by_cases e : z i = x
    · rw [e]; simp
    · exact List.mem_append_left _ (h7 i hi (by omega))
  refine ⟨?_, fun y hy => ?_, fun ho i hi => ?_, fun b hb => ?_⟩
  · rw [List.pairwise_append]
    exact ⟨h1, by simp, fun y hy u hu => by obtain rfl : u = x := by simpa using hu
                                            exact h6 y hy⟩
  · rcases List.mem_append.1 hy with hy | hy
    · exact h2 y hy
    · obtain rfl : y = x := by simpa using hy
      exact h5
  · rcases lstO_spec z true x n with ⟨_, g2⟩ | ⟨b, g1, _⟩
    · refine hin i hi ?_
      have := g2 i hi
      simp at this
      omega
    · rw [ho] at g1; cases g1
  · rcases lstO_spec z true x n with ⟨g1, _⟩ | ⟨b', g1, g2, g3, g4⟩
    · rw [hb] at g1; cases g1
    · rw [hb] at g1
      cases g1
      have hxb := g3 rfl
      refine ⟨g2, fun y hy => ?_, fun i hi hl => ?_⟩
      · rcases List.mem_append.1 hy with hy | hy
        · have := h6 y hy
          omega
        · obtain rfl : y = x := by simpa using hy
          exact hxb
      · by_cases e : x < z i
        · have := g4 i hi (fun _ => e)
          omega
        · exact hin i hi (by omega)
/-- how many are not below x -/
def cge (z : Nat → Int) (n : Nat) (x : Int) : Nat := ((List.range n).filter fun i => decide (x ≤ z i)).length
theorem filter_lt {p q : Nat → Bool} : ∀ l : List Nat, (∀ i ∈ l, q i = true → p i = true) → (∃ i ∈ l, p i = true ∧ q i = false) → (l.filter q).length < (l.filter p).length
  | [], _, h => by obtain ⟨i, hi, _⟩ := h; cases hi
  | a :: l, h1, h2 => by
    have hle : ∀ l : List Nat, (∀ i ∈ l, q i = true → p i = true) → (l.filter q).length ≤ (l.filter p).length := by
      intro l
      induction l with
      | nil => intro _; exact Nat.le_refl _
      | cons b l ih =>
        intro h
        have := ih fun i hi => h i (List.mem_cons_of_mem _ hi)
        have hb := h b List.mem_cons_self
        cases hq : q b
        · cases hp : p b <;> simp [hq, hp] <;> omega
        · simp [hq, hb hq]; omega
    obtain ⟨i, hi, hp, hq⟩ := h2
    have h3 : ∀ i ∈ l, q i = true → p i = true := fun i hi => h1 i (List.mem_cons_of_mem _ hi)
    rcases List.mem_cons.1 hi with rfl | hi
    · have := hle l h3
      simp [hp, hq]
      omega
    · have := filter_lt l h3 ⟨i, hi, hp, hq⟩
      have hb := h1 a List.mem_cons_self
      cases hqa : q a
      · cases hpa : p a <;> simp [hqa, hpa] <;> omega
      · simp [hqa, hb hqa]; omega
theorem cge_lt {z : Nat → Int} {n : Nat} {x y : Int} (hx : ∃ i, i < n ∧ z i = x) (hy : x < y) : cge z n y < cge z n x := by
  obtain ⟨i, hi, e⟩ := hx
  refine filter_lt _ (fun j _ h => ?_) ⟨i, List.mem_range.2 hi, by simp [e], by simp [e]; omega⟩
  simp at h ⊢
  omega
theorem cge_pos {z : Nat → Int} {n : Nat} {x : Int} (hx : ∃ i, i < n ∧ z i = x) : 0 < cge z n x := by
  have := cge_lt hx (show x < x + 1 by omega)
  omega
theorem Gat.end {z : Nat → Int} {n : Nat} {zs l : List Int} (h : Gat z n none zs) (hl : ∀ x, x ∈ l ↔ ∃ i, i < n ∧ z i = x) : zs = rise l := by
  obtain ⟨h1, h2, h3, _⟩ := h
  refine rise_unique h1 fun x => ?_
  rw [hl]
  refine ⟨h2 x, fun ⟨i, hi, e⟩ => ?_⟩
  rw [← e]; exact h3 rfl i hi
theorem gat_len {z : Nat → Int} {n : Nat} {o : Option Int} {zs : List Int} (h : Gat z n o zs) : zs.length ≤ n := by
  have h2 : zs = rise ((List.range n).map z |>.filter fun x => decide (x ∈ zs)) := by
    refine rise_unique h.1 fun x => ?_
    rw [List.mem_filter, List.mem_map]
    refine ⟨fun hx => ⟨?_, by simpa using hx⟩, fun hx => by simpa using hx.2⟩
    obtain ⟨i, hi, e⟩ := h.2.1 x hx
    exact ⟨i, List.mem_range.2 hi, e⟩
  rw [h2]
  refine Nat.le_trans (rise_len _) (Nat.le_trans (List.length_filter_le _ _) (by simp))
end Go.Proofs.Ytonnbcongnkcdaa
