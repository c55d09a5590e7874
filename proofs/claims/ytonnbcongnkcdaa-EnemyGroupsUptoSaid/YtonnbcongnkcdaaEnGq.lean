/- Plain: labels that fall along the pairs, and the groups read off them. -/
import Derived.Test.YtonnbcongnkcdaaEnO
namespace Go.Proofs.Ytonnbcongnkcdaa
open Go.RowKit

/-- the labels as a list of numbers -/
def labL (n : Nat) (lab : Nat → Nat) : List Int := (List.range n).map fun i => (lab i : Int)
theorem labL_len (n : Nat) (lab : Nat → Nat) : (labL n lab).length = n := by simp [labL]
theorem labL_get {n : Nat} {lab : Nat → Nat} {i : Nat} (h : i < n) : (labL n lab).getD i 0 = (lab i : Int) := by simp [labL, List.getD, h]
def upN (f : Nat → Nat) (a m : Nat) : Nat → Nat := fun i => if i = a then m else f i
theorem labL_set {n : Nat} {lab : Nat → Nat} {a m : Nat} : (labL n lab).set a (m : Int) = labL n (upN lab a m) := by
  apply List.ext_getElem
  · simp [labL]
  · intro i h1 h2
    unfold upN
    by_cases e : i = a
    · subst e; simp [labL]
    · rw [List.getElem_set_ne (fun h => e h.symm)]; simp [labL, e]
theorem labL_id (n k : Nat) (hk : k ≤ n) (lab : Nat → Nat) (h : ∀ i, i < k → lab i = i) (hn : k = n) : labL n lab = labL n id := by
  subst hn
  unfold labL
  refine List.map_congr_left fun i hi => ?_
  rw [h i (List.mem_range.1 hi)]; rfl
def sumN (n : Nat) (lab : Nat → Nat) : Nat := ((List.range n).map lab).sum
theorem sumN_succ (n : Nat) (lab : Nat → Nat) : sumN (n + 1) lab = sumN n lab + lab n := by
  unfold sumN
  rw [List.range_succ, List.map_append, List.sum_append]
  simp
theorem sumN_le (n : Nat) {f g : Nat → Nat} (h : ∀ i, i < n → f i ≤ g i) : sumN n f ≤ sumN n g := by
  induction n with
  | zero => exact Nat.le_refl _
  | succ n ih =>
    rw [sumN_succ, sumN_succ]
    have := ih fun i hi => h i (by omega)
    have := h n (by omega)
    omega
theorem sumN_lt (n : Nat) {f g : Nat → Nat} (h : ∀ i, i < n → f i ≤ g i) {a : Nat} (ha : a < n) (hl : f a < g a) : sumN n f < sumN n g := by
  induction n with
  | zero => omega
  | succ n ih =>
    rw [sumN_succ, sumN_succ]
    by_cases e : a = n
    · subst e
      have := sumN_le a (f := f) (g := g) fun i hi => h i (by omega)
      omega
    · have := ih (fun i hi => h i (by omega)) (by omega)
      have := h n (by omega)
      omega
/-- the labels point down, along the pairs -/
def LabI (D : List Int) (E : List (Int × Int)) (lab : Nat → Nat) : Prop := (∀ i, i < D.length → lab i ≤ i) ∧ ∀ i, i < D.length → Rch E D[i]! D[lab i]!
theorem LabI.start (D : List Int) (E : List (Int × Int)) : LabI D E id := ⟨fun _ _ => Nat.le_refl _, fun _ _ => .refl _⟩
theorem LabI.step {D : List Int} {E : List (Int × Int)} {lab : Nat → Nat} (h : LabI D E lab) {a b m : Nat} (ha : a < D.length) (hb : b < D.length) (he : (D[a]!, D[b]!) ∈ E) (hm : min (lab a) (lab b) = m) : LabI D E (upN (upN lab a m) b m) := by
  have hab : Rch E D[a]! D[b]! := .step (.refl _) (.inl he)
  have hma : Rch E D[a]! D[m]! := by
    rcases Nat.le_total (lab a) (lab b) with c | c
    · rw [← hm, Nat.min_eq_left c]; exact h.2 a ha
    · rw [← hm, Nat.min_eq_right c]; exact hab.trans (h.2 b hb)
  have h1 := h.1 a ha
  have h2 := h.1 b hb
  have hm2 : m ≤ lab a ∧ m ≤ lab b := by omega
  refine ⟨fun i hi => ?_, fun i hi => ?_⟩
  · unfold upN
    split
    · rename_i e; subst e; omega
    · split
      · rename_i e; subst e; omega
      · exact h.1 i hi
  · unfold upN
    split
    · rename_i e; subst e; exact hab.symm.trans hma
    · split
      · rename_i e; subst e; exact hma
      · exact h.2 i hi
theorem up_sum {n : Nat} {lab : Nat → Nat} {a b m : Nat} (ha : a < n) (hb : b < n) (hne : lab a ≠ lab b) (hm : min (lab a) (lab b) = m) : sumN n (upN (upN lab a m) b m) < sumN n lab := by
  have hle : ∀ i, i < n → upN (upN lab a m) b m i ≤ lab i := fun i _ => by
    unfold upN
    split
    · rename_i e; subst e; omega
    · split
      · rename_i e; subst e; omega
      · exact Nat.le_refl _
  rcases Nat.lt_or_gt_of_ne hne with c | c
  · exact sumN_lt n hle hb (by unfold upN; rw [if_pos rfl]; omega)
  · refine sumN_lt n hle ha ?_
    unfold upN
    split
    · rename_i e; subst e; omega
    · rw [if_pos rfl]; omega
theorem idxR_get {D : List Int} {x : Int} (h : x ∈ D) : idxR D x < D.length ∧ D[idxR D x]! = x := by
  have ha : D.any (fun y => y == x) = true := List.any_eq_true.2 ⟨x, h, by simp⟩
  unfold idxR
  rw [if_pos ha]
  have hl : D.findIdx (fun y => y == x) < D.length := List.findIdx_lt_length_of_exists ⟨x, h, by simp⟩
  refine ⟨hl, ?_⟩
  have := List.findIdx_getElem (xs := D) (p := fun y => y == x) (w := hl)
  rw [getElem!_pos D _ hl]
  simpa using this
theorem idxR_self {D : List Int} (hD : D.Pairwise (fun a b => a < b)) {i : Nat} (hi : i < D.length) : idxR D D[i]! = i := by
  have hm : D[i]! ∈ D := by rw [getElem!_pos D i hi]; exact List.getElem_mem hi
  obtain ⟨h1, h2⟩ := idxR_get hm
  rcases Nat.lt_trichotomy (idxR D D[i]!) i with c | c | c
  · have := mono_at hD c hi; rw [h2] at this; omega
  · exact c
  · have := mono_at hD c h1; rw [h2] at this; omega
theorem LabI.end {D : List Int} {E : List (Int × Int)} {lab : Nat → Nat} (hD : D.Pairwise (fun a b => a < b)) (hin : ∀ p ∈ E, p.1 ∈ D ∧ p.2 ∈ D) (h : LabI D E lab) (hr : ∀ p ∈ E, lab (idxR D p.1) = lab (idxR D p.2)) : IsGroups D (Rch E) (grpsR D lab) :=
  grpsR_is hD h.1 h.2 fun i j hi hj hij => lab_rch hD (fun y z hyz => hin (y, z) hyz) (fun i j hi hj he => by have := hr _ he; rw [idxR_self hD hi, idxR_self hD hj] at this; exact this) hi hj hij
/-- the group of i, out of the first k -/
def gpart (D : List Int) (lab : Nat → Nat) (i k : Nat) : List Int := ((List.range k).filter fun k => decide (lab k = i)).map fun k => D[k]!
theorem gpart_succ (D : List Int) (lab : Nat → Nat) (i k : Nat) : gpart D lab i (k + 1) = if lab k = i then gpart D lab i k ++ [D[k]!] else gpart D lab i k := by
  unfold gpart
  rw [List.range_succ, List.filter_append, List.map_append]
  by_cases c : lab k = i
  · simp [c]
  · simp [c]
theorem gpart_len (D : List Int) (lab : Nat → Nat) (i k : Nat) : (gpart D lab i k).length ≤ k := by
  unfold gpart
  rw [List.length_map]
  exact Nat.le_trans (List.length_filter_le _ _) (by simp)
def gsp (D : List Int) (lab : Nat → Nat) (i : Nat) : List (List Int) := ((List.range i).filter fun i => decide (lab i = i)).map fun i => grpR D lab i
theorem gsp_succ (D : List Int) (lab : Nat → Nat) (i : Nat) : gsp D lab (i + 1) = if lab i = i then gsp D lab i ++ [grpR D lab i] else gsp D lab i := by
  unfold gsp
  rw [List.range_succ, List.filter_append, List.map_append]
  by_cases c : lab i = i
  · simp [c]
  · simp [c]
theorem gsp_len (D : List Int) (lab : Nat → Nat) (i : Nat) : (gsp D lab i).length ≤ i := by
  unfold gsp
  rw [List.length_map]
  exact Nat.le_trans (List.length_filter_le _ _) (by simp)
theorem getD_bang {D : List Int} {k : Nat} (h : k < D.length) : D.getD k 0 = D[k]! := by rw [getD_lt1 h, getElem!_pos D k h]

end Go.Proofs.Ytonnbcongnkcdaa
