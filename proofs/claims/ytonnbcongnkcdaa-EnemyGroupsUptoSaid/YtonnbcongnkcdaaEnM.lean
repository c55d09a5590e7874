/- Plain: the reference's Distinct (sorted, each number once). -/
import Derived.Test.YtonnbcongnkcdaaEnL
namespace Go.Proofs.Ytonnbcongnkcdaa
open Go.RowKit

/-- a number put into a sorted list -/
def insZ : List Int → Int → List Int
  | [], x => [x]
  | a :: l, x => if a < x then a :: insZ l x else x :: a :: l
theorem insZ_spec {x : Int} : ∀ {l : List Int}, l.Pairwise (fun a b => a < b) → x ∉ l → (insZ l x).Pairwise (fun a b => a < b) ∧ ∀ y, y ∈ insZ l x ↔ y = x ∨ y ∈ l
  | [], _, _ => ⟨by simp [insZ], by simp [insZ]⟩
  | a :: l, h, hx => by
    have h1 := List.pairwise_cons.1 h
    have hn : x ≠ a := fun e => hx (by rw [e]; exact List.mem_cons_self)
    have hl : x ∉ l := fun e => hx (List.mem_cons_of_mem _ e)
    unfold insZ
    by_cases c : a < x
    · rw [if_pos c]
      obtain ⟨i1, i2⟩ := insZ_spec h1.2 hl
      refine ⟨List.pairwise_cons.2 ⟨fun y hy => ?_, i1⟩, fun y => ?_⟩
      · rcases (i2 y).1 hy with rfl | hy
        · exact c
        · exact h1.1 y hy
      · rw [List.mem_cons, i2, List.mem_cons]; exact or_left_comm
    · rw [if_neg c]
      refine ⟨List.pairwise_cons.2 ⟨fun y hy => ?_, h⟩, fun y => by rw [List.mem_cons]⟩
      rcases List.mem_cons.1 hy with rfl | hy
      · omega
      · have := h1.1 y hy; omega
theorem insZ_at {x : Int} : ∀ {l : List Int} {k : Nat}, k ≤ l.length → (∀ j (h : j < l.length), j < k → l[j] < x) → (∀ h : k < l.length, ¬ l[k] < x) → insZ l x = l.take k ++ x :: l.drop k
  | [], k, hk, _, _ => by simp [insZ]
  | a :: l, 0, _, _, h2 => by
    have := h2 (by simp)
    simp only [List.getElem_cons_zero] at this
    unfold insZ
    rw [if_neg this]; rfl
  | a :: l, k + 1, hk, h1, h2 => by
    have ha := h1 0 (by simp) (by omega)
    simp only [List.getElem_cons_zero] at ha
    unfold insZ
    rw [if_pos ha, insZ_at (l := l) (k := k) (by simpa using hk) (fun j hj hjk => by have h := h1 (j + 1) (by simpa using hj) (by omega); rw [List.getElem_cons_succ] at h; exact h) (fun h => by have h := h2 (by simpa using h); rw [List.getElem_cons_succ] at h; exact h)]
    rfl
def distR (zs : List Int) : List Int := zs.foldl (fun o x => if o.any (fun y => y == x) = true then o else insZ o x) []
theorem distR_snoc (zs : List Int) (x : Int) : distR (zs ++ [x]) = if (distR zs).any (fun y => y == x) = true then distR zs else insZ (distR zs) x := by simp [distR, List.foldl_append]
theorem distR_take (zs : List Int) : ∀ k, k ≤ zs.length → (distR (zs.take k)).Pairwise (fun a b => a < b) ∧ ∀ y, y ∈ distR (zs.take k) ↔ y ∈ zs.take k
  | 0, _ => by simp [distR]
  | k + 1, hk => by
    obtain ⟨i1, i2⟩ := distR_take zs k (by omega)
    rw [take_snoc (show k < zs.length by omega), distR_snoc]
    by_cases c : (distR (zs.take k)).any (fun y => y == zs[k]) = true
    · rw [if_pos c]
      refine ⟨i1, fun y => ?_⟩
      obtain ⟨z, hz, e⟩ := List.any_eq_true.1 c
      have e : z = zs[k] := by simpa using e
      rw [List.mem_append, List.mem_singleton, ← i2]
      exact ⟨.inl, fun h => h.elim id fun h => by rw [h, ← e]; exact hz⟩
    · rw [if_neg c]
      have hn : zs[k] ∉ distR (zs.take k) := fun h => c (List.any_eq_true.2 ⟨_, h, by simp⟩)
      obtain ⟨j1, j2⟩ := insZ_spec i1 hn
      refine ⟨j1, fun y => ?_⟩
      rw [j2, i2, List.mem_append, List.mem_singleton]
      exact Or.comm
theorem distR_spec (zs : List Int) : (distR zs).Pairwise (fun a b => a < b) ∧ ∀ y, y ∈ distR zs ↔ y ∈ zs := by
  have h := distR_take zs zs.length (Nat.le_refl _)
  rw [List.take_length] at h
  exact h
/-- lists with the same unordered pairs have the same normal form (for Families) -/
theorem normR_congr {L M : List (Int × Int)} (h : ∀ p : Int × Int, (∃ q ∈ L, q.1 ≠ q.2 ∧ ordP q.1 q.2 = p) ↔ ∃ q ∈ M, q.1 ≠ q.2 ∧ ordP q.1 q.2 = p) : normR L = normR M :=
  (normR_is L).unique ⟨(normR_is M).1, fun p => ((normR_is M).2 p).trans (h p).symm⟩
/-- a sorted list with each number once is the reference's Distinct -/
theorem distR_unique {zs N : List Int} (h1 : N.Pairwise (fun a b => a < b)) (h2 : ∀ y, y ∈ N ↔ y ∈ zs) : N = distR zs := by
  obtain ⟨d1, d2⟩ := distR_spec zs
  have hp : N.Perm (distR zs) := (List.perm_ext_iff_of_nodup (h1.imp fun h => by omega) (d1.imp fun h => by omega)).2 fun y => by rw [h2, d2]
  exact hp.eq_of_pairwise (fun a b _ _ h k => by omega) h1 d1

end Go.Proofs.Ytonnbcongnkcdaa
