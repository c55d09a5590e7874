/- Plain: groups are disjoint, hold each item once, and together all the conflicts. -/
import Derived.Test.YtonnbcongnkcdaaLawNm
namespace Go.Proofs.Ytonnbcongnkcdaa
open Go.RowKit

theorem IsGroups.disj {D : List Int} {R : Int → Int → Prop} {G : List (List Int)} (h : IsGroups D R G) {i j : Nat} (hi : i < G.length) (hj : j < G.length) {x : Int} (hx : x ∈ G[i]) (hy : x ∈ G[j]) : i = j := by
  have he : G[i] = G[j] := strict_ext (h.1 _ (List.getElem_mem hi)).1 (h.1 _ (List.getElem_mem hj)).1 fun y => (h.2.1 _ (List.getElem_mem hi) x hx y).trans (h.2.1 _ (List.getElem_mem hj) x hy y).symm
  rcases Nat.lt_trichotomy i j with c | c | c
  · have := List.pairwise_iff_getElem.1 h.2.2.1 i j hi hj c; rw [he] at this; omega
  · exact c
  · have := List.pairwise_iff_getElem.1 h.2.2.1 j i hj hi c; rw [he] at this; omega
theorem IsGroups.nodup {D : List Int} {R : Int → Int → Prop} {G : List (List Int)} (h : IsGroups D R G) : G.flatten.Nodup := by
  unfold List.Nodup
  rw [List.pairwise_flatten]
  refine ⟨fun g hg => (h.1 g hg).1.imp fun h => by omega, ?_⟩
  rw [List.pairwise_iff_getElem]
  intro i j hi hj hij x hx y hy e
  subst e
  have := h.disj hi hj hx hy; omega
theorem IsGroups.flat {D : List Int} {R : Int → Int → Prop} {G : List (List Int)} (_hR : ∀ x, R x x) (h : IsGroups D R G) (x : Int) : x ∈ G.flatten ↔ x ∈ D := by
  rw [List.mem_flatten]
  exact ⟨fun ⟨g, hg, hx⟩ => ((h.2.1 g hg x hx x).1 hx).1, fun hx => h.2.2.2 x hx⟩
theorem sum_none : ∀ {l : List Nat}, (∀ y ∈ l, y = 0) → l.sum = 0
  | [], _ => rfl
  | a :: l, h => by rw [List.sum_cons, h a List.mem_cons_self, sum_none fun y hy => h y (List.mem_cons_of_mem _ hy)]
def sumL (f : List Int → Nat) (G : List (List Int)) : Nat := (G.map f).sum
theorem sumL_snoc (f : List Int → Nat) (G : List (List Int)) (k : Nat) (h : k < G.length) : sumL f (G.take (k + 1)) = sumL f (G.take k) + f G[k] := by
  unfold sumL
  rw [List.take_succ_eq_append_getElem h, List.map_append, List.sum_append, List.map_cons, List.map_nil, List.sum_cons, List.sum_nil]
  rfl
theorem sumL_mono (f : List Int → Nat) (G : List (List Int)) : ∀ k, sumL f (G.take k) ≤ sumL f G := by
  intro k
  unfold sumL
  have h1 : (G.map f).sum = ((G.take k).map f).sum + ((G.drop k).map f).sum := by rw [← List.sum_append, ← List.map_append, List.take_append_drop]
  omega
theorem sumL_len (G : List (List Int)) : sumL List.length G = G.flatten.length := by
  unfold sumL; rw [List.length_flatten]
theorem IsGroups.items {D : List Int} {R : Int → Int → Prop} {G : List (List Int)} (hR : ∀ x, R x x) (hD : D.Pairwise (fun a b => a < b)) (h : IsGroups D R G) : sumL List.length G = D.length := by
  rw [sumL_len]
  exact ((List.perm_ext_iff_of_nodup h.nodup (hD.imp fun h => by omega)).2 fun x => h.flat hR x).length_eq
/-- how many of the groups hold both numbers of a pair -/
def hld (G : List (List Int)) (p : Int × Int) : Nat := (G.map fun g => if (inL g p.1 && inL g p.2) = true then 1 else 0).sum
theorem sumL_cfl (N : List (Int × Int)) (G : List (List Int)) : sumL (fun g => (cfl N g).length) G = (N.map (hld G)).sum := by
  induction G with
  | nil =>
    unfold sumL
    rw [sum_none (l := N.map (hld []))]
    · rfl
    · intro y hy
      obtain ⟨p, _, rfl⟩ := List.mem_map.1 hy
      rfl
  | cons g G ih =>
    have e : ∀ M : List (Int × Int), (M.map (hld (g :: G))).sum = (cfl M g).length + (M.map (hld G)).sum := by
      intro M
      induction M with
      | nil => simp [cfl]
      | cons p M ihM =>
        have h1 : hld (g :: G) p = (if (inL g p.1 && inL g p.2) = true then 1 else 0) + hld G p := by unfold hld; simp
        rw [List.map_cons, List.sum_cons, ihM, h1, List.map_cons, List.sum_cons]
        unfold cfl
        rw [List.filter_cons]
        by_cases c : (inL g p.1 && inL g p.2) = true
        · rw [if_pos c, if_pos c, List.length_cons]; omega
        · rw [if_neg c, if_neg c]; omega
    rw [e]
    unfold sumL at ih ⊢
    rw [List.map_cons, List.sum_cons, ih]
theorem sum_if {α : Type} (f : α → Nat) (c : α → Bool) : ∀ l : List α, (∀ x ∈ l, f x = if c x = true then 1 else 0) → (l.map f).sum = (l.filter c).length
  | [], _ => rfl
  | a :: l, h => by
    have ih := sum_if f c l fun x hx => h x (List.mem_cons_of_mem _ hx)
    rw [List.map_cons, List.sum_cons, ih, h a List.mem_cons_self, List.filter_cons]
    by_cases e : c a = true
    · rw [if_pos e, if_pos e, List.length_cons]; omega
    · rw [if_neg e, if_neg e]; omega
theorem hld_one {D : List Int} {E : List (Int × Int)} {G : List (List Int)} (h : IsGroups D (Rch E) G) {p : Int × Int} (h1 : p.1 ∈ D) (hr : Rch E p.1 p.2) (h2 : p.2 ∈ D) : hld G p = 1 := by
  obtain ⟨g, hg, hx⟩ := h.2.2.2 p.1 h1
  obtain ⟨i, hi, e⟩ := List.getElem_of_mem hg
  have hy : p.2 ∈ g := (h.2.1 g hg p.1 hx p.2).2 ⟨h2, hr⟩
  have key : ∀ (K : List (List Int)) (i : Nat) (hi : i < K.length), p.1 ∈ K[i] → p.2 ∈ K[i] → (∀ j (hj : j < K.length), p.1 ∈ K[j] → j = i) → hld K p = 1 := by
    intro K
    induction K with
    | nil => intro i hi; simp at hi
    | cons a K ih =>
      intro i hi ha hb hu
      have h0 : hld (a :: K) p = (if (inL a p.1 && inL a p.2) = true then 1 else 0) + hld K p := by unfold hld; simp
      rw [h0]
      cases i with
      | zero =>
        have e0 : (inL a p.1 && inL a p.2) = true := by rw [Bool.and_eq_true, inL_iff, inL_iff]; exact ⟨ha, hb⟩
        have e1 : hld K p = 0 := by
          unfold hld
          rw [sum_none]
          intro y hy
          obtain ⟨g', hg', rfl⟩ := List.mem_map.1 hy
          rw [if_neg]
          intro hc
          rw [Bool.and_eq_true, inL_iff] at hc
          obtain ⟨j, hj, e⟩ := List.getElem_of_mem hg'
          have := hu (j + 1) (by simpa using hj) (by rw [List.getElem_cons_succ, e]; exact hc.1)
          omega
        rw [if_pos e0, e1]
      | succ i =>
        have e0 : ¬ (inL a p.1 && inL a p.2) = true := fun hc => by
          rw [Bool.and_eq_true, inL_iff] at hc
          have := hu 0 (by simp) hc.1
          omega
        rw [if_neg e0, Nat.zero_add]
        exact ih i (by simpa using hi) ha hb (fun j hj hx => by have := hu (j + 1) (by simpa using hj) hx; omega)
  exact key G i hi (by rw [e]; exact hx) (by rw [e]; exact hy) (fun j hj hxj => (h.disj hj hi hxj (by rw [e]; exact hx)))
theorem IsGroups.within {ids : List Int} {N : List (Int × Int)} {G : List (List Int)} (h : IsGroups (distR ids) (Rch (cfl N ids)) G) : sumL (fun g => (cfl N g).length) G = (cfl N ids).length := by
  rw [sumL_cfl]
  have hm : ∀ x, x ∈ distR ids ↔ x ∈ ids := (distR_spec ids).2
  unfold cfl
  refine sum_if _ _ N fun p hp => ?_
  by_cases c : (inL ids p.1 && inL ids p.2) = true
  · rw [if_pos c]
    have hE : p ∈ cfl N ids := by unfold cfl; exact List.mem_filter.2 ⟨hp, c⟩
    rw [Bool.and_eq_true, inL_iff, inL_iff] at c
    exact hld_one h ((hm _).2 c.1) (.step (.refl _) (.inl hE)) ((hm _).2 c.2)
  · rw [if_neg c]
    unfold hld
    rw [sum_none]
    intro y hy
    obtain ⟨g, hg, rfl⟩ := List.mem_map.1 hy
    rw [if_neg]
    intro hc
    rw [Bool.and_eq_true, inL_iff, inL_iff] at hc
    have h1 := ((h.2.1 g hg p.1 hc.1 p.1).1 hc.1).1
    have h2 := ((h.2.1 g hg p.2 hc.2 p.2).1 hc.2).1
    exact c (by rw [Bool.and_eq_true, inL_iff, inL_iff]; exact ⟨(hm _).1 h1, (hm _).1 h2⟩)
theorem IsGroups.apart {ids : List Int} {L : List (Int × Int)} {G : List (List Int)} (h : IsGroups (distR ids) (Rch (cfl (normR L) ids)) G) {i k : Nat} (hi : i < G.length) (hk : k < G.length) (hne : k ≠ i) : ∀ x ∈ G[i], ∀ y ∈ G[k], x ≠ y ∧ areP L x y = false := by
  intro x hx y hy
  have hm : ∀ x, x ∈ distR ids ↔ x ∈ ids := (distR_spec ids).2
  have hxy : x ≠ y := fun e => hne (h.disj hk hi (by rw [e]; exact hy) hx)
  refine ⟨hxy, ?_⟩
  cases hc : areP L x y with
  | false => rfl
  | true =>
    exfalso
    rw [← areP_norm] at hc
    obtain ⟨_, p, hp, e⟩ := areP_iff.1 hc
    have hxd := ((h.2.1 _ (List.getElem_mem hi) x hx x).1 hx).1
    have hyd := ((h.2.1 _ (List.getElem_mem hk) y hy y).1 hy).1
    have hE : ∀ a b, (a, b) ∈ normR L → (a = x ∧ b = y) ∨ (a = y ∧ b = x) → (a, b) ∈ cfl (normR L) ids := fun a b hab hh => by
      unfold cfl
      refine List.mem_filter.2 ⟨hab, ?_⟩
      rw [Bool.and_eq_true, inL_iff, inL_iff]
      rcases hh with ⟨rfl, rfl⟩ | ⟨rfl, rfl⟩
      · exact ⟨(hm _).1 hxd, (hm _).1 hyd⟩
      · exact ⟨(hm _).1 hyd, (hm _).1 hxd⟩
    obtain ⟨p1, p2⟩ := p
    have hr : Rch (cfl (normR L) ids) x y := by
      rcases ordP_eq.1 e with ⟨e1, e2⟩ | ⟨e1, e2⟩
      · simp only at e1 e2; subst e1 e2
        exact .step (.refl _) (.inl (hE _ _ hp (.inl ⟨rfl, rfl⟩)))
      · simp only at e1 e2; subst e1 e2
        exact .step (.refl _) (.inr (hE _ _ hp (.inr ⟨rfl, rfl⟩)))
    have hyi := (h.2.1 _ (List.getElem_mem hi) x hx y).2 ⟨hyd, hr⟩
    exact hne (h.disj hk hi hy hyi)
theorem cfl_sub {N : List (Int × Int)} {ids S : List Int} (hs : ∀ y ∈ S, y ∈ ids) (h : cfl N ids = []) : cfl N S = [] := by
  unfold cfl at *
  rw [List.filter_eq_nil_iff] at *
  intro p hp hc
  rw [Bool.and_eq_true, inL_iff, inL_iff] at hc
  exact h p hp (by rw [Bool.and_eq_true, inL_iff, inL_iff]; exact ⟨hs _ hc.1, hs _ hc.2⟩)

end Go.Proofs.Ytonnbcongnkcdaa
