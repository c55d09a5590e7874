/- Plain laws of relations of enemies: the normal form, by sorting and compacting, and by putting pair after pair into its place. No condition. -/
import Derived.Test.YtonnbcongnkcdaaProg
import Derived.Lib.SlicesCompact
namespace Go.Proofs.Ytonnbcongnkcdaa
open Go

def lxL (p q : Int × Int) : Prop := p.1 < q.1 ∨ (p.1 = q.1 ∧ p.2 < q.2)
def lxB (p q : Int × Int) : Bool := decide (p.1 < q.1) || (decide (p.1 = q.1) && decide (p.2 < q.2))
theorem lxB_iff {p q : Int × Int} : lxB p q = true ↔ lxL p q := by simp [lxB, lxL]
theorem lxL.irrefl (p : Int × Int) : ¬ lxL p p := by unfold lxL; omega
theorem lxL.trans {p q r : Int × Int} (h : lxL p q) (k : lxL q r) : lxL p r := by unfold lxL at *; omega
theorem lxL.tot {p q : Int × Int} (h : ¬ lxL p q) (hne : p ≠ q) : lxL q p := by
  have : ¬ (p.1 = q.1 ∧ p.2 = q.2) := fun h => hne (Prod.ext h.1 h.2)
  unfold lxL at *; omega
theorem lx_unique : ∀ (l m : List (Int × Int)), l.Pairwise lxL → m.Pairwise lxL → (∀ x, x ∈ l ↔ x ∈ m) → l = m
  | [], m, _, _, h => by
    cases m with
    | nil => rfl
    | cons y m => exact absurd ((h y).2 List.mem_cons_self) (by simp)
  | x :: l, [], _, _, h => absurd ((h x).1 List.mem_cons_self) (by simp)
  | x :: l, y :: m, hl, hm, h => by
    rw [List.pairwise_cons] at hl hm
    have h1 : x = y := by
      rcases List.mem_cons.1 ((h x).1 List.mem_cons_self) with e | e
      · exact e
      · rcases List.mem_cons.1 ((h y).2 List.mem_cons_self) with e2 | e2
        · exact e2.symm
        · exact absurd ((hl.1 y e2).trans (hm.1 x e)) (lxL.irrefl x)
    subst h1
    rw [lx_unique l m hl.2 hm.2 fun z => ⟨fun hz => ?_, fun hz => ?_⟩]
    · rcases List.mem_cons.1 ((h z).1 (List.mem_cons_of_mem _ hz)) with e | e
      · subst e; exact absurd (hl.1 z hz) (lxL.irrefl z)
      · exact e
    · rcases List.mem_cons.1 ((h z).2 (List.mem_cons_of_mem _ hz)) with e | e
      · subst e; exact absurd (hm.1 z hz) (lxL.irrefl z)
      · exact e
/-- the pair with the smaller number first -/
def ordP (a b : Int) : Int × Int := (min a b, max a b)
theorem ordP_comm (a b : Int) : ordP a b = ordP b a := by unfold ordP; rw [Int.min_comm, Int.max_comm]
theorem ordP_ne {a b : Int} (h : a ≠ b) : (ordP a b).1 < (ordP a b).2 := by unfold ordP; simp only; omega
theorem ordP_eq {a b c d : Int} : ordP a b = ordP c d ↔ (a = c ∧ b = d) ∨ (a = d ∧ b = c) := by
  unfold ordP
  rw [Prod.mk.injEq]
  omega
/-- N is the normal form of the relation L -/
def IsNorm (L N : List (Int × Int)) : Prop := N.Pairwise lxL ∧ ∀ p, p ∈ N ↔ ∃ q ∈ L, q.1 ≠ q.2 ∧ ordP q.1 q.2 = p
theorem IsNorm.unique {L N M : List (Int × Int)} (h : IsNorm L N) (k : IsNorm L M) : N = M := lx_unique N M h.1 k.1 fun p => by rw [h.2, k.2]
/-- the pairs of different items, each with the smaller number first -/
def rawN (L : List (Int × Int)) : List (Int × Int) := (L.filter fun p => decide (p.1 ≠ p.2)).map fun p => ordP p.1 p.2
theorem rawN_mem {L : List (Int × Int)} {p : Int × Int} : p ∈ rawN L ↔ ∃ q ∈ L, q.1 ≠ q.2 ∧ ordP q.1 q.2 = p := by
  unfold rawN
  rw [List.mem_map]
  exact ⟨fun ⟨q, hq, e⟩ => by rw [List.mem_filter] at hq; exact ⟨q, hq.1, by simpa using hq.2, e⟩, fun ⟨q, hq, hne, e⟩ => ⟨q, by rw [List.mem_filter]; exact ⟨hq, by simpa using hne⟩, e⟩⟩
/-- compacting a list sorted by ≤ (not >) gives one sorted by < with the same members -/
theorem comp_lx (d : Array (Int × Int)) (hs : ∀ i j, i < j → j < d.size → ¬ lxL d[j]! d[i]!) : ∀ m, m ≤ d.size → (Lib.compactUpTo d m).Pairwise lxL ∧ (∀ x ∈ Lib.compactUpTo d m, ∃ j, j < m ∧ d[j]! = x) ∧ ∀ j, j < m → d[j]! ∈ Lib.compactUpTo d m
  | 0, _ => ⟨by simp [Lib.compactUpTo], by simp [Lib.compactUpTo], fun j hj => by omega⟩
  | m + 1, hm => by
    obtain ⟨h1, h2, h3⟩ := comp_lx d hs m (by omega)
    rw [Lib.compactUpTo_succ]
    cases hk : Lib.keeps d m
    · have hd : d[m]! = d[m - 1]! ∧ 0 < m := by
        simp only [Lib.keeps, decide_eq_false_iff_not, not_or, Decidable.not_not] at hk
        exact ⟨hk.2, by omega⟩
      simp only [Bool.false_eq_true, if_false, List.append_nil]
      refine ⟨h1, fun x hx => ?_, fun j hj => ?_⟩
      · obtain ⟨j, hj, e⟩ := h2 x hx
        exact ⟨j, by omega, e⟩
      · by_cases e : j = m
        · subst e; rw [hd.1]; exact h3 _ (by omega)
        · exact h3 j (by omega)
    · simp only [if_true]
      have hd : m = 0 ∨ d[m]! ≠ d[m - 1]! := by simpa only [Lib.keeps, decide_eq_true_eq] using hk
      refine ⟨?_, fun x hx => ?_, fun j hj => ?_⟩
      · rw [List.pairwise_append]
        refine ⟨h1, by simp, fun x hx y hy => ?_⟩
        obtain rfl : y = d[m]! := by simpa using hy
        obtain ⟨j, hj, rfl⟩ := h2 x hx
        have hd2 : d[m]! ≠ d[m - 1]! := by rcases hd with e | e; (· omega); (· exact e)
        have g1 : lxL d[m - 1]! d[m]! := lxL.tot (hs (m - 1) m (by omega) (by omega)) hd2
        by_cases e : j = m - 1
        · rw [e]; exact g1
        · have g2 := hs j (m - 1) (by omega) (by omega)
          by_cases e2 : d[m - 1]! = d[j]!
          · rw [← e2]; exact g1
          · exact (lxL.tot g2 e2).trans g1
      · rcases List.mem_append.1 hx with hx | hx
        · obtain ⟨j, hj, e⟩ := h2 x hx
          exact ⟨j, by omega, e⟩
        · exact ⟨m, by omega, (List.mem_singleton.1 hx).symm⟩
      · by_cases e : j = m
        · subst e; simp
        · exact List.mem_append_left _ (h3 j (by omega))
theorem norm_sorted {L M : List (Int × Int)} (hp : M.Perm (rawN L)) (hs : M.Pairwise fun x y => ¬ lxL y x) : IsNorm L (Lib.compact M) := by
  unfold Lib.compact
  have hs2 : ∀ i j, i < j → j < M.toArray.size → ¬ lxL M.toArray[j]! M.toArray[i]! := fun i j hij hj => by
    have hj' : j < M.length := by simpa using hj
    have h1 := List.pairwise_iff_getElem.1 hs i j (by omega) hj' hij
    simpa [hj', show i < M.length by omega] using h1
  obtain ⟨h1, h2, h3⟩ := comp_lx M.toArray hs2 M.length (by simp)
  refine ⟨h1, fun p => ?_⟩
  rw [← rawN_mem, ← hp.mem_iff]
  refine ⟨fun hx => ?_, fun hx => ?_⟩
  · obtain ⟨j, hj, rfl⟩ := h2 p hx
    simp [hj]
  · obtain ⟨j, hj, rfl⟩ := List.mem_iff_getElem.1 hx
    have := h3 j hj
    simpa [hj] using this
/-- one step of the reference's put -/
def putT (p : Int × Int) (s : List (Int × Int) × Bool) (x : Int × Int) : List (Int × Int) × Bool :=
  if (s.2 || decide (x = p)) = false ∧ lxB p x = true then (s.1 ++ [p, x], true) else (s.1 ++ [x], s.2 || decide (x = p))
def putS (p : Int × Int) (l : List (Int × Int)) : List (Int × Int) × Bool := l.foldl (putT p) ([], decide (p.1 = p.2))
def putL (l : List (Int × Int)) (p : Int × Int) : List (Int × Int) := if (putS p l).2 = true then (putS p l).1 else (putS p l).1 ++ [p]
theorem putS_snoc (p : Int × Int) (l : List (Int × Int)) (x : Int × Int) : putS p (l ++ [x]) = putT p (putS p l) x := by simp [putS, List.foldl_append]
theorem take_snoc {α : Type} {l : List α} {k : Nat} (h : k < l.length) : l.take (k + 1) = l.take k ++ [l[k]] := by rw [List.take_add_one, List.getElem?_eq_getElem h]; rfl
/-- what stands behind some steps over a rising list -/
def PutI (p : Int × Int) (l o : List (Int × Int)) (dn : Bool) : Prop :=
  o.Pairwise lxL ∧ (dn = false → o = l ∧ p.1 ≠ p.2 ∧ ∀ x ∈ l, lxL x p) ∧ (dn = true → p.1 = p.2 → o = l) ∧ (dn = true → p.1 ≠ p.2 → (∀ x, x ∈ o ↔ x ∈ l ∨ x = p) ∧ ∃ z ∈ l, z = p ∨ lxL p z)
theorem PutI.step {p y : Int × Int} {l o : List (Int × Int)} {dn : Bool} (h : PutI p l o dn) (hl : l.Pairwise lxL) (hy : ∀ x ∈ l, lxL x y) : PutI p (l ++ [y]) (putT p (o, dn) y).1 (putT p (o, dn) y).2 := by
  obtain ⟨h1, h2, h3, h4⟩ := h
  have snoc : ∀ q : List (Int × Int), q.Pairwise lxL → (∀ x ∈ q, lxL x y) → (q ++ [y]).Pairwise lxL := fun q hq hqy => by
    rw [List.pairwise_append]
    exact ⟨hq, by simp, fun x hx z hz => by obtain rfl : z = y := by simpa using hz
                                            exact hqy x hx⟩
  unfold putT
  cases dn
  · obtain ⟨rfl, hne, hlt⟩ := h2 rfl
    simp only [Bool.false_or]
    by_cases e : y = p
    · subst e
      rw [if_neg (by simp)]
      simp only [decide_true]
      refine ⟨snoc o hl hy, fun h => (by cases h), fun _ h => absurd h hne, fun _ _ => ⟨fun x => by simp, y, by simp, .inl rfl⟩⟩
    · by_cases c : lxL p y
      · rw [if_pos ⟨by simp [e], lxB_iff.2 c⟩]
        refine ⟨?_, fun h => (by cases h), fun _ h => absurd h hne, fun _ _ => ⟨fun x => ?_, y, by simp, .inr c⟩⟩
        · rw [List.pairwise_append]
          refine ⟨h1, by simp [c], fun x hx z hz => ?_⟩
          rcases List.mem_cons.1 hz with rfl | hz
          · exact hlt x hx
          · obtain rfl : z = y := by simpa using hz
            exact hy x hx
        · simp only [List.mem_append, List.mem_cons, List.not_mem_nil, or_false]
          constructor
          · rintro (h | h | h)
            · exact .inl (.inl h)
            · exact .inr h
            · exact .inl (.inr h)
          · rintro ((h | h) | h)
            · exact .inl h
            · exact .inr (.inr h)
            · exact .inr (.inl h)
      · rw [if_neg (fun h => c (lxB_iff.1 h.2))]
        simp only [e, decide_false]
        refine ⟨snoc o hl hy, fun _ => ⟨rfl, hne, fun x hx => ?_⟩, fun h => (by cases h), fun h => (by cases h)⟩
        rcases List.mem_append.1 hx with hx | hx
        · exact hlt x hx
        · obtain rfl : x = y := by simpa using hx
          exact lxL.tot c (fun h => e h.symm)
  · rw [if_neg (by simp)]
    simp only [Bool.true_or]
    by_cases hne : p.1 = p.2
    · obtain rfl := h3 rfl hne
      exact ⟨snoc o hl hy, fun h => (by cases h), fun _ _ => rfl, fun _ h => absurd hne h⟩
    · obtain ⟨g1, z, hz, hzp⟩ := h4 rfl hne
      have hpy : lxL p y := by
        rcases hzp with rfl | h
        · exact hy _ hz
        · exact h.trans (hy z hz)
      refine ⟨snoc o h1 fun x hx => ?_, fun h => (by cases h), fun _ h => absurd h hne, fun _ _ => ⟨fun x => ?_, z, List.mem_append_left _ hz, hzp⟩⟩
      · rcases (g1 x).1 hx with h | h
        · exact hy x h
        · rw [h]; exact hpy
      · rw [List.mem_append, g1, List.mem_append]
        constructor
        · rintro ((h | h) | h)
          · exact .inl (.inl h)
          · exact .inr h
          · exact .inl (.inr h)
        · rintro ((h | h) | h)
          · exact .inl (.inl h)
          · exact .inr h
          · exact .inl (.inr h)
theorem putS_inv {p : Int × Int} {l : List (Int × Int)} (hl : l.Pairwise lxL) : ∀ k, k ≤ l.length → PutI p (l.take k) (putS p (l.take k)).1 (putS p (l.take k)).2
  | 0, _ => by
    by_cases e : p.1 = p.2
    · refine ⟨by simp [putS], fun h => ?_, fun _ _ => by simp [putS], fun _ h => absurd e h⟩
      simp [putS] at h; exact absurd e h
    · refine ⟨by simp [putS], fun h => ⟨by simp [putS], e, by simp⟩, fun _ h => absurd h e, fun h => ?_⟩
      simp [putS] at h; exact absurd h e
  | k + 1, hk => by
    have hk' : k < l.length := by omega
    have ih := putS_inv (p := p) hl k (by omega)
    rw [take_snoc hk', putS_snoc]
    refine ih.step (hl.sublist (List.take_sublist _ _)) fun x hx => ?_
    obtain ⟨i, hi, rfl⟩ := List.mem_iff_getElem.1 hx
    have hi' : i < k := by have := hi; rw [List.length_take] at this; omega
    rw [List.getElem_take]
    exact List.pairwise_iff_getElem.1 hl i k (by omega) hk' hi'
theorem putL_spec {p : Int × Int} {l : List (Int × Int)} (hl : l.Pairwise lxL) : (putL l p).Pairwise lxL ∧ ∀ x, x ∈ putL l p ↔ x ∈ l ∨ (x = p ∧ p.1 ≠ p.2) := by
  have h := putS_inv (p := p) hl l.length (Nat.le_refl _)
  rw [List.take_length] at h
  obtain ⟨h1, h2, h3, h4⟩ := h
  unfold putL
  by_cases c : (putS p l).2 = true
  · rw [if_pos c]
    refine ⟨h1, fun x => ?_⟩
    by_cases e : p.1 = p.2
    · rw [h3 c e]; simp [e]
    · rw [(h4 c e).1]; simp [e]
  · have c' : (putS p l).2 = false := by simpa using c
    obtain ⟨e1, e2, e3⟩ := h2 c'
    rw [if_neg c, e1]
    refine ⟨?_, fun x => by simp [e2]⟩
    rw [List.pairwise_append]
    exact ⟨hl, by simp, fun x hx z hz => by obtain rfl : z = p := by simpa using hz
                                            exact e3 x hx⟩
/-- the reference's normal form -/
def normR (L : List (Int × Int)) : List (Int × Int) := L.foldl (fun o q => putL o (ordP q.1 q.2)) []
theorem normR_snoc (L : List (Int × Int)) (q : Int × Int) : normR (L ++ [q]) = putL (normR L) (ordP q.1 q.2) := by simp [normR, List.foldl_append]
theorem normR_take (L : List (Int × Int)) : ∀ k, k ≤ L.length → IsNorm (L.take k) (normR (L.take k))
  | 0, _ => ⟨by simp [normR], fun p => by simp [normR]⟩
  | k + 1, hk => by
    have hk' : k < L.length := by omega
    obtain ⟨h1, h2⟩ := normR_take L k (by omega)
    rw [take_snoc hk', normR_snoc]
    obtain ⟨g1, g2⟩ := putL_spec (p := ordP L[k].1 L[k].2) h1
    refine ⟨g1, fun p => ?_⟩
    rw [g2, h2]
    have hne : (ordP L[k].1 L[k].2).1 ≠ (ordP L[k].1 L[k].2).2 ↔ L[k].1 ≠ L[k].2 := by unfold ordP; simp only; omega
    rw [hne]
    constructor
    · rintro (⟨q, hq, a, b⟩ | ⟨a, b⟩)
      · exact ⟨q, List.mem_append_left _ hq, a, b⟩
      · exact ⟨L[k], List.mem_append_right _ (List.mem_singleton.2 rfl), b, a.symm⟩
    · rintro ⟨q, hq, a, b⟩
      rcases List.mem_append.1 hq with hq | hq
      · exact .inl ⟨q, hq, a, b⟩
      · obtain rfl : q = L[k] := by simpa using hq
        exact .inr ⟨b.symm, a⟩
theorem normR_is (L : List (Int × Int)) : IsNorm L (normR L) := by
  have h := normR_take L L.length (Nat.le_refl _)
  rwa [List.take_length] at h
theorem norm_is {L M : List (Int × Int)} (hp : M.Perm (rawN L)) (hs : M.Pairwise fun x y => ¬ lxL y x) : Lib.compact M = normR L := (norm_sorted hp hs).unique (normR_is L)
theorem rawN_len (L : List (Int × Int)) : (rawN L).length ≤ L.length := by unfold rawN; rw [List.length_map]; exact List.length_filter_le _ _
theorem rawN_snoc (L : List (Int × Int)) (q : Int × Int) : rawN (L ++ [q]) = if q.1 ≠ q.2 then rawN L ++ [ordP q.1 q.2] else rawN L := by
  unfold rawN
  rw [List.filter_append, List.map_append]
  by_cases e : q.1 = q.2 <;> simp [e]
end Go.Proofs.Ytonnbcongnkcdaa
