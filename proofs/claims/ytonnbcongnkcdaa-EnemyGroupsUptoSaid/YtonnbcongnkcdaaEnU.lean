/- Plain: the search of a group along the pairs, and the list of groups that it gives. -/
import Derived.Test.YtonnbcongnkcdaaEnS
import Derived.Test.YtonnbcongnkcdaaRisP
namespace Go.Proofs.Ytonnbcongnkcdaa
open Go.RowKit

/-- the numbers that stand beside x in the pairs -/
def nbl (E : List (Int × Int)) (x : Int) : List Int := E.flatMap fun p => (if p.1 = x then [p.2] else []) ++ (if p.2 = x then [p.1] else [])
theorem nbl_mem {E : List (Int × Int)} {x y : Int} : y ∈ nbl E x ↔ (x, y) ∈ E ∨ (y, x) ∈ E := by
  unfold nbl
  rw [List.mem_flatMap]
  constructor
  · rintro ⟨⟨a, b⟩, hp, h⟩
    rcases List.mem_append.1 h with h | h
    · by_cases e : a = x
      · subst e; simp at h; subst h; exact .inl hp
      · simp [e] at h
    · by_cases e : b = x
      · subst e; simp at h; subst h; exact .inr hp
      · simp [e] at h
  · rintro (h | h)
    · exact ⟨_, h, by simp⟩
    · exact ⟨_, h, by simp⟩
theorem nbl_snoc {E : List (Int × Int)} {k : Nat} {p q : Int} (h : k < E.length) (e : E[k] = (p, q)) (z : Int) : nbl (E.take (k + 1)) z = nbl (E.take k) z ++ ((if p = z then [q] else []) ++ (if q = z then [p] else [])) := by
  unfold nbl
  rw [take_snoc h, List.flatMap_append, e]
  simp
theorem nbl_up {E : List (Int × Int)} {k : Nat} {p q : Int} {z1 z2 : List Int} (h : k < E.length) (e : E[k] = (p, q)) (h1 : nbl (E.take k) p = z1) (h2 : (if q = p then z1 ++ [q] else nbl (E.take k) q) = z2) (z : Int) :
    (if z = q then z2 ++ [p] else if z = p then z1 ++ [q] else nbl (E.take k) z) = nbl (E.take (k + 1)) z := by
  rw [nbl_snoc h e]
  subst h1 h2
  by_cases e1 : z = q
  · subst e1
    by_cases e2 : z = p
    · subst e2; simp
    · have e3 : ¬ p = z := fun h => e2 h.symm
      simp [e2, e3]
  · have e4 : ¬ q = z := fun h => e1 h.symm
    by_cases e2 : z = p
    · subst e2; simp [e1, e4]
    · have e3 : ¬ p = z := fun h => e2 h.symm
      simp [e1, e2, e3, e4]
theorem nbl_len (E : List (Int × Int)) (x : Int) : (nbl E x).length ≤ 2 * E.length := by
  unfold nbl
  induction E with
  | nil => simp
  | cons p E ih =>
    rw [List.flatMap_cons, List.length_append, List.length_append, List.length_cons]
    have a : (if p.1 = x then [p.2] else []).length ≤ 1 := by split <;> simp
    have b : (if p.2 = x then [p.1] else []).length ≤ 1 := by split <;> simp
    omega

/-- a group under search: what it holds so far, and what is left -/
structure Srch (E : List (Int × Int)) (lf0 : Int → Bool) (x0 : Int) (grp : List Int) (lf : Int → Bool) : Prop where
  head : x0 ∈ grp
  mem : ∀ y ∈ grp, lf0 y = true ∧ Rch E x0 y
  nodup : grp.Nodup
  left : ∀ y, lf y = (lf0 y && !decide (y ∈ grp))
theorem Srch.start {E : List (Int × Int)} {lf0 : Int → Bool} {x0 : Int} (h : lf0 x0 = true) : Srch E lf0 x0 [x0] (upB lf0 x0 false) :=
  ⟨List.mem_singleton.2 rfl, fun y hy => by rw [List.mem_singleton] at hy; subst hy; exact ⟨h, .refl _⟩, by simp, fun y => by
    unfold upB
    by_cases e : y = x0
    · subst e; simp
    · simp [e]⟩
theorem Srch.add {E : List (Int × Int)} {lf0 lf : Int → Bool} {x0 x y : Int} {grp : List Int} (h : Srch E lf0 x0 grp lf) (hx : x ∈ grp) (hy : y ∈ nbl E x) (hl : lf y = true) : Srch E lf0 x0 (grp ++ [y]) (upB lf y false) := by
  have h1 := h.left y
  rw [hl] at h1
  have h2 : lf0 y = true ∧ y ∉ grp := by simpa using h1.symm
  refine ⟨List.mem_append_left _ h.head, fun z hz => ?_, ?_, fun z => ?_⟩
  · rcases List.mem_append.1 hz with hz | hz
    · exact h.mem z hz
    · rw [List.mem_singleton] at hz; subst hz
      exact ⟨h2.1, .step (h.mem x hx).2 (nbl_mem.1 hy)⟩
  · rw [List.nodup_append]
    exact ⟨h.nodup, by simp, fun a ha b hb => by rw [List.mem_singleton] at hb; subst hb; exact fun e => h2.2 (e ▸ ha)⟩
  · unfold upB
    by_cases e : z = y
    · subst e; simp
    · rw [if_neg e, h.left z]; simp [e]
theorem Srch.get {E : List (Int × Int)} {lf0 lf : Int → Bool} {x0 : Int} {grp : List Int} (h : Srch E lf0 x0 grp lf) : 0 < grp.length := List.length_pos_of_mem h.head
/-- the first i numbers of the group have no neighbour that is left -/
def Cls (E : List (Int × Int)) (lf : Int → Bool) (grp : List Int) (i : Nat) : Prop := ∀ k, k < i → ∀ y ∈ nbl E (grp.getD k 0), lf y = false
theorem Cls.none (E : List (Int × Int)) (lf : Int → Bool) (grp : List Int) : Cls E lf grp 0 := fun _k hk => absurd hk (Nat.not_lt_zero _)
theorem Cls.add {E : List (Int × Int)} {lf : Int → Bool} {grp : List Int} {i : Nat} (h : Cls E lf grp i) (hi : i ≤ grp.length) (y : Int) : Cls E (upB lf y false) (grp ++ [y]) i := fun k hk z hz => by
  have e : (grp ++ [y]).getD k 0 = grp.getD k 0 := by simp [List.getD, List.getElem?_append_left (show k < grp.length by omega)]
  rw [e] at hz
  unfold upB
  split
  · rfl
  · exact h k hk z hz
theorem Cls.next {E : List (Int × Int)} {lf : Int → Bool} {grp : List Int} {i : Nat} {x : Int} {zs : List Int} (h : Cls E lf grp i) (hx : grp.getD i 0 = x) (hz : nbl E x = zs) (hn : ∀ y ∈ zs, lf y = false) : Cls E lf grp (i + 1) := fun k hk y hy => by
  by_cases e : k = i
  · subst e; rw [hx, hz] at hy; exact hn y hy
  · exact h k (by omega) y hy

def srtL (zs : List Int) : List Int := zs.mergeSort fun x y => decide (x ≤ y)
theorem srtL_mem {zs : List Int} {x : Int} : x ∈ srtL zs ↔ x ∈ zs := List.mem_mergeSort
theorem srtL_len (zs : List Int) : (srtL zs).length = zs.length := List.length_mergeSort zs
theorem srtL_asc {zs : List Int} (h : zs.Nodup) : (srtL zs).Pairwise (fun a b => a < b) := by
  have hp : (srtL zs).Pairwise fun x y => decide (x ≤ y) = true := List.pairwise_mergeSort (by intro a b c h1 h2; simp at *; omega) (by intro a b; simp; omega) zs
  have hn : (srtL zs).Pairwise (fun a b => a ≠ b) := (List.mergeSort_perm zs _).nodup_iff.2 h
  refine List.Pairwise.imp (R := fun a b => decide (a ≤ b) = true ∧ a ≠ b) ?_ (hp.and hn)
  intro a b ⟨h1, h2⟩
  have h3 : a ≤ b := by simpa using h1
  omega

/-- the groups of the first i numbers of D -/
structure Out (D : List Int) (E : List (Int × Int)) (G : List (List Int)) (i : Nat) (lf : Int → Bool) : Prop where
  asc : ∀ g ∈ G, g.Pairwise (fun a b => a < b) ∧ g ≠ []
  cls : ∀ g ∈ G, ∀ x ∈ g, ∀ y, y ∈ g ↔ y ∈ D ∧ Rch E x y
  heads : G.Pairwise (fun g h => g.headD 0 < h.headD 0)
  low : ∀ g ∈ G, ∃ k, k < i ∧ g.headD 0 = D.getD k 0
  left : ∀ y, lf y = true ↔ y ∈ D ∧ ∀ g ∈ G, y ∉ g
  done : ∀ k, k < i → lf (D.getD k 0) = false
  cnt : G.length ≤ i
theorem Out.start {D : List Int} {E : List (Int × Int)} {lf : Int → Bool} (h : ∀ y, lf y = inL D y) : Out D E [] 0 lf :=
  ⟨by simp, by simp, List.Pairwise.nil, by simp, fun y => by rw [h y, inL_iff]; simp, fun k hk => absurd hk (Nat.not_lt_zero _), Nat.le_refl _⟩
theorem Out.skip {D : List Int} {E : List (Int × Int)} {G : List (List Int)} {i : Nat} {lf : Int → Bool} (h : Out D E G i lf) (hl : lf (D.getD i 0) = false) : Out D E G (i + 1) lf :=
  ⟨h.asc, h.cls, h.heads, fun g hg => by obtain ⟨k, hk, e⟩ := h.low g hg; exact ⟨k, by omega, e⟩, h.left, fun k hk => by
    by_cases e : k = i
    · subst e; exact hl
    · exact h.done k (by omega), by have := h.cnt; omega⟩
theorem head_min {g : List Int} {x : Int} (h : g.Pairwise (fun a b => a < b)) (hx : x ∈ g) (hm : ∀ y ∈ g, x ≤ y) : g.headD 0 = x := by
  cases g with
  | nil => cases hx
  | cons a g =>
    show a = x
    have h1 := hm a List.mem_cons_self
    rcases List.mem_cons.1 hx with e | e
    · exact e.symm
    · have := (List.pairwise_cons.1 h).1 x e; omega
theorem asc_getD {D : List Int} (h : D.Pairwise (fun a b => a < b)) {i j : Nat} (hij : i < j) (hj : j < D.length) : D.getD i 0 < D.getD j 0 := by
  rw [getD_lt1 (show i < D.length by omega), getD_lt1 hj]
  exact List.pairwise_iff_getElem.1 h i j (by omega) hj hij
theorem Out.add {D : List Int} {E : List (Int × Int)} {G : List (List Int)} {i : Nat} {lf lf2 : Int → Bool} {x0 : Int} {grp : List Int} (hD : D.Pairwise (fun a b => a < b)) (hE : ∀ p ∈ E, p.1 ∈ D ∧ p.2 ∈ D) (h : Out D E G i lf) (hi : i < D.length) (hx : D.getD i 0 = x0)
    (hs : Srch E lf x0 grp lf2) (hc : Cls E lf2 grp grp.length) : Out D E (G ++ [srtL grp]) (i + 1) lf2 := by
  have hsub : ∀ y ∈ grp, y ∈ D := fun y hy => ((h.left y).1 (hs.mem y hy).1).1
  have hnb : ∀ y ∈ grp, ∀ z, ((y, z) ∈ E ∨ (z, y) ∈ E) → z ∈ grp := by
    intro y hy z hz
    obtain ⟨k, hk, e⟩ := List.getElem_of_mem hy
    have h1 := hc k hk z (by rw [getD_lt1 hk, e]; exact nbl_mem.2 hz)
    have h2 := hs.left z
    rw [h1] at h2
    have h3 : lf z = true → z ∈ grp := by intro h4; rw [h4] at h2; simpa using h2.symm
    cases hlz : lf z with
    | true => exact h3 hlz
    | false =>
      exfalso
      have hzD : z ∈ D := by rcases hz with hz | hz; (· exact (hE _ hz).2); (· exact (hE _ hz).1)
      have hnot : ¬ ∀ g ∈ G, z ∉ g := fun hall => by have := (h.left z).2 ⟨hzD, hall⟩; rw [hlz] at this; cases this
      have hnot2 : ∃ g ∈ G, z ∈ g := Classical.byContradiction fun hh => hnot fun g hg hzg => hh ⟨g, hg, hzg⟩
      obtain ⟨g, hg, hzg⟩ := hnot2
      exact ((h.left y).1 (hs.mem y hy).1).2 g hg ((h.cls g hg z hzg y).2 ⟨hsub y hy, .step (.refl _) hz.symm⟩)
  have hall : ∀ x ∈ grp, ∀ y, y ∈ grp ↔ y ∈ D ∧ Rch E x y := by
    intro x hxg y
    refine ⟨fun hy => ⟨hsub y hy, (hs.mem x hxg).2.symm.trans (hs.mem y hy).2⟩, fun ⟨_, hr⟩ => ?_⟩
    exact Rch.closed (S := fun z => z ∈ grp) (fun a b ha hb => hnb a ha b hb) hxg hr
  have hge : ∀ y ∈ grp, x0 ≤ y := by
    intro y hy
    obtain ⟨k, hk, e⟩ := List.getElem_of_mem (hsub y hy)
    have hki : ¬ k < i := fun hki => by
      have h1 := h.done k hki
      rw [getD_lt1 hk, e] at h1
      rw [(hs.mem y hy).1] at h1; cases h1
    rcases Nat.lt_or_ge i k with h2 | h2
    · have := asc_getD hD h2 hk; rw [hx, getD_lt1 hk, e] at this; omega
    · obtain rfl : k = i := by omega
      rw [getD_lt1 hk, e] at hx; omega
  have hasc := srtL_asc hs.nodup
  have hhead : (srtL grp).headD 0 = x0 := head_min hasc (srtL_mem.2 hs.head) fun y hy => hge y (srtL_mem.1 hy)
  have hne : srtL grp ≠ [] := List.ne_nil_of_mem (srtL_mem.2 hs.head)
  refine ⟨fun g hg => ?_, fun g hg => ?_, ?_, fun g hg => ?_, fun y => ?_, fun k hk => ?_, by have := h.cnt; simp; omega⟩
  · rcases List.mem_append.1 hg with hg | hg
    · exact h.asc g hg
    · rw [List.mem_singleton] at hg; subst hg; exact ⟨hasc, hne⟩
  · rcases List.mem_append.1 hg with hg | hg
    · exact h.cls g hg
    · rw [List.mem_singleton] at hg; subst hg
      intro x hx y
      rw [srtL_mem]; exact hall x (srtL_mem.1 hx) y
  · rw [List.pairwise_append]
    refine ⟨h.heads, by simp, fun g hg g2 hg2 => ?_⟩
    rw [List.mem_singleton] at hg2; subst hg2
    obtain ⟨k, hk, e⟩ := h.low g hg
    rw [hhead, e, ← hx]; exact asc_getD hD hk hi
  · rcases List.mem_append.1 hg with hg | hg
    · obtain ⟨k, hk, e⟩ := h.low g hg; exact ⟨k, by omega, e⟩
    · rw [List.mem_singleton] at hg; subst hg; exact ⟨i, by omega, by rw [hhead, hx]⟩
  · have h1 := hs.left y
    have h2 := h.left y
    constructor
    · intro hl
      rw [hl] at h1
      have h3 : lf y = true ∧ y ∉ grp := by simpa using h1.symm
      have h4 := h2.1 h3.1
      refine ⟨h4.1, fun g hg => ?_⟩
      rcases List.mem_append.1 hg with hg | hg
      · exact h4.2 g hg
      · rw [List.mem_singleton] at hg; subst hg; rw [srtL_mem]; exact h3.2
    · rintro ⟨a, b⟩
      have h3 := h2.2 ⟨a, fun g hg => b g (List.mem_append_left _ hg)⟩
      have h4 := b (srtL grp) (by simp)
      rw [srtL_mem] at h4
      rw [h1, h3]; simp [h4]
  · have h1 := hs.left (D.getD k 0)
    by_cases e : k = i
    · subst e
      rw [hx] at h1 ⊢
      rw [h1]; simp [hs.head]
    · rw [h1, h.done k (by omega)]; rfl
theorem Out.end {D : List Int} {E : List (Int × Int)} {G : List (List Int)} {lf : Int → Bool} (h : Out D E G D.length lf) : IsGroups D (Rch E) G :=
  ⟨h.asc, h.cls, h.heads, fun x hx => by
    obtain ⟨k, hk, e⟩ := List.getElem_of_mem hx
    have h1 := h.done k hk
    rw [getD_lt1 hk, e] at h1
    exact Classical.byContradiction fun hh => by
      have := (h.left x).2 ⟨hx, fun g hg hxg => hh ⟨g, hg, hxg⟩⟩
      rw [h1] at this; cases this⟩
theorem Srch.len {D : List Int} {E : List (Int × Int)} {G : List (List Int)} {i : Nat} {lf0 lf : Int → Bool} {x0 : Int} {grp : List Int} (hD : D.Pairwise (fun a b => a < b)) (h : Out D E G i lf0) (hs : Srch E lf0 x0 grp lf) : grp.length ≤ D.length := by
  have hp : grp.Perm (D.filter fun y => decide (y ∈ grp)) := (List.perm_ext_iff_of_nodup hs.nodup ((hD.imp fun h => by omega).filter _)).2 fun y => by
    rw [List.mem_filter]
    exact ⟨fun hy => ⟨((h.left y).1 (hs.mem y hy).1).1, by simpa using hy⟩, fun hy => by simpa using hy.2⟩
  rw [hp.length_eq]; exact List.length_filter_le _ _
theorem rise_distR (zs : List Int) : rise zs = distR zs := distR_unique (rise_spec zs).1 (rise_spec zs).2

end Go.Proofs.Ytonnbcongnkcdaa
