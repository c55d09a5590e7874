/- Plain: labels at rest give the groups. -/
import Derived.Test.YtonnbcongnkcdaaEnN
namespace Go.Proofs.Ytonnbcongnkcdaa
open Go.RowKit

def grpR (D : List Int) (lab : Nat → Nat) (i : Nat) : List Int := ((List.range D.length).filter fun k => decide (lab k = i)).map fun k => D[k]!
def grpsR (D : List Int) (lab : Nat → Nat) : List (List Int) := ((List.range D.length).filter fun i => decide (lab i = i)).map fun i => grpR D lab i
theorem grpR_mem {D : List Int} {lab : Nat → Nat} {i : Nat} {x : Int} : x ∈ grpR D lab i ↔ ∃ k, k < D.length ∧ lab k = i ∧ D[k]! = x := by
  unfold grpR
  simp only [List.mem_map, List.mem_filter, List.mem_range, decide_eq_true_eq]
  exact ⟨fun ⟨k, ⟨h1, h2⟩, h3⟩ => ⟨k, h1, h2, h3⟩, fun ⟨k, h1, h2, h3⟩ => ⟨k, ⟨h1, h2⟩, h3⟩⟩
theorem mono_at {D : List Int} (hD : D.Pairwise (fun a b => a < b)) {i j : Nat} (h : i < j) (hj : j < D.length) : D[i]! < D[j]! := by
  rw [getElem!_pos D i (by omega), getElem!_pos D j hj]
  exact List.pairwise_iff_getElem.1 hD i j (by omega) hj h
theorem head_least {g : List Int} (hg : g.Pairwise (fun a b => a < b)) {a : Int} (ha : a ∈ g) (hl : ∀ y ∈ g, a ≤ y) : g.headD 0 = a := by
  cases g with
  | nil => cases ha
  | cons b l =>
    have h1 := hl b List.mem_cons_self
    rcases List.mem_cons.1 ha with rfl | h
    · rfl
    · have := (List.pairwise_cons.1 hg).1 a h; omega
theorem grpR_strict {D : List Int} (hD : D.Pairwise (fun a b => a < b)) (lab : Nat → Nat) (i : Nat) : (grpR D lab i).Pairwise (fun a b => a < b) := by
  unfold grpR
  rw [List.pairwise_map]
  have h : ((List.range D.length).filter fun k => decide (lab k = i)).Pairwise (fun a b => a < b) := List.pairwise_lt_range.filter _
  refine h.imp_of_mem fun {a b} _ hb hab => mono_at hD hab ?_
  have := (List.mem_filter.1 hb).1
  simpa using this
theorem grpsR_is {D : List Int} {E : List (Int × Int)} {lab : Nat → Nat} (hD : D.Pairwise (fun a b => a < b)) (h1 : ∀ i, i < D.length → lab i ≤ i) (h2 : ∀ i, i < D.length → Rch E D[i]! D[lab i]!)
    (h3 : ∀ i j, i < D.length → j < D.length → Rch E D[i]! D[j]! → lab i = lab j) : IsGroups D (Rch E) (grpsR D lab) := by
  have mem : ∀ g, g ∈ grpsR D lab → ∃ i, i < D.length ∧ lab i = i ∧ grpR D lab i = g := by
    intro g hg
    unfold grpsR at hg
    simp only [List.mem_map, List.mem_filter, List.mem_range, decide_eq_true_eq] at hg
    obtain ⟨i, ⟨a, b⟩, c⟩ := hg
    exact ⟨i, a, b, c⟩
  have dm : ∀ k, k < D.length → D[k]! ∈ D := fun k hk => by rw [getElem!_pos D k hk]; exact List.getElem_mem hk
  have md : ∀ x, x ∈ D → ∃ k, k < D.length ∧ D[k]! = x := fun x hx => by
    obtain ⟨k, hk, e⟩ := List.mem_iff_getElem.1 hx
    exact ⟨k, hk, by rw [getElem!_pos D k hk]; exact e⟩
  have hd : ∀ i, i < D.length → lab i = i → (grpR D lab i).headD 0 = D[i]! := fun i hi hl => head_least (grpR_strict hD lab i) (grpR_mem.2 ⟨i, hi, hl, rfl⟩) fun y hy => by
    obtain ⟨k, hk, e, rfl⟩ := grpR_mem.1 hy
    have := h1 k hk
    rcases Nat.lt_or_eq_of_le (show i ≤ k by omega) with h | h
    · have := mono_at hD h hk; omega
    · rw [h]; exact Int.le_refl _
  refine ⟨fun g hg => ?_, fun g hg x hx y => ?_, ?_, fun x hx => ?_⟩
  · obtain ⟨i, hi, hl, rfl⟩ := mem g hg
    exact ⟨grpR_strict hD lab i, List.ne_nil_of_mem (grpR_mem.2 ⟨i, hi, hl, rfl⟩)⟩
  · obtain ⟨i, hi, hl, rfl⟩ := mem g hg
    obtain ⟨k, hk, ek, rfl⟩ := grpR_mem.1 hx
    rw [grpR_mem]
    have rk := h2 k hk
    rw [ek] at rk
    constructor
    · rintro ⟨m, hm, em, rfl⟩
      have rm := h2 m hm
      rw [em] at rm
      exact ⟨dm m hm, rk.trans rm.symm⟩
    · rintro ⟨hy, hr⟩
      obtain ⟨m, hm, rfl⟩ := md y hy
      exact ⟨m, hm, by rw [← h3 k m hk hm hr]; exact ek, rfl⟩
  · unfold grpsR
    rw [List.pairwise_map]
    have h : ((List.range D.length).filter fun i => decide (lab i = i)).Pairwise (fun a b => a < b) := List.pairwise_lt_range.filter _
    refine h.imp_of_mem fun {a b} ha hb hab => ?_
    simp only [List.mem_filter, List.mem_range, decide_eq_true_eq] at ha hb
    rw [hd a ha.1 ha.2, hd b hb.1 hb.2]
    exact mono_at hD hab hb.1
  · obtain ⟨k, hk, rfl⟩ := md x hx
    have hi : lab k < D.length := by have := h1 k hk; omega
    have hl : lab (lab k) = lab k := (h3 k (lab k) hk hi (h2 k hk)).symm
    refine ⟨grpR D lab (lab k), ?_, grpR_mem.2 ⟨k, hk, rfl, rfl⟩⟩
    unfold grpsR
    exact List.mem_map.2 ⟨lab k, List.mem_filter.2 ⟨List.mem_range.2 hi, by simpa using hl⟩, rfl⟩
/-- labels that agree along the pairs agree along the ways -/
theorem lab_rch {D : List Int} {E : List (Int × Int)} {lab : Nat → Nat} (hD : D.Pairwise (fun a b => a < b)) (hin : ∀ y z, (y, z) ∈ E → y ∈ D ∧ z ∈ D)
    (he : ∀ i j, i < D.length → j < D.length → (D[i]!, D[j]!) ∈ E → lab i = lab j) {i j : Nat} (hi : i < D.length) (hj : j < D.length) (h : Rch E D[i]! D[j]!) : lab i = lab j := by
  have md : ∀ x, x ∈ D → ∃ k, k < D.length ∧ D[k]! = x := fun x hx => by
    obtain ⟨k, hk, e⟩ := List.mem_iff_getElem.1 hx
    exact ⟨k, hk, by rw [getElem!_pos D k hk]; exact e⟩
  obtain ⟨k, hk, e, l⟩ := Rch.closed (S := fun y => ∃ k, k < D.length ∧ D[k]! = y ∧ lab k = lab i) (fun y z ⟨k, hk, e, l⟩ hz => by
    rcases hz with hz | hz
    · obtain ⟨m, hm, rfl⟩ := md z (hin _ _ hz).2
      exact ⟨m, hm, rfl, by rw [← l]; subst e; exact (he k m hk hm hz).symm⟩
    · obtain ⟨m, hm, rfl⟩ := md z (hin _ _ hz).1
      exact ⟨m, hm, rfl, by rw [← l]; subst e; exact he m k hm hk hz⟩) ⟨i, hi, rfl, rfl⟩ h
  rcases Nat.lt_trichotomy k j with c | c | c
  · have := mono_at hD c hj; omega
  · rw [← l, c]
  · have := mono_at hD c hk; omega

end Go.Proofs.Ytonnbcongnkcdaa
