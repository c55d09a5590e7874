/- A region whose order is open, by one step for each operation: whatever order is drawn, an invariant that each operation keeps holds at the end. No program in sight. -/
import Derived.Orders
import Derived.Tactics
import Derived.WalkKit
namespace Go.Proofs.YtnillajhhimeiaaDoor
open Go

variable {P : Program} {ops : Array Oper} {Q : Exit → Act → World → Prop}

theorem wpOp_of_list {i : Nat} {o : Oper} {K : Act → World → Prop} {a : Act} {w : World} (h : ops[i]? = some o) (hl : wpList P ops (Exit.then K Q) [o] a w) : wpOp P ops Q i K a w := by
  unfold wpOp
  rw [h]
  unfold wpList at hl
  simp only
  by_cases hw : Region.wanted o (yielded ops a.tmps) = true
  · rw [if_pos hw] at hl ⊢
    rcases hl with hl | ⟨h1, h2⟩
    · left
      unfold Oper.wp at hl ⊢
      generalize (execOp a.eval o).run P w = r at *
      cases r with
      | ok n w' =>
        cases n <;> simp only [Oper.upon] at hl ⊢ <;>
          first
            | exact hl
            | exact Calls.mono hl (fun e w'' he => by cases e <;> first | exact he | (obtain ⟨a1, w1, h1⟩ := he; exact ⟨a1, w1, h1⟩))
            | exact Rows.mono hl (fun _ _ he => he)
      | halt x w' => cases x <;> simp only [Oper.upon] at hl ⊢ <;> exact hl
    · right
      obtain ⟨a1, w1, h2⟩ := h2
      exact ⟨h1, a1, w1, h2⟩
  · rw [if_neg hw] at hl ⊢
    exact hl

/-- how many are not listed -/
def cnt (listed : Array Bool) : Nat := (listed.toList.filter (fun b => !b)).length
theorem cnt_set : ∀ (l : List Bool) (i : Nat), l[i]? = some false → ((l.set i true).filter (fun b => !b)).length + 1 = (l.filter (fun b => !b)).length
  | [], i, h => by simp at h
  | b :: l, 0, h => by simp at h; subst h; simp
  | b :: l, i + 1, h => by
    have := cnt_set l i (by simpa using h)
    simp only [List.set_cons_succ, List.filter_cons]
    split
    · simp only [List.length_cons]; omega
    · omega
theorem cnt_zero {l : List Bool} (h : (l.filter (fun b => !b)).length = 0) {i : Nat} {b : Bool} (hi : l[i]? = some b) : b = true := by
  have h1 := List.length_eq_zero_iff.1 h
  cases b with
  | true => rfl
  | false =>
    have hm : false ∈ l.filter (fun b => !b) := List.mem_filter.2 ⟨List.mem_of_getElem? hi, rfl⟩
    rw [h1] at hm; cases hm

theorem ready_mem {md : Region.Mode} {listed : Array Bool} {i : Nat} (h : i ∈ Region.ready md ops listed) (hs : listed.size = ops.size) :
    ∃ o, ops[i]? = some o ∧ listed[i]? = some false ∧ ∀ e ∈ o.after, Region.binds md e = true → listed.getD e.on false = true := by
  unfold Region.ready at h
  rw [List.mem_filter] at h
  obtain ⟨h1, h2⟩ := h
  have hi : i < ops.size := by simpa using h1
  simp only [Bool.and_eq_true, Bool.not_eq_true'] at h2
  obtain ⟨h3, h4⟩ := h2
  have ho : ops[i]? = some ops[i] := by simp [hi]
  refine ⟨ops[i], ho, ?_, ?_⟩
  · have hl : i < listed.size := by omega
    simp [Array.getD, hl] at h3 ⊢
    exact h3
  · rw [ho] at h4
    simp only [Option.map_some, Option.getD_some, Array.all_eq_true] at h4
    intro e he hb
    obtain ⟨j, hj, rfl⟩ := Array.mem_iff_getElem.1 he
    have := h4 j hj
    simpa [hb] using this
theorem ready_nil {md : Region.Mode} {listed : Array Bool} (h : Region.ready md ops listed = []) (hs : listed.size = ops.size) (hac : ∀ (i : Nat) (o : Oper), ops[i]? = some o → ∀ (e : Edge), e ∈ o.after → e.on < i) :
    ∀ i, i < ops.size → listed.getD i false = true := by
  intro i
  induction i using Nat.strongRecOn with
  | ind i ih =>
    intro hi
    cases hc : listed.getD i false with
    | true => rfl
    | false =>
      exfalso
      have ho : ops[i]? = some ops[i] := by simp [hi]
      have hm : i ∈ Region.ready md ops listed := by
        unfold Region.ready
        rw [List.mem_filter]
        refine ⟨by simpa using hi, ?_⟩
        have hl : i < listed.size := by omega
        have hc' : listed.getD i true = false := by simp [Array.getD, hl] at hc ⊢; exact hc
        rw [hc', ho]
        simp only [Bool.not_false, Option.map_some, Option.getD_some, Bool.true_and, Array.all_eq_true]
        intro j hj
        have hlt := hac i _ ho ops[i].after[j] (Array.getElem_mem hj)
        have := ih _ hlt (by omega)
        simp [this]
      rw [h] at hm; cases hm

theorem wpAny_inv {md : Region.Mode} {J : (Nat → Bool) → Act → World → Prop} (hac : ∀ (i : Nat) (o : Oper), ops[i]? = some o → ∀ (e : Edge), e ∈ o.after → e.on < i)
    (hstep : ∀ L a w i o, ops[i]? = some o → L i = false → (∀ e ∈ o.after, Region.binds md e = true → L e.on = true) → J L a w → wpList P ops (Exit.then (J (fun j => if j = i then true else L j)) Q) [o] a w)
    (hend : ∀ L a w, (∀ i, i < ops.size → L i = true) → J L a w → Q .normal a w) :
    ∀ (fuel : Nat) (listed : Array Bool) (a : Act) (w : World), listed.size = ops.size → cnt listed ≤ fuel → J (fun j => listed.getD j false) a w → wpAny P md ops Q fuel listed a w := by
  intro fuel
  induction fuel with
  | zero =>
    intro listed a w hs hc hJ
    have hall : ∀ i, i < ops.size → listed.getD i false = true := by
      intro i hi
      have hl : i < listed.size := by omega
      have := cnt_zero (l := listed.toList) (by unfold cnt at hc; omega) (i := i) (b := listed[i]) (by simp [hl])
      simp [Array.getD, hl, this]
    refine ⟨?_, hend _ a w hall hJ⟩
    cases hr : Region.ready md ops listed with
    | nil => rfl
    | cons x xs =>
      exfalso
      obtain ⟨o, ho, hf, _⟩ := ready_mem (md := md) (ops := ops) (listed := listed) (i := x) (by rw [hr]; simp) hs
      have hx : x < ops.size := (Array.getElem?_eq_some_iff.1 ho).1
      have := hall x hx
      simp [Array.getD, show x < listed.size by omega] at this hf
      rw [this] at hf; cases hf
  | succ fuel ih =>
    intro listed a w hs hc hJ
    refine ⟨fun hr => hend _ a w (ready_nil hr hs hac) hJ, fun i hi => ?_⟩
    obtain ⟨o, ho, hf, hafter⟩ := ready_mem hi hs
    have hl : i < listed.size := (Array.getElem?_eq_some_iff.1 hf).1
    have hJ2 := hstep _ a w i o ho (by simp [Array.getD, hl] at hf ⊢; exact hf) hafter hJ
    refine wpOp_mono (fun a' w' h => ?_) (wpOp_of_list ho hJ2)
    refine ih (listed.setIfInBounds i true) a' w' (by simpa using hs) ?_ ?_
    · have := cnt_set listed.toList i (by simpa using hf)
      unfold cnt at hc ⊢
      simp only [Array.toList_setIfInBounds]
      omega
    · have e : (fun j => (listed.setIfInBounds i true).getD j false) = (fun j => if j = i then true else listed.getD j false) := by
        funext j
        by_cases hj : j = i
        · subst hj; simp [Array.getD, hl]
        · rw [if_neg hj]
          simp only [Array.getD, Array.size_setIfInBounds]
          split
          · exact Array.getElem_setIfInBounds_ne _ (fun e => hj e.symm)
          · rfl
      rw [e]; exact h

/-- a region that draws its order, by an invariant -/
theorem region_inv {id : Nat} {a : Act} {w : World} (hm : P.follows .mixedOrders = true) (J : (Nat → Bool) → Act → World → Prop)
    (h0 : J (fun _ => false) a w.drew) (hac : ∀ (i : Nat) (o : Oper), ops[i]? = some o → ∀ (e : Edge), e ∈ o.after → e.on < i)
    (hstep : ∀ L a w i o, ops[i]? = some o → L i = false → (∀ e ∈ o.after, Region.binds .any e = true → L e.on = true) → J L a w → wpList P ops (Exit.then (J (fun j => if j = i then true else L j)) Q) [o] a w)
    (hend : ∀ L a w, (∀ i, i < ops.size → L i = true) → J L a w → Q .normal a w) : (Code.region id ops true).wp P Q a w := by
  refine wp_region_any hm (wpAny_inv hac hstep hend ops.size _ a _ (by simp) ?_ ?_)
  · unfold cnt; exact Nat.le_trans (List.length_filter_le _ _) (by simp)
  · have e : (fun j => (Array.replicate ops.size false).getD j false) = (fun _ => false) := by
      funext j; simp [Array.getD]
    rw [e]; exact h0

theorem region_inv2 {id : Nat} {a : Act} {w : World} (hm : P.follows .mixedOrders = true) (J : Act → (Nat → Bool) → Act → World → Prop)
    (h0 : J a (fun _ => false) a w.drew) (hac : ∀ (i : Nat) (o : Oper), ops[i]? = some o → ∀ (e : Edge), e ∈ o.after → e.on < i)
    (hstep : ∀ L a' w i o, ops[i]? = some o → L i = false → (∀ e ∈ o.after, Region.binds .any e = true → L e.on = true) → J a L a' w → wpList P ops (Exit.then (J a (fun j => if j = i then true else L j)) Q) [o] a' w)
    (hend : ∀ L a' w, (∀ i, i < ops.size → L i = true) → J a L a' w → Q .normal a' w) : (Code.region id ops true).wp P Q a w :=
  region_inv hm (J a) h0 hac hstep hend

/-- each operation waits for earlier ones alone -/
def acyc (ops : Array Oper) : Bool := (List.range ops.size).all fun i => ((ops[i]?).map fun o => o.after.toList.all fun e => decide (e.on < i)).getD true
theorem acyc_spec (h : acyc ops = true) : ∀ (i : Nat) (o : Oper), ops[i]? = some o → ∀ (e : Edge), e ∈ o.after → e.on < i := by
  intro i o ho e he
  unfold acyc at h
  rw [List.all_eq_true] at h
  have := h i (List.mem_range.2 (Array.getElem?_eq_some_iff.1 ho).1)
  rw [ho] at this
  simp only [Option.map_some, Option.getD_some, List.all_eq_true, decide_eq_true_eq] at this
  exact this e (by simpa using he)

end Go.Proofs.YtnillajhhimeiaaDoor
