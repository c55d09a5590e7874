/- A region that draws its order, by an invariant; its edges may run backward where they do not bind. No condition. -/
import Derived.Test.YtmecipfdelgfbaaDoorAl
namespace Go.Proofs.YtmecipfdelgfbaaDoor
open Go

variable {P : Program} {ops : Array Oper} {Q : Exit → Act → World → Prop}

theorem ready_nil3 {md : Region.Mode} {listed : Array Bool} (h : Region.ready md ops listed = []) (hs : listed.size = ops.size) (hac : ∀ (i : Nat) (o : Oper), ops[i]? = some o → ∀ (e : Edge), e ∈ o.after → Region.binds md e = true → e.on < i) :
    ∀ i, i < ops.size → listed.getD i false = true := by
  intro i
  induction i using Nat.strongRecOn with
  | ind i ih =>
    intro hi
    cases hc : listed.getD i false with
    | true => rfl
    | false =>
      exfalso
      have ho : ops[i]? = some ops[i] := by simp [hi]
      have hm : i ∈ Region.ready md ops listed := by
        unfold Region.ready
        rw [List.mem_filter]
        refine ⟨by simpa using hi, ?_⟩
        have hl : i < listed.size := by omega
        have hc' : listed.getD i true = false := by simp [Array.getD, hl] at hc ⊢; exact hc
        rw [hc', ho]
        simp only [Bool.not_false, Option.map_some, Option.getD_some, Bool.true_and, Array.all_eq_true]
        intro j hj
        cases hbd : Region.binds md ops[i].after[j] with
        | false => simp
        | true =>
          have hlt := hac i _ ho ops[i].after[j] (Array.getElem_mem hj) hbd
          have := ih _ hlt (by omega)
          simp [this]
      rw [h] at hm; cases hm

theorem wpAny_inv3 {md : Region.Mode} {J : (Nat → Bool) → Act → World → Prop} (hac : ∀ (i : Nat) (o : Oper), ops[i]? = some o → ∀ (e : Edge), e ∈ o.after → Region.binds md e = true → e.on < i)
    (hstep : ∀ L a w i o, ops[i]? = some o → L i = false → (∀ e ∈ o.after, Region.binds md e = true → L e.on = true) → J L a w → wpList P ops (Exit.then (J (fun j => if j = i then true else L j)) Q) [o] a w)
    (hend : ∀ L a w, (∀ i, i < ops.size → L i = true) → J L a w → Q .normal a w) :
    ∀ (fuel : Nat) (listed : Array Bool) (a : Act) (w : World), listed.size = ops.size → cnt listed ≤ fuel → J (fun j => listed.getD j false) a w → wpAny P md ops Q fuel listed a w := by
  intro fuel
  induction fuel with
  | zero =>
    intro listed a w hs hc hJ
    have hall : ∀ i, i < ops.size → listed.getD i false = true := by
      intro i hi
      have hl : i < listed.size := by omega
      have := cnt_zero (l := listed.toList) (by unfold cnt at hc; omega) (i := i) (b := listed[i]) (by simp [hl])
      simp [Array.getD, hl, this]
    refine ⟨?_, hend _ a w hall hJ⟩
    cases hr : Region.ready md ops listed with
    | nil => rfl
    | cons x xs =>
      exfalso
      obtain ⟨o, ho, hf, _⟩ := ready_mem (md := md) (ops := ops) (listed := listed) (i := x) (by rw [hr]; simp) hs
      have hx : x < ops.size := (Array.getElem?_eq_some_iff.1 ho).1
      have := hall x hx
      simp [Array.getD, show x < listed.size by omega] at this hf
      rw [this] at hf; cases hf
  | succ fuel ih =>
    intro listed a w hs hc hJ
    refine ⟨fun hr => hend _ a w (ready_nil3 hr hs hac) hJ, fun i hi => ?_⟩
    obtain ⟨o, ho, hf, hafter⟩ := ready_mem hi hs
    have hl : i < listed.size := (Array.getElem?_eq_some_iff.1 hf).1
    have hJ2 := hstep _ a w i o ho (by simp [Array.getD, hl] at hf ⊢; exact hf) hafter hJ
    refine wpOp_mono (fun a' w' h => ?_) (wpOp_of_list ho hJ2)
    refine ih (listed.setIfInBounds i true) a' w' (by simpa using hs) ?_ ?_
    · have := cnt_set listed.toList i (by simpa using hf)
      unfold cnt at hc ⊢
      simp only [Array.toList_setIfInBounds]
      omega
    · have e : (fun j => (listed.setIfInBounds i true).getD j false) = (fun j => if j = i then true else listed.getD j false) := by
        funext j
        by_cases hj : j = i
        · subst hj; simp [Array.getD, hl]
        · rw [if_neg hj]
          simp only [Array.getD, Array.size_setIfInBounds]
          split
          · exact Array.getElem_setIfInBounds_ne _ (fun e => hj e.symm)
          · rfl
      rw [e]; exact h

/-- a region that draws its order, by an invariant -/
theorem region_inv3a {id : Nat} {a : Act} {w : World} (hm : P.follows .mixedOrders = true) (J : (Nat → Bool) → Act → World → Prop)
    (h0 : J (fun _ => false) a w.drew) (hac : ∀ (i : Nat) (o : Oper), ops[i]? = some o → ∀ (e : Edge), e ∈ o.after → Region.binds .any e = true → e.on < i)
    (hstep : ∀ L a w i o, ops[i]? = some o → L i = false → (∀ e ∈ o.after, Region.binds .any e = true → L e.on = true) → J L a w → wpList P ops (Exit.then (J (fun j => if j = i then true else L j)) Q) [o] a w)
    (hend : ∀ L a w, (∀ i, i < ops.size → L i = true) → J L a w → Q .normal a w) : (Code.region id ops true).wp P Q a w := by
  refine wp_region_any hm (wpAny_inv3 hac hstep hend ops.size _ a _ (by simp) ?_ ?_)
  · unfold cnt; exact Nat.le_trans (List.length_filter_le _ _) (by simp)
  · have e : (fun j => (Array.replicate ops.size false).getD j false) = (fun _ => false) := by
      funext j; simp [Array.getD]
    rw [e]; exact h0

theorem region_inv3 {id : Nat} {a : Act} {w : World} (hm : P.follows .mixedOrders = true) (J : Act → (Nat → Bool) → Act → World → Prop)
    (h0 : J a (fun _ => false) a w.drew) (hac : ∀ (i : Nat) (o : Oper), ops[i]? = some o → ∀ (e : Edge), e ∈ o.after → Region.binds .any e = true → e.on < i)
    (hstep : ∀ L a' w i o, ops[i]? = some o → L i = false → (∀ e ∈ o.after, Region.binds .any e = true → L e.on = true) → J a L a' w → wpList P ops (Exit.then (J a (fun j => if j = i then true else L j)) Q) [o] a' w)
    (hend : ∀ L a' w, (∀ i, i < ops.size → L i = true) → J a L a' w → Q .normal a' w) : (Code.region id ops true).wp P Q a w :=
  region_inv3a hm (J a) h0 hac hstep hend

/-- each operation waits for earlier ones alone -/
def acyc3 (ops : Array Oper) : Bool := (List.range ops.size).all fun i => ((ops[i]?).map fun o => o.after.toList.all fun e => !(Region.binds .any e) || decide (e.on < i)).getD true
theorem acyc3_spec (h : acyc3 ops = true) : ∀ (i : Nat) (o : Oper), ops[i]? = some o → ∀ (e : Edge), e ∈ o.after → Region.binds .any e = true → e.on < i := by
  intro i o ho e he hb
  unfold acyc3 at h
  rw [List.all_eq_true] at h
  have := h i (List.mem_range.2 (Array.getElem?_eq_some_iff.1 ho).1)
  rw [ho] at this
  simp only [Option.map_some, Option.getD_some, List.all_eq_true, Bool.or_eq_true, Bool.not_eq_true', decide_eq_true_eq] at this
  rcases this e (by simpa using he) with h1 | h1
  · rw [hb] at h1; cases h1
  · exact h1

end Go.Proofs.YtmecipfdelgfbaaDoor
