/- slices.SortFunc over a slice of the call's own of structs of two numbers. Over any program. No condition. -/
import Derived.Test.YtonnbcongnkcdaaOwS
import Derived.Shelf.SlSortCmp.NoneTotal
namespace Go.Proofs.Ytonnbcongnkcdaa
open Go Go.Sort Go.Shelf

def enc2 (p : Int × Int) : List Value := [.int .i64 p.1, .int .i64 p.2]
/-- the slice v is the call's own and holds the pairs zs -/
def Op2 (B : Nat) (E : TypeId) (w : World) (v : Value) (zs : List (Int × Int)) : Prop := w.ownsRow B E 2 v zs.length (zs.flatMap enc2)
theorem Op2.nil (B : Nat) (E : TypeId) (w : World) : Op2 B E w (.slice none 0 0) [] := ⟨rfl, .inl ⟨rfl, rfl⟩⟩
theorem Op2.push {B : Nat} {E : TypeId} {w : World} {v : Value} {l : List (Int × Int)} {x y : Int} (h : w.ownsRow B E 2 v (l.length + 1) (l.flatMap enc2 ++ [.int .i64 x, .int .i64 y])) : Op2 B E w v (l ++ [(x, y)]) := by
  unfold Op2; rw [List.length_append, List.flatMap_append]; exact h
theorem Op2.grown {B : Nat} {E : TypeId} {w w' : World} {v : Value} {l : List (Int × Int)} {row : Option Nat} (h : Op2 B E w v l) (hg : w.grownBy w' row) (hne : v.ownBlock = none ∨ v.ownBlock ≠ row) : Op2 B E w' v l := World.ownsRow.kept h hg hne
theorem Op2.below {B : Nat} {E : TypeId} {w w' : World} {v : Value} {l : List (Int × Int)} (h : Op2 B E w v l) (hb : Go.RowKit.Below w.heap.size w w') : Op2 B E w' v l :=
  World.ownsRow.kept (row := none) h ⟨hb.os, hb.tape, hb.output, hb.size, fun k hk _ => hb.block k hk⟩ (by cases v.ownBlock <;> simp)
theorem Op2.lt {B : Nat} {E : TypeId} {w : World} {v : Value} {l : List (Int × Int)} (h : Op2 B E w v l) : ∀ b, v.ownBlock = some b → B ≤ b ∧ b < w.heap.size := World.ownsRow.lt h
theorem flat_len (l : List (Int × Int)) : (l.flatMap enc2).length = l.length * 2 := by
  induction l with
  | nil => rfl
  | cons p l ih => rw [List.flatMap_cons, List.length_append, ih, List.length_cons]; simp [enc2]; omega
theorem flat_get : ∀ (l : List (Int × Int)) (t : Nat), t < l.length * 2 → (l.flatMap enc2)[t]! = (enc2 l[t / 2]!)[t % 2]!
  | [], t, h => by simp at h
  | p :: l, 0, _ => by simp [enc2]
  | p :: l, 1, _ => by simp [enc2]
  | p :: l, t + 2, h => by
    have h1 := flat_get l t (by simp at h; omega)
    rw [List.flatMap_cons, show (t + 2) / 2 = t / 2 + 1 by omega, show (t + 2) % 2 = t % 2 by omega]
    simp only [List.getElem!_cons_succ]
    rw [← h1]
    simp [enc2]
theorem flatK_list (d : Array (Int × Int)) : flatK enc2 2 d = (d.toList.flatMap enc2).toArray := by
  have hs : (d.toList.flatMap enc2).toArray.size = d.size * 2 := by rw [List.size_toArray, flat_len]; simp
  refine ext_get! (by rw [size_flatK, hs]) fun t ht => ?_
  rw [size_flatK] at ht
  rw [get_flatK enc2 2 d t ht]
  have h := flat_get d.toList t (by simpa using ht)
  have e : (d.toList.flatMap enc2).toArray[t]! = (d.toList.flatMap enc2)[t]! := by simp
  have e2 : d[t / 2]! = d.toList[t / 2]! := by
    have : t / 2 < d.size := by omega
    simp [this]
  rw [e, h, e2]
/-- what the cells of a row of the call's own hold -/
theorem own_holdsV {w : World} {base g n size cap : Nat} {e : TypeId} {xs : List Value} (h : w.ownsRow base e size (.slice (some ⟨g, 0, none⟩) n cap) n xs) : Holds id w g 0 xs.toArray := by
  have hl := h.1
  rcases h.2 with ⟨hv, _⟩ | ⟨g', cap', cur, hv, hb, hh, hn', hcap, hs, ht⟩
  · cases hv
  · simp only [Value.slice.injEq, Option.some.injEq, Addr.mk.injEq] at hv
    obtain ⟨⟨rfl, _⟩, _, rfl⟩ := hv
    intro j hj
    have hj' : j < xs.length := by simpa using hj
    have h2 : (cur.toList.take (n * size))[j]? = xs[j]? := by rw [ht]
    rw [List.getElem?_take, if_pos (by omega), List.getElem?_eq_getElem hj'] at h2
    refine ⟨?_, ?_⟩
    · simp only [World.cell?, hh, Nat.zero_add]
      simp only [Array.getElem?_toList] at h2
      simp [h2, hj']
    · simp [World.frozen?, hh]
theorem Op2.open {B : Nat} {E : TypeId} {w : World} {v : Value} {l : List (Int × Int)} (h : Op2 B E w v l) :
    (v = .slice none 0 0 ∧ l = []) ∨ ∃ g cap, v = .slice (some ⟨g, 0, none⟩) l.length cap ∧ B ≤ g ∧ g < w.heap.size ∧ l.length ≤ cap ∧ cap ≤ maxLen ∧ ∀ j, j < l.length → w.cell? ⟨g, j * 2, none⟩ = some (.int .i64 (l.getD j (0, 0)).1) ∧ w.cell? ⟨g, j * 2 + 1, none⟩ = some (.int .i64 (l.getD j (0, 0)).2) := by
  rcases h.2 with ⟨hv, h0⟩ | ⟨g, cap, cur, rfl, hb, hh, hn', hcap, hs, ht⟩
  · exact .inl ⟨hv, List.length_eq_zero_iff.1 h0⟩
  · have hH := own_holdsV h
    refine .inr ⟨g, cap, rfl, hb, (Array.getElem?_eq_some_iff.1 hh).1, hn', hcap, fun j hj => ?_⟩
    have h0 := (hH (j * 2) (by rw [List.size_toArray, flat_len]; omega)).1
    have h1 := (hH (j * 2 + 1) (by rw [List.size_toArray, flat_len]; omega)).1
    rw [Nat.zero_add] at h0 h1
    have f0 := flat_get l (j * 2) (by omega)
    have f1 := flat_get l (j * 2 + 1) (by omega)
    rw [show j * 2 / 2 = j by omega, show j * 2 % 2 = 0 by omega] at f0
    rw [show (j * 2 + 1) / 2 = j by omega, show (j * 2 + 1) % 2 = 1 by omega] at f1
    rw [h0, h1]
    simp at f0 f1 ⊢
    rw [f0, f1]
    simp [enc2, hj]
theorem permIn_list {d d' : Array (Int × Int)} (h : PermIn 0 d.size d d') : d'.toList.Perm d.toList := by
  obtain ⟨h1, _, h3⟩ := h
  have e : d'.extract 0 d.size = d' := by rw [← h1]; exact Array.extract_size
  rw [e, Array.extract_size] at h3
  exact h3
theorem sortedIn_list {lt : Int × Int → Int × Int → Bool} {d : Array (Int × Int)} (h : SortedIn lt 0 d.size d) : d.toList.Pairwise fun x y => lt y x = false := by
  rw [List.pairwise_iff_getElem]
  intro i j hi hj hij
  have hj' : j < d.size := by simpa using hj
  have := h i j (Nat.zero_le _) hij hj'
  simpa [hj', show i < d.size by omega] using this
theorem sortP_own {P : Program} {ρ : Ren} (L : SlLaysF0.n6 P ρ) (aE : ∀ w, (isAgg (ρ.t 24)).run P w = .ok true w) (zE : ∀ w, (Go.sizeOf (ρ.t 24)).run P w = .ok 2 w) (cf : Int × Int → Int × Int → Int) (hO : SWO (ltOf cf)) (g : Nat)
    (eg : ∀ args w, (callFunc g args).run P w = .ok (.enter g args) w) (hc : ∀ x y W, Calls P g #[.agg #[.int .i64 x.1, .int .i64 x.2], .agg #[.int .i64 y.1, .int .i64 y.2]] W fun e w' => e = .returned (.int .i64 (cf x y)) ∧ ∃ q os', w' = grow (W.drewN q) os')
    {B : Nat} {E : TypeId} (v : Value) (zs : List (Int × Int)) (w : World) (h : Op2 B E w v zs) (hl : zs.length < 4611686018427387904) :
    Calls P (ρ.f 6) #[v, .func (.func g) #[] #[]] w fun e w' => e = .returned (.tuple #[]) ∧ ∃ zs', Op2 B E w' v zs' ∧ zs'.Perm zs ∧ (zs'.Pairwise fun x y => ltOf cf y x = false) ∧ w.grownBy w' v.ownBlock := by
  rcases h.open with ⟨rfl, rfl⟩ | ⟨b, cap, rfl, hb, hg, _, _, _⟩
  · refine (AnyF.slices_SortFunc_none L none 0 _ w).mono fun e w' he => ?_
    obtain ⟨rfl, rfl⟩ := he
    exact ⟨rfl, [], h, List.Perm.nil, List.Pairwise.nil, ⟨rfl, rfl, rfl, Nat.le_refl _, fun _ _ _ => rfl⟩⟩
  · have hH : HoldsK enc2 2 w b 0 zs.toArray := by
      unfold HoldsK
      rw [flatK_list]
      exact own_holdsV h
    refine (AnyQ.slices_SortFunc L 2 aE zE enc2 (fun _ => rfl) (fun x v hv => by simp [enc2] at hv; rcases hv with rfl | rfl <;> rfl) cf hO g #[] b 0 cap zs.toArray w eg (fun _ _ _ _ x y => hc x y _) hH hg (by simpa using hl)).mono fun e w' he => ?_
    obtain ⟨rfl, d', n, os, hp, hs, rfl⟩ := he
    have hp2 := permIn_list hp
    have hlen : d'.size = zs.length := by simpa using hp2.length_eq
    have e1 := own_putRow id h (flatK enc2 2 d') (by rw [size_flatK, hlen]) n os
    rw [show (flatK enc2 2 d').toList.map id = d'.toList.flatMap enc2 by rw [flatK_list]; simp] at e1
    refine ⟨rfl, d'.toList, ?_, by simpa using hp2, sortedIn_list (by rw [show d'.size = zs.toArray.size by simpa using hlen]; exact hs), grown_putRow id w b (flatK enc2 2 d') n os⟩
    unfold Op2
    rw [show d'.toList.length = zs.length by simpa using hlen]
    exact e1
end Go.Proofs.Ytonnbcongnkcdaa
