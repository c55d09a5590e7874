/- A slice of the call's own behind a sort or a compaction: what it holds, and that nothing else has turned. Over any program. No condition. -/
import Derived.Test.YtonnbcongnkcdaaProg
import Derived.WalkKit
import Derived.OwnWalk
import Derived.Sort.Row
import Derived.Sort.Grow
import Derived.Shelf.GgSortFunc.InsertionK
namespace Go.Proofs.Ytonnbcongnkcdaa
open Go Go.Sort

section
variable {α : Type} [Inhabited α]
theorem heap_putRow (enc : α → Value) (w : World) (g : Nat) (d : Array α) (m : Nat) (os : Array Obj) (hg : g < w.heap.size) {cur : Array Value} {e : TypeId} {fz : Nat × Nat} (h : w.heap[g]? = some (.cells cur e fz)) :
    (grow (putRow enc (Sort.ahead w m) g 0 d) os).heap[g]? = some (.cells (putCells enc 0 d cur) e fz) := by
  rw [heap_grow_old _ _ (by simpa using hg)]
  unfold putRow mapBlock
  simp only [heap_ahead, Array.getElem?_modify, if_true, h, Option.map_some, onCells]
theorem heap_putRow_other (enc : α → Value) (w : World) (g : Nat) (d : Array α) (m : Nat) (os : Array Obj) {k : Nat} (hk : k < w.heap.size) (hne : g ≠ k) :
    (grow (putRow enc (Sort.ahead w m) g 0 d) os).heap[k]? = w.heap[k]? := by
  rw [heap_grow_old _ _ (by simpa using hk)]
  unfold putRow mapBlock
  simp only [heap_ahead, Array.getElem?_modify, if_neg hne]
theorem grown_putRow (enc : α → Value) (w : World) (g : Nat) (d : Array α) (m : Nat) (os : Array Obj) : w.grownBy (grow (putRow enc (Sort.ahead w m) g 0 d) os) (some g) :=
  ⟨rfl, rfl, rfl, by simp, fun k hk hne => heap_putRow_other enc w g d m os hk (fun e => hne (by rw [e]))⟩
theorem take_putCells (enc : α → Value) (d : Array α) (cur : Array Value) (h : d.size ≤ cur.size) : (putCells enc 0 d cur).toList.take d.size = d.toList.map enc := by
  apply List.ext_getElem?
  intro i
  by_cases hi : i < d.size
  · rw [List.getElem?_take, if_pos hi, List.getElem?_map]
    have h1 : i < cur.size := by omega
    simp only [Array.getElem?_toList, putCells, Array.getElem?_mapIdx]
    rw [Array.getElem?_eq_getElem h1]
    simp [hi]
  · rw [List.getElem?_take, if_neg hi]
    simp [hi]
theorem own_putRow (enc : α → Value) {w : World} {base g n size cap : Nat} {e : TypeId} {xs : List Value} (h : w.ownsRow base e size (.slice (some ⟨g, 0, none⟩) n cap) n xs) (d : Array α) (hd : d.size = n * size) (m : Nat) (os : Array Obj) :
    (grow (putRow enc (Sort.ahead w m) g 0 d) os).ownsRow base e size (.slice (some ⟨g, 0, none⟩) n cap) n (d.toList.map enc) := by
  have hlt := (h.lt g rfl).2
  refine ⟨by simp [hd], ?_⟩
  rcases h.2 with ⟨hv, _⟩ | ⟨g', cap', cur, hv, hb, hh, hn, hcap, hs, _⟩
  · cases hv
  · simp only [Value.slice.injEq, Option.some.injEq, Addr.mk.injEq] at hv
    obtain ⟨⟨rfl, _⟩, _, rfl⟩ := hv
    refine .inr ⟨g, cap, putCells enc 0 d cur, rfl, hb, heap_putRow enc w g d m os hlt hh, hn, hcap, by simpa [putCells] using hs, ?_⟩
    have h1 : n * size ≤ cap * size := Nat.mul_le_mul_right size hn
    rw [← hd]; exact take_putCells enc d cur (by omega)
end
theorem own_cut {w : World} {base g n n' size cap : Nat} {e : TypeId} {xs : List Value} (h : w.ownsRow base e size (.slice (some ⟨g, 0, none⟩) n cap) n xs) (hn : n' ≤ n) :
    w.ownsRow base e size (.slice (some ⟨g, 0, none⟩) n' cap) n' (xs.take (n' * size)) := by
  have h1 : n' * size ≤ n * size := Nat.mul_le_mul_right size hn
  refine ⟨by rw [List.length_take, h.1]; omega, ?_⟩
  rcases h.2 with ⟨hv, _⟩ | ⟨g', cap', cur, hv, hb, hh, hn', hcap, hs, ht⟩
  · cases hv
  · simp only [Value.slice.injEq, Option.some.injEq, Addr.mk.injEq] at hv
    obtain ⟨⟨rfl, _⟩, _, rfl⟩ := hv
    refine .inr ⟨g, cap, cur, rfl, hb, hh, by omega, hcap, hs, ?_⟩
    rw [← ht, List.take_take, Nat.min_eq_left h1]
/-- what the cells of a row of the call's own hold -/
theorem own_holds {w : World} {base g n cap : Nat} {e : TypeId} {α : Type} [Inhabited α] {enc : α → Value} {zs : List α} (h : w.ownsRow base e 1 (.slice (some ⟨g, 0, none⟩) n cap) n (zs.map enc)) : Holds enc w g 0 zs.toArray := by
  have hl : zs.length = n := by have := h.1; simpa using this
  rcases h.2 with ⟨hv, _⟩ | ⟨g', cap', cur, hv, hb, hh, hn', hcap, hs, ht⟩
  · cases hv
  · simp only [Value.slice.injEq, Option.some.injEq, Addr.mk.injEq] at hv
    obtain ⟨⟨rfl, _⟩, _, rfl⟩ := hv
    intro j hj
    have hj' : j < zs.length := by simpa using hj
    have h2 : (cur.toList.take (n * 1))[j]? = (zs.map enc)[j]? := by rw [ht]
    rw [List.getElem?_take, if_pos (by omega), List.getElem?_map, List.getElem?_eq_getElem hj'] at h2
    refine ⟨?_, ?_⟩
    · simp only [World.cell?, hh, Nat.zero_add]
      simp only [Array.getElem?_toList] at h2
      simp [h2, hj']
    · simp [World.frozen?, hh]

/-- the slice v is the call's own (its block is not below B) and holds the numbers zs -/
def Ow (B : Nat) (E : TypeId) (w : World) (v : Value) (zs : List Int) : Prop := w.ownsRow B E 1 v zs.length (zs.map (Value.int .i64))
theorem Ow.nil (B : Nat) (E : TypeId) (w : World) : Ow B E w (.slice none 0 0) [] := ⟨rfl, .inl ⟨rfl, rfl⟩⟩
theorem Ow.push {B : Nat} {E : TypeId} {w : World} {v : Value} {l : List Int} {x : Int} (h : w.ownsRow B E 1 v (l.length + 1) (l.map (Value.int .i64) ++ [.int .i64 x])) : Ow B E w v (l ++ [x]) := by
  unfold Ow; rw [List.length_append, List.map_append]; exact h
theorem Ow.grown {B : Nat} {E : TypeId} {w w' : World} {v : Value} {l : List Int} {row : Option Nat} (h : Ow B E w v l) (hg : w.grownBy w' row) (hne : v.ownBlock = none ∨ v.ownBlock ≠ row) : Ow B E w' v l := World.ownsRow.kept h hg hne
theorem Ow.below {B : Nat} {E : TypeId} {w w' : World} {v : Value} {l : List Int} (h : Ow B E w v l) (hb : Go.RowKit.Below w.heap.size w w') : Ow B E w' v l :=
  World.ownsRow.kept (row := none) h ⟨hb.os, hb.tape, hb.output, hb.size, fun k hk _ => hb.block k hk⟩ (by cases v.ownBlock <;> simp)
theorem Ow.lt {B : Nat} {E : TypeId} {w : World} {v : Value} {l : List Int} (h : Ow B E w v l) : ∀ b, v.ownBlock = some b → B ≤ b ∧ b < w.heap.size := World.ownsRow.lt h
theorem Ow.open {B : Nat} {E : TypeId} {w : World} {v : Value} {l : List Int} (h : Ow B E w v l) :
    (v = .slice none 0 0 ∧ l = []) ∨ ∃ g cap, v = .slice (some ⟨g, 0, none⟩) l.length cap ∧ B ≤ g ∧ g < w.heap.size ∧ l.length ≤ cap ∧ cap ≤ maxLen ∧ ∀ j, j < l.length → w.cell? ⟨g, j, none⟩ = some (.int .i64 (l.getD j 0)) ∧ w.frozen? ⟨g, j, none⟩ = false := by
  rcases h.2 with ⟨hv, h0⟩ | ⟨g, cap, cur, rfl, hb, hh, hn', hcap, hs, ht⟩
  · exact .inl ⟨hv, List.length_eq_zero_iff.1 h0⟩
  · have hH := own_holds h
    refine .inr ⟨g, cap, rfl, hb, (Array.getElem?_eq_some_iff.1 hh).1, hn', hcap, fun j hj => ?_⟩
    have h2 := hH j (by simpa using hj)
    rw [Nat.zero_add] at h2
    refine ⟨by rw [h2.1]; simp [hj, List.getD], h2.2⟩
theorem Ow.len {B : Nat} {E : TypeId} {w : World} {v : Value} {l : List Int} (h : Ow B E w v l) : l.length ≤ maxLen := by
  rcases h.open with ⟨_, rfl⟩ | ⟨g, cap, _, _, _, h1, h2, _⟩
  · exact Nat.zero_le _
  · omega
end Go.Proofs.Ytonnbcongnkcdaa
