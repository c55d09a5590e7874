/- The region 'm[k] = append(m[k], y)' of a map of slices: its words. No condition. -/
import Derived.Test.YtonnbcongnkcdaaMpG
import Derived.Test.YtonnbcongnkcdaaJoR1
namespace Go.Proofs.Ytonnbcongnkcdaa
open Go.RowKit

theorem mtG : MG Try.prog 62 3 31 := ⟨by kernel_rfl, by kernel_rfl, fun _ => by kernel_rfl⟩
theorem slUnder : Try.prog.underlying 31 = some (.slice 3) := by kernel_rfl
theorem infoIntG : (Try.prog.info? 3).map (fun i => (i.zero, i.size, i.bytes)) = some (some (.int .i64 0), 1, 8) := by kernel_rfl
def cloP : List (Nat × Nat) := [(2, 1), (5, 4), (6, 3), (6, 5), (8, 7), (9, 8)]
/-- what is done has been done behind what it asks -/
def CloG (L : Nat → Bool) : Prop := ∀ p ∈ cloP, L p.1 = true → L p.2 = true
theorem CloG.none : CloG (fun _ => false) := fun _ _ h => by cases h
theorem CloG.set {L : Nat → Bool} (h : CloG L) (i : Nat) (hd : ∀ p ∈ cloP, p.1 = i → L p.2 = true) : CloG (fun j => if j = i then true else L j) := by
  intro p hp h1
  show (if p.2 = i then true else L p.2) = true
  replace h1 : (if p.1 = i then true else L p.1) = true := h1
  by_cases e2 : p.2 = i
  · rw [if_pos e2]
  · rw [if_neg e2]
    by_cases e1 : p.1 = i
    · exact hd p hp e1
    · rw [if_neg e1] at h1; exact h p hp h1
theorem CloG.set' {L : Nat → Bool} (h : CloG L) (i : Nat) (hd : ∀ p ∈ cloP, p.1 = i → L p.2 = true) : CloG (fun j => decide (j = i) || L j) := by
  have e : (fun j => decide (j = i) || L j) = fun j => if j = i then true else L j := by
    funext j
    by_cases h : j = i <;> simp [h]
  rw [e]; exact h.set i hd
theorem CloG.all {L : Nat → Bool} (h : CloG L) (h6 : L 6 = true) (h9 : L 9 = true) : ∀ j, 3 ≤ j → j ≤ 9 → L j = true := by
  have h3 := h (6, 3) (by decide) h6
  have h5 := h (6, 5) (by decide) h6
  have h4 := h (5, 4) (by decide) h5
  have h8 := h (9, 8) (by decide) h9
  have h7 := h (8, 7) (by decide) h8
  intro j a b
  obtain rfl | rfl | rfl | rfl | rfl | rfl | rfl : j = 3 ∨ j = 4 ∨ j = 5 ∨ j = 6 ∨ j = 7 ∨ j = 8 ∨ j = 9 := by omega
  all_goals assumption
theorem CloG.low {L : Nat → Bool} (h : CloG L) (hm : ∀ j, 3 ≤ j → j ≤ 9 → L j = true) (h0 : L 0 = true) (h2 : L 2 = true) (h10 : L 10 = true) : ∀ j, j < 11 → L j = true := by
  have h1 := h (2, 1) (by decide) h2
  intro j hj
  by_cases a : 3 ≤ j ∧ j ≤ 9
  · exact hm j a.1 a.2
  · obtain rfl | rfl | rfl | rfl : j = 0 ∨ j = 1 ∨ j = 2 ∨ j = 10 := by omega
    all_goals assumption
/-- u is a new slice of the one number y -/
def NewS (y : Int) (u : Value) (w : World) : Prop := ∃ g c, u = .slice (some ⟨g, 0, none⟩) 1 c ∧ w.cell? ⟨g, 0, none⟩ = some (.int .i64 y) ∧ g < w.heap.size
theorem NewS.mk (w : World) (y : Int) (T : TypeId) : NewS y (.slice (some ⟨w.heap.size, 0, none⟩) 1 1) (w.alloc (.cells #[.int .i64 y] T)) := ⟨_, 1, rfl, by simp, by simp⟩
theorem cell_oneN {w : World} {g : Nat} {x : Value} (h : w.cell? ⟨g, 0, none⟩ = some x) : ∀ (j : Nat) (u : Value), [x][j]? = some u → w.cell? ((⟨g, 0, none⟩ : Addr).add j) = some u := by
  intro j u hj
  match j, hj with
  | 0, hj => simp at hj; subst hj; simpa [Addr.add] using h
theorem Since.alloc1 {W w : World} (h : Since W w) (o : Obj) : Since W (w.alloc o) := ⟨h.1.trans ((Below.alloc (Below.refl w.heap.size w) (Nat.le_refl _) o).mono h.2), by simp; have := h.2; omega⟩
/-- the slice v0 has grown to zs since W, and lies at u -/
structure AppS (base : Nat) (W : World) (v0 : Value) (zs : List Int) (u : Value) (w : World) : Prop where
  gr : W.grownBy w v0.ownBlock
  own : Ow base 3 w u zs
  loc : u.ownBlock = v0.ownBlock ∨ ∃ g, u.ownBlock = some g ∧ W.heap.size ≤ g
theorem since_gr {W w : World} (h : Since W w) (row : Option Nat) : W.grownBy w row := ⟨h.1.os, h.1.tape, h.1.output, h.2, fun k hk _ => h.1.block k hk⟩
theorem AppS.mk' {base : Nat} {W w w9 : World} {v0 u : Value} {zs : List Int} (hS : Since W w) (ho : Ow base 3 w9 u zs) (hg : w.grownBy w9 v0.ownBlock) (hat : u.ownBlock = v0.ownBlock ∨ u.ownBlock = some w.heap.size) : AppS base W v0 zs u w9 :=
  ⟨(since_gr hS _).trans hg, ho, hat.imp id fun h => ⟨_, h, hS.2⟩⟩
theorem AppS.cell {base : Nat} {W w : World} {v0 u : Value} {zs : List Int} (h : AppS base W v0 zs u w) {g : Nat} (hne : v0.ownBlock ≠ some g) (hl : g < W.heap.size) (k : Nat) : w.cell? ⟨g, k, none⟩ = W.cell? ⟨g, k, none⟩ := by
  have := h.gr.block g hl (fun e => hne e.symm)
  simp only [World.cell?, this]
theorem all_app {zs : List Int} {y : Int} (h : ∀ z ∈ zs, W64 z) (hy : W64 y) : ∀ z ∈ zs ++ [y], W64 z := fun z hz => by
  rcases List.mem_append.1 hz with hz | hz
  · exact h z hz
  · rw [List.mem_singleton] at hz; subst hz; exact hy
/-- behind the store -/
structure FinS (base b n g : Nat) (x : Int) (zs : List Int) (f : Int → List Int) (W w : World) : Prop where
  mg : Mg Try.prog 3 3 w base b (n + 1) (fun z => if z = x then zs else f z)
  box : w.heap[g]? = W.heap[g]?
  fr : ∀ W2 : World, W2.heap.size ≤ base → W2.grownBy W (some b) → W2.grownBy w (some b)
  size : W.heap.size ≤ w.heap.size
theorem AppS.fin {base b n g : Nat} {x : Int} {f : Int → List Int} {W w w9 : World} {v0 u : Value} {zs zs0 : List Int} (h : AppS base W v0 zs u w) (hne : v0.ownBlock ≠ some g) (hl : g < W.heap.size) (hnb : b ≠ g) (ho : Ow base 3 W v0 zs0)
    (hm : Mg Try.prog 3 3 w9 base b (n + 1) (fun z => if z = x then zs else f z)) (hg : w.grownBy w9 (some b)) : FinS base b n g x zs f W w9 :=
  ⟨hm, (hg.block g (Nat.lt_of_lt_of_le hl h.gr.size) (fun e => hnb (Option.some.inj e).symm)).trans (h.gr.block g hl (fun e => hne e.symm)),
   fun W2 hW hg2 => (hg2.andThen h.gr (fun j hj => .inl (Nat.le_trans hW (ho.lt j hj).1))).andThen hg (fun j hj => .inr (by cases hj; rfl)), Nat.le_trans h.gr.size hg.size⟩

end Go.Proofs.Ytonnbcongnkcdaa
