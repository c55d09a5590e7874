/- What a walk keeps: worlds by name, old blocks and rows of limbs. No condition. -/
import Derived.Test.YtnillajhhimeiaaDoorRatG
namespace Go.Proofs.YtnillajhhimeiaaDoor
open Go.RowKit

theorem calls_name {P : Program} {f : FuncId} {args : Array Value} {w : World} {Q : Ending → World → Prop} (h : ∀ W, w = W → Calls P f args W Q) : Calls P f args w Q := h w rfl
theorem region_name {P : Program} {Q : Exit → Act → World → Prop} {id : Nat} {ops : Array Oper} {b : Bool} {a : Act} {w : World} (h : ∀ W, w = W → (Code.region id ops b).wp P Q a W) : (Code.region id ops b).wp P Q a w := h w rfl

/-- old blocks and rows of limbs are as they were -/
def Kp (N : Nat) (w w' : World) : Prop := w.heap.size ≤ w'.heap.size ∧ ∀ b, b < w.heap.size → Own N 51 w b → w'.heap[b]? = w.heap[b]?
theorem Kp.refl (N : Nat) (w : World) : Kp N w w := ⟨Nat.le_refl _, fun _ _ _ => rfl⟩
theorem Kp.trans {N : Nat} {a b c : World} (h : Kp N a b) (k : Kp N b c) : Kp N a c :=
  ⟨Nat.le_trans h.1 k.1, fun i hi ho => (k.2 i (by have := h.1; omega) (ho.of_block (h.2 i hi ho))).trans (h.2 i hi ho)⟩
theorem Kp.below {N : Nat} {w w' : World} (hb : Below w.heap.size w w') : Kp N w w' := ⟨hb.size, fun b h _ => hb.block b h⟩
theorem Kp.alloc {N : Nat} {w W : World} (h : Kp N w W) (o : Obj) : Kp N w (W.alloc o) := h.trans (Kp.below (bel1 W o))
theorem Kp.drew {N : Nat} {w W : World} (h : Kp N w W) : Kp N w W.drew := h.trans (Kp.below (Below.refl _ _).drew)
theorem Kp.set {N : Nat} {w W : World} {b o : Nat} {T : TypeId} (h : Kp N w W) (hN : N ≤ b) (hp : Bx W b T) (hT : T ≠ 51) (v : Value) : Kp N w (W.setCell ⟨b, o, none⟩ v) := by
  refine ⟨by simpa [World.setCell] using h.1, fun i hi ho => ?_⟩
  have e := h.2 i hi ho
  have hne : i ≠ b := by
    rintro rfl
    rcases ho with ho | ⟨c, z, ho⟩
    · omega
    · obtain ⟨c2, z2, hp⟩ := hp
      rw [ho, hp] at e; simp at e; exact hT e.2.1
  exact (Below.heap_setCell W ⟨b, o, none⟩ v i hne).trans e
theorem Nt.keep {N : Nat} {w w' : World} {a : Option Addr} {n cap m : Nat} (h : Nt N w a n cap m) (k : Kp N w w') : Nt N w' a n cap m := by
  obtain ⟨h0, h1, h2, h3⟩ := h
  refine ⟨h0, h1, h2, fun hn => ?_⟩
  obtain ⟨b, off, e, ho, hc⟩ := h3 hn
  have hlt : b < w.heap.size := World.block_lt_of_cell? w _ (hc 0 hn)
  have eb := k.2 b hlt ho
  exact ⟨b, off, e, ho.of_block eb, fun i hi => (World.cell?_of_block (w := w) (a := ⟨b, off + i, none⟩) eb).trans (hc i hi)⟩
theorem Rt.keep {N : Nat} {w w' : World} {s : Bool} {a d : Option Addr} {na ca nd cd L : Nat} {q : Rat} (h : Rt N w s a na ca d nd cd q L) (k : Kp N w w') : Rt N w' s a na ca d nd cd q L := by
  obtain ⟨h0, h1, h2, mn, md, h3, h4, h5⟩ := h
  exact ⟨h0, h1, h2, mn, md, h3.keep k, h4.keep k, h5⟩
/-- block b is a box, but no row of limbs -/
def Bn (w : World) (b : Nat) : Prop := ∃ T, Bx w b T ∧ T ≠ 51
theorem Bx.bn {w : World} {b : Nat} {T : TypeId} (h : Bx w b T) (hT : T ≠ 51) : Bn w b := ⟨T, h, hT⟩
theorem Bn.alloc {w : World} {b : Nat} (h : Bn w b) (o : Obj) : Bn (w.alloc o) b := by obtain ⟨T, h, hT⟩ := h; exact ⟨T, h.alloc o, hT⟩
theorem Bn.set {w : World} {b : Nat} (h : Bn w b) (p : Addr) (v : Value) : Bn (w.setCell p v) b := by obtain ⟨T, h, hT⟩ := h; exact ⟨T, h.set p v, hT⟩
theorem Bn.drew {w : World} {b : Nat} (h : Bn w b) : Bn w.drew b := h
theorem Bn.below {w w' : World} {b : Nat} (h : Bn w b) (hb : Below w.heap.size w w') : Bn w' b := by obtain ⟨T, h, hT⟩ := h; exact ⟨T, h.below hb, hT⟩
theorem Bn.new (w : World) (c : Array Value) (T : TypeId) (b : Nat) (h : b = w.heap.size) (hT : T ≠ 51) : Bn (w.alloc (.cells c T)) b := ⟨T, Bx.new' w c T b h, hT⟩
theorem Kp.put {N : Nat} {w W : World} {b o : Nat} (h : Kp N w W) (hN : N ≤ b) (hp : Bn W b) (v : Value) : Kp N w (W.setCell ⟨b, o, none⟩ v) := by obtain ⟨T, hp, hT⟩ := hp; exact h.set hN hp hT v
theorem Bx.drew {w : World} {b : Nat} {T : TypeId} (h : Bx w b T) : Bx w.drew b T := h
theorem size_set (w : World) (p : Addr) (v : Value) : (w.setCell p v).heap.size = w.heap.size := by simp [World.setCell]
theorem size_drew (w : World) : w.drew.heap.size = w.heap.size := rfl
theorem size_alloc (w : World) (o : Obj) : (w.alloc o).heap.size = w.heap.size + 1 := by simp

/-- block g is a box of three cells -/
def Box3 (w : World) (g : Nat) (v0 v1 v2 : Value) : Prop := g < w.heap.size ∧ Bn w g ∧ (∀ o, w.frozen? ⟨g, o, none⟩ = false) ∧ w.cell? ⟨g, 0, none⟩ = some v0 ∧ w.cell? ⟨g, 1, none⟩ = some v1 ∧ w.cell? ⟨g, 2, none⟩ = some v2
/-- block g holds the rational number q, of at most L limbs -/
def QBox (N : Nat) (w : World) (g : Nat) (q : Rat) (L : Nat) : Prop := ∃ s a na ca d nd cd, Box3 w g (.bool s) (.slice a na ca) (.slice d nd cd) ∧ Rt N w s a na ca d nd cd q L
/-- block g holds the rational number q in normal form -/
def NBox (N : Nat) (w : World) (g : Nat) (q : Rat) : Prop := ∃ r c r2 c2, Box3 w g (.bool (decide (q.num < 0))) (.slice r (nlen q.num.natAbs) c) (.slice r2 (nlen q.den) c2) ∧ Nt N w r (nlen q.num.natAbs) c q.num.natAbs ∧ Nt N w r2 (nlen q.den) c2 q.den

/-- what a walk keeps, by the build of its world -/
theorem KpA {P : Prop} (h : P := by (repeat' (first | with_reducible exact Kp.refl _ _ | with_reducible exact Hid.out (by with_reducible assumption) | with_reducible apply Kp.alloc | with_reducible apply Kp.drew | (with_reducible refine Kp.put ?_ ?_ ?_ _; rotate_left; (focus (first | omega | (simp; done) | (simp; omega))); rotate_left) | (with_reducible refine Bn.new _ _ _ _ ?_ ?_; (focus (first | omega | (simp; done) | (simp; omega))); decide) | with_reducible apply Bn.alloc | with_reducible apply Bn.drew | with_reducible apply Bn.set))) : P := h
theorem BlA {P : Prop} (h : P := by (repeat' (first | with_reducible exact Below.refl _ _ | with_reducible exact Hid.out (by with_reducible assumption) | (with_reducible refine Below.alloc ?_ ?_ _; rotate_left; (focus (first | omega | (simp; done) | (simp; omega)))) | with_reducible apply Below.drew | (with_reducible refine Below.setCell ?_ ?_ _; rotate_left; (focus (first | omega | (simp; done) | (simp; omega))))))) : P := h
theorem KBA {P : Prop} (h : P := by first | ((repeat' (first | with_reducible exact Kp.refl _ _ | with_reducible exact Hid.out (by with_reducible assumption) | with_reducible apply Kp.alloc | with_reducible apply Kp.drew | (with_reducible refine Kp.put ?_ ?_ ?_ _; rotate_left; (focus (first | omega | (simp; done) | (simp; omega))); rotate_left) | (with_reducible refine Bn.new _ _ _ _ ?_ ?_; (focus (first | omega | (simp; done) | (simp; omega))); decide) | with_reducible apply Bn.alloc | with_reducible apply Bn.drew | with_reducible apply Bn.set)); done) | ((repeat' (first | with_reducible exact Below.refl _ _ | with_reducible exact Hid.out (by with_reducible assumption) | (with_reducible refine Below.alloc ?_ ?_ _; rotate_left; (focus (first | omega | (simp; done) | (simp; omega)))) | with_reducible apply Below.drew | (with_reducible refine Below.setCell ?_ ?_ _; rotate_left; (focus (first | omega | (simp; done) | (simp; omega)))))); done) | (simp; omega)) : P := h

end Go.Proofs.YtnillajhhimeiaaDoor
