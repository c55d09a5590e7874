/- What it means that a slice holds a natural number; contracts of nat.trim and nat.Add: for all numbers of at most 2^40 limbs. -/
import Derived.Test.YtnillajhhimeiaaDoorProg
import Derived.Test.YtnillajhhimeiaaDoorMath
import Derived.WalkKit
import Derived.WalkSpells
import Derived.Deep.QuietTactic
import Derived.BigQuiet
import Derived.Outline
import Derived.Lib.Hide
import Derived.WalkSmall
import Derived.Deep.OwnRows
namespace Go.Proofs.YtnillajhhimeiaaDoor
open Go.RowKit

/-- block b lies below N, or is a row of elements of type E: no box of another type is meant -/
def Own (N : Nat) (E : TypeId) (w : World) (b : Nat) : Prop := b < N ∨ ∃ cur fz, w.heap[b]? = some (.cells cur E fz)

/-- the slice of n limbs at a is the number m -/
def Nt (N : Nat) (w : World) (a : Option Addr) (n cap m : Nat) : Prop :=
  (n ≤ cap ∧ (a = none → cap = 0)) ∧ cap ≤ maxLen ∧ m < B ^ n ∧ (0 < n → ∃ b off, a = some ⟨b, off, none⟩ ∧ Own N 51 w b ∧ ∀ i, i < n → w.cell? ⟨b, off + i, none⟩ = some (.int .u32 (dig m i)))

theorem Own.of_block {N : Nat} {E : TypeId} {w w' : World} {b : Nat} (h : Own N E w b) (e : w'.heap[b]? = w.heap[b]?) : Own N E w' b := by
  rcases h with h | ⟨cur, fz, h⟩
  · exact .inl h
  · exact .inr ⟨cur, fz, e.trans h⟩

theorem Nt.below {N : Nat} {w w' : World} {a : Option Addr} {n cap m : Nat} (h : Nt N w a n cap m) (hb : Below w.heap.size w w') : Nt N w' a n cap m := by
  obtain ⟨h0, h1, h2, h3⟩ := h
  refine ⟨h0, h1, h2, fun hn => ?_⟩
  obtain ⟨b, off, e, ho, hc⟩ := h3 hn
  have hlt : b < w.heap.size := World.block_lt_of_cell? w _ (hc 0 hn)
  exact ⟨b, off, e, ho.of_block (hb.block b hlt), fun i hi => (hb.cell (p := ⟨b, off + i, none⟩) hlt).trans (hc i hi)⟩

/-- the same slice with other limits -/
theorem Nt.part {N : Nat} {w : World} {a : Option Addr} {n cap m k : Nat} (h : Nt N w a n cap m) (hk : k ≤ n) (hm : m < B ^ k) : Nt N w a k cap m := by
  obtain ⟨h0, h1, h2, h3⟩ := h
  refine ⟨⟨by have := h0.1; omega, h0.2⟩, h1, hm, fun hn => ?_⟩
  obtain ⟨b, off, e, ho, hc⟩ := h3 (by omega)
  exact ⟨b, off, e, ho, fun i hi => hc i (by omega)⟩
theorem Nt.trim {N : Nat} {w : World} {a : Option Addr} {n cap m : Nat} (h : Nt N w a n cap m) : Nt N w a (nlen m) cap m :=
  h.part (nlen_le h.2.2.1) (lt_pow_nlen m)
theorem Nt.len {N : Nat} {w : World} {a : Option Addr} {n cap m : Nat} (h : Nt N w a n cap m) : nlen m ≤ n := nlen_le h.2.2.1

/-- a row that the call made -/
theorem Nt.of_row {N : Nat} {w : World} {b n m : Nat} {f : Nat → Value} (h : w.rowIs b 51 n f) (hn : n ≤ maxLen) (hm : m < B ^ n) (hf : ∀ i, i < n → f i = .int .u32 (dig m i)) : Nt N w (some ⟨b, 0, none⟩) n n m := by
  refine ⟨⟨Nat.le_refl _, fun h => by cases h⟩, hn, hm, fun _ => ⟨b, 0, rfl, .inr ?_, fun i hi => ?_⟩⟩
  · obtain ⟨c, hc, _⟩ := h; exact ⟨c, _, hc⟩
  · rw [Nat.zero_add, h.cell hi, hf i hi]

theorem Nt.setCell {N : Nat} {w : World} {a : Option Addr} {n cap m : Nat} (h : Nt N w a n cap m) {p : Addr} {T : TypeId} {cur : Array Value} {fz : Nat × Nat} (hN : N ≤ p.block)
    (hp : w.heap[p.block]? = some (.cells cur T fz)) (hT : T ≠ 51) (v : Value) : Nt N (w.setCell p v) a n cap m := by
  obtain ⟨h0, h1, h2, h3⟩ := h
  refine ⟨h0, h1, h2, fun hn => ?_⟩
  obtain ⟨b, off, e, ho, hc⟩ := h3 hn
  have hne : b ≠ p.block := by
    rintro rfl
    rcases ho with ho | ⟨c, z, ho⟩
    · omega
    · rw [hp] at ho; simp at ho; exact hT ho.2.1
  have eb := Below.heap_setCell w p v b hne
  exact ⟨b, off, e, ho.of_block eb, fun i hi => (World.cell?_of_block (w := w) (a := ⟨b, off + i, none⟩) eb).trans (hc i hi)⟩

theorem Tryd.infoU32 : (Tryd.prog.info? 51).map (fun i => (i.zero, i.size, i.bytes)) = some (some (.int .u32 0), 1, 4) := by kernel_rfl
theorem Tryd.underNat : Tryd.prog.underlying 26 = some (.slice 51) := by kernel_rfl

set_option maxHeartbeats 400000 in
theorem trim_any {N : Nat} (a : Option Addr) (n cap m : Nat) (w : World) (h : Nt N w a n cap m) :
    Calls Tryd.prog 64 #[.slice a n cap] w fun e w' => e = .returned (.slice a (nlen m) cap) ∧ w = w' := by
  obtain ⟨⟨h0, _⟩, h1, h2, h3⟩ := h
  have hA := Lib.hid h3
  have HM := Lib.hid h2
  clear h2 h3
  unfold maxLen at h1
  go_enter Tryd.func64, Tryd.ntmps64
  go_wp2
  go_loop [0] (fun s => ∃ k, k ≤ n ∧ s = .slice a k cap ∧ Hid (m < B ^ k)) (fun s => match s with | .slice _ k _ => k | _ => 0)
  case atStart => exact ⟨n, Nat.le_refl _, rfl, HM⟩
  case round =>
    obtain ⟨k, hk, rfl, hmk⟩ := hrel
    by_cases hz : 0 < k
    · obtain ⟨b, off, rfl, _, hc⟩ := hA.out (by omega)
      have hcell := hc (k - 1) (by omega)
      have hz1 : ((k : Int) - 1).toNat = k - 1 := by omega
      clear hc
      have hd := dig_lt' m (k - 1)
      by_cases hd0 : dig m (k - 1) = 0
      · rw [hd0] at hcell
        have HD := Lib.hid hd0
        clear hd0
        go_wp2
        go_round
        case rel => exact ⟨k - 1, by omega, rfl, trim_zero hmk.out hz HD.out⟩
        case measure => simp; omega
      · have hb : ((dig m (k - 1) : Int) == 0) = false := by simp; omega
        have E := Lib.hid (trim_done hmk.out (.inr hd0))
        clear hd0
        go_wp2
        go_ret
        rw [← E.out]
        exact ⟨rfl, rfl⟩
    · obtain rfl : k = 0 := by omega
      have E := Lib.hid (trim_done hmk.out (.inl rfl))
      go_wp2
      go_ret
      rw [← E.out]
      exact ⟨rfl, rfl⟩

end Go.Proofs.YtnillajhhimeiaaDoor
