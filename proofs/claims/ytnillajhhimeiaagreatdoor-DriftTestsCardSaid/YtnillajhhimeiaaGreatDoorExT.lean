import Derived.Test.YtnillajhhimeiaaGreatDoorJoF
import Derived.Test.YtnillajhhimeiaaGreatDoorJoPr
namespace Go.Proofs.YtnillajhhimeiaaGreatDoor
open Go.RowKit
theorem Nt.lit {N : Nat} (w : World) (x b : Nat) (hb : b = w.heap.size) (h : x < 4294967296) : Nt N (w.alloc (.cells #[.int .u32 x] 58)) (some ⟨b,0,none⟩) 1 1 x := by
  subst hb
  refine ⟨⟨Nat.le_refl _,fun h => by cases h⟩,by unfold maxLen;omega,by rw [Nat.pow_one,B_eq];exact h,fun _ => ⟨w.heap.size,0,rfl,.inr ⟨_,_,heap_alloc_new w _⟩,fun i hi => ?_⟩⟩
  obtain rfl : i = 0 := by omega
  unfold dig
  rw [Nat.pow_zero,Nat.div_one,Nat.mod_eq_of_lt (by rw [B_eq];exact h)]
  go_simp
def PartPost (N : Nat) (w : World) (q : Rat) (e : Ending) (w' : World) : Prop :=
  ∃ r r2,e = .returned (.agg #[.bool false,.slice r 1 1,.slice r2 1 1]) ∧ Rt N w' false r 1 1 r2 1 1 q 1 ∧ Below w.heap.size w w'
def Ss (w : World) (a : Option Addr) (n cap : Nat) (s : Nat → ByteArray) : Prop :=
  n ≤ cap ∧ cap ≤ maxLen ∧ (0 < n → ∃ b off,a = some ⟨b,off,none⟩ ∧ ∀ i,i < n → w.cell? ⟨b,off + i,none⟩ = some (.string (s i)))
theorem Ss.below {w w' : World} {a : Option Addr} {n cap : Nat} {s : Nat → ByteArray} (h : Ss w a n cap s) (hb : Below w.heap.size w w') : Ss w' a n cap s := by
  obtain ⟨h0,h1,h2⟩ := h
  refine ⟨h0,h1,fun hn => ?_⟩
  obtain ⟨b,off,e,hc⟩ := h2 hn
  exact ⟨b,off,e,fun i hi => cell_mono (hc i hi) hb⟩
def sel3 {α : Type} (x y z : α) (i : Nat) : α := if i = 0 then x else if i = 1 then y else z
theorem Ss.three (w : World) (b : Nat) (hb : b = w.heap.size) (x y z : ByteArray) : Ss (w.alloc (.cells #[.string x,.string y,.string z] 9)) (some ⟨b,0,none⟩) 3 3 (sel3 x y z) := by
  subst hb
  refine ⟨Nat.le_refl _,by unfold maxLen;omega,fun _ => ⟨w.heap.size,0,rfl,fun i hi => ?_⟩⟩
  obtain rfl | rfl | rfl : i = 0 ∨ i = 1 ∨ i = 2 := by omega
  all_goals (simp only [sel3];go_simp)
theorem Rs.three {N : Nat} {w : World} {s s' s2 : Bool} {a d a' d' a2 d2 : Option Addr} {na ca nd cd na' ca' nd' cd' na2 ca2 nd2 cd2 L : Nat} {x y z : Rat} (b : Nat) (hb : b = w.heap.size) (h : Rt N w s a na ca d nd cd x L) (h' : Rt N w s' a' na' ca' d' nd' cd' y L) (h2 : Rt N w s2 a2 na2 ca2 d2 nd2 cd2 z L) :
    Rs N (w.alloc (.cells #[.bool s,.slice a na ca,.slice d nd cd,.bool s',.slice a' na' ca',.slice d' nd' cd',.bool s2,.slice a2 na2 ca2,.slice d2 nd2 cd2] 29)) (some ⟨b,0,none⟩) 3 3 (sel3 x y z) L := by
  subst hb
  refine ⟨Nat.le_refl _,by unfold maxLen;omega,fun _ => ⟨w.heap.size,0,rfl,fun i hi => ?_⟩⟩
  obtain rfl | rfl | rfl : i = 0 ∨ i = 1 ∨ i = 2 := by omega
  · exact ⟨s,a,na,ca,d,nd,cd,by go_simp,by go_simp,by go_simp,h.below (bel1 w _)⟩
  · exact ⟨s',a',na',ca',d',nd',cd',by go_simp,by go_simp,by go_simp,h'.below (bel1 w _)⟩
  · exact ⟨s2,a2,na2,ca2,d2,nd2,cd2,by go_simp,by go_simp,by go_simp,h2.below (bel1 w _)⟩
def Tx (q : Rat) (sv : ByteArray) : Prop := 0 ≤ q.num ∧ q.num.natAbs < 1000000000 ∧ q.den < 1000000000 ∧ (⟨(txt q).toArray⟩ : ByteArray) = sv
theorem print_is {N : Nat} (s : Bool) (a d : Option Addr) (na ca nd cd L : Nat) (q : Rat) (w : World) (hN : N ≤ w.heap.size) (h : Rt N w s a na ca d nd cd q L) (hL : L ≤ 68719476736) (htab : TabW w) (sv : ByteArray) (ht : Tx q sv) :
    Calls Tryz.prog 32 #[.agg #[.bool s,.slice a na ca,.slice d nd cd]] w fun e w' => e = .returned (.string sv) ∧ Below w.heap.size w w' := by
  refine (ratPrint_any s a d na ca nd cd L q w hN h hL htab).mono ?_
  rintro e w' ⟨l,rfl,_,hl,hb⟩
  obtain ⟨h1,h2,h3,h4⟩ := ht
  exact ⟨by rw [hl h1 h2 h3,h4],hb⟩
end Go.Proofs.YtnillajhhimeiaaGreatDoor
