/- Contracts of integer.Make, Of, Sign and Neg: for all integers of at most 2^40 limbs. -/
import Derived.Test.YtnillajhhimeiaaDoorNatL
namespace Go.Proofs.YtnillajhhimeiaaDoor
open Go.RowKit

theorem bcell {W w1 : World} (hb : Below W.heap.size W w1) : (∀ b o, b < W.heap.size → w1.cell? ⟨b, o, none⟩ = W.cell? ⟨b, o, none⟩) ∧ (∀ b o, b < W.heap.size → w1.frozen? ⟨b, o, none⟩ = W.frozen? ⟨b, o, none⟩) :=
  ⟨fun b o h => hb.cell (p := ⟨b, o, none⟩) h, fun b o h => hb.frozen (p := ⟨b, o, none⟩) h⟩

theorem Nt.alloc {N : Nat} {w : World} {a : Option Addr} {n cap m : Nat} (h : Nt N w a n cap m) (o : Obj) : Nt N (w.alloc o) a n cap m :=
  h.below ((Below.refl _ _).alloc (Nat.le_refl _) o)

/-- block b is a box of type T -/
def Bx (w : World) (b : Nat) (T : TypeId) : Prop := ∃ cur fz, w.heap[b]? = some (.cells cur T fz)
theorem Bx.new (w : World) (c : Array Value) (T : TypeId) : Bx (w.alloc (.cells c T)) w.heap.size T := ⟨c, (0, 0), heap_alloc_new w _⟩
theorem Bx.lt {w : World} {b : Nat} {T : TypeId} (h : Bx w b T) : b < w.heap.size := by
  obtain ⟨c, f, h⟩ := h; exact (Array.getElem?_eq_some_iff.1 h).1
theorem Bx.below {w w' : World} {b : Nat} {T : TypeId} (h : Bx w b T) (hb : Below w.heap.size w w') : Bx w' b T := by
  have hl := h.lt
  obtain ⟨c, f, h⟩ := h; exact ⟨c, f, (hb.block b hl).trans h⟩
theorem Bx.alloc {w : World} {b : Nat} {T : TypeId} (h : Bx w b T) (o : Obj) : Bx (w.alloc o) b T := h.below ((Below.refl _ _).alloc (Nat.le_refl _) o)
theorem Bx.set {w : World} {b : Nat} {T : TypeId} (h : Bx w b T) (p : Addr) (v : Value) : Bx (w.setCell p v) b T := by
  obtain ⟨c, f, h⟩ := h
  by_cases e : b = p.block
  · subst e
    refine ⟨if p.spot.isSome then c else c.setIfInBounds p.off v, f, ?_⟩
    simp [World.setCell, Array.getElem?_modify, h]
  · exact ⟨c, f, (Below.heap_setCell _ _ _ _ e).trans h⟩
theorem Nt.set {N : Nat} {w : World} {a : Option Addr} {n cap m : Nat} (h : Nt N w a n cap m) {b o : Nat} {T : TypeId} (hN : N ≤ b) (hp : Bx w b T) (hT : T ≠ 51) (v : Value) : Nt N (w.setCell ⟨b, o, none⟩ v) a n cap m := by
  obtain ⟨c, f, hp⟩ := hp
  exact h.setCell (p := ⟨b, o, none⟩) hN hp hT v

set_option maxHeartbeats 1000000 in
theorem make_any {N : Nat} (neg : Bool) (a : Option Addr) (n cap m : Nat) (w : World) (hN : N ≤ w.heap.size) (h : Nt N w a n cap m) (hl : n ≤ 1099511627776) :
    Calls Tryd.prog 55 #[.bool neg, .slice a n cap] w fun e w' => ∃ r cr, e = .returned (.agg #[.bool (neg && decide (0 < m)), .slice r (nlen m) cr]) ∧ Nt N w' r (nlen m) cr m ∧ Below w.heap.size w w' := by
  have H := Lib.hid h
  clear h
  go_enter Tryd.func55, Tryd.ntmps55
  go_wp2_with fail
  refine (norm_any (N := N) _ _ _ m _ (H.out.alloc _) hl).mono ?_
  rintro e w1 ⟨r, cr, rfl, hn, hb⟩
  obtain ⟨hc, hf⟩ := bcell hb
  have hz : w.heap.size < w1.heap.size := by have := hb.size; simp at this; omega
  have HN := Lib.hid hn
  have HB := Lib.hid hb
  clear hn hb
  have HBX := Lib.hid ((Bx.new w #[.bool false, .slice none 0 0] 28).below HB.out)
  have hfin : ∀ v0 v1, Nt N ((w1.setCell ⟨w.heap.size, 0, none⟩ v0).setCell ⟨w.heap.size, 1, none⟩ v1) r (nlen m) cr m ∧ Below w.heap.size w ((w1.setCell ⟨w.heap.size, 0, none⟩ v0).setCell ⟨w.heap.size, 1, none⟩ v1) := fun v0 v1 =>
    ⟨(HN.out.set hN HBX.out (by decide) v0).set hN (HBX.out.set _ _) (by decide) v1, ((((Below.refl _ _).alloc (Nat.le_refl _) _).trans (HB.out.mono (by simp))).setCell (Nat.le_refl _) _).setCell (Nat.le_refl _) _⟩
  have HF := Lib.hid hfin
  clear hfin
  cases neg
  · go_wp2_with fail
    exact bodyPost_ret (v := .agg #[.bool false, .slice r (nlen m) cr]) (by simp [results, Tryd.results55, go_sem, hc]) rfl ⟨_, _, rfl, (HF.out _ _).1, (HF.out _ _).2⟩
  · have hd : decide (0 < nlen m) = decide (0 < m) := by
      rcases Nat.eq_zero_or_pos m with h | h
      · subst h; simp [nlen_zero]
      · have : nlen m ≠ 0 := fun e => by rw [nlen_eq_zero] at e; omega
        simp [h]; omega
    have HD := Lib.hid hd
    clear hd
    go_wp2_with fail
    exact bodyPost_ret (v := .agg #[.bool (decide (0 < nlen m)), .slice r (nlen m) cr]) (by simp [results, Tryd.results55, go_sem, hc]) rfl ⟨_, _, by rw [HD.out]; rfl, (HF.out _ _).1, (HF.out _ _).2⟩

/-- the integer with that sign and magnitude -/
def zI (ng : Bool) (m : Nat) : Int := if ng then -(m : Int) else m
theorem zI_abs (ng : Bool) (m : Nat) : (zI ng m).natAbs = m := by unfold zI; cases ng <;> simp
theorem zI_neg (ng : Bool) (m : Nat) : (ng && decide (0 < m)) = decide (zI ng m < 0) := by
  unfold zI; cases ng <;> simp <;> omega
theorem zI_norm (z : Int) : zI (decide (z < 0)) z.natAbs = z := by
  unfold zI
  by_cases h : z < 0 <;> simp [h] <;> omega

/-- what integer.Make returns, said by the integer -/
theorem make_z {N : Nat} (neg : Bool) (a : Option Addr) (n cap m : Nat) (w : World) (hN : N ≤ w.heap.size) (h : Nt N w a n cap m) (hl : n ≤ 1099511627776) (z : Int) (hz : zI neg m = z) :
    Calls Tryd.prog 55 #[.bool neg, .slice a n cap] w fun e w' => ∃ r cr, e = .returned (.agg #[.bool (decide (z < 0)), .slice r (nlen z.natAbs) cr]) ∧ Nt N w' r (nlen z.natAbs) cr z.natAbs ∧ Below w.heap.size w w' := by
  have h1 := make_any neg a n cap m w hN h hl
  rw [zI_neg, hz] at h1
  have h2 := zI_abs neg m
  rw [hz] at h2
  rw [h2]
  exact h1

theorem Nt.zero (N : Nat) (w : World) : Nt N w none 0 0 0 := ⟨⟨Nat.le_refl _, fun _ => rfl⟩, Nat.zero_le _, pB 0, fun h => by omega⟩

theorem conv_neg (z : Int) (h : -9223372036854775808 ≤ z) (h0 : z < 0) : IntKind.u64.wrap (-IntKind.u64.wrap z) = (z.natAbs : Int) := by
  rw [wrap_u64, wrap_u64]; omega

/-- behind the two stores into a result's box -/
theorem fin2 {N b0 b n m cr : Nat} {w w1 : World} {r : Option Addr} (hN : N ≤ b0) (hb : b0 ≤ b) (hbx : Bx w1 b 28) (hn : Nt N w1 r n cr m) (hbel : Below b0 w w1) (v0 v1 : Value) :
    Nt N ((w1.setCell ⟨b, 0, none⟩ v0).setCell ⟨b, 1, none⟩ v1) r n cr m ∧ Below b0 w ((w1.setCell ⟨b, 0, none⟩ v0).setCell ⟨b, 1, none⟩ v1) :=
  ⟨(hn.set (by omega) hbx (by decide) v0).set (by omega) (hbx.set _ _) (by decide) v1, (hbel.setCell hb _).setCell hb _⟩

set_option maxHeartbeats 1000000 in
theorem iof_any {N : Nat} (z : Int) (w : World) (hN : N ≤ w.heap.size) (h1 : -9223372036854775808 ≤ z) (h2 : z ≤ 9223372036854775807) :
    Calls Tryd.prog 24 #[.int .i64 z] w fun e w' => ∃ r cr, e = .returned (.agg #[.bool (decide (z < 0)), .slice r (nlen z.natAbs) cr]) ∧ Nt N w' r (nlen z.natAbs) cr z.natAbs ∧ Below w.heap.size w w' := by
  have l2 := nlen_two (m := z.natAbs) (by omega)
  by_cases h0 : z < 0
  · have HZ := Lib.hid (show zI true z.natAbs = z by unfold zI; simp; omega)
    have HC := Lib.hid (conv_neg z h1 h0)
    have hb1 : z.natAbs < 18446744073709551616 := by omega
    go_enter Tryd.func24, Tryd.ntmps24
    go_wp2_with fail
    rw [HC.out]
    refine (of_any (N := N) z.natAbs _ hb1).mono ?_
    rintro e wa ⟨rwa, cwa, rfl, hn, hb⟩
    obtain ⟨hcwa, hfwa⟩ := bcell hb
    have hzwa0 : w.heap.size < wa.heap.size := by have := hb.size; (try simp at this); omega
    have HBwa := Lib.hid hb
    have HNwa := Lib.hid hn
    clear hb hn
    go_wp2_with fail
    refine (make_z (N := N) true _ _ _ z.natAbs _ (by omega) HNwa.out (by omega) z HZ.out).mono ?_
    rintro e wb ⟨rwb, cwb, rfl, hn, hb⟩
    obtain ⟨hcwb, hfwb⟩ := bcell hb
    have hzwb0 : w.heap.size < wb.heap.size := by have := hb.size; (try simp at this); omega
    have HBwb := Lib.hid hb
    have HNwb := Lib.hid hn
    clear hb hn
    have HX := Lib.hid (((Bx.new w #[.bool false, .slice none 0 0] 28).below HBwa.out).below HBwb.out)
    have HF := Lib.hid (fun v0 v1 => fin2 hN (Nat.le_refl _) HX.out HNwb.out ((((Below.refl w.heap.size w).alloc (Nat.le_refl _) _).trans (HBwa.out.mono (by simp))).trans (HBwb.out.mono (by omega))) v0 v1)
    go_wp2_with fail
    exact bodyPost_ret (v := .agg #[.bool true, .slice rwb (nlen z.natAbs) cwb]) (by simp [results, Tryd.results24, go_sem, hcwa, hcwb, hzwa0]) rfl ⟨_, _, by simp [h0], (HF.out _ _).1, (HF.out _ _).2⟩
  · obtain ⟨k, rfl⟩ := Int.eq_ofNat_of_zero_le (show 0 ≤ z by omega)
    rw [Int.natAbs_natCast] at l2 ⊢
    have HZ := Lib.hid (show zI false k = (k : Int) by rfl)
    have hb1 : k < 18446744073709551616 := by omega
    have HE := Lib.hid (Int.natAbs_natCast k)
    go_enter Tryd.func24, Tryd.ntmps24
    go_wp2_with fail
    refine (of_any (N := N) k _ hb1).mono ?_
    rintro e wa ⟨rwa, cwa, rfl, hn, hb⟩
    obtain ⟨hcwa, hfwa⟩ := bcell hb
    have hzwa0 : w.heap.size < wa.heap.size := by have := hb.size; (try simp at this); omega
    have HBwa := Lib.hid hb
    have HNwa := Lib.hid hn
    clear hb hn
    go_wp2_with fail
    refine (make_z (N := N) false _ _ _ k _ (by omega) HNwa.out (by omega) (k : Int) HZ.out).mono ?_
    rw [HE.out]
    rintro e wb ⟨rwb, cwb, rfl, hn, hb⟩
    obtain ⟨hcwb, hfwb⟩ := bcell hb
    have hzwb0 : w.heap.size < wb.heap.size := by have := hb.size; (try simp at this); omega
    have HBwb := Lib.hid hb
    have HNwb := Lib.hid hn
    clear hb hn
    have HX := Lib.hid (((Bx.new w #[.bool false, .slice none 0 0] 28).below HBwa.out).below HBwb.out)
    have HF := Lib.hid (fun v0 v1 => fin2 hN (Nat.le_refl _) HX.out HNwb.out ((((Below.refl w.heap.size w).alloc (Nat.le_refl _) _).trans (HBwa.out.mono (by simp))).trans (HBwb.out.mono (by omega))) v0 v1)
    go_wp2_with fail
    exact bodyPost_ret (v := .agg #[.bool (decide ((k : Int) < 0)), .slice rwb (nlen k) cwb]) (by simp [results, Tryd.results24, go_sem, hcwa, hcwb, hzwa0]) rfl ⟨_, _, rfl, (HF.out _ _).1, (HF.out _ _).2⟩

end Go.Proofs.YtnillajhhimeiaaDoor
