/- Contracts of integer.Sign, Neg, Mul, Add and Cmp: for all integers of at most 2^39 limbs. -/
import Derived.Test.YtnillajhhimeiaaDoorIntA
import Derived.Deep.RegionHeld3
namespace Go.Proofs.YtnillajhhimeiaaDoor
open Go.RowKit

theorem cell_set2 (w : World) (b o1 o2 : Nat) (v1 v2 : Value) (b' o' : Nat) (h : b' ≠ b) : ((w.setCell ⟨b, o1, none⟩ v1).setCell ⟨b, o2, none⟩ v2).cell? ⟨b', o', none⟩ = w.cell? ⟨b', o', none⟩ := by
  rw [World.cell?_of_block (w := w.setCell ⟨b, o1, none⟩ v1) (Below.heap_setCell _ _ _ _ h), World.cell?_of_block (w := w) (Below.heap_setCell _ _ _ _ h)]
theorem cell_set3 (w : World) (b o1 o2 o3 : Nat) (v1 v2 v3 : Value) (b' o' : Nat) (h : b' ≠ b) : (((w.setCell ⟨b, o1, none⟩ v1).setCell ⟨b, o2, none⟩ v2).setCell ⟨b, o3, none⟩ v3).cell? ⟨b', o', none⟩ = w.cell? ⟨b', o', none⟩ := by
  rw [World.cell?_of_block (w := (w.setCell ⟨b, o1, none⟩ v1).setCell ⟨b, o2, none⟩ v2) (Below.heap_setCell _ _ _ _ h), cell_set2 _ _ _ _ _ _ _ _ h]
theorem nlen_bound {N : Nat} {w : World} {a : Option Addr} {n cap m : Nat} (h : Nt N w a n cap m) (L : Nat) (hl : n ≤ L) : nlen m ≤ L := Nat.le_trans h.len hl

theorem zI_mul (sa sb : Bool) (ma mb : Nat) : zI (sa != sb) (ma * mb) = zI sa ma * zI sb mb := by
  unfold zI
  cases sa <;> cases sb <;> simp [Int.neg_mul, Int.mul_neg]

theorem Bx.new' (w : World) (c : Array Value) (T : TypeId) (b : Nat) (h : b = w.heap.size) : Bx (w.alloc (.cells c T)) b T := by subst h; exact Bx.new w c T
theorem bel1 (w : World) (o1 : Obj) : Below w.heap.size w (w.alloc o1) := (Below.refl _ _).alloc (Nat.le_refl _) o1
theorem bel2 (w : World) (o1 o2 : Obj) : Below w.heap.size w ((w.alloc o1).alloc o2) := (bel1 w o1).alloc (by simp) o2
theorem bel3 (w : World) (o1 o2 o3 : Obj) : Below w.heap.size w (((w.alloc o1).alloc o2).alloc o3) := (bel2 w o1 o2).alloc (by simp; omega) o3
theorem bel4 (w : World) (o1 o2 o3 o4 : Obj) : Below w.heap.size w ((((w.alloc o1).alloc o2).alloc o3).alloc o4) := (bel3 w o1 o2 o3).alloc (by simp; omega) o4
theorem Bx.drewB {w w' : World} {b : Nat} {T : TypeId} (h : Bx w b T) (hb : Below w.drew.heap.size w.drew w') : Bx w' b T := h.below (bel_of_drew hb)

set_option maxHeartbeats 4000000 in
theorem imul_any {N : Nat} (sa sb : Bool) (a b : Option Addr) (na ca ma nb cb mb : Nat) (w : World) (hN : N ≤ w.heap.size) (ha : Nt N w a na ca ma) (hb : Nt N w b nb cb mb) (la : na ≤ 274877906944) (lb : nb ≤ 274877906944) (z : Int) (hz : zI sa ma * zI sb mb = z) :
    Calls Tryd.prog 35 #[.agg #[.bool sa, .slice a na ca], .agg #[.bool sb, .slice b nb cb]] w fun e w' => ∃ r cr, e = .returned (.agg #[.bool (decide (z < 0)), .slice r (nlen z.natAbs) cr]) ∧ Nt N w' r (nlen z.natAbs) cr z.natAbs ∧ Below w.heap.size w w' := by
  have HZ := Lib.hid ((zI_mul sa sb ma mb).trans hz)
  have lm := Nat.le_trans (nlen_mul ma mb) (Nat.add_le_add (nlen_bound ha _ la) (nlen_bound hb _ lb))
  have HA := Lib.hid (((ha.alloc (.cells #[.bool sa, .slice a na ca] 28)).alloc (.cells #[.bool sb, .slice b nb cb] 28)).alloc (.cells #[.bool false, .slice none 0 0] 28))
  have HB := Lib.hid (((hb.alloc (.cells #[.bool sa, .slice a na ca] 28)).alloc (.cells #[.bool sb, .slice b nb cb] 28)).alloc (.cells #[.bool false, .slice none 0 0] 28))
  clear ha hb hz
  go_enter Tryd.func35, Tryd.ntmps35
  go_wp2_with fail
  go_region_held3 (fun w' => w'.cell? ⟨w.heap.size, 0, none⟩ = some (.bool sa) ∧ w'.cell? ⟨w.heap.size, 1, none⟩ = some (.slice a na ca) ∧ w'.cell? ⟨w.heap.size + 1, 0, none⟩ = some (.bool sb) ∧ w'.cell? ⟨w.heap.size + 1, 1, none⟩ = some (.slice b nb cb))
    (first | (go_keep; done) | ((try dsimp only); (repeat' apply And.intro) <;> (first | (go_keep; done) | (rw [cell_set2 _ _ _ _ _ _ _ _ (by omega)]; assumption) | (rw [cell_set3 _ _ _ _ _ _ _ _ _ _ (by omega)]; assumption))))
    (first
      | (go_at_call 59; refine (mul_any (N := N) _ _ _ _ ma _ _ mb _ (by simp; omega) (by exact HA.out) (by exact HB.out) (by omega) (by omega)).mono ?_; rintro e wa ⟨ra, ca', rfl, hn, hb⟩; have kwa0 : wa.cell? ⟨w.heap.size, 0, none⟩ = some (.bool sa) := (hb.cell (p := ⟨w.heap.size, 0, none⟩) (by first | (simp; done) | (simp; omega))).trans (by go_simp); have kwa1 : wa.cell? ⟨w.heap.size, 1, none⟩ = some (.slice a na ca) := (hb.cell (p := ⟨w.heap.size, 1, none⟩) (by first | (simp; done) | (simp; omega))).trans (by go_simp); have kwa2 : wa.cell? ⟨w.heap.size + 1, 0, none⟩ = some (.bool sb) := (hb.cell (p := ⟨w.heap.size + 1, 0, none⟩) (by first | (simp; done) | (simp; omega))).trans (by go_simp); have kwa3 : wa.cell? ⟨w.heap.size + 1, 1, none⟩ = some (.slice b nb cb) := (hb.cell (p := ⟨w.heap.size + 1, 1, none⟩) (by first | (simp; done) | (simp; omega))).trans (by go_simp); have hzwa0 : w.heap.size < wa.heap.size := (by have := hb.size; (try simp at this); omega); have hzwa1 : w.heap.size + 1 < wa.heap.size := (by have := hb.size; (try simp at this); omega); have hzwa2 : w.heap.size + 2 < wa.heap.size := (by have := hb.size; (try simp at this); omega); obtain ⟨hcwa, hfwa⟩ := bcell hb; have HBwa := Lib.hid hb; have HNwa := Lib.hid hn; clear hb hn)
      | (go_at_call 55; refine (make_z (N := N) (sa != sb) _ _ _ (ma * mb) _ (by omega) (by exact HNwa.out) (by omega) z HZ.out).mono ?_; rintro e wb ⟨rb, cb', rfl, hn, hb⟩; have kwb0 : wb.cell? ⟨w.heap.size, 0, none⟩ = some (.bool sa) := (hb.cell (p := ⟨w.heap.size, 0, none⟩) (by omega)).trans kwa0; have kwb1 : wb.cell? ⟨w.heap.size, 1, none⟩ = some (.slice a na ca) := (hb.cell (p := ⟨w.heap.size, 1, none⟩) (by omega)).trans kwa1; have kwb2 : wb.cell? ⟨w.heap.size + 1, 0, none⟩ = some (.bool sb) := (hb.cell (p := ⟨w.heap.size + 1, 0, none⟩) (by omega)).trans kwa2; have kwb3 : wb.cell? ⟨w.heap.size + 1, 1, none⟩ = some (.slice b nb cb) := (hb.cell (p := ⟨w.heap.size + 1, 1, none⟩) (by omega)).trans kwa3; have hzwb0 : w.heap.size < wb.heap.size := (by have := hb.size; (try simp at this); omega); have hzwb1 : w.heap.size + 1 < wb.heap.size := (by have := hb.size; (try simp at this); omega); have hzwb2 : w.heap.size + 2 < wb.heap.size := (by have := hb.size; (try simp at this); omega); obtain ⟨hcwb, hfwb⟩ := bcell hb; have HBwb := Lib.hid hb; have HNwb := Lib.hid hn; clear hb hn))
  have HX := Lib.hid (((Bx.new' ((w.alloc (.cells #[.bool sa, .slice a na ca] 28)).alloc (.cells #[.bool sb, .slice b nb cb] 28)) #[.bool false, .slice none 0 0] 28 (w.heap.size + 1 + 1) (by simp)).drewB HBwa.out).below HBwb.out)
  have HF := Lib.hid (fun v0 v1 => fin2 hN (by omega) HX.out HNwb.out (((bel3 w _ _ _).trans ((bel_of_drew HBwa.out).mono (by first | (simp; done) | (simp; omega)))).trans (HBwb.out.mono (by omega))) v0 v1)
  go_wp2_with fail
  exact bodyPost_ret (v := .agg #[.bool (decide (z < 0)), .slice rb (nlen z.natAbs) cb']) (by simp [results, Tryd.results35, go_sem, hcwa, hcwb, hzwa2]) rfl ⟨_, _, rfl, (HF.out _ _).1, (HF.out _ _).2⟩

theorem cmpN_zero (m : Nat) : cmpN m 0 = if 0 < m then 1 else 0 := by unfold cmpN; rw [if_neg (by omega)]
theorem cmpN_bd (a b : Nat) : -1 ≤ cmpN a b ∧ cmpN a b ≤ 1 := by unfold cmpN; split <;> (try split) <;> omega
theorem sign_f (m : Nat) : cmpN m 0 = (zI false m).sign := by
  rw [cmpN_zero]; unfold zI
  rcases Nat.eq_zero_or_pos m with h | h
  · subst h; rfl
  · rw [if_pos h]; simp only [Bool.false_eq_true, if_false]; exact (Int.sign_eq_one_of_pos (by omega)).symm
theorem sign_t (m : Nat) : -(cmpN m 0) = (zI true m).sign := by
  rw [sign_f]; unfold zI; simp

set_option maxHeartbeats 1000000 in
theorem isign_any {N : Nat} (sa : Bool) (a : Option Addr) (na ca ma : Nat) (w : World) (ha : Nt N w a na ca ma) :
    Calls Tryd.prog 37 #[.agg #[.bool sa, .slice a na ca]] w fun e w' => e = .returned (.int .i64 (zI sa ma).sign) ∧ Below w.heap.size w w' := by
  have HA := Lib.hid (ha.alloc (.cells #[.bool sa, .slice a na ca] 28))
  clear ha
  have hbd := cmpN_bd ma 0
  cases sa
  · have HE := Lib.hid (sign_f ma)
    go_enter Tryd.func37, Tryd.ntmps37
    go_wp2_with fail
    refine (cmp_any (N := N) _ _ _ _ ma _ _ 0 _ HA.out (Nt.zero _ _)).mono ?_
    rintro e w1 ⟨rfl, q, rfl⟩
    go_wp2_with fail
    go_ret
    rw [← HE.out]
    exact ⟨rfl, below_drewN (bel1 _ _) _⟩
  · have HE := Lib.hid (sign_t ma)
    go_enter Tryd.func37, Tryd.ntmps37
    go_wp2_with fail
    refine (cmp_any (N := N) _ _ _ _ ma _ _ 0 _ HA.out (Nt.zero _ _)).mono ?_
    rintro e w1 ⟨rfl, q, rfl⟩
    go_wp2_with fail
    go_ret
    rw [← HE.out]
    exact ⟨rfl, below_drewN (bel1 _ _) _⟩

theorem zI_not (sa : Bool) (m : Nat) : zI (!sa) m = -zI sa m := by unfold zI; cases sa <;> simp

end Go.Proofs.YtnillajhhimeiaaDoor
