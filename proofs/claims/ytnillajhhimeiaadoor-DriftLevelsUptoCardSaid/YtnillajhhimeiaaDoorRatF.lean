/- Contracts of ratio.Make and Of. -/
import Derived.Test.YtnillajhhimeiaaDoorRatE
namespace Go.Proofs.YtnillajhhimeiaaDoor
open Go.RowKit

/-- it returns the normal form of q, and a word -/
def RatPost2 (N : Nat) (w : World) (q : Rat) (ok : Bool) (e : Ending) (w' : World) : Prop :=
  ∃ r cr r2 cr2, e = .returned (.tuple #[.agg #[.bool (decide (q.num < 0)), .slice r (nlen q.num.natAbs) cr, .slice r2 (nlen q.den) cr2], .bool ok]) ∧ Nt N w' r (nlen q.num.natAbs) cr q.num.natAbs ∧ Nt N w' r2 (nlen q.den) cr2 q.den ∧ Below w.heap.size w w'
theorem zI_sign_ne (s : Bool) (m : Nat) (h : 0 < m) : ((zI s m).sign == 0) = false := by
  unfold zI
  cases s
  · simp only [Bool.false_eq_true, if_false]; rw [Int.sign_eq_one_of_pos (by omega)]; rfl
  · simp only [if_true]; rw [Int.sign_eq_neg_one_of_neg (by omega)]; rfl
theorem zI_sign_zero (s : Bool) : ((zI s 0).sign == 0) = true := by cases s <;> rfl

set_option maxHeartbeats 4000000 in
theorem rmake_any {N : Nat} (s s' : Bool) (a a' : Option Addr) (na ca m na' ca' m' : Nat) (w : World) (hN : N ≤ w.heap.size) (h : Nt N w a na ca m) (h' : Nt N w a' na' ca' m') (hl : na ≤ 1099511627776) (hl' : na' ≤ 1099511627776) (p : Rat) (hp : mkRat (zI (s != s') m) m' = p) :
    Calls Tryd.prog 23 #[.agg #[.bool s, .slice a na ca], .agg #[.bool s', .slice a' na' ca']] w (RatPost2 N w p (decide (0 < m'))) := by
  have H := Lib.hid (((h.alloc (.cells #[.bool s, .slice a na ca] 28)).alloc (.cells #[.bool s', .slice a' na' ca'] 28)).alloc (.cells #[.bool false, .slice none 0 0, .slice none 0 0] 30))
  have H' := Lib.hid (((h'.alloc (.cells #[.bool s, .slice a na ca] 28)).alloc (.cells #[.bool s', .slice a' na' ca'] 28)).alloc (.cells #[.bool false, .slice none 0 0, .slice none 0 0] 30))
  have lm := nlen_bound h _ hl
  clear h h'
  rcases Nat.eq_zero_or_pos m' with h0 | h0
  · subst h0
    rw [Rat.mkRat_zero] at hp
    subst hp
    have hc0 := zI_sign_zero s'
    have HD := Lib.hid (show decide (0 < 0) = false from rfl)
    rw [HD.out]
    go_enter Tryd.func23, Tryd.ntmps23
    go_wp2_with fail
    refine (isign_any (N := N) _ _ _ _ 0 _ H'.out).mono ?_
    rintro e wa ⟨rfl, hb⟩
    obtain ⟨hcwa, hfwa⟩ := bcell hb
    have hzwa0 : w.heap.size < wa.heap.size := by have := hb.size; (try simp at this); omega
    have hzwa1 : w.heap.size + 1 < wa.heap.size := by have := hb.size; (try simp at this); omega
    have hzwa2 : w.heap.size + 1 + 1 < wa.heap.size := by have := hb.size; (try simp at this); omega
    have HBwa := Lib.hid hb
    clear hb 
    go_wp2_with fail
    refine (rzero_any (N := N) _ (by omega)).mono ?_
    rintro e wb ⟨rx, cx, rx2, cx2, rfl, hn, hn', hb⟩
    obtain ⟨hcwb, hfwb⟩ := bcell hb
    have hzwb0 : w.heap.size < wb.heap.size := by have := hb.size; (try simp at this); omega
    have hzwb1 : w.heap.size + 1 < wb.heap.size := by have := hb.size; (try simp at this); omega
    have hzwb2 : w.heap.size + 1 + 1 < wb.heap.size := by have := hb.size; (try simp at this); omega
    have HBwb := Lib.hid hb
    have HNwb := Lib.hid hn
    have HN'wb := Lib.hid hn'
    clear hb hn hn'
    have HX := Lib.hid ((((Bx.new' ((w.alloc (.cells #[.bool s, .slice a na ca] 28)).alloc (.cells #[.bool s', .slice a' na' ca'] 28)) #[.bool false, .slice none 0 0, .slice none 0 0] 30 (w.heap.size + 1 + 1) (by simp)).below HBwa.out)).below HBwb.out)
    have HF := Lib.hid (fun v0 v1 v2 => fin3 hN (by omega) HX.out HNwb.out HN'wb.out (((bel3 w _ _ _).trans (HBwa.out.mono (by first | omega | (simp; done) | (simp; omega)))).trans (HBwb.out.mono (by first | omega | (simp; done) | (simp; omega)))) v0 v1 v2)
    go_wp2_with fail
    exact bodyPost_ret (v := .tuple #[.agg #[.bool (decide ((0 : Rat).num < 0)), .slice rx (nlen (0 : Rat).num.natAbs) cx, .slice rx2 (nlen (0 : Rat).den) cx2], .bool false]) (by simp [results, Tryd.results23, go_sem, hcwa, hcwb, hzwa2]) rfl ⟨_, _, _, _, rfl, (HF.out _ _ _).1, (HF.out _ _ _).2.1, (HF.out _ _ _).2.2⟩
  · have hc0 := zI_sign_ne s' m' h0
    have HD := Lib.hid (show decide (0 < m') = true from decide_eq_true h0)
    rw [HD.out]
    obtain ⟨z, hz⟩ : ∃ z, zI (s != s') m = z := ⟨_, rfl⟩
    have lz : nlen z.natAbs ≤ nlen m := by rw [← hz, zI_abs]; exact Nat.le_refl _
    have HQ := Lib.hid (show mkRat (zI (decide (z < 0)) z.natAbs) m' = p by rw [zI_norm, ← hz, hp])
    have HZ := Lib.hid hz
    clear hz hp
    go_enter Tryd.func23, Tryd.ntmps23
    go_wp2_with fail
    refine (isign_any (N := N) _ _ _ _ m' _ H'.out).mono ?_
    rintro e wa ⟨rfl, hb⟩
    obtain ⟨hcwa, hfwa⟩ := bcell hb
    have hzwa0 : w.heap.size < wa.heap.size := by have := hb.size; (try simp at this); omega
    have hzwa1 : w.heap.size + 1 < wa.heap.size := by have := hb.size; (try simp at this); omega
    have hzwa2 : w.heap.size + 1 + 1 < wa.heap.size := by have := hb.size; (try simp at this); omega
    have HBwa := Lib.hid hb
    clear hb 
    have k0 : wa.cell? ⟨w.heap.size, 0, none⟩ = some (.bool s) := (HBwa.out.cell (p := ⟨w.heap.size, 0, none⟩) (by first | (simp; done) | (simp; omega))).trans (by go_simp)
    have k1 : wa.cell? ⟨w.heap.size + 1, 0, none⟩ = some (.bool s') := (HBwa.out.cell (p := ⟨w.heap.size + 1, 0, none⟩) (by first | (simp; done) | (simp; omega))).trans (by go_simp)
    have k2 : wa.cell? ⟨w.heap.size, 1, none⟩ = some (.slice a na ca) := (HBwa.out.cell (p := ⟨w.heap.size, 1, none⟩) (by first | (simp; done) | (simp; omega))).trans (by go_simp)
    have k3 : wa.cell? ⟨w.heap.size + 1, 1, none⟩ = some (.slice a' na' ca') := (HBwa.out.cell (p := ⟨w.heap.size + 1, 1, none⟩) (by first | (simp; done) | (simp; omega))).trans (by go_simp)
    have ewa0 : wa.cell? ⟨w.heap.size + 1 + 1, 0, none⟩ = some (.bool false) := (HBwa.out.cell (p := ⟨w.heap.size + 1 + 1, 0, none⟩) (by first | omega | (simp; done) | (simp; omega))).trans (by go_simp)
    have ewa1 : wa.cell? ⟨w.heap.size + 1 + 1, 1, none⟩ = some (.slice none 0 0) := (HBwa.out.cell (p := ⟨w.heap.size + 1 + 1, 1, none⟩) (by first | omega | (simp; done) | (simp; omega))).trans (by go_simp)
    have ewa2 : wa.cell? ⟨w.heap.size + 1 + 1, 2, none⟩ = some (.slice none 0 0) := (HBwa.out.cell (p := ⟨w.heap.size + 1 + 1, 2, none⟩) (by first | omega | (simp; done) | (simp; omega))).trans (by go_simp)
    have zwa : ∀ o, wa.frozen? ⟨w.heap.size + 1 + 1, o, none⟩ = false := fun o => (HBwa.out.frozen (p := ⟨w.heap.size + 1 + 1, o, none⟩) (by first | omega | (simp; done) | (simp; omega))).trans (by go_simp)
    go_wp2_with fail
    go_region_held3 (fun w' => w'.cell? ⟨w.heap.size, 0, none⟩ = some (.bool s) ∧ w'.cell? ⟨w.heap.size + 1, 0, none⟩ = some (.bool s') ∧ w'.cell? ⟨w.heap.size, 1, none⟩ = some (.slice a na ca) ∧ w'.cell? ⟨w.heap.size + 1, 1, none⟩ = some (.slice a' na' ca'))
      (first | (go_keep; done) | ((try dsimp only); (repeat' apply And.intro) <;> (first | (go_keep; done) | (exact cell_keep_alloc_drew (by first | omega | (simp; omega)) (by first | assumption | go_simp)) | (exact cell_keep_alloc (by first | omega | (simp; omega)) (by first | assumption | go_simp)) | (rw [cell_set2 _ _ _ _ _ _ _ _ (by omega)]; assumption) | (rw [cell_set3 _ _ _ _ _ _ _ _ _ _ (by omega)]; assumption))))
      (first
        | (go_at_call 55; refine (make_z (N := N) _ _ _ _ m _ (by exact (show N ≤ wa.heap.size by omega)) (by exact (show Nt N wa _ _ _ m from H.out.below HBwa.out)) (by omega) z HZ.out).mono ?_; rintro e wb ⟨rb, cb', rfl, hn, hb⟩; have kwb0 : wb.cell? ⟨w.heap.size, 0, none⟩ = some (.bool s) := (hb.cell (p := ⟨w.heap.size, 0, none⟩) (by first | (simp; done) | (simp; omega))).trans (by first | exact k0 | go_simp); have kwb1 : wb.cell? ⟨w.heap.size + 1, 0, none⟩ = some (.bool s') := (hb.cell (p := ⟨w.heap.size + 1, 0, none⟩) (by first | (simp; done) | (simp; omega))).trans (by first | exact k1 | go_simp); have kwb2 : wb.cell? ⟨w.heap.size, 1, none⟩ = some (.slice a na ca) := (hb.cell (p := ⟨w.heap.size, 1, none⟩) (by first | (simp; done) | (simp; omega))).trans (by first | exact k2 | go_simp); have kwb3 : wb.cell? ⟨w.heap.size + 1, 1, none⟩ = some (.slice a' na' ca') := (hb.cell (p := ⟨w.heap.size + 1, 1, none⟩) (by first | (simp; done) | (simp; omega))).trans (by first | exact k3 | go_simp); have hzwb0 : w.heap.size < wb.heap.size := (by have := hb.size; (try simp at this); omega); have hzwb1 : w.heap.size + 1 < wb.heap.size := (by have := hb.size; (try simp at this); omega); have hzwb2 : w.heap.size + 1 + 1 < wb.heap.size := (by have := hb.size; (try simp at this); omega); obtain ⟨hcwb, hfwb⟩ := bcell hb; have HBwb := Lib.hid hb; have HNwb := Lib.hid hn; have ewb0 : wb.cell? ⟨w.heap.size + 1 + 1, 0, none⟩ = some (.bool false) := (hb.cell (p := ⟨w.heap.size + 1 + 1, 0, none⟩) (by first | omega | (simp; done) | (simp; omega))).trans (by exact ewa0); have ewb1 : wb.cell? ⟨w.heap.size + 1 + 1, 1, none⟩ = some (.slice none 0 0) := (hb.cell (p := ⟨w.heap.size + 1 + 1, 1, none⟩) (by first | omega | (simp; done) | (simp; omega))).trans (by exact ewa1); have ewb2 : wb.cell? ⟨w.heap.size + 1 + 1, 2, none⟩ = some (.slice none 0 0) := (hb.cell (p := ⟨w.heap.size + 1 + 1, 2, none⟩) (by first | omega | (simp; done) | (simp; omega))).trans (by exact ewa2); have zwb : ∀ o, wb.frozen? ⟨w.heap.size + 1 + 1, o, none⟩ = false := (fun o => (hb.frozen (p := ⟨w.heap.size + 1 + 1, o, none⟩) (by first | omega | (simp; done) | (simp; omega))).trans (by exact zwa o)); clear hb hn)
        | (go_at_call 54; refine (reduce_any (N := N) _ _ _ _ _ z.natAbs _ _ m' _ (by omega) (by exact HNwb.out) (by exact (H'.out.below HBwa.out).below (bel_of_drew HBwb.out)) (by omega) (by omega) h0 p HQ.out).mono ?_; rintro e wc ⟨rx, cx, rx2, cx2, rfl, hn, hn', hb⟩; have kwc0 : wc.cell? ⟨w.heap.size, 0, none⟩ = some (.bool s) := (hb.cell (p := ⟨w.heap.size, 0, none⟩) (by omega)).trans kwb0; have kwc1 : wc.cell? ⟨w.heap.size + 1, 0, none⟩ = some (.bool s') := (hb.cell (p := ⟨w.heap.size + 1, 0, none⟩) (by omega)).trans kwb1; have kwc2 : wc.cell? ⟨w.heap.size, 1, none⟩ = some (.slice a na ca) := (hb.cell (p := ⟨w.heap.size, 1, none⟩) (by omega)).trans kwb2; have kwc3 : wc.cell? ⟨w.heap.size + 1, 1, none⟩ = some (.slice a' na' ca') := (hb.cell (p := ⟨w.heap.size + 1, 1, none⟩) (by omega)).trans kwb3; have hzwc0 : w.heap.size < wc.heap.size := (by have := hb.size; (try simp at this); omega); have hzwc1 : w.heap.size + 1 < wc.heap.size := (by have := hb.size; (try simp at this); omega); have hzwc2 : w.heap.size + 1 + 1 < wc.heap.size := (by have := hb.size; (try simp at this); omega); obtain ⟨hcwc, hfwc⟩ := bcell hb; have HBwc := Lib.hid hb; have HNwc := Lib.hid hn; have HN'wc := Lib.hid hn'; have ewc0 : wc.cell? ⟨w.heap.size + 1 + 1, 0, none⟩ = some (.bool false) := (hb.cell (p := ⟨w.heap.size + 1 + 1, 0, none⟩) (by first | omega | (simp; done) | (simp; omega))).trans (by exact ewb0); have ewc1 : wc.cell? ⟨w.heap.size + 1 + 1, 1, none⟩ = some (.slice none 0 0) := (hb.cell (p := ⟨w.heap.size + 1 + 1, 1, none⟩) (by first | omega | (simp; done) | (simp; omega))).trans (by exact ewb1); have ewc2 : wc.cell? ⟨w.heap.size + 1 + 1, 2, none⟩ = some (.slice none 0 0) := (hb.cell (p := ⟨w.heap.size + 1 + 1, 2, none⟩) (by first | omega | (simp; done) | (simp; omega))).trans (by exact ewb2); have zwc : ∀ o, wc.frozen? ⟨w.heap.size + 1 + 1, o, none⟩ = false := (fun o => (hb.frozen (p := ⟨w.heap.size + 1 + 1, o, none⟩) (by first | omega | (simp; done) | (simp; omega))).trans (by exact zwb o)); clear hb hn hn'))
    have HX := Lib.hid ((((Bx.new' ((w.alloc (.cells #[.bool s, .slice a na ca] 28)).alloc (.cells #[.bool s', .slice a' na' ca'] 28)) #[.bool false, .slice none 0 0, .slice none 0 0] 30 (w.heap.size + 1 + 1) (by simp)).below HBwa.out).drewB HBwb.out).below HBwc.out)
    have HF := Lib.hid (fun v0 v1 v2 => fin3 hN (by omega) HX.out HNwc.out HN'wc.out ((((bel3 w _ _ _).trans (HBwa.out.mono (by first | omega | (simp; done) | (simp; omega)))).trans ((bel_of_drew HBwb.out).mono (by first | omega | (simp; done) | (simp; omega)))).trans (HBwc.out.mono (by first | omega | (simp; done) | (simp; omega)))) v0 v1 v2)
    have t0 : ∀ u, (wc.setCell ⟨w.heap.size + 1 + 1, 0, none⟩ u).cell? ⟨w.heap.size + 1 + 1, 0, none⟩ = some u := fun u => World.cell?_setCell_same _ _ _ ewc0
    have t1 : ∀ u v, ((wc.setCell ⟨w.heap.size + 1 + 1, 0, none⟩ u).setCell ⟨w.heap.size + 1 + 1, 1, none⟩ v).cell? ⟨w.heap.size + 1 + 1, 1, none⟩ = some v := fun u v => (set2_cells ewc0 ewc1).2
    have t2 : ∀ u v x, (((wc.setCell ⟨w.heap.size + 1 + 1, 0, none⟩ u).setCell ⟨w.heap.size + 1 + 1, 1, none⟩ v).setCell ⟨w.heap.size + 1 + 1, 2, none⟩ x).cell? ⟨w.heap.size + 1 + 1, 2, none⟩ = some x := fun u v x => World.cell?_setCell_same _ _ _ ((World.cell?_setCell_other _ _ _ _ (by simp)).trans ((World.cell?_setCell_other _ _ _ _ (by simp)).trans ewc2))
    go_wp2_with fail
    exact bodyPost_ret (v := .tuple #[.agg #[.bool (decide ((p).num < 0)), .slice rx (nlen (p).num.natAbs) cx, .slice rx2 (nlen (p).den) cx2], .bool true]) (by simp [results, Tryd.results23, go_sem, t0, t1, t2]) rfl ⟨_, _, _, _, rfl, (HF.out _ _ _).1, (HF.out _ _ _).2.1, (HF.out _ _ _).2.2⟩
    
set_option maxHeartbeats 4000000 in
theorem rof_any {N : Nat} (n d : Int) (w : World) (hN : N ≤ w.heap.size) (n1 : -9223372036854775808 ≤ n) (n2 : n ≤ 9223372036854775807) (d1 : -9223372036854775808 ≤ d) (d2 : d ≤ 9223372036854775807) (p : Rat) (hp : mkRat (zI (decide (n < 0) != decide (d < 0)) n.natAbs) d.natAbs = p) :
    Calls Tryd.prog 8 #[.int .i64 n, .int .i64 d] w (RatPost2 N w p (decide (0 < d.natAbs))) := by
  have HP := Lib.hid hp
  have l1 := nlen_two (m := n.natAbs) (by omega)
  have l2 := nlen_two (m := d.natAbs) (by omega)
  clear hp
  go_enter Tryd.func8, Tryd.ntmps8
  go_wp2_with fail
  refine (iof_any (N := N) n _ (by simp; omega) n1 n2).mono ?_
  rintro e wa ⟨ra, ca, rfl, hn, hb⟩
  obtain ⟨hcwa, hfwa⟩ := bcell hb
  have hzwa0 : w.heap.size < wa.heap.size := by have := hb.size; (try simp at this); omega
  have HBwa := Lib.hid hb
  have HNwa := Lib.hid hn
  clear hb hn
  go_wp2_with fail
  refine (iof_any (N := N) d _ (by omega) d1 d2).mono ?_
  rintro e wb ⟨rb, cb', rfl, hn, hb⟩
  obtain ⟨hcwb, hfwb⟩ := bcell hb
  have hzwb0 : w.heap.size < wb.heap.size := by have := hb.size; (try simp at this); omega
  have HBwb := Lib.hid hb
  have HNwb := Lib.hid hn
  clear hb hn
  go_wp2_with fail
  refine (rmake_any (N := N) _ _ _ _ _ _ n.natAbs _ _ d.natAbs _ (by omega) (HNwa.out.below HBwb.out) HNwb.out (by omega) (by omega) p HP.out).mono ?_
  rintro e wc ⟨rx, cx, rx2, cx2, rfl, hn, hn', hb⟩
  obtain ⟨hcwc, hfwc⟩ := bcell hb
  have hzwc0 : w.heap.size < wc.heap.size := by have := hb.size; (try simp at this); omega
  have HBwc := Lib.hid hb
  have HNwc := Lib.hid hn
  have HN'wc := Lib.hid hn'
  clear hb hn hn'
  have HX := Lib.hid ((((Bx.new' w #[.bool false, .slice none 0 0, .slice none 0 0] 30 (w.heap.size) (by simp)).below HBwa.out).below HBwb.out).below HBwc.out)
  have HF := Lib.hid (fun v0 v1 v2 => fin3 hN (by omega) HX.out HNwc.out HN'wc.out ((((bel1 w _).trans (HBwa.out.mono (by first | omega | (simp; done) | (simp; omega)))).trans (HBwb.out.mono (by first | omega | (simp; done) | (simp; omega)))).trans (HBwc.out.mono (by first | omega | (simp; done) | (simp; omega)))) v0 v1 v2)
  go_wp2_with fail
  exact bodyPost_ret (v := .tuple #[.agg #[.bool (decide ((p).num < 0)), .slice rx (nlen (p).num.natAbs) cx, .slice rx2 (nlen (p).den) cx2], .bool (decide (0 < d.natAbs))]) (by simp [results, Tryd.results8, go_sem, hcwa, hcwb, hcwc, hzwa0, hzwb0]) rfl ⟨_, _, _, _, rfl, (HF.out _ _ _).1, (HF.out _ _ _).2.1, (HF.out _ _ _).2.2⟩
  

end Go.Proofs.YtnillajhhimeiaaDoor
