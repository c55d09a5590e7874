/- Contract of law07's adds: where the means and the variances add up. -/
import Derived.Test.YtbjgnpgachdlaaaGreatDoorJoG
namespace Go.Proofs.YtbjgnpgachdlaaaGreatDoor
open Go.RowKit

theorem rsz_subx (p q : Rat) : rsz (p - q) ≤ rsz p + rsz q + 1 := by
  have e1 : mkRat (p.num * q.den - q.num * p.den) (p.den * q.den) = p - q := by
    rw [Rat.mkRat_eq_div, Rat.sub_eq_add_neg]
    have h1 := Rat.mkRat_self p
    have h2 := Rat.mkRat_self q
    rw [Rat.mkRat_eq_div] at h1 h2
    have c1 := natQ_ne p.den_pos
    have c2 := natQ_ne q.den_pos
    have e : (((p.num * q.den - q.num * p.den : Int)) : Rat) = (p.num : Rat) * ((q.den : Nat) : Rat) - (q.num : Rat) * ((p.den : Nat) : Rat) := by rw [Rat.intCast_sub, Rat.intCast_mul, Rat.intCast_mul]; rfl
    rw [e, natQ_mul]
    grind
  rw [← e1]
  have a1 := nlen_mul p.den q.den
  have b1 : nlen p.num.natAbs ≤ rsz p := by unfold rsz; omega
  have b2 : nlen p.den ≤ rsz p := by unfold rsz; omega
  have b3 : nlen q.num.natAbs ≤ rsz q := by unfold rsz; omega
  have b4 : nlen q.den ≤ rsz q := by unfold rsz; omega
  refine rsz_mk _ _ _ (by omega) ?_ (by omega)
  have c1 := nlen_mul p.num.natAbs q.den
  have c2 := nlen_mul q.num.natAbs p.den
  have c3 : (p.num * q.den - q.num * p.den).natAbs ≤ p.num.natAbs * q.den + q.num.natAbs * p.den := by
    have := Int.natAbs_sub_le (p.num * q.den) (q.num * p.den)
    rwa [Int.natAbs_mul, Int.natAbs_mul, Int.natAbs_natCast, Int.natAbs_natCast] at this
  refine Nat.le_trans (nlen_mono c3) ?_
  exact nlen_add1 _ _ _ (by omega) (by omega)
theorem mv_len {N : Nat} {w : World} {a : Option Addr} {n cap L : Nat} {q : Nat → Rat} (h : Rs N w a n cap q L) (hv : valid q n = true) : rsz (meanQ q n) ≤ L * 380 + 40 ∧ rsz (varQ q n) ≤ L * 380 + 40 := by
  obtain ⟨n0, n121, hge, _⟩ := valid_iff.1 hv
  have hld : nlen (lcN (deQ q) n) ≤ L * n + 1 := lcN_len (fun i hi => by have := h.lim i hi; unfold rsz at this; unfold deQ; omega)
  have hm4 : L * n ≤ L * 121 := Nat.mul_le_mul_left _ n121
  have h1 := mo1_len h hm4 hld n121
  have h2 := mo2_len h hm4 hld n121
  have e1 : rsz (meanQ q n) ≤ L * 125 + 9 := by rw [← mean_frq hge]; exact frq_len _ _ _ (by omega) (by omega) (by omega)
  have e2 : rsz (secQ q n) ≤ L * 125 + 9 := by rw [← sec_frq hge]; exact frq_len _ _ _ (by omega) (by omega) (by omega)
  have e3 := rsz_mul (meanQ q n) (meanQ q n)
  have e4 := rsz_subx (secQ q n) (meanQ q n * meanQ q n)
  unfold varQ
  omega
theorem rcmp_0 {N : Nat} (s s' : Bool) (a d a' d' : Option Addr) (na ca nd cd na' ca' nd' cd' L L' : Nat) (q : Rat) (w : World) (hN : N ≤ w.heap.size) (h : Rt N w s a na ca d nd cd q L) (h' : Rt N w s' a' na' ca' d' nd' cd' q L') (hL : L ≤ 68719476736) (hL' : L' ≤ 68719476736) :
    Calls Tryz.prog 88 #[.agg #[.bool s, .slice a na ca, .slice d nd cd], .agg #[.bool s', .slice a' na' ca', .slice d' nd' cd']] w fun e w' => e = .returned (.int .i64 0) ∧ Below w.heap.size w w' := by
  have := rcmp_any s s' a d a' d' na ca nd cd na' ca' nd' cd' L L' q q w hN h h' hL hL'
  rwa [cmpQ_self] at this

end Go.Proofs.YtbjgnpgachdlaaaGreatDoor
