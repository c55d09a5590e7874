/- Plain laws: the numbers of trials and of binomial distributions over their denominators. No condition. Lists of rational numbers that append builds. No condition. Contract of the reference's SameList for lists in normal form; sizes of the numbers of trials. -/
import Derived.Test.YtnillajhhimeiaaDoorJoF
import Derived.Test.YtnillajhhimeiaaDoorJoG
import Derived.Maps.AppendAt
namespace Go.Proofs.YtnillajhhimeiaaDoor

theorem cv_cast (x y : Nat → Nat) (X Y : Nat → Rat) (A C : Rat) (n m k : Nat) (hx : ∀ i, i < n → ((x i : Nat) : Rat) = X i * A) (hy : ∀ i, i < m → ((y i : Nat) : Rat) = Y i * C) :
    ((cvN x y m k n : Nat) : Rat) = cnv X n Y m k * (A * C) := by
  unfold cvN
  rw [sN_sQ, sQ_congr (g := fun i => cnvT X Y m k i * (A * C)) (fun i hi => by
    unfold cvT cnvT
    by_cases h : i ≤ k ∧ k - i < m
    · rw [if_pos h, if_pos h, natQ_mul, hx i hi, hy (k - i) h.2]; grind
    · rw [if_neg h, if_neg h]; grind), sQ_mulr]
  rfl
theorem prb_iff {q : Rat} : prb q = true ↔ 0 ≤ q ∧ q ≤ 1 := by unfold prb; simp
theorem fail_cast (q : Rat) (h : prb q = true) : (((q.den - q.num.natAbs : Nat)) : Rat) = (1 - q) * (q.den : Rat) := by
  have h1 := prb_le q h
  have h2 := den_mul q (prb_iff.1 h).1
  have h3 : ((q.den - q.num.natAbs + q.num.natAbs : Nat) : Rat) = ((q.den : Nat) : Rat) := by rw [Nat.sub_add_cancel h1]
  rw [natQ_add] at h3
  grind
theorem tr_cast (q : Nat → Rat) : ∀ (n : Nat), (∀ j, j < n → prb (q j) = true) → ∀ i, i < n + 1 → ((trN (nuQ q) (faQ q) n i : Nat) : Rat) = tri q n i * ((prN (deQ q) n : Nat) : Rat)
  | 0, _, i, hi => by
    obtain rfl : i = 0 := by omega
    simp only [trN, prN, tri]
    grind
  | n + 1, h, i, _ => by
    have ih := tr_cast q n (fun j hj => h j (by omega))
    have hp := h n (by omega)
    have e := cv_cast (trN (nuQ q) (faQ q) n) (twoN (faQ q n) (nuQ q n)) (tri q n) (two (1 - q n) (q n)) ((prN (deQ q) n : Nat) : Rat) ((deQ q n : Nat) : Rat) (n + 1) 2 i ih (fun j hj => by
      obtain rfl | rfl : j = 0 ∨ j = 1 := by omega
      · exact fail_cast (q n) hp
      · exact den_mul (q n) (prb_iff.1 hp).1)
    simp only [trN, prN]
    rw [e, tri_cnv, natQ_mul]
theorem prN_pos {d : Nat → Nat} : ∀ {n : Nat}, (∀ i, i < n → 0 < d i) → 0 < prN d n
  | 0, _ => by simp [prN]
  | n + 1, h => Nat.mul_pos (prN_pos (fun i hi => h i (by omega))) (h n (by omega))
/-- Trials returns the distribution of the successes -/
theorem tri_frq (q : Nat → Rat) (n : Nat) (h : ∀ j, j < n → prb (q j) = true) (i : Nat) (hi : i < n + 1) : frq (trN (nuQ q) (faQ q) n i) (prN (deQ q) n) = tri q n i := by
  rw [frq_div, tr_cast q n h i hi]
  have := natQ_ne (prN_pos (d := deQ q) (n := n) (fun i _ => (q i).den_pos))
  grind
theorem tri_valid (q : Nat → Rat) (n : Nat) (h : ∀ j, j < n → prb (q j) = true) (hn : n ≤ 120) : valid (tri q n) (n + 1) = true :=
  valid_iff.2 ⟨by omega, by omega, fun i _ => tri_nonneg (fun j hj => prb_iff.1 (h j hj)) i, tri_total q n⟩
theorem tri_meanQ (q : Nat → Rat) (n : Nat) : meanQ (tri q n) (n + 1) = sQ q n := by
  rw [← tri_mean q n]
  exact sQ_congr (fun i _ => Rat.mul_comm _ _)
theorem tri_varQ (q : Nat → Rat) (n : Nat) : varQ (tri q n) (n + 1) = sV q n := by
  have h := tri_second q n
  have e : secQ (tri q n) (n + 1) = sV q n + sQ q n * sQ q n := by
    rw [← h]
    exact sQ_congr (fun i _ => by grind)
  unfold varQ
  rw [e, tri_meanQ]; grind
theorem app_sum (f : Rat → Rat) (p q : Nat → Rat) (n : Nat) (m : Nat) : sQ (fun i => f (app p n q i)) (n + m) = sQ (fun i => f (p i)) n + sQ (fun i => f (q i)) m := by
  rw [sQ_append]
  congr 1
  · exact sQ_congr (fun i hi => by unfold app; rw [if_pos hi])
  · exact sQ_congr (fun i _ => by unfold app; rw [if_neg (by omega), show n + i - n = i by omega])
theorem app_mean (p q : Nat → Rat) (n m : Nat) : meanQ (tri (app p n q) (n + m)) (n + m + 1) = meanQ (tri p n) (n + 1) + meanQ (tri q m) (m + 1) := by
  rw [tri_meanQ, tri_meanQ, tri_meanQ]
  exact app_sum (fun x => x) p q n m
theorem app_var (p q : Nat → Rat) (n m : Nat) : varQ (tri (app p n q) (n + m)) (n + m + 1) = varQ (tri p n) (n + 1) + varQ (tri q m) (m + 1) := by
  rw [tri_varQ, tri_varQ, tri_varQ]
  exact app_sum (fun x => x * (1 - x)) p q n m

end Go.Proofs.YtnillajhhimeiaaDoor

namespace Go.Proofs.YtnillajhhimeiaaDoor
open Go.RowKit

/-- the cells xs are n elements of three cells each, the i-th as E i says -/
def Cl (n : Nat) (E : Nat → Value → Value → Value → Prop) (xs : List Value) : Prop :=
  xs.length = n * 3 ∧ ∀ i, i < n → ∃ v0 v1 v2, xs[i * 3]? = some v0 ∧ xs[i * 3 + 1]? = some v1 ∧ xs[i * 3 + 2]? = some v2 ∧ E i v0 v1 v2
/-- three cells are the rational number q i, of at most L limbs -/
def Er (N : Nat) (w : World) (q : Nat → Rat) (L : Nat) (i : Nat) (v0 v1 v2 : Value) : Prop := ∃ s a na ca d nd cd, v0 = .bool s ∧ v1 = .slice a na ca ∧ v2 = .slice d nd cd ∧ Rt N w s a na ca d nd cd (q i) L
/-- three cells are the rational number q i in normal form -/
def En (N : Nat) (w : World) (q : Nat → Rat) (i : Nat) (v0 v1 v2 : Value) : Prop := ∃ r c r2 c2, v0 = .bool (decide ((q i).num < 0)) ∧ v1 = .slice r (nlen (q i).num.natAbs) c ∧ v2 = .slice r2 (nlen (q i).den) c2 ∧ Nt N w r (nlen (q i).num.natAbs) c (q i).num.natAbs ∧ Nt N w r2 (nlen (q i).den) c2 (q i).den
theorem Er.below {N : Nat} {w w' : World} {q : Nat → Rat} {L i : Nat} {v0 v1 v2 : Value} (h : Er N w q L i v0 v1 v2) (hb : Below w.heap.size w w') : Er N w' q L i v0 v1 v2 := by
  obtain ⟨s, a, na, ca, d, nd, cd, e0, e1, e2, h⟩ := h
  exact ⟨s, a, na, ca, d, nd, cd, e0, e1, e2, h.below hb⟩
theorem En.below {N : Nat} {w w' : World} {q : Nat → Rat} {i : Nat} {v0 v1 v2 : Value} (h : En N w q i v0 v1 v2) (hb : Below w.heap.size w w') : En N w' q i v0 v1 v2 := by
  obtain ⟨r, c, r2, c2, e0, e1, e2, h, h'⟩ := h
  exact ⟨r, c, r2, c2, e0, e1, e2, h.below hb, h'.below hb⟩
theorem En.keep {N : Nat} {w w' : World} {q : Nat → Rat} {i : Nat} {v0 v1 v2 : Value} (h : En N w q i v0 v1 v2) (hb : Kp N w w') : En N w' q i v0 v1 v2 := by
  obtain ⟨r, c, r2, c2, e0, e1, e2, h, h'⟩ := h
  exact ⟨r, c, r2, c2, e0, e1, e2, h.keep hb, h'.keep hb⟩
theorem Cl.nil (E : Nat → Value → Value → Value → Prop) : Cl 0 E [] := ⟨rfl, fun i hi => by omega⟩
theorem Cl.imp {n : Nat} {E F : Nat → Value → Value → Value → Prop} {xs : List Value} (h : Cl n E xs) (k : ∀ i v0 v1 v2, i < n → E i v0 v1 v2 → F i v0 v1 v2) : Cl n F xs := by
  refine ⟨h.1, fun i hi => ?_⟩
  obtain ⟨v0, v1, v2, g0, g1, g2, e⟩ := h.2 i hi
  exact ⟨v0, v1, v2, g0, g1, g2, k i v0 v1 v2 hi e⟩
theorem Cl.app {n m : Nat} {E F : Nat → Value → Value → Value → Prop} {xs ys : List Value} (h1 : Cl n E xs) (h2 : Cl m F ys) : Cl (n + m) (fun i => if i < n then E i else F (i - n)) (xs ++ ys) := by
  refine ⟨by rw [List.length_append, h1.1, h2.1]; omega, fun i hi => ?_⟩
  rcases Nat.lt_or_ge i n with h | h
  · obtain ⟨v0, v1, v2, g0, g1, g2, e⟩ := h1.2 i h
    refine ⟨v0, v1, v2, ?_, ?_, ?_, by simp only [if_pos h]; exact e⟩
    all_goals rw [List.getElem?_append_left (by rw [h1.1]; omega)]; assumption
  · obtain ⟨v0, v1, v2, g0, g1, g2, e⟩ := h2.2 (i - n) (by omega)
    refine ⟨v0, v1, v2, ?_, ?_, ?_, by simp only [if_neg (Nat.not_lt.2 h)]; exact e⟩
    all_goals rw [List.getElem?_append_right (by rw [h1.1]; omega), h1.1]
    · rw [show i * 3 - n * 3 = (i - n) * 3 by omega]; exact g0
    · rw [show i * 3 + 1 - n * 3 = (i - n) * 3 + 1 by omega]; exact g1
    · rw [show i * 3 + 2 - n * 3 = (i - n) * 3 + 2 by omega]; exact g2
theorem Cl.push {n : Nat} {E : Nat → Value → Value → Value → Prop} {xs : List Value} {v0 v1 v2 : Value} (h1 : Cl n E xs) (h2 : E n v0 v1 v2) : Cl (n + 1) E (xs ++ [v0, v1, v2]) := by
  have h3 : Cl 1 (fun _ => E n) [v0, v1, v2] := ⟨rfl, fun i hi => by obtain rfl : i = 0 := by omega
                                                                     exact ⟨v0, v1, v2, rfl, rfl, rfl, h2⟩⟩
  refine (h1.app h3).imp fun i a b c hi e => ?_
  rcases Nat.lt_or_ge i n with h | h
  · simp only [if_pos h] at e; exact e
  · obtain rfl : i = n := by omega
    simp only [if_neg (Nat.lt_irrefl i)] at e; exact e
theorem Cl.one {n : Nat} {E : Nat → Value → Value → Value → Prop} {xs : List Value} (h : Cl n E xs) (ho : ∀ i v0 v1 v2, i < n → E i v0 v1 v2 → v0.oneCell' = true ∧ v1.oneCell' = true ∧ v2.oneCell' = true) : ∀ u ∈ xs, u.oneCell' = true := by
  intro u hu
  obtain ⟨j, hj, e⟩ := List.getElem_of_mem hu
  have e2 : xs[j]? = some u := by rw [List.getElem?_eq_some_iff]; exact ⟨hj, e⟩
  have hj2 := h.1
  obtain ⟨v0, v1, v2, g0, g1, g2, k⟩ := h.2 (j / 3) (by omega)
  have hh := ho _ _ _ _ (by omega) k
  obtain e3 | e3 | e3 : j % 3 = 0 ∨ j % 3 = 1 ∨ j % 3 = 2 := by omega
  · rw [show j / 3 * 3 = j by omega, e2] at g0
    rw [Option.some.inj g0]; exact hh.1
  · rw [show j / 3 * 3 + 1 = j by omega, e2] at g1
    rw [Option.some.inj g1]; exact hh.2.1
  · rw [show j / 3 * 3 + 2 = j by omega, e2] at g2
    rw [Option.some.inj g2]; exact hh.2.2
theorem Er.one {N : Nat} {w : World} {q : Nat → Rat} {L i : Nat} {v0 v1 v2 : Value} (h : Er N w q L i v0 v1 v2) : v0.oneCell' = true ∧ v1.oneCell' = true ∧ v2.oneCell' = true := by
  obtain ⟨s, a, na, ca, d, nd, cd, rfl, rfl, rfl, _⟩ := h
  exact ⟨rfl, rfl, rfl⟩
theorem En.one {N : Nat} {w : World} {q : Nat → Rat} {i : Nat} {v0 v1 v2 : Value} (h : En N w q i v0 v1 v2) : v0.oneCell' = true ∧ v1.oneCell' = true ∧ v2.oneCell' = true := by
  obtain ⟨r, c, r2, c2, rfl, rfl, rfl, _⟩ := h
  exact ⟨rfl, rfl, rfl⟩

/-- the cells of n rational numbers from an address on -/
def rowC (w : World) (b off n : Nat) : List Value := (List.range (n * 3)).map fun j => (w.cell? ⟨b, off + j, none⟩).getD undef
theorem adr_none (b off i : Nat) : (⟨b, off, none⟩ : Addr).add i = ⟨b, off + i, none⟩ := by
  unfold Addr.add; split <;> simp_all
theorem rowC_len (w : World) (b off n : Nat) : (rowC w b off n).length = n * 3 := by simp [rowC]
theorem rowC_at (w : World) (b off n j : Nat) (h : j < n * 3) : (rowC w b off n)[j]? = some ((w.cell? ⟨b, off + j, none⟩).getD undef) := by simp [rowC, h]
theorem Rs.cells {N : Nat} {w : World} {b off n cap L : Nat} {q : Nat → Rat} (h : Rs N w (some ⟨b, off, none⟩) n cap q L) (j : Nat) (hj : j < n * 3) : ∃ u, w.cell? ⟨b, off + j, none⟩ = some u := by
  obtain ⟨s, ra, rn, rc, da, dn, dc, g0, g1, g2, _⟩ := h.at (i := j / 3) (by omega)
  obtain e | e | e : j % 3 = 0 ∨ j % 3 = 1 ∨ j % 3 = 2 := by omega
  · rw [show off + j / 3 * 3 = off + j by omega] at g0; exact ⟨_, g0⟩
  · rw [show off + j / 3 * 3 + 1 = off + j by omega] at g1; exact ⟨_, g1⟩
  · rw [show off + j / 3 * 3 + 2 = off + j by omega] at g2; exact ⟨_, g2⟩
theorem rowC_get {N : Nat} {w : World} {b off n cap L : Nat} {q : Nat → Rat} (h : Rs N w (some ⟨b, off, none⟩) n cap q L) (j : Nat) (u : Value) (e : (rowC w b off n)[j]? = some u) : w.cell? ⟨b, off + j, none⟩ = some u := by
  have hj : j < n * 3 := by have := (List.getElem?_eq_some_iff.1 e).1; rwa [rowC_len] at this
  obtain ⟨v, hv⟩ := h.cells j hj
  rw [rowC_at _ _ _ _ _ hj, hv] at e
  rw [hv]; exact e
theorem Rs.cl {N : Nat} {w : World} {b off n cap L : Nat} {q : Nat → Rat} (h : Rs N w (some ⟨b, off, none⟩) n cap q L) : Cl n (Er N w q L) (rowC w b off n) := by
  refine ⟨rowC_len _ _ _ _, fun i hi => ?_⟩
  obtain ⟨s, ra, rn, rc, da, dn, dc, g0, g1, g2, hr⟩ := h.at hi
  refine ⟨_, _, _, ?_, ?_, ?_, s, ra, rn, rc, da, dn, dc, rfl, rfl, rfl, hr⟩
  · rw [rowC_at _ _ _ _ _ (by omega), g0]; rfl
  · rw [rowC_at _ _ _ _ _ (by omega), show off + (i * 3 + 1) = off + i * 3 + 1 by omega, g1]; rfl
  · rw [rowC_at _ _ _ _ _ (by omega), show off + (i * 3 + 2) = off + i * 3 + 2 by omega, g2]; rfl
theorem owns_cell {w : World} {n g : Nat} {xs : List Value} {cur : Array Value} {e : TypeId} (hh : w.heap[g]? = some (.cells cur e (0, 0))) (ht : cur.toList.take (n * 3) = xs) (i : Nat) (hi : i < n * 3) (u : Value) (hu : xs[i]? = some u) : w.cell? ⟨g, i, none⟩ = some u := by
  rw [← ht, List.getElem?_take_of_lt hi] at hu
  simp [World.cell?, hh]
  simpa using hu
/-- an owned row of rational numbers is a list -/
theorem Cl.rs {N : Nat} {w : World} {base n L : Nat} {q : Nat → Rat} {v : Value} {xs : List Value} (own : w.ownsRow base 30 3 v n xs) (h : Cl n (Er N w q L) xs) : ∃ a cap, v = .slice a n cap ∧ Rs N w a n cap q L := by
  obtain ⟨_, ⟨rfl, rfl⟩ | ⟨g, cap, cur, rfl, hg, hh, e1, e2, e3, e4⟩⟩ := own
  · exact ⟨none, 0, rfl, Nat.le_refl _, Nat.zero_le _, fun h => by omega⟩
  · refine ⟨_, _, rfl, e1, e2, fun _ => ⟨g, 0, rfl, fun i hi => ?_⟩⟩
    obtain ⟨v0, v1, v2, g0, g1, g2, s, a, na, ca, d, nd, cd, rfl, rfl, rfl, hr⟩ := h.2 i hi
    rw [Nat.zero_add]
    exact ⟨s, a, na, ca, d, nd, cd, owns_cell hh e4 _ (by omega) _ g0, owns_cell hh e4 _ (by omega) _ g1, owns_cell hh e4 _ (by omega) _ g2, hr⟩
/-- the slice holds n rational numbers in normal form -/
def Rn (N : Nat) (w : World) (a : Option Addr) (n cap : Nat) (q : Nat → Rat) : Prop :=
  n ≤ cap ∧ cap ≤ maxLen ∧ (0 < n → ∃ b off, a = some ⟨b, off, none⟩ ∧ ∀ i, i < n → ∃ r c r2 c2, w.cell? ⟨b, off + i * 3, none⟩ = some (.bool (decide ((q i).num < 0))) ∧ w.cell? ⟨b, off + i * 3 + 1, none⟩ = some (.slice r (nlen (q i).num.natAbs) c) ∧ w.cell? ⟨b, off + i * 3 + 2, none⟩ = some (.slice r2 (nlen (q i).den) c2) ∧ Nt N w r (nlen (q i).num.natAbs) c (q i).num.natAbs ∧ Nt N w r2 (nlen (q i).den) c2 (q i).den)
theorem Rn.below {N : Nat} {w w' : World} {a : Option Addr} {n cap : Nat} {q : Nat → Rat} (h : Rn N w a n cap q) (hb : Below w.heap.size w w') : Rn N w' a n cap q := by
  obtain ⟨h0, h1, h2⟩ := h
  refine ⟨h0, h1, fun hn => ?_⟩
  obtain ⟨b, off, e, hc⟩ := h2 hn
  refine ⟨b, off, e, fun i hi => ?_⟩
  obtain ⟨r, c, r2, c2, h3, h4, h5, h6, h7⟩ := hc i hi
  exact ⟨r, c, r2, c2, cell_mono h3 hb, cell_mono h4 hb, cell_mono h5 hb, h6.below hb, h7.below hb⟩
theorem Rn.congr {N : Nat} {w : World} {a : Option Addr} {n cap : Nat} {q q' : Nat → Rat} (h : Rn N w a n cap q) (e : ∀ i, i < n → q i = q' i) : Rn N w a n cap q' := by
  obtain ⟨h0, h1, h2⟩ := h
  refine ⟨h0, h1, fun hn => ?_⟩
  obtain ⟨b, off, e1, hc⟩ := h2 hn
  exact ⟨b, off, e1, fun i hi => by rw [← e i hi]; exact hc i hi⟩
theorem Rn.nil (N : Nat) (w : World) (q : Nat → Rat) : Rn N w none 0 0 q := ⟨Nat.le_refl _, Nat.zero_le _, fun h => by omega⟩
theorem Rn.rs {N : Nat} {w : World} {a : Option Addr} {n cap : Nat} {q : Nat → Rat} (h : Rn N w a n cap q) (L : Nat) (hL : ∀ i, i < n → rsz (q i) ≤ L) : Rs N w a n cap q L := by
  obtain ⟨h0, h1, h2⟩ := h
  refine ⟨h0, h1, fun hn => ?_⟩
  obtain ⟨b, off, e, hc⟩ := h2 hn
  refine ⟨b, off, e, fun i hi => ?_⟩
  obtain ⟨r, c, r2, c2, h3, h4, h5, h6, h7⟩ := hc i hi
  exact ⟨_, _, _, _, _, _, _, h3, h4, h5, Rt.of_norm h6 h7 L (hL i hi)⟩
theorem Rl.rn {N : Nat} {w : World} {b n : Nat} {q : Nat → Rat} (h : Rl N w b n n q) (hn : n ≤ maxLen) : Rn N w (some ⟨b, 0, none⟩) n n q :=
  ⟨Nat.le_refl _, hn, fun _ => ⟨b, 0, rfl, fun i hi => by rw [Nat.zero_add]; exact h.2 i hi⟩⟩
theorem Cl.rn {N : Nat} {w : World} {base n : Nat} {q : Nat → Rat} {v : Value} {xs : List Value} (own : w.ownsRow base 30 3 v n xs) (h : Cl n (En N w q) xs) : ∃ a cap, v = .slice a n cap ∧ Rn N w a n cap q := by
  obtain ⟨_, ⟨rfl, rfl⟩ | ⟨g, cap, cur, rfl, hg, hh, e1, e2, e3, e4⟩⟩ := own
  · exact ⟨none, 0, rfl, Nat.le_refl _, Nat.zero_le _, fun h => by omega⟩
  · refine ⟨_, _, rfl, e1, e2, fun _ => ⟨g, 0, rfl, fun i hi => ?_⟩⟩
    obtain ⟨v0, v1, v2, g0, g1, g2, r, c, r2, c2, rfl, rfl, rfl, hr, hr'⟩ := h.2 i hi
    rw [Nat.zero_add]
    exact ⟨r, c, r2, c2, owns_cell hh e4 _ (by omega) _ g0, owns_cell hh e4 _ (by omega) _ g1, owns_cell hh e4 _ (by omega) _ g2, hr, hr'⟩
theorem own_bel {B : Nat} {e : TypeId} {w0 w w1 : World} {x : Value} {n k : Nat} {xs : List Value} (hx : w.ownsRow B e k x n xs) (hbel : Below B w0 w) (hB : B ≤ w.heap.size) (hg : w.grownBy w1 x.ownBlock) : Below B w0 w1 :=
  hbel.grown hg hB (fun k hk => (hx.lt k hk).1)

theorem run_append_zero (P : Program) (w : World) (base : Nat) (t ty e : TypeId) (i : TypeInfo) (ht : P.underlying t = some (.slice e)) (hi : P.info? e = some i) (v : Value) (n : Nat) (xs : List Value) (hown : w.ownsRow base e i.size v n xs) (a : Option Addr) (c : Nat) :
    (Builtin.append_ #[t, t] ty #[v, .slice a 0 c]).run P w = .ok v w := by
  rcases hown.2 with ⟨rfl, rfl⟩ | ⟨g, cap, cur, rfl, hb, hg, hn, hm, hs, htk⟩
  · cases a <;> simp [Builtin.append_, run_underlying ht, sizeOf, typeInfo, hi, Builtin.lenOf, Builtin.firstCells, loadCells, loadCellsFrom]
  · cases a <;> simp [Builtin.append_, run_underlying ht, sizeOf, typeInfo, hi, Builtin.lenOf, Builtin.firstCells, loadCells, loadCellsFrom, hn, storeCells]
/-- append of a list of rational numbers to an owned row -/
theorem run_append_rats {N : Nat} (w : World) (base : Nat) (t ty : TypeId) (i : TypeInfo) (z : Value) (ht : Tryd.prog.underlying t = some (.slice 30)) (hi : Tryd.prog.info? 30 = some i) (hz : i.zero = some z)
    (hsize : i.size = 3) (hby : i.bytes = 56) (hzs : z.cells.size = 3) (v : Value) (n : Nat) (xs : List Value) (hown : w.ownsRow base 30 3 v n xs) (ad : Option Addr) (m c : Nat) (q : Nat → Rat) (L : Nat) (hr : Rs N w ad m c q L)
    (h63 : n + m ≤ maxLen) (hbytes : (n + m) * 56 ≤ 140737488355328) (hbase : base ≤ w.heap.size) :
    ∃ v' w' news, (Builtin.append_ #[t, t] ty #[v, .slice ad m c]).run Tryd.prog w = .ok v' w' ∧ Cl m (Er N w q L) news ∧ w'.ownsRow base 30 3 v' (n + m) (xs ++ news) ∧ w.grownBy w' v.ownBlock ∧ (v'.ownBlock = v.ownBlock ∨ v'.ownBlock = some w.heap.size) := by
  rcases Nat.eq_zero_or_pos m with rfl | hm
  · exact ⟨v, w, [], run_append_zero _ w base t ty _ i ht hi v n xs (by rw [hsize]; exact hown) ad c, Cl.nil _, by rw [List.append_nil]; exact hown, ⟨rfl, rfl, rfl, Nat.le_refl _, fun _ _ _ => rfl⟩, Or.inl rfl⟩
  · obtain ⟨b, off, rfl, _⟩ := hr.2.2 hm
    obtain ⟨v', w', h1, h2, h3, _, h5⟩ := run_append_own_at (P := Tryd.prog) w base t ty _ i z 3 56 ht hi hz hsize hby hzs (by decide) v n xs hown ⟨b, off, none⟩ m c (rowC w b off m) (rowC_len _ _ _ _) (fun j u hj => by rw [adr_none]; exact rowC_get hr j u hj) (hr.cl.one fun _ _ _ _ _ e => e.one) h63 hbytes hbase
    exact ⟨v', w', rowC w b off m, h1, hr.cl, h2, h3, h5⟩
theorem wpList_append_rats {N : Nat} {w : World} {ops : Array Oper} {rest : List Oper} {o : Oper} {a : Act} {Q : Exit → Act → World → Prop} (hgd : o.guard = none) (s x : Operand) (t : TypeId)
    (ho : o.op = .call { callee := .builtin .append, args := #[s, x], argTypes := #[t, t] })
    (base : Nat) (i : TypeInfo) (z : Value) (ht : Tryd.prog.underlying t = some (.slice 30)) (hi : Tryd.prog.info? 30 = some i) (hz : i.zero = some z)
    (hsize : i.size = 3) (hby : i.bytes = 56) (hzs : z.cells.size = 3) (v : Value) (n : Nat) (xs : List Value) (hs : a.eval s = v) (hown : w.ownsRow base 30 3 v n xs) (ad : Option Addr) (m c : Nat) (q : Nat → Rat) (L : Nat) (hx : a.eval x = .slice ad m c) (hr : Rs N w ad m c q L)
    (h63 : n + m ≤ maxLen) (hbytes : (n + m) * 56 ≤ 140737488355328) (hbase : base ≤ w.heap.size)
    (h : ∀ v' w' news, Cl m (Er N w q L) news → w'.ownsRow base 30 3 v' (n + m) (xs ++ news) → w.grownBy w' v.ownBlock → (v'.ownBlock = v.ownBlock ∨ v'.ownBlock = some w.heap.size) → wpList Tryd.prog ops Q rest (a.put o.dst v') w') :
    wpList Tryd.prog ops Q (o :: rest) a w := by
  refine wpList_plain hgd fun K hK => ?_
  obtain ⟨v', w', news, hrn, h1, h2, h3, h4⟩ := run_append_rats w base t o.type i z ht hi hz hsize hby hzs v n xs hown ad m c q L hr h63 hbytes hbase
  unfold Oper.wp execOp
  simp only [ho, resolve, invoke, builtin, Sem.run_bind, Sem.run_pure, Result.andThen_ok, List.map_toArray, List.map_cons, List.map_nil, hs, hx, hrn]
  exact hK _ _ (h v' w' news h1 h2 h3 h4)

end Go.Proofs.YtnillajhhimeiaaDoor

namespace Go.Proofs.YtnillajhhimeiaaDoor
open Go.RowKit

theorem natQ_nonneg (n : Nat) : (0 : Rat) ≤ (n : Rat) := by exact_mod_cast Nat.zero_le n
theorem natQ_le {a b : Nat} : (a : Rat) ≤ (b : Rat) ↔ a ≤ b := by exact_mod_cast Iff.rfl
theorem prN_sum {d : Nat → Nat} : ∀ {n : Nat}, nlen (prN d n) ≤ sN (fun i => nlen (d i)) n + 1
  | 0 => show nlen 1 ≤ 1 from nlen_small (by decide)
  | n + 1 => by
    have h1 := nlen_mul (prN d n) (d n)
    have h2 := prN_sum (d := d) (n := n)
    show nlen (prN d n * d n) ≤ sN (fun i => nlen (d i)) n + nlen (d n) + 1
    omega
theorem tri_le_one (q : Nat → Rat) (n : Nat) (h : ∀ j, j < n → prb (q j) = true) (i : Nat) (hi : i < n + 1) : tri q n i ≤ 1 := by
  rw [← tri_total q n]
  exact sQ_one_le (f := tri q n) (fun k _ => tri_nonneg (fun j hj => prb_iff.1 (h j hj)) k) hi
theorem trN_le (q : Nat → Rat) (n : Nat) (h : ∀ j, j < n → prb (q j) = true) (i : Nat) (hi : i < n + 1) : trN (nuQ q) (faQ q) n i ≤ prN (deQ q) n := by
  have h1 := tr_cast q n h i hi
  have h2 := tri_le_one q n h i hi
  have h3 : (0 : Rat) ≤ ((prN (deQ q) n : Nat) : Rat) := natQ_nonneg _
  have h4 : ((trN (nuQ q) (faQ q) n i : Nat) : Rat) ≤ ((prN (deQ q) n : Nat) : Rat) := by
    rw [h1]
    have := Rat.mul_le_mul_of_nonneg_right h2 h3
    rwa [Rat.one_mul] at this
  exact natQ_le.1 h4
/-- the limbs of the denominators, together -/
def szQ (q : Nat → Rat) (n : Nat) : Nat := sN (fun i => nlen (deQ q i)) n
theorem tri_rsz (q : Nat → Rat) (n : Nat) (h : ∀ j, j < n → prb (q j) = true) (i : Nat) (hi : i < n + 1) : rsz (tri q n i) ≤ szQ q n + 1 := by
  rw [← tri_frq q n h i hi]
  have h1 := prN_sum (d := deQ q) (n := n)
  exact frq_len _ _ _ (by omega) (Nat.le_trans (nlen_mono (trN_le q n h i hi)) h1) h1
theorem sN_app (f : Rat → Nat) (p q : Nat → Rat) (n m : Nat) : sN (fun i => f (app p n q i)) (n + m) = sN (fun i => f (p i)) n + sN (fun i => f (q i)) m := by
  induction m with
  | zero => exact sN_congr (fun i hi => by unfold app; rw [if_pos (show i < n from hi)])
  | succ m ih =>
    show sN (fun i => f (app p n q i)) (n + m) + f (app p n q (n + m)) = sN (fun i => f (p i)) n + (sN (fun i => f (q i)) m + f (q m))
    rw [ih]
    have e : app p n q (n + m) = q m := by unfold app; rw [if_neg (by omega), Nat.add_sub_cancel_left]
    rw [e]; omega
theorem szQ_app (p q : Nat → Rat) (n m : Nat) : szQ (app p n q) (n + m) = szQ p n + szQ q m := sN_app (fun x => nlen x.den) p q n m
theorem app_prb (p q : Nat → Rat) (n m : Nat) (h1 : ∀ j, j < n → prb (p j) = true) (h2 : ∀ j, j < m → prb (q j) = true) : ∀ j, j < n + m → prb (app p n q j) = true := by
  intro j hj
  unfold app
  rcases Nat.lt_or_ge j n with h | h
  · rw [if_pos h]; exact h1 j h
  · rw [if_neg (by omega)]; exact h2 _ (by omega)
/-- a list of rational numbers joined to a list, as append leaves it -/
theorem app_er {N : Nat} {w : World} {n m L : Nat} {p q : Nat → Rat} {xs ys : List Value} (h1 : Cl n (Er N w p L) xs) (h2 : Cl m (Er N w q L) ys) : Cl (n + m) (Er N w (app p n q) L) (xs ++ ys) :=
  (h1.app h2).imp fun i v0 v1 v2 hi e => by
    rcases Nat.lt_or_ge i n with h | h
    · simp only [if_pos h] at e
      unfold Er app; rw [if_pos h]; exact e
    · simp only [if_neg (Nat.not_lt.2 h)] at e
      unfold Er app; rw [if_neg (by omega)]; exact e

end Go.Proofs.YtnillajhhimeiaaDoor
