import Derived.Test.YtjobopafcgnljaaGreatJoF
import Derived.Maps.AppendAt
namespace Go.Proofs.YtjobopafcgnljaaGreat
end Go.Proofs.YtjobopafcgnljaaGreat
namespace Go.Proofs.YtjobopafcgnljaaGreat
open Go.RowKit
def Cl (n : Nat) (E : Nat → Value → Value → Value → Prop) (xs : List Value) : Prop :=
 xs.length = n * 3 ∧ ∀ i, i < n → ∃ v0 v1 v2, xs[i * 3]? = some v0 ∧ xs[i * 3 + 1]? = some v1 ∧ xs[i * 3 + 2]? = some v2 ∧ E i v0 v1 v2
def Er (N : Nat) (w : World) (q : Nat → Rat) (L : Nat) (i : Nat) (v0 v1 v2 : Value) : Prop := ∃ s a na ca d nd cd, v0 = .bool s ∧ v1 = .slice a na ca ∧ v2 = .slice d nd cd ∧ Rt N w s a na ca d nd cd (q i) L
def En (N : Nat) (w : World) (q : Nat → Rat) (i : Nat) (v0 v1 v2 : Value) : Prop := ∃ r c r2 c2, v0 = .bool (decide ((q i).num < 0)) ∧ v1 = .slice r (nlen (q i).num.natAbs) c ∧ v2 = .slice r2 (nlen (q i).den) c2 ∧ Nt N w r (nlen (q i).num.natAbs) c (q i).num.natAbs ∧ Nt N w r2 (nlen (q i).den) c2 (q i).den
theorem Er.below {N : Nat} {w w' : World} {q : Nat → Rat} {L i : Nat} {v0 v1 v2 : Value} (h : Er N w q L i v0 v1 v2) (hb : Below w.heap.size w w') : Er N w' q L i v0 v1 v2 := by
 obtain ⟨s, a, na, ca, d, nd, cd, e0, e1, e2, h⟩ := h
 exact ⟨s, a, na, ca, d, nd, cd, e0, e1, e2, h.below hb⟩
theorem En.below {N : Nat} {w w' : World} {q : Nat → Rat} {i : Nat} {v0 v1 v2 : Value} (h : En N w q i v0 v1 v2) (hb : Below w.heap.size w w') : En N w' q i v0 v1 v2 := by
 obtain ⟨r, c, r2, c2, e0, e1, e2, h, h'⟩ := h
 exact ⟨r, c, r2, c2, e0, e1, e2, h.below hb, h'.below hb⟩
theorem En.keep {N : Nat} {w w' : World} {q : Nat → Rat} {i : Nat} {v0 v1 v2 : Value} (h : En N w q i v0 v1 v2) (hb : Kp N w w') : En N w' q i v0 v1 v2 := by
 obtain ⟨r, c, r2, c2, e0, e1, e2, h, h'⟩ := h
 exact ⟨r, c, r2, c2, e0, e1, e2, h.keep hb, h'.keep hb⟩
theorem Cl.nil (E : Nat → Value → Value → Value → Prop) : Cl 0 E [] := ⟨rfl, fun i hi => by omega⟩
theorem Cl.imp {n : Nat} {E F : Nat → Value → Value → Value → Prop} {xs : List Value} (h : Cl n E xs) (k : ∀ i v0 v1 v2, i < n → E i v0 v1 v2 → F i v0 v1 v2) : Cl n F xs := by
 refine ⟨h.1, fun i hi => ?_⟩
 obtain ⟨v0, v1, v2, g0, g1, g2, e⟩ := h.2 i hi
 exact ⟨v0, v1, v2, g0, g1, g2, k i v0 v1 v2 hi e⟩
theorem Cl.app {n m : Nat} {E F : Nat → Value → Value → Value → Prop} {xs ys : List Value} (h1 : Cl n E xs) (h2 : Cl m F ys) : Cl (n + m) (fun i => if i < n then E i else F (i - n)) (xs ++ ys) := by
 refine ⟨by rw [List.length_append, h1.1, h2.1]; omega, fun i hi => ?_⟩
 rcases Nat.lt_or_ge i n with h | h
 ·obtain ⟨v0, v1, v2, g0, g1, g2, e⟩ := h1.2 i h
  refine ⟨v0, v1, v2, ?_, ?_, ?_, by simp only [if_pos h]; exact e⟩
  all_goals rw [List.getElem?_append_left (by rw [h1.1]; omega)]; assumption
 ·obtain ⟨v0, v1, v2, g0, g1, g2, e⟩ := h2.2 (i - n) (by omega)
  refine ⟨v0, v1, v2, ?_, ?_, ?_, by simp only [if_neg (Nat.not_lt.2 h)]; exact e⟩
  all_goals rw [List.getElem?_append_right (by rw [h1.1]; omega), h1.1]
  ·rw [show i * 3 - n * 3 = (i - n) * 3 by omega]; exact g0
  ·rw [show i * 3 + 1 - n * 3 = (i - n) * 3 + 1 by omega]; exact g1
  ·rw [show i * 3 + 2 - n * 3 = (i - n) * 3 + 2 by omega]; exact g2
theorem Cl.push {n : Nat} {E : Nat → Value → Value → Value → Prop} {xs : List Value} {v0 v1 v2 : Value} (h1 : Cl n E xs) (h2 : E n v0 v1 v2) : Cl (n + 1) E (xs ++ [v0, v1, v2]) := by
  have h3 : Cl 1 (fun _ => E n) [v0, v1, v2] := ⟨rfl, fun i hi => by obtain rfl : i = 0 := by omega
                                                                     exact ⟨v0, v1, v2, rfl, rfl, rfl, h2⟩⟩
  refine (h1.app h3).imp fun i a b c hi e => ?_
  rcases Nat.lt_or_ge i n with h | h
  · simp only [if_pos h] at e; exact e
  · obtain rfl : i = n := by omega
    simp only [if_neg (Nat.lt_irrefl i)] at e; exact e
theorem Cl.one {n : Nat} {E : Nat → Value → Value → Value → Prop} {xs : List Value} (h : Cl n E xs) (ho : ∀ i v0 v1 v2, i < n → E i v0 v1 v2 → v0.oneCell' = true ∧ v1.oneCell' = true ∧ v2.oneCell' = true) : ∀ u ∈ xs, u.oneCell' = true := by
 intro u hu
 obtain ⟨j, hj, e⟩ := List.getElem_of_mem hu
 have e2 : xs[j]? = some u := by rw [List.getElem?_eq_some_iff]; exact ⟨hj, e⟩
 have hj2 := h.1
 obtain ⟨v0, v1, v2, g0, g1, g2, k⟩ := h.2 (j / 3) (by omega)
 have hh := ho _ _ _ _ (by omega) k
 obtain e3 | e3 | e3 : j % 3 = 0 ∨ j % 3 = 1 ∨ j % 3 = 2 := by omega
 ·rw [show j / 3 * 3 = j by omega, e2] at g0
  rw [Option.some.inj g0]; exact hh.1
 ·rw [show j / 3 * 3 + 1 = j by omega, e2] at g1
  rw [Option.some.inj g1]; exact hh.2.1
 ·rw [show j / 3 * 3 + 2 = j by omega, e2] at g2
  rw [Option.some.inj g2]; exact hh.2.2
theorem Er.one {N : Nat} {w : World} {q : Nat → Rat} {L i : Nat} {v0 v1 v2 : Value} (h : Er N w q L i v0 v1 v2) : v0.oneCell' = true ∧ v1.oneCell' = true ∧ v2.oneCell' = true := by
 obtain ⟨s, a, na, ca, d, nd, cd, rfl, rfl, rfl, _⟩ := h
 exact ⟨rfl, rfl, rfl⟩
theorem En.one {N : Nat} {w : World} {q : Nat → Rat} {i : Nat} {v0 v1 v2 : Value} (h : En N w q i v0 v1 v2) : v0.oneCell' = true ∧ v1.oneCell' = true ∧ v2.oneCell' = true := by
 obtain ⟨r, c, r2, c2, rfl, rfl, rfl, _⟩ := h
 exact ⟨rfl, rfl, rfl⟩
theorem Rs.cells {N : Nat} {w : World} {b off n cap L : Nat} {q : Nat → Rat} (h : Rs N w (some ⟨b, off, none⟩) n cap q L) (j : Nat) (hj : j < n * 3) : ∃ u, w.cell? ⟨b, off + j, none⟩ = some u := by
 obtain ⟨s, ra, rn, rc, da, dn, dc, g0, g1, g2, _⟩ := h.at (i := j / 3) (by omega)
 obtain e | e | e : j % 3 = 0 ∨ j % 3 = 1 ∨ j % 3 = 2 := by omega
 ·rw [show off + j / 3 * 3 = off + j by omega] at g0; exact ⟨_, g0⟩
 ·rw [show off + j / 3 * 3 + 1 = off + j by omega] at g1; exact ⟨_, g1⟩
 ·rw [show off + j / 3 * 3 + 2 = off + j by omega] at g2; exact ⟨_, g2⟩
theorem owns_cell {w : World} {n g : Nat} {xs : List Value} {cur : Array Value} {e : TypeId} (hh : w.heap[g]? = some (.cells cur e (0, 0))) (ht : cur.toList.take (n * 3) = xs) (i : Nat) (hi : i < n * 3) (u : Value) (hu : xs[i]? = some u) : w.cell? ⟨g, i, none⟩ = some u := by
 rw [← ht, List.getElem?_take_of_lt hi] at hu
 simp [World.cell?, hh]
 simpa using hu
theorem Cl.rs {N : Nat} {w : World} {base n L : Nat} {q : Nat → Rat} {v : Value} {xs : List Value} (own : w.ownsRow base 29 3 v n xs) (h : Cl n (Er N w q L) xs) : ∃ a cap, v = .slice a n cap ∧ Rs N w a n cap q L := by
 obtain ⟨_, ⟨rfl, rfl⟩ | ⟨g, cap, cur, rfl, hg, hh, e1, e2, e3, e4⟩⟩ := own
 ·exact ⟨none, 0, rfl, Nat.le_refl _, Nat.zero_le _, fun h => by omega⟩
 ·refine ⟨_, _, rfl, e1, e2, fun _ => ⟨g, 0, rfl, fun i hi => ?_⟩⟩
  obtain ⟨v0, v1, v2, g0, g1, g2, s, a, na, ca, d, nd, cd, rfl, rfl, rfl, hr⟩ := h.2 i hi
  rw [Nat.zero_add]
  exact ⟨s, a, na, ca, d, nd, cd, owns_cell hh e4 _ (by omega) _ g0, owns_cell hh e4 _ (by omega) _ g1, owns_cell hh e4 _ (by omega) _ g2, hr⟩
def Rn (N : Nat) (w : World) (a : Option Addr) (n cap : Nat) (q : Nat → Rat) : Prop :=
 n ≤ cap ∧ cap ≤ maxLen ∧ (0 < n → ∃ b off, a = some ⟨b, off, none⟩ ∧ ∀ i, i < n → ∃ r c r2 c2, w.cell? ⟨b, off + i * 3, none⟩ = some (.bool (decide ((q i).num < 0))) ∧ w.cell? ⟨b, off + i * 3 + 1, none⟩ = some (.slice r (nlen (q i).num.natAbs) c) ∧ w.cell? ⟨b, off + i * 3 + 2, none⟩ = some (.slice r2 (nlen (q i).den) c2) ∧ Nt N w r (nlen (q i).num.natAbs) c (q i).num.natAbs ∧ Nt N w r2 (nlen (q i).den) c2 (q i).den)
theorem Rn.below {N : Nat} {w w' : World} {a : Option Addr} {n cap : Nat} {q : Nat → Rat} (h : Rn N w a n cap q) (hb : Below w.heap.size w w') : Rn N w' a n cap q := by
 obtain ⟨h0, h1, h2⟩ := h
 refine ⟨h0, h1, fun hn => ?_⟩
 obtain ⟨b, off, e, hc⟩ := h2 hn
 refine ⟨b, off, e, fun i hi => ?_⟩
 obtain ⟨r, c, r2, c2, h3, h4, h5, h6, h7⟩ := hc i hi
 exact ⟨r, c, r2, c2, cell_mono h3 hb, cell_mono h4 hb, cell_mono h5 hb, h6.below hb, h7.below hb⟩
theorem Rn.congr {N : Nat} {w : World} {a : Option Addr} {n cap : Nat} {q q' : Nat → Rat} (h : Rn N w a n cap q) (e : ∀ i, i < n → q i = q' i) : Rn N w a n cap q' := by
 obtain ⟨h0, h1, h2⟩ := h
 refine ⟨h0, h1, fun hn => ?_⟩
 obtain ⟨b, off, e1, hc⟩ := h2 hn
 exact ⟨b, off, e1, fun i hi => by rw [← e i hi]; exact hc i hi⟩
theorem Rn.nil (N : Nat) (w : World) (q : Nat → Rat) : Rn N w none 0 0 q := ⟨Nat.le_refl _, Nat.zero_le _, fun h => by omega⟩
theorem Rn.rs {N : Nat} {w : World} {a : Option Addr} {n cap : Nat} {q : Nat → Rat} (h : Rn N w a n cap q) (L : Nat) (hL : ∀ i, i < n → rsz (q i) ≤ L) : Rs N w a n cap q L := by
 obtain ⟨h0, h1, h2⟩ := h
 refine ⟨h0, h1, fun hn => ?_⟩
 obtain ⟨b, off, e, hc⟩ := h2 hn
 refine ⟨b, off, e, fun i hi => ?_⟩
 obtain ⟨r, c, r2, c2, h3, h4, h5, h6, h7⟩ := hc i hi
 exact ⟨_, _, _, _, _, _, _, h3, h4, h5, Rt.of_norm h6 h7 L (hL i hi)⟩
theorem Rl.rn {N : Nat} {w : World} {b n : Nat} {q : Nat → Rat} (h : Rl N w b n n q) (hn : n ≤ maxLen) : Rn N w (some ⟨b, 0, none⟩) n n q :=
 ⟨Nat.le_refl _, hn, fun _ => ⟨b, 0, rfl, fun i hi => by rw [Nat.zero_add]; exact h.2 i hi⟩⟩
theorem Cl.rn {N : Nat} {w : World} {base n : Nat} {q : Nat → Rat} {v : Value} {xs : List Value} (own : w.ownsRow base 29 3 v n xs) (h : Cl n (En N w q) xs) : ∃ a cap, v = .slice a n cap ∧ Rn N w a n cap q := by
 obtain ⟨_, ⟨rfl, rfl⟩ | ⟨g, cap, cur, rfl, hg, hh, e1, e2, e3, e4⟩⟩ := own
 ·exact ⟨none, 0, rfl, Nat.le_refl _, Nat.zero_le _, fun h => by omega⟩
 ·refine ⟨_, _, rfl, e1, e2, fun _ => ⟨g, 0, rfl, fun i hi => ?_⟩⟩
  obtain ⟨v0, v1, v2, g0, g1, g2, r, c, r2, c2, rfl, rfl, rfl, hr, hr'⟩ := h.2 i hi
  rw [Nat.zero_add]
  exact ⟨r, c, r2, c2, owns_cell hh e4 _ (by omega) _ g0, owns_cell hh e4 _ (by omega) _ g1, owns_cell hh e4 _ (by omega) _ g2, hr, hr'⟩
theorem own_bel {B : Nat} {e : TypeId} {w0 w w1 : World} {x : Value} {n k : Nat} {xs : List Value} (hx : w.ownsRow B e k x n xs) (hbel : Below B w0 w) (hB : B ≤ w.heap.size) (hg : w.grownBy w1 x.ownBlock) : Below B w0 w1 :=
 hbel.grown hg hB (fun k hk => (hx.lt k hk).1)
end Go.Proofs.YtjobopafcgnljaaGreat
namespace Go.Proofs.YtjobopafcgnljaaGreat
open Go.RowKit
theorem rsz_subx (p q : Rat) : rsz (p - q) ≤ rsz p + rsz q + 1 := by
 have e1 : mkRat (p.num * q.den - q.num * p.den) (p.den * q.den) = p - q := by
  rw [Rat.mkRat_eq_div, Rat.sub_eq_add_neg]
  have h1 := Rat.mkRat_self p
  have h2 := Rat.mkRat_self q
  rw [Rat.mkRat_eq_div] at h1 h2
  have c1 := natQ_ne p.den_pos
  have c2 := natQ_ne q.den_pos
  have e : (((p.num * q.den - q.num * p.den : Int)) : Rat) = (p.num : Rat) * ((q.den : Nat) : Rat) - (q.num : Rat) * ((p.den : Nat) : Rat) := by rw [Rat.intCast_sub, Rat.intCast_mul, Rat.intCast_mul]; rfl
  rw [e, natQ_mul]
  grind
 rw [← e1]
 have a1 := nlen_mul p.den q.den
 have b1 : nlen p.num.natAbs ≤ rsz p := by unfold rsz; omega
 have b2 : nlen p.den ≤ rsz p := by unfold rsz; omega
 have b3 : nlen q.num.natAbs ≤ rsz q := by unfold rsz; omega
 have b4 : nlen q.den ≤ rsz q := by unfold rsz; omega
 refine rsz_mk _ _ _ (by omega) ?_ (by omega)
 have c1 := nlen_mul p.num.natAbs q.den
 have c2 := nlen_mul q.num.natAbs p.den
 have c3 : (p.num * q.den - q.num * p.den).natAbs ≤ p.num.natAbs * q.den + q.num.natAbs * p.den := by
  have := Int.natAbs_sub_le (p.num * q.den) (q.num * p.den)
  rwa [Int.natAbs_mul, Int.natAbs_mul, Int.natAbs_natCast, Int.natAbs_natCast] at this
 refine Nat.le_trans (nlen_mono c3) ?_
 exact nlen_add1 _ _ _ (by omega) (by omega)
theorem Nt.lit {N : Nat} (w : World) (x b : Nat) (hb : b = w.heap.size) (h : x < 4294967296) : Nt N (w.alloc (.cells #[.int .u32 x] 62)) (some ⟨b, 0, none⟩) 1 1 x := by
 subst hb
 refine ⟨⟨Nat.le_refl _, fun h => by cases h⟩, by unfold maxLen; omega, by rw [Nat.pow_one, B_eq]; exact h, fun _ => ⟨w.heap.size, 0, rfl, .inr ⟨_, _, heap_alloc_new w _⟩, fun i hi => ?_⟩⟩
 obtain rfl : i = 0 := by omega
 unfold dig
 rw [Nat.pow_zero, Nat.div_one, Nat.mod_eq_of_lt (by rw [B_eq]; exact h)]
 go_simp
end Go.Proofs.YtjobopafcgnljaaGreat
