import Derived.Test.YtjobopafcgnljaaGreatProg
import Derived.WalkKit
import Derived.WalkSpells
import Derived.Deep.QuietTactic
import Derived.BigQuiet
import Derived.Outline
import Derived.Lib.Hide
import Derived.WalkSmall
import Derived.Deep.OwnRows
import Derived.Deep.DeepCutAuto
import Derived.Deep.RegionHeld3
import Derived.Shelf.RegionOpenPlain
namespace Go.Proofs.YtjobopafcgnljaaGreat
structure Ord (T : Nat → Nat → Bool) : Prop where
 trans : ∀ x y z, T x y = true → T y z = true → T x z = true
 total : ∀ x y, x ≠ y → T x y = true ∨ T y x = true
 asymm : ∀ x y, T x y = true → T y x = true → False
theorem Ord.irrefl {T : Nat → Nat → Bool} (h : Ord T) (x : Nat) : ¬ T x x = true := fun e => h.asymm x x e e
theorem Ord.swap {T : Nat → Nat → Bool} (h : Ord T) {x y : Nat} (hne : y < x) (hn : ¬ T x y = true) : T y x = true := by
 rcases h.total x y (by omega) with e | e
 ·exact absurd e hn
 ·exact e
def Rng (a b : Nat) (d d' : Nat → Nat) : Prop := (∀ i, ¬ (a ≤ i ∧ i < b) → d' i = d i) ∧ ∀ i, a ≤ i → i < b → ∃ j, a ≤ j ∧ j < b ∧ d' i = d j
theorem Rng.refl (a b : Nat) (d : Nat → Nat) : Rng a b d d := ⟨fun _ _ => rfl, fun i h k => ⟨i, h, k, rfl⟩⟩
theorem Rng.trans {a b : Nat} {d d' d'' : Nat → Nat} (h : Rng a b d d') (k : Rng a b d' d'') : Rng a b d d'' := by
 refine ⟨fun i hi => (k.1 i hi).trans (h.1 i hi), fun i h1 h2 => ?_⟩
 obtain ⟨j, j1, j2, e⟩ := k.2 i h1 h2
 obtain ⟨l, l1, l2, e2⟩ := h.2 j j1 j2
 exact ⟨l, l1, l2, e.trans e2⟩
theorem Rng.mono {a b a' b' : Nat} {d d' : Nat → Nat} (h : Rng a b d d') (ha : a' ≤ a) (hb : b ≤ b') : Rng a' b' d d' := by
 refine ⟨fun i hi => h.1 i (by omega), fun i h1 h2 => ?_⟩
 by_cases hi : a ≤ i ∧ i < b
 ·obtain ⟨j, j1, j2, e⟩ := h.2 i hi.1 hi.2
  exact ⟨j, by omega, by omega, e⟩
 ·exact ⟨i, h1, h2, h.1 i hi⟩
def swpN (d : Nat → Nat) (i j : Nat) : Nat → Nat := fun k => if k = i then d j else if k = j then d i else d k
theorem swpN_rng {a b i j : Nat} (d : Nat → Nat) (h1 : a ≤ i) (h2 : i < b) (h3 : a ≤ j) (h4 : j < b) : Rng a b d (swpN d i j) := by
 refine ⟨fun k hk => ?_, fun k k1 k2 => ?_⟩ <;> unfold swpN
 ·rw [if_neg (by rintro rfl; exact hk ⟨h1, h2⟩), if_neg (by rintro rfl; exact hk ⟨h3, h4⟩)]
 ·by_cases e : k = i
  ·rw [if_pos e]; exact ⟨j, h3, h4, rfl⟩
  ·rw [if_neg e]
   by_cases e2 : k = j
   ·rw [if_pos e2]; exact ⟨i, h1, h2, rfl⟩
   ·rw [if_neg e2]; exact ⟨k, k1, k2, rfl⟩
def Srt (T : Nat → Nat → Bool) (a b : Nat) (d : Nat → Nat) : Prop := ∀ i j, a ≤ i → i < j → j < b → T (d i) (d j) = true
def Crs (a m b : Nat) (d : Nat → Nat) : Prop := ∀ i j, a ≤ i → i < m → m ≤ j → j < b → d i < d j
def Inc (a b : Nat) (d : Nat → Nat) : Prop := ∀ i j, a ≤ i → i < j → j < b → d i < d j
structure Ins (T : Nat → Nat → Bool) (a i j : Nat) (d dj : Nat → Nat) : Prop where
 rng : Rng a (i + 1) d dj
 big : ∀ p, a ≤ p → p ≤ i → p ≠ j → dj p < dj j
 srt : ∀ p q, a ≤ p → p < q → q ≤ i → p ≠ j → q ≠ j → T (dj p) (dj q) = true
 beh : ∀ q, j < q → q ≤ i → T (dj j) (dj q) = true
theorem Ins.start {T : Nat → Nat → Bool} {a b i : Nat} {d dk : Nat → Nat} (hI : Inc a b d) (hi : i < b) (_ha : a < i) (hr : Rng a i d dk) (hs : Srt T a i dk) : Ins T a i i d dk := by
 refine ⟨hr.mono (Nat.le_refl _) (by omega), fun p h1 h2 h3 => ?_, fun p q h1 h2 h3 _ h5 => hs p q h1 h2 (by omega), fun q h1 h2 => by omega⟩
 rw [hr.1 i (by omega)]
 obtain ⟨j, j1, j2, e⟩ := hr.2 p h1 (by omega)
 rw [e]; exact hI j i j1 j2 hi
theorem Ins.step {T : Nat → Nat → Bool} {a i j : Nat} {d dj : Nat → Nat} (h : Ins T a i j d dj) (ha : a < j) (hj : j ≤ i) (ht : T (dj j) (dj (j - 1)) = true) : Ins T a i (j - 1) d (swpN dj j (j - 1)) := by
 obtain ⟨h1, h2, h3, h4⟩ := h
 refine ⟨h1.trans (swpN_rng _ (by omega) (by omega) (by omega) (by omega)), fun p p1 p2 p3 => ?_, fun p q p1 p2 p3 p4 p5 => ?_, fun q q1 q2 => ?_⟩ <;> unfold swpN
 ·rw [if_neg (show ¬ j - 1 = j by omega), if_pos rfl]
  by_cases e : p = j
  ·rw [if_pos e]; exact h2 _ (by omega) (by omega) (by omega)
  ·rw [if_neg e, if_neg p3]; exact h2 p p1 p2 e
 ·by_cases e : p = j
  ·subst e
   rw [if_pos rfl, if_neg (by omega), if_neg p5]
   exact h3 _ _ (by omega) (by omega) p3 (by omega) (by omega)
  ·rw [if_neg e, if_neg p4]
   by_cases e2 : q = j
   ·rw [if_pos e2]; exact h3 _ _ p1 (by omega) (by omega) e (by omega)
   ·rw [if_neg e2, if_neg p5]; exact h3 _ _ p1 p2 p3 e e2
 ·rw [if_neg (show ¬ j - 1 = j by omega), if_pos rfl]
  by_cases e : q = j
  ·rw [if_pos e]; exact ht
  ·rw [if_neg e, if_neg (by omega)]; exact h4 q (by omega) q2
theorem Ins.stop {T : Nat → Nat → Bool} (hO : Ord T) {a i j : Nat} {d dj : Nat → Nat} (h : Ins T a i j d dj) (ha : a ≤ j) (hj : j ≤ i) (ht : j ≤ a ∨ ¬ T (dj j) (dj (j - 1)) = true) : Rng a (i + 1) d dj ∧ Srt T a (i + 1) dj := by
 obtain ⟨h1, h2, h3, h4⟩ := h
 refine ⟨h1, fun p q p1 p2 p3 => ?_⟩
 by_cases e : p = j
 ·subst e; exact h4 q p2 (by omega)
 ·by_cases e2 : q = j
  ·subst e2
   have hlt : a < q := by omega
   have h5 : T (dj (q - 1)) (dj q) = true := hO.swap (h2 _ (by omega) (by omega) (by omega)) (by rcases ht with ht | ht; omega; exact ht)
   by_cases e3 : p = q - 1
   ·rw [e3]; exact h5
   ·exact hO.trans _ _ _ (h3 p (q - 1) p1 (by omega) (by omega) e (by omega)) h5
  ·exact h3 p q p1 p2 (by omega) e e2
def swr (a b n : Nat) (d : Nat → Nat) : Nat → Nat := fun q => if a ≤ q ∧ q < a + n then d (q - a + b) else if b ≤ q ∧ q < b + n then d (q - b + a) else d q
theorem swr_zero (a b : Nat) (d : Nat → Nat) : swr a b 0 d = d := by
 funext q; unfold swr; rw [if_neg (by omega), if_neg (by omega)]
theorem swr_succ (a b n : Nat) (d : Nat → Nat) (h : a + n < b) : swpN (swr a b n d) (a + n) (b + n) = swr a b (n + 1) d := by
 funext q; unfold swpN swr
 by_cases h1 : q = a + n
 ·subst h1; rw [if_pos rfl, if_neg (by omega), if_neg (by omega), if_pos (by omega)]; congr 1; omega
 ·rw [if_neg h1]
  by_cases h2 : q = b + n
  ·subst h2; rw [if_pos rfl, if_neg (by omega), if_neg (by omega), if_neg (by omega), if_pos (by omega)]; congr 1; omega
  ·rw [if_neg h2]
   by_cases h3 : a ≤ q ∧ q < a + n
   ·rw [if_pos h3, if_pos (by omega)]
   ·rw [if_neg h3, if_neg (show ¬ (a ≤ q ∧ q < a + (n + 1)) by omega)]
    by_cases h4 : b ≤ q ∧ q < b + n
    ·rw [if_pos h4, if_pos (by omega)]
    ·rw [if_neg h4, if_neg (by omega)]
def rot (a m e : Nat) (d : Nat → Nat) : Nat → Nat := fun q => if a ≤ q ∧ q < a + (e - m) then d (q - a + m) else if a + (e - m) ≤ q ∧ q < e then d (q - (e - m)) else d q
theorem rot_end (m i : Nat) (d : Nat → Nat) (hi : i ≤ m) : swr (m - i) m i d = rot (m - i) m (m + i) d := by
 funext q; unfold swr rot
 by_cases h1 : m - i ≤ q ∧ q < m - i + i
 ·rw [if_pos h1, if_pos (by omega)]
 ·rw [if_neg h1, if_neg (show ¬ (m - i ≤ q ∧ q < m - i + (m + i - m)) by omega)]
  by_cases h2 : m ≤ q ∧ q < m + i
  ·rw [if_pos h2, if_pos (by omega)]; congr 1; omega
  ·rw [if_neg h2, if_neg (by omega)]
theorem rot_left (m i j : Nat) (d : Nat → Nat) (hi : i ≤ m) (h : j < i) (hj : 0 < j) : rot (m - (i - j)) m (m + j) (swr (m - i) m j d) = rot (m - i) m (m + j) d := by
 funext q; unfold rot
 by_cases h1 : m - i ≤ q ∧ q < m - i + (m + j - m)
 ·rw [if_neg (by omega), if_neg (by omega), if_pos h1]; unfold swr; rw [if_pos (by omega)]
 ·rw [if_neg h1]
  by_cases h2 : m - i + (m + j - m) ≤ q ∧ q < m + j
  ·rw [if_pos h2]
   by_cases h3 : m - (i - j) ≤ q ∧ q < m - (i - j) + (m + j - m)
   ·rw [if_pos h3]; unfold swr; rw [if_neg (by omega), if_pos (by omega)]; congr 1; omega
   ·rw [if_neg h3, if_pos (by omega)]; unfold swr; rw [if_neg (by omega), if_neg (by omega)]
  ·rw [if_neg h2, if_neg (by omega), if_neg (by omega)]; unfold swr; rw [if_neg (by omega), if_neg (by omega)]
theorem rot_right (m i j : Nat) (d : Nat → Nat) (hi : i ≤ m) (h : i < j) (hj : 0 < i) : rot (m - i) m (m + (j - i)) (swr (m - i) (m + j - i) i d) = rot (m - i) m (m + j) d := by
 funext q; unfold rot
 by_cases h1 : m - i ≤ q ∧ q < m - i + (m + j - m)
 ·rw [if_pos h1]
  by_cases h3 : m - i ≤ q ∧ q < m - i + (m + (j - i) - m)
  ·rw [if_pos h3]; unfold swr
   by_cases h4 : q - (m - i) + m < m + j - i
   ·rw [if_neg (by omega), if_neg (by omega)]
   ·omega
  ·rw [if_neg h3, if_pos (by omega)]; unfold swr; rw [if_pos (by omega)]; congr 1; omega
 ·rw [if_neg h1, if_neg (by omega)]
  by_cases h2 : m - i + (m + j - m) ≤ q ∧ q < m + j
  ·rw [if_pos h2, if_neg (by omega)]; unfold swr; rw [if_neg (by omega), if_pos (by omega)]; congr 1; omega
  ·rw [if_neg h2, if_neg (by omega)]; unfold swr; rw [if_neg (by omega), if_neg (by omega)]
theorem rot_rng (a m e : Nat) (d : Nat → Nat) (h1 : a ≤ m) (h2 : m ≤ e) : Rng a e d (rot a m e d) := by
 refine ⟨fun i hi => ?_, fun i i1 i2 => ?_⟩ <;> unfold rot
 ·rw [if_neg (by omega), if_neg (by omega)]
 ·by_cases h3 : a ≤ i ∧ i < a + (e - m)
  ·rw [if_pos h3]; exact ⟨_, by omega, by omega, rfl⟩
  ·rw [if_neg h3, if_pos (by omega)]; exact ⟨_, by omega, by omega, rfl⟩
def shl (a k : Nat) (d : Nat → Nat) : Nat → Nat := fun q => if a ≤ q ∧ q < k then d (q + 1) else if q = k then d a else d q
theorem shl_zero (a : Nat) (d : Nat → Nat) : shl a a d = d := by
 funext q; unfold shl; rw [if_neg (by omega)]; by_cases h : q = a
 ·rw [if_pos h, h]
 ·rw [if_neg h]
theorem shl_succ (a k : Nat) (d : Nat → Nat) (h : a ≤ k) : swpN (shl a k d) k (k + 1) = shl a (k + 1) d := by
 funext q; unfold swpN shl
 by_cases h1 : q = k
 ·subst h1; rw [if_pos rfl, if_neg (by omega), if_neg (by omega), if_pos (by omega)]
 ·rw [if_neg h1]
  by_cases h2 : q = k + 1
  ·subst h2; rw [if_pos rfl, if_neg (by omega), if_pos rfl, if_neg (by omega), if_pos rfl]
  ·rw [if_neg h2]
   by_cases h3 : a ≤ q ∧ q < k
   ·rw [if_pos h3, if_pos (by omega)]
   ·rw [if_neg h3, if_neg h1, if_neg (by omega), if_neg h2]
def shr (m k : Nat) (d : Nat → Nat) : Nat → Nat := fun q => if k < q ∧ q ≤ m then d (q - 1) else if q = k then d m else d q
theorem shr_zero (m : Nat) (d : Nat → Nat) : shr m m d = d := by
 funext q; unfold shr; rw [if_neg (by omega)]; by_cases h : q = m
 ·rw [if_pos h, h]
 ·rw [if_neg h]
theorem shr_succ (m k : Nat) (d : Nat → Nat) (h : k ≤ m) (hk : 0 < k) : swpN (shr m k d) k (k - 1) = shr m (k - 1) d := by
 funext q; unfold swpN shr
 by_cases h1 : q = k
 ·subst h1; rw [if_pos rfl, if_neg (by omega), if_neg (by omega), if_pos (by omega)]
 ·rw [if_neg h1]
  by_cases h2 : q = k - 1
  ·subst h2; rw [if_pos rfl, if_neg (by omega), if_pos rfl, if_neg (by omega), if_pos rfl]
  ·rw [if_neg h2]
   by_cases h3 : k < q ∧ q ≤ m
   ·rw [if_pos h3, if_pos (by omega)]
   ·rw [if_neg h3, if_neg h1, if_neg (by omega), if_neg h2]
theorem shl_done {T : Nat → Nat → Bool} {a b i : Nat} {d : Nat → Nat} (hs : Srt T (a + 1) b d) (hi : a + 1 ≤ i) (hb : i ≤ b) (h1 : ∀ q, a + 1 ≤ q → q < i → T (d q) (d a) = true) (h2 : ∀ q, i ≤ q → q < b → T (d a) (d q) = true) :
  Rng a b d (shl a (i - 1) d) ∧ Srt T a b (shl a (i - 1) d) := by
 refine ⟨⟨fun q hq => ?_, fun q q1 q2 => ?_⟩, fun p q p1 p2 p3 => ?_⟩ <;> unfold shl
 ·rw [if_neg (by omega), if_neg (by omega)]
 ·by_cases h3 : a ≤ q ∧ q < i - 1
  ·rw [if_pos h3]; exact ⟨_, by omega, by omega, rfl⟩
  ·rw [if_neg h3]
   by_cases h4 : q = i - 1
   ·rw [if_pos h4]; exact ⟨a, by omega, by omega, rfl⟩
   ·rw [if_neg h4]; exact ⟨q, by omega, by omega, rfl⟩
 ·by_cases e1 : p < i - 1
  ·rw [if_pos ⟨p1, e1⟩]
   by_cases e2 : q < i - 1
   ·rw [if_pos (by omega)]; exact hs _ _ (by omega) (by omega) (by omega)
   ·rw [if_neg (by omega)]
    by_cases e3 : q = i - 1
    ·rw [if_pos e3]; exact h1 _ (by omega) (by omega)
    ·rw [if_neg e3]; exact hs _ _ (by omega) (by omega) (by omega)
  ·rw [if_neg (by omega), if_neg (show ¬ (a ≤ q ∧ q < i - 1) by omega), if_neg (show ¬ q = i - 1 by omega)]
   by_cases e3 : p = i - 1
   ·rw [if_pos e3]; exact h2 _ (by omega) (by omega)
   ·rw [if_neg e3]; exact hs _ _ (by omega) (by omega) (by omega)
theorem shr_done {T : Nat → Nat → Bool} {a m i : Nat} {d : Nat → Nat} (hs : Srt T a m d) (hi : a ≤ i) (hb : i ≤ m) (h1 : ∀ q, a ≤ q → q < i → T (d q) (d m) = true) (h2 : ∀ q, i ≤ q → q < m → T (d m) (d q) = true) :
  Rng a (m + 1) d (shr m i d) ∧ Srt T a (m + 1) (shr m i d) := by
 refine ⟨⟨fun q hq => ?_, fun q q1 q2 => ?_⟩, fun p q p1 p2 p3 => ?_⟩ <;> unfold shr
 ·rw [if_neg (by omega), if_neg (by omega)]
 ·by_cases h3 : i < q ∧ q ≤ m
  ·rw [if_pos h3]; exact ⟨_, by omega, by omega, rfl⟩
  ·rw [if_neg h3]
   by_cases h4 : q = i
   ·rw [if_pos h4]; exact ⟨m, by omega, by omega, rfl⟩
   ·rw [if_neg h4]; exact ⟨q, by omega, by omega, rfl⟩
 ·by_cases e1 : i < q
  ·rw [if_pos (show i < q ∧ q ≤ m by omega)]
   by_cases e2 : i < p
   ·rw [if_pos (by omega)]; exact hs _ _ (by omega) (by omega) (by omega)
   ·rw [if_neg (by omega)]
    by_cases e3 : p = i
    ·rw [if_pos e3]; exact h2 _ (by omega) (by omega)
    ·rw [if_neg e3]; exact hs _ _ (by omega) (by omega) (by omega)
  ·rw [if_neg (show ¬ (i < p ∧ p ≤ m) by omega), if_neg (show ¬ p = i by omega), if_neg (show ¬ (i < q ∧ q ≤ m) by omega)]
   by_cases e3 : q = i
   ·rw [if_pos e3]; exact h1 _ (by omega) (by omega)
   ·rw [if_neg e3]; exact hs _ _ (by omega) (by omega) (by omega)
structure Sym (T : Nat → Nat → Bool) (a m b st : Nat) (d : Nat → Nat) : Prop where
 lo : a ≤ st
 hi : st ≤ m
 le : m ≤ (a + b) / 2 + m - st
 re : (a + b) / 2 + m - st ≤ b
 lt : ∀ i j, a ≤ i → i < st → (a + b) / 2 + m - st ≤ j → j < b → T (d i) (d j) = true
 gt : ∀ i j, st ≤ i → i < m → m ≤ j → j < (a + b) / 2 + m - st → T (d j) (d i) = true
def slo (a m b : Nat) : Nat := if (a + b) / 2 < m then (a + b) / 2 + m - b else a
def shi (a m b : Nat) : Nat := if (a + b) / 2 < m then (a + b) / 2 else m
theorem sym_of {T : Nat → Nat → Bool} (hO : Ord T) {a m b st : Nat} {d : Nat → Nat} (_ha : a < m) (hb : m < b) (h1 : Srt T a m d) (h2 : Srt T m b d) (hl : slo a m b ≤ st) (hr : st ≤ shi a m b)
    (p1 : ∀ c, slo a m b ≤ c → c < st → T (d c) (d ((a + b) / 2 + m - 1 - c)) = true) (p2 : ∀ c, st ≤ c → c < shi a m b → T (d ((a + b) / 2 + m - 1 - c)) (d c) = true) : Sym T a m b st d := by
  have hlo : a ≤ slo a m b := by unfold slo; split <;> omega
  have hhi : shi a m b ≤ m := by unfold shi; split <;> omega
  have hle : m ≤ (a + b) / 2 + m - st := by unfold shi at hr; split at hr <;> omega
  have hre : (a + b) / 2 + m - st ≤ b := by unfold slo at hl; split at hl <;> omega
  refine ⟨by omega, by omega, hle, hre, fun i j i1 i2 j1 j2 => ?_, fun i j i1 i2 j1 j2 => ?_⟩
  · have h3 : slo a m b ≤ st - 1 := by
      unfold slo at hl ⊢; split <;> rename_i h <;> simp only [h, if_true, if_false] at hl <;> omega
    have h4 := p1 (st - 1) h3 (by omega)
    rw [show (a + b) / 2 + m - 1 - (st - 1) = (a + b) / 2 + m - st by omega] at h4
    have h5 : T (d i) (d ((a + b) / 2 + m - st)) = true := by
      by_cases e : i = st - 1
      · rw [e]; exact h4
      · exact hO.trans _ _ _ (h1 i (st - 1) i1 (by omega) (by omega)) h4
    by_cases e : j = (a + b) / 2 + m - st
    · rw [e]; exact h5
    · exact hO.trans _ _ _ h5 (h2 _ _ (by omega) (by omega) j2)
  · have h3 : st < shi a m b := by
      unfold shi at hr ⊢; split <;> rename_i h <;> simp only [h, if_true, if_false] at hr <;> omega
    have h4 := p2 st (Nat.le_refl _) h3
    have h5 : T (d ((a + b) / 2 + m - 1 - st)) (d i) = true := by
      by_cases e : i = st
      · rw [e]; exact h4
      · exact hO.trans _ _ _ h4 (h1 _ _ (by omega) (by omega) i2)
    by_cases e : j = (a + b) / 2 + m - 1 - st
    · rw [e]; exact h5
    · exact hO.trans _ _ _ (h2 _ _ j1 (by omega) (by omega)) h5
structure Spl (T : Nat → Nat → Bool) (a m b st : Nat) (d dr : Nat → Nat) : Prop where
 rng : Rng a b d dr
 s1 : Srt T a st dr
 s2 : Srt T st ((a + b) / 2) dr
 s3 : Srt T ((a + b) / 2) ((a + b) / 2 + m - st) dr
 s4 : Srt T ((a + b) / 2 + m - st) b dr
 c1 : Crs a st ((a + b) / 2) dr
 c2 : Crs ((a + b) / 2) ((a + b) / 2 + m - st) b dr
 lt : ∀ i j, a ≤ i → i < (a + b) / 2 → (a + b) / 2 ≤ j → j < b → T (dr i) (dr j) = true
 lm : st ≤ (a + b) / 2
 me : (a + b) / 2 ≤ (a + b) / 2 + m - st
theorem Spl.mk' {T : Nat → Nat → Bool} {a m b st : Nat} {d : Nat → Nat} (ha : a < m) (_hb : m < b) (h1 : Srt T a m d) (h2 : Srt T m b d) (hc : Crs a m b d) (h : Sym T a m b st d) :
  Spl T a m b st d (rot st m ((a + b) / 2 + m - st) d) := by
 obtain ⟨g1, g2, g3, g4, g5, g6⟩ := h
 have hst : st ≤ (a + b) / 2 := by omega
 have r1 : ∀ q, q < st → rot st m ((a + b) / 2 + m - st) d q = d q := fun q hq => by unfold rot; rw [if_neg (by omega), if_neg (by omega)]
 have r2 : ∀ q, st ≤ q → q < (a + b) / 2 → rot st m ((a + b) / 2 + m - st) d q = d (q - st + m) := fun q h h' => by unfold rot; rw [if_pos (by omega)]
 have r3 : ∀ q, (a + b) / 2 ≤ q → q < (a + b) / 2 + m - st → rot st m ((a + b) / 2 + m - st) d q = d (q - ((a + b) / 2 - st)) := fun q h h' => by unfold rot; rw [if_neg (by omega), if_pos (by omega)]; congr 1; omega
 have r4 : ∀ q, (a + b) / 2 + m - st ≤ q → rot st m ((a + b) / 2 + m - st) d q = d q := fun q h => by unfold rot; rw [if_neg (by omega), if_neg (by omega)]
 refine ⟨(rot_rng _ _ _ _ g2 g3).mono g1 g4, fun i j i1 i2 i3 => ?_, fun i j i1 i2 i3 => ?_, fun i j i1 i2 i3 => ?_, fun i j i1 i2 i3 => ?_, fun i j i1 i2 i3 i4 => ?_, fun i j i1 i2 i3 i4 => ?_, fun i j i1 i2 i3 i4 => ?_, hst, by omega⟩
 ·rw [r1 i (by omega), r1 j i3]; exact h1 i j i1 i2 (by omega)
 ·rw [r2 i i1 (by omega), r2 j (by omega) i3]; exact h2 _ _ (by omega) (by omega) (by omega)
 ·rw [r3 i i1 (by omega), r3 j (by omega) i3]; exact h1 _ _ (by omega) (by omega) (by omega)
 ·rw [r4 i i1, r4 j (by omega)]; exact h2 _ _ (by omega) i2 i3
 ·rw [r1 i i2, r2 j i3 i4]; exact hc _ _ i1 (by omega) (by omega) (by omega)
 ·rw [r3 i i1 i2, r4 j i3]; exact hc _ _ (by omega) (by omega) (by omega) i4
 ·by_cases e1 : i < st
  ·rw [r1 i e1]
   by_cases e2 : j < (a + b) / 2 + m - st
   ·rw [r3 j i3 e2]; exact h1 _ _ i1 (by omega) (by omega)
   ·rw [r4 j (by omega)]; exact g5 _ _ i1 e1 (by omega) i4
  ·rw [r2 i (by omega) i2]
   by_cases e2 : j < (a + b) / 2 + m - st
   ·rw [r3 j i3 e2]; exact g6 _ _ (by omega) (by omega) (by omega) (by omega)
   ·rw [r4 j (by omega)]; exact h2 _ _ (by omega) (by omega) i4
theorem rot_none {st m e : Nat} (d : Nat → Nat) (h : ¬ (st < m ∧ m < e)) (h1 : st ≤ m) (h2 : m ≤ e) : rot st m e d = d := by
 funext q; unfold rot
 by_cases h3 : st ≤ q ∧ q < st + (e - m)
 ·rw [if_pos h3]; congr 1; omega
 ·rw [if_neg h3]
  by_cases h4 : st + (e - m) ≤ q ∧ q < e
  ·rw [if_pos h4]; congr 1; omega
  ·rw [if_neg h4]
theorem Spl.done {T : Nat → Nat → Bool} {a m b st : Nat} {d dr d1 d2 : Nat → Nat} (ha : a < m) (hb : m < b) (h : Spl T a m b st d dr) (k1 : Rng a ((a + b) / 2) dr d1 ∧ Srt T a ((a + b) / 2) d1) (k2 : Rng ((a + b) / 2) b d1 d2 ∧ Srt T ((a + b) / 2) b d2) :
  Rng a b d d2 ∧ Srt T a b d2 := by
 refine ⟨(h.rng.trans (k1.1.mono (Nat.le_refl _) (by omega))).trans (k2.1.mono (by omega) (Nat.le_refl _)), fun i j i1 i2 i3 => ?_⟩
 by_cases e1 : j < (a + b) / 2
 ·rw [k2.1.1 i (by omega), k2.1.1 j (by omega)]; exact k1.2 i j i1 i2 e1
 ·by_cases e2 : (a + b) / 2 ≤ i
  ·exact k2.2 i j e2 i2 i3
  ·rw [k2.1.1 i (by omega)]
   obtain ⟨p, p1, p2, ep⟩ := k1.1.2 i i1 (by omega)
   obtain ⟨q, q1, q2, eq⟩ := k2.1.2 j (by omega) i3
   rw [ep, eq, k1.1.1 q (by omega)]
   exact h.lt p q p1 p2 q1 q2
theorem Spl.left {T : Nat → Nat → Bool} {a m b st : Nat} {d dr : Nat → Nat} (h : Spl T a m b st d dr) (hn : ¬ (a < st ∧ st < (a + b) / 2)) : Rng a ((a + b) / 2) dr dr ∧ Srt T a ((a + b) / 2) dr := by
 refine ⟨Rng.refl _ _ _, fun i j i1 i2 i3 => ?_⟩
 by_cases e : a < st
 ·exact h.s1 i j i1 i2 (by have := h.lm; omega)
 ·exact h.s2 i j (by omega) i2 i3
theorem Spl.right {T : Nat → Nat → Bool} {a m b st : Nat} {d dr d1 : Nat → Nat} (h : Spl T a m b st d dr) (k1 : Rng a ((a + b) / 2) dr d1) (hn : ¬ ((a + b) / 2 < (a + b) / 2 + m - st ∧ (a + b) / 2 + m - st < b)) : Rng ((a + b) / 2) b d1 d1 ∧ Srt T ((a + b) / 2) b d1 := by
 refine ⟨Rng.refl _ _ _, fun i j i1 i2 i3 => ?_⟩
 rw [k1.1 i (by omega), k1.1 j (by omega)]
 by_cases e : (a + b) / 2 < (a + b) / 2 + m - st
 ·exact h.s3 i j i1 i2 (by omega)
 ·exact h.s4 i j (by omega) i2 i3
theorem Spl.right_in {T : Nat → Nat → Bool} {a m b st : Nat} {d dr d1 : Nat → Nat} (h : Spl T a m b st d dr) (k1 : Rng a ((a + b) / 2) dr d1) :
  Srt T ((a + b) / 2) ((a + b) / 2 + m - st) d1 ∧ Srt T ((a + b) / 2 + m - st) b d1 ∧ Crs ((a + b) / 2) ((a + b) / 2 + m - st) b d1 := by
 have e : ∀ q, (a + b) / 2 ≤ q → d1 q = dr q := fun q hq => k1.1 q (by omega)
 have h3 := h.me
 refine ⟨fun i j i1 i2 i3 => ?_, fun i j i1 i2 i3 => ?_, fun i j i1 i2 i3 i4 => ?_⟩
 ·rw [e i i1, e j (by omega)]; exact h.s3 i j i1 i2 i3
 ·rw [e i (by omega), e j (by omega)]; exact h.s4 i j i1 i2 i3
 ·rw [e i i1, e j (by omega)]; exact h.c2 i j i1 i2 i3 i4
def Blk (T : Nat → Nat → Bool) (s n : Nat) (d : Nat → Nat) : Prop := (∀ i j, i < j → j < n → i / s = j / s → T (d i) (d j) = true) ∧ ∀ i j, i < n → j < n → i / s < j / s → d i < d j
structure Bef (T : Nat → Nat → Bool) (s a : Nat) (d dk : Nat → Nat) : Prop where
 mul : a % s = 0
 aft : ∀ i, a ≤ i → dk i = d i
 srt : ∀ i j, i < j → j < a → i / s = j / s → T (dk i) (dk j) = true
 mem : ∀ i, i < a → ∃ j, j < a ∧ j / s = i / s ∧ dk i = d j
theorem Bef.start (T : Nat → Nat → Bool) (s : Nat) (d : Nat → Nat) : Bef T s 0 d d := ⟨Nat.zero_mod _, fun _ _ => rfl, fun i j _ h => by omega, fun i h => by omega⟩
theorem Bef.step20 {T : Nat → Nat → Bool} {a : Nat} {d dk d' : Nat → Nat} (h : Bef T 20 a d dk) (hr : Rng a (a + 20) dk d') (hs : Srt T a (a + 20) d') : Bef T 20 (a + 20) d d' := by
 obtain ⟨h1, h2, h3, h4⟩ := h
 refine ⟨by omega, fun i hi => (hr.1 i (by omega)).trans (h2 i (by omega)), fun i j i1 i2 i3 => ?_, fun i hi => ?_⟩
 ·by_cases e : j < a
  ·rw [hr.1 i (by omega), hr.1 j (by omega)]; exact h3 i j i1 e i3
  ·exact hs i j (by omega) i1 i2
 ·by_cases e : i < a
  ·obtain ⟨j, j1, j2, j3⟩ := h4 i e
   exact ⟨j, by omega, j2, (hr.1 i (by omega)).trans j3⟩
  ·obtain ⟨j, j1, j2, j3⟩ := hr.2 i (by omega) hi
   exact ⟨j, by omega, by omega, j3.trans (h2 j j1)⟩
theorem Bef.step40 {T : Nat → Nat → Bool} {a : Nat} {d dk d' : Nat → Nat} (h : Bef T 40 a d dk) (hr : Rng a (a + 40) dk d') (hs : Srt T a (a + 40) d') : Bef T 40 (a + 40) d d' := by
 obtain ⟨h1, h2, h3, h4⟩ := h
 refine ⟨by omega, fun i hi => (hr.1 i (by omega)).trans (h2 i (by omega)), fun i j i1 i2 i3 => ?_, fun i hi => ?_⟩
 ·by_cases e : j < a
  ·rw [hr.1 i (by omega), hr.1 j (by omega)]; exact h3 i j i1 e i3
  ·exact hs i j (by omega) i1 i2
 ·by_cases e : i < a
  ·obtain ⟨j, j1, j2, j3⟩ := h4 i e
   exact ⟨j, by omega, j2, (hr.1 i (by omega)).trans j3⟩
  ·obtain ⟨j, j1, j2, j3⟩ := hr.2 i (by omega) hi
   exact ⟨j, by omega, by omega, j3.trans (h2 j j1)⟩
theorem Bef.end20 {T : Nat → Nat → Bool} {a n : Nat} {d dk d' : Nat → Nat} (hI : Inc 0 n d) (h : Bef T 20 a d dk) (ha : a ≤ n) (hn : n < a + 20) (hr : Rng a n dk d') (hs : Srt T a n d') : Blk T 20 n d' ∧ Rng 0 n d d' := by
 obtain ⟨h1, h2, h3, h4⟩ := h
 have hm : ∀ i, i < n → ∃ j, j < n ∧ j / 20 = i / 20 ∧ d' i = d j := fun i hi => by
  by_cases e : i < a
  ·obtain ⟨j, j1, j2, j3⟩ := h4 i e
   exact ⟨j, by omega, j2, (hr.1 i (by omega)).trans j3⟩
  ·obtain ⟨j, j1, j2, j3⟩ := hr.2 i (by omega) hi
   exact ⟨j, by omega, by omega, j3.trans (h2 j j1)⟩
 refine ⟨⟨fun i j i1 i2 i3 => ?_, fun i j i1 i2 i3 => ?_⟩, fun i hi => (hr.1 i (by omega)).trans (h2 i (by omega)), fun i _ hi => ?_⟩
 ·by_cases e : j < a
  ·rw [hr.1 i (by omega), hr.1 j (by omega)]; exact h3 i j i1 e i3
  ·exact hs i j (by omega) i1 i2
 ·obtain ⟨p, p1, p2, p3⟩ := hm i i1
  obtain ⟨q, q1, q2, q3⟩ := hm j i2
  rw [p3, q3]; exact hI p q (Nat.zero_le _) (by omega) q1
 ·obtain ⟨j, j1, _, j3⟩ := hm i hi
  exact ⟨j, Nat.zero_le _, j1, j3⟩
theorem Bef.pair1 {T : Nat → Nat → Bool} {a n : Nat} {d dk : Nat → Nat} (hB : Blk T 20 n d) (h : Bef T 40 a d dk) (hn : a + 20 ≤ n) : Srt T a (a + 20) dk := fun i j i1 i2 i3 => by
 have := h.mul
 rw [h.aft i i1, h.aft j (by omega)]; exact hB.1 i j i2 (by omega) (by omega)
theorem Bef.pair2 {T : Nat → Nat → Bool} {a n b : Nat} {d dk : Nat → Nat} (hB : Blk T 20 n d) (h : Bef T 40 a d dk) (hb : b ≤ a + 40) (hn : b ≤ n) : Srt T (a + 20) b dk := fun i j i1 i2 i3 => by
 have := h.mul
 rw [h.aft i (by omega), h.aft j (by omega)]; exact hB.1 i j i2 (by omega) (by omega)
theorem Bef.pair3 {T : Nat → Nat → Bool} {a n b : Nat} {d dk : Nat → Nat} (hB : Blk T 20 n d) (h : Bef T 40 a d dk) (hb : b ≤ a + 40) (hn : b ≤ n) : Crs a (a + 20) b dk := fun i j i1 i2 i3 i4 => by
 have := h.mul
 rw [h.aft i (by omega), h.aft j (by omega)]; exact hB.2 i j (by omega) (by omega) (by omega)
theorem Bef.end40 {T : Nat → Nat → Bool} {a n : Nat} {d dk d' : Nat → Nat} (hB : Blk T 20 n d) (h : Bef T 40 a d dk) (ha : a ≤ n) (hn : n < a + 40) (hr : Rng a n dk d') (hs : Srt T a n d') : Blk T 40 n d' ∧ Rng 0 n d d' := by
 obtain ⟨h1, h2, h3, h4⟩ := h
 have hm : ∀ i, i < n → ∃ j, j < n ∧ j / 40 = i / 40 ∧ d' i = d j := fun i hi => by
  by_cases e : i < a
  ·obtain ⟨j, j1, j2, j3⟩ := h4 i e
   exact ⟨j, by omega, j2, (hr.1 i (by omega)).trans j3⟩
  ·obtain ⟨j, j1, j2, j3⟩ := hr.2 i (by omega) hi
   exact ⟨j, by omega, by omega, j3.trans (h2 j j1)⟩
 refine ⟨⟨fun i j i1 i2 i3 => ?_, fun i j i1 i2 i3 => ?_⟩, fun i hi => (hr.1 i (by omega)).trans (h2 i (by omega)), fun i _ hi => ?_⟩
 ·by_cases e : j < a
  ·rw [hr.1 i (by omega), hr.1 j (by omega)]; exact h3 i j i1 e i3
  ·exact hs i j (by omega) i1 i2
 ·obtain ⟨p, p1, p2, p3⟩ := hm i i1
  obtain ⟨q, q1, q2, q3⟩ := hm j i2
  rw [p3, q3]; exact hB.2 p q p1 q1 (by omega)
 ·obtain ⟨j, j1, _, j3⟩ := hm i hi
  exact ⟨j, Nat.zero_le _, j1, j3⟩
theorem Bef.one {T : Nat → Nat → Bool} {a n : Nat} {d dk : Nat → Nat} (hB : Blk T 20 n d) (h : Bef T 40 a d dk) (hn : n ≤ a + 20) : Srt T a n dk := fun i j i1 i2 i3 => by
 have := h.mul
 rw [h.aft i i1, h.aft j (by omega)]; exact hB.1 i j i2 i3 (by omega)
theorem Blk.srt20 {T : Nat → Nat → Bool} {n : Nat} {d : Nat → Nat} (h : Blk T 20 n d) (hn : n ≤ 20) : Srt T 0 n d := fun i j _ i2 i3 => h.1 i j i2 i3 (by omega)
theorem Blk.srt40 {T : Nat → Nat → Bool} {n : Nat} {d : Nat → Nat} (h : Blk T 40 n d) (hn : n ≤ 40) : Srt T 0 n d := fun i j _ i2 i3 => h.1 i j i2 i3 (by omega)
theorem Blk.last {T : Nat → Nat → Bool} {n : Nat} {d : Nat → Nat} (h : Blk T 40 n d) (h1 : 40 < n) (h2 : n ≤ 80) : Srt T 0 40 d ∧ Srt T 40 n d ∧ Crs 0 40 n d :=
 ⟨fun i j _ i2 i3 => h.1 i j i2 (by omega) (by omega), fun i j i1 i2 i3 => h.1 i j i2 i3 (by omega), fun i j _ i2 i3 i4 => h.2 i j (by omega) i4 (by omega)⟩
def cntP (n : Nat) (F : Nat → Bool) : Nat := (List.range n).countP F
theorem cntP_zero (F : Nat → Bool) : cntP 0 F = 0 := rfl
theorem cntP_succ (n : Nat) (F : Nat → Bool) : cntP (n + 1) F = cntP n F + (if F n = true then 1 else 0) := by
 unfold cntP; rw [List.range_succ, List.countP_append]; simp [List.countP_cons]
theorem cntP_congr {n : Nat} {F G : Nat → Bool} (h : ∀ i, i < n → F i = G i) : cntP n F = cntP n G := by
 unfold cntP; exact List.countP_congr (fun x hx => by rw [h x (List.mem_range.1 hx)])
theorem surj_of_inj : ∀ (n : Nat) (f : Nat → Nat), (∀ i, i < n → f i < n) → (∀ i j, i < n → j < n → f i = f j → i = j) → ∀ u, u < n → ∃ i, i < n ∧ f i = u
 | 0, _, _, _, u, hu => by omega
 | n + 1, f, hf, hi, u, hu => by
  have ih := surj_of_inj n (fun i => if f i = n then f n else f i)
   (fun i h => by
    show (if f i = n then f n else f i) < n
    by_cases e : f i = n
    ·rw [if_pos e]
     have h1 := hf n (by omega)
     have h2 : f n ≠ n := fun e2 => by have := hi i n (by omega) (by omega) (e.trans e2.symm); omega
     omega
    ·rw [if_neg e]; have := hf i (by omega); omega)
   (fun i j h1 h2 e => by
    change (if f i = n then f n else f i) = (if f j = n then f n else f j) at e
    by_cases e1 : f i = n
    ·by_cases e2 : f j = n
     ·exact hi i j (by omega) (by omega) (e1.trans e2.symm)
     ·rw [if_pos e1, if_neg e2] at e; have := hi n j (by omega) (by omega) e; omega
    ·by_cases e2 : f j = n
     ·rw [if_neg e1, if_pos e2] at e; have := hi i n (by omega) (by omega) e; omega
     ·rw [if_neg e1, if_neg e2] at e; exact hi i j (by omega) (by omega) e)
  by_cases hv : u = f n
  ·exact ⟨n, by omega, hv.symm⟩
  ·by_cases hn : u = n
   ·obtain ⟨i, h1, h2⟩ := ih (f n) (by have := hf n (by omega); omega)
    change (if f i = n then f n else f i) = f n at h2
    by_cases e : f i = n
    ·exact ⟨i, by omega, e.trans hn.symm⟩
    ·rw [if_neg e] at h2; have := hi i n (by omega) (by omega) h2; omega
   ·obtain ⟨i, h1, h2⟩ := ih u (by omega)
    change (if f i = n then f n else f i) = u at h2
    by_cases e : f i = n
    ·rw [if_pos e] at h2; exact absurd h2.symm hv
    ·rw [if_neg e] at h2; exact ⟨i, by omega, h2⟩
structure Prm (n : Nat) (d : Nat → Nat) : Prop where
 lt : ∀ i, i < n → d i < n
 inj : ∀ i j, i < n → j < n → d i = d j → i = j
theorem Prm.surj {n : Nat} {d : Nat → Nat} (h : Prm n d) : ∀ u, u < n → ∃ i, i < n ∧ d i = u := surj_of_inj n d h.lt h.inj
theorem Prm.perm {n : Nat} {d : Nat → Nat} (h : Prm n d) : ((List.range n).map d).Perm (List.range n) := by
 have hn : ((List.range n).map d).Nodup := by
  rw [List.Nodup, List.pairwise_map]
  exact List.Pairwise.imp_of_mem (fun ha hb hne e => hne (h.inj _ _ (List.mem_range.1 ha) (List.mem_range.1 hb) e)) List.nodup_range
 refine (List.perm_ext_iff_of_nodup hn List.nodup_range).2 (fun x => ?_)
 rw [List.mem_map, List.mem_range]
 constructor
 ·rintro ⟨i, hi, rfl⟩; exact h.lt i (List.mem_range.1 hi)
 ·intro hx; obtain ⟨i, hi, e⟩ := h.surj x hx; exact ⟨i, List.mem_range.2 hi, e⟩
theorem Prm.cnt {n : Nat} {d : Nat → Nat} (h : Prm n d) (F : Nat → Bool) : cntP n (fun i => F (d i)) = cntP n F := by
 unfold cntP
 rw [← h.perm.countP_eq F, List.countP_map]
 rfl
theorem Prm.of_srt {T : Nat → Nat → Bool} (hO : Ord T) {n : Nat} {d : Nat → Nat} (hr : Rng 0 n (fun i => i) d) (hs : Srt T 0 n d) : Prm n d := by
 refine ⟨fun i hi => ?_, fun i j hi hj e => ?_⟩
 ·obtain ⟨j, _, j2, e⟩ := hr.2 i (Nat.zero_le _) hi
  rw [e]; exact j2
 ·rcases Nat.lt_trichotomy i j with h | h | h
  ·have := hs i j (Nat.zero_le _) h hj; rw [e] at this; exact absurd this (hO.irrefl _)
  ·exact h
  ·have := hs j i (Nat.zero_le _) h hi; rw [e] at this; exact absurd this (hO.irrefl _)
def rnk (T : Nat → Nat → Bool) (n v : Nat) : Nat := cntP n (fun u => T u v)
theorem cntP_lt (n r : Nat) (h : r ≤ n) : cntP n (fun i => decide (i < r)) = r := by
 induction n with
 | zero => rw [cntP_zero]; omega
 | succ n ih =>
  rw [cntP_succ]
  by_cases e : r = n + 1
  ·subst e
   have : cntP n (fun i => decide (i < n + 1)) = cntP n (fun i => decide (i < n)) := cntP_congr (fun i hi => by simp; omega)
   rw [this]
   have h2 : ∀ k, cntP k (fun i => decide (i < k)) = k := fun k => by
    have : cntP k (fun i => decide (i < k)) = cntP k (fun _ => true) := cntP_congr (fun i hi => by simp; omega)
    rw [this]; unfold cntP; simp
   rw [h2]; simp
  ·rw [ih (by omega), if_neg (by simp; omega), Nat.add_zero]
theorem Srt.rnk {T : Nat → Nat → Bool} (hO : Ord T) {n r : Nat} {d : Nat → Nat} (hp : Prm n d) (hs : Srt T 0 n d) (hr : r < n) : rnk T n (d r) = r := by
 unfold Go.Proofs.YtjobopafcgnljaaGreat.rnk
 rw [← hp.cnt (fun u => T u (d r))]
 have : cntP n (fun i => T (d i) (d r)) = cntP n (fun i => decide (i < r)) := cntP_congr (fun i hi => by
  by_cases e : i < r
  ·rw [hs i r (Nat.zero_le _) e hr]; simp [e]
  ·by_cases e2 : i = r
   ·subst e2
    have := hO.irrefl (d i)
    simp only [Bool.not_eq_true] at this
    rw [this]; simp
   ·have h1 := hs r i (Nat.zero_le _) (by omega) hi
    have h2 : ¬ T (d i) (d r) = true := fun e3 => hO.asymm _ _ h1 e3
    simp only [Bool.not_eq_true] at h2
    rw [h2]; simp; omega)
 rw [this, cntP_lt n r (by omega)]
def keyT (lt : Nat → Nat → Bool) (x y : Nat) : Bool := lt x y || (!lt y x && decide (x < y))
structure Weak (lt : Nat → Nat → Bool) : Prop where
 asymm : ∀ x y, lt x y = true → lt y x = false
 neg : ∀ x y z, lt x y = false → lt y z = false → lt x z = false
theorem keyT_gt (lt : Nat → Nat → Bool) {x y : Nat} (h : y < x) : keyT lt x y = lt x y := by
 unfold keyT; rw [show decide (x < y) = false by simp; omega]; simp
theorem Weak.ord {lt : Nat → Nat → Bool} (h : Weak lt) : Ord (keyT lt) := by
 have ns := h.asymm
 have tr := h.neg
 unfold keyT
 refine ⟨fun x y z h1 h2 => ?_, fun x y hne => ?_, fun x y h1 h2 => ?_⟩
 ·simp only [Bool.or_eq_true, Bool.and_eq_true, Bool.not_eq_true', decide_eq_true_eq] at h1 h2 ⊢
  by_cases e : lt x z = true
  ·exact .inl e
  ·simp only [Bool.not_eq_true] at e
   refine .inr ?_
   rcases h1 with h1 | ⟨h1, h1'⟩
   ·rcases h2 with h2 | ⟨h2, h2'⟩
    ·exact absurd h1 (by rw [tr x z y e (ns _ _ h2)]; decide)
    ·exact absurd h1 (by rw [tr x z y e h2]; decide)
   ·rcases h2 with h2 | ⟨h2, h2'⟩
    ·exact absurd h2 (by rw [tr y x z h1 e]; decide)
    ·exact ⟨tr z y x h2 h1, by omega⟩
 ·simp only [Bool.or_eq_true, Bool.and_eq_true, Bool.not_eq_true', decide_eq_true_eq]
  by_cases e : lt x y = true
  ·exact .inl (.inl e)
  ·by_cases e2 : lt y x = true
   ·exact .inr (.inl e2)
   ·simp only [Bool.not_eq_true] at e e2
    rcases Nat.lt_or_gt_of_ne hne with h3 | h3
    ·exact .inl (.inr ⟨e2, h3⟩)
    ·exact .inr (.inr ⟨e, h3⟩)
 ·simp only [Bool.or_eq_true, Bool.and_eq_true, Bool.not_eq_true', decide_eq_true_eq] at h1 h2
  rcases h1 with h1 | ⟨h1, h1'⟩ <;> rcases h2 with h2 | ⟨h2, h2'⟩
  ·rw [ns _ _ h1] at h2; cases h2
  ·rw [h1] at h2; cases h2
  ·rw [h2] at h1; cases h1
  ·omega
end Go.Proofs.YtjobopafcgnljaaGreat
namespace Go.Proofs.YtjobopafcgnljaaGreat
open Go.RowKit
def Ri (w : World) (b k : Nat) : Prop := ∃ cur, w.heap[b]? = some (.cells cur 3 (0, 0)) ∧ cur.size = k
theorem Ri.lt {w : World} {b k : Nat} (h : Ri w b k) : b < w.heap.size := by obtain ⟨c, h, _⟩ := h; exact (Array.getElem?_eq_some_iff.1 h).1
theorem Ri.below {w w' : World} {b k : Nat} (h : Ri w b k) (hb : Below w.heap.size w w') : Ri w' b k := by
 have hl := h.lt
 obtain ⟨c, h, hk⟩ := h; exact ⟨c, (hb.block b hl).trans h, hk⟩
theorem Ri.frozen {w : World} {b k : Nat} (h : Ri w b k) (o : Nat) : w.frozen? ⟨b, o, none⟩ = false := by
 obtain ⟨c, h, rfl⟩ := h; simp [World.frozen?, h]
theorem Ri.set {w : World} {b k : Nat} (h : Ri w b k) (p : Addr) (v : Value) : Ri (w.setCell p v) b k := by
 obtain ⟨c, h, hk⟩ := h
 by_cases e : b = p.block
 ·subst e
  refine ⟨if p.spot.isSome then c else c.setIfInBounds p.off v, ?_, ?_⟩
  ·simp [World.setCell, Array.getElem?_modify, h]
  ·split <;> simp [hk]
 ·exact ⟨c, (Below.heap_setCell _ _ _ _ e).trans h, hk⟩
theorem bel_of_drw {w w' : World} (h : Below w.drew.heap.size w.drew w') : Below w.heap.size w w' := (Below.refl _ _).drew.trans h
def Skp (g : Nat) (w0 w : World) : Prop := Below 0 w0 w ∧ ∀ b, b < w0.heap.size → b ≠ g → w.heap[b]? = w0.heap[b]?
theorem Skp.refl (g : Nat) (w : World) : Skp g w w := ⟨Below.refl _ _, fun _ _ _ => rfl⟩
theorem Skp.size {g : Nat} {w0 w : World} (h : Skp g w0 w) : w0.heap.size ≤ w.heap.size := h.1.size
theorem Skp.below {g : Nat} {w0 w w' : World} (h : Skp g w0 w) (hb : Below w.heap.size w w') : Skp g w0 w' :=
 ⟨h.1.trans (hb.mono (Nat.zero_le _)), fun b hl hne => (hb.block b (Nat.lt_of_lt_of_le hl h.size)).trans (h.2 b hl hne)⟩
theorem Skp.set {g : Nat} {w0 w : World} (h : Skp g w0 w) (o : Nat) (v : Value) : Skp g w0 (w.setCell ⟨g, o, none⟩ v) :=
 ⟨h.1.setCell (Nat.zero_le _) v, fun b hl hne => (Below.heap_setCell w ⟨g, o, none⟩ v b hne).trans (h.2 b hl hne)⟩
theorem Skp.drew {g : Nat} {w0 w : World} (h : Skp g w0 w) : Skp g w0 w.drew := ⟨h.1.drew, h.2⟩
structure Sw (g n K : Nat) (d : Nat → Nat) (w0 w : World) : Prop where
 sk : Skp g w0 w
 bk : Ri w g n
 cell : ∀ i, i < n → w.cell? ⟨g, i, none⟩ = some (.int .i64 (d i))
 lt : ∀ i, i < n → d i < K
theorem Sw.below {g n K : Nat} {d : Nat → Nat} {w0 w w' : World} (h : Sw g n K d w0 w) (hb : Below w.heap.size w w') : Sw g n K d w0 w' :=
 ⟨h.sk.below hb, h.bk.below hb, fun i hi => (hb.cell (p := ⟨g, i, none⟩) h.bk.lt).trans (h.cell i hi), h.lt⟩
theorem Sw.drew {g n K : Nat} {d : Nat → Nat} {w0 w : World} (h : Sw g n K d w0 w) : Sw g n K d w0 w.drew := ⟨h.sk.drew, h.bk, h.cell, h.lt⟩
theorem Sw.swp {g n K i j : Nat} {d : Nat → Nat} {w0 w : World} (h : Sw g n K d w0 w) (hi : i < n) (hj : j < n) :
  Sw g n K (swpN d i j) w0 ((w.setCell ⟨g, i, none⟩ (.int .i64 (d j))).setCell ⟨g, j, none⟩ (.int .i64 (d i))) := by
 refine ⟨(h.sk.set _ _).set _ _, (h.bk.set _ _).set _ _, fun k hk => ?_, fun k hk => ?_⟩ <;> unfold swpN
 ·by_cases e2 : k = j
  ·subst e2
   rw [World.cell?_setCell_same' _ _ _ (by
    by_cases e : i = k
    ·subst e; rw [World.cell?_setCell_same _ _ _ (h.cell _ hk)]; rfl
    ·rw [World.cell?_setCell_other _ _ _ _ (by intro e'; simp only [Addr.mk.injEq] at e'; omega), h.cell _ hk]; rfl)]
   by_cases e : k = i
   ·rw [if_pos e, e]
   ·rw [if_neg e, if_pos rfl]
  ·rw [World.cell?_setCell_other _ _ _ _ (by intro e'; simp only [Addr.mk.injEq] at e'; omega)]
   by_cases e : k = i
   ·subst e; rw [if_pos rfl, World.cell?_setCell_same _ _ _ (h.cell _ hk)]
   ·rw [if_neg e, if_neg e2, World.cell?_setCell_other _ _ _ _ (by intro e'; simp only [Addr.mk.injEq] at e'; omega), h.cell _ hk]
 ·by_cases e : k = i
  ·rw [if_pos e]; exact h.lt j hj
  ·rw [if_neg e]
   by_cases e2 : k = j
   ·rw [if_pos e2]; exact h.lt i hi
   ·rw [if_neg e2]; exact h.lt k hk
theorem Sw.mid {g n K i j : Nat} {d : Nat → Nat} {w0 w : World} (h : Sw g n K d w0 w) (hj : j < n) (v : Value) : ∃ u, (w.setCell ⟨g, i, none⟩ v).cell? ⟨g, j, none⟩ = some u := by
 by_cases e : i = j
 ·subst e; exact ⟨v, World.cell?_setCell_same _ _ _ (h.cell _ hj)⟩
 ·exact ⟨_, (World.cell?_setCell_other _ _ _ _ (by intro e'; simp only [Addr.mk.injEq] at e'; omega)).trans (h.cell j hj)⟩
def Cmp (g K : Nat) (T : Nat → Nat → Bool) (cf : Nat) (cb : Array Value) (w0 : World) : Prop :=
 ∀ W x y, Skp g w0 W → y < x → x < K → Calls Tryz.prog cf (#[.int .i64 x, .int .i64 y] ++ cb) W fun e w' => ∃ c : Int, e = .returned (.int .i64 c) ∧ Below W.heap.size W w' ∧ (c < 0 ↔ T x y = true)
theorem Cmp.at {g n K : Nat} {d : Nat → Nat} {T : Nat → Nat → Bool} {cf : Nat} {cb : Array Value} {w0 W : World} (h : Cmp g K T cf cb w0) (S : Sw g n K d w0 W) {i j : Nat} (hi : i < n) (hd : d j < d i) :
  Calls Tryz.prog cf (#[.int .i64 (d i : Nat), .int .i64 (d j : Nat)] ++ cb) W fun e w' => ∃ c : Int, e = .returned (.int .i64 c) ∧ Below W.heap.size W w' ∧ (c < 0 ↔ T (d i) (d j) = true) :=
 h W (d i) (d j) S.sk hd (S.lt i hi)
set_option maxHeartbeats 8000000 in
set_option maxRecDepth 100000 in
theorem insertion_any (g n K cap a b : Nat) (T : Nat → Nat → Bool) (hO : Ord T) (cf : Nat) (cb : Array Value) (d : Nat → Nat) (w0 w : World) (eg : ∀ args w, (callFunc cf args).run Tryz.prog w = .ok (.enter cf args) w)
  (hC : Cmp g K T cf cb w0) (hS : Sw g n K d w0 w) (hI : Inc a b d) (hab : a ≤ b) (hb : b ≤ n) (hn : n ≤ 2 ^ 40) :
  Calls Tryz.prog 74 #[.slice (some ⟨g, 0, none⟩) n cap, .int .i64 a, .int .i64 b, .func (.func cf) #[] cb] w fun e w' => e = .returned (.tuple #[]) ∧ ∃ d', Sw g n K d' w0 w' ∧ Rng a b d d' ∧ Srt T a b d' := by
 have HO := Lib.hid hO
 have HC := Lib.hid hC
 have HS := Lib.hid hS
 have HI := Lib.hid hI
 clear hO hC hS hI
 have mixed : Tryz.prog.follows Departure.mixedOrders = true := by kernel_rfl
 go_enter Tryz.func74, Tryz.ntmps74
 go_wp2
 go_loopw [8] (fun vi wr => ∃ (i : Nat) (dk : Nat → Nat), vi = .int .i64 i ∧ a < i ∧ (i ≤ b ∨ i = a + 1) ∧ Hid (Sw g n K dk w0 wr) ∧ Hid (Rng a i d dk) ∧ Hid (Srt T a i dk)) (fun vi _ => b + 1 - (intOf vi).toNat)
 case atStart => exact ⟨a + 1, d, by go_num, by omega, .inr rfl, HS, Lib.hid (Rng.refl _ _ _), Lib.hid (fun i j h1 h2 h3 => by omega)⟩
 case round =>
  clear HS
  obtain ⟨i, dk, rfl, hai, hib, HS, HR, HT⟩ := hrel
  by_cases hlt : i < b
  ·have hltz : (i : Int) < (b : Int) := by omega
   go_wp2
   go_loopw [9] (fun vj wr2 => ∃ (j : Nat) (dj : Nat → Nat), vj = .int .i64 j ∧ a ≤ j ∧ j ≤ i ∧ Hid (Sw g n K dj w0 wr2) ∧ Hid (Ins T a i j d dj)) (fun vj _ => (intOf vj).toNat)
   case atStart => exact ⟨i, dk, rfl, by omega, Nat.le_refl _, HS, Lib.hid (Ins.start HI.out hlt hai HR.out HT.out)⟩
   case round =>
    clear HS
    obtain ⟨j, dj, rfl, haj, hji, HS, HJ⟩ := hrel
    have OUT := Lib.hid (fun (hh : j ≤ a ∨ ¬ T (dj j) (dj (j - 1)) = true) => Ins.stop HO.out HJ.out haj hji hh)
    by_cases hja : a < j
    ·have hjaz : (a : Int) < (j : Int) := by omega
     obtain ⟨jp, rfl⟩ : ∃ q, j = q + 1 := ⟨j - 1, by omega⟩
     have zj : ((jp + 1 : Nat) : Int) = (jp : Int) + 1 := by omega
     have hjad : decide ((jp : Int) + 1 > (a : Int)) = true := decide_eq_true (by omega)
     have hjaz' : (a : Int) < (jp : Int) + 1 := by omega
     have ea : ((jp : Int) + 1).toNat = jp + 1 := by omega
     have pa : (0 : Int) ≤ (jp : Int) + 1 := by omega
     have ba : (jp : Int) + 1 < (n : Int) := by omega
     have ra : IntKind.i64.wrap ((jp : Int) + 1) = (jp : Int) + 1 := by rw [IntKind.wrap_i64]; omega
     have bc : (jp : Int) < (n : Int) := by omega
     have rc : IntKind.i64.wrap ((jp : Int)) = (jp : Int) := by rw [IntKind.wrap_i64]; omega
     have l1 := HS.out.cell (jp + 1) (by omega)
     have l2 := HS.out.cell jp (by omega)
     obtain ⟨x, hx⟩ : ∃ x, dj (jp + 1) = x := ⟨_, rfl⟩
     obtain ⟨y, hy⟩ : ∃ x, dj jp = x := ⟨_, rfl⟩
     rw [hx] at l1
     rw [hy] at l2
     have hlt2 : y < x := by have := HJ.out.big jp (by omega) (by omega) (by omega); omega
     have hxK : x < K := by have := HS.out.lt (jp + 1) (by omega); omega
     have HX := Lib.hid hx
     have HY := Lib.hid hy
     clear hx hy
     by_cases hT : T x y = true
     ·have HT2 := Lib.hid hT
      clear hT
      go_wp2_with fail
      go_region_held3 (fun w' => w'.cell? ⟨g, jp + 1, none⟩ = some (.int .i64 x) ∧ w'.cell? ⟨g, jp, none⟩ = some (.int .i64 y))
       (first | (go_keep; done) | ((try dsimp only); (repeat' apply And.intro) <;> (first | assumption | (go_keep; done))))
       (first | (go_at_fn cf; refine (HC.out _ x y (by first | with_reducible exact HS.out.sk | with_reducible exact HS.out.sk.drew) hlt2 hxK).mono ?_; rintro e w1 ⟨c, rfl, hb, hc⟩; replace hb : Below wr.heap.size wr w1 := bel_of_drw hb; have l3 := (hb.cell (p := ⟨g, jp + 1, none⟩) HS.out.bk.lt).trans l1; have l4 := (hb.cell (p := ⟨g, jp, none⟩) HS.out.bk.lt).trans l2; have HS1 := Lib.hid (HS.out.below hb); have hcl : c < 0 := hc.2 HT2.out; clear hc hb l1 l2 HS))
      have hcd : decide (c < 0) = true := decide_eq_true hcl
      clear hcl
      go_wp2_with fail
      have HS2 := Lib.hid (HS1.out.swp (i := jp + 1) (j := jp) (by omega) (by omega))
      have hf1 := HS1.out.bk.frozen (jp + 1)
      have hf2 := HS1.out.bk.frozen jp
      obtain ⟨u, l5⟩ := HS1.out.mid (i := jp + 1) (j := jp) (by omega) (.int .i64 y)
      rw [HX.out, HY.out] at HS2
      go_big_region_o
      clear l3 l4 l5 hf1 hf2 HS1
      generalize hw2 : World.setCell (World.setCell w1 _ _) _ _ = w2 at HS2 ⊢
      clear hw2
      go_wp2
      go_roundw
      case rel => exact ⟨jp, swpN dj (jp + 1) jp, by first | rfl | go_num | (congr 1; omega), by omega, by omega, by first | exact HS2 | exact Lib.hid HS2.out.drew, Lib.hid (HJ.out.step hja hji (by rw [HX.out, Nat.add_sub_cancel, HY.out]; exact HT2.out))⟩
      case measure => (first | (simp [intOf]; done) | (simp [intOf]; omega))
     ·have HT2 := Lib.hid hT
      clear hT
      go_wp2_with fail
      go_region_held3 (fun w' => w'.cell? ⟨g, jp + 1, none⟩ = some (.int .i64 x) ∧ w'.cell? ⟨g, jp, none⟩ = some (.int .i64 y))
       (first | (go_keep; done) | ((try dsimp only); (repeat' apply And.intro) <;> (first | assumption | (go_keep; done))))
       (first | (go_at_fn cf; refine (HC.out _ x y (by first | with_reducible exact HS.out.sk | with_reducible exact HS.out.sk.drew) hlt2 hxK).mono ?_; rintro e w1 ⟨c, rfl, hb, hc⟩; replace hb : Below wr.heap.size wr w1 := bel_of_drw hb; have l3 := (hb.cell (p := ⟨g, jp + 1, none⟩) HS.out.bk.lt).trans l1; have l4 := (hb.cell (p := ⟨g, jp, none⟩) HS.out.bk.lt).trans l2; have HS1 := Lib.hid (HS.out.below hb); have hcl : ¬ c < 0 := fun hh => HT2.out (hc.1 hh); clear hc hb l1 l2 HS))
      have hcd : decide (c < 0) = false := decide_eq_false (by omega)
      clear l3 l4
      have HZ := Lib.hid (OUT.out (.inr (by rw [Nat.add_sub_cancel, HX.out, HY.out]; exact HT2.out)))
      go_wp2
      go_roundw
      case rel => exact ⟨i + 1, dj, by go_num, by omega, by omega, HS1, Lib.hid HZ.out.1, Lib.hid HZ.out.2⟩
      case measure => (first | (simp [intOf]; done) | (simp [intOf]; omega))
    ·have hjaz : decide ((j : Int) > (a : Int)) = false := decide_eq_false (by omega)
     have hjaz' : ¬ (a : Int) < (j : Int) := by omega
     have HZ := Lib.hid (OUT.out (.inl (by omega)))
     go_wp2_with fail
     go_big_region_o
     have HS1 := Lib.hid HS.out.drew
     clear HS
     go_wp2
     go_roundw
     case rel => exact ⟨i + 1, dj, by go_num, by omega, by omega, HS1, Lib.hid HZ.out.1, Lib.hid HZ.out.2⟩
     case measure => (first | (simp [intOf]; done) | (simp [intOf]; omega))
  ·have hltz : ¬ (i : Int) < (b : Int) := by omega
   go_wp2
   go_end0
   refine ⟨rfl, dk, HS.out, ?_⟩
   by_cases e : i ≤ b
   ·obtain rfl : i = b := by omega
    exact ⟨HR.out, HT.out⟩
   ·refine ⟨⟨fun k hk => ?_, fun k h1 h2 => by omega⟩, fun p q h1 h2 h3 => by omega⟩
    by_cases e2 : k = a
    ·obtain ⟨j, j1, j2, e3⟩ := HR.out.2 k (by omega) (by omega)
     rw [e3]; congr 1; omega
    ·exact HR.out.1 k (by omega)
set_option maxHeartbeats 8000000 in
set_option maxRecDepth 100000 in
theorem swapRange_any (g n K cap a b k : Nat) (cv : Value) (d : Nat → Nat) (w0 w : World) (hS : Sw g n K d w0 w) (hab : a + k ≤ b) (hb : b + k ≤ n) (hn : n ≤ 2 ^ 40) :
  Calls Tryz.prog 101 #[.slice (some ⟨g, 0, none⟩) n cap, .int .i64 a, .int .i64 b, .int .i64 k, cv] w fun e w' => e = .returned (.tuple #[]) ∧ Sw g n K (swr a b k d) w0 w' := by
 have HS := Lib.hid hS
 clear hS
 have mixed : Tryz.prog.follows Departure.mixedOrders = true := by kernel_rfl
 go_enter Tryz.func101, Tryz.ntmps101
 go_wp2
 go_loopw [10] (fun vi wr => ∃ i : Nat, vi = .int .i64 i ∧ i ≤ k ∧ Hid (Sw g n K (swr a b i d) w0 wr)) (fun vi _ => k - (intOf vi).toNat)
 case atStart => exact ⟨0, rfl, Nat.zero_le _, by rw [swr_zero]; exact HS⟩
 case round =>
  clear HS
  obtain ⟨i, rfl, hik, HS⟩ := hrel
  by_cases hlt : i < k
  ·have hltz : (i : Int) < (k : Int) := by omega
   have ea : ((a : Int) + (i : Int)).toNat = a + i := by omega
   have eb : ((b : Int) + (i : Int)).toNat = b + i := by omega
   have pa : (0 : Int) ≤ (a : Int) + (i : Int) := by omega
   have pb : (0 : Int) ≤ (b : Int) + (i : Int) := by omega
   have ba : (a : Int) + (i : Int) < (n : Int) := by omega
   have bb : (b : Int) + (i : Int) < (n : Int) := by omega
   have ra : IntKind.i64.wrap ((a : Int) + (i : Int)) = (a : Int) + (i : Int) := by rw [IntKind.wrap_i64]; omega
   have rb : IntKind.i64.wrap ((b : Int) + (i : Int)) = (b : Int) + (i : Int) := by rw [IntKind.wrap_i64]; omega
   have l1 := HS.out.cell (a + i) (by omega)
   have l2 := HS.out.cell (b + i) (by omega)
   have HS2 := Lib.hid (HS.out.swp (i := a + i) (j := b + i) (by omega) (by omega))
   rw [swr_succ a b i d (by omega)] at HS2
   obtain ⟨x, hx⟩ : ∃ x, swr a b i d (a + i) = x := ⟨_, rfl⟩
   obtain ⟨y, hy⟩ : ∃ x, swr a b i d (b + i) = x := ⟨_, rfl⟩
   rw [hx] at l1 HS2
   rw [hy] at l2 HS2
   clear hx hy
   have hf1 := HS.out.bk.frozen (a + i)
   have hf2 := HS.out.bk.frozen (b + i)
   obtain ⟨u, l5⟩ := HS.out.mid (i := a + i) (j := b + i) (by omega) (.int .i64 y)
   clear HS
   go_wp2_with fail
   go_big_region_o
   clear l1 l2 l5 hf1 hf2
   generalize hw2 : World.setCell (World.setCell wr _ _) _ _ = w2 at HS2 ⊢
   clear hw2
   go_wp2
   go_roundw
   case rel => exact ⟨i + 1, by go_num, by omega, by first | exact HS2 | exact Lib.hid HS2.out.drew⟩
   case measure => (first | (simp [intOf]; done) | (simp [intOf]; omega))
  ·have hltz : ¬ (i : Int) < (k : Int) := by omega
   obtain rfl : i = k := by omega
   go_wp2
   go_end0
   exact ⟨rfl, HS.out⟩
end Go.Proofs.YtjobopafcgnljaaGreat
namespace Go.Proofs.YtjobopafcgnljaaGreat
open Go.RowKit
set_option maxHeartbeats 8000000 in
set_option maxRecDepth 100000 in
theorem rotate_any (g n K cap a m b : Nat) (cv : Value) (d : Nat → Nat) (w0 w : World) (hS : Sw g n K d w0 w) (ham : a < m) (hmb : m < b) (hb : b ≤ n) (hn : n ≤ 2 ^ 40) :
  Calls Tryz.prog 93 #[.slice (some ⟨g, 0, none⟩) n cap, .int .i64 a, .int .i64 m, .int .i64 b, cv] w fun e w' => e = .returned (.tuple #[]) ∧ Sw g n K (rot a m b d) w0 w' := by
 have HS := Lib.hid hS
 clear hS
 have mixed : Tryz.prog.follows Departure.mixedOrders = true := by kernel_rfl
 go_enter Tryz.func93, Tryz.ntmps93
 go_wp2
 go_loopw [10, 11] (fun vi vj wr => ∃ (i j : Nat) (dk : Nat → Nat), vi = .int .i64 i ∧ vj = .int .i64 j ∧ 0 < i ∧ 0 < j ∧ i ≤ m - a ∧ j ≤ b - m ∧ Hid (Sw g n K dk w0 wr) ∧ Hid (rot (m - i) m (m + j) dk = rot a m b d)) (fun vi vj _ => (intOf vi).toNat + (intOf vj).toNat)
 case atStart => exact ⟨m - a, b - m, d, by first | go_num | (congr 1; omega), by first | go_num | (congr 1; omega), by omega, by omega, by omega, by omega, HS, Lib.hid (by rw [show m - (m - a) = a by omega, show m + (b - m) = b by omega])⟩
 case round =>
  clear HS
  obtain ⟨i, j, dk, rfl, rfl, hi0, hj0, hi, hj, HS, HE⟩ := hrel
  have em : IntKind.i64.wrap ((m : Int) - (i : Int)) = ((m - i : Nat) : Int) := by rw [IntKind.wrap_i64]; omega
  rcases Nat.lt_trichotomy i j with hij | hij | hij
  ·have h1 : ¬ (i : Int) = (j : Int) := by omega
   have h2 : ¬ (j : Int) < (i : Int) := by omega
   have e3 : ((m : Int) - (i : Int)) = ((m - i : Nat) : Int) := by omega
   have e4 : ((m : Int) + (j : Int) - (i : Int)) = ((m + j - i : Nat) : Int) := by omega
   have HC := Lib.hid (swapRange_any g n K cap (m - i) (m + j - i) i cv dk w0 wr HS.out (by omega) (by omega) hn)
   clear HS
   go_wp2_with fail
   refine HC.out.mono ?_
   rintro e w1 ⟨rfl, hs⟩
   have HS := Lib.hid hs
   clear hs HC
   go_wp2
   go_roundw
   case rel => exact ⟨i, j - i, _, rfl, by first | go_num | (congr 1; omega), by omega, by omega, by omega, by omega, HS, Lib.hid (by rw [rot_right m i j dk (by omega) hij hi0]; exact HE.out)⟩
   case measure => (first | (simp [intOf]; done) | (simp [intOf]; omega))
  ·subst hij
   have e3 : ((m : Int) - (i : Int)) = ((m - i : Nat) : Int) := by omega
   have HC := Lib.hid (swapRange_any g n K cap (m - i) m i cv dk w0 wr HS.out (by omega) (by omega) hn)
   clear HS
   rw [rot_end m i dk (by omega), HE.out] at HC
   go_wp2_with fail
   refine HC.out.mono ?_
   rintro e w1 ⟨rfl, hs⟩
   go_wp2
   go_end0
   exact ⟨rfl, hs⟩
  ·have h1 : ¬ (i : Int) = (j : Int) := by omega
   have h2 : (j : Int) < (i : Int) := by omega
   have e3 : ((m : Int) - (i : Int)) = ((m - i : Nat) : Int) := by omega
   have HC := Lib.hid (swapRange_any g n K cap (m - i) m j cv dk w0 wr HS.out (by omega) (by omega) hn)
   clear HS
   go_wp2_with fail
   refine HC.out.mono ?_
   rintro e w1 ⟨rfl, hs⟩
   have HS := Lib.hid hs
   clear hs HC
   go_wp2
   go_roundw
   case rel => exact ⟨i - j, j, _, by first | go_num | (congr 1; omega), rfl, by omega, by omega, by omega, by omega, HS, Lib.hid (by rw [rot_left m i j dk (by omega) hij hj0]; exact HE.out)⟩
   case measure => (first | (simp [intOf]; done) | (simp [intOf]; omega))
set_option maxHeartbeats 16000000 in
set_option maxRecDepth 100000 in
theorem symA_any (g n K cap : Nat) (T : Nat → Nat → Bool) (hO : Ord T) (cf : Nat) (cb : Array Value) (w0 : World) (eg : ∀ args w, (callFunc cf args).run Tryz.prog w = .ok (.enter cf args) w) (hC : Cmp g K T cf cb w0) (hn : n ≤ 2 ^ 40) (a m b : Nat) (d : Nat → Nat) (w : World)
  (h1 : a < m) (h2 : m < b) (hb : b ≤ n) (hS : Sw g n K d w0 w) (hT1 : Srt T a m d) (hT2 : Srt T m b d) (hCr : Crs a m b d) (c1 : m = a + 1) :
  Calls Tryz.prog 75 #[.slice (some ⟨g, 0, none⟩) n cap, .int .i64 a, .int .i64 m, .int .i64 b, .func (.func cf) #[] cb] w fun e w' => e = .returned (.tuple #[]) ∧ ∃ d', Sw g n K d' w0 w' ∧ Rng a b d d' ∧ Srt T a b d' := by
 have HO := Lib.hid hO
 have HC := Lib.hid hC
 have HS := Lib.hid hS
 have HA := Lib.hid hT1
 have HB := Lib.hid hT2
 have HCR := Lib.hid hCr
 clear hO hC hS hT1 hT2 hCr
 have mixed : Tryz.prog.follows Departure.mixedOrders = true := by kernel_rfl
 have e1 : (m : Int) - (a : Int) = 1 := by omega
 have hm1 : m ≤ a + 1 := by omega
 clear c1
 go_enter Tryz.func75, Tryz.ntmps75
 go_wp2
 go_loopw [10, 11] (fun vi vj wr => ∃ i j : Nat, vi = .int .i64 i ∧ vj = .int .i64 j ∧ m ≤ i ∧ i ≤ j ∧ j ≤ b ∧ Hid (Sw g n K d w0 wr) ∧ Hid (∀ q, m ≤ q → q < i → T (d q) (d a) = true) ∧ Hid (∀ q, j ≤ q → q < b → T (d a) (d q) = true)) (fun vi vj _ => (intOf vj).toNat - (intOf vi).toNat)
 case atStart => exact ⟨m, b, rfl, rfl, by omega, by omega, by omega, HS, Lib.hid (fun q q1 q2 => by omega), Lib.hid (fun q q1 q2 => by omega)⟩
 case round =>
  clear HS
  obtain ⟨i, j, rfl, rfl, hi1, hij, hjb, HS, HL, HR⟩ := hrel
  by_cases hlt : i < j
  ·have hltz : (i : Int) < (j : Int) := by omega
   obtain ⟨h, hh⟩ : ∃ h, (i + j) / 2 = h := ⟨_, rfl⟩
   have e5 : ((i : Int) + (j : Int)) / 2 = (h : Int) := by omega
   have hi2 : i ≤ h := by omega
   have hj2 : h < j := by omega
   have hhz : (h : Int) < (n : Int) := by omega
   have haz : (a : Int) < (n : Int) := by omega
   clear hh
   have l1 := HS.out.cell (h) (by omega)
   have l2 := HS.out.cell (a) (by omega)
   obtain ⟨x, hx⟩ : ∃ x, d (h) = x := ⟨_, rfl⟩
   obtain ⟨y, hy⟩ : ∃ x, d (a) = x := ⟨_, rfl⟩
   rw [hx] at l1
   rw [hy] at l2
   have hlt2 : y < x := by have := HCR.out (a) (h) (by omega) (by omega) (by omega) (by omega); omega
   have hxK : x < K := by have := HS.out.lt (h) (by omega); omega
   have HX := Lib.hid hx
   have HY := Lib.hid hy
   clear hx hy
   by_cases hT : T x y = true
   ·have HT2 := Lib.hid hT
    clear hT
    go_wp2_with fail
    go_region_held3 (fun w' => w'.cell? ⟨g, h, none⟩ = some (.int .i64 x) ∧ w'.cell? ⟨g, a, none⟩ = some (.int .i64 y))
     (first | (go_keep; done) | ((try dsimp only); (repeat' apply And.intro) <;> (first | assumption | (go_keep; done))))
     (first | (go_at_fn cf; refine (HC.out _ x y (by first | with_reducible exact HS.out.sk | with_reducible exact HS.out.sk.drew) hlt2 hxK).mono ?_; rintro e w1 ⟨c, rfl, hb, hc⟩; replace hb : Below wr.heap.size wr w1 := bel_of_drw hb; have l3 := (hb.cell (p := ⟨g, h, none⟩) HS.out.bk.lt).trans l1; have l4 := (hb.cell (p := ⟨g, a, none⟩) HS.out.bk.lt).trans l2; have HS1 := Lib.hid (HS.out.below hb); have hcl : c < 0 := hc.2 HT2.out; clear hc hb l1 l2 HS))
    have hcd : decide (c < 0) = true := decide_eq_true (by omega)
    clear l3 l4
    have HZ := Lib.hid (show ∀ q, m ≤ q → q < h + 1 → T (d q) (d a) = true from fun q q1 q2 => by
     by_cases e : q = h
     ·rw [e, HX.out, HY.out]; exact HT2.out
     ·exact HO.out.trans _ _ _ (HB.out q h q1 (by omega) (by omega)) (by rw [HX.out, HY.out]; exact HT2.out))
    go_wp2
    go_roundw
    case rel => first | exact ⟨h + 1, j, by go_num, rfl, by omega, by omega, hjb, HS1, HZ, HR⟩ | exact ⟨h + 1, by omega, j, rfl, by omega, by omega, hjb, HZ, HR⟩
    case measure => (first | (simp [intOf]; done) | (simp [intOf]; omega))
   ·have HT2 := Lib.hid hT
    clear hT
    go_wp2_with fail
    go_region_held3 (fun w' => w'.cell? ⟨g, h, none⟩ = some (.int .i64 x) ∧ w'.cell? ⟨g, a, none⟩ = some (.int .i64 y))
     (first | (go_keep; done) | ((try dsimp only); (repeat' apply And.intro) <;> (first | assumption | (go_keep; done))))
     (first | (go_at_fn cf; refine (HC.out _ x y (by first | with_reducible exact HS.out.sk | with_reducible exact HS.out.sk.drew) hlt2 hxK).mono ?_; rintro e w1 ⟨c, rfl, hb, hc⟩; replace hb : Below wr.heap.size wr w1 := bel_of_drw hb; have l3 := (hb.cell (p := ⟨g, h, none⟩) HS.out.bk.lt).trans l1; have l4 := (hb.cell (p := ⟨g, a, none⟩) HS.out.bk.lt).trans l2; have HS1 := Lib.hid (HS.out.below hb); have hcl : ¬ c < 0 := fun hh => HT2.out (hc.1 hh); clear hc hb l1 l2 HS))
    have hcd : decide (c < 0) = false := decide_eq_false (by omega)
    clear l3 l4
    have hcn : ¬ c < 0 := by omega
    have HZ := Lib.hid (show ∀ q, h ≤ q → q < b → T (d a) (d q) = true from fun q q1 q2 => by
     have h3 : T (d a) (d h) = true := by rw [HX.out, HY.out]; exact HO.out.swap hlt2 HT2.out
     by_cases e : q = h
     ·rw [e]; exact h3
     ·exact HO.out.trans _ _ _ h3 (HB.out h q (by omega) (by omega) q2))
    go_wp2
    go_roundw
    case rel => first | exact ⟨i, h, rfl, by first | rfl | go_num, by omega, by omega, by omega, HS1, HL, HZ⟩ | exact ⟨i, rfl, h, rfl, by omega, by omega, by omega, HL, HZ⟩ | ((repeat apply Exists.intro); exact ⟨⟨i, h, rfl, by first | rfl | go_num, by omega, by omega, by omega, HS1, HL, HZ⟩, rfl⟩)
    case measure => (first | (simp [intOf]; done) | (simp [intOf]; omega))
  ·have hltz : ¬ (i : Int) < (j : Int) := by omega
   obtain rfl : i = j := by omega
   go_wp2
   go_loopw [13] (fun vk wr => ∃ k : Nat, vk = .int .i64 k ∧ a ≤ k ∧ k + 1 ≤ i ∧ Hid (Sw g n K (shl a k d) w0 wr)) (fun vk _ => i - (intOf vk).toNat)
   case atStart => exact ⟨a, rfl, Nat.le_refl _, by omega, by rw [shl_zero]; exact HS⟩
   case round =>
    clear HS
    obtain ⟨k, rfl, hak, hki, HS⟩ := hrel
    by_cases hk : k + 1 < i
    ·have hkz : (k : Int) < (i : Int) - 1 := by omega
     have ek : ((k : Int) + 1).toNat = k + 1 := by omega
     have bk1 : (k : Int) + 1 < (n : Int) := by omega
     have bk0 : (k : Int) < (n : Int) := by omega
     have l1 := HS.out.cell (k) (by omega)
     have l2 := HS.out.cell (k + 1) (by omega)
     have HS2 := Lib.hid (HS.out.swp (i := k) (j := k + 1) (by omega) (by omega))
     rw [shl_succ a k d hak] at HS2
     obtain ⟨x, hx⟩ : ∃ x, shl a k d (k) = x := ⟨_, rfl⟩
     obtain ⟨y, hy⟩ : ∃ x, shl a k d (k + 1) = x := ⟨_, rfl⟩
     rw [hx] at l1 HS2
     rw [hy] at l2 HS2
     clear hx hy
     have hf1 := HS.out.bk.frozen (k)
     have hf2 := HS.out.bk.frozen (k + 1)
     obtain ⟨u, l5⟩ := HS.out.mid (i := k) (j := k + 1) (by omega) (.int .i64 y)
     clear HS
     go_wp2_with fail
     go_big_region_o
     clear l1 l2 l5 hf1 hf2
     generalize hw2 : World.setCell (World.setCell wr _ _) _ _ = w2 at HS2 ⊢
     clear hw2
     go_wp2
     go_roundw
     case rel => exact ⟨k + 1, by go_num, by omega, by omega, by first | exact HS2 | exact Lib.hid HS2.out.drew⟩
     case measure => (first | (simp [intOf]; done) | (simp [intOf]; omega))
    ·have hkz : ¬ (k : Int) < (i : Int) - 1 := by omega
     go_wp2
     (try simp only [Exit.inBlock, Exit.then]); refine bodyPost_ret (results_none rfl _ _ _) rfl ?_
     obtain rfl : i = k + 1 := by omega
     obtain rfl : m = a + 1 := by omega
     have HD := shl_done (T := T) (a := a) (b := b) (i := k + 1) (d := d) HB.out (by omega) hjb HL.out HR.out
     rw [Nat.add_sub_cancel] at HD
     exact ⟨rfl, _, HS.out, HD.1, HD.2⟩
set_option maxHeartbeats 16000000 in
set_option maxRecDepth 100000 in
theorem symB_any (g n K cap : Nat) (T : Nat → Nat → Bool) (hO : Ord T) (cf : Nat) (cb : Array Value) (w0 : World) (eg : ∀ args w, (callFunc cf args).run Tryz.prog w = .ok (.enter cf args) w) (hC : Cmp g K T cf cb w0) (hn : n ≤ 2 ^ 40) (a m b : Nat) (d : Nat → Nat) (w : World)
  (h1 : a < m) (h2 : m < b) (hb : b ≤ n) (hS : Sw g n K d w0 w) (hT1 : Srt T a m d) (hT2 : Srt T m b d) (hCr : Crs a m b d) (c1 : ¬ m = a + 1) (c2 : b = m + 1) :
  Calls Tryz.prog 75 #[.slice (some ⟨g, 0, none⟩) n cap, .int .i64 a, .int .i64 m, .int .i64 b, .func (.func cf) #[] cb] w fun e w' => e = .returned (.tuple #[]) ∧ ∃ d', Sw g n K d' w0 w' ∧ Rng a b d d' ∧ Srt T a b d' := by
 have HO := Lib.hid hO
 have HC := Lib.hid hC
 have HS := Lib.hid hS
 have HA := Lib.hid hT1
 have HB := Lib.hid hT2
 have HCR := Lib.hid hCr
 clear hO hC hS hT1 hT2 hCr
 have mixed : Tryz.prog.follows Departure.mixedOrders = true := by kernel_rfl
 have e1 : ¬ (m : Int) - (a : Int) = 1 := by omega
 have e1b : ((m : Int) - (a : Int) == 1) = false := by simpa using e1
 have e2 : (b : Int) - (m : Int) = 1 := by omega
 have hm1 : b ≤ m + 1 := by omega
 clear c1 c2
 go_enter Tryz.func75, Tryz.ntmps75
 go_wp2
 go_loopw [14, 15] (fun vi vj wr => ∃ i j : Nat, vi = .int .i64 i ∧ vj = .int .i64 j ∧ a ≤ i ∧ i ≤ j ∧ j ≤ m ∧ Hid (Sw g n K d w0 wr) ∧ Hid (∀ q, a ≤ q → q < i → T (d q) (d m) = true) ∧ Hid (∀ q, j ≤ q → q < m → T (d m) (d q) = true)) (fun vi vj _ => (intOf vj).toNat - (intOf vi).toNat)
 case atStart => exact ⟨a, m, rfl, rfl, by omega, by omega, by omega, HS, Lib.hid (fun q q1 q2 => by omega), Lib.hid (fun q q1 q2 => by omega)⟩
 case round =>
  clear HS
  obtain ⟨i, j, rfl, rfl, hi1, hij, hjb, HS, HL, HR⟩ := hrel
  by_cases hlt : i < j
  ·have hltz : (i : Int) < (j : Int) := by omega
   obtain ⟨h, hh⟩ : ∃ h, (i + j) / 2 = h := ⟨_, rfl⟩
   have e5 : ((i : Int) + (j : Int)) / 2 = (h : Int) := by omega
   have hi2 : i ≤ h := by omega
   have hj2 : h < j := by omega
   have hhz : (h : Int) < (n : Int) := by omega
   have haz : (m : Int) < (n : Int) := by omega
   clear hh
   have l1 := HS.out.cell (m) (by omega)
   have l2 := HS.out.cell (h) (by omega)
   obtain ⟨x, hx⟩ : ∃ x, d (m) = x := ⟨_, rfl⟩
   obtain ⟨y, hy⟩ : ∃ x, d (h) = x := ⟨_, rfl⟩
   rw [hx] at l1
   rw [hy] at l2
   have hlt2 : y < x := by have := HCR.out (h) (m) (by omega) (by omega) (by omega) (by omega); omega
   have hxK : x < K := by have := HS.out.lt (m) (by omega); omega
   have HX := Lib.hid hx
   have HY := Lib.hid hy
   clear hx hy
   by_cases hT : T x y = true
   ·have HT2 := Lib.hid hT
    clear hT
    go_wp2_with fail
    go_region_held3 (fun w' => w'.cell? ⟨g, m, none⟩ = some (.int .i64 x) ∧ w'.cell? ⟨g, h, none⟩ = some (.int .i64 y))
     (first | (go_keep; done) | ((try dsimp only); (repeat' apply And.intro) <;> (first | assumption | (go_keep; done))))
     (first | (go_at_fn cf; refine (HC.out _ x y (by first | with_reducible exact HS.out.sk | with_reducible exact HS.out.sk.drew) hlt2 hxK).mono ?_; rintro e w1 ⟨c, rfl, hb, hc⟩; replace hb : Below wr.heap.size wr w1 := bel_of_drw hb; have l3 := (hb.cell (p := ⟨g, m, none⟩) HS.out.bk.lt).trans l1; have l4 := (hb.cell (p := ⟨g, h, none⟩) HS.out.bk.lt).trans l2; have HS1 := Lib.hid (HS.out.below hb); have hcl : c < 0 := hc.2 HT2.out; clear hc hb l1 l2 HS))
    have hcd : decide (c < 0) = true := decide_eq_true (by omega)
    try simp only [hcd, Bool.not_true, Bool.not_false]
    clear l3 l4
    have HZ := Lib.hid (show ∀ q, h ≤ q → q < m → T (d m) (d q) = true from fun q q1 q2 => by
     have h3 : T (d m) (d h) = true := by rw [HX.out, HY.out]; exact HT2.out
     by_cases e : q = h
     ·rw [e]; exact h3
     ·exact HO.out.trans _ _ _ h3 (HA.out h q (by omega) (by omega) q2))
    go_wp2
    go_roundw
    case rel => first | exact ⟨i, h, rfl, by first | rfl | go_num, by omega, by omega, by omega, HS1, HL, HZ⟩ | exact ⟨i, rfl, h, rfl, by omega, by omega, by omega, HL, HZ⟩ | ((repeat apply Exists.intro); exact ⟨⟨i, h, rfl, by first | rfl | go_num, by omega, by omega, by omega, HS1, HL, HZ⟩, rfl⟩)
    case measure => (first | (simp [intOf]; done) | (simp [intOf]; omega))
   ·have HT2 := Lib.hid hT
    clear hT
    go_wp2_with fail
    go_region_held3 (fun w' => w'.cell? ⟨g, m, none⟩ = some (.int .i64 x) ∧ w'.cell? ⟨g, h, none⟩ = some (.int .i64 y))
     (first | (go_keep; done) | ((try dsimp only); (repeat' apply And.intro) <;> (first | assumption | (go_keep; done))))
     (first | (go_at_fn cf; refine (HC.out _ x y (by first | with_reducible exact HS.out.sk | with_reducible exact HS.out.sk.drew) hlt2 hxK).mono ?_; rintro e w1 ⟨c, rfl, hb, hc⟩; replace hb : Below wr.heap.size wr w1 := bel_of_drw hb; have l3 := (hb.cell (p := ⟨g, m, none⟩) HS.out.bk.lt).trans l1; have l4 := (hb.cell (p := ⟨g, h, none⟩) HS.out.bk.lt).trans l2; have HS1 := Lib.hid (HS.out.below hb); have hcl : ¬ c < 0 := fun hh => HT2.out (hc.1 hh); clear hc hb l1 l2 HS))
    have hcd : decide (c < 0) = false := decide_eq_false (by omega)
    try simp only [hcd, Bool.not_false]
    clear l3 l4
    have hcn : ¬ c < 0 := by omega
    have HZ := Lib.hid (show ∀ q, a ≤ q → q < h + 1 → T (d q) (d m) = true from fun q q1 q2 => by
     have h3 : T (d h) (d m) = true := by rw [HX.out, HY.out]; exact HO.out.swap hlt2 HT2.out
     by_cases e : q = h
     ·rw [e]; exact h3
     ·exact HO.out.trans _ _ _ (HA.out q h q1 (by omega) (by omega)) h3)
    go_wp2
    go_roundw
    case rel => first | exact ⟨h + 1, j, by go_num, rfl, by omega, by omega, hjb, HS1, HZ, HR⟩ | exact ⟨h + 1, by omega, j, rfl, by omega, by omega, hjb, HZ, HR⟩
    case measure => (first | (simp [intOf]; done) | (simp [intOf]; omega))
  ·have hltz : ¬ (i : Int) < (j : Int) := by omega
   obtain rfl : i = j := by omega
   go_wp2
   go_loopw [17] (fun vk wr => ∃ k : Nat, vk = .int .i64 k ∧ i ≤ k ∧ k ≤ m ∧ Hid (Sw g n K (shr m k d) w0 wr)) (fun vk _ => (intOf vk).toNat)
   case atStart => exact ⟨m, rfl, by omega, Nat.le_refl _, by rw [shr_zero]; exact HS⟩
   case round =>
    clear HS
    obtain ⟨k, rfl, hak, hki, HS⟩ := hrel
    by_cases hk : i < k
    ·obtain ⟨kp, rfl⟩ : ∃ q, k = q + 1 := ⟨k - 1, by omega⟩
     have zk : ((kp + 1 : Nat) : Int) = (kp : Int) + 1 := by omega
     have hkz : (i : Int) < (kp : Int) + 1 := by omega
     have ek : ((kp : Int) + 1).toNat = kp + 1 := by omega
     have bk1 : (kp : Int) + 1 < (n : Int) := by omega
     have bk0 : (kp : Int) < (n : Int) := by omega
     have l1 := HS.out.cell (kp + 1) (by omega)
     have l2 := HS.out.cell (kp) (by omega)
     have HS2 := Lib.hid (HS.out.swp (i := kp + 1) (j := kp) (by omega) (by omega))
     rw [show swpN (shr m (kp + 1) d) (kp + 1) kp = shr m kp d from shr_succ m (kp + 1) d hki (by omega)] at HS2
     obtain ⟨x, hx⟩ : ∃ x, shr m (kp + 1) d (kp + 1) = x := ⟨_, rfl⟩
     obtain ⟨y, hy⟩ : ∃ x, shr m (kp + 1) d (kp) = x := ⟨_, rfl⟩
     rw [hx] at l1 HS2
     rw [hy] at l2 HS2
     clear hx hy
     have hf1 := HS.out.bk.frozen (kp + 1)
     have hf2 := HS.out.bk.frozen (kp)
     obtain ⟨u, l5⟩ := HS.out.mid (i := kp + 1) (j := kp) (by omega) (.int .i64 y)
     clear HS
     go_wp2_with fail
     go_big_region_o
     clear l1 l2 l5 hf1 hf2
     generalize hw2 : World.setCell (World.setCell wr _ _) _ _ = w2 at HS2 ⊢
     clear hw2
     go_wp2
     go_roundw
     case rel => exact ⟨kp, by first | rfl | go_num, by omega, by omega, by first | exact HS2 | exact Lib.hid HS2.out.drew⟩
     case measure => (first | (simp [intOf]; done) | (simp [intOf]; omega))
    ·have hkz : ¬ (i : Int) < (k : Int) := by omega
     go_wp2
     (try simp only [Exit.inBlock, Exit.then]); refine bodyPost_ret (results_none rfl _ _ _) rfl ?_
     obtain rfl : i = k := by omega
     obtain rfl : b = m + 1 := by omega
     have HD := shr_done (T := T) (a := a) (m := m) (i := i) (d := d) HA.out (by omega) hjb HL.out HR.out
     exact ⟨rfl, _, HS.out, HD.1, HD.2⟩
end Go.Proofs.YtjobopafcgnljaaGreat
