/- Slices of tables of four counts, and of truth values. No condition. -/
import Derived.Test.YtmecipfdelgfbaaDoorAl
namespace Go.Proofs.YtmecipfdelgfbaaDoor
open Go.RowKit

/-- the slice is n tables of four counts -/
def Tz (w : World) (a : Option Addr) (n cap : Nat) (t : Nat → Nat → Nat) : Prop :=
  n ≤ cap ∧ cap ≤ maxLen ∧ (0 < n → ∃ b off, a = some ⟨b, off, none⟩ ∧ ∀ i, i < n → w.cell? ⟨b, off + i * 4, none⟩ = some (.int .i64 ((t i 0 : Nat) : Int)) ∧ w.cell? ⟨b, off + i * 4 + 1, none⟩ = some (.int .i64 ((t i 1 : Nat) : Int)) ∧ w.cell? ⟨b, off + i * 4 + 2, none⟩ = some (.int .i64 ((t i 2 : Nat) : Int)) ∧ w.cell? ⟨b, off + i * 4 + 3, none⟩ = some (.int .i64 ((t i 3 : Nat) : Int)))
theorem Tz.below {w w' : World} {a : Option Addr} {n cap : Nat} {t : Nat → Nat → Nat} (h : Tz w a n cap t) (hb : Below w.heap.size w w') : Tz w' a n cap t := by
  obtain ⟨h0, h1, h2⟩ := h
  refine ⟨h0, h1, fun hn => ?_⟩
  obtain ⟨b, off, e, hc⟩ := h2 hn
  exact ⟨b, off, e, fun i hi => ⟨cell_mono (hc i hi).1 hb, cell_mono (hc i hi).2.1 hb, cell_mono (hc i hi).2.2.1 hb, cell_mono (hc i hi).2.2.2 hb⟩⟩
theorem Tz.congr {w : World} {a : Option Addr} {n cap : Nat} {t t' : Nat → Nat → Nat} (h : Tz w a n cap t) (e : ∀ i, i < n → ∀ j, j < 4 → t i j = t' i j) : Tz w a n cap t' := by
  obtain ⟨h0, h1, h2⟩ := h
  refine ⟨h0, h1, fun hn => ?_⟩
  obtain ⟨b, off, ea, hc⟩ := h2 hn
  refine ⟨b, off, ea, fun i hi => ?_⟩
  rw [← e i hi 0 (by omega), ← e i hi 1 (by omega), ← e i hi 2 (by omega), ← e i hi 3 (by omega)]
  exact hc i hi
/-- the slice is n tables of four numbers -/
def Ts (w : World) (a : Option Addr) (n cap : Nat) (t : Nat → Nat → Int) : Prop :=
  n ≤ cap ∧ cap ≤ maxLen ∧ (0 < n → ∃ b off, a = some ⟨b, off, none⟩ ∧ ∀ i, i < n → w.cell? ⟨b, off + i * 4, none⟩ = some (.int .i64 (t i 0)) ∧ w.cell? ⟨b, off + i * 4 + 1, none⟩ = some (.int .i64 (t i 1)) ∧ w.cell? ⟨b, off + i * 4 + 2, none⟩ = some (.int .i64 (t i 2)) ∧ w.cell? ⟨b, off + i * 4 + 3, none⟩ = some (.int .i64 (t i 3)))
theorem Ts.below {w w' : World} {a : Option Addr} {n cap : Nat} {t : Nat → Nat → Int} (h : Ts w a n cap t) (hb : Below w.heap.size w w') : Ts w' a n cap t := by
  obtain ⟨h0, h1, h2⟩ := h
  refine ⟨h0, h1, fun hn => ?_⟩
  obtain ⟨b, off, e, hc⟩ := h2 hn
  exact ⟨b, off, e, fun i hi => ⟨cell_mono (hc i hi).1 hb, cell_mono (hc i hi).2.1 hb, cell_mono (hc i hi).2.2.1 hb, cell_mono (hc i hi).2.2.2 hb⟩⟩
/-- the slice is n truth values -/
def Bs (w : World) (a : Option Addr) (n cap : Nat) (f : Nat → Bool) : Prop :=
  n ≤ cap ∧ cap ≤ maxLen ∧ (0 < n → ∃ b off, a = some ⟨b, off, none⟩ ∧ ∀ i, i < n → w.cell? ⟨b, off + i, none⟩ = some (.bool (f i)))
theorem Bs.below {w w' : World} {a : Option Addr} {n cap : Nat} {f : Nat → Bool} (h : Bs w a n cap f) (hb : Below w.heap.size w w') : Bs w' a n cap f := by
  obtain ⟨h0, h1, h2⟩ := h
  refine ⟨h0, h1, fun hn => ?_⟩
  obtain ⟨b, off, e, hc⟩ := h2 hn
  exact ⟨b, off, e, fun i hi => cell_mono (hc i hi) hb⟩
theorem Bs.congr {w : World} {a : Option Addr} {n cap : Nat} {f g : Nat → Bool} (h : Bs w a n cap f) (e : ∀ i, i < n → f i = g i) : Bs w a n cap g :=
  ⟨h.1, h.2.1, fun hn => by obtain ⟨b, off, e1, hc⟩ := h.2.2 hn; exact ⟨b, off, e1, fun i hi => by rw [← e i hi]; exact hc i hi⟩⟩
/-- a list of cells: n tables -/
def C4 (n : Nat) (t : Nat → Nat → Nat) (xs : List Value) : Prop := xs.length = n * 4 ∧ ∀ i, i < n → ∀ c, c < 4 → xs[i * 4 + c]? = some (.int .i64 ((t i c : Nat) : Int))
theorem C4.nil (t : Nat → Nat → Nat) : C4 0 t [] := ⟨rfl, fun i hi => by omega⟩
theorem C4.congr {n : Nat} {t t' : Nat → Nat → Nat} {xs : List Value} (h : C4 n t xs) (e : ∀ i, i < n → ∀ c, c < 4 → t i c = t' i c) : C4 n t' xs := ⟨h.1, fun i hi c hc => by rw [← e i hi c hc]; exact h.2 i hi c hc⟩
theorem C4.push {n : Nat} {t : Nat → Nat → Nat} {xs : List Value} {v0 v1 v2 v3 : Value} (h : C4 n t xs) (h0 : v0 = .int .i64 ((t n 0 : Nat) : Int)) (h1 : v1 = .int .i64 ((t n 1 : Nat) : Int)) (h2 : v2 = .int .i64 ((t n 2 : Nat) : Int)) (h3 : v3 = .int .i64 ((t n 3 : Nat) : Int)) : C4 (n + 1) t (xs ++ [v0, v1, v2, v3]) := by
  obtain ⟨hl, hc⟩ := h
  refine ⟨by rw [List.length_append, hl]; simp; omega, fun i hi c hc4 => ?_⟩
  by_cases e : i < n
  · rw [List.getElem?_append_left (by omega)]; exact hc i e c hc4
  · obtain rfl : i = n := by omega
    rw [List.getElem?_append_right (by omega), hl, show i * 4 + c - i * 4 = c by omega]
    obtain rfl | rfl | rfl | rfl : c = 0 ∨ c = 1 ∨ c = 2 ∨ c = 3 := by omega
    · rw [h0]; rfl
    · rw [h1]; rfl
    · rw [h2]; rfl
    · rw [h3]; rfl
/-- v is a row of its own of n tables -/
def Ot (B : Nat) (w : World) (v : Value) (n : Nat) (t : Nat → Nat → Nat) : Prop := ∃ xs, w.ownsRow B 50 4 v n xs ∧ C4 n t xs
theorem Ot.start (B : Nat) (w : World) (t : Nat → Nat → Nat) : Ot B w (.slice none 0 0) 0 t := ⟨[], ⟨rfl, .inl ⟨rfl, rfl⟩⟩, C4.nil t⟩
theorem Ot.open {B : Nat} {w : World} {v : Value} {n : Nat} {t : Nat → Nat → Nat} (h : Ot B w v n t) : ∃ p cap, v = .slice p n cap ∧ Tz w p n cap t := by
  obtain ⟨xs, ⟨hxl, ⟨rfl, h0⟩ | ⟨g, cap, cur, rfl, hg, hh, h1, h2, h3, h4⟩⟩, hl, hc⟩ := h
  · have h5 : n = 0 := by rw [h0] at hl; simp at hl; omega
    exact ⟨none, 0, by rw [h5], by omega, Nat.zero_le _, fun h => by omega⟩
  · refine ⟨_, cap, rfl, h1, h2, fun hn => ⟨g, 0, rfl, fun i hi => ?_⟩⟩
    have key : ∀ c, c < 4 → w.cell? ⟨g, 0 + i * 4 + c, none⟩ = some (.int .i64 ((t i c : Nat) : Int)) := by
      intro c hc4
      have h5 := hc i hi c hc4
      have h6 : cur.toList[i * 4 + c]? = some (.int .i64 ((t i c : Nat) : Int)) := by
        rw [← h4, List.getElem?_take_of_lt (by omega)] at h5
        exact h5
      rw [Nat.zero_add]
      simp [World.cell?, hh]
      simpa using h6
    exact ⟨key 0 (by omega), key 1 (by omega), key 2 (by omega), key 3 (by omega)⟩
theorem C4.one {n : Nat} {t : Nat → Nat → Nat} {xs : List Value} (h : C4 n t xs) : ∀ u ∈ xs, u.oneCell' = true := by
  intro u hu
  obtain ⟨j, hj, e⟩ := List.getElem_of_mem hu
  have e2 : xs[j]? = some u := by rw [List.getElem?_eq_some_iff]; exact ⟨hj, e⟩
  have hl := h.1
  have h3 := h.2 (j / 4) (by omega) (j % 4) (by omega)
  rw [show j / 4 * 4 + j % 4 = j by omega, e2] at h3
  rw [Option.some.inj h3]; rfl
/-- block b is a row of n truth values -/
def Lb (w : World) (b n : Nat) (f : Nat → Bool) : Prop := w.rowIs b 4 n (fun i => .bool (f i))
theorem Lb.bs {w : World} {b n : Nat} {f : Nat → Bool} (h : Lb w b n f) (hn : n ≤ maxLen) : Bs w (some ⟨b, 0, none⟩) n n f :=
  ⟨Nat.le_refl _, hn, fun _ => ⟨b, 0, rfl, fun i hi => by rw [Nat.zero_add]; exact World.rowIs.cell h hi⟩⟩

end Go.Proofs.YtmecipfdelgfbaaDoor
