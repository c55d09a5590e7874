import Derived.Test.YtjobopafcgnljaaGreatFtA
namespace Go.Proofs.YtjobopafcgnljaaGreat
open Go.RowKit
def Ru (N : Nat) (w : World) (a : Option Addr) (n cap : Nat) (q : Nat → Rat) (ln ld : Nat → Nat) : Prop :=
 n ≤ cap ∧ cap ≤ maxLen ∧ (0 < n → ∃ b off, a = some ⟨b, off, none⟩ ∧ ∀ i, i < n → ∃ s ra rc da dc mn md, w.cell? ⟨b, off + i * 3, none⟩ = some (.bool s) ∧ w.cell? ⟨b, off + i * 3 + 1, none⟩ = some (.slice ra (ln i) rc) ∧ w.cell? ⟨b, off + i * 3 + 2, none⟩ = some (.slice da (ld i) dc) ∧ Nt N w ra (ln i) rc mn ∧ Nt N w da (ld i) dc md ∧ mkRat (zI s mn) md = q i)
theorem Ru.rs {N : Nat} {w : World} {a : Option Addr} {n cap : Nat} {q : Nat → Rat} {ln ld : Nat → Nat} (h : Ru N w a n cap q ln ld) (L : Nat) (h1 : 1 ≤ L) (hl : ∀ i, i < n → ln i ≤ L ∧ ld i ≤ L) : Rs N w a n cap q L := by
 obtain ⟨h0, hm, hc⟩ := h
 refine ⟨h0, hm, fun hn => ?_⟩
 obtain ⟨b, off, e, ho⟩ := hc hn
 refine ⟨b, off, e, fun i hi => ?_⟩
 obtain ⟨s, ra, rc, da, dc, mn, md, g0, g1, g2, n1, n2, hq⟩ := ho i hi
 exact ⟨s, ra, _, rc, da, _, dc, g0, g1, g2, h1, (hl i hi).1, (hl i hi).2, mn, md, n1, n2, hq⟩
end Go.Proofs.YtjobopafcgnljaaGreat
