/- Contract of dif.strata: the tables of an item of a matrix of right and wrong responses. No condition. -/
import Derived.Test.YtmecipfdelgfbaaDoorDfR
import Derived.Test.YtmecipfdelgfbaaDoorTsT
import Derived.Test.YtmecipfdelgfbaaDoorMxA
namespace Go.Proofs.YtmecipfdelgfbaaDoor
open Go.RowKit

/-- block g is a row of n tables -/
def Tb (w : World) (g n : Nat) (t : Nat → Nat → Nat) : Prop := w.rowIs g 50 (n * 4) (fun x => .int .i64 ((t (x / 4) (x % 4) : Nat) : Int))
theorem Tryd.infoTab : (Tryd.prog.info? 50).map (fun i => (i.zero, i.size, i.bytes)) = some (some (.agg #[.int .i64 0, .int .i64 0, .int .i64 0, .int .i64 0]), 4, 32) := by kernel_rfl
theorem Tryd.underTabs : Tryd.prog.underlying 22 = some (.slice 50) := by kernel_rfl
theorem make_tabs (n : Nat) (h : n ≤ 100000) (w : World) :
    (Instr.makeSlice 22 (.int .i64 (n : Int)) (.int .i64 (n : Int))).run Tryd.prog w = .ok (.slice (some ⟨w.heap.size, 0, none⟩) n n) (w.alloc (.cells (madeCells #[.int .i64 0, .int .i64 0, .int .i64 0, .int .i64 0] (n * 4)) 50)) := by
  obtain ⟨i, hi, hzz⟩ := Option.map_eq_some_iff.1 Tryd.infoTab
  simp only [Prod.mk.injEq] at hzz
  obtain ⟨hz, hs, hb⟩ := hzz
  have hr := run_make (P := Tryd.prog) w 22 50 i _ Tryd.underTabs hi hz .i64 .i64 n n (by omega) (Int.le_refl _) (by rw [hb]; omega) (by omega)
  rw [hs] at hr
  simpa [Value.cells] using hr
theorem Tb.made (w : World) (n : Nat) (t : Nat → Nat → Nat) (h : ∀ i c, t i c = 0) : Tb (w.alloc (.cells (madeCells #[.int .i64 0, .int .i64 0, .int .i64 0, .int .i64 0] (n * 4)) 50)) w.heap.size n t := by
  refine ⟨_, heap_alloc_new w _, size_madeCells _ _, fun i hi => ?_⟩
  show _ = some (Value.int .i64 ((t (i / 4) (i % 4) : Nat) : Int))
  rw [h]
  obtain e | e | e | e : i % 4 = 0 ∨ i % 4 = 1 ∨ i % 4 = 2 ∨ i % 4 = 3 := by omega
  all_goals simp [madeCells, hi, e]
theorem Tb.step {w : World} {g n T c v : Nat} {t t' : Nat → Nat → Nat} (h : Tb w g n t) (hc : c < 4) (hv : t T c = v) (e : ∀ i c', c' < 4 → t' i c' = t i c' + if c = c' ∧ T = i then 1 else 0) : Tb (w.setCell ⟨g, T * 4 + c, none⟩ (.int .i64 ((v : Int) + 1))) g n t' := by
  refine World.rowIs.congr (World.rowIs.set h (T * 4 + c) _) (fun j hj => ?_)
  by_cases e1 : j = T * 4 + c
  · subst e1
    rw [if_pos rfl, show (T * 4 + c) / 4 = T by omega, show (T * 4 + c) % 4 = c by omega, e _ _ hc, if_pos ⟨rfl, rfl⟩, hv]
    simp
  · rw [if_neg e1, e _ _ (by omega), if_neg (by omega), Nat.add_zero]
theorem Tb.congr {w : World} {g n : Nat} {t t' : Nat → Nat → Nat} (h : Tb w g n t) (e : ∀ i c, c < 4 → t i c = t' i c) : Tb w g n t' := World.rowIs.congr h (fun j _ => by rw [e _ _ (by omega)])
theorem Tb.at {w : World} {g n T c v : Nat} {t : Nat → Nat → Nat} (h : Tb w g n t) (hT : T < n) (hc : c < 4) (hv : t T c = v) : w.cell? ⟨g, T * 4 + c, none⟩ = some (.int .i64 ((v : Nat) : Int)) := by
  have := World.rowIs.cell h (i := T * 4 + c) (by omega)
  rw [show (T * 4 + c) / 4 = T by omega, show (T * 4 + c) % 4 = c by omega, hv] at this
  exact this
theorem Tb.tz {w : World} {g L n : Nat} {t : Nat → Nat → Nat} (h : Tb w g L t) (hn : n ≤ L) (hL : L ≤ maxLen) : Tz w (some ⟨g, 0, none⟩) n L t :=
  ⟨hn, hL, fun _ => ⟨g, 0, rfl, fun i hi => ⟨by have := h.at (T := i) (c := 0) (by omega) (by omega) rfl; simpa using this, by have := h.at (T := i) (c := 1) (by omega) (by omega) rfl; simpa using this, by have := h.at (T := i) (c := 2) (by omega) (by omega) rfl; simpa using this, by have := h.at (T := i) (c := 3) (by omega) (by omega) rfl; simpa using this⟩⟩⟩
theorem scT_yes {z : Nat → Int} {u : Nat → Bool} {i k : Nat} (h : z k = 1) (h2 : u k = true ∨ k = i) : scT z u i (k + 1) = scT z u i k + 1 := by simp only [scT]; rw [if_pos ⟨h, h2⟩]
theorem scT_no {z : Nat → Int} {u : Nat → Bool} {i k : Nat} (h : ¬ (z k = 1 ∧ (u k = true ∨ k = i))) : scT z u i (k + 1) = scT z u i k := by simp only [scT]; rw [if_neg h]; rfl

set_option maxRecDepth 20000 in
set_option maxHeartbeats 8000000 in
theorem strata_ok (pa ia ca : Option Addr) (P pc I ic R cc : Nat) (ra : Nat → Option Addr) (rn rc : Nat → Nat) (z : Nat → Nat → Int) (w : World) (hc : Rw w ca R cc ra rn rc z) (hI : I ≤ 60) (hR : R ≤ 200) (hrn : ∀ k, k < R → rn k = I) (fa : Option Addr) (fc : Nat) (f : Nat → Bool) (hf : Bs w fa R fc f) (ua : Option Addr) (uc : Nat) (u : Nat → Bool) (hu : Bs w ua I uc u) (i : Nat) (hi : i < I) :
    Calls Tryd.prog 41 #[.agg #[.slice pa P pc, .slice ia I ic, .slice ca R cc], .int .i64 (i : Nat), .slice fa R fc, .slice ua I uc] w fun e w' => ∃ b, e = .returned (.slice (some ⟨b, 0, none⟩) (laS z u i I R) (I + 1)) ∧ w.heap.size ≤ b ∧ b < w'.heap.size ∧ Tz w' (some ⟨b, 0, none⟩) (laS z u i I R) (I + 1) (tbS z f u i I R) ∧ Below w.heap.size w w' := by
  have HC := Lib.hid hc
  have HF := Lib.hid hf
  have HU := Lib.hid hu
  have HRN := Lib.hid hrn
  have b5 := hc.1
  have b6 := hc.2.1
  have b1 := hf.1
  have b2 := hf.2.1
  have b3 := hu.1
  have b4 := hu.2.1
  unfold maxLen at b2 b4 b6
  clear hc hf hu hrn
  obtain ⟨L, hL⟩ : ∃ L, I + 1 = L := ⟨_, rfl⟩
  have e0 : (I : Int) + 1 = (L : Int) := by omega
  have hmk := make_tabs L (by omega)
  have HB := Lib.hid (Below.refl w.heap.size w)
  go_enter Tryd.func41, Tryd.ntmps41
  go_wp2_with fail
  go_loopw [10, 25] (fun la ix wr => ∃ (k : Nat) (a : Int), k ≤ R ∧ ix = .int .i64 k ∧ la = .int .i64 a ∧ a + 1 = (laS z u i I k : Nat) ∧ Tb wr (w.heap.size + 1) L (tbS z f u i I k) ∧ Below w.heap.size w wr) (fun _ ix _ => R - (intOf ix).toNat)
  case atStart =>
    refine ⟨0, -1, Nat.zero_le _, rfl, rfl, rfl, ?_, bel2 w _ _⟩
    have := Tb.made (w.alloc (.cells #[.slice pa P pc, .slice ia I ic, .slice ca R cc] 43)) L (tbS z f u i I 0) (fun _ _ => rfl)
    simpa using this
  case round =>
    obtain ⟨k, a, hk, rfl, rfl, ha, htb, hbel⟩ := hrel
    have HB2 := Lib.hid hbel
    have HTB := Lib.hid htb
    have hs0 : w.heap.size ≤ wr.heap.size := hbel.size
    have hgl := World.rowIs.lt htb
    have hA := laS_le z u i I k
    obtain ⟨A, hAe⟩ : ∃ x, laS z u i I k = x := ⟨_, rfl⟩
    rw [hAe] at hA ha
    have HA := Lib.hid hAe
    clear hAe htb
    by_cases hkn : k < R
    · obtain ⟨b, off, rfl, hcc⟩ := (HC.out.below hbel).2.2 (by omega)
      obtain ⟨hcell, hrow⟩ := hcc k hkn
      rw [HRN.out k hkn] at hcell hrow
      obtain ⟨b2', off2, hra, hc2⟩ := hrow.2.2 (by omega)
      have r1 := hrow.1
      have r2 := hrow.2.1
      unfold maxLen at r2
      rw [hra] at hcell
      have hci := hc2 i hi
      have HC2 := Lib.hid hc2
      obtain ⟨x, hx⟩ : ∃ x, z k i = x := ⟨_, rfl⟩
      rw [hx] at hci
      have HX := Lib.hid hx
      obtain ⟨bf, of, rfl, hcf⟩ := (HF.out.below hbel).2.2 (by omega)
      have hfk := hcf k hkn
      obtain ⟨fk, hfke⟩ : ∃ x, f k = x := ⟨_, rfl⟩
      rw [hfke] at hfk
      have HFK := Lib.hid hfke
      have HU2 := Lib.hid (HU.out.below hbel)
      have hfz := World.rowIs.frozen HTB.out
      clear hcc hrow hra hc2 hx hcf hfke hbel
      have hix0 : (0 : Int) ≤ (k : Int) := by omega
      have hix1 : (k : Int) < (R : Int) := by omega
      have hii0 : (0 : Int) ≤ (i : Int) := by omega
      have hii1 : (i : Int) < (I : Int) := by omega
      by_cases hx0 : x < 0
      · have HL2 := Lib.hid (show laS z u i I (k + 1) = A by simp only [laS]; rw [HX.out, if_pos hx0]; exact HA.out)
        go_wp2_with fail
        go_roundw
        case rel =>
          exact ⟨k + 1, a, by omega, by go_num, rfl, by rw [HL2.out]; exact ha, HTB.out.congr (fun T c hc => (tbS_skip z f u i I k T c (by rw [HX.out]; exact hx0) hc).symm), HB2.out⟩
        case measure => simp [intOf]; omega
      · have HX0 := Lib.hid hx0
        obtain ⟨W, rfl⟩ : ∃ x : World, x = wr := ⟨_, rfl⟩
        go_wp2_with fail
        go_loopw [13, 37] (fun tt jx wq => ∃ j : Nat, j ≤ I ∧ jx = .int .i64 j ∧ tt = .int .i64 ((scT (z k) u i j : Nat) : Int) ∧ W = wq) (fun _ jx _ => I - (intOf jx).toNat)
        case atStart => exact ⟨0, Nat.zero_le _, rfl, rfl, rfl⟩
        case round =>
          obtain ⟨j, hj, rfl, rfl, rfl⟩ := hrel
          have hT := scT_le (z k) u i j
          obtain ⟨T, hTe⟩ : ∃ x, scT (z k) u i j = x := ⟨_, rfl⟩
          rw [hTe] at hT
          rw [hTe]
          have HT := Lib.hid hTe
          clear hTe
          by_cases hjn : j < I
          · have hcj := HC2.out j hjn
            obtain ⟨y, hy⟩ : ∃ y, z k j = y := ⟨_, rfl⟩
            rw [hy] at hcj
            have HY := Lib.hid hy
            obtain ⟨bu, ou, hua, hcu⟩ := HU2.out.2.2 (by omega)
            have huj := hcu j hjn
            obtain ⟨uj, huje⟩ : ∃ x, u j = x := ⟨_, rfl⟩
            rw [huje] at huj
            have HUJ := Lib.hid huje
            subst hua
            clear hy hcu huje
            have hjx0 : (0 : Int) ≤ (j : Int) := by omega
            have hjx1 : (j : Int) < (I : Int) := by omega
            by_cases hy1 : y = 1
            · subst hy1
              cases uj
              · by_cases hji : j = i
                · have hjb : ((j : Int) == (i : Int)) = true := by simp; omega
                  have HJI := Lib.hid hji
                  clear hji
                  have HS := Lib.hid (show scT (z k) u i (j + 1) = T + 1 by rw [scT_yes (by rw [HY.out]) (.inr HJI.out), HT.out])
                  go_wp2_with fail
                  go_roundw
                  case rel =>
                    exact ⟨j + 1, by omega, by go_num, by rw [HS.out]; go_num, by first | rfl | trivial⟩
                  case measure => simp [intOf]; omega
                · have hjb : ((j : Int) == (i : Int)) = false := by simp; omega
                  have HS := Lib.hid (show scT (z k) u i (j + 1) = T by rw [scT_no (fun hh => hh.2.elim (fun h => by rw [HUJ.out] at h; cases h) hji), HT.out])
                  go_wp2_with fail
                  go_roundw
                  case rel =>
                    exact ⟨j + 1, by omega, by go_num, by rw [HS.out], by first | rfl | trivial⟩
                  case measure => simp [intOf]; omega
              · have HS := Lib.hid (show scT (z k) u i (j + 1) = T + 1 by rw [scT_yes (by rw [HY.out]) (.inl HUJ.out), HT.out])
                go_wp2_with fail
                go_roundw
                case rel =>
                  exact ⟨j + 1, by omega, by go_num, by rw [HS.out]; go_num, by first | rfl | trivial⟩
                case measure => simp [intOf]; omega
            · have hyb : (y == 1) = false := by simp; omega
              have HS := Lib.hid (show scT (z k) u i (j + 1) = T by rw [scT_no (fun hh => hy1 (by rw [← HY.out]; exact hh.1)), HT.out])
              go_wp2_with fail
              go_roundw
              case rel =>
                exact ⟨j + 1, by omega, by go_num, by rw [HS.out], by first | rfl | trivial⟩
              case measure => simp [intOf]; omega
          · obtain rfl : j = I := by omega
            obtain ⟨A2, hA2⟩ : ∃ x, laS z u i j (k + 1) = x := ⟨_, rfl⟩
            have hA2m : max A (T + 1) = A2 := by rw [← hA2]; simp only [laS]; rw [HX.out, if_neg (by have := HX0.out; omega), HA.out, HT.out]
            have HA2 := Lib.hid hA2
            obtain ⟨a2, ha2⟩ : ∃ x : Int, x + 1 = (A2 : Int) := ⟨A2 - 1, by omega⟩
            have em : max a (T : Int) = a2 := by omega
            have hTL : T < L := by omega
            have hTx0 : (0 : Int) ≤ (T : Int) := by omega
            have hTx1 : (T : Int) < (L : Int) := by omega
            clear hA2 hA2m
            cases fk
            · by_cases hx1 : x = 1
              · subst hx1
                obtain ⟨v, hv⟩ : ∃ v, tbS z f u i j k T 0 = v := ⟨_, rfl⟩
                have hvl : v ≤ k := by rw [← hv]; exact tbS_le z f u i j k T 0
                have hct : W.cell? ⟨w.heap.size + 1, T * 4, none⟩ = some (.int .i64 ((v : Nat) : Int)) := HTB.out.at (c := 0) hTL (by decide) hv
                have HV := Lib.hid hv
                clear hv
                have HCT := Lib.hid (show ctS (z k i) (f k) = 0 by rw [HX.out, HFK.out]; unfold ctS; rw [if_neg (by have := HX0.out; omega)]; rw [if_neg (by decide), if_pos rfl])
                go_wp2_with fail
                go_roundw
                case rel =>
                  refine ⟨k + 1, a2, by omega, by go_num, by go_num, by rw [HA2.out]; exact ha2, HTB.out.step (by decide) HV.out (fun q c' hc' => ?_), ?_⟩
                  · rw [tbS_step z f u i j k q c', HCT.out, HT.out]
                  · exact BlA
                case measure => simp [intOf]; omega
              · have hxb : (x == 1) = false := by simp; omega
                obtain ⟨v, hv⟩ : ∃ v, tbS z f u i j k T 1 = v := ⟨_, rfl⟩
                have hvl : v ≤ k := by rw [← hv]; exact tbS_le z f u i j k T 1
                have hct := HTB.out.at hTL (by decide) hv
                have HV := Lib.hid hv
                clear hv
                have HCT := Lib.hid (show ctS (z k i) (f k) = 1 by rw [HX.out, HFK.out]; unfold ctS; rw [if_neg (by have := HX0.out; omega)]; rw [if_neg (by decide), if_neg hx1])
                go_wp2_with fail
                go_roundw
                case rel =>
                  refine ⟨k + 1, a2, by omega, by go_num, by go_num, by rw [HA2.out]; exact ha2, HTB.out.step (by decide) HV.out (fun q c' hc' => ?_), ?_⟩
                  · rw [tbS_step z f u i j k q c', HCT.out, HT.out]
                  · exact BlA
                case measure => simp [intOf]; omega
            · by_cases hx1 : x = 1
              · subst hx1
                obtain ⟨v, hv⟩ : ∃ v, tbS z f u i j k T 2 = v := ⟨_, rfl⟩
                have hvl : v ≤ k := by rw [← hv]; exact tbS_le z f u i j k T 2
                have hct := HTB.out.at hTL (by decide) hv
                have HV := Lib.hid hv
                clear hv
                have HCT := Lib.hid (show ctS (z k i) (f k) = 2 by rw [HX.out, HFK.out]; unfold ctS; rw [if_neg (by have := HX0.out; omega)]; rw [if_pos rfl, if_pos rfl])
                go_wp2_with fail
                go_roundw
                case rel =>
                  refine ⟨k + 1, a2, by omega, by go_num, by go_num, by rw [HA2.out]; exact ha2, HTB.out.step (by decide) HV.out (fun q c' hc' => ?_), ?_⟩
                  · rw [tbS_step z f u i j k q c', HCT.out, HT.out]
                  · exact BlA
                case measure => simp [intOf]; omega
              · have hxb : (x == 1) = false := by simp; omega
                obtain ⟨v, hv⟩ : ∃ v, tbS z f u i j k T 3 = v := ⟨_, rfl⟩
                have hvl : v ≤ k := by rw [← hv]; exact tbS_le z f u i j k T 3
                have hct := HTB.out.at hTL (by decide) hv
                have HV := Lib.hid hv
                clear hv
                have HCT := Lib.hid (show ctS (z k i) (f k) = 3 by rw [HX.out, HFK.out]; unfold ctS; rw [if_neg (by have := HX0.out; omega)]; rw [if_pos rfl, if_neg hx1])
                go_wp2_with fail
                go_roundw
                case rel =>
                  refine ⟨k + 1, a2, by omega, by go_num, by go_num, by rw [HA2.out]; exact ha2, HTB.out.step (by decide) HV.out (fun q c' hc' => ?_), ?_⟩
                  · rw [tbS_step z f u i j k q c', HCT.out, HT.out]
                  · exact BlA
                case measure => simp [intOf]; omega
    · obtain rfl : k = R := by omega
      have hAz : (0 : Int) ≤ (A : Int) := by omega
      have hAL : (A : Int) ≤ (L : Int) := by omega
      clear hbel
      go_wp2_with fail
      go_ret
      rw [HA.out]
      subst hL
      exact ⟨_, rfl, by omega, hgl, HTB.out.tz (by omega) (by unfold maxLen; omega), HB2.out⟩

end Go.Proofs.YtmecipfdelgfbaaDoor
