/- Contract of the reference's Families; the walk of EnemyConflicts. Condition: at most 2^20 items. -/
import Derived.Test.YtonnbcongnkcdaaLawNm
namespace Go.Proofs.Ytonnbcongnkcdaa
open Go.RowKit

/-- what is done has been done behind what it asks (by the pairs P) -/
def CloX (P : List (Nat × Nat)) (L : Nat → Bool) : Prop := ∀ p ∈ P, L p.1 = true → L p.2 = true
theorem CloX.none (P : List (Nat × Nat)) : CloX P (fun _ => false) := fun _ _ h => by cases h
theorem CloX.set {P : List (Nat × Nat)} {L : Nat → Bool} (h : CloX P L) (i : Nat) (hd : ∀ p ∈ P, p.1 = i → L p.2 = true) : CloX P (fun j => if j = i then true else L j) := by
  intro p hp h1
  show (if p.2 = i then true else L p.2) = true
  replace h1 : (if p.1 = i then true else L p.1) = true := h1
  by_cases e2 : p.2 = i
  · rw [if_pos e2]
  · rw [if_neg e2]
    by_cases e1 : p.1 = i
    · exact hd p hp e1
    · rw [if_neg e1] at h1; exact h p hp h1
theorem CloX.set' {P : List (Nat × Nat)} {L : Nat → Bool} (h : CloX P L) (i : Nat) (hd : ∀ p ∈ P, p.1 = i → L p.2 = true) : CloX P (fun j => decide (j = i) || L j) := by
  have e : (fun j => decide (j = i) || L j) = fun j => if j = i then true else L j := by
    funext j
    by_cases h : j = i <;> simp [h]
  rw [e]; exact h.set i hd
/-- u is a new slice of the one pair (x, y) -/
def NewP (x y : Int) (u : Value) (w : World) : Prop := ∃ g c, u = .slice (some ⟨g, 0, none⟩) 1 c ∧ w.cell? ⟨g, 0, none⟩ = some (.int .i64 x) ∧ w.cell? ⟨g, 1, none⟩ = some (.int .i64 y)
theorem NewP.mk (w : World) (x y : Int) (T : TypeId) : NewP x y (.slice (some ⟨w.heap.size, 0, none⟩) 1 1) (w.alloc (.cells #[.int .i64 x, .int .i64 y] T)) := ⟨_, 1, rfl, by simp, by simp⟩
theorem cell_twoN {w : World} {g : Nat} {x y : Value} (h0 : w.cell? ⟨g, 0, none⟩ = some x) (h1 : w.cell? ⟨g, 1, none⟩ = some y) : ∀ (j : Nat) (u : Value), [x, y][j]? = some u → w.cell? ((⟨g, 0, none⟩ : Addr).add j) = some u := by
  intro j u hj
  match j, hj with
  | 0, hj => simp at hj; subst hj; simpa [Addr.add] using h0
  | 1, hj => simp at hj; subst hj; simpa [Addr.add] using h1
/-- the pairs of item i with those ahead of k -/
def rowF (it fm : Nat → Int) (i k : Nat) : List (Int × Int) := ((List.range k).filter fun j => decide (0 < fm i) && decide (fm i = fm j)).map fun j => (it j, it i)
theorem rowF_succ (it fm : Nat → Int) (i k : Nat) : rowF it fm i (k + 1) = if 0 < fm i ∧ fm i = fm k then rowF it fm i k ++ [(it k, it i)] else rowF it fm i k := by
  unfold rowF
  rw [List.range_succ, List.filter_append, List.map_append]
  by_cases c : 0 < fm i ∧ fm i = fm k
  · rw [if_pos c]
    have : (decide (0 < fm i) && decide (fm i = fm k)) = true := by rw [decide_eq_true c.1, decide_eq_true c.2]; rfl
    simp only [List.filter_cons, this, if_true, List.filter_nil, List.map_cons, List.map_nil]
  · rw [if_neg c]
    have : (decide (0 < fm i) && decide (fm i = fm k)) = false := by
      by_cases h : 0 < fm i
      · have : ¬ fm i = fm k := fun e => c ⟨h, e⟩
        simp [this]
      · simp [h]
    simp [this]
theorem rowF_len (it fm : Nat → Int) (i k : Nat) : (rowF it fm i k).length ≤ k := by
  unfold rowF
  rw [List.length_map]
  exact Nat.le_trans (List.length_filter_le _ _) (by simp)
theorem famR_succ (it fm : Nat → Int) (i : Nat) : famR it fm (i + 1) = famR it fm i ++ rowF it fm i i := by
  unfold famR rowF
  rw [List.range_succ, List.flatMap_append, List.flatMap_cons, List.flatMap_nil, List.append_nil]
theorem famR_len (it fm : Nat → Int) (n : Nat) : ∀ i, i ≤ n → (famR it fm i).length ≤ i * n
  | 0, _ => by simp [famR]
  | i + 1, hi => by
    have ih := famR_len it fm n i (by omega)
    have h := rowF_len it fm i i
    rw [famR_succ, List.length_append, Nat.add_mul]
    omega
def FaJP : List (Nat × Nat) := [(3, 1), (3, 2), (4, 3), (5, 4), (8, 6), (8, 7), (9, 8), (10, 9), (11, 5), (11, 10), (12, 11)]
def FaJ (N : Nat) (T : World) (Q : List (Int × Int)) (ov : Value) (b off i k n cap : Nat) (xk xi : Int) (W : World) (z0 : Act) (L : Nat → Bool) (z1 : Act) (w : World) : Prop :=
  ∃ u37 u38 u39 u40 u41 u42 u43 u44 u45 u46 u47 u48 u49 u50,
    (z1 = ((((((((((((((z0.put (some 37) u37).put (some 38) u38).put (some 39) u39).put (some 40) u40).put (some 41) u41).put (some 42) u42).put (some 43) u43).put (some 44) u44).put (some 45) u45).put (some 46) u46).put (some 47) u47).put (some 48) u48).put (some 49) u49).put (some 50) u50) ∧ L 13 = false ∧ L 14 = false ∧ CloX FaJP L ∧ Since W w ∧ (L 0 = true → u37 = ov) ∧ (L 1 = true → u38 = .slice (some ⟨b, off, none⟩) n cap) ∧ (L 2 = true → u39 = .int .i64 (k : Nat)) ∧ (L 3 = true → u40 = .pointer (some ⟨b, off + k * 9, none⟩)) ∧ (L 4 = true → u41 = .pointer (some ⟨b, off + k * 9, none⟩)) ∧ (L 5 = true → u42 = .int .i64 xk) ∧ (L 6 = true → u43 = .slice (some ⟨b, off, none⟩) n cap) ∧ (L 7 = true → u44 = .int .i64 (i : Nat)) ∧ (L 8 = true → u45 = .pointer (some ⟨b, off + i * 9, none⟩)) ∧ (L 9 = true → u46 = .pointer (some ⟨b, off + i * 9, none⟩)) ∧ (L 10 = true → u47 = .int .i64 xi) ∧ (L 11 = true → u48 = .agg #[.int .i64 xk, .int .i64 xi]) ∧ (L 12 = true → NewP xk xi u49 w)) ∨
    (z1 = ((((((((((((((z0.put (some 37) u37).put (some 38) u38).put (some 39) u39).put (some 40) u40).put (some 41) u41).put (some 42) u42).put (some 43) u43).put (some 44) u44).put (some 45) u45).put (some 46) u46).put (some 47) u47).put (some 48) u48).put (some 49) u49).put (some 50) u50) ∧ L 13 = true ∧ L 14 = false ∧ (∀ j, j < 13 → L j = true) ∧ (Op2 N 47 w u50 (Q ++ [(xk, xi)]) ∧ Below N T w)) ∨
    (∃ v, z1 = ((((((((((((((z0.put (some 37) u37).put (some 38) u38).put (some 39) u39).put (some 40) u40).put (some 41) u41).put (some 42) u42).put (some 43) u43).put (some 44) u44).put (some 45) u45).put (some 46) u46).put (some 47) u47).put (some 48) u48).put (some 49) u49).put (some 50) u50).put (some 3) v ∧ L 14 = true ∧ (∀ j, j < 14 → L j = true) ∧ (Op2 N 47 w v (Q ++ [(xk, xi)]) ∧ Below N T w))

set_option maxRecDepth 20000 in
set_option maxHeartbeats 16000000 in
theorem xfamilies_any (a : Option Addr) (n cap : Nat) (it fm : Nat → Int) (w : World) (h : Pi w a n cap it fm) (hn : n ≤ 1048576) :
    Calls Try.prog 23 #[.slice a n cap] w fun e w' => ∃ v, e = .returned v ∧ PnO w.heap.size (normR (famR it fm n)) v w' ∧ Below w.heap.size w w' := by
  have HPI := Lib.hid h
  have b1 := h.1
  have b2 := h.2.1
  unfold maxLen at b2
  clear h
  have mixed : Try.prog.follows Departure.mixedOrders = true := by kernel_rfl
  obtain ⟨i1, hi1, hzz⟩ := Option.map_eq_some_iff.1 infoPairE
  simp only [Prod.mk.injEq] at hzz
  obtain ⟨hy0, hy1, hy2⟩ := hzz
  obtain ⟨N2, hN2⟩ : ∃ N2, n * n = N2 := ⟨_, rfl⟩
  have hN3 : N2 ≤ 1099511627776 := by rw [← hN2]; exact Nat.le_trans (Nat.mul_le_mul hn hn) (by decide)
  have HN2 := Lib.hid hN2
  clear hN2
  go_enter Try.func23, Try.ntmps23
  go_wp2_with fail
  go_loopw [3, 4] (fun out i wr => ∃ (q : Nat) (Q : List (Int × Int)), q ≤ n ∧ i = .int .i64 q ∧ famR it fm q = Q ∧ Op2 w.heap.size 47 wr out Q ∧ Below w.heap.size w wr) (fun _ i _ => n - (intOf i).toNat)
  case atStart => exact ⟨0, [], Nat.zero_le _, rfl, rfl, Op2.start _ w (Nat.le_refl _), bel1 _ _⟩
  case round =>
    obtain ⟨i, Q, hi, rfl, hQ, hop, hbel⟩ := hrel
    have HQ := Lib.hid hQ
    have HOP0 := Lib.hid hop
    have HB0 := Lib.hid hbel
    have hs0 := hbel.size
    clear hQ hop hbel
    by_cases hin : i < n
    · obtain ⟨b, off, rfl, hc⟩ := HPI.out.2.2 (by omega)
      have HCC := Lib.hid hc
      obtain ⟨si, x3i, x4i, x5i, x6i, x7i, xai, xni, xci, d0i, _, d2i, _⟩ := hc i hin
      obtain ⟨xi, hxi⟩ : ∃ x, it i = x := ⟨_, rfl⟩
      obtain ⟨yi, hyi⟩ : ∃ y, fm i = y := ⟨_, rfl⟩
      rw [hxi] at d0i
      rw [hyi] at d2i
      have HXI := Lib.hid hxi
      have HYI := Lib.hid hyi
      clear hc hxi hyi
      have hix0 : (0 : Int) ≤ (i : Int) := by omega
      have hix1 : (i : Int) < (n : Int) := by omega
      go_wp2_with fail
      go_loopw [3, 5] (fun out j wr => ∃ (q : Nat) (Q2 : List (Int × Int)), q ≤ i ∧ j = .int .i64 q ∧ Q ++ rowF it fm i q = Q2 ∧ Op2 w.heap.size 47 wr out Q2 ∧ Below w.heap.size w wr) (fun _ j _ => i - (intOf j).toNat)
      case atStart => exact ⟨0, Q, Nat.zero_le _, rfl, by simp [rowF], HOP0.out, HB0.out⟩
      case round =>
        obtain ⟨k, QQ, hk, rfl, hQQ, hop, hbel⟩ := hrel
        have hql : QQ.length ≤ N2 := by rw [← hQQ, List.length_append]; have h1 := rowF_len it fm i k; have h2 := famR_len it fm n i hi; rw [HQ.out] at h2; have h3 : (i + 1) * n ≤ n * n := Nat.mul_le_mul_right _ hin; rw [HN2.out, Nat.add_mul] at h3; omega
        have HQQ := Lib.hid hQQ
        have HB := Lib.hid hbel
        have hsr := hbel.size
        obtain ⟨qa, qc, rfl, _⟩ := hop.pr
        have HOP := Lib.hid hop
        clear hQQ hop
        by_cases hki : k < i
        · have hkn : k < n := by omega
          have hc := HCC.out
          obtain ⟨sk, x3k, x4k, x5k, x6k, x7k, xak, xnk, xck, d0k, _, d2k, _⟩ := hc k hkn
          obtain ⟨xk, hxk⟩ : ∃ x, it k = x := ⟨_, rfl⟩
          obtain ⟨yk, hyk⟩ : ∃ y, fm k = y := ⟨_, rfl⟩
          rw [hxk] at d0k
          rw [hyk] at d2k
          have gi0 := cell_mono d0i hbel
          have gi2 := cell_mono d2i hbel
          have gk0 := cell_mono d0k hbel
          have gk2 := cell_mono d2k hbel
          have HST := Lib.hid (rowF_succ it fm i k)
          rw [HXI.out, HYI.out, hxk, hyk] at HST
          clear hc hxk hyk d0k d2k hbel
          have hkx0 : (0 : Int) ≤ (k : Int) := by omega
          have hkx1 : (k : Int) < (n : Int) := by omega
          by_cases hp : 0 < yi
          · have hpd : decide (0 < yi) = true := by simp [hp]
            by_cases he : yi = yk
            · obtain rfl := he
              have hee : (yi == yi) = true := by simp
              go_wp2_with fail
              go_big_region_o
              go_wp2_with fail
              refine region_name fun W1 hW => ?_
              have HBw := Lib.hid (show Below wr.heap.size wr W1 by rw [← hW]; first | exact (Below.refl _ _) | exact below_drewN (Below.refl _ _) _ | exact (Below.refl _ _).drew)
              clear hW
              replace gi0 := cell_mono gi0 HBw.out
              replace gk0 := cell_mono gk0 HBw.out
              have HOP1 := Lib.hid (HOP.out.below HBw.out)
              have HB1 := Lib.hid (HB.out.trans (HBw.out.mono hsr))
              have hs1 := HB1.out.size
              clear HOP HB HBw
              refine region_inv2 (by kernel_rfl) (FaJ w.heap.size w QQ (.slice qa QQ.length qc) b off i k n cap xk xi (W1)) ?_ ?_ ?_ ?_
              · exact ⟨u37, u38, u39, u40, u41, u42, u43, u44, u45, u46, u47, u48, u49, u50, .inl ⟨by simp only [Act.put, List.setIfInBounds_toArray, List.set_cons_zero, List.set_cons_succ], rfl, rfl, CloX.none _, Since.drawn _, (fun h => by cases h), (fun h => by cases h), (fun h => by cases h), (fun h => by cases h), (fun h => by cases h), (fun h => by cases h), (fun h => by cases h), (fun h => by cases h), (fun h => by cases h), (fun h => by cases h), (fun h => by cases h), (fun h => by cases h), (fun h => by cases h)⟩⟩
              · exact acyc_spec (by kernel_rfl)
              · intro Ls a0 wq i o ho hLi hafter hJ
                have hio : i < 15 := (Array.getElem?_eq_some_iff.1 ho).1
                obtain ⟨u37, u38, u39, u40, u41, u42, u43, u44, u45, u46, u47, u48, u49, u50, hJ | hJ | hJ⟩ := hJ
                · obtain ⟨rfl, hA1, hZ1, hcl, hS, p0, p1, p2, p3, p4, p5, p6, p7, p8, p9, p10, p11, p12⟩ := hJ
                  have HCL := Lib.hid hcl
                  clear hcl
                  obtain rfl | rfl | rfl | rfl | rfl | rfl | rfl | rfl | rfl | rfl | rfl | rfl | rfl | rfl | rfl : i = 0 ∨ i = 1 ∨ i = 2 ∨ i = 3 ∨ i = 4 ∨ i = 5 ∨ i = 6 ∨ i = 7 ∨ i = 8 ∨ i = 9 ∨ i = 10 ∨ i = 11 ∨ i = 12 ∨ i = 13 ∨ i = 14 := by omega
                  · simp only [List.getElem?_toArray, List.getElem?_cons_zero, Option.some.injEq] at ho
                    subst ho
                    have P0 := Lib.hid p0; have P1 := Lib.hid p1; have P2 := Lib.hid p2; have P3 := Lib.hid p3; have P4 := Lib.hid p4; have P5 := Lib.hid p5; have P6 := Lib.hid p6; have P7 := Lib.hid p7; have P8 := Lib.hid p8; have P9 := Lib.hid p9; have P10 := Lib.hid p10; have P11 := Lib.hid p11; have P12 := Lib.hid p12; have HS := Lib.hid hS; clear hS hLi hafter p0 p1 p2 p3 p4 p5 p6 p7 p8 p9 p10 p11 p12
                    simp only [Act.put, List.setIfInBounds_toArray, List.set_cons_zero, List.set_cons_succ]
                    go_wp2_with fail
                    exact ⟨(.slice qa QQ.length qc), u38, u39, u40, u41, u42, u43, u44, u45, u46, u47, u48, u49, u50, .inl ⟨by simp only [Act.put, List.setIfInBounds_toArray, List.set_cons_zero, List.set_cons_succ], by simpa using hA1, by simpa using hZ1, (by first | exact HCL.out.set 0 (by intro p hp e; simp only [FaJP, List.mem_cons, List.not_mem_nil, or_false] at hp; rcases hp with rfl | rfl | rfl | rfl | rfl | rfl | rfl | rfl | rfl | rfl | rfl <;> first | (exact absurd e (by decide)) | assumption) | exact HCL.out.set' 0 (by intro p hp e; simp only [FaJP, List.mem_cons, List.not_mem_nil, or_false] at hp; rcases hp with rfl | rfl | rfl | rfl | rfl | rfl | rfl | rfl | rfl | rfl | rfl <;> first | (exact absurd e (by decide)) | assumption)), HS.out, (fun _ => rfl), (fun h => by first | rfl | exact P1.out (by simpa using h)), (fun h => by first | rfl | exact P2.out (by simpa using h)), (fun h => by first | rfl | exact P3.out (by simpa using h)), (fun h => by first | rfl | exact P4.out (by simpa using h)), (fun h => by first | rfl | exact P5.out (by simpa using h)), (fun h => by first | rfl | exact P6.out (by simpa using h)), (fun h => by first | rfl | exact P7.out (by simpa using h)), (fun h => by first | rfl | exact P8.out (by simpa using h)), (fun h => by first | rfl | exact P9.out (by simpa using h)), (fun h => by first | rfl | exact P10.out (by simpa using h)), (fun h => by first | rfl | exact P11.out (by simpa using h)), (fun h => P12.out (by simpa using h))⟩⟩
                  · simp only [List.getElem?_toArray, List.getElem?_cons_zero, List.getElem?_cons_succ, Option.some.injEq] at ho
                    subst ho
                    have P0 := Lib.hid p0; have P1 := Lib.hid p1; have P2 := Lib.hid p2; have P3 := Lib.hid p3; have P4 := Lib.hid p4; have P5 := Lib.hid p5; have P6 := Lib.hid p6; have P7 := Lib.hid p7; have P8 := Lib.hid p8; have P9 := Lib.hid p9; have P10 := Lib.hid p10; have P11 := Lib.hid p11; have P12 := Lib.hid p12; have HS := Lib.hid hS; clear hS hLi hafter p0 p1 p2 p3 p4 p5 p6 p7 p8 p9 p10 p11 p12
                    simp only [Act.put, List.setIfInBounds_toArray, List.set_cons_zero, List.set_cons_succ]
                    go_wp2_with fail
                    exact ⟨u37, .slice (some ⟨b, off, none⟩) n cap, u39, u40, u41, u42, u43, u44, u45, u46, u47, u48, u49, u50, .inl ⟨by simp only [Act.put, List.setIfInBounds_toArray, List.set_cons_zero, List.set_cons_succ], by simpa using hA1, by simpa using hZ1, (by first | exact HCL.out.set 1 (by intro p hp e; simp only [FaJP, List.mem_cons, List.not_mem_nil, or_false] at hp; rcases hp with rfl | rfl | rfl | rfl | rfl | rfl | rfl | rfl | rfl | rfl | rfl <;> first | (exact absurd e (by decide)) | assumption) | exact HCL.out.set' 1 (by intro p hp e; simp only [FaJP, List.mem_cons, List.not_mem_nil, or_false] at hp; rcases hp with rfl | rfl | rfl | rfl | rfl | rfl | rfl | rfl | rfl | rfl | rfl <;> first | (exact absurd e (by decide)) | assumption)), HS.out, (fun h => by first | rfl | exact P0.out (by simpa using h)), (fun _ => rfl), (fun h => by first | rfl | exact P2.out (by simpa using h)), (fun h => by first | rfl | exact P3.out (by simpa using h)), (fun h => by first | rfl | exact P4.out (by simpa using h)), (fun h => by first | rfl | exact P5.out (by simpa using h)), (fun h => by first | rfl | exact P6.out (by simpa using h)), (fun h => by first | rfl | exact P7.out (by simpa using h)), (fun h => by first | rfl | exact P8.out (by simpa using h)), (fun h => by first | rfl | exact P9.out (by simpa using h)), (fun h => by first | rfl | exact P10.out (by simpa using h)), (fun h => by first | rfl | exact P11.out (by simpa using h)), (fun h => P12.out (by simpa using h))⟩⟩
                  · simp only [List.getElem?_toArray, List.getElem?_cons_zero, List.getElem?_cons_succ, Option.some.injEq] at ho
                    subst ho
                    have P0 := Lib.hid p0; have P1 := Lib.hid p1; have P2 := Lib.hid p2; have P3 := Lib.hid p3; have P4 := Lib.hid p4; have P5 := Lib.hid p5; have P6 := Lib.hid p6; have P7 := Lib.hid p7; have P8 := Lib.hid p8; have P9 := Lib.hid p9; have P10 := Lib.hid p10; have P11 := Lib.hid p11; have P12 := Lib.hid p12; have HS := Lib.hid hS; clear hS hLi hafter p0 p1 p2 p3 p4 p5 p6 p7 p8 p9 p10 p11 p12
                    simp only [Act.put, List.setIfInBounds_toArray, List.set_cons_zero, List.set_cons_succ]
                    go_wp2_with fail
                    exact ⟨u37, u38, .int .i64 (k : Nat), u40, u41, u42, u43, u44, u45, u46, u47, u48, u49, u50, .inl ⟨by simp only [Act.put, List.setIfInBounds_toArray, List.set_cons_zero, List.set_cons_succ], by simpa using hA1, by simpa using hZ1, (by first | exact HCL.out.set 2 (by intro p hp e; simp only [FaJP, List.mem_cons, List.not_mem_nil, or_false] at hp; rcases hp with rfl | rfl | rfl | rfl | rfl | rfl | rfl | rfl | rfl | rfl | rfl <;> first | (exact absurd e (by decide)) | assumption) | exact HCL.out.set' 2 (by intro p hp e; simp only [FaJP, List.mem_cons, List.not_mem_nil, or_false] at hp; rcases hp with rfl | rfl | rfl | rfl | rfl | rfl | rfl | rfl | rfl | rfl | rfl <;> first | (exact absurd e (by decide)) | assumption)), HS.out, (fun h => by first | rfl | exact P0.out (by simpa using h)), (fun h => by first | rfl | exact P1.out (by simpa using h)), (fun _ => rfl), (fun h => by first | rfl | exact P3.out (by simpa using h)), (fun h => by first | rfl | exact P4.out (by simpa using h)), (fun h => by first | rfl | exact P5.out (by simpa using h)), (fun h => by first | rfl | exact P6.out (by simpa using h)), (fun h => by first | rfl | exact P7.out (by simpa using h)), (fun h => by first | rfl | exact P8.out (by simpa using h)), (fun h => by first | rfl | exact P9.out (by simpa using h)), (fun h => by first | rfl | exact P10.out (by simpa using h)), (fun h => by first | rfl | exact P11.out (by simpa using h)), (fun h => P12.out (by simpa using h))⟩⟩
                  · simp only [List.getElem?_toArray, List.getElem?_cons_zero, List.getElem?_cons_succ, Option.some.injEq] at ho
                    subst ho
                    have q1 : Ls 1 = true := hafter ⟨1, .data⟩ (by simp) rfl
                    have q2 : Ls 2 = true := hafter ⟨2, .data⟩ (by simp) rfl
                    obtain rfl := p1 q1
                    obtain rfl := p2 q2
                    have P0 := Lib.hid p0; have P1 := Lib.hid p1; have P2 := Lib.hid p2; have P3 := Lib.hid p3; have P4 := Lib.hid p4; have P5 := Lib.hid p5; have P6 := Lib.hid p6; have P7 := Lib.hid p7; have P8 := Lib.hid p8; have P9 := Lib.hid p9; have P10 := Lib.hid p10; have P11 := Lib.hid p11; have P12 := Lib.hid p12; have HS := Lib.hid hS; clear hS hLi hafter p0 p1 p2 p3 p4 p5 p6 p7 p8 p9 p10 p11 p12
                    simp only [Act.put, List.setIfInBounds_toArray, List.set_cons_zero, List.set_cons_succ]
                    go_wp2_with fail
                    exact ⟨u37, .slice (some ⟨b, off, none⟩) n cap, .int .i64 (k : Nat), .pointer (some ⟨b, off + k * 9, none⟩), u41, u42, u43, u44, u45, u46, u47, u48, u49, u50, .inl ⟨by simp only [Act.put, List.setIfInBounds_toArray, List.set_cons_zero, List.set_cons_succ], by simpa using hA1, by simpa using hZ1, (by first | exact HCL.out.set 3 (by intro p hp e; simp only [FaJP, List.mem_cons, List.not_mem_nil, or_false] at hp; rcases hp with rfl | rfl | rfl | rfl | rfl | rfl | rfl | rfl | rfl | rfl | rfl <;> first | (exact absurd e (by decide)) | assumption) | exact HCL.out.set' 3 (by intro p hp e; simp only [FaJP, List.mem_cons, List.not_mem_nil, or_false] at hp; rcases hp with rfl | rfl | rfl | rfl | rfl | rfl | rfl | rfl | rfl | rfl | rfl <;> first | (exact absurd e (by decide)) | assumption)), HS.out, (fun h => by first | rfl | exact P0.out (by simpa using h)), (fun h => by first | rfl | exact P1.out (by simpa using h)), (fun h => by first | rfl | exact P2.out (by simpa using h)), (fun _ => rfl), (fun h => by first | rfl | exact P4.out (by simpa using h)), (fun h => by first | rfl | exact P5.out (by simpa using h)), (fun h => by first | rfl | exact P6.out (by simpa using h)), (fun h => by first | rfl | exact P7.out (by simpa using h)), (fun h => by first | rfl | exact P8.out (by simpa using h)), (fun h => by first | rfl | exact P9.out (by simpa using h)), (fun h => by first | rfl | exact P10.out (by simpa using h)), (fun h => by first | rfl | exact P11.out (by simpa using h)), (fun h => P12.out (by simpa using h))⟩⟩
                  · simp only [List.getElem?_toArray, List.getElem?_cons_zero, List.getElem?_cons_succ, Option.some.injEq] at ho
                    subst ho
                    have q3 : Ls 3 = true := hafter ⟨3, .data⟩ (by simp) rfl
                    obtain rfl := p3 q3
                    have P0 := Lib.hid p0; have P1 := Lib.hid p1; have P2 := Lib.hid p2; have P3 := Lib.hid p3; have P4 := Lib.hid p4; have P5 := Lib.hid p5; have P6 := Lib.hid p6; have P7 := Lib.hid p7; have P8 := Lib.hid p8; have P9 := Lib.hid p9; have P10 := Lib.hid p10; have P11 := Lib.hid p11; have P12 := Lib.hid p12; have HS := Lib.hid hS; clear hS hLi hafter p0 p1 p2 p3 p4 p5 p6 p7 p8 p9 p10 p11 p12
                    simp only [Act.put, List.setIfInBounds_toArray, List.set_cons_zero, List.set_cons_succ]
                    go_wp2_with fail
                    exact ⟨u37, u38, u39, .pointer (some ⟨b, off + k * 9, none⟩), .pointer (some ⟨b, off + k * 9, none⟩), u42, u43, u44, u45, u46, u47, u48, u49, u50, .inl ⟨by simp only [Act.put, List.setIfInBounds_toArray, List.set_cons_zero, List.set_cons_succ], by simpa using hA1, by simpa using hZ1, (by first | exact HCL.out.set 4 (by intro p hp e; simp only [FaJP, List.mem_cons, List.not_mem_nil, or_false] at hp; rcases hp with rfl | rfl | rfl | rfl | rfl | rfl | rfl | rfl | rfl | rfl | rfl <;> first | (exact absurd e (by decide)) | assumption) | exact HCL.out.set' 4 (by intro p hp e; simp only [FaJP, List.mem_cons, List.not_mem_nil, or_false] at hp; rcases hp with rfl | rfl | rfl | rfl | rfl | rfl | rfl | rfl | rfl | rfl | rfl <;> first | (exact absurd e (by decide)) | assumption)), HS.out, (fun h => by first | rfl | exact P0.out (by simpa using h)), (fun h => by first | rfl | exact P1.out (by simpa using h)), (fun h => by first | rfl | exact P2.out (by simpa using h)), (fun h => by first | rfl | exact P3.out (by simpa using h)), (fun _ => rfl), (fun h => by first | rfl | exact P5.out (by simpa using h)), (fun h => by first | rfl | exact P6.out (by simpa using h)), (fun h => by first | rfl | exact P7.out (by simpa using h)), (fun h => by first | rfl | exact P8.out (by simpa using h)), (fun h => by first | rfl | exact P9.out (by simpa using h)), (fun h => by first | rfl | exact P10.out (by simpa using h)), (fun h => by first | rfl | exact P11.out (by simpa using h)), (fun h => P12.out (by simpa using h))⟩⟩
                  · simp only [List.getElem?_toArray, List.getElem?_cons_zero, List.getElem?_cons_succ, Option.some.injEq] at ho
                    subst ho
                    have q4 : Ls 4 = true := hafter ⟨4, .data⟩ (by simp) rfl
                    obtain rfl := p4 q4
                    have c0 := cell_mono gk0 hS.1
                    have P0 := Lib.hid p0; have P1 := Lib.hid p1; have P2 := Lib.hid p2; have P3 := Lib.hid p3; have P4 := Lib.hid p4; have P5 := Lib.hid p5; have P6 := Lib.hid p6; have P7 := Lib.hid p7; have P8 := Lib.hid p8; have P9 := Lib.hid p9; have P10 := Lib.hid p10; have P11 := Lib.hid p11; have P12 := Lib.hid p12; have HS := Lib.hid hS; clear hS hLi hafter p0 p1 p2 p3 p4 p5 p6 p7 p8 p9 p10 p11 p12
                    simp only [Act.put, List.setIfInBounds_toArray, List.set_cons_zero, List.set_cons_succ]
                    go_wp2_with fail
                    exact ⟨u37, u38, u39, u40, .pointer (some ⟨b, off + k * 9, none⟩), .int .i64 xk, u43, u44, u45, u46, u47, u48, u49, u50, .inl ⟨by simp only [Act.put, List.setIfInBounds_toArray, List.set_cons_zero, List.set_cons_succ], by simpa using hA1, by simpa using hZ1, (by first | exact HCL.out.set 5 (by intro p hp e; simp only [FaJP, List.mem_cons, List.not_mem_nil, or_false] at hp; rcases hp with rfl | rfl | rfl | rfl | rfl | rfl | rfl | rfl | rfl | rfl | rfl <;> first | (exact absurd e (by decide)) | assumption) | exact HCL.out.set' 5 (by intro p hp e; simp only [FaJP, List.mem_cons, List.not_mem_nil, or_false] at hp; rcases hp with rfl | rfl | rfl | rfl | rfl | rfl | rfl | rfl | rfl | rfl | rfl <;> first | (exact absurd e (by decide)) | assumption)), HS.out, (fun h => by first | rfl | exact P0.out (by simpa using h)), (fun h => by first | rfl | exact P1.out (by simpa using h)), (fun h => by first | rfl | exact P2.out (by simpa using h)), (fun h => by first | rfl | exact P3.out (by simpa using h)), (fun h => by first | rfl | exact P4.out (by simpa using h)), (fun _ => rfl), (fun h => by first | rfl | exact P6.out (by simpa using h)), (fun h => by first | rfl | exact P7.out (by simpa using h)), (fun h => by first | rfl | exact P8.out (by simpa using h)), (fun h => by first | rfl | exact P9.out (by simpa using h)), (fun h => by first | rfl | exact P10.out (by simpa using h)), (fun h => by first | rfl | exact P11.out (by simpa using h)), (fun h => P12.out (by simpa using h))⟩⟩
                  · simp only [List.getElem?_toArray, List.getElem?_cons_zero, List.getElem?_cons_succ, Option.some.injEq] at ho
                    subst ho
                    have P0 := Lib.hid p0; have P1 := Lib.hid p1; have P2 := Lib.hid p2; have P3 := Lib.hid p3; have P4 := Lib.hid p4; have P5 := Lib.hid p5; have P6 := Lib.hid p6; have P7 := Lib.hid p7; have P8 := Lib.hid p8; have P9 := Lib.hid p9; have P10 := Lib.hid p10; have P11 := Lib.hid p11; have P12 := Lib.hid p12; have HS := Lib.hid hS; clear hS hLi hafter p0 p1 p2 p3 p4 p5 p6 p7 p8 p9 p10 p11 p12
                    simp only [Act.put, List.setIfInBounds_toArray, List.set_cons_zero, List.set_cons_succ]
                    go_wp2_with fail
                    exact ⟨u37, u38, u39, u40, u41, u42, .slice (some ⟨b, off, none⟩) n cap, u44, u45, u46, u47, u48, u49, u50, .inl ⟨by simp only [Act.put, List.setIfInBounds_toArray, List.set_cons_zero, List.set_cons_succ], by simpa using hA1, by simpa using hZ1, (by first | exact HCL.out.set 6 (by intro p hp e; simp only [FaJP, List.mem_cons, List.not_mem_nil, or_false] at hp; rcases hp with rfl | rfl | rfl | rfl | rfl | rfl | rfl | rfl | rfl | rfl | rfl <;> first | (exact absurd e (by decide)) | assumption) | exact HCL.out.set' 6 (by intro p hp e; simp only [FaJP, List.mem_cons, List.not_mem_nil, or_false] at hp; rcases hp with rfl | rfl | rfl | rfl | rfl | rfl | rfl | rfl | rfl | rfl | rfl <;> first | (exact absurd e (by decide)) | assumption)), HS.out, (fun h => by first | rfl | exact P0.out (by simpa using h)), (fun h => by first | rfl | exact P1.out (by simpa using h)), (fun h => by first | rfl | exact P2.out (by simpa using h)), (fun h => by first | rfl | exact P3.out (by simpa using h)), (fun h => by first | rfl | exact P4.out (by simpa using h)), (fun h => by first | rfl | exact P5.out (by simpa using h)), (fun _ => rfl), (fun h => by first | rfl | exact P7.out (by simpa using h)), (fun h => by first | rfl | exact P8.out (by simpa using h)), (fun h => by first | rfl | exact P9.out (by simpa using h)), (fun h => by first | rfl | exact P10.out (by simpa using h)), (fun h => by first | rfl | exact P11.out (by simpa using h)), (fun h => P12.out (by simpa using h))⟩⟩
                  · simp only [List.getElem?_toArray, List.getElem?_cons_zero, List.getElem?_cons_succ, Option.some.injEq] at ho
                    subst ho
                    have P0 := Lib.hid p0; have P1 := Lib.hid p1; have P2 := Lib.hid p2; have P3 := Lib.hid p3; have P4 := Lib.hid p4; have P5 := Lib.hid p5; have P6 := Lib.hid p6; have P7 := Lib.hid p7; have P8 := Lib.hid p8; have P9 := Lib.hid p9; have P10 := Lib.hid p10; have P11 := Lib.hid p11; have P12 := Lib.hid p12; have HS := Lib.hid hS; clear hS hLi hafter p0 p1 p2 p3 p4 p5 p6 p7 p8 p9 p10 p11 p12
                    simp only [Act.put, List.setIfInBounds_toArray, List.set_cons_zero, List.set_cons_succ]
                    go_wp2_with fail
                    exact ⟨u37, u38, u39, u40, u41, u42, u43, .int .i64 (i : Nat), u45, u46, u47, u48, u49, u50, .inl ⟨by simp only [Act.put, List.setIfInBounds_toArray, List.set_cons_zero, List.set_cons_succ], by simpa using hA1, by simpa using hZ1, (by first | exact HCL.out.set 7 (by intro p hp e; simp only [FaJP, List.mem_cons, List.not_mem_nil, or_false] at hp; rcases hp with rfl | rfl | rfl | rfl | rfl | rfl | rfl | rfl | rfl | rfl | rfl <;> first | (exact absurd e (by decide)) | assumption) | exact HCL.out.set' 7 (by intro p hp e; simp only [FaJP, List.mem_cons, List.not_mem_nil, or_false] at hp; rcases hp with rfl | rfl | rfl | rfl | rfl | rfl | rfl | rfl | rfl | rfl | rfl <;> first | (exact absurd e (by decide)) | assumption)), HS.out, (fun h => by first | rfl | exact P0.out (by simpa using h)), (fun h => by first | rfl | exact P1.out (by simpa using h)), (fun h => by first | rfl | exact P2.out (by simpa using h)), (fun h => by first | rfl | exact P3.out (by simpa using h)), (fun h => by first | rfl | exact P4.out (by simpa using h)), (fun h => by first | rfl | exact P5.out (by simpa using h)), (fun h => by first | rfl | exact P6.out (by simpa using h)), (fun _ => rfl), (fun h => by first | rfl | exact P8.out (by simpa using h)), (fun h => by first | rfl | exact P9.out (by simpa using h)), (fun h => by first | rfl | exact P10.out (by simpa using h)), (fun h => by first | rfl | exact P11.out (by simpa using h)), (fun h => P12.out (by simpa using h))⟩⟩
                  · simp only [List.getElem?_toArray, List.getElem?_cons_zero, List.getElem?_cons_succ, Option.some.injEq] at ho
                    subst ho
                    have q6 : Ls 6 = true := hafter ⟨6, .data⟩ (by simp) rfl
                    have q7 : Ls 7 = true := hafter ⟨7, .data⟩ (by simp) rfl
                    obtain rfl := p6 q6
                    obtain rfl := p7 q7
                    have P0 := Lib.hid p0; have P1 := Lib.hid p1; have P2 := Lib.hid p2; have P3 := Lib.hid p3; have P4 := Lib.hid p4; have P5 := Lib.hid p5; have P6 := Lib.hid p6; have P7 := Lib.hid p7; have P8 := Lib.hid p8; have P9 := Lib.hid p9; have P10 := Lib.hid p10; have P11 := Lib.hid p11; have P12 := Lib.hid p12; have HS := Lib.hid hS; clear hS hLi hafter p0 p1 p2 p3 p4 p5 p6 p7 p8 p9 p10 p11 p12
                    simp only [Act.put, List.setIfInBounds_toArray, List.set_cons_zero, List.set_cons_succ]
                    go_wp2_with fail
                    exact ⟨u37, u38, u39, u40, u41, u42, .slice (some ⟨b, off, none⟩) n cap, .int .i64 (i : Nat), .pointer (some ⟨b, off + i * 9, none⟩), u46, u47, u48, u49, u50, .inl ⟨by simp only [Act.put, List.setIfInBounds_toArray, List.set_cons_zero, List.set_cons_succ], by simpa using hA1, by simpa using hZ1, (by first | exact HCL.out.set 8 (by intro p hp e; simp only [FaJP, List.mem_cons, List.not_mem_nil, or_false] at hp; rcases hp with rfl | rfl | rfl | rfl | rfl | rfl | rfl | rfl | rfl | rfl | rfl <;> first | (exact absurd e (by decide)) | assumption) | exact HCL.out.set' 8 (by intro p hp e; simp only [FaJP, List.mem_cons, List.not_mem_nil, or_false] at hp; rcases hp with rfl | rfl | rfl | rfl | rfl | rfl | rfl | rfl | rfl | rfl | rfl <;> first | (exact absurd e (by decide)) | assumption)), HS.out, (fun h => by first | rfl | exact P0.out (by simpa using h)), (fun h => by first | rfl | exact P1.out (by simpa using h)), (fun h => by first | rfl | exact P2.out (by simpa using h)), (fun h => by first | rfl | exact P3.out (by simpa using h)), (fun h => by first | rfl | exact P4.out (by simpa using h)), (fun h => by first | rfl | exact P5.out (by simpa using h)), (fun h => by first | rfl | exact P6.out (by simpa using h)), (fun h => by first | rfl | exact P7.out (by simpa using h)), (fun _ => rfl), (fun h => by first | rfl | exact P9.out (by simpa using h)), (fun h => by first | rfl | exact P10.out (by simpa using h)), (fun h => by first | rfl | exact P11.out (by simpa using h)), (fun h => P12.out (by simpa using h))⟩⟩
                  · simp only [List.getElem?_toArray, List.getElem?_cons_zero, List.getElem?_cons_succ, Option.some.injEq] at ho
                    subst ho
                    have q8 : Ls 8 = true := hafter ⟨8, .data⟩ (by simp) rfl
                    obtain rfl := p8 q8
                    have P0 := Lib.hid p0; have P1 := Lib.hid p1; have P2 := Lib.hid p2; have P3 := Lib.hid p3; have P4 := Lib.hid p4; have P5 := Lib.hid p5; have P6 := Lib.hid p6; have P7 := Lib.hid p7; have P8 := Lib.hid p8; have P9 := Lib.hid p9; have P10 := Lib.hid p10; have P11 := Lib.hid p11; have P12 := Lib.hid p12; have HS := Lib.hid hS; clear hS hLi hafter p0 p1 p2 p3 p4 p5 p6 p7 p8 p9 p10 p11 p12
                    simp only [Act.put, List.setIfInBounds_toArray, List.set_cons_zero, List.set_cons_succ]
                    go_wp2_with fail
                    exact ⟨u37, u38, u39, u40, u41, u42, u43, u44, .pointer (some ⟨b, off + i * 9, none⟩), .pointer (some ⟨b, off + i * 9, none⟩), u47, u48, u49, u50, .inl ⟨by simp only [Act.put, List.setIfInBounds_toArray, List.set_cons_zero, List.set_cons_succ], by simpa using hA1, by simpa using hZ1, (by first | exact HCL.out.set 9 (by intro p hp e; simp only [FaJP, List.mem_cons, List.not_mem_nil, or_false] at hp; rcases hp with rfl | rfl | rfl | rfl | rfl | rfl | rfl | rfl | rfl | rfl | rfl <;> first | (exact absurd e (by decide)) | assumption) | exact HCL.out.set' 9 (by intro p hp e; simp only [FaJP, List.mem_cons, List.not_mem_nil, or_false] at hp; rcases hp with rfl | rfl | rfl | rfl | rfl | rfl | rfl | rfl | rfl | rfl | rfl <;> first | (exact absurd e (by decide)) | assumption)), HS.out, (fun h => by first | rfl | exact P0.out (by simpa using h)), (fun h => by first | rfl | exact P1.out (by simpa using h)), (fun h => by first | rfl | exact P2.out (by simpa using h)), (fun h => by first | rfl | exact P3.out (by simpa using h)), (fun h => by first | rfl | exact P4.out (by simpa using h)), (fun h => by first | rfl | exact P5.out (by simpa using h)), (fun h => by first | rfl | exact P6.out (by simpa using h)), (fun h => by first | rfl | exact P7.out (by simpa using h)), (fun h => by first | rfl | exact P8.out (by simpa using h)), (fun _ => rfl), (fun h => by first | rfl | exact P10.out (by simpa using h)), (fun h => by first | rfl | exact P11.out (by simpa using h)), (fun h => P12.out (by simpa using h))⟩⟩
                  · simp only [List.getElem?_toArray, List.getElem?_cons_zero, List.getElem?_cons_succ, Option.some.injEq] at ho
                    subst ho
                    have q9 : Ls 9 = true := hafter ⟨9, .data⟩ (by simp) rfl
                    obtain rfl := p9 q9
                    have c0 := cell_mono gi0 hS.1
                    have P0 := Lib.hid p0; have P1 := Lib.hid p1; have P2 := Lib.hid p2; have P3 := Lib.hid p3; have P4 := Lib.hid p4; have P5 := Lib.hid p5; have P6 := Lib.hid p6; have P7 := Lib.hid p7; have P8 := Lib.hid p8; have P9 := Lib.hid p9; have P10 := Lib.hid p10; have P11 := Lib.hid p11; have P12 := Lib.hid p12; have HS := Lib.hid hS; clear hS hLi hafter p0 p1 p2 p3 p4 p5 p6 p7 p8 p9 p10 p11 p12
                    simp only [Act.put, List.setIfInBounds_toArray, List.set_cons_zero, List.set_cons_succ]
                    go_wp2_with fail
                    exact ⟨u37, u38, u39, u40, u41, u42, u43, u44, u45, .pointer (some ⟨b, off + i * 9, none⟩), .int .i64 xi, u48, u49, u50, .inl ⟨by simp only [Act.put, List.setIfInBounds_toArray, List.set_cons_zero, List.set_cons_succ], by simpa using hA1, by simpa using hZ1, (by first | exact HCL.out.set 10 (by intro p hp e; simp only [FaJP, List.mem_cons, List.not_mem_nil, or_false] at hp; rcases hp with rfl | rfl | rfl | rfl | rfl | rfl | rfl | rfl | rfl | rfl | rfl <;> first | (exact absurd e (by decide)) | assumption) | exact HCL.out.set' 10 (by intro p hp e; simp only [FaJP, List.mem_cons, List.not_mem_nil, or_false] at hp; rcases hp with rfl | rfl | rfl | rfl | rfl | rfl | rfl | rfl | rfl | rfl | rfl <;> first | (exact absurd e (by decide)) | assumption)), HS.out, (fun h => by first | rfl | exact P0.out (by simpa using h)), (fun h => by first | rfl | exact P1.out (by simpa using h)), (fun h => by first | rfl | exact P2.out (by simpa using h)), (fun h => by first | rfl | exact P3.out (by simpa using h)), (fun h => by first | rfl | exact P4.out (by simpa using h)), (fun h => by first | rfl | exact P5.out (by simpa using h)), (fun h => by first | rfl | exact P6.out (by simpa using h)), (fun h => by first | rfl | exact P7.out (by simpa using h)), (fun h => by first | rfl | exact P8.out (by simpa using h)), (fun h => by first | rfl | exact P9.out (by simpa using h)), (fun _ => rfl), (fun h => by first | rfl | exact P11.out (by simpa using h)), (fun h => P12.out (by simpa using h))⟩⟩
                  · simp only [List.getElem?_toArray, List.getElem?_cons_zero, List.getElem?_cons_succ, Option.some.injEq] at ho
                    subst ho
                    have q5 : Ls 5 = true := hafter ⟨5, .data⟩ (by simp) rfl
                    have q10 : Ls 10 = true := hafter ⟨10, .data⟩ (by simp) rfl
                    obtain rfl := p5 q5
                    obtain rfl := p10 q10
                    have P0 := Lib.hid p0; have P1 := Lib.hid p1; have P2 := Lib.hid p2; have P3 := Lib.hid p3; have P4 := Lib.hid p4; have P5 := Lib.hid p5; have P6 := Lib.hid p6; have P7 := Lib.hid p7; have P8 := Lib.hid p8; have P9 := Lib.hid p9; have P10 := Lib.hid p10; have P11 := Lib.hid p11; have P12 := Lib.hid p12; have HS := Lib.hid hS; clear hS hLi hafter p0 p1 p2 p3 p4 p5 p6 p7 p8 p9 p10 p11 p12
                    simp only [Act.put, List.setIfInBounds_toArray, List.set_cons_zero, List.set_cons_succ]
                    go_wp2_with fail
                    exact ⟨u37, u38, u39, u40, u41, .int .i64 xk, u43, u44, u45, u46, .int .i64 xi, .agg #[.int .i64 xk, .int .i64 xi], u49, u50, .inl ⟨by simp only [Act.put, List.setIfInBounds_toArray, List.set_cons_zero, List.set_cons_succ], by simpa using hA1, by simpa using hZ1, (by first | exact HCL.out.set 11 (by intro p hp e; simp only [FaJP, List.mem_cons, List.not_mem_nil, or_false] at hp; rcases hp with rfl | rfl | rfl | rfl | rfl | rfl | rfl | rfl | rfl | rfl | rfl <;> first | (exact absurd e (by decide)) | assumption) | exact HCL.out.set' 11 (by intro p hp e; simp only [FaJP, List.mem_cons, List.not_mem_nil, or_false] at hp; rcases hp with rfl | rfl | rfl | rfl | rfl | rfl | rfl | rfl | rfl | rfl | rfl <;> first | (exact absurd e (by decide)) | assumption)), HS.out, (fun h => by first | rfl | exact P0.out (by simpa using h)), (fun h => by first | rfl | exact P1.out (by simpa using h)), (fun h => by first | rfl | exact P2.out (by simpa using h)), (fun h => by first | rfl | exact P3.out (by simpa using h)), (fun h => by first | rfl | exact P4.out (by simpa using h)), (fun h => by first | rfl | exact P5.out (by simpa using h)), (fun h => by first | rfl | exact P6.out (by simpa using h)), (fun h => by first | rfl | exact P7.out (by simpa using h)), (fun h => by first | rfl | exact P8.out (by simpa using h)), (fun h => by first | rfl | exact P9.out (by simpa using h)), (fun h => by first | rfl | exact P10.out (by simpa using h)), (fun _ => rfl), (fun h => P12.out (by simpa using h))⟩⟩
                  · simp only [List.getElem?_toArray, List.getElem?_cons_zero, List.getElem?_cons_succ, Option.some.injEq] at ho
                    subst ho
                    have q11 : Ls 11 = true := hafter ⟨11, .data⟩ (by simp) rfl
                    obtain rfl := p11 q11
                    have P0 := Lib.hid p0; have P1 := Lib.hid p1; have P2 := Lib.hid p2; have P3 := Lib.hid p3; have P4 := Lib.hid p4; have P5 := Lib.hid p5; have P6 := Lib.hid p6; have P7 := Lib.hid p7; have P8 := Lib.hid p8; have P9 := Lib.hid p9; have P10 := Lib.hid p10; have P11 := Lib.hid p11; have P12 := Lib.hid p12; have HS := Lib.hid hS; clear hS hLi hafter p0 p1 p2 p3 p4 p5 p6 p7 p8 p9 p10 p11 p12
                    simp only [Act.put, List.setIfInBounds_toArray, List.set_cons_zero, List.set_cons_succ]
                    go_wp2_with fail
                    exact ⟨u37, u38, u39, u40, u41, u42, u43, u44, u45, u46, u47, .agg #[.int .i64 xk, .int .i64 xi], _, u50, .inl ⟨by simp only [Act.put, List.setIfInBounds_toArray, List.set_cons_zero, List.set_cons_succ], by simpa using hA1, by simpa using hZ1, (by first | exact HCL.out.set 12 (by intro p hp e; simp only [FaJP, List.mem_cons, List.not_mem_nil, or_false] at hp; rcases hp with rfl | rfl | rfl | rfl | rfl | rfl | rfl | rfl | rfl | rfl | rfl <;> first | (exact absurd e (by decide)) | assumption) | exact HCL.out.set' 12 (by intro p hp e; simp only [FaJP, List.mem_cons, List.not_mem_nil, or_false] at hp; rcases hp with rfl | rfl | rfl | rfl | rfl | rfl | rfl | rfl | rfl | rfl | rfl <;> first | (exact absurd e (by decide)) | assumption)), HS.out.alloc1 _, (fun h => by first | rfl | exact P0.out (by simpa using h)), (fun h => by first | rfl | exact P1.out (by simpa using h)), (fun h => by first | rfl | exact P2.out (by simpa using h)), (fun h => by first | rfl | exact P3.out (by simpa using h)), (fun h => by first | rfl | exact P4.out (by simpa using h)), (fun h => by first | rfl | exact P5.out (by simpa using h)), (fun h => by first | rfl | exact P6.out (by simpa using h)), (fun h => by first | rfl | exact P7.out (by simpa using h)), (fun h => by first | rfl | exact P8.out (by simpa using h)), (fun h => by first | rfl | exact P9.out (by simpa using h)), (fun h => by first | rfl | exact P10.out (by simpa using h)), (fun h => by first | rfl | exact P11.out (by simpa using h)), (fun _ => NewP.mk _ _ _ _)⟩⟩
                  · simp only [List.getElem?_toArray, List.getElem?_cons_zero, List.getElem?_cons_succ, Option.some.injEq] at ho
                    subst ho
                    have q0 : Ls 0 = true := hafter ⟨0, .data⟩ (by simp) rfl
                    have q12 : Ls 12 = true := hafter ⟨12, .data⟩ (by simp) rfl
                    obtain rfl := p0 q0
                    obtain ⟨g9, c9, rfl, hc9⟩ := p12 q12
                    have hall : ∀ j, j < 13 → Ls j = true := by
                      intro j hj
                      have q11' := HCL.out (12, 11) (by simp [FaJP]) q12
                      replace q11' : Ls 11 = true := q11'
                      have q5' := HCL.out (11, 5) (by simp [FaJP]) q11'
                      replace q5' : Ls 5 = true := q5'
                      have q10' := HCL.out (11, 10) (by simp [FaJP]) q11'
                      replace q10' : Ls 10 = true := q10'
                      have q4' := HCL.out (5, 4) (by simp [FaJP]) q5'
                      replace q4' : Ls 4 = true := q4'
                      have q9' := HCL.out (10, 9) (by simp [FaJP]) q10'
                      replace q9' : Ls 9 = true := q9'
                      have q3' := HCL.out (4, 3) (by simp [FaJP]) q4'
                      replace q3' : Ls 3 = true := q3'
                      have q8' := HCL.out (9, 8) (by simp [FaJP]) q9'
                      replace q8' : Ls 8 = true := q8'
                      have q1' := HCL.out (3, 1) (by simp [FaJP]) q3'
                      replace q1' : Ls 1 = true := q1'
                      have q2' := HCL.out (3, 2) (by simp [FaJP]) q3'
                      replace q2' : Ls 2 = true := q2'
                      have q6' := HCL.out (8, 6) (by simp [FaJP]) q8'
                      replace q6' : Ls 6 = true := q6'
                      have q7' := HCL.out (8, 7) (by simp [FaJP]) q8'
                      replace q7' : Ls 7 = true := q7'
                      obtain rfl | rfl | rfl | rfl | rfl | rfl | rfl | rfl | rfl | rfl | rfl | rfl | rfl : j = 0 ∨ j = 1 ∨ j = 2 ∨ j = 3 ∨ j = 4 ∨ j = 5 ∨ j = 6 ∨ j = 7 ∨ j = 8 ∨ j = 9 ∨ j = 10 ∨ j = 11 ∨ j = 12 := by omega
                      all_goals assumption
                    have HALL := Lib.hid hall
                    have HS := Lib.hid hS
                    clear hall hS hLi hafter p0 p1 p2 p3 p4 p5 p6 p7 p8 p9 p10 p11 p12
                    have hsW := HS.out.2
                    simp only [Act.put, List.setIfInBounds_toArray, List.set_cons_zero, List.set_cons_succ]
                    go_wp2_with (at_builtin; refine wpList_append_own_at _ rfl (.tmp 37) (.tmp 49) 22 rfl w.heap.size 47 i1 (.agg #[.int .i64 0, .int .i64 0]) 2 16 pairUnder hi1 hy0 hy1 hy2 rfl (by decide) _ QQ.length (QQ.flatMap enc2) rfl (HOP1.out.below HS.out.1) ⟨g9, 0, none⟩ 1 c9 [.int .i64 xk, .int .i64 xi] rfl rfl (cell_twoN hc9.1 hc9.2) (by intro u hu; rcases List.mem_cons.1 hu with rfl | hu; (· rfl); (· rcases List.mem_cons.1 hu with rfl | hu; (· rfl); (· cases hu))) (by unfold maxLen; omega) (by omega) (by omega) ?_; intro v9 w9 hm9 hg9 _ hat9; have HA9 := Lib.hid (And.intro (Op2.push hm9) ((HB1.out.trans (HS.out.1.mono (by omega))).grown hg9 (by omega) (fun j hj => (HOP1.out.lt j hj).1))); clear hm9 hg9 hat9)
                    exact ⟨(.slice qa QQ.length qc), u38, u39, u40, u41, u42, u43, u44, u45, u46, u47, u48, .slice (some ⟨g9, 0, none⟩) 1 c9, v9, .inr (.inl ⟨by simp only [Act.put, List.setIfInBounds_toArray, List.set_cons_zero, List.set_cons_succ], by simp, by simpa using hZ1, (fun j hj => by have := HALL.out j hj; simp [this]), HA9.out⟩)⟩
                  · exfalso
                    simp only [List.getElem?_toArray, List.getElem?_cons_zero, List.getElem?_cons_succ, Option.some.injEq] at ho
                    subst ho
                    have q : Ls 13 = true := hafter ⟨13, .data⟩ (by simp) rfl
                    rw [hA1] at q; cases q
                · obtain ⟨rfl, hA1, hZ1, hall, hP⟩ := hJ
                  have HP := Lib.hid hP
                  have HALL := Lib.hid hall
                  clear hP hall
                  rcases Nat.lt_or_ge i 13 with h | h
                  · exfalso; rw [HALL.out i h] at hLi; cases hLi
                  · rcases Nat.lt_or_ge i 14 with h2 | h2
                    · obtain rfl : i = 13 := by omega
                      exfalso; rw [hA1] at hLi; cases hLi
                    · obtain rfl : i = 14 := by omega
                      simp only [List.getElem?_toArray, List.getElem?_cons_zero, List.getElem?_cons_succ, Option.some.injEq] at ho
                      subst ho
                      clear hLi hafter
                      simp only [Act.put, List.setIfInBounds_toArray, List.set_cons_zero, List.set_cons_succ]
                      go_wp2_with fail
                      exact ⟨u37, u38, u39, u40, u41, u42, u43, u44, u45, u46, u47, u48, u49, u50, .inr (.inr ⟨u50, by simp only [Act.put, List.setIfInBounds_toArray, List.set_cons_zero, List.set_cons_succ], by simp, (fun j hj => by by_cases e : j = 13; (· subst e; simp [hA1]); (· have := HALL.out j (by omega); simp [this])), HP.out⟩)⟩
                · obtain ⟨v, rfl, hZ1, hall, _⟩ := hJ
                  exfalso
                  rcases Nat.lt_or_ge i 14 with h | h
                  · rw [hall i h] at hLi; cases hLi
                  · obtain rfl : i = 14 := by omega
                    rw [hZ1] at hLi; cases hLi
              · intro Ls a0 wq hall hJ
                obtain ⟨u37, u38, u39, u40, u41, u42, u43, u44, u45, u46, u47, u48, u49, u50, hJ | hJ | hJ⟩ := hJ
                · have h11 := hJ.2.2.1
                  rw [hall 14 (by decide)] at h11; cases h11
                · have h11 := hJ.2.2.1
                  rw [hall 14 (by decide)] at h11; cases h11
                · obtain ⟨v, rfl, _, _, hP⟩ := hJ
                  have HP := Lib.hid hP
                  clear hP hall
                  have HP1 := Lib.hid HP.out.1
                  have HP2 := Lib.hid HP.out.2
                  clear HP
                  simp only [Act.put, List.setIfInBounds_toArray, List.set_cons_zero, List.set_cons_succ]
                  go_wp2_with fail
                  go_roundw
                  case rel => exact ⟨k + 1, _, by omega, by go_num, by rw [HST.out, if_pos (by simp [hp]), ← List.append_assoc, HQQ.out], HP1.out, HP2.out⟩
                  case measure => simp [intOf]; omega
            · have hee : (yi == yk) = false := by simpa using he
              have HNE := Lib.hid he
              clear he
              go_wp2_with fail
              go_big_region_o
              go_wp2_with fail
              go_roundw
              case rel => exact ⟨k + 1, QQ, by omega, by go_num, by rw [HST.out, if_neg (fun h => HNE.out (by simpa using h.2))]; exact HQQ.out, by first | exact HOP.out.below (bel_drewN _ _) | exact HOP.out, by first | exact below_drewN HB.out _ | exact HB.out.drew | exact HB.out⟩
              case measure => simp [intOf]; omega
          · have hpd : decide (0 < yi) = false := by simp [hp]
            have HNP := Lib.hid hp
            clear hp
            go_wp2_with fail
            go_big_region_o
            go_wp2_with fail
            go_roundw
            case rel => exact ⟨k + 1, QQ, by omega, by go_num, by rw [HST.out, if_neg (fun h => by have := HNP.out; have := h.1; omega)]; exact HQQ.out, by first | exact HOP.out.below (bel_drewN _ _) | exact HOP.out, by first | exact below_drewN HB.out _ | exact HB.out.drew | exact HB.out⟩
            case measure => simp [intOf]; omega
        · obtain rfl : k = i := by omega
          go_wp2_with fail
          go_roundw
          case rel => exact ⟨k + 1, QQ, by omega, by go_num, by rw [famR_succ, HQ.out]; exact HQQ.out, HOP.out, HB.out⟩
          case measure => simp [intOf]; omega
    · obtain rfl : i = n := by omega
      have hql : Q.length ≤ N2 := by rw [← HQ.out, ← HN2.out]; exact famR_len it fm i i (Nat.le_refl _)
      obtain ⟨qa, qc, rfl, hp⟩ := HOP0.out.pr
      have HP := Lib.hid hp
      clear hp
      go_wp2_with fail
      refine (xnorm_any _ _ _ Q _ HP.out (by omega)).mono ?_
      rintro e w2 ⟨v, rfl, ho, hb⟩
      obtain ⟨B2, hB2, ho2⟩ := ho
      have HO := Lib.hid ho2
      have HBF := Lib.hid (HB0.out.trans (hb.mono hs0))
      clear hb ho2
      go_wp2_with fail
      go_ret
      exact ⟨_, rfl, ⟨B2, by omega, by rw [HQ.out]; exact HO.out⟩, HBF.out⟩

set_option maxRecDepth 20000 in
set_option maxHeartbeats 4000000 in
theorem conflicts_walk (a : Option Addr) (n cap : Nat) (L : List (Int × Int)) (ia : Option Addr) (m ic : Nat) (ids : List Int) (qa : Option Addr) (r qc : Nat) (it fm : Nat → Int) (w : World) (h : Pr w a n cap L) (hL64 : ∀ p ∈ L, W64 p.1 ∧ W64 p.2) (hz : Zl w ia m ic ids) (h64 : ∀ y ∈ ids, W64 y) (hq : Pi w qa r qc it fm) (hq64 : ∀ j, j < r → W64 (it j) ∧ W64 (fm j)) (hn : n ≤ 549755813888) (hm : m ≤ 549755813888) (hr : r ≤ 1048576) :
    Calls Try.prog 5 #[.slice a n cap, .slice ia m ic, .slice qa r qc] w fun e w' => e = .returned (.bool true) ∧ Below w.heap.size w w' := by
  have HPL := Lib.hid h
  have HZ := Lib.hid hz
  have HQ := Lib.hid hq
  have HL64 := Lib.hid hL64
  have H64 := Lib.hid h64
  have HQ64 := Lib.hid hq64
  clear h hz hq hL64 h64 hq64
  have HB := Lib.hid (Below.refl w.heap.size w)
  go_enter Try.func5, Try.ntmps5
  go_wp2_with fail
  refine (conflicts_any _ _ _ L _ _ _ ids _ HPL.out HL64.out HZ.out H64.out (by omega) (by omega)).mono ?_
  rintro e w1 ⟨v1, rfl, ho, hb⟩
  obtain ⟨a1, c1, rfl, hp⟩ := ho.pr
  clear ho
  have H1 := Lib.hid hp
  replace HPL := Lib.hid (HPL.out.below hb)
  replace HZ := Lib.hid (HZ.out.below hb)
  replace HQ := Lib.hid (HQ.out.below hb)
  replace HB := Lib.hid (HB.out.trans (hb.mono HB.out.size))
  clear hb hp
  go_wp2_with fail
  refine (xconflicts_any _ _ _ L _ _ _ ids _ HPL.out HZ.out (by omega)).mono ?_
  rintro e w2 ⟨v2, rfl, ho, hb⟩
  obtain ⟨a2, c2, rfl, hp⟩ := ho.pr
  clear ho
  have H2 := Lib.hid hp
  replace HPL := Lib.hid (HPL.out.below hb)
  replace HZ := Lib.hid (HZ.out.below hb)
  replace HQ := Lib.hid (HQ.out.below hb)
  replace H1 := Lib.hid (H1.out.below hb)
  replace HB := Lib.hid (HB.out.trans (hb.mono HB.out.size))
  clear hb hp
  go_wp2_with fail
  refine (same_any _ _ _ _ _ (cfl (normR L) ids) _ H1.out H2.out).mono ?_
  rintro e w3 ⟨rfl, hb⟩
  replace HPL := Lib.hid (HPL.out.below hb)
  replace HZ := Lib.hid (HZ.out.below hb)
  replace HQ := Lib.hid (HQ.out.below hb)
  replace H1 := Lib.hid (H1.out.below hb)
  replace H2 := Lib.hid (H2.out.below hb)
  replace HB := Lib.hid (HB.out.trans (hb.mono HB.out.size))
  clear hb
  go_wp2_with fail
  refine (families_any _ _ _ it fm _ HQ.out HQ64.out hr).mono ?_
  rintro e w4 ⟨v4, rfl, ho, hb⟩
  obtain ⟨a4, c4, rfl, hp⟩ := ho.pr
  clear ho
  have H4 := Lib.hid hp
  replace HPL := Lib.hid (HPL.out.below hb)
  replace HZ := Lib.hid (HZ.out.below hb)
  replace HQ := Lib.hid (HQ.out.below hb)
  replace H1 := Lib.hid (H1.out.below hb)
  replace H2 := Lib.hid (H2.out.below hb)
  replace HB := Lib.hid (HB.out.trans (hb.mono HB.out.size))
  clear hb hp
  go_wp2_with fail
  refine (xfamilies_any _ _ _ it fm _ HQ.out hr).mono ?_
  rintro e w5 ⟨v5, rfl, ho, hb⟩
  obtain ⟨a5, c5, rfl, hp⟩ := ho.pr
  clear ho
  have H5 := Lib.hid hp
  replace HPL := Lib.hid (HPL.out.below hb)
  replace HZ := Lib.hid (HZ.out.below hb)
  replace HQ := Lib.hid (HQ.out.below hb)
  replace H1 := Lib.hid (H1.out.below hb)
  replace H2 := Lib.hid (H2.out.below hb)
  replace H4 := Lib.hid (H4.out.below hb)
  replace HB := Lib.hid (HB.out.trans (hb.mono HB.out.size))
  clear hb hp
  go_wp2_with fail
  refine (same_any _ _ _ _ _ (normR (famR it fm r)) _ H4.out H5.out).mono ?_
  rintro e w6 ⟨rfl, hb⟩
  replace HPL := Lib.hid (HPL.out.below hb)
  replace HZ := Lib.hid (HZ.out.below hb)
  replace HQ := Lib.hid (HQ.out.below hb)
  replace H1 := Lib.hid (H1.out.below hb)
  replace H2 := Lib.hid (H2.out.below hb)
  replace H4 := Lib.hid (H4.out.below hb)
  replace H5 := Lib.hid (H5.out.below hb)
  replace HB := Lib.hid (HB.out.trans (hb.mono HB.out.size))
  clear hb
  go_wp2_with fail
  refine (awake_any _).mono ?_
  rintro e w7 ⟨rfl, hb⟩
  replace HPL := Lib.hid (HPL.out.below hb)
  replace HZ := Lib.hid (HZ.out.below hb)
  replace HQ := Lib.hid (HQ.out.below hb)
  replace H1 := Lib.hid (H1.out.below hb)
  replace H2 := Lib.hid (H2.out.below hb)
  replace H4 := Lib.hid (H4.out.below hb)
  replace H5 := Lib.hid (H5.out.below hb)
  replace HB := Lib.hid (HB.out.trans (hb.mono HB.out.size))
  clear hb
  go_wp2_with fail
  go_ret
  exact ⟨rfl, HB.out⟩

end Go.Proofs.Ytonnbcongnkcdaa
