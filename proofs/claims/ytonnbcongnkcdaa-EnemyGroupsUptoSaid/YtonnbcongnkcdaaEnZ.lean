/- The statement's examples of the chapter. No condition. -/
import Derived.Test.YtonnbcongnkcdaaEnY
namespace Go.Proofs.Ytonnbcongnkcdaa
open Go.RowKit

theorem lit_cell {w : World} {xs : List Value} {T : TypeId} {j : Nat} (h : j < xs.length) : (w.alloc (.cells xs.toArray T)).cell? ⟨w.heap.size, j, none⟩ = some xs[j] := by
  simp only [World.cell?, heap_alloc_new]
  simp [h]
theorem zl_lit (w : World) (T : TypeId) (zs : List Int) (hl : zs.length ≤ maxLen) {g : Nat} (hg : g = w.heap.size) : Zl (w.alloc (.cells (zs.map (Value.int .i64)).toArray T)) (some ⟨g, 0, none⟩) zs.length zs.length zs := by
  subst hg
  exact ⟨rfl, Nat.le_refl _, hl, fun _ => ⟨_, 0, rfl, fun j hj => by
    rw [Nat.zero_add, lit_cell (by simpa using hj), getD_lt1 hj]; simp⟩⟩
theorem flat_at {L : List (Int × Int)} {j : Nat} (h : j < L.length) (h1 : j * 2 < (L.flatMap enc2).length) (h2 : j * 2 + 1 < (L.flatMap enc2).length) : (L.flatMap enc2)[j * 2] = .int .i64 (L.getD j (0, 0)).1 ∧ (L.flatMap enc2)[j * 2 + 1] = .int .i64 (L.getD j (0, 0)).2 := by
  have f0 := flat_get L (j * 2) (by omega)
  have f1 := flat_get L (j * 2 + 1) (by omega)
  rw [show j * 2 / 2 = j by omega, show j * 2 % 2 = 0 by omega, getElem!_pos (L.flatMap enc2) (j * 2) h1] at f0
  rw [show (j * 2 + 1) / 2 = j by omega, show (j * 2 + 1) % 2 = 1 by omega, getElem!_pos (L.flatMap enc2) (j * 2 + 1) h2] at f1
  rw [f0, f1, getD_lt h, getElem!_pos L j h]
  simp [enc2]
theorem pr_lit (w : World) (T : TypeId) (L : List (Int × Int)) (hl : L.length ≤ maxLen) : Pr (w.alloc (.cells (L.flatMap enc2).toArray T)) (some ⟨w.heap.size, 0, none⟩) L.length L.length L :=
  ⟨rfl, Nat.le_refl _, hl, fun _ => ⟨_, 0, rfl, fun j hj => by
    have hf := flat_len L
    obtain ⟨e0, e1⟩ := flat_at hj (by omega) (by omega)
    rw [Nat.zero_add, lit_cell (by omega), lit_cell (by omega), e0, e1]
    exact ⟨rfl, rfl⟩⟩⟩
theorem gl_lit (w : World) (T : TypeId) (G : List (List Int)) (vs : List (Option Addr × Nat)) (_hv : vs.length = G.length) (hl : G.length ≤ maxLen) (h : ∀ i, i < G.length → Zl w (vs.getD i (none, 0)).1 (G.getD i []).length (vs.getD i (none, 0)).2 (G.getD i [])) :
    Gl (w.alloc (.cells ((List.range G.length).map fun i => Value.slice (vs.getD i (none, 0)).1 (G.getD i []).length (vs.getD i (none, 0)).2).toArray T)) (some ⟨w.heap.size, 0, none⟩) G.length G.length G :=
  ⟨rfl, Nat.le_refl _, hl, fun _ => ⟨_, 0, rfl, fun i hi => ⟨_, _, by rw [Nat.zero_add, lit_cell (by simpa using hi)]; simp, (h i hi).below (Below.alloc (Below.refl _ _) (Nat.le_refl _) _)⟩⟩⟩
/-- the groups of the example -/
theorem groups_ex : IsGroups (distR [4, 3, 2, 1, 7]) (Rch (cfl (normR [(1, 2), (2, 3), (4, 9)]) [4, 3, 2, 1, 7])) [[1, 2, 3], [4], [7]] := by
  have eE : cfl (normR [(1, 2), (2, 3), (4, 9)]) [4, 3, 2, 1, 7] = [(1, 2), (2, 3)] := by decide
  have eD : distR [4, 3, 2, 1, 7] = [1, 2, 3, 4, 7] := by decide
  rw [eE, eD]
  have h12 : Rch [(1, 2), (2, 3)] 1 2 := .step (.refl _) (.inl (by simp))
  have h13 : Rch [(1, 2), (2, 3)] 1 3 := .step h12 (.inl (by simp))
  have c1 : ∀ x y, (x = 1 ∨ x = 2 ∨ x = 3) → Rch [(1, 2), (2, 3)] x y → (y = 1 ∨ y = 2 ∨ y = 3) := fun x y hx h => Rch.closed (S := fun z => z = 1 ∨ z = 2 ∨ z = 3) (fun a b ha hb => by simp at hb; omega) hx h
  have c4 : ∀ y, Rch [(1, 2), (2, 3)] 4 y → y = 4 := fun y h => Rch.closed (S := fun z => z = 4) (fun a b ha hb => by simp at hb; omega) rfl h
  have c7 : ∀ y, Rch [(1, 2), (2, 3)] 7 y → y = 7 := fun y h => Rch.closed (S := fun z => z = 7) (fun a b ha hb => by simp at hb; omega) rfl h
  have a1 : ∀ x, (x = 1 ∨ x = 2 ∨ x = 3) → Rch [(1, 2), (2, 3)] 1 x := fun x hx => by
    rcases hx with rfl | rfl | rfl
    · exact .refl _
    · exact h12
    · exact h13
  refine ⟨fun g hg => ?_, fun g hg x hx y => ?_, by simp, fun x hx => ?_⟩
  · simp only [List.mem_cons, List.not_mem_nil, or_false] at hg
    rcases hg with rfl | rfl | rfl <;> decide
  · simp only [List.mem_cons, List.not_mem_nil, or_false] at hg
    rcases hg with rfl | rfl | rfl <;> simp only [List.mem_cons, List.not_mem_nil, or_false] at hx ⊢
    · exact ⟨fun hy => ⟨by omega, (a1 x hx).symm.trans (a1 y hy)⟩, fun ⟨_, hr⟩ => c1 x y hx hr⟩
    · subst hx
      exact ⟨fun hy => by subst hy; exact ⟨by omega, .refl _⟩, fun ⟨_, hr⟩ => c4 y hr⟩
    · subst hx
      exact ⟨fun hy => by subst hy; exact ⟨by omega, .refl _⟩, fun ⟨_, hr⟩ => c7 y hr⟩
  · simp only [List.mem_cons, List.not_mem_nil, or_false] at hx
    rcases hx with rfl | rfl | rfl | rfl | rfl
    · exact ⟨[1, 2, 3], by simp, by simp⟩
    · exact ⟨[1, 2, 3], by simp, by simp⟩
    · exact ⟨[1, 2, 3], by simp, by simp⟩
    · exact ⟨[4], by simp, by simp⟩
    · exact ⟨[7], by simp, by simp⟩
theorem w64_num {x : Int} (h1 : 0 ≤ x) (h2 : x ≤ 9) : W64 x := by unfold W64; omega
theorem w64_p2 : ∀ p ∈ ([(1, 2), (2, 3), (4, 9)] : List (Int × Int)), W64 p.1 ∧ W64 p.2 := fun p hp => by
  simp only [List.mem_cons, List.not_mem_nil, or_false] at hp
  rcases hp with rfl | rfl | rfl <;> exact ⟨w64_num (by decide) (by decide), w64_num (by decide) (by decide)⟩
theorem w64_i5 : ∀ y ∈ ([4, 3, 2, 1, 7] : List Int), W64 y := fun p hp => by
  simp only [List.mem_cons, List.not_mem_nil, or_false] at hp
  rcases hp with rfl | rfl | rfl | rfl | rfl <;> exact w64_num (by decide) (by decide)
theorem w64_i3 : ∀ y ∈ ([3, 2, 4] : List Int), W64 y := fun p hp => by
  simp only [List.mem_cons, List.not_mem_nil, or_false] at hp
  rcases hp with rfl | rfl | rfl <;> exact w64_num (by decide) (by decide)
def itX (k : Nat) : Int := if k = 0 then 8 else if k = 1 then 6 else if k = 2 then 5 else 7
def fmX (k : Nat) : Int := if k = 0 then 2 else if k = 2 then 2 else 0
theorem x64 : ∀ j, j < 4 → W64 (itX j) ∧ W64 (fmX j) := fun j hj => by
  obtain rfl | rfl | rfl | rfl : j = 0 ∨ j = 1 ∨ j = 2 ∨ j = 3 := by omega
  all_goals exact ⟨w64_num (by decide) (by decide), w64_num (by decide) (by decide)⟩
theorem pi_lit (w : World) (T : TypeId) : Pi (w.alloc (.cells #[.int .i64 8, .string ByteArray.empty, .int .i64 2, .int .i64 0, .int .i64 0, .int .i64 0, .int .i64 0, .int .i64 0, .slice none 0 0, .int .i64 6, .string ByteArray.empty, .int .i64 0, .int .i64 0, .int .i64 0, .int .i64 0, .int .i64 0, .int .i64 0, .slice none 0 0, .int .i64 5, .string ByteArray.empty, .int .i64 2, .int .i64 0, .int .i64 0, .int .i64 0, .int .i64 0, .int .i64 0, .slice none 0 0, .int .i64 7, .string ByteArray.empty, .int .i64 0, .int .i64 0, .int .i64 0, .int .i64 0, .int .i64 0, .int .i64 0, .slice none 0 0] T)) (some ⟨w.heap.size, 0, none⟩) 4 4 itX fmX :=
  ⟨Nat.le_refl _, by unfold maxLen; omega, fun _ => ⟨_, 0, rfl, fun k hk => by
    obtain rfl | rfl | rfl | rfl : k = 0 ∨ k = 1 ∨ k = 2 ∨ k = 3 := by omega
    all_goals exact ⟨ByteArray.empty, 0, 0, 0, 0, 0, none, 0, 0, by simp only [World.cell?, heap_alloc_new]; rfl, by simp only [World.cell?, heap_alloc_new]; rfl, by simp only [World.cell?, heap_alloc_new]; rfl, by simp only [World.cell?, heap_alloc_new]; rfl, by simp only [World.cell?, heap_alloc_new]; rfl, by simp only [World.cell?, heap_alloc_new]; rfl, by simp only [World.cell?, heap_alloc_new]; rfl, by simp only [World.cell?, heap_alloc_new]; rfl, by simp only [World.cell?, heap_alloc_new]; rfl⟩⟩⟩
theorem gl_ex (w : World) (T S : TypeId) : Gl ((((w.alloc (.cells #[.int .i64 1, .int .i64 2, .int .i64 3] T)).alloc (.cells #[.int .i64 4] T)).alloc (.cells #[.int .i64 7] T)).alloc (.cells #[.slice (some ⟨w.heap.size, 0, none⟩) 3 3, .slice (some ⟨w.heap.size + 1, 0, none⟩) 1 1, .slice (some ⟨w.heap.size + 2, 0, none⟩) 1 1] S)) (some ⟨w.heap.size + 3, 0, none⟩) 3 3 [[1, 2, 3], [4], [7]] := by
  have z1 := ((zl_lit w T [1, 2, 3] (by unfold maxLen; simp) rfl).below (Below.alloc (Below.refl _ _) (Nat.le_refl _) (.cells #[.int .i64 4] T))).below (Below.alloc (Below.refl _ _) (Nat.le_refl _) (.cells #[.int .i64 7] T))
  have z2 := (zl_lit (w.alloc (.cells #[.int .i64 1, .int .i64 2, .int .i64 3] T)) T [4] (by unfold maxLen; simp) rfl).below (Below.alloc (Below.refl _ _) (Nat.le_refl _) (.cells #[.int .i64 7] T))
  have z3 := zl_lit ((w.alloc (.cells #[.int .i64 1, .int .i64 2, .int .i64 3] T)).alloc (.cells #[.int .i64 4] T)) T [7] (by unfold maxLen; simp) rfl
  have h := gl_lit (((w.alloc (.cells #[.int .i64 1, .int .i64 2, .int .i64 3] T)).alloc (.cells #[.int .i64 4] T)).alloc (.cells #[.int .i64 7] T)) S [[1, 2, 3], [4], [7]] [(some ⟨w.heap.size, 0, none⟩, 3), (some ⟨w.heap.size + 1, 0, none⟩, 1), (some ⟨w.heap.size + 2, 0, none⟩, 1)] rfl (by unfold maxLen; simp) (fun i hi => by
    obtain rfl | rfl | rfl : i = 0 ∨ i = 1 ∨ i = 2 := by simp at hi; omega
    · exact z1
    · have e : (w.alloc (.cells #[.int .i64 1, .int .i64 2, .int .i64 3] T)).heap.size = w.heap.size + 1 := by simp
      rw [e] at z2; exact z2
    · have e : ((w.alloc (.cells #[.int .i64 1, .int .i64 2, .int .i64 3] T)).alloc (.cells #[.int .i64 4] T)).heap.size = w.heap.size + 2 := by simp
      rw [e] at z3; exact z3)
  have e : (((w.alloc (.cells #[.int .i64 1, .int .i64 2, .int .i64 3] T)).alloc (.cells #[.int .i64 4] T)).alloc (.cells #[.int .i64 7] T)).heap.size = w.heap.size + 3 := by simp
  rw [e] at h
  exact h
set_option maxRecDepth 20000 in
set_option maxHeartbeats 8000000 in
theorem awake_any (w : World) : Calls Try.prog 13 #[] w fun e w' => e = .returned (.bool true) ∧ Below w.heap.size w w' := by
  have HB := Lib.hid (Below.refl w.heap.size w)
  have hmm := @run_makeMap Try.prog
  go_enter Try.func13, Try.ntmps13
  go_wp2_with fail
  refine calls_name fun W1 hW => ?_
  have HBx := Lib.hid (show Below w.heap.size w W1 by rw [← hW]; (repeat' (first | with_reducible exact Below.refl _ _ | (with_reducible refine Below.alloc ?_ ?_ _; rotate_left; (focus (first | omega | (simp; done) | (simp; omega)))) | with_reducible apply Below.drew | (with_reducible refine Below.setCell ?_ ?_ _; rotate_left; (focus (first | omega | (simp; done) | (simp; omega)))))))
  have HL0 := Lib.hid (show Pr W1 (some ⟨w.heap.size, 0, none⟩) 4 4 [(3, 2), (1, 1), (2, 3), (1, 2)] by rw [← hW]; exact pr_lit _ _ [(3, 2), (1, 1), (2, 3), (1, 2)] (by unfold maxLen; simp))
  have hs_W1 : w.heap.size ≤ W1.heap.size := HBx.out.size
  replace HB := Lib.hid (HB.out.trans (HBx.out.mono HB.out.size))
  clear hW HBx
  refine (norm_any _ _ _ [(3, 2), (1, 1), (2, 3), (1, 2)] _ HL0.out (by decide)).mono ?_
  rintro e w1 ⟨v1, rfl, ho, hb⟩
  rw [show normR [(3, 2), (1, 1), (2, 3), (1, 2)] = [(1, 2), (2, 3)] by decide] at ho
  obtain ⟨a1, c1, rfl, hp⟩ := ho.pr
  have HN0 := Lib.hid hp
  clear hp ho
  replace HL0 := Lib.hid (HL0.out.below hb)
  replace HB := Lib.hid (HB.out.trans (hb.mono HB.out.size))
  clear hb
  go_wp2_with fail
  refine calls_name fun W2 hW => ?_
  have HBx := Lib.hid (show Below w1.heap.size w1 W2 by rw [← hW]; (repeat' (first | with_reducible exact Below.refl _ _ | (with_reducible refine Below.alloc ?_ ?_ _; rotate_left; (focus (first | omega | (simp; done) | (simp; omega)))) | with_reducible apply Below.drew | (with_reducible refine Below.setCell ?_ ?_ _; rotate_left; (focus (first | omega | (simp; done) | (simp; omega)))))))
  replace HL0 := Lib.hid (HL0.out.below HBx.out)
  replace HN0 := Lib.hid (HN0.out.below HBx.out)
  have HT := Lib.hid (show Pr W2 (some ⟨w1.heap.size, 0, none⟩) 2 2 [(1, 2), (2, 3)] by rw [← hW]; exact pr_lit _ _ [(1, 2), (2, 3)] (by unfold maxLen; simp))
  have hs_W2 : w1.heap.size ≤ W2.heap.size := HBx.out.size
  replace HB := Lib.hid (HB.out.trans (HBx.out.mono HB.out.size))
  clear hW HBx
  refine (same_any _ _ 2 _ _ [(1, 2), (2, 3)] _ HN0.out HT.out).mono ?_
  rintro e w2 ⟨rfl, hb⟩
  replace HL0 := Lib.hid (HL0.out.below hb)
  replace HN0 := Lib.hid (HN0.out.below hb)
  replace HT := Lib.hid (HT.out.below hb)
  replace HB := Lib.hid (HB.out.trans (hb.mono HB.out.size))
  clear hb
  clear HN0 HT
  go_wp2_with fail
  refine calls_name fun W3 hW => ?_
  have HBx := Lib.hid (show Below w2.heap.size w2 W3 by rw [← hW]; (repeat' (first | with_reducible exact Below.refl _ _ | (with_reducible refine Below.alloc ?_ ?_ _; rotate_left; (focus (first | omega | (simp; done) | (simp; omega)))) | with_reducible apply Below.drew | (with_reducible refine Below.setCell ?_ ?_ _; rotate_left; (focus (first | omega | (simp; done) | (simp; omega)))))))
  replace HL0 := Lib.hid (HL0.out.below HBx.out)
  have hs_W3 : w2.heap.size ≤ W3.heap.size := HBx.out.size
  replace HB := Lib.hid (HB.out.trans (HBx.out.mono HB.out.size))
  clear hW HBx
  refine (are_any _ _ _ [(3, 2), (1, 1), (2, 3), (1, 2)] 2 1 _ HL0.out true (by decide)).mono ?_
  rintro e w3 ⟨rfl, hb⟩
  replace HL0 := Lib.hid (HL0.out.below hb)
  replace HB := Lib.hid (HB.out.trans (hb.mono HB.out.size))
  clear hb
  go_wp2_with fail
  refine calls_name fun W4 hW => ?_
  have HBx := Lib.hid (show Below w3.heap.size w3 W4 by rw [← hW]; (repeat' (first | with_reducible exact Below.refl _ _ | (with_reducible refine Below.alloc ?_ ?_ _; rotate_left; (focus (first | omega | (simp; done) | (simp; omega)))) | with_reducible apply Below.drew | (with_reducible refine Below.setCell ?_ ?_ _; rotate_left; (focus (first | omega | (simp; done) | (simp; omega)))))))
  replace HL0 := Lib.hid (HL0.out.below HBx.out)
  have hs_W4 : w3.heap.size ≤ W4.heap.size := HBx.out.size
  replace HB := Lib.hid (HB.out.trans (HBx.out.mono HB.out.size))
  clear hW HBx
  refine (are_any _ _ _ [(3, 2), (1, 1), (2, 3), (1, 2)] 1 1 _ HL0.out false (by decide)).mono ?_
  rintro e w4 ⟨rfl, hb⟩
  replace HL0 := Lib.hid (HL0.out.below hb)
  replace HB := Lib.hid (HB.out.trans (hb.mono HB.out.size))
  clear hb
  go_wp2_with fail
  refine calls_name fun W5 hW => ?_
  have HBx := Lib.hid (show Below w4.heap.size w4 W5 by rw [← hW]; (repeat' (first | with_reducible exact Below.refl _ _ | (with_reducible refine Below.alloc ?_ ?_ _; rotate_left; (focus (first | omega | (simp; done) | (simp; omega)))) | with_reducible apply Below.drew | (with_reducible refine Below.setCell ?_ ?_ _; rotate_left; (focus (first | omega | (simp; done) | (simp; omega)))))))
  replace HL0 := Lib.hid (HL0.out.below HBx.out)
  have hs_W5 : w4.heap.size ≤ W5.heap.size := HBx.out.size
  replace HB := Lib.hid (HB.out.trans (HBx.out.mono HB.out.size))
  clear hW HBx
  refine (are_any _ _ _ [(3, 2), (1, 1), (2, 3), (1, 2)] 1 3 _ HL0.out false (by decide)).mono ?_
  rintro e w5 ⟨rfl, hb⟩
  replace HL0 := Lib.hid (HL0.out.below hb)
  replace HB := Lib.hid (HB.out.trans (hb.mono HB.out.size))
  clear hb
  clear HL0
  go_wp2_with fail
  refine calls_name fun W6 hW => ?_
  have HBx := Lib.hid (show Below w5.heap.size w5 W6 by rw [← hW]; (repeat' (first | with_reducible exact Below.refl _ _ | (with_reducible refine Below.alloc ?_ ?_ _; rotate_left; (focus (first | omega | (simp; done) | (simp; omega)))) | with_reducible apply Below.drew | (with_reducible refine Below.setCell ?_ ?_ _; rotate_left; (focus (first | omega | (simp; done) | (simp; omega)))))))
  have HP1 := Lib.hid (show Pr W6 (some ⟨w5.heap.size, 0, none⟩) 1 1 [(1, 2)] by rw [← hW]; exact pr_lit _ _ [(1, 2)] (by unfold maxLen; simp))
  have hs_W6 : w5.heap.size ≤ W6.heap.size := HBx.out.size
  replace HB := Lib.hid (HB.out.trans (HBx.out.mono HB.out.size))
  clear hW HBx
  refine (add_any _ _ _ [(1, 2)] 7 3 _ HP1.out (by decide)).mono ?_
  rintro e w6 ⟨cx, vx, hc, rfl, hyes, hno, hb⟩
  obtain rfl : 0 = cx := by rw [← hc]; decide
  clear hc
  have ho := hyes rfl
  rw [show addR [(1, 2)] 7 3 = [(1, 2), (3, 7)] by decide] at ho
  clear hyes hno
  obtain ⟨am, cm, rfl, hp⟩ := ho.pr
  have Hm := Lib.hid hp
  clear hp ho
  replace HP1 := Lib.hid (HP1.out.below hb)
  replace HB := Lib.hid (HB.out.trans (hb.mono HB.out.size))
  clear hb
  clear HP1
  go_wp2_with fail
  refine calls_name fun W7 hW => ?_
  have HBx := Lib.hid (show Below w6.heap.size w6 W7 by rw [← hW]; (repeat' (first | with_reducible exact Below.refl _ _ | (with_reducible refine Below.alloc ?_ ?_ _; rotate_left; (focus (first | omega | (simp; done) | (simp; omega)))) | with_reducible apply Below.drew | (with_reducible refine Below.setCell ?_ ?_ _; rotate_left; (focus (first | omega | (simp; done) | (simp; omega)))))))
  replace Hm := Lib.hid (Hm.out.below HBx.out)
  have HT := Lib.hid (show Pr W7 (some ⟨w6.heap.size, 0, none⟩) 2 2 [(1, 2), (3, 7)] by rw [← hW]; exact pr_lit _ _ [(1, 2), (3, 7)] (by unfold maxLen; simp))
  have hs_W7 : w6.heap.size ≤ W7.heap.size := HBx.out.size
  replace HB := Lib.hid (HB.out.trans (HBx.out.mono HB.out.size))
  clear hW HBx
  refine (same_any _ _ 2 _ _ [(1, 2), (3, 7)] _ Hm.out HT.out).mono ?_
  rintro e w7 ⟨rfl, hb⟩
  replace Hm := Lib.hid (Hm.out.below hb)
  replace HT := Lib.hid (HT.out.below hb)
  replace HB := Lib.hid (HB.out.trans (hb.mono HB.out.size))
  clear hb
  clear HT
  go_wp2_with fail
  refine calls_name fun W8 hW => ?_
  have HBx := Lib.hid (show Below w7.heap.size w7 W8 by rw [← hW]; (repeat' (first | with_reducible exact Below.refl _ _ | (with_reducible refine Below.alloc ?_ ?_ _; rotate_left; (focus (first | omega | (simp; done) | (simp; omega)))) | with_reducible apply Below.drew | (with_reducible refine Below.setCell ?_ ?_ _; rotate_left; (focus (first | omega | (simp; done) | (simp; omega)))))))
  replace Hm := Lib.hid (Hm.out.below HBx.out)
  have hs_W8 : w7.heap.size ≤ W8.heap.size := HBx.out.size
  replace HB := Lib.hid (HB.out.trans (HBx.out.mono HB.out.size))
  clear hW HBx
  refine (add_any _ _ _ [(1, 2), (3, 7)] 3 7 _ Hm.out (by decide)).mono ?_
  rintro e w8 ⟨cx, vx, hc, rfl, hyes, hno, hb⟩
  obtain rfl : 7 = cx := by rw [← hc]; decide
  clear hc
  obtain rfl := hno (by decide)
  clear hyes
  replace Hm := Lib.hid (Hm.out.below hb)
  replace HB := Lib.hid (HB.out.trans (hb.mono HB.out.size))
  clear hb
  go_wp2_with fail
  refine calls_name fun W9 hW => ?_
  have HBx := Lib.hid (show Below w8.heap.size w8 W9 by rw [← hW]; (repeat' (first | with_reducible exact Below.refl _ _ | (with_reducible refine Below.alloc ?_ ?_ _; rotate_left; (focus (first | omega | (simp; done) | (simp; omega)))) | with_reducible apply Below.drew | (with_reducible refine Below.setCell ?_ ?_ _; rotate_left; (focus (first | omega | (simp; done) | (simp; omega)))))))
  replace Hm := Lib.hid (Hm.out.below HBx.out)
  have hs_W9 : w8.heap.size ≤ W9.heap.size := HBx.out.size
  replace HB := Lib.hid (HB.out.trans (HBx.out.mono HB.out.size))
  clear hW HBx
  refine (remove_any _ _ _ [(1, 2), (3, 7)] 7 3 _ Hm.out (by decide)).mono ?_
  rintro e w9 ⟨cx, vx, hc, rfl, hyes, hno, hb⟩
  obtain rfl : 0 = cx := by rw [← hc]; decide
  clear hc
  have ho := hyes rfl
  rw [show remF (normR [(1, 2), (3, 7)]) (ordP 7 3) = [(1, 2)] by decide] at ho
  clear hyes hno
  obtain ⟨an, cn, rfl, hp⟩ := ho.pr
  have Hn := Lib.hid hp
  clear hp ho
  replace Hm := Lib.hid (Hm.out.below hb)
  replace HB := Lib.hid (HB.out.trans (hb.mono HB.out.size))
  clear hb
  go_wp2_with fail
  refine calls_name fun W10 hW => ?_
  have HBx := Lib.hid (show Below w9.heap.size w9 W10 by rw [← hW]; (repeat' (first | with_reducible exact Below.refl _ _ | (with_reducible refine Below.alloc ?_ ?_ _; rotate_left; (focus (first | omega | (simp; done) | (simp; omega)))) | with_reducible apply Below.drew | (with_reducible refine Below.setCell ?_ ?_ _; rotate_left; (focus (first | omega | (simp; done) | (simp; omega)))))))
  replace Hm := Lib.hid (Hm.out.below HBx.out)
  replace Hn := Lib.hid (Hn.out.below HBx.out)
  have hs_W10 : w9.heap.size ≤ W10.heap.size := HBx.out.size
  replace HB := Lib.hid (HB.out.trans (HBx.out.mono HB.out.size))
  clear hW HBx
  refine (add_any _ _ _ [(1, 2), (3, 7)] 4 4 _ Hm.out (by decide)).mono ?_
  rintro e w10 ⟨cx, vx, hc, rfl, hyes, hno, hb⟩
  obtain rfl : 1 = cx := by rw [← hc]; decide
  clear hc
  obtain rfl := hno (by decide)
  clear hyes
  replace Hm := Lib.hid (Hm.out.below hb)
  replace Hn := Lib.hid (Hn.out.below hb)
  replace HB := Lib.hid (HB.out.trans (hb.mono HB.out.size))
  clear hb
  go_wp2_with fail
  refine calls_name fun W11 hW => ?_
  have HBx := Lib.hid (show Below w10.heap.size w10 W11 by rw [← hW]; (repeat' (first | with_reducible exact Below.refl _ _ | (with_reducible refine Below.alloc ?_ ?_ _; rotate_left; (focus (first | omega | (simp; done) | (simp; omega)))) | with_reducible apply Below.drew | (with_reducible refine Below.setCell ?_ ?_ _; rotate_left; (focus (first | omega | (simp; done) | (simp; omega)))))))
  replace Hm := Lib.hid (Hm.out.below HBx.out)
  replace Hn := Lib.hid (Hn.out.below HBx.out)
  have hs_W11 : w10.heap.size ≤ W11.heap.size := HBx.out.size
  replace HB := Lib.hid (HB.out.trans (HBx.out.mono HB.out.size))
  clear hW HBx
  refine (remove_any _ _ _ [(1, 2), (3, 7)] 4 4 _ Hm.out (by decide)).mono ?_
  rintro e w11 ⟨cx, vx, hc, rfl, hyes, hno, hb⟩
  obtain rfl : 6 = cx := by rw [← hc]; decide
  clear hc
  obtain rfl := hno (by decide)
  clear hyes
  replace Hm := Lib.hid (Hm.out.below hb)
  replace Hn := Lib.hid (Hn.out.below hb)
  replace HB := Lib.hid (HB.out.trans (hb.mono HB.out.size))
  clear hb
  clear Hm
  go_wp2_with fail
  refine calls_name fun W12 hW => ?_
  have HBx := Lib.hid (show Below w11.heap.size w11 W12 by rw [← hW]; (repeat' (first | with_reducible exact Below.refl _ _ | (with_reducible refine Below.alloc ?_ ?_ _; rotate_left; (focus (first | omega | (simp; done) | (simp; omega)))) | with_reducible apply Below.drew | (with_reducible refine Below.setCell ?_ ?_ _; rotate_left; (focus (first | omega | (simp; done) | (simp; omega)))))))
  replace Hn := Lib.hid (Hn.out.below HBx.out)
  have HT := Lib.hid (show Pr W12 (some ⟨w11.heap.size, 0, none⟩) 1 1 [(1, 2)] by rw [← hW]; exact pr_lit _ _ [(1, 2)] (by unfold maxLen; simp))
  have hs_W12 : w11.heap.size ≤ W12.heap.size := HBx.out.size
  replace HB := Lib.hid (HB.out.trans (HBx.out.mono HB.out.size))
  clear hW HBx
  refine (same_any _ _ 1 _ _ [(1, 2)] _ Hn.out HT.out).mono ?_
  rintro e w12 ⟨rfl, hb⟩
  replace Hn := Lib.hid (Hn.out.below hb)
  replace HT := Lib.hid (HT.out.below hb)
  replace HB := Lib.hid (HB.out.trans (hb.mono HB.out.size))
  clear hb
  clear HT Hn
  go_wp2_with fail
  refine calls_name fun W13 hW => ?_
  have HBx := Lib.hid (show Below w12.heap.size w12 W13 by rw [← hW]; (repeat' (first | with_reducible exact Below.refl _ _ | (with_reducible refine Below.alloc ?_ ?_ _; rotate_left; (focus (first | omega | (simp; done) | (simp; omega)))) | with_reducible apply Below.drew | (with_reducible refine Below.setCell ?_ ?_ _; rotate_left; (focus (first | omega | (simp; done) | (simp; omega)))))))
  have HP := Lib.hid (show Pr W13 (some ⟨w12.heap.size, 0, none⟩) 3 3 [(1, 2), (2, 3), (4, 9)] by rw [← hW]; exact (pr_lit _ _ [(1, 2), (2, 3), (4, 9)] (by unfold maxLen; simp)).below (Below.alloc (Below.refl _ _) (Nat.le_refl _) _))
  have HI := Lib.hid (show Zl W13 (some ⟨w12.heap.size + 1, 0, none⟩) 5 5 [4, 3, 2, 1, 7] by rw [← hW]; exact zl_lit _ _ [4, 3, 2, 1, 7] (by unfold maxLen; simp) (by simp))
  have hs_W13 : w12.heap.size ≤ W13.heap.size := HBx.out.size
  replace HB := Lib.hid (HB.out.trans (HBx.out.mono HB.out.size))
  clear hW HBx
  refine (groups_any _ _ _ [(1, 2), (2, 3), (4, 9)] _ _ _ [4, 3, 2, 1, 7] _ HP.out w64_p2 HI.out w64_i5 (by decide) (by decide)).mono ?_
  rintro e w13 ⟨v13, G, rfl, hG, hgn, hb⟩
  obtain rfl := hG.unique groups_ex
  obtain ⟨a13, c13, rfl, hgl⟩ := hgn.gl
  have HG := Lib.hid hgl
  clear hG hgn hgl
  replace HP := Lib.hid (HP.out.below hb)
  replace HI := Lib.hid (HI.out.below hb)
  replace HB := Lib.hid (HB.out.trans (hb.mono HB.out.size))
  clear hb
  clear HI
  go_wp2_with fail
  refine calls_name fun W14 hW => ?_
  have HBx := Lib.hid (show Below w13.heap.size w13 W14 by rw [← hW]; (repeat' (first | with_reducible exact Below.refl _ _ | (with_reducible refine Below.alloc ?_ ?_ _; rotate_left; (focus (first | omega | (simp; done) | (simp; omega)))) | with_reducible apply Below.drew | (with_reducible refine Below.setCell ?_ ?_ _; rotate_left; (focus (first | omega | (simp; done) | (simp; omega)))))))
  replace HP := Lib.hid (HP.out.below HBx.out)
  replace HG := Lib.hid (HG.out.below HBx.out)
  have HE := Lib.hid (show Gl W14 (some ⟨w13.heap.size + 3, 0, none⟩) 3 3 [[1, 2, 3], [4], [7]] by rw [← hW]; exact gl_ex _ _ _)
  have hs_W14 : w13.heap.size ≤ W14.heap.size := HBx.out.size
  replace HB := Lib.hid (HB.out.trans (HBx.out.mono HB.out.size))
  clear hW HBx
  refine (sameg_any _ _ 3 _ _ [[1, 2, 3], [4], [7]] _ HG.out HE.out).mono ?_
  rintro e w14 ⟨rfl, hb⟩
  replace HP := Lib.hid (HP.out.below hb)
  replace HG := Lib.hid (HG.out.below hb)
  replace HE := Lib.hid (HE.out.below hb)
  replace HB := Lib.hid (HB.out.trans (hb.mono HB.out.size))
  clear hb
  clear HG HE
  go_wp2_with fail
  refine calls_name fun W15 hW => ?_
  have HBx := Lib.hid (show Below w14.heap.size w14 W15 by rw [← hW]; (repeat' (first | with_reducible exact Below.refl _ _ | (with_reducible refine Below.alloc ?_ ?_ _; rotate_left; (focus (first | omega | (simp; done) | (simp; omega)))) | with_reducible apply Below.drew | (with_reducible refine Below.setCell ?_ ?_ _; rotate_left; (focus (first | omega | (simp; done) | (simp; omega)))))))
  replace HP := Lib.hid (HP.out.below HBx.out)
  have HI := Lib.hid (show Zl W15 (some ⟨w14.heap.size, 0, none⟩) 3 3 [3, 2, 4] by rw [← hW]; exact zl_lit _ _ [3, 2, 4] (by unfold maxLen; simp) (by simp))
  have hs_W15 : w14.heap.size ≤ W15.heap.size := HBx.out.size
  replace HB := Lib.hid (HB.out.trans (HBx.out.mono HB.out.size))
  clear hW HBx
  refine (conflicts_any _ _ _ [(1, 2), (2, 3), (4, 9)] _ _ _ [3, 2, 4] _ HP.out w64_p2 HI.out w64_i3 (by decide) (by decide)).mono ?_
  rintro e w15 ⟨v15, rfl, ho, hb⟩
  rw [show cfl (normR [(1, 2), (2, 3), (4, 9)]) [3, 2, 4] = [(2, 3)] by decide] at ho
  obtain ⟨a15, c15, rfl, hp⟩ := ho.pr
  have HC := Lib.hid hp
  clear hp ho
  replace HP := Lib.hid (HP.out.below hb)
  replace HI := Lib.hid (HI.out.below hb)
  replace HB := Lib.hid (HB.out.trans (hb.mono HB.out.size))
  clear hb
  clear HI HP
  go_wp2_with fail
  refine calls_name fun W16 hW => ?_
  have HBx := Lib.hid (show Below w15.heap.size w15 W16 by rw [← hW]; (repeat' (first | with_reducible exact Below.refl _ _ | (with_reducible refine Below.alloc ?_ ?_ _; rotate_left; (focus (first | omega | (simp; done) | (simp; omega)))) | with_reducible apply Below.drew | (with_reducible refine Below.setCell ?_ ?_ _; rotate_left; (focus (first | omega | (simp; done) | (simp; omega)))))))
  replace HC := Lib.hid (HC.out.below HBx.out)
  have HT := Lib.hid (show Pr W16 (some ⟨w15.heap.size, 0, none⟩) 1 1 [(2, 3)] by rw [← hW]; exact pr_lit _ _ [(2, 3)] (by unfold maxLen; simp))
  have hs_W16 : w15.heap.size ≤ W16.heap.size := HBx.out.size
  replace HB := Lib.hid (HB.out.trans (HBx.out.mono HB.out.size))
  clear hW HBx
  refine (same_any _ _ 1 _ _ [(2, 3)] _ HC.out HT.out).mono ?_
  rintro e w16 ⟨rfl, hb⟩
  replace HC := Lib.hid (HC.out.below hb)
  replace HT := Lib.hid (HT.out.below hb)
  replace HB := Lib.hid (HB.out.trans (hb.mono HB.out.size))
  clear hb
  clear HC HT
  go_wp2_with fail
  refine calls_name fun W17 hW => ?_
  have HBx := Lib.hid (show Below w16.heap.size w16 W17 by rw [← hW]; (repeat' (first | with_reducible exact Below.refl _ _ | (with_reducible refine Below.alloc ?_ ?_ _; rotate_left; (focus (first | omega | (simp; done) | (simp; omega)))) | with_reducible apply Below.drew | (with_reducible refine Below.setCell ?_ ?_ _; rotate_left; (focus (first | omega | (simp; done) | (simp; omega)))))))
  have HQ := Lib.hid (show Pi W17 (some ⟨w16.heap.size, 0, none⟩) 4 4 itX fmX by rw [← hW]; exact pi_lit _ _)
  have hs_W17 : w16.heap.size ≤ W17.heap.size := HBx.out.size
  replace HB := Lib.hid (HB.out.trans (HBx.out.mono HB.out.size))
  clear hW HBx
  refine (families_any _ _ _ itX fmX _ HQ.out x64 (by decide)).mono ?_
  rintro e w17 ⟨v17, rfl, ho, hb⟩
  rw [show normR (famR itX fmX 4) = [(5, 8)] by decide] at ho
  obtain ⟨a17, c17, rfl, hp⟩ := ho.pr
  have HC := Lib.hid hp
  clear hp ho
  replace HQ := Lib.hid (HQ.out.below hb)
  replace HB := Lib.hid (HB.out.trans (hb.mono HB.out.size))
  clear hb
  clear HQ
  go_wp2_with fail
  refine calls_name fun W18 hW => ?_
  have HBx := Lib.hid (show Below w17.heap.size w17 W18 by rw [← hW]; (repeat' (first | with_reducible exact Below.refl _ _ | (with_reducible refine Below.alloc ?_ ?_ _; rotate_left; (focus (first | omega | (simp; done) | (simp; omega)))) | with_reducible apply Below.drew | (with_reducible refine Below.setCell ?_ ?_ _; rotate_left; (focus (first | omega | (simp; done) | (simp; omega)))))))
  replace HC := Lib.hid (HC.out.below HBx.out)
  have HT := Lib.hid (show Pr W18 (some ⟨w17.heap.size, 0, none⟩) 1 1 [(5, 8)] by rw [← hW]; exact pr_lit _ _ [(5, 8)] (by unfold maxLen; simp))
  have hs_W18 : w17.heap.size ≤ W18.heap.size := HBx.out.size
  replace HB := Lib.hid (HB.out.trans (HBx.out.mono HB.out.size))
  clear hW HBx
  refine (same_any _ _ 1 _ _ [(5, 8)] _ HC.out HT.out).mono ?_
  rintro e w18 ⟨rfl, hb⟩
  replace HC := Lib.hid (HC.out.below hb)
  replace HT := Lib.hid (HT.out.below hb)
  replace HB := Lib.hid (HB.out.trans (hb.mono HB.out.size))
  clear hb
  clear HC HT
  go_wp2_with fail
  go_ret
  exact ⟨rfl, HB.out⟩

end Go.Proofs.Ytonnbcongnkcdaa
