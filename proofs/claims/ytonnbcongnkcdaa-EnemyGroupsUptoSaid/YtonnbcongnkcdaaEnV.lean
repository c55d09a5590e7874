/- Lists of groups: a slice of the call's own whose elements are slices of numbers; the reference's SameGroups on equal lists. No condition. -/
import Derived.Test.YtonnbcongnkcdaaEnT
import Derived.Test.YtonnbcongnkcdaaEnU
import Derived.Test.YtonnbcongnkcdaaSlI
import Derived.Test.YtonnbcongnkcdaaMpH
namespace Go.Proofs.Ytonnbcongnkcdaa
open Go.RowKit

/-- the slice v is the call's own; its elements are slices of the call's own with the groups G, none in v's own row -/
def GrO (B : Nat) (w : World) (v : Value) (G : List (List Int)) : Prop :=
  ∃ xs : List Value, w.ownsRow B 31 1 v G.length xs ∧ ∀ i (h : i < G.length), ∃ u g, xs[i]? = some u ∧ u.ownBlock = some g ∧ v.ownBlock ≠ some g ∧ Ow B 3 w u G[i]
theorem GrO.nil (B : Nat) (w : World) : GrO B w (.slice none 0 0) [] := ⟨[], ⟨rfl, .inl ⟨rfl, rfl⟩⟩, fun _i h => absurd h (Nat.not_lt_zero _)⟩
theorem GrO.grown {B : Nat} {w w' : World} {v : Value} {G : List (List Int)} {row : Option Nat} (h : GrO B w v G) (hg : w.grownBy w' row) (hr : ∀ r, row = some r → r < B) : GrO B w' v G := by
  obtain ⟨xs, ho, hx⟩ := h
  have hne : ∀ u : Value, (∀ g, u.ownBlock = some g → B ≤ g) → u.ownBlock = none ∨ u.ownBlock ≠ row := fun u hu => by
    cases hc : u.ownBlock with
    | none => exact .inl rfl
    | some g => exact .inr fun e => by have := hr g e.symm; have := hu g hc; omega
  refine ⟨xs, ho.kept hg (hne v fun g hgv => (ho.lt g hgv).1), fun i hi => ?_⟩
  obtain ⟨u, g, h1, h2, h3, h4⟩ := hx i hi
  exact ⟨u, g, h1, h2, h3, h4.grown hg (hne u fun g' hg' => (h4.lt g' hg').1)⟩
theorem GrO.below {B : Nat} {w w' : World} {v : Value} {G : List (List Int)} (h : GrO B w v G) (hb : Below w.heap.size w w') : GrO B w' v G :=
  h.grown (row := none) ⟨hb.os, hb.tape, hb.output, hb.size, fun k hk _ => hb.block k hk⟩ (fun r hr => by cases hr)
theorem GrO.lt {B : Nat} {w : World} {v : Value} {G : List (List Int)} (h : GrO B w v G) : ∀ b, v.ownBlock = some b → B ≤ b ∧ b < w.heap.size := by obtain ⟨xs, ho, _⟩ := h; exact ho.lt
theorem GrO.push {B : Nat} {w w' : World} {v v' u : Value} {G : List (List Int)} {xs : List Value} {g : List Int} {gu : Nat} (hx : ∀ i (h : i < G.length), ∃ u g, xs[i]? = some u ∧ u.ownBlock = some g ∧ v.ownBlock ≠ some g ∧ Ow B 3 w u G[i]) (hl : xs.length = G.length)
    (ho : w'.ownsRow B 31 1 v' (G.length + 1) (xs ++ [u])) (hg : w.grownBy w' v.ownBlock) (hat : v'.ownBlock = v.ownBlock ∨ v'.ownBlock = some w.heap.size) (hu : Ow B 3 w u g) (hub : u.ownBlock = some gu) (hne : v.ownBlock ≠ some gu) : GrO B w' v' (G ++ [g]) := by
  have key : ∀ (u : Value) (l : List Int) (b : Nat), u.ownBlock = some b → v.ownBlock ≠ some b → Ow B 3 w u l → v'.ownBlock ≠ some b ∧ Ow B 3 w' u l := fun u l b hb hvb ho => by
    refine ⟨fun e => ?_, ho.grown hg (.inr fun e => hvb (by rw [← e]; exact hb))⟩
    rcases hat with h | h
    · exact hvb (h ▸ e)
    · rw [h] at e; cases e; have := (ho.lt _ hb).2; omega
  refine ⟨xs ++ [u], by rw [List.length_append]; exact ho, fun i hi => ?_⟩
  rw [List.length_append] at hi
  by_cases hiG : i < G.length
  · obtain ⟨y, b, h1, h2, h3, h4⟩ := hx i hiG
    obtain ⟨k1, k2⟩ := key y _ b h2 h3 h4
    exact ⟨y, b, by rw [List.getElem?_append_left (by omega)]; exact h1, h2, k1, by rw [List.getElem_append_left hiG]; exact k2⟩
  · obtain rfl : i = G.length := by simp at hi; omega
    obtain ⟨k1, k2⟩ := key u g gu hub hne hu
    exact ⟨u, gu, by rw [← hl]; simp, hub, k1, by rw [List.getElem_append_right (Nat.le_refl _)]; simpa using k2⟩
/-- the slice holds the n groups G -/
def Gl (w : World) (a : Option Addr) (n cap : Nat) (G : List (List Int)) : Prop :=
  G.length = n ∧ n ≤ cap ∧ cap ≤ maxLen ∧ (0 < n → ∃ b off, a = some ⟨b, off, none⟩ ∧ ∀ i, i < n → ∃ ai ci, w.cell? ⟨b, off + i, none⟩ = some (.slice ai (G.getD i []).length ci) ∧ Zl w ai (G.getD i []).length ci (G.getD i []))
theorem Gl.below {w w' : World} {a : Option Addr} {n cap : Nat} {G : List (List Int)} (h : Gl w a n cap G) (hb : Below w.heap.size w w') : Gl w' a n cap G := by
  obtain ⟨h0, h1, h2, h3⟩ := h
  refine ⟨h0, h1, h2, fun hn => ?_⟩
  obtain ⟨b, off, e, hc⟩ := h3 hn
  refine ⟨b, off, e, fun i hi => ?_⟩
  obtain ⟨ai, ci, c1, c2⟩ := hc i hi
  exact ⟨ai, ci, cell_mono c1 hb, c2.below hb⟩
theorem Ow.zl {B : Nat} {E : TypeId} {w : World} {v : Value} {zs : List Int} (h : Ow B E w v zs) : ∃ a cap, v = .slice a zs.length cap ∧ Zl w a zs.length cap zs := by
  rcases h.open with ⟨rfl, rfl⟩ | ⟨g, cap, rfl, hb, hg, hc, hm, hx⟩
  · exact ⟨none, 0, rfl, rfl, Nat.le_refl _, Nat.zero_le _, fun h => absurd h (Nat.lt_irrefl _)⟩
  · exact ⟨_, cap, rfl, rfl, hc, hm, fun _ => ⟨g, 0, rfl, fun j hj => by rw [Nat.zero_add]; exact (hx j hj).1⟩⟩
theorem GrO.gl {B : Nat} {w : World} {v : Value} {G : List (List Int)} (h : GrO B w v G) : ∃ a cap, v = .slice a G.length cap ∧ Gl w a G.length cap G := by
  obtain ⟨xs, ho, hx⟩ := h
  rcases ho.2 with ⟨rfl, h0⟩ | ⟨g, cap, cur, rfl, hb, hh, hn', hcap, hs, ht⟩
  · exact ⟨none, 0, by rw [h0], rfl, by omega, Nat.zero_le _, fun h => absurd h (by omega)⟩
  · have hH := own_holdsV ho
    refine ⟨_, cap, rfl, rfl, hn', hcap, fun _ => ⟨g, 0, rfl, fun i hi => ?_⟩⟩
    obtain ⟨u, b, h1, h2, h3, h4⟩ := hx i hi
    obtain ⟨a, c, rfl, hz⟩ := h4.zl
    have hxl : i < xs.length := by have := ho.1; omega
    have h5 := (hH i (by simpa using hxl)).1
    have e1 : G.getD i [] = G[i] := by simp [List.getD, hi]
    rw [e1]
    refine ⟨a, c, ?_, hz⟩
    rw [h5]
    simp only [List.getElem!_toArray, id]
    rw [List.getElem!_eq_getElem?_getD, h1]; rfl
/-- .. of blocks above N0 -/
def GrN (N0 : Nat) (w : World) (v : Value) (G : List (List Int)) : Prop := ∃ B, N0 ≤ B ∧ GrO B w v G
theorem GrN.below {N0 : Nat} {w w' : World} {v : Value} {G : List (List Int)} (h : GrN N0 w v G) (hb : Below w.heap.size w w') : GrN N0 w' v G := by obtain ⟨B, h1, h2⟩ := h; exact ⟨B, h1, h2.below hb⟩
theorem GrN.gl {N0 : Nat} {w : World} {v : Value} {G : List (List Int)} (h : GrN N0 w v G) : ∃ a cap, v = .slice a G.length cap ∧ Gl w a G.length cap G := by obtain ⟨B, h1, h2⟩ := h; exact h2.gl

set_option maxHeartbeats 4000000 in
theorem sameg_any (a b : Option Addr) (n ca cb : Nat) (G : List (List Int)) (w : World) (ha : Gl w a n ca G) (hb : Gl w b n cb G) :
    Calls Try.prog 24 #[.slice a n ca, .slice b n cb] w fun e w' => e = .returned (.bool true) ∧ Below w.heap.size w w' := by
  have HA := Lib.hid ha
  have HB := Lib.hid hb
  have e1 := ha.2.1
  have e2 := ha.2.2.1
  unfold maxLen at e2
  clear ha hb
  have mixed : Try.prog.follows Departure.mixedOrders = true := by kernel_rfl
  go_enter Try.func24, Try.ntmps24
  go_wp2_with fail
  go_loopw [5] (fun i wr => ∃ k : Nat, k ≤ n ∧ i = .int .i64 k ∧ Below w.heap.size w wr) (fun i _ => n - (intOf i).toNat)
  case atStart => exact ⟨0, Nat.zero_le _, rfl, Below.refl _ _⟩
  case round =>
    obtain ⟨k, hk, rfl, hbel⟩ := hrel
    have HB2 := Lib.hid hbel
    by_cases hkn : k < n
    · obtain ⟨b5, o5, rfl, hc5⟩ := (HA.out.below hbel).2.2.2 (by omega)
      obtain ⟨b6, o6, rfl, hc6⟩ := (HB.out.below hbel).2.2.2 (by omega)
      obtain ⟨a5, c5, g5, z5⟩ := hc5 k hkn
      obtain ⟨a6, c6, g6, z6⟩ := hc6 k hkn
      obtain ⟨gs, hgs⟩ : ∃ gs, G.getD k [] = gs := ⟨_, rfl⟩
      rw [hgs] at g5 g6 z5 z6
      obtain ⟨m, hm⟩ : ∃ m, gs.length = m := ⟨_, rfl⟩
      rw [hm] at g5 g6 z5 z6
      have HZ5 := Lib.hid z5
      have HZ6 := Lib.hid z6
      have q1 := z5.2.1
      have q2 := z5.2.2.1
      unfold maxLen at q2
      clear hc5 hc6 hgs hm z5 z6 hbel
      have hix0 : (0 : Int) ≤ (k : Int) := by omega
      have hix1 : (k : Int) < (n : Int) := by omega
      have hmm : ((m : Int) == (m : Int)) = true := by simp
      go_wp2_with fail
      go_region_o
      go_wp2_with fail
      go_loopw [6] (fun i wx => ∃ j : Nat, j ≤ m ∧ i = .int .i64 j ∧ Below wr.heap.size wr wx) (fun i _ => m - (intOf i).toNat)
      case atStart => exact ⟨0, Nat.zero_le _, rfl, by first | exact (Below.refl _ _).drew | exact below_drewN (Below.refl _ _) _⟩
      case round =>
        obtain ⟨j, hj, rfl, hbel⟩ := hrel
        have HB3 := Lib.hid hbel
        replace g5 := cell_mono g5 hbel
        replace g6 := cell_mono g6 hbel
        by_cases hjm : j < m
        · obtain ⟨b7, o7, rfl, hc7⟩ := (HZ5.out.below hbel).2.2.2 (by omega)
          obtain ⟨b8, o8, rfl, hc8⟩ := (HZ6.out.below hbel).2.2.2 (by omega)
          have g7 := hc7 j hjm
          have g8 := hc8 j hjm
          obtain ⟨x, hx⟩ : ∃ x, gs.getD j 0 = x := ⟨_, rfl⟩
          rw [hx] at g7 g8
          clear hc7 hc8 hx hbel
          have hjx0 : (0 : Int) ≤ (j : Int) := by omega
          have hjx1 : (j : Int) < (m : Int) := by omega
          go_wp2_with fail
          go_region_o
          go_wp2_with fail
          go_roundw
          case rel => exact ⟨j + 1, by omega, by go_num, by first | exact HB3.out.drew | exact below_drewN HB3.out _⟩
          case measure => simp [intOf]; omega
        · obtain rfl : j = m := by omega
          clear hbel
          go_wp2_with fail
          go_roundw
          case rel => exact ⟨k + 1, by omega, by go_num, HB2.out.trans (HB3.out.mono HB2.out.size)⟩
          case measure => simp [intOf]; omega
    · obtain rfl : k = n := by omega
      clear hbel
      go_wp2_with fail
      go_ret
      exact ⟨rfl, HB2.out⟩

end Go.Proofs.Ytonnbcongnkcdaa
