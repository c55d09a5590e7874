/- FitModel returns true: the walk. No condition. -/
import Derived.Test.YtjobopafcgnljaaNulB
import Derived.Test.YtjobopafcgnljaaTstD
import Derived.Test.YtjobopafcgnljaaSmA
import Derived.Test.YtjobopafcgnljaaModP
import Derived.Maps.AppendAt
namespace Go.Proofs.Ytjobopafcgnljaa
open Go.RowKit

theorem rsz_addM (p q : Rat) : rsz (p + q) ≤ rsz p + rsz q + 1 := by
  have e : p + q = mkRat (p.num * q.den + q.num * p.den) (p.den * q.den) := by
    have h := Rat.mkRat_add_mkRat p.num q.num (d₁ := p.den) (d₂ := q.den) p.den_nz q.den_nz
    rw [Rat.mkRat_self, Rat.mkRat_self] at h
    exact h
  rw [e]
  have h1 : nlen p.num.natAbs ≤ rsz p ∧ nlen p.den ≤ rsz p := by unfold rsz; omega
  have h2 : nlen q.num.natAbs ≤ rsz q ∧ nlen q.den ≤ rsz q := by unfold rsz; omega
  have a1 := nlen_mul p.num.natAbs q.den
  have a2 := nlen_mul q.num.natAbs p.den
  have a3 := nlen_mul p.den q.den
  have b1 : (p.num * q.den + q.num * p.den).natAbs ≤ p.num.natAbs * q.den + q.num.natAbs * p.den := by
    have := Int.natAbs_add_le (p.num * q.den) (q.num * p.den)
    rw [Int.natAbs_mul, Int.natAbs_mul, Int.natAbs_natCast, Int.natAbs_natCast] at this
    exact this
  have b2 := nlen_mono b1
  have b3 := nlen_add (p.num.natAbs * q.den) (q.num.natAbs * p.den)
  exact rsz_mk _ _ _ (by omega) (by omega) (by omega)
theorem rsz_subM (p q : Rat) : rsz (p - q) ≤ rsz p + rsz q + 1 := by
  have h := rsz_addM p (-q)
  rw [rsz_neg] at h
  have e : p - q = p + -q := by grind
  rw [e]; exact h
theorem pQ_rsz (q : Nat → Rat) (k : Nat) : ∀ i, (∀ j, j < i → rsz (q j) ≤ 2) → rsz (pQ q k i) ≤ 4 * i + 1
  | 0, _ => by have := rsz_one; show rsz (1 : Rat) ≤ _; omega
  | i + 1, h => by
    have h1 := pQ_rsz q k i (fun j hj => h j (by omega))
    have h2 := h i (by omega)
    have h3 := rsz_subM 1 (q i)
    have h4 := rsz_one
    show rsz (pQ q k i * _) ≤ _
    have h5 := rsz_mul (pQ q k i) (if bt k i then q i else 1 - q i)
    have h6 : rsz (if bt k i then q i else 1 - q i) ≤ 4 := by split <;> omega
    omega
theorem rsz_zeroM : rsz (0 : Rat) ≤ 1 := by decide +kernel
theorem patS_rsz (q : Nat → Rat) (n e : Nat) (hn : n ≤ 6) (h : ∀ j, j < n → rsz (q j) ≤ 2) : ∀ k, rsz (sQ (patT q n e) k) ≤ k * 26 + 1
  | 0 => by have := rsz_zeroM; show rsz (0 : Rat) ≤ _; omega
  | k + 1 => by
    have h1 := patS_rsz q n e hn h k
    have h2 : rsz (patT q n e k) ≤ 25 := by
      unfold patT
      split
      · have := pQ_rsz q k n h; omega
      · have := rsz_zeroM; omega
    have h3 := rsz_addM (sQ (patT q n e) k) (patT q n e k)
    show rsz (_ + _) ≤ _
    omega
/-- v is a row of its own of j truth values -/
def ObM (B : Nat) (w : World) (v : Value) (j : Nat) (f : Nat → Bool) : Prop := w.ownsRow B 4 1 v j ((List.range j).map fun i => .bool (f i))
theorem ObM.below {B : Nat} {w w' : World} {v : Value} {j : Nat} {f : Nat → Bool} (h : ObM B w v j f) (hb : Below w.heap.size w w') : ObM B w' v j f := by
  refine ⟨h.1, ?_⟩
  rcases h.2 with e | ⟨g, cap, cur, rfl, hbg, hgg, rest⟩
  · exact Or.inl e
  · exact Or.inr ⟨g, cap, cur, rfl, hbg, (hb.block g (Array.getElem?_eq_some_iff.1 hgg).1).trans hgg, rest⟩
theorem ObM.set {B : Nat} {w : World} {v : Value} {j ub o : Nat} {f : Nat → Bool} (h : ObM B w v j f) (hub : ub < B) (x : Value) : ObM B (w.setCell ⟨ub, o, none⟩ x) v j f := by
  refine ⟨h.1, ?_⟩
  rcases h.2 with e | ⟨g, cap, cur, rfl, hbg, hgg, rest⟩
  · exact Or.inl e
  · exact Or.inr ⟨g, cap, cur, rfl, hbg, (Below.heap_setCell w ⟨ub, o, none⟩ x g (show g ≠ ub by omega)).trans hgg, rest⟩
theorem ObM.push {B : Nat} {w : World} {v : Value} {j : Nat} {f : Nat → Bool} {b : Bool} (hf : f j = b) (h : w.ownsRow B 4 1 v (j + 1) (((List.range j).map fun i => .bool (f i)) ++ [.bool b])) : ObM B w v (j + 1) f := by
  unfold ObM; rw [List.range_succ, List.map_append]
  simp only [List.map_cons, List.map_nil, hf]
  exact h
theorem ObM.sl {B : Nat} {w : World} {v : Value} {j : Nat} {f : Nat → Bool} (h : ObM B w v j f) : ∃ p cap, v = .slice p j cap ∧ Sl w p j cap (fun i => .bool (f i)) := by
  obtain ⟨_, ⟨rfl, h0⟩ | ⟨g, cap, cur, rfl, hg, hh, h1, h2, h3, h4⟩⟩ := h
  · subst h0; exact ⟨none, 0, rfl, Nat.le_refl _, Nat.zero_le _, fun h => by omega⟩
  · refine ⟨_, cap, rfl, h1, h2, fun hn => ⟨g, 0, rfl, fun i hi => ?_⟩⟩
    have h5 : cur.toList[i]? = some (.bool (f i)) := by
      have : (cur.toList.take (j * 1))[i]? = some (.bool (f i)) := by rw [h4]; simp [hi]
      rwa [List.getElem?_take_of_lt (by omega)] at this
    simp [World.cell?, hh]
    simpa using h5
theorem own_lowM {w : World} {B B' n s : Nat} {e : TypeId} {v : Value} {xs : List Value} (h : w.ownsRow B e s v n xs) (hB : B' ≤ B) : w.ownsRow B' e s v n xs := by
  refine ⟨h.1, ?_⟩
  rcases h.2 with e1 | ⟨g, cap, cur, e1, hg, hh, rest⟩
  · exact .inl e1
  · exact .inr ⟨g, cap, cur, e1, Nat.le_trans hB hg, hh, rest⟩
theorem own_belM {B : Nat} {e : TypeId} {w0 w w1 : World} {x : Value} {n k : Nat} {xs : List Value} (hx : w.ownsRow B e k x n xs) (hbel : Below B w0 w) (hB : B ≤ w.heap.size) (hg : w.grownBy w1 x.ownBlock) : Below B w0 w1 :=
  hbel.grown hg hB (fun k hk => (hx.lt k hk).1)
theorem own_kpM {N B : Nat} {w w1 : World} {x : Value} {n : Nat} {xs : List Value} (hx : w.ownsRow B 4 1 x n xs) (hN : N ≤ B) (hg : w.grownBy w1 x.ownBlock) : Kp N w w1 := by
  refine ⟨hg.size, fun b hb ho => hg.block b hb fun e => ?_⟩
  have h1 := hx.lt b e.symm
  rcases hx.2 with ⟨rfl, _⟩ | ⟨g, cap, cur, rfl, hbg, hgg, _⟩
  · simp [Value.ownBlock] at e
  · simp [Value.ownBlock] at e
    subst e
    rcases ho with ho | ⟨c, z, ho⟩
    · omega
    · rw [hgg] at ho; simp at ho
/-- block b is a row of n rational numbers, each of at most L limbs -/
def Re (N : Nat) (w : World) (b n : Nat) (q : Nat → Rat) (L : Nat) : Prop :=
  Bk w b 30 (n * 3) ∧ ∀ i, i < n → ∃ s ra rn rc da dn dc, w.cell? ⟨b, i * 3, none⟩ = some (.bool s) ∧ w.cell? ⟨b, i * 3 + 1, none⟩ = some (.slice ra rn rc) ∧ w.cell? ⟨b, i * 3 + 2, none⟩ = some (.slice da dn dc) ∧ Rt N w s ra rn rc da dn dc (q i) L
theorem Rt.keepM {N : Nat} {w w' : World} {s : Bool} {a d : Option Addr} {na ca nd cd L : Nat} {q : Rat} (h : Rt N w s a na ca d nd cd q L) (k : Kp N w w') : Rt N w' s a na ca d nd cd q L := h.keep k
theorem Re.below {N : Nat} {w w' : World} {b n L : Nat} {q : Nat → Rat} (h : Re N w b n q L) (hb : Below w.heap.size w w') : Re N w' b n q L := by
  refine ⟨h.1.below hb, fun i hi => ?_⟩
  obtain ⟨s, ra, rn, rc, da, dn, dc, h3, h4, h5, h6⟩ := h.2 i hi
  exact ⟨s, ra, rn, rc, da, dn, dc, cell_mono h3 hb, cell_mono h4 hb, cell_mono h5 hb, h6.below hb⟩
theorem Re.keep {N : Nat} {w w' : World} {b n L : Nat} {q : Nat → Rat} (h : Re N w b n q L) (kp : Kp N w w') (s : Sb b w w') : Re N w' b n q L := by
  refine ⟨?_, fun i hi => ?_⟩
  · obtain ⟨c, h1, h2⟩ := h.1; exact ⟨c, Eq.trans s h1, h2⟩
  · obtain ⟨sg, ra, rn, rc, da, dn, dc, h3, h4, h5, h6⟩ := h.2 i hi
    exact ⟨sg, ra, rn, rc, da, dn, dc, s.cell.trans h3, s.cell.trans h4, s.cell.trans h5, h6.keep kp⟩
theorem Re.congr {N : Nat} {w : World} {b n L : Nat} {q q' : Nat → Rat} (h : Re N w b n q L) (e : ∀ i, i < n → q i = q' i) : Re N w b n q' L :=
  ⟨h.1, fun i hi => by rw [← e i hi]; exact h.2 i hi⟩
theorem Re.bn {N : Nat} {w : World} {b n L : Nat} {q : Nat → Rat} (h : Re N w b n q L) : Bn w b := h.1.bx.bn (by decide)
theorem Re.put {N : Nat} {w : World} {b n k L : Nat} {q q' : Nat → Rat} (h : Re N w b n q L) (hN : N ≤ b) (hk : k < n) (p : Rat) (hp : q' k = p) (hL : rsz p ≤ L) (e : ∀ i, i < n → i ≠ k → q i = q' i) {r r2 : Option Addr} {c c2 : Nat} (h1 : Nt N w r (nlen p.num.natAbs) c p.num.natAbs) (h2 : Nt N w r2 (nlen p.den) c2 p.den) :
    Re N (((w.setCell ⟨b, k * 3, none⟩ (.bool (decide (p.num < 0)))).setCell ⟨b, k * 3 + 1, none⟩ (.slice r (nlen p.num.natAbs) c)).setCell ⟨b, k * 3 + 2, none⟩ (.slice r2 (nlen p.den) c2)) b n q' L := by
  subst hp
  have kp : Kp N w (((w.setCell ⟨b, k * 3, none⟩ (.bool (decide ((q' k).num < 0)))).setCell ⟨b, k * 3 + 1, none⟩ (.slice r (nlen (q' k).num.natAbs) c)).setCell ⟨b, k * 3 + 2, none⟩ (.slice r2 (nlen (q' k).den) c2)) :=
    (((Kp.refl N w).put hN h.bn _).put hN (h.bn.set _ _) _).put hN ((h.bn.set _ _).set _ _) _
  refine ⟨((h.1.set _ _).set _ _).set _ _, fun i hi => ?_⟩
  by_cases ei : i = k
  · subst ei
    obtain ⟨v0, g0⟩ := h.1.cell (o := i * 3) (by omega)
    obtain ⟨v1, g1⟩ := h.1.cell (o := i * 3 + 1) (by omega)
    obtain ⟨v2, g2⟩ := h.1.cell (o := i * 3 + 2) (by omega)
    refine ⟨_, r, _, c, r2, _, c2, ?_, ?_, ?_, Rt.of_norm (h1.keep kp) (h2.keep kp) L hL⟩
    · exact (World.cell?_setCell_other _ _ _ _ (by first | (simp; done) | (simp; omega))).trans ((World.cell?_setCell_other _ _ _ _ (by first | (simp; done) | (simp; omega))).trans (World.cell?_setCell_same _ _ _ g0))
    · exact (World.cell?_setCell_other _ _ _ _ (by first | (simp; done) | (simp; omega))).trans (World.cell?_setCell_same _ _ _ ((World.cell?_setCell_other _ _ _ _ (by first | (simp; done) | (simp; omega))).trans g1))
    · exact World.cell?_setCell_same _ _ _ ((World.cell?_setCell_other _ _ _ _ (by first | (simp; done) | (simp; omega))).trans ((World.cell?_setCell_other _ _ _ _ (by first | (simp; done) | (simp; omega))).trans g2))
  · obtain ⟨s, ra, rn, rc, da, dn, dc, h3, h4, h5, h6⟩ := h.2 i hi
    rw [← e i hi ei]
    refine ⟨s, ra, rn, rc, da, dn, dc, ?_, ?_, ?_, h6.keep kp⟩
    all_goals
      refine (World.cell?_setCell_other _ _ _ _ (by first | (simp; done) | (simp; omega))).trans ((World.cell?_setCell_other _ _ _ _ (by first | (simp; done) | (simp; omega))).trans ((World.cell?_setCell_other _ _ _ _ (by first | (simp; done) | (simp; omega))).trans ?_))
      assumption
/-- block g was set to q in normal form, as the last thing since W -/
def CutSetM (N : Nat) (W : World) (g : Nat) (q : Rat) (w : World) : Prop :=
  ∃ w1 r c r2 c2, Since W w1 ∧ Nt N w1 r (nlen q.num.natAbs) c q.num.natAbs ∧ Nt N w1 r2 (nlen q.den) c2 q.den ∧ w = ((w1.setCell ⟨g, 0, none⟩ (.bool (decide (q.num < 0)))).setCell ⟨g, 1, none⟩ (.slice r (nlen q.num.natAbs) c)).setCell ⟨g, 2, none⟩ (.slice r2 (nlen q.den) c2)
/-- three cells of block g were set to q in normal form, as the last thing since W -/
def CutAtM (N : Nat) (W : World) (g o : Nat) (q : Rat) (w : World) : Prop :=
  ∃ w1 r c r2 c2, Since W w1 ∧ Nt N w1 r (nlen q.num.natAbs) c q.num.natAbs ∧ Nt N w1 r2 (nlen q.den) c2 q.den ∧ w = ((w1.setCell ⟨g, o, none⟩ (.bool (decide (q.num < 0)))).setCell ⟨g, o + 1, none⟩ (.slice r (nlen q.num.natAbs) c)).setCell ⟨g, o + 2, none⟩ (.slice r2 (nlen q.den) c2)
theorem Try.underBoolsM : Try.prog.underlying 22 = some (.slice 4) := by kernel_rfl
theorem Try.infoBoolM : (Try.prog.info? 4).map (fun i => (i.zero, i.size, i.bytes)) = some (some (.bool false), 1, 1) := by kernel_rfl
theorem block_nameM {P : Program} {Q : Exit → Act → World → Prop} {c : Code} {a : Act} {w : World} (h : ∀ W, w = W → c.wp P Q a W) : c.wp P Q a w := h w rfl
def MdJ8 (σ : Int) (sk : Bool) (ra da : Option Addr) (rn rc dn dc b off n ca j : Nat) (W : World) (z0 : Act) (L : Nat → Bool) (z1 : Act) (w : World) : Prop :=
  ∃ u40 u41 u42 u43 u44 u45 u46 u47 u48 u49 u50 u51 u52 u53 u54, z1 = (((((((((((((((z0.put (some 40) u40).put (some 41) u41).put (some 42) u42).put (some 43) u43).put (some 44) u44).put (some 45) u45).put (some 46) u46).put (some 47) u47).put (some 48) u48).put (some 49) u49).put (some 50) u50).put (some 51) u51).put (some 52) u52).put (some 53) u53).put (some 54) u54) ∧ Since W w ∧ (L 0 = true → u40 = .slice (some ⟨b, off, none⟩) n ca) ∧ (L 1 = true → u41 = .int .i64 j) ∧ (L 2 = true → u42 = .pointer (some ⟨b, off + j * 3, none⟩)) ∧ (L 3 = true → u43 = .agg #[.bool sk, .slice ra rn rc, .slice da dn dc]) ∧ (L 4 = true → u44 = .int .i64 σ) ∧ (L 5 = true → u45 = .bool true) ∧ (L 6 = true → u46 = .bool true) ∧ (L 14 = true → u54 = .bool true)

def MdJ25 (N bp : Nat) (pp pn : Rat) (rp rp2 : Option Addr) (cp cp2 : Nat) (sk : Bool) (ra da : Option Addr) (rn rc dn dc b off n ca j : Nat) (W : World) (z0 : Act) (L : Nat → Bool) (z1 : Act) (w : World) : Prop :=
  ∃ u108 u109 u110 u111 u112 u113, z1 = ((((((z0.put (some 108) u108).put (some 109) u109).put (some 110) u110).put (some 111) u111).put (some 112) u112).put (some 113) u113) ∧
    ((L 6 = false ∧ Since W w ∧ (L 0 = true → u108 = .agg #[.bool (decide ((pp).num < 0)), .slice rp (nlen (pp).num.natAbs) cp, .slice rp2 (nlen (pp).den) cp2]) ∧ (L 1 = true → u109 = .slice (some ⟨b, off, none⟩) n ca) ∧ (L 2 = true → u110 = .int .i64 j) ∧ (L 3 = true → u111 = .pointer (some ⟨b, off + j * 3, none⟩)) ∧ (L 4 = true → u112 = .agg #[.bool sk, .slice ra rn rc, .slice da dn dc]) ∧ (L 5 = true → IsRat N pn u113 w)) ∨
     (L 6 = true ∧ (∀ j, j < 6 → L j = true) ∧ CutSetM N W bp pn w))

def MdJ26 (N bp bo : Nat) (po pp pm pn : Rat) (rp rp2 ro ro2 : Option Addr) (cp cp2 co co2 : Nat) (sk : Bool) (ra da : Option Addr) (rn rc dn dc b off n ca j : Nat) (W : World) (z0 : Act) (L : Nat → Bool) (z1 : Act) (w : World) : Prop :=
  ∃ u114 u115 u116 u117 u118 u119 u120 u121, z1 = ((((((((z0.put (some 114) u114).put (some 115) u115).put (some 116) u116).put (some 117) u117).put (some 118) u118).put (some 119) u119).put (some 120) u120).put (some 121) u121) ∧
    ((L 8 = false ∧ Since W w ∧ (L 0 = true → u114 = .agg #[.bool (decide ((pp).num < 0)), .slice rp (nlen (pp).num.natAbs) cp, .slice rp2 (nlen (pp).den) cp2]) ∧ (L 1 = true → u115 = .agg #[.bool (decide ((po).num < 0)), .slice ro (nlen (po).num.natAbs) co, .slice ro2 (nlen (po).den) co2]) ∧ (L 2 = true → u116 = .slice (some ⟨b, off, none⟩) n ca) ∧ (L 3 = true → u117 = .int .i64 j) ∧ (L 4 = true → u118 = .pointer (some ⟨b, off + j * 3, none⟩)) ∧ (L 5 = true → u119 = .agg #[.bool sk, .slice ra rn rc, .slice da dn dc]) ∧ (L 6 = true → IsRat N pm u120 w) ∧ (L 7 = true → IsRat N pn u121 w)) ∨
     (L 8 = true ∧ (∀ j, j < 8 → L j = true) ∧ CutSetM N W bp pn w))

def MdJ30 (N bp bW M g : Nat) (ps pp pn : Rat) (rp rp2 : Option Addr) (cp cp2 : Nat) (sw : Bool) (rv dv : Option Addr) (lv kv mv ev : Nat) (W : World) (z0 : Act) (L : Nat → Bool) (z1 : Act) (w : World) : Prop :=
  ∃ u139 u140 u141 u142 u143 u144 u145 u146 u147, z1 = (((((((((z0.put (some 139) u139).put (some 140) u140).put (some 141) u141).put (some 142) u142).put (some 143) u143).put (some 144) u144).put (some 145) u145).put (some 146) u146).put (some 147) u147) ∧
    ((L 9 = false ∧ Since W w ∧ (L 0 = true → u139 = .slice (some ⟨bW, 0, none⟩) M M) ∧ (L 1 = true → u140 = .int .i64 g) ∧ (L 2 = true → u141 = .slice (some ⟨bW, 0, none⟩) M M) ∧ (L 3 = true → u142 = .int .i64 g) ∧ (L 4 = true → u143 = .pointer (some ⟨bW, g * 3, none⟩)) ∧ (L 5 = true → u144 = .agg #[.bool sw, .slice rv lv kv, .slice dv mv ev]) ∧ (L 6 = true → u145 = .agg #[.bool (decide ((pp).num < 0)), .slice rp (nlen (pp).num.natAbs) cp, .slice rp2 (nlen (pp).den) cp2]) ∧ (L 7 = true → IsRat N pn u146 w) ∧ (L 8 = true → u147 = .pointer (some ⟨bW, g * 3, none⟩))) ∨
     (L 9 = true ∧ (∀ j, j < 9 → L j = true) ∧ CutAtM N W bW (g * 3) pn w))


set_option maxRecDepth 20000 in
set_option maxHeartbeats 1000000 in
theorem model_long {N : Nat} (a : Option Addr) (n ca : Nat) (q : Nat → Rat) (ln ld : Nat → Nat) (w : World) (_hN : N ≤ w.heap.size) (h : Ru N w a n ca q ln ld) (h6 : 6 < n) :
    Calls Try.prog 4 #[.slice a n ca] w fun e w' => e = .returned (.bool true) ∧ Below w.heap.size w w' := by
  have HU := Lib.hid h
  have bc := h.1
  have bm := h.2.1
  unfold maxLen at bm
  clear h
  have d6 : decide ((6 : Int) < (n : Int)) = true := by simp; omega
  have d6' : decide (6 < n) = true := by simp; omega
  go_enter Try.func4, Try.ntmps4
  go_wp2_with fail
  refine (heavy_any (N := N) _ _ _ q ln ld _ HU.out).mono ?_
  rintro e w' ⟨b, rfl, rfl, hv⟩
  cases b
  case true =>
    go_wp2_with fail
    go_ret
    exact ⟨rfl, Below.refl _ _⟩
  case false =>
    clear hv
    go_wp2_with fail
    go_ret
    exact ⟨rfl, Below.refl _ _⟩

set_option maxRecDepth 20000 in
set_option maxHeartbeats 1000000 in
theorem model_heavy {N : Nat} (a : Option Addr) (n ca : Nat) (q : Nat → Rat) (ln ld : Nat → Nat) (w : World) (_hN : N ≤ w.heap.size) (h : Ru N w a n ca q ln ld) (h20 : n ≤ 20) (hh : ¬ (n ≤ 8 ∧ ∀ j, j < n → ln j ≤ 2 ∧ ld j ≤ 2)) :
    Calls Try.prog 4 #[.slice a n ca] w fun e w' => e = .returned (.bool true) ∧ Below w.heap.size w w' := by
  have HU := Lib.hid h
  have bc := h.1
  have bm := h.2.1
  unfold maxLen at bm
  have HH := Lib.hid hh
  clear h hh
  go_enter Try.func4, Try.ntmps4
  go_wp2_with fail
  refine (heavy_any (N := N) _ _ _ q ln ld _ HU.out).mono ?_
  rintro e w' ⟨b, rfl, rfl, hv⟩
  cases b
  case true =>
    go_wp2_with fail
    go_ret
    exact ⟨rfl, Below.refl _ _⟩
  case false =>
    exact absurd (hv rfl h20) HH.out

set_option maxHeartbeats 4000000 in
set_option maxRecDepth 20000 in
theorem model_bad {N : Nat} (a : Option Addr) (n ca : Nat) (q : Nat → Rat) (ln ld : Nat → Nat) (w : World) (hN : N ≤ w.heap.size) (h : Ru N w a n ca q ln ld) (hr : Rs N w a n ca q 2) (h6 : n ≤ 6) (hc : chkF q n = 3) (h0 : chkF q n ≠ 0) :
    Calls Try.prog 4 #[.slice a n ca] w fun e w' => e = .returned (.bool true) ∧ Below w.heap.size w w' := by
  have HU := Lib.hid h
  have bc := h.1
  have bm := h.2.1
  unfold maxLen at bm
  have HA := Lib.hid hr
  have HC := Lib.hid hc
  have HNE := Lib.hid h0
  clear h hr hc h0
  obtain ⟨po, hpo⟩ : ∃ p : Rat, ((1 : Int) : Rat) / ((1 : Int) : Rat) = p := ⟨_, rfl⟩
  have hpo1 : po = 1 := by rw [← hpo]; (first | grind | decide | (simp; done))
  have HPO1 := Lib.hid hpo1
  have HPo := Lib.hid ((mk_div 1 1).trans hpo)
  have HZO := Lib.hid (show rsz po ≤ 2000 by rw [hpo1]; have := rsz_one; omega)
  clear hpo hpo1
  have d6 : decide ((6 : Int) < (n : Int)) = false := by simp; omega
  have d6' : decide (6 < n) = false := by simp; omega
  have z3 : ((3 : Int) == 0) = false := by decide
  have hs0 : w.heap.size ≤ w.heap.size := Nat.le_refl _
  have HB := Lib.hid (Below.refl w.heap.size w)
  go_enter Try.func4, Try.ntmps4
  go_wp2_with fail
  refine (heavy_any (N := N) _ _ _ q ln ld _ HU.out).mono ?_
  rintro e w' ⟨b, rfl, rfl, hv⟩
  cases b
  case true =>
    go_wp2_with fail
    go_ret
    exact ⟨rfl, Below.refl _ _⟩
  case false =>
    clear hv
    go_wp2_with fail
    refine (null_bad (N := N) _ _ _ q 2 _ hN HA.out (by omega) 3 HC.out (by decide)).mono ?_
    rintro e wa ⟨rfl, hb⟩
    have hs_wa : w.heap.size ≤ wa.heap.size := hb.size
    replace HB := Lib.hid (HB.out.trans (hb.mono hs0))
    replace hN : N ≤ wa.heap.size := Nat.le_trans hN hb.size
    replace hs0 : w.heap.size ≤ wa.heap.size := Nat.le_trans hs0 hb.size
    replace HA := Lib.hid (HA.out.below hb)
    clear hb
    go_wp2_with fail
    refine (rof_any (N := N) 1 1 _ hN (by omega) (by omega) (by omega) (by omega) po HPo.out).mono ?_
    rintro e wb ⟨ro, co, ro2, co2, rfl, hn, hn', hb⟩
    have hs_wb : wa.heap.size ≤ wb.heap.size := hb.size
    replace HB := Lib.hid (HB.out.trans (hb.mono hs0))
    replace hN : N ≤ wb.heap.size := Nat.le_trans hN hb.size
    replace hs0 : w.heap.size ≤ wb.heap.size := Nat.le_trans hs0 hb.size
    replace HA := Lib.hid (HA.out.below hb)
    clear hb
    have HO1 := Lib.hid hn
    clear hn
    have HO2 := Lib.hid hn'
    clear hn'
    go_wp2_with fail
    refine block_nameM fun W1 hW => ?_
    have hs_W1 : wb.heap.size ≤ W1.heap.size := by rw [← hW]; (first | omega | (simp; done) | (simp; omega))
    have HK_W1 := Lib.hid (show Kp N wb W1 by rw [← hW]; exact KpA)
    have HL_W1 := Lib.hid (show Below wb.heap.size wb W1 by rw [← hW]; exact BlA)
    have k_O_0 : W1.cell? ⟨wb.heap.size, 0, none⟩ = some (.bool (decide ((po).num < 0))) := by rw [← hW]; (first | (go_simp; done) | (simp; done) | (simp [go_sem]; done) | (simp [go_sem]; done))
    have k_O_1 : W1.cell? ⟨wb.heap.size, 1, none⟩ = some (.slice ro (nlen (po).num.natAbs) co) := by rw [← hW]; (first | (go_simp; done) | (simp; done) | (simp [go_sem]; done) | (simp [go_sem]; done))
    have k_O_2 : W1.cell? ⟨wb.heap.size, 2, none⟩ = some (.slice ro2 (nlen (po).den) co2) := by rw [← hW]; (first | (go_simp; done) | (simp; done) | (simp [go_sem]; done) | (simp [go_sem]; done))
    have f_O : ∀ o, W1.frozen? ⟨wb.heap.size, o, none⟩ = false := by intro o; rw [← hW]; (first | (go_simp; done) | (simp; done) | (simp [go_sem]; done) | (simp [go_sem]; done))
    have HX_O := Lib.hid (show Bn W1 (wb.heap.size) by rw [← hW]; exact KpA)
    replace HO1 := Lib.hid (HO1.out.keep HK_W1.out)
    replace HO2 := Lib.hid (HO2.out.keep HK_W1.out)
    replace HB := Lib.hid (show Below w.heap.size w W1 by rw [← hW]; exact BlA)
    replace hN : N ≤ W1.heap.size := by rw [← hW]; (first | omega | (simp; done) | (simp; omega))
    replace hs0 : w.heap.size ≤ W1.heap.size := by rw [← hW]; (first | omega | (simp; done) | (simp; omega))
    have hl_O : wb.heap.size < W1.heap.size := by rw [← hW]; (first | omega | (simp; done) | (simp; omega))
    replace HA := Lib.hid (HA.out.below HL_W1.out)
    clear HL_W1
    clear hW HK_W1
    have HBW := HB
    have hsW := hs0
    clear HB hs0
    go_loopw [7] (fun i wr => ∃ j : Nat, j ≤ n ∧ i = .int .i64 j ∧ Hid (∀ x, x < j → prb (q x) = true) ∧ Below W1.heap.size W1 wr) (fun i _ => n - (intOf i).toNat)
    case atStart => exact ⟨0, Nat.zero_le _, rfl, Lib.hid (fun x hx => by omega), Below.refl _ _⟩
    case round =>
      obtain ⟨j, hj, rfl, HIN, hbel⟩ := hrel
      obtain ⟨wi, rfl⟩ : ∃ x : World, x = wr := ⟨_, rfl⟩
      have HB7 := Lib.hid hbel
      have hs7 : W1.heap.size ≤ wi.heap.size := hbel.size
      have hl_O' : wb.heap.size < wi.heap.size := Nat.lt_of_lt_of_le hl_O hbel.size
      have k_O_0' : wi.cell? ⟨wb.heap.size, 0, none⟩ = some (.bool (decide ((po).num < 0))) := (hbel.cell (p := ⟨wb.heap.size, 0, none⟩) hl_O).trans k_O_0
      have k_O_1' : wi.cell? ⟨wb.heap.size, 1, none⟩ = some (.slice ro (nlen (po).num.natAbs) co) := (hbel.cell (p := ⟨wb.heap.size, 1, none⟩) hl_O).trans k_O_1
      have k_O_2' : wi.cell? ⟨wb.heap.size, 2, none⟩ = some (.slice ro2 (nlen (po).den) co2) := (hbel.cell (p := ⟨wb.heap.size, 2, none⟩) hl_O).trans k_O_2
      have f_O' : ∀ o, wi.frozen? ⟨wb.heap.size, o, none⟩ = false := fun o => (hbel.frozen (p := ⟨wb.heap.size, o, none⟩) hl_O).trans (f_O o)
      have HX_O' := Lib.hid (HX_O.out.below hbel)
      clear hl_O f_O HX_O k_O_0 k_O_1 k_O_2
      have hl_O := hl_O'
      have f_O := f_O'
      have HX_O := HX_O'
      have k_O_0 := k_O_0'
      have k_O_1 := k_O_1'
      have k_O_2 := k_O_2'
      clear hl_O' f_O' HX_O' k_O_0' k_O_1' k_O_2'
      have HO1' := Lib.hid (HO1.out.below hbel)
      have HO2' := Lib.hid (HO2.out.below hbel)
      have HA' := Lib.hid (HA.out.below hbel)
      have hN' : N ≤ wi.heap.size := by omega
      clear HO1 HO2 HA hN hbel
      have HO1 := HO1'
      have HO2 := HO2'
      have HA := HA'
      have hN := hN'
      clear HO1' HO2' HA' hN'
      by_cases hjn : j < n
      · obtain ⟨b, off, rfl, hc⟩ := HA.out.2.2 (by omega)
        obtain ⟨sk, ra, rn, rc, da, dn, dc, ga0, ga1, ga2, hrt⟩ := hc j hjn
        have HR := Lib.hid hrt
        have hla : b < wi.heap.size := World.block_lt_of_cell? wi _ ga0
        clear hc hrt HA
        have hix0 : (0 : Int) ≤ (j : Int) := by omega
        have hix1 : (j : Int) < (n : Int) := by omega
        obtain ⟨σ, hσ⟩ : ∃ σ, (q j).num.sign = σ := ⟨_, rfl⟩
        have HSG := Lib.hid hσ
        obtain ⟨κ, hκ⟩ : ∃ κ, cmpQ (q j) po = κ := ⟨_, rfl⟩
        have HK := Lib.hid hκ
        have HBx := HB7
        by_cases h0 : q j < 0
        · have HB := HB7
          have hs0 := hs7
          clear HBx
          have d0 : decide (σ < 0) = true := by rw [← hσ]; exact sgn_lt2 _ h0
          clear hσ hκ h0
          go_wp2_with fail
          refine region_inv2 (by kernel_rfl) (MdJ8 σ sk ra da rn rc dn dc b off n ca j (wi)) ?_ ?_ ?_ ?_
          · exact ⟨u40, u41, u42, u43, u44, u45, u46, u47, u48, u49, u50, u51, u52, u53, u54, by simp only [Act.put, List.setIfInBounds_toArray, List.set_cons_zero, List.set_cons_succ], Since.drawn _, (fun h => by cases h), (fun h => by cases h), (fun h => by cases h), (fun h => by cases h), (fun h => by cases h), (fun h => by cases h), (fun h => by cases h), (fun h => by cases h)⟩
          · exact acyc_spec (by kernel_rfl)
          · intro Ls a0 wq i o ho hLi hafter hJ
            obtain ⟨u40, u41, u42, u43, u44, u45, u46, u47, u48, u49, u50, u51, u52, u53, u54, rfl, hS, p0, p1, p2, p3, p4, p5, p6, p14⟩ := hJ
            have hi : i < 15 := (Array.getElem?_eq_some_iff.1 ho).1
            obtain rfl | rfl | rfl | rfl | rfl | rfl | rfl | rfl | rfl | rfl | rfl | rfl | rfl | rfl | rfl : i = 0 ∨ i = 1 ∨ i = 2 ∨ i = 3 ∨ i = 4 ∨ i = 5 ∨ i = 6 ∨ i = 7 ∨ i = 8 ∨ i = 9 ∨ i = 10 ∨ i = 11 ∨ i = 12 ∨ i = 13 ∨ i = 14 := by omega
            · simp only [List.getElem?_toArray, List.getElem?_cons_zero, List.getElem?_cons_succ, Option.some.injEq] at ho
              subst ho
              have P0 := Lib.hid p0
              have P1 := Lib.hid p1
              have P2 := Lib.hid p2
              have P3 := Lib.hid p3
              have P4 := Lib.hid p4
              have P5 := Lib.hid p5
              have P6 := Lib.hid p6
              have P14 := Lib.hid p14
              have HS := Lib.hid hS
              clear hS hLi hafter p0 p1 p2 p3 p4 p5 p6 p14
              simp only [Act.put, List.setIfInBounds_toArray, List.set_cons_zero, List.set_cons_succ]
              go_wp2_with fail
              exact ⟨.slice (some ⟨b, off, none⟩) n ca, u41, u42, u43, u44, u45, u46, u47, u48, u49, u50, u51, u52, u53, u54, by simp only [Act.put, List.setIfInBounds_toArray, List.set_cons_zero, List.set_cons_succ], HS.out, (fun _ => rfl), (fun h => by first | rfl | exact P1.out (by simpa using h)), (fun h => by first | rfl | exact P2.out (by simpa using h)), (fun h => by first | rfl | exact P3.out (by simpa using h)), (fun h => by first | rfl | exact P4.out (by simpa using h)), (fun h => by first | rfl | exact P5.out (by simpa using h)), (fun h => by first | rfl | exact P6.out (by simpa using h)), (fun h => by first | rfl | exact P14.out (by simpa using h))⟩
            · simp only [List.getElem?_toArray, List.getElem?_cons_zero, List.getElem?_cons_succ, Option.some.injEq] at ho
              subst ho
              have P0 := Lib.hid p0
              have P1 := Lib.hid p1
              have P2 := Lib.hid p2
              have P3 := Lib.hid p3
              have P4 := Lib.hid p4
              have P5 := Lib.hid p5
              have P6 := Lib.hid p6
              have P14 := Lib.hid p14
              have HS := Lib.hid hS
              clear hS hLi hafter p0 p1 p2 p3 p4 p5 p6 p14
              simp only [Act.put, List.setIfInBounds_toArray, List.set_cons_zero, List.set_cons_succ]
              go_wp2_with fail
              exact ⟨u40, .int .i64 j, u42, u43, u44, u45, u46, u47, u48, u49, u50, u51, u52, u53, u54, by simp only [Act.put, List.setIfInBounds_toArray, List.set_cons_zero, List.set_cons_succ], HS.out, (fun h => by first | rfl | exact P0.out (by simpa using h)), (fun _ => rfl), (fun h => by first | rfl | exact P2.out (by simpa using h)), (fun h => by first | rfl | exact P3.out (by simpa using h)), (fun h => by first | rfl | exact P4.out (by simpa using h)), (fun h => by first | rfl | exact P5.out (by simpa using h)), (fun h => by first | rfl | exact P6.out (by simpa using h)), (fun h => by first | rfl | exact P14.out (by simpa using h))⟩
            · simp only [List.getElem?_toArray, List.getElem?_cons_zero, List.getElem?_cons_succ, Option.some.injEq] at ho
              subst ho
              obtain rfl := p0 (hafter ⟨0, .data⟩ (by simp) rfl)
              obtain rfl := p1 (hafter ⟨1, .data⟩ (by simp) rfl)
              have P0 := Lib.hid p0
              have P1 := Lib.hid p1
              have P2 := Lib.hid p2
              have P3 := Lib.hid p3
              have P4 := Lib.hid p4
              have P5 := Lib.hid p5
              have P6 := Lib.hid p6
              have P14 := Lib.hid p14
              have HS := Lib.hid hS
              clear hS hLi hafter p0 p1 p2 p3 p4 p5 p6 p14
              simp only [Act.put, List.setIfInBounds_toArray, List.set_cons_zero, List.set_cons_succ]
              go_wp2_with fail
              exact ⟨.slice (some ⟨b, off, none⟩) n ca, .int .i64 j, .pointer (some ⟨b, off + j * 3, none⟩), u43, u44, u45, u46, u47, u48, u49, u50, u51, u52, u53, u54, by simp only [Act.put, List.setIfInBounds_toArray, List.set_cons_zero, List.set_cons_succ], HS.out, (fun h => by first | rfl | exact P0.out (by simpa using h)), (fun h => by first | rfl | exact P1.out (by simpa using h)), (fun _ => rfl), (fun h => by first | rfl | exact P3.out (by simpa using h)), (fun h => by first | rfl | exact P4.out (by simpa using h)), (fun h => by first | rfl | exact P5.out (by simpa using h)), (fun h => by first | rfl | exact P6.out (by simpa using h)), (fun h => by first | rfl | exact P14.out (by simpa using h))⟩
            · simp only [List.getElem?_toArray, List.getElem?_cons_zero, List.getElem?_cons_succ, Option.some.injEq] at ho
              subst ho
              obtain rfl := p2 (hafter ⟨2, .data⟩ (by simp) rfl)
              have c0 := (hS.1.cell (p := ⟨b, off + j * 3, none⟩) hla).trans ga0
              have c1 := (hS.1.cell (p := ⟨b, off + j * 3 + 1, none⟩) hla).trans ga1
              have c2 := (hS.1.cell (p := ⟨b, off + j * 3 + 2, none⟩) hla).trans ga2
              have P0 := Lib.hid p0
              have P1 := Lib.hid p1
              have P2 := Lib.hid p2
              have P3 := Lib.hid p3
              have P4 := Lib.hid p4
              have P5 := Lib.hid p5
              have P6 := Lib.hid p6
              have P14 := Lib.hid p14
              have HS := Lib.hid hS
              clear hS hLi hafter p0 p1 p2 p3 p4 p5 p6 p14
              simp only [Act.put, List.setIfInBounds_toArray, List.set_cons_zero, List.set_cons_succ]
              go_wp2_with fail
              exact ⟨u40, u41, .pointer (some ⟨b, off + j * 3, none⟩), .agg #[.bool sk, .slice ra rn rc, .slice da dn dc], u44, u45, u46, u47, u48, u49, u50, u51, u52, u53, u54, by simp only [Act.put, List.setIfInBounds_toArray, List.set_cons_zero, List.set_cons_succ], HS.out, (fun h => by first | rfl | exact P0.out (by simpa using h)), (fun h => by first | rfl | exact P1.out (by simpa using h)), (fun h => by first | rfl | exact P2.out (by simpa using h)), (fun _ => rfl), (fun h => by first | rfl | exact P4.out (by simpa using h)), (fun h => by first | rfl | exact P5.out (by simpa using h)), (fun h => by first | rfl | exact P6.out (by simpa using h)), (fun h => by first | rfl | exact P14.out (by simpa using h))⟩
            · simp only [List.getElem?_toArray, List.getElem?_cons_zero, List.getElem?_cons_succ, Option.some.injEq] at ho
              subst ho
              obtain rfl := p3 (hafter ⟨3, .data⟩ (by simp) rfl)
              have P0 := Lib.hid p0
              have P1 := Lib.hid p1
              have P2 := Lib.hid p2
              have P3 := Lib.hid p3
              have P4 := Lib.hid p4
              have P5 := Lib.hid p5
              have P6 := Lib.hid p6
              have P14 := Lib.hid p14
              have HS := Lib.hid hS
              clear hS hLi hafter p0 p1 p2 p3 p4 p5 p6 p14
              simp only [Act.put, List.setIfInBounds_toArray, List.set_cons_zero, List.set_cons_succ]
              go_wp2_with fail
              refine (rsign_any (N := N) _ _ _ _ _ _ _ 2 (q j) _ (by have := HS.out.2; omega) (HR.out.below HS.out.1)).mono ?_
              rw [HSG.out]
              rintro e wn ⟨rfl, hb⟩
              have Hb := Lib.hid hb
              clear hb
              go_wp2_with fail
              exact ⟨u40, u41, u42, .agg #[.bool sk, .slice ra rn rc, .slice da dn dc], .int .i64 σ, u45, u46, u47, u48, u49, u50, u51, u52, u53, u54, by simp only [Act.put, List.setIfInBounds_toArray, List.set_cons_zero, List.set_cons_succ], HS.out.below Hb.out, (fun h => by first | rfl | exact P0.out (by simpa using h)), (fun h => by first | rfl | exact P1.out (by simpa using h)), (fun h => by first | rfl | exact P2.out (by simpa using h)), (fun h => by first | rfl | exact P3.out (by simpa using h)), (fun _ => rfl), (fun h => by first | rfl | exact P5.out (by simpa using h)), (fun h => by first | rfl | exact P6.out (by simpa using h)), (fun h => by first | rfl | exact P14.out (by simpa using h))⟩
            · simp only [List.getElem?_toArray, List.getElem?_cons_zero, List.getElem?_cons_succ, Option.some.injEq] at ho
              subst ho
              obtain rfl := p4 (hafter ⟨4, .data⟩ (by simp) rfl)
              have P0 := Lib.hid p0
              have P1 := Lib.hid p1
              have P2 := Lib.hid p2
              have P3 := Lib.hid p3
              have P4 := Lib.hid p4
              have P5 := Lib.hid p5
              have P6 := Lib.hid p6
              have P14 := Lib.hid p14
              have HS := Lib.hid hS
              clear hS hLi hafter p0 p1 p2 p3 p4 p5 p6 p14
              simp only [Act.put, List.setIfInBounds_toArray, List.set_cons_zero, List.set_cons_succ]
              go_wp2_with fail
              exact ⟨u40, u41, u42, u43, .int .i64 σ, .bool true, u46, u47, u48, u49, u50, u51, u52, u53, u54, by simp only [Act.put, List.setIfInBounds_toArray, List.set_cons_zero, List.set_cons_succ], HS.out, (fun h => by first | rfl | exact P0.out (by simpa using h)), (fun h => by first | rfl | exact P1.out (by simpa using h)), (fun h => by first | rfl | exact P2.out (by simpa using h)), (fun h => by first | rfl | exact P3.out (by simpa using h)), (fun h => by first | rfl | exact P4.out (by simpa using h)), (fun _ => rfl), (fun h => by first | rfl | exact P6.out (by simpa using h)), (fun h => by first | rfl | exact P14.out (by simpa using h))⟩
            · simp only [List.getElem?_toArray, List.getElem?_cons_zero, List.getElem?_cons_succ, Option.some.injEq] at ho
              subst ho
              obtain rfl := p5 (hafter ⟨5, .data⟩ (by simp) rfl)
              have P0 := Lib.hid p0
              have P1 := Lib.hid p1
              have P2 := Lib.hid p2
              have P3 := Lib.hid p3
              have P4 := Lib.hid p4
              have P5 := Lib.hid p5
              have P6 := Lib.hid p6
              have P14 := Lib.hid p14
              have HS := Lib.hid hS
              clear hS hLi hafter p0 p1 p2 p3 p4 p5 p6 p14
              simp only [Act.put, List.setIfInBounds_toArray, List.set_cons_zero, List.set_cons_succ]
              go_wp2_with fail
              exact ⟨u40, u41, u42, u43, u44, .bool true, .bool true, u47, u48, u49, u50, u51, u52, u53, u54, by simp only [Act.put, List.setIfInBounds_toArray, List.set_cons_zero, List.set_cons_succ], HS.out, (fun h => by first | rfl | exact P0.out (by simpa using h)), (fun h => by first | rfl | exact P1.out (by simpa using h)), (fun h => by first | rfl | exact P2.out (by simpa using h)), (fun h => by first | rfl | exact P3.out (by simpa using h)), (fun h => by first | rfl | exact P4.out (by simpa using h)), (fun h => by first | rfl | exact P5.out (by simpa using h)), (fun _ => rfl), (fun h => by first | rfl | exact P14.out (by simpa using h))⟩
            · simp only [List.getElem?_toArray, List.getElem?_cons_zero, List.getElem?_cons_succ, Option.some.injEq] at ho
              subst ho
              obtain rfl := p6 (hafter ⟨6, .guard⟩ (by simp) rfl)
              have P0 := Lib.hid p0
              have P1 := Lib.hid p1
              have P2 := Lib.hid p2
              have P3 := Lib.hid p3
              have P4 := Lib.hid p4
              have P5 := Lib.hid p5
              have P6 := Lib.hid p6
              have P14 := Lib.hid p14
              have HS := Lib.hid hS
              clear hS hLi hafter p0 p1 p2 p3 p4 p5 p6 p14
              simp only [Act.put, List.setIfInBounds_toArray, List.set_cons_zero, List.set_cons_succ]
              go_wp2_with fail
              exact ⟨u40, u41, u42, u43, u44, u45, .bool true, undef, u48, u49, u50, u51, u52, u53, u54, by simp only [Act.put, List.setIfInBounds_toArray, List.set_cons_zero, List.set_cons_succ], HS.out, (fun h => by first | rfl | exact P0.out (by simpa using h)), (fun h => by first | rfl | exact P1.out (by simpa using h)), (fun h => by first | rfl | exact P2.out (by simpa using h)), (fun h => by first | rfl | exact P3.out (by simpa using h)), (fun h => by first | rfl | exact P4.out (by simpa using h)), (fun h => by first | rfl | exact P5.out (by simpa using h)), (fun h => by first | rfl | exact P6.out (by simpa using h)), (fun h => by first | rfl | exact P14.out (by simpa using h))⟩
            · simp only [List.getElem?_toArray, List.getElem?_cons_zero, List.getElem?_cons_succ, Option.some.injEq] at ho
              subst ho
              obtain rfl := p6 (hafter ⟨6, .guard⟩ (by simp) rfl)
              have P0 := Lib.hid p0
              have P1 := Lib.hid p1
              have P2 := Lib.hid p2
              have P3 := Lib.hid p3
              have P4 := Lib.hid p4
              have P5 := Lib.hid p5
              have P6 := Lib.hid p6
              have P14 := Lib.hid p14
              have HS := Lib.hid hS
              clear hS hLi hafter p0 p1 p2 p3 p4 p5 p6 p14
              simp only [Act.put, List.setIfInBounds_toArray, List.set_cons_zero, List.set_cons_succ]
              go_wp2_with fail
              exact ⟨u40, u41, u42, u43, u44, u45, .bool true, u47, undef, u49, u50, u51, u52, u53, u54, by simp only [Act.put, List.setIfInBounds_toArray, List.set_cons_zero, List.set_cons_succ], HS.out, (fun h => by first | rfl | exact P0.out (by simpa using h)), (fun h => by first | rfl | exact P1.out (by simpa using h)), (fun h => by first | rfl | exact P2.out (by simpa using h)), (fun h => by first | rfl | exact P3.out (by simpa using h)), (fun h => by first | rfl | exact P4.out (by simpa using h)), (fun h => by first | rfl | exact P5.out (by simpa using h)), (fun h => by first | rfl | exact P6.out (by simpa using h)), (fun h => by first | rfl | exact P14.out (by simpa using h))⟩
            · simp only [List.getElem?_toArray, List.getElem?_cons_zero, List.getElem?_cons_succ, Option.some.injEq] at ho
              subst ho
              obtain rfl := p6 (hafter ⟨6, .guard⟩ (by simp) rfl)
              have P0 := Lib.hid p0
              have P1 := Lib.hid p1
              have P2 := Lib.hid p2
              have P3 := Lib.hid p3
              have P4 := Lib.hid p4
              have P5 := Lib.hid p5
              have P6 := Lib.hid p6
              have P14 := Lib.hid p14
              have HS := Lib.hid hS
              clear hS hLi hafter p0 p1 p2 p3 p4 p5 p6 p14
              simp only [Act.put, List.setIfInBounds_toArray, List.set_cons_zero, List.set_cons_succ]
              go_wp2_with fail
              exact ⟨u40, u41, u42, u43, u44, u45, .bool true, u47, u48, undef, u50, u51, u52, u53, u54, by simp only [Act.put, List.setIfInBounds_toArray, List.set_cons_zero, List.set_cons_succ], HS.out, (fun h => by first | rfl | exact P0.out (by simpa using h)), (fun h => by first | rfl | exact P1.out (by simpa using h)), (fun h => by first | rfl | exact P2.out (by simpa using h)), (fun h => by first | rfl | exact P3.out (by simpa using h)), (fun h => by first | rfl | exact P4.out (by simpa using h)), (fun h => by first | rfl | exact P5.out (by simpa using h)), (fun h => by first | rfl | exact P6.out (by simpa using h)), (fun h => by first | rfl | exact P14.out (by simpa using h))⟩
            · simp only [List.getElem?_toArray, List.getElem?_cons_zero, List.getElem?_cons_succ, Option.some.injEq] at ho
              subst ho
              obtain rfl := p6 (hafter ⟨6, .guard⟩ (by simp) rfl)
              have P0 := Lib.hid p0
              have P1 := Lib.hid p1
              have P2 := Lib.hid p2
              have P3 := Lib.hid p3
              have P4 := Lib.hid p4
              have P5 := Lib.hid p5
              have P6 := Lib.hid p6
              have P14 := Lib.hid p14
              have HS := Lib.hid hS
              clear hS hLi hafter p0 p1 p2 p3 p4 p5 p6 p14
              simp only [Act.put, List.setIfInBounds_toArray, List.set_cons_zero, List.set_cons_succ]
              go_wp2_with fail
              exact ⟨u40, u41, u42, u43, u44, u45, .bool true, u47, u48, u49, undef, u51, u52, u53, u54, by simp only [Act.put, List.setIfInBounds_toArray, List.set_cons_zero, List.set_cons_succ], HS.out, (fun h => by first | rfl | exact P0.out (by simpa using h)), (fun h => by first | rfl | exact P1.out (by simpa using h)), (fun h => by first | rfl | exact P2.out (by simpa using h)), (fun h => by first | rfl | exact P3.out (by simpa using h)), (fun h => by first | rfl | exact P4.out (by simpa using h)), (fun h => by first | rfl | exact P5.out (by simpa using h)), (fun h => by first | rfl | exact P6.out (by simpa using h)), (fun h => by first | rfl | exact P14.out (by simpa using h))⟩
            · simp only [List.getElem?_toArray, List.getElem?_cons_zero, List.getElem?_cons_succ, Option.some.injEq] at ho
              subst ho
              obtain rfl := p6 (hafter ⟨6, .guard⟩ (by simp) rfl)
              have P0 := Lib.hid p0
              have P1 := Lib.hid p1
              have P2 := Lib.hid p2
              have P3 := Lib.hid p3
              have P4 := Lib.hid p4
              have P5 := Lib.hid p5
              have P6 := Lib.hid p6
              have P14 := Lib.hid p14
              have HS := Lib.hid hS
              clear hS hLi hafter p0 p1 p2 p3 p4 p5 p6 p14
              simp only [Act.put, List.setIfInBounds_toArray, List.set_cons_zero, List.set_cons_succ]
              go_wp2_with fail
              exact ⟨u40, u41, u42, u43, u44, u45, .bool true, u47, u48, u49, u50, undef, u52, u53, u54, by simp only [Act.put, List.setIfInBounds_toArray, List.set_cons_zero, List.set_cons_succ], HS.out, (fun h => by first | rfl | exact P0.out (by simpa using h)), (fun h => by first | rfl | exact P1.out (by simpa using h)), (fun h => by first | rfl | exact P2.out (by simpa using h)), (fun h => by first | rfl | exact P3.out (by simpa using h)), (fun h => by first | rfl | exact P4.out (by simpa using h)), (fun h => by first | rfl | exact P5.out (by simpa using h)), (fun h => by first | rfl | exact P6.out (by simpa using h)), (fun h => by first | rfl | exact P14.out (by simpa using h))⟩
            · simp only [List.getElem?_toArray, List.getElem?_cons_zero, List.getElem?_cons_succ, Option.some.injEq] at ho
              subst ho
              obtain rfl := p6 (hafter ⟨6, .guard⟩ (by simp) rfl)
              have P0 := Lib.hid p0
              have P1 := Lib.hid p1
              have P2 := Lib.hid p2
              have P3 := Lib.hid p3
              have P4 := Lib.hid p4
              have P5 := Lib.hid p5
              have P6 := Lib.hid p6
              have P14 := Lib.hid p14
              have HS := Lib.hid hS
              clear hS hLi hafter p0 p1 p2 p3 p4 p5 p6 p14
              simp only [Act.put, List.setIfInBounds_toArray, List.set_cons_zero, List.set_cons_succ]
              go_wp2_with fail
              exact ⟨u40, u41, u42, u43, u44, u45, .bool true, u47, u48, u49, u50, u51, undef, u53, u54, by simp only [Act.put, List.setIfInBounds_toArray, List.set_cons_zero, List.set_cons_succ], HS.out, (fun h => by first | rfl | exact P0.out (by simpa using h)), (fun h => by first | rfl | exact P1.out (by simpa using h)), (fun h => by first | rfl | exact P2.out (by simpa using h)), (fun h => by first | rfl | exact P3.out (by simpa using h)), (fun h => by first | rfl | exact P4.out (by simpa using h)), (fun h => by first | rfl | exact P5.out (by simpa using h)), (fun h => by first | rfl | exact P6.out (by simpa using h)), (fun h => by first | rfl | exact P14.out (by simpa using h))⟩
            · simp only [List.getElem?_toArray, List.getElem?_cons_zero, List.getElem?_cons_succ, Option.some.injEq] at ho
              subst ho
              obtain rfl := p6 (hafter ⟨6, .guard⟩ (by simp) rfl)
              have P0 := Lib.hid p0
              have P1 := Lib.hid p1
              have P2 := Lib.hid p2
              have P3 := Lib.hid p3
              have P4 := Lib.hid p4
              have P5 := Lib.hid p5
              have P6 := Lib.hid p6
              have P14 := Lib.hid p14
              have HS := Lib.hid hS
              clear hS hLi hafter p0 p1 p2 p3 p4 p5 p6 p14
              simp only [Act.put, List.setIfInBounds_toArray, List.set_cons_zero, List.set_cons_succ]
              go_wp2_with fail
              exact ⟨u40, u41, u42, u43, u44, u45, .bool true, u47, u48, u49, u50, u51, u52, undef, u54, by simp only [Act.put, List.setIfInBounds_toArray, List.set_cons_zero, List.set_cons_succ], HS.out, (fun h => by first | rfl | exact P0.out (by simpa using h)), (fun h => by first | rfl | exact P1.out (by simpa using h)), (fun h => by first | rfl | exact P2.out (by simpa using h)), (fun h => by first | rfl | exact P3.out (by simpa using h)), (fun h => by first | rfl | exact P4.out (by simpa using h)), (fun h => by first | rfl | exact P5.out (by simpa using h)), (fun h => by first | rfl | exact P6.out (by simpa using h)), (fun h => by first | rfl | exact P14.out (by simpa using h))⟩
            · simp only [List.getElem?_toArray, List.getElem?_cons_zero, List.getElem?_cons_succ, Option.some.injEq] at ho
              subst ho
              obtain rfl := p6 (hafter ⟨6, .data⟩ (by simp) rfl)
              have P0 := Lib.hid p0
              have P1 := Lib.hid p1
              have P2 := Lib.hid p2
              have P3 := Lib.hid p3
              have P4 := Lib.hid p4
              have P5 := Lib.hid p5
              have P6 := Lib.hid p6
              have P14 := Lib.hid p14
              have HS := Lib.hid hS
              clear hS hLi hafter p0 p1 p2 p3 p4 p5 p6 p14
              simp only [Act.put, List.setIfInBounds_toArray, List.set_cons_zero, List.set_cons_succ]
              go_wp2_with fail
              exact ⟨u40, u41, u42, u43, u44, u45, .bool true, u47, u48, u49, u50, u51, u52, u53, .bool true, by simp only [Act.put, List.setIfInBounds_toArray, List.set_cons_zero, List.set_cons_succ], HS.out, (fun h => by first | rfl | exact P0.out (by simpa using h)), (fun h => by first | rfl | exact P1.out (by simpa using h)), (fun h => by first | rfl | exact P2.out (by simpa using h)), (fun h => by first | rfl | exact P3.out (by simpa using h)), (fun h => by first | rfl | exact P4.out (by simpa using h)), (fun h => by first | rfl | exact P5.out (by simpa using h)), (fun h => by first | rfl | exact P6.out (by simpa using h)), (fun _ => rfl)⟩
          · intro Ls a0 wq hall hJ
            obtain ⟨u40, u41, u42, u43, u44, u45, u46, u47, u48, u49, u50, u51, u52, u53, u54, rfl, hS, p0, p1, p2, p3, p4, p5, p6, p14⟩ := hJ
            replace p0 := p0 (hall 0 (by decide))
            replace p1 := p1 (hall 1 (by decide))
            replace p2 := p2 (hall 2 (by decide))
            replace p3 := p3 (hall 3 (by decide))
            replace p4 := p4 (hall 4 (by decide))
            replace p5 := p5 (hall 5 (by decide))
            replace p6 := p6 (hall 6 (by decide))
            replace p14 := p14 (hall 14 (by decide))
            subst p14
            have HS := Lib.hid hS
            clear hS p0 p1 p2 p3 p4 p5 p6
            simp only [Act.put, List.setIfInBounds_toArray, List.set_cons_zero, List.set_cons_succ]
            go_wp2_with fail
            go_ret
            exact ⟨rfl, HBW.out.trans ((HB.out.trans (HS.out.1.mono hs0)).mono hsW)⟩
        · have h1 : 0 ≤ q j := by grind
          by_cases h2 : 1 < q j
          · have HB := HB7
            have hs0 := hs7
            clear HBx
            have d1 : decide (0 < κ) = true := by rw [← hκ, HPO1.out]; exact cmp_gtF _ _ _ (decide_eq_true h2)
            have d0 : decide (σ < 0) = false := by rw [← hσ]; exact sgn_ge2 _ h1
            clear hσ hκ h1 h2
            go_wp2_with fail
            go_region_held3 (fun w' => w'.cell? ⟨b, off + j * 3, none⟩ = some (.bool sk) ∧ w'.cell? ⟨b, off + j * 3 + 1, none⟩ = some (.slice ra rn rc) ∧ w'.cell? ⟨b, off + j * 3 + 2, none⟩ = some (.slice da dn dc) ∧ w'.cell? ⟨wb.heap.size, 0, none⟩ = some (.bool (decide ((po).num < 0))) ∧ w'.cell? ⟨wb.heap.size, 1, none⟩ = some (.slice ro (nlen (po).num.natAbs) co) ∧ w'.cell? ⟨wb.heap.size, 2, none⟩ = some (.slice ro2 (nlen (po).den) co2))
              (first | (go_keep; done) | ((try dsimp only); (repeat' apply And.intro) <;> (first | (go_keep; done) | (exact cell_keep_alloc_drew (by first | omega | (simp; omega)) (by first | assumption | go_simp)) | (exact cell_keep_alloc (by first | omega | (simp; omega)) (by first | assumption | go_simp)) | (rw [cell_set2 _ _ _ _ _ _ _ _ (by omega)]; assumption) | (rw [cell_set3 _ _ _ _ _ _ _ _ _ _ (by omega)]; assumption))))
              (first
                | (go_at_call 12; refine (rsign_any (N := N) _ _ _ _ _ _ _ 2 (q j) _ (by exact hN) (by exact HR.out)).mono ?_; rw [HSG.out]; rintro e wx ⟨rfl, hb⟩; replace hb : Below wi.heap.size wi wx := (by first | exact hb | exact bel_of_drew hb); have ga0' : wx.cell? ⟨b, off + j * 3, none⟩ = some (.bool sk) := (hb.cell (p := ⟨b, off + j * 3, none⟩) hla).trans ga0; have ga1' : wx.cell? ⟨b, off + j * 3 + 1, none⟩ = some (.slice ra rn rc) := (hb.cell (p := ⟨b, off + j * 3 + 1, none⟩) hla).trans ga1; have ga2' : wx.cell? ⟨b, off + j * 3 + 2, none⟩ = some (.slice da dn dc) := (hb.cell (p := ⟨b, off + j * 3 + 2, none⟩) hla).trans ga2; have k_O_0' : wx.cell? ⟨wb.heap.size, 0, none⟩ = some (.bool (decide ((po).num < 0))) := (hb.cell (p := ⟨wb.heap.size, 0, none⟩) hl_O).trans k_O_0; have k_O_1' : wx.cell? ⟨wb.heap.size, 1, none⟩ = some (.slice ro (nlen (po).num.natAbs) co) := (hb.cell (p := ⟨wb.heap.size, 1, none⟩) hl_O).trans k_O_1; have k_O_2' : wx.cell? ⟨wb.heap.size, 2, none⟩ = some (.slice ro2 (nlen (po).den) co2) := (hb.cell (p := ⟨wb.heap.size, 2, none⟩) hl_O).trans k_O_2; have hla' : b < wx.heap.size := Nat.lt_of_lt_of_le hla hb.size; have hl_O' : wb.heap.size < wx.heap.size := Nat.lt_of_lt_of_le hl_O hb.size; clear ga0 ga1 ga2 hla hl_O k_O_0 k_O_1 k_O_2; have ga0 := ga0'; have ga1 := ga1'; have ga2 := ga2'; have hla := hla'; have hl_O := hl_O'; have k_O_0 := k_O_0'; have k_O_1 := k_O_1'; have k_O_2 := k_O_2'; clear ga0' ga1' ga2' hla' hl_O' k_O_0' k_O_1' k_O_2'; have hs_wx : wi.heap.size ≤ wx.heap.size := hb.size; replace HR := Lib.hid (HR.out.below hb); replace HO1 := Lib.hid (HO1.out.below hb); replace HO2 := Lib.hid (HO2.out.below hb); replace HB := Lib.hid (HB.out.trans (hb.mono hs0)); replace hN : N ≤ wx.heap.size := Nat.le_trans hN hb.size; replace hs0 : W1.heap.size ≤ wx.heap.size := Nat.le_trans hs0 hb.size; clear hb; skip)
                | (go_at_call 13; refine (rcmp_any (N := N) _ _ _ _ _ _ _ _ _ _ _ _ _ _ 2 2000 (q j) po _ (by exact hN) (by exact HR.out) (by exact Rt.of_norm HO1.out HO2.out 2000 HZO.out) (by omega) (by omega)).mono ?_; rw [HK.out]; rintro e wy ⟨rfl, hb⟩; replace hb : Below wx.heap.size wx wy := (by first | exact hb | exact bel_of_drew hb); have ga0' : wy.cell? ⟨b, off + j * 3, none⟩ = some (.bool sk) := (hb.cell (p := ⟨b, off + j * 3, none⟩) hla).trans ga0; have ga1' : wy.cell? ⟨b, off + j * 3 + 1, none⟩ = some (.slice ra rn rc) := (hb.cell (p := ⟨b, off + j * 3 + 1, none⟩) hla).trans ga1; have ga2' : wy.cell? ⟨b, off + j * 3 + 2, none⟩ = some (.slice da dn dc) := (hb.cell (p := ⟨b, off + j * 3 + 2, none⟩) hla).trans ga2; have k_O_0' : wy.cell? ⟨wb.heap.size, 0, none⟩ = some (.bool (decide ((po).num < 0))) := (hb.cell (p := ⟨wb.heap.size, 0, none⟩) hl_O).trans k_O_0; have k_O_1' : wy.cell? ⟨wb.heap.size, 1, none⟩ = some (.slice ro (nlen (po).num.natAbs) co) := (hb.cell (p := ⟨wb.heap.size, 1, none⟩) hl_O).trans k_O_1; have k_O_2' : wy.cell? ⟨wb.heap.size, 2, none⟩ = some (.slice ro2 (nlen (po).den) co2) := (hb.cell (p := ⟨wb.heap.size, 2, none⟩) hl_O).trans k_O_2; have hla' : b < wy.heap.size := Nat.lt_of_lt_of_le hla hb.size; have hl_O' : wb.heap.size < wy.heap.size := Nat.lt_of_lt_of_le hl_O hb.size; clear ga0 ga1 ga2 hla hl_O k_O_0 k_O_1 k_O_2; have ga0 := ga0'; have ga1 := ga1'; have ga2 := ga2'; have hla := hla'; have hl_O := hl_O'; have k_O_0 := k_O_0'; have k_O_1 := k_O_1'; have k_O_2 := k_O_2'; clear ga0' ga1' ga2' hla' hl_O' k_O_0' k_O_1' k_O_2'; have hs_wy : wx.heap.size ≤ wy.heap.size := hb.size; replace HR := Lib.hid (HR.out.below hb); replace HO1 := Lib.hid (HO1.out.below hb); replace HO2 := Lib.hid (HO2.out.below hb); replace HB := Lib.hid (HB.out.trans (hb.mono hs0)); replace hN : N ≤ wy.heap.size := Nat.le_trans hN hb.size; replace hs0 : W1.heap.size ≤ wy.heap.size := Nat.le_trans hs0 hb.size; clear hb; skip))
            go_wp2_with fail
            go_ret
            exact ⟨rfl, HBW.out.trans (HB.out.mono hsW)⟩
          · have HB := HB7
            have hs0 := hs7
            clear HBx
            have d1 : decide (0 < κ) = false := by rw [← hκ, HPO1.out]; exact cmp_gtF _ _ _ (decide_eq_false h2)
            have d0 : decide (σ < 0) = false := by rw [← hσ]; exact sgn_ge2 _ h1
            have HPB := Lib.hid (show prb (q j) = true by unfold prb; exact decide_eq_true ⟨h1, by grind⟩)
            clear hσ hκ h1 h2
            go_wp2_with fail
            go_region_held3 (fun w' => w'.cell? ⟨b, off + j * 3, none⟩ = some (.bool sk) ∧ w'.cell? ⟨b, off + j * 3 + 1, none⟩ = some (.slice ra rn rc) ∧ w'.cell? ⟨b, off + j * 3 + 2, none⟩ = some (.slice da dn dc) ∧ w'.cell? ⟨wb.heap.size, 0, none⟩ = some (.bool (decide ((po).num < 0))) ∧ w'.cell? ⟨wb.heap.size, 1, none⟩ = some (.slice ro (nlen (po).num.natAbs) co) ∧ w'.cell? ⟨wb.heap.size, 2, none⟩ = some (.slice ro2 (nlen (po).den) co2))
              (first | (go_keep; done) | ((try dsimp only); (repeat' apply And.intro) <;> (first | (go_keep; done) | (exact cell_keep_alloc_drew (by first | omega | (simp; omega)) (by first | assumption | go_simp)) | (exact cell_keep_alloc (by first | omega | (simp; omega)) (by first | assumption | go_simp)) | (rw [cell_set2 _ _ _ _ _ _ _ _ (by omega)]; assumption) | (rw [cell_set3 _ _ _ _ _ _ _ _ _ _ (by omega)]; assumption))))
              (first
                | (go_at_call 12; refine (rsign_any (N := N) _ _ _ _ _ _ _ 2 (q j) _ (by exact hN) (by exact HR.out)).mono ?_; rw [HSG.out]; rintro e wx ⟨rfl, hb⟩; replace hb : Below wi.heap.size wi wx := (by first | exact hb | exact bel_of_drew hb); have ga0' : wx.cell? ⟨b, off + j * 3, none⟩ = some (.bool sk) := (hb.cell (p := ⟨b, off + j * 3, none⟩) hla).trans ga0; have ga1' : wx.cell? ⟨b, off + j * 3 + 1, none⟩ = some (.slice ra rn rc) := (hb.cell (p := ⟨b, off + j * 3 + 1, none⟩) hla).trans ga1; have ga2' : wx.cell? ⟨b, off + j * 3 + 2, none⟩ = some (.slice da dn dc) := (hb.cell (p := ⟨b, off + j * 3 + 2, none⟩) hla).trans ga2; have k_O_0' : wx.cell? ⟨wb.heap.size, 0, none⟩ = some (.bool (decide ((po).num < 0))) := (hb.cell (p := ⟨wb.heap.size, 0, none⟩) hl_O).trans k_O_0; have k_O_1' : wx.cell? ⟨wb.heap.size, 1, none⟩ = some (.slice ro (nlen (po).num.natAbs) co) := (hb.cell (p := ⟨wb.heap.size, 1, none⟩) hl_O).trans k_O_1; have k_O_2' : wx.cell? ⟨wb.heap.size, 2, none⟩ = some (.slice ro2 (nlen (po).den) co2) := (hb.cell (p := ⟨wb.heap.size, 2, none⟩) hl_O).trans k_O_2; have hla' : b < wx.heap.size := Nat.lt_of_lt_of_le hla hb.size; have hl_O' : wb.heap.size < wx.heap.size := Nat.lt_of_lt_of_le hl_O hb.size; clear ga0 ga1 ga2 hla hl_O k_O_0 k_O_1 k_O_2; have ga0 := ga0'; have ga1 := ga1'; have ga2 := ga2'; have hla := hla'; have hl_O := hl_O'; have k_O_0 := k_O_0'; have k_O_1 := k_O_1'; have k_O_2 := k_O_2'; clear ga0' ga1' ga2' hla' hl_O' k_O_0' k_O_1' k_O_2'; have hs_wx : wi.heap.size ≤ wx.heap.size := hb.size; replace HR := Lib.hid (HR.out.below hb); replace HO1 := Lib.hid (HO1.out.below hb); replace HO2 := Lib.hid (HO2.out.below hb); replace HB := Lib.hid (HB.out.trans (hb.mono hs0)); replace hN : N ≤ wx.heap.size := Nat.le_trans hN hb.size; replace hs0 : W1.heap.size ≤ wx.heap.size := Nat.le_trans hs0 hb.size; clear hb; skip)
                | (go_at_call 13; refine (rcmp_any (N := N) _ _ _ _ _ _ _ _ _ _ _ _ _ _ 2 2000 (q j) po _ (by exact hN) (by exact HR.out) (by exact Rt.of_norm HO1.out HO2.out 2000 HZO.out) (by omega) (by omega)).mono ?_; rw [HK.out]; rintro e wy ⟨rfl, hb⟩; replace hb : Below wx.heap.size wx wy := (by first | exact hb | exact bel_of_drew hb); have ga0' : wy.cell? ⟨b, off + j * 3, none⟩ = some (.bool sk) := (hb.cell (p := ⟨b, off + j * 3, none⟩) hla).trans ga0; have ga1' : wy.cell? ⟨b, off + j * 3 + 1, none⟩ = some (.slice ra rn rc) := (hb.cell (p := ⟨b, off + j * 3 + 1, none⟩) hla).trans ga1; have ga2' : wy.cell? ⟨b, off + j * 3 + 2, none⟩ = some (.slice da dn dc) := (hb.cell (p := ⟨b, off + j * 3 + 2, none⟩) hla).trans ga2; have k_O_0' : wy.cell? ⟨wb.heap.size, 0, none⟩ = some (.bool (decide ((po).num < 0))) := (hb.cell (p := ⟨wb.heap.size, 0, none⟩) hl_O).trans k_O_0; have k_O_1' : wy.cell? ⟨wb.heap.size, 1, none⟩ = some (.slice ro (nlen (po).num.natAbs) co) := (hb.cell (p := ⟨wb.heap.size, 1, none⟩) hl_O).trans k_O_1; have k_O_2' : wy.cell? ⟨wb.heap.size, 2, none⟩ = some (.slice ro2 (nlen (po).den) co2) := (hb.cell (p := ⟨wb.heap.size, 2, none⟩) hl_O).trans k_O_2; have hla' : b < wy.heap.size := Nat.lt_of_lt_of_le hla hb.size; have hl_O' : wb.heap.size < wy.heap.size := Nat.lt_of_lt_of_le hl_O hb.size; clear ga0 ga1 ga2 hla hl_O k_O_0 k_O_1 k_O_2; have ga0 := ga0'; have ga1 := ga1'; have ga2 := ga2'; have hla := hla'; have hl_O := hl_O'; have k_O_0 := k_O_0'; have k_O_1 := k_O_1'; have k_O_2 := k_O_2'; clear ga0' ga1' ga2' hla' hl_O' k_O_0' k_O_1' k_O_2'; have hs_wy : wx.heap.size ≤ wy.heap.size := hb.size; replace HR := Lib.hid (HR.out.below hb); replace HO1 := Lib.hid (HO1.out.below hb); replace HO2 := Lib.hid (HO2.out.below hb); replace HB := Lib.hid (HB.out.trans (hb.mono hs0)); replace hN : N ≤ wy.heap.size := Nat.le_trans hN hb.size; replace hs0 : W1.heap.size ≤ wy.heap.size := Nat.le_trans hs0 hb.size; clear hb; skip))
            go_wp2_with fail
            go_roundw
            case rel => exact ⟨j + 1, by omega, by go_num, Lib.hid (all_succ HIN.out HPB.out), HB.out⟩
            case measure => simp [intOf]; omega
      · exfalso
        obtain rfl : n = j := by omega
        have h1 := HC.out
        unfold chkF at h1
        rw [if_neg (by omega), if_pos HIN.out] at h1
        exact absurd h1 (by decide)

theorem made_cell (n o : Nat) (w : World) (h : o < n * 3) : (w.alloc (.cells (madeCells #[.bool false, .slice none 0 0, .slice none 0 0] (n * 3)) 30)).cell? ⟨w.heap.size, o, none⟩ = some ((#[.bool false, .slice none 0 0, .slice none 0 0] : Array Value)[o % 3]!) := by
  unfold World.cell?
  rw [heap_alloc_new]
  simp [madeCells, h]
theorem Re.made (N : Nat) (w : World) (n L : Nat) (hL : 1 ≤ L) : Re N (w.alloc (.cells (madeCells #[.bool false, .slice none 0 0, .slice none 0 0] (n * 3)) 30)) w.heap.size n (fun _ => 0) L := by
  refine ⟨by have := Bk.new w (madeCells #[.bool false, .slice none 0 0, .slice none 0 0] (n * 3)) 30; rwa [size_madeCells] at this, fun i hi => ?_⟩
  refine ⟨false, none, 0, 0, none, 0, 0, ?_, ?_, ?_, hL, Nat.zero_le _, Nat.zero_le _, 0, 0, Nt.zero _ _, Nt.zero _ _, by show mkRat (zI false 0) 0 = 0; decide +kernel⟩
  · rw [made_cell n _ w (by omega), Nat.mul_mod_left]; rfl
  · rw [made_cell n _ w (by omega), show (i * 3 + 1) % 3 = 1 by omega]; rfl
  · rw [made_cell n _ w (by omega), show (i * 3 + 2) % 3 = 2 by omega]; rfl
theorem bit64 : ∀ x : Nat, x < 65 → (bits BinOp.and IntKind.i64 (x : Int) 1 == 1) = decide (x % 2 = 1) := by decide +kernel
theorem bit_and (k j : Nat) (b : Bool) (hk : k ≤ 64) (h : bt k j = b) : (bits BinOp.and IntKind.i64 ((k : Int) / 2 ^ j) 1 == 1) = b := by
  have e : ((k : Int) / 2 ^ j) = ((k / 2 ^ j : Nat) : Int) := by simp
  rw [e, bit64 _ (Nat.lt_of_le_of_lt (Nat.div_le_self _ _) (by omega)), ← h]
  unfold bt
  rw [Nat.testBit_eq_decide_div_mod_eq]
set_option maxHeartbeats 8000000 in
set_option maxRecDepth 20000 in
theorem model_ok {N : Nat} (a : Option Addr) (n ca : Nat) (q : Nat → Rat) (ln ld : Nat → Nat) (w : World) (hN : N ≤ w.heap.size) (h : Ru N w a n ca q ln ld) (hr : Rs N w a n ca q 2) (h6 : n ≤ 6) (hc : chkF q n = 0) :
    Calls Try.prog 4 #[.slice a n ca] w fun e w' => e = .returned (.bool true) ∧ Below w.heap.size w w' := by
  have HU := Lib.hid h
  have bc := h.1
  have bm := h.2.1
  unfold maxLen at bm
  have HA := Lib.hid hr
  have HC := Lib.hid hc
  obtain ⟨h20, hx⟩ := chkF_ok hc
  have HX := Lib.hid hx
  have HLim := Lib.hid hr.lim
  clear h hr hc hx
  obtain ⟨M, hM⟩ : ∃ M, n * n / 4 + 1 = M := ⟨_, rfl⟩
  have hnn : n * n ≤ 36 := Nat.mul_le_mul h6 h6
  have hM1 : M ≤ 10 := by omega
  have eM : ((n : Int) * (n : Int) / 4 + 1) = (M : Int) := by rw [← hM]; rfl
  have eM3 : ((n : Int) * (n : Int)).tdiv 4 + 1 = (M : Int) := by rw [Int.tdiv_eq_ediv_of_nonneg (Int.mul_nonneg (by omega) (by omega))]; exact eM
  have eM2 : wrap64 (((n : Int) * (n : Int)).tdiv 4 + 1) = (M : Int) := by rw [eM3]; unfold wrap64; omega
  have HV := Lib.hid (show valid (nlQ q n) M = true by rw [← hM]; exact valid_nl q n h20 HX.out)
  have HM := Lib.hid hM
  clear hM hnn
  obtain ⟨po, hpo⟩ : ∃ p : Rat, ((1 : Int) : Rat) / ((1 : Int) : Rat) = p := ⟨_, rfl⟩
  have hpo1 : po = 1 := by rw [← hpo]; (first | grind | decide | (simp; done))
  have HPO1 := Lib.hid hpo1
  have HPo := Lib.hid ((mk_div 1 1).trans hpo)
  have HZO := Lib.hid (show rsz po ≤ 2000 by rw [hpo1]; have := rsz_one; omega)
  clear hpo hpo1
  have d6 : decide ((6 : Int) < (n : Int)) = false := by simp; omega
  have d6' : decide (6 < n) = false := by simp; omega
  have hs0 : w.heap.size ≤ w.heap.size := Nat.le_refl _
  have HB := Lib.hid (Below.refl w.heap.size w)
  obtain ⟨i0, hi, hz0, hz1, hz2⟩ := info_parts Try.infoBoolM
  have hmk := make_rats M (by omega)
  go_enter Try.func4, Try.ntmps4
  go_wp2_with fail
  refine (heavy_any (N := N) _ _ _ q ln ld _ HU.out).mono ?_
  rintro e w' ⟨b, rfl, rfl, hv⟩
  cases b
  case true =>
    go_wp2_with fail
    go_ret
    exact ⟨rfl, Below.refl _ _⟩
  case false =>
    clear hv
    go_wp2_with fail
    refine (null_ok (N := N) _ _ _ q 2 _ hN HA.out (by omega) HC.out).mono ?_
    rw [HM.out]
    rintro e wa ⟨bg, rfl, hg0, hg1, hrl, hb⟩
    have hs_wa : w.heap.size ≤ wa.heap.size := hb.size
    replace HB := Lib.hid (HB.out.trans (hb.mono hs0))
    replace hN : N ≤ wa.heap.size := Nat.le_trans hN hb.size
    replace hs0 : w.heap.size ≤ wa.heap.size := Nat.le_trans hs0 hb.size
    replace HA := Lib.hid (HA.out.below hb)
    clear hb
    have HD := Lib.hid hrl
    clear hrl hg0 hg1
    go_wp2_with fail
    refine (rof_any (N := N) 1 1 _ hN (by omega) (by omega) (by omega) (by omega) po HPo.out).mono ?_
    rintro e wb ⟨ro, co, ro2, co2, rfl, hn, hn', hb⟩
    have hs_wb : wa.heap.size ≤ wb.heap.size := hb.size
    replace HB := Lib.hid (HB.out.trans (hb.mono hs0))
    replace hN : N ≤ wb.heap.size := Nat.le_trans hN hb.size
    replace hs0 : w.heap.size ≤ wb.heap.size := Nat.le_trans hs0 hb.size
    replace HA := Lib.hid (HA.out.below hb)
    replace HD := Lib.hid (HD.out.below hb)
    clear hb
    have HO1 := Lib.hid hn
    clear hn
    have HO2 := Lib.hid hn'
    clear hn'
    go_wp2_with fail
    refine block_nameM fun W1 hW => ?_
    have hs_W1 : wb.heap.size ≤ W1.heap.size := by rw [← hW]; (first | omega | (simp; done) | (simp; omega))
    have HK_W1 := Lib.hid (show Kp N wb W1 by rw [← hW]; exact KpA)
    have HL_W1 := Lib.hid (show Below wb.heap.size wb W1 by rw [← hW]; exact BlA)
    have k_O_0 : W1.cell? ⟨wb.heap.size, 0, none⟩ = some (.bool (decide ((po).num < 0))) := by rw [← hW]; (first | (go_simp; done) | (simp; done) | (simp [go_sem]; done) | (simp [go_sem]; done))
    have k_O_1 : W1.cell? ⟨wb.heap.size, 1, none⟩ = some (.slice ro (nlen (po).num.natAbs) co) := by rw [← hW]; (first | (go_simp; done) | (simp; done) | (simp [go_sem]; done) | (simp [go_sem]; done))
    have k_O_2 : W1.cell? ⟨wb.heap.size, 2, none⟩ = some (.slice ro2 (nlen (po).den) co2) := by rw [← hW]; (first | (go_simp; done) | (simp; done) | (simp [go_sem]; done) | (simp [go_sem]; done))
    have f_O : ∀ o, W1.frozen? ⟨wb.heap.size, o, none⟩ = false := by intro o; rw [← hW]; (first | (go_simp; done) | (simp; done) | (simp [go_sem]; done) | (simp [go_sem]; done))
    have HX_O := Lib.hid (show Bn W1 (wb.heap.size) by rw [← hW]; exact KpA)
    replace HO1 := Lib.hid (HO1.out.keep HK_W1.out)
    replace HO2 := Lib.hid (HO2.out.keep HK_W1.out)
    replace HB := Lib.hid (show Below w.heap.size w W1 by rw [← hW]; exact BlA)
    replace hN : N ≤ W1.heap.size := by rw [← hW]; (first | omega | (simp; done) | (simp; omega))
    replace hs0 : w.heap.size ≤ W1.heap.size := by rw [← hW]; (first | omega | (simp; done) | (simp; omega))
    have hl_O : wb.heap.size < W1.heap.size := by rw [← hW]; (first | omega | (simp; done) | (simp; omega))
    replace HA := Lib.hid (HA.out.below HL_W1.out)
    replace HD := Lib.hid (HD.out.below HL_W1.out)
    clear HL_W1
    clear hW HK_W1
    have HBW := HB
    have hsW := hs0
    clear HB hs0
    go_loopw [7] (fun i wr => ∃ j : Nat, j ≤ n ∧ i = .int .i64 j ∧ Below W1.heap.size W1 wr) (fun i _ => n - (intOf i).toNat)
    case atStart => exact ⟨0, Nat.zero_le _, rfl, Below.refl _ _⟩
    case round =>
      obtain ⟨j, hj, rfl, hbel⟩ := hrel
      obtain ⟨wi, rfl⟩ : ∃ x : World, x = wr := ⟨_, rfl⟩
      have HB7 := Lib.hid hbel
      have hs7 : W1.heap.size ≤ wi.heap.size := hbel.size
      have hl_O' : wb.heap.size < wi.heap.size := Nat.lt_of_lt_of_le hl_O hbel.size
      have k_O_0' : wi.cell? ⟨wb.heap.size, 0, none⟩ = some (.bool (decide ((po).num < 0))) := (hbel.cell (p := ⟨wb.heap.size, 0, none⟩) hl_O).trans k_O_0
      have k_O_1' : wi.cell? ⟨wb.heap.size, 1, none⟩ = some (.slice ro (nlen (po).num.natAbs) co) := (hbel.cell (p := ⟨wb.heap.size, 1, none⟩) hl_O).trans k_O_1
      have k_O_2' : wi.cell? ⟨wb.heap.size, 2, none⟩ = some (.slice ro2 (nlen (po).den) co2) := (hbel.cell (p := ⟨wb.heap.size, 2, none⟩) hl_O).trans k_O_2
      have f_O' : ∀ o, wi.frozen? ⟨wb.heap.size, o, none⟩ = false := fun o => (hbel.frozen (p := ⟨wb.heap.size, o, none⟩) hl_O).trans (f_O o)
      have HX_O' := Lib.hid (HX_O.out.below hbel)
      clear hl_O f_O HX_O k_O_0 k_O_1 k_O_2
      have hl_O := hl_O'
      have f_O := f_O'
      have HX_O := HX_O'
      have k_O_0 := k_O_0'
      have k_O_1 := k_O_1'
      have k_O_2 := k_O_2'
      clear hl_O' f_O' HX_O' k_O_0' k_O_1' k_O_2'
      have HO1' := Lib.hid (HO1.out.below hbel)
      have HO2' := Lib.hid (HO2.out.below hbel)
      have HA' := Lib.hid (HA.out.below hbel)
      have hN' : N ≤ wi.heap.size := by omega
      clear HO1 HO2 HA hN hbel
      have HO1 := HO1'
      have HO2 := HO2'
      have HA := HA'
      have hN := hN'
      clear HO1' HO2' HA' hN'
      by_cases hjn : j < n
      · obtain ⟨b, off, rfl, hc⟩ := HA.out.2.2 (by omega)
        obtain ⟨sk, ra, rn, rc, da, dn, dc, ga0, ga1, ga2, hrt⟩ := hc j hjn
        have HR := Lib.hid hrt
        have hla : b < wi.heap.size := World.block_lt_of_cell? wi _ ga0
        clear hc hrt HA
        have hix0 : (0 : Int) ≤ (j : Int) := by omega
        have hix1 : (j : Int) < (n : Int) := by omega
        obtain ⟨σ, hσ⟩ : ∃ σ, (q j).num.sign = σ := ⟨_, rfl⟩
        have HSG := Lib.hid hσ
        obtain ⟨κ, hκ⟩ : ∃ κ, cmpQ (q j) po = κ := ⟨_, rfl⟩
        have HK := Lib.hid hκ
        have HBx := HB7
        obtain ⟨h1, h2'⟩ := prb_iffF.1 (HX.out j hjn)
        have h2 : ¬ 1 < q j := by grind
        clear h2'
        have HB := HB7
        have hs0 := hs7
        clear HBx
        have d1 : decide (0 < κ) = false := by rw [← hκ, HPO1.out]; exact cmp_gtF _ _ _ (decide_eq_false h2)
        have d0 : decide (σ < 0) = false := by rw [← hσ]; exact sgn_ge2 _ h1
        clear hσ hκ h1 h2
        go_wp2_with fail
        go_region_held3 (fun w' => w'.cell? ⟨b, off + j * 3, none⟩ = some (.bool sk) ∧ w'.cell? ⟨b, off + j * 3 + 1, none⟩ = some (.slice ra rn rc) ∧ w'.cell? ⟨b, off + j * 3 + 2, none⟩ = some (.slice da dn dc) ∧ w'.cell? ⟨wb.heap.size, 0, none⟩ = some (.bool (decide ((po).num < 0))) ∧ w'.cell? ⟨wb.heap.size, 1, none⟩ = some (.slice ro (nlen (po).num.natAbs) co) ∧ w'.cell? ⟨wb.heap.size, 2, none⟩ = some (.slice ro2 (nlen (po).den) co2))
          (first | (go_keep; done) | ((try dsimp only); (repeat' apply And.intro) <;> (first | (go_keep; done) | (exact cell_keep_alloc_drew (by first | omega | (simp; omega)) (by first | assumption | go_simp)) | (exact cell_keep_alloc (by first | omega | (simp; omega)) (by first | assumption | go_simp)) | (rw [cell_set2 _ _ _ _ _ _ _ _ (by omega)]; assumption) | (rw [cell_set3 _ _ _ _ _ _ _ _ _ _ (by omega)]; assumption))))
          (first
            | (go_at_call 12; refine (rsign_any (N := N) _ _ _ _ _ _ _ 2 (q j) _ (by exact hN) (by exact HR.out)).mono ?_; rw [HSG.out]; rintro e wx ⟨rfl, hb⟩; replace hb : Below wi.heap.size wi wx := (by first | exact hb | exact bel_of_drew hb); have ga0' : wx.cell? ⟨b, off + j * 3, none⟩ = some (.bool sk) := (hb.cell (p := ⟨b, off + j * 3, none⟩) hla).trans ga0; have ga1' : wx.cell? ⟨b, off + j * 3 + 1, none⟩ = some (.slice ra rn rc) := (hb.cell (p := ⟨b, off + j * 3 + 1, none⟩) hla).trans ga1; have ga2' : wx.cell? ⟨b, off + j * 3 + 2, none⟩ = some (.slice da dn dc) := (hb.cell (p := ⟨b, off + j * 3 + 2, none⟩) hla).trans ga2; have k_O_0' : wx.cell? ⟨wb.heap.size, 0, none⟩ = some (.bool (decide ((po).num < 0))) := (hb.cell (p := ⟨wb.heap.size, 0, none⟩) hl_O).trans k_O_0; have k_O_1' : wx.cell? ⟨wb.heap.size, 1, none⟩ = some (.slice ro (nlen (po).num.natAbs) co) := (hb.cell (p := ⟨wb.heap.size, 1, none⟩) hl_O).trans k_O_1; have k_O_2' : wx.cell? ⟨wb.heap.size, 2, none⟩ = some (.slice ro2 (nlen (po).den) co2) := (hb.cell (p := ⟨wb.heap.size, 2, none⟩) hl_O).trans k_O_2; have hla' : b < wx.heap.size := Nat.lt_of_lt_of_le hla hb.size; have hl_O' : wb.heap.size < wx.heap.size := Nat.lt_of_lt_of_le hl_O hb.size; clear ga0 ga1 ga2 hla hl_O k_O_0 k_O_1 k_O_2; have ga0 := ga0'; have ga1 := ga1'; have ga2 := ga2'; have hla := hla'; have hl_O := hl_O'; have k_O_0 := k_O_0'; have k_O_1 := k_O_1'; have k_O_2 := k_O_2'; clear ga0' ga1' ga2' hla' hl_O' k_O_0' k_O_1' k_O_2'; have hs_wx : wi.heap.size ≤ wx.heap.size := hb.size; replace HR := Lib.hid (HR.out.below hb); replace HO1 := Lib.hid (HO1.out.below hb); replace HO2 := Lib.hid (HO2.out.below hb); replace HB := Lib.hid (HB.out.trans (hb.mono hs0)); replace hN : N ≤ wx.heap.size := Nat.le_trans hN hb.size; replace hs0 : W1.heap.size ≤ wx.heap.size := Nat.le_trans hs0 hb.size; clear hb; skip)
            | (go_at_call 13; refine (rcmp_any (N := N) _ _ _ _ _ _ _ _ _ _ _ _ _ _ 2 2000 (q j) po _ (by exact hN) (by exact HR.out) (by exact Rt.of_norm HO1.out HO2.out 2000 HZO.out) (by omega) (by omega)).mono ?_; rw [HK.out]; rintro e wy ⟨rfl, hb⟩; replace hb : Below wx.heap.size wx wy := (by first | exact hb | exact bel_of_drew hb); have ga0' : wy.cell? ⟨b, off + j * 3, none⟩ = some (.bool sk) := (hb.cell (p := ⟨b, off + j * 3, none⟩) hla).trans ga0; have ga1' : wy.cell? ⟨b, off + j * 3 + 1, none⟩ = some (.slice ra rn rc) := (hb.cell (p := ⟨b, off + j * 3 + 1, none⟩) hla).trans ga1; have ga2' : wy.cell? ⟨b, off + j * 3 + 2, none⟩ = some (.slice da dn dc) := (hb.cell (p := ⟨b, off + j * 3 + 2, none⟩) hla).trans ga2; have k_O_0' : wy.cell? ⟨wb.heap.size, 0, none⟩ = some (.bool (decide ((po).num < 0))) := (hb.cell (p := ⟨wb.heap.size, 0, none⟩) hl_O).trans k_O_0; have k_O_1' : wy.cell? ⟨wb.heap.size, 1, none⟩ = some (.slice ro (nlen (po).num.natAbs) co) := (hb.cell (p := ⟨wb.heap.size, 1, none⟩) hl_O).trans k_O_1; have k_O_2' : wy.cell? ⟨wb.heap.size, 2, none⟩ = some (.slice ro2 (nlen (po).den) co2) := (hb.cell (p := ⟨wb.heap.size, 2, none⟩) hl_O).trans k_O_2; have hla' : b < wy.heap.size := Nat.lt_of_lt_of_le hla hb.size; have hl_O' : wb.heap.size < wy.heap.size := Nat.lt_of_lt_of_le hl_O hb.size; clear ga0 ga1 ga2 hla hl_O k_O_0 k_O_1 k_O_2; have ga0 := ga0'; have ga1 := ga1'; have ga2 := ga2'; have hla := hla'; have hl_O := hl_O'; have k_O_0 := k_O_0'; have k_O_1 := k_O_1'; have k_O_2 := k_O_2'; clear ga0' ga1' ga2' hla' hl_O' k_O_0' k_O_1' k_O_2'; have hs_wy : wx.heap.size ≤ wy.heap.size := hb.size; replace HR := Lib.hid (HR.out.below hb); replace HO1 := Lib.hid (HO1.out.below hb); replace HO2 := Lib.hid (HO2.out.below hb); replace HB := Lib.hid (HB.out.trans (hb.mono hs0)); replace hN : N ≤ wy.heap.size := Nat.le_trans hN hb.size; replace hs0 : W1.heap.size ≤ wy.heap.size := Nat.le_trans hs0 hb.size; clear hb; skip))
        go_wp2_with fail
        go_roundw
        case rel => exact ⟨j + 1, by omega, by go_num, HB.out⟩
        case measure => simp [intOf]; omega
      · obtain rfl : n = j := by omega
        have HD' := Lib.hid (HD.out.below HB7.out)
        clear HD
        have HD := HD'
        clear HD'
        have hs0 := hs7
        have HB := HB7
        have HRD := Lib.hid (HD.out.rs (by unfold maxLen; omega) 14 (fun i _ => by have := nl_rsz q n 2 h20 HX.out HLim.out i; omega))
        go_wp2_with fail
        refine (Valid_any (N := N) _ M _ (nlQ q n) 14 _ hN HRD.out (by omega) true HV.out).mono ?_
        rintro e wv ⟨rfl, hb⟩
        have hs_wv : wi.heap.size ≤ wv.heap.size := hb.size
        replace k_O_0 : wv.cell? ⟨wb.heap.size, 0, none⟩ = some (.bool (decide ((po).num < 0))) := (hb.cell (p := ⟨wb.heap.size, 0, none⟩) hl_O).trans k_O_0
        replace k_O_1 : wv.cell? ⟨wb.heap.size, 1, none⟩ = some (.slice ro (nlen (po).num.natAbs) co) := (hb.cell (p := ⟨wb.heap.size, 1, none⟩) hl_O).trans k_O_1
        replace k_O_2 : wv.cell? ⟨wb.heap.size, 2, none⟩ = some (.slice ro2 (nlen (po).den) co2) := (hb.cell (p := ⟨wb.heap.size, 2, none⟩) hl_O).trans k_O_2
        replace f_O : ∀ o, wv.frozen? ⟨wb.heap.size, o, none⟩ = false := fun o => (hb.frozen (p := ⟨wb.heap.size, o, none⟩) hl_O).trans (f_O o)
        replace HX_O := Lib.hid (HX_O.out.below hb)
        replace HO1 := Lib.hid (HO1.out.below hb)
        replace HO2 := Lib.hid (HO2.out.below hb)
        replace HB := Lib.hid (HB.out.trans (hb.mono hs0))
        replace hN : N ≤ wv.heap.size := Nat.le_trans hN hb.size
        replace hs0 : W1.heap.size ≤ wv.heap.size := Nat.le_trans hs0 hb.size
        replace hl_O : wb.heap.size < wv.heap.size := Nat.lt_of_lt_of_le hl_O hb.size
        replace HA := Lib.hid (HA.out.below hb)
        replace HD := Lib.hid (HD.out.below hb)
        clear hb
        clear HRD
        go_wp2_with fail
        obtain ⟨P, hP⟩ : ∃ P : Nat, 2 ^ n = P := ⟨_, rfl⟩
        have hP64 : P ≤ 64 := by rw [← hP]; exact Nat.pow_le_pow_right (by decide) h6
        have hNb : N ≤ wv.heap.size := by omega
        have HPP := Lib.hid hP
        clear hP
        have HBV := Lib.hid (HBW.out.trans (HB.out.mono hsW))
        have hsV : w.heap.size ≤ wv.heap.size := by omega
        go_loopw [10] (fun i wr => ∃ k : Nat, k ≤ P ∧ i = .int .i64 k ∧ Re N wr wv.heap.size M (fun e => sQ (patT q n e) k) 2000 ∧ Below wv.heap.size wv wr ∧ wv.heap.size < wr.heap.size) (fun i _ => P - (intOf i).toNat)
        case atStart => exact ⟨0, Nat.zero_le _, rfl, Re.made N wv M 2000 (by omega), bel1 wv _, by simp⟩
        case round =>
          obtain ⟨k, hk, rfl, hre, hbel, hsz⟩ := hrel
          obtain ⟨wk, rfl⟩ : ∃ x : World, x = wr := ⟨_, rfl⟩
          have HRe := Lib.hid hre
          have HBk := Lib.hid hbel
          have hsk : wv.heap.size ≤ wk.heap.size := hbel.size
          have hl_O' : wb.heap.size < wk.heap.size := Nat.lt_of_lt_of_le hl_O hbel.size
          have k_O_0' : wk.cell? ⟨wb.heap.size, 0, none⟩ = some (.bool (decide ((po).num < 0))) := (hbel.cell (p := ⟨wb.heap.size, 0, none⟩) hl_O).trans k_O_0
          have k_O_1' : wk.cell? ⟨wb.heap.size, 1, none⟩ = some (.slice ro (nlen (po).num.natAbs) co) := (hbel.cell (p := ⟨wb.heap.size, 1, none⟩) hl_O).trans k_O_1
          have k_O_2' : wk.cell? ⟨wb.heap.size, 2, none⟩ = some (.slice ro2 (nlen (po).den) co2) := (hbel.cell (p := ⟨wb.heap.size, 2, none⟩) hl_O).trans k_O_2
          have f_O' : ∀ o, wk.frozen? ⟨wb.heap.size, o, none⟩ = false := fun o => (hbel.frozen (p := ⟨wb.heap.size, o, none⟩) hl_O).trans (f_O o)
          have HX_O' := Lib.hid (HX_O.out.below hbel)
          clear hl_O f_O HX_O k_O_0 k_O_1 k_O_2
          have hl_O := hl_O'
          have f_O := f_O'
          have HX_O := HX_O'
          have k_O_0 := k_O_0'
          have k_O_1 := k_O_1'
          have k_O_2 := k_O_2'
          clear hl_O' f_O' HX_O' k_O_0' k_O_1' k_O_2'
          have HO1' := Lib.hid (HO1.out.below hbel)
          have HO2' := Lib.hid (HO2.out.below hbel)
          have HA' := Lib.hid (HA.out.below hbel)
          have HD' := Lib.hid (HD.out.below hbel)
          clear HO1 HO2 HA HD hN HB hs0 hre hbel hmk
          have HO1 := HO1'
          have HO2 := HO2'
          have HA := HA'
          have HD := HD'
          clear HO1' HO2' HA' HD'
          have hN : N ≤ wk.heap.size := by omega
          have HB := Lib.hid (Below.refl wk.heap.size wk)
          have hs0 : wk.heap.size ≤ wk.heap.size := Nat.le_refl _
          by_cases hkP : k < P
          · have hpow0 : ((2 : Int) ^ n) = ((2 ^ n : Nat) : Int) := by simp
            have hpow : wrap64 ((2 : Int) ^ n) = (P : Int) := by rw [hpow0, HPP.out]; unfold wrap64; omega
            clear hpow0
            have hsh : (k : Int) < wrap64 ((2 : Int) ^ n) := by rw [hpow]; exact Int.ofNat_lt.2 hkP
            clear hpow
            go_wp2_with fail
            clear hsh
            have KOk := Lib.hid (show Box3 wk wb.heap.size (.bool (decide ((po).num < 0))) (.slice ro (nlen (po).num.natAbs) co) (.slice ro2 (nlen (po).den) co2) from ⟨hl_O, HX_O.out, f_O, k_O_0, k_O_1, k_O_2⟩)
            have HO1k := HO1
            have HO2k := HO2
            have HBk0 := HB
            have hs0k := hs0
            refine block_nameM fun WB hW => ?_
            have HL_WB := Lib.hid (show Below wk.heap.size wk WB by rw [← hW]; exact BlA)
            have hs_WB : wk.heap.size ≤ WB.heap.size := by rw [← hW]; (first | omega | (simp; done) | (simp; omega))
            have hd_O_P : wb.heap.size < wk.heap.size := by omega
            have HK_WB := Lib.hid (show Kp N wk WB by rw [← hW]; exact KpA)
            have HBKP := Lib.hid (show Bk WB wk.heap.size 30 3 by rw [← hW]; exact Bk.new wk _ _)
            replace k_O_0 : WB.cell? ⟨wb.heap.size, 0, none⟩ = some (.bool (decide ((po).num < 0))) := (HL_WB.out.cell (p := ⟨wb.heap.size, 0, none⟩) hl_O).trans k_O_0
            replace k_O_1 : WB.cell? ⟨wb.heap.size, 1, none⟩ = some (.slice ro (nlen (po).num.natAbs) co) := (HL_WB.out.cell (p := ⟨wb.heap.size, 1, none⟩) hl_O).trans k_O_1
            replace k_O_2 : WB.cell? ⟨wb.heap.size, 2, none⟩ = some (.slice ro2 (nlen (po).den) co2) := (HL_WB.out.cell (p := ⟨wb.heap.size, 2, none⟩) hl_O).trans k_O_2
            replace f_O : ∀ o, WB.frozen? ⟨wb.heap.size, o, none⟩ = false := fun o => (HL_WB.out.frozen (p := ⟨wb.heap.size, o, none⟩) hl_O).trans (f_O o)
            replace HX_O := Lib.hid (show Bn WB (wb.heap.size) by rw [← hW]; exact KpA)
            have k_P_0 : WB.cell? ⟨wk.heap.size, 0, none⟩ = some (.bool (decide ((po).num < 0))) := by rw [← hW]; (first | (go_simp; done) | (simp; done) | (simp [go_sem]; done) | (simp [go_sem, k_O_0, k_O_1, k_O_2, f_O, hl_O]; done))
            have k_P_1 : WB.cell? ⟨wk.heap.size, 1, none⟩ = some (.slice ro (nlen (po).num.natAbs) co) := by rw [← hW]; (first | (go_simp; done) | (simp; done) | (simp [go_sem]; done) | (simp [go_sem, k_O_0, k_O_1, k_O_2, f_O, hl_O]; done))
            have k_P_2 : WB.cell? ⟨wk.heap.size, 2, none⟩ = some (.slice ro2 (nlen (po).den) co2) := by rw [← hW]; (first | (go_simp; done) | (simp; done) | (simp [go_sem]; done) | (simp [go_sem, k_O_0, k_O_1, k_O_2, f_O, hl_O]; done))
            have f_P : ∀ o, WB.frozen? ⟨wk.heap.size, o, none⟩ = false := by intro o; rw [← hW]; (first | (go_simp; done) | (simp; done) | (simp [go_sem]; done) | (simp [go_sem, k_O_0, k_O_1, k_O_2, f_O, hl_O]; done))
            have HX_P := Lib.hid (show Bn WB (wk.heap.size) by rw [← hW]; exact KpA)
            replace HO1 := Lib.hid (HO1.out.keep HK_WB.out)
            replace HO2 := Lib.hid (HO2.out.keep HK_WB.out)
            replace HB := Lib.hid (show Below wk.heap.size wk WB by rw [← hW]; exact BlA)
            replace hN : N ≤ WB.heap.size := by rw [← hW]; (first | omega | (simp; done) | (simp; omega))
            replace hs0 : wk.heap.size ≤ WB.heap.size := by rw [← hW]; (first | omega | (simp; done) | (simp; omega))
            replace hl_O : wb.heap.size < WB.heap.size := by rw [← hW]; (first | omega | (simp; done) | (simp; omega))
            have hl_P : wk.heap.size < WB.heap.size := by rw [← hW]; (first | omega | (simp; done) | (simp; omega))
            clear HL_WB
            clear hW HK_WB
            have hlB : wk.heap.size < WB.heap.size := hl_P
            have HRP := Lib.hid (show Rl N WB wk.heap.size 1 1 (fun _ => po) from ⟨HBKP.out, fun i hi => by (obtain rfl : i = 0 := (by omega)); exact ⟨ro, co, ro2, co2, k_P_0, k_P_1, k_P_2, HO1.out, HO2.out⟩⟩)
            clear HBKP hl_O f_O HX_O k_O_0 k_O_1 k_O_2 hl_P f_P HX_P k_P_0 k_P_1 k_P_2 HO1 HO2
            go_loopw [12, 13] (fun v i wr => ∃ (j : Nat) (p : Rat), j ≤ n ∧ i = .int .i64 j ∧ pQ q k j = p ∧ ObM WB.heap.size wr v j (bt k) ∧ Rl N wr wk.heap.size 1 1 (fun _ => p) ∧ Below wk.heap.size wk wr ∧ WB.heap.size ≤ wr.heap.size) (fun _ i _ => n - (intOf i).toNat)
            case atStart => exact ⟨0, po, Nat.zero_le _, rfl, HPO1.out.symm, ⟨rfl, .inl ⟨rfl, rfl⟩⟩, HRP.out, HB.out, Nat.le_refl _⟩
            case round =>
              clear HRP HB hs0 hN
              obtain ⟨j, pp, hj, rfl, hpp, hob, hrp, hbel, hszB⟩ := hrel
              obtain ⟨wi, rfl⟩ : ∃ x : World, x = wr := ⟨_, rfl⟩
              have HOB := Lib.hid hob
              have HRP := Lib.hid hrp
              have HB := Lib.hid hbel
              have HPP2 := Lib.hid hpp
              have hs0 : wk.heap.size ≤ wi.heap.size := hbel.size
              have hN : N ≤ wi.heap.size := by omega
              have HZP := Lib.hid (show rsz pp ≤ 2000 by rw [← hpp]; have := pQ_rsz q k j (fun x hx => HLim.out x (by omega)); omega)
              clear hob hrp hbel hpp
              by_cases hjn : j < n
              · have hj6 : j < 6 := by omega
                have hjz : (j : Int) < (n : Int) := by omega
                have hj0 : (0 : Int) ≤ (j : Int) := by omega
                by_cases hb : bt k j = true
                · have hbt : bt k j = true := hb
                  have HBT := Lib.hid hbt
                  clear hb
                  have hbits := bit_and k j true (by omega) hbt
                  clear hbt
                  go_wp2_with (at_builtin; refine wpList_append_own_at _ rfl (.tmp 103) (.tmp 105) 22 rfl WB.heap.size 4 i0 (.bool false) 1 1 Try.underBoolsM hi hz0 hz1 hz2 rfl (by decide) _ j ((List.range j).map fun i => .bool (bt k i)) rfl (World.ownsRow.alloc HOB.out _) ⟨wi.heap.size, 0, none⟩ 1 1 [.bool true] (by first | rfl | simp) rfl (cell_one_new _ _ _) (by intro u hu; simp at hu; subst hu; rfl) (by unfold maxLen; omega) (by omega) (by simp; omega) ?_; intro v1 w1 ho1 hg1 _ _; have KP1 := Lib.hid ((Kp.refl N wi).alloc (.cells #[.bool true] 4) |>.trans (own_kpM (World.ownsRow.alloc HOB.out _) (by omega) hg1)); have HB1 := Lib.hid (own_belM (own_lowM (World.ownsRow.alloc HOB.out _) (show wk.heap.size ≤ WB.heap.size by omega)) (HB.out.alloc hs0 _) (by simp; omega) hg1); have HBB := Lib.hid (own_belM (World.ownsRow.alloc HOB.out _) ((Below.refl WB.heap.size wi).alloc hszB (.cells #[.bool true] 4)) (by simp; omega) hg1); have HOB1 := Lib.hid (ObM.push HBT.out ho1); clear ho1 hg1)
                  have HRP1 := Lib.hid (HRP.out.keep KP1.out (HBB.out.block wk.heap.size hlB))
                  clear HOB HRP HB
                  have HOB := HOB1
                  have HRP := HRP1
                  have HB := HB1
                  have hs1 : wk.heap.size ≤ w1.heap.size := HB1.out.size
                  have hszB1 : WB.heap.size ≤ w1.heap.size := Nat.le_trans hszB KP1.out.1
                  clear HOB1 HRP1 HB1 hs0 hszB hN HBB KP1
                  have hs0 := hs1
                  have hszB := hszB1
                  have hN : N ≤ w1.heap.size := by omega
                  clear hs1 hszB1
                  obtain ⟨rp, cp, rp2, cp2, k_P_0, k_P_1, k_P_2, hp1, hp2⟩ := HRP.out.2 0 (by omega)
                  simp only [Nat.zero_mul, Nat.zero_add] at k_P_0 k_P_1 k_P_2
                  have HP1 := Lib.hid hp1
                  have HP2 := Lib.hid hp2
                  have f_P := HRP.out.1.frozen
                  have hl_P : wk.heap.size < w1.heap.size := HRP.out.lt
                  have HBNP := Lib.hid HRP.out.bn
                  clear hp1 hp2
                  obtain ⟨b, off, rfl, hc⟩ := (HA.out.below HB.out).2.2 (by omega)
                  obtain ⟨sk, ra, rn, rc, da, dn, dc, ga0, ga1, ga2, hrt⟩ := hc j hjn
                  have HR := Lib.hid hrt
                  have hla : b < w1.heap.size := World.block_lt_of_cell? w1 _ ga0
                  clear hc hrt
                  have hix0 : (0 : Int) ≤ (j : Int) := by omega
                  have hix1 : (j : Int) < (n : Int) := by omega
                  obtain ⟨pn, hpn⟩ : ∃ p, pp * q j = p := ⟨_, rfl⟩
                  have HPN := Lib.hid hpn
                  have HEN := Lib.hid (show pQ q k (j + 1) = pn by show pQ q k j * (if bt k j then q j else 1 - q j) = pn; rw [HBT.out, HPP2.out]; exact hpn)
                  clear hpn
                  go_upto_region 25 with fail
                  refine region_inv2 (by kernel_rfl) (MdJ25 N wk.heap.size pp pn rp rp2 cp cp2 sk ra da rn rc dn dc b off n ca j (w1)) ?_ ?_ ?_ ?_
                  · exact ⟨u108, u109, u110, u111, u112, u113, by simp only [Act.put, List.setIfInBounds_toArray, List.set_cons_zero, List.set_cons_succ], .inl ⟨rfl, Since.drawn _, (fun h => by cases h), (fun h => by cases h), (fun h => by cases h), (fun h => by cases h), (fun h => by cases h), (fun h => by cases h)⟩⟩
                  · exact acyc_spec (by kernel_rfl)
                  · intro Ls a0 wq i o ho hLi hafter hJ
                    obtain ⟨u108, u109, u110, u111, u112, u113, rfl, hJ | ⟨h10, hall, _⟩⟩ := hJ
                    · obtain ⟨hLl, hS, p0, p1, p2, p3, p4, p5⟩ := hJ
                      have hi : i < 7 := (Array.getElem?_eq_some_iff.1 ho).1
                      obtain rfl | rfl | rfl | rfl | rfl | rfl | rfl : i = 0 ∨ i = 1 ∨ i = 2 ∨ i = 3 ∨ i = 4 ∨ i = 5 ∨ i = 6 := by omega
                      · simp only [List.getElem?_toArray, List.getElem?_cons_zero, List.getElem?_cons_succ, Option.some.injEq] at ho
                        subst ho
                        have c0 := (hS.1.cell (p := ⟨wk.heap.size, 0, none⟩) hl_P).trans k_P_0
                        have c1 := (hS.1.cell (p := ⟨wk.heap.size, 1, none⟩) hl_P).trans k_P_1
                        have c2 := (hS.1.cell (p := ⟨wk.heap.size, 2, none⟩) hl_P).trans k_P_2
                        have P0 := Lib.hid p0
                        have P1 := Lib.hid p1
                        have P2 := Lib.hid p2
                        have P3 := Lib.hid p3
                        have P4 := Lib.hid p4
                        have P5 := Lib.hid p5
                        have HS := Lib.hid hS
                        clear hS hLi hafter p0 p1 p2 p3 p4 p5
                        simp only [Act.put, List.setIfInBounds_toArray, List.set_cons_zero, List.set_cons_succ]
                        go_wp2_with fail
                        exact ⟨.agg #[.bool (decide ((pp).num < 0)), .slice rp (nlen (pp).num.natAbs) cp, .slice rp2 (nlen (pp).den) cp2], u109, u110, u111, u112, u113, by simp only [Act.put, List.setIfInBounds_toArray, List.set_cons_zero, List.set_cons_succ], .inl ⟨by simpa using hLl, HS.out, (fun _ => rfl), (fun h => by first | rfl | exact P1.out (by simpa using h)), (fun h => by first | rfl | exact P2.out (by simpa using h)), (fun h => by first | rfl | exact P3.out (by simpa using h)), (fun h => by first | rfl | exact P4.out (by simpa using h)), (fun h => P5.out (by simpa using h))⟩⟩
                      · simp only [List.getElem?_toArray, List.getElem?_cons_zero, List.getElem?_cons_succ, Option.some.injEq] at ho
                        subst ho
                        have P0 := Lib.hid p0
                        have P1 := Lib.hid p1
                        have P2 := Lib.hid p2
                        have P3 := Lib.hid p3
                        have P4 := Lib.hid p4
                        have P5 := Lib.hid p5
                        have HS := Lib.hid hS
                        clear hS hLi hafter p0 p1 p2 p3 p4 p5
                        simp only [Act.put, List.setIfInBounds_toArray, List.set_cons_zero, List.set_cons_succ]
                        go_wp2_with fail
                        exact ⟨u108, .slice (some ⟨b, off, none⟩) n ca, u110, u111, u112, u113, by simp only [Act.put, List.setIfInBounds_toArray, List.set_cons_zero, List.set_cons_succ], .inl ⟨by simpa using hLl, HS.out, (fun h => by first | rfl | exact P0.out (by simpa using h)), (fun _ => rfl), (fun h => by first | rfl | exact P2.out (by simpa using h)), (fun h => by first | rfl | exact P3.out (by simpa using h)), (fun h => by first | rfl | exact P4.out (by simpa using h)), (fun h => P5.out (by simpa using h))⟩⟩
                      · simp only [List.getElem?_toArray, List.getElem?_cons_zero, List.getElem?_cons_succ, Option.some.injEq] at ho
                        subst ho
                        have P0 := Lib.hid p0
                        have P1 := Lib.hid p1
                        have P2 := Lib.hid p2
                        have P3 := Lib.hid p3
                        have P4 := Lib.hid p4
                        have P5 := Lib.hid p5
                        have HS := Lib.hid hS
                        clear hS hLi hafter p0 p1 p2 p3 p4 p5
                        simp only [Act.put, List.setIfInBounds_toArray, List.set_cons_zero, List.set_cons_succ]
                        go_wp2_with fail
                        exact ⟨u108, u109, .int .i64 j, u111, u112, u113, by simp only [Act.put, List.setIfInBounds_toArray, List.set_cons_zero, List.set_cons_succ], .inl ⟨by simpa using hLl, HS.out, (fun h => by first | rfl | exact P0.out (by simpa using h)), (fun h => by first | rfl | exact P1.out (by simpa using h)), (fun _ => rfl), (fun h => by first | rfl | exact P3.out (by simpa using h)), (fun h => by first | rfl | exact P4.out (by simpa using h)), (fun h => P5.out (by simpa using h))⟩⟩
                      · simp only [List.getElem?_toArray, List.getElem?_cons_zero, List.getElem?_cons_succ, Option.some.injEq] at ho
                        subst ho
                        obtain rfl := p1 (hafter ⟨1, .data⟩ (by simp) rfl)
                        obtain rfl := p2 (hafter ⟨2, .data⟩ (by simp) rfl)
                        have P0 := Lib.hid p0
                        have P1 := Lib.hid p1
                        have P2 := Lib.hid p2
                        have P3 := Lib.hid p3
                        have P4 := Lib.hid p4
                        have P5 := Lib.hid p5
                        have HS := Lib.hid hS
                        clear hS hLi hafter p0 p1 p2 p3 p4 p5
                        simp only [Act.put, List.setIfInBounds_toArray, List.set_cons_zero, List.set_cons_succ]
                        go_wp2_with fail
                        exact ⟨u108, .slice (some ⟨b, off, none⟩) n ca, .int .i64 j, .pointer (some ⟨b, off + j * 3, none⟩), u112, u113, by simp only [Act.put, List.setIfInBounds_toArray, List.set_cons_zero, List.set_cons_succ], .inl ⟨by simpa using hLl, HS.out, (fun h => by first | rfl | exact P0.out (by simpa using h)), (fun h => by first | rfl | exact P1.out (by simpa using h)), (fun h => by first | rfl | exact P2.out (by simpa using h)), (fun _ => rfl), (fun h => by first | rfl | exact P4.out (by simpa using h)), (fun h => P5.out (by simpa using h))⟩⟩
                      · simp only [List.getElem?_toArray, List.getElem?_cons_zero, List.getElem?_cons_succ, Option.some.injEq] at ho
                        subst ho
                        obtain rfl := p3 (hafter ⟨3, .data⟩ (by simp) rfl)
                        have c0 := (hS.1.cell (p := ⟨b, off + j * 3, none⟩) hla).trans ga0
                        have c1 := (hS.1.cell (p := ⟨b, off + j * 3 + 1, none⟩) hla).trans ga1
                        have c2 := (hS.1.cell (p := ⟨b, off + j * 3 + 2, none⟩) hla).trans ga2
                        have P0 := Lib.hid p0
                        have P1 := Lib.hid p1
                        have P2 := Lib.hid p2
                        have P3 := Lib.hid p3
                        have P4 := Lib.hid p4
                        have P5 := Lib.hid p5
                        have HS := Lib.hid hS
                        clear hS hLi hafter p0 p1 p2 p3 p4 p5
                        simp only [Act.put, List.setIfInBounds_toArray, List.set_cons_zero, List.set_cons_succ]
                        go_wp2_with fail
                        exact ⟨u108, u109, u110, .pointer (some ⟨b, off + j * 3, none⟩), .agg #[.bool sk, .slice ra rn rc, .slice da dn dc], u113, by simp only [Act.put, List.setIfInBounds_toArray, List.set_cons_zero, List.set_cons_succ], .inl ⟨by simpa using hLl, HS.out, (fun h => by first | rfl | exact P0.out (by simpa using h)), (fun h => by first | rfl | exact P1.out (by simpa using h)), (fun h => by first | rfl | exact P2.out (by simpa using h)), (fun h => by first | rfl | exact P3.out (by simpa using h)), (fun _ => rfl), (fun h => P5.out (by simpa using h))⟩⟩
                      · simp only [List.getElem?_toArray, List.getElem?_cons_zero, List.getElem?_cons_succ, Option.some.injEq] at ho
                        subst ho
                        obtain rfl := p0 (hafter ⟨0, .data⟩ (by simp) rfl)
                        obtain rfl := p4 (hafter ⟨4, .data⟩ (by simp) rfl)
                        have P0 := Lib.hid p0
                        have P1 := Lib.hid p1
                        have P2 := Lib.hid p2
                        have P3 := Lib.hid p3
                        have P4 := Lib.hid p4
                        have P5 := Lib.hid p5
                        have HS := Lib.hid hS
                        clear hS hLi hafter p0 p1 p2 p3 p4 p5
                        simp only [Act.put, List.setIfInBounds_toArray, List.set_cons_zero, List.set_cons_succ]
                        go_wp2_with fail
                        refine (rmul_any (N := N) _ _ _ _ _ _ _ _ _ _ _ _ _ _ 2000 2 pp (q j) _ (by have := HS.out.2; omega) (Rt.of_norm (HP1.out.below HS.out.1) (HP2.out.below HS.out.1) _ HZP.out) (HR.out.below HS.out.1) (by omega) (by omega) pn HPN.out).mono ?_
                        rintro e wn ⟨r, c, r2, c2, rfl, hn, hn', hb⟩
                        have HN := Lib.hid hn
                        have HM := Lib.hid hn'
                        have Hb := Lib.hid hb
                        clear hn hn' hb
                        go_wp2_with fail
                        exact ⟨.agg #[.bool (decide ((pp).num < 0)), .slice rp (nlen (pp).num.natAbs) cp, .slice rp2 (nlen (pp).den) cp2], u109, u110, u111, .agg #[.bool sk, .slice ra rn rc, .slice da dn dc], _, by simp only [Act.put, List.setIfInBounds_toArray, List.set_cons_zero, List.set_cons_succ], .inl ⟨by simpa using hLl, HS.out.below Hb.out, (fun h => by first | rfl | exact P0.out (by simpa using h)), (fun h => by first | rfl | exact P1.out (by simpa using h)), (fun h => by first | rfl | exact P2.out (by simpa using h)), (fun h => by first | rfl | exact P3.out (by simpa using h)), (fun h => by first | rfl | exact P4.out (by simpa using h)), (fun _ => ⟨r, c, r2, c2, rfl, HN.out, HM.out⟩)⟩⟩
                      · simp only [List.getElem?_toArray, List.getElem?_cons_zero, List.getElem?_cons_succ, Option.some.injEq] at ho
                        subst ho
                        have hall : ∀ j, j < 6 → Ls j = true := by
                          intro j hj
                          obtain rfl | rfl | rfl | rfl | rfl | rfl : j = 0 ∨ j = 1 ∨ j = 2 ∨ j = 3 ∨ j = 4 ∨ j = 5 := by omega
                          all_goals first | (refine hafter ⟨_, .phase⟩ ?_ rfl; simp; done) | (refine hafter ⟨_, .data⟩ ?_ rfl; simp; done)
                        have HALL := Lib.hid hall
                        clear hall
                        obtain ⟨r5, c5, t5, d5, rfl, hn5, hm5⟩ := p5 (hafter ⟨5, .data⟩ (by simp) rfl)
                        have HN5 := Lib.hid hn5
                        have HM5 := Lib.hid hm5
                        clear hn5 hm5
                        have c0 := (hS.1.cell (p := ⟨wk.heap.size, 0, none⟩) hl_P).trans k_P_0
                        have c1 := (hS.1.cell (p := ⟨wk.heap.size, 1, none⟩) hl_P).trans k_P_1
                        have c2 := (hS.1.cell (p := ⟨wk.heap.size, 2, none⟩) hl_P).trans k_P_2
                        have fz : ∀ o, wq.frozen? ⟨wk.heap.size, o, none⟩ = false := fun o => (hS.1.frozen (p := ⟨wk.heap.size, o, none⟩) hl_P).trans (f_P o)
                        have P0 := Lib.hid p0
                        have P1 := Lib.hid p1
                        have P2 := Lib.hid p2
                        have P3 := Lib.hid p3
                        have P4 := Lib.hid p4
                        have P5 := Lib.hid p5
                        have HS := Lib.hid hS
                        clear hS hLi hafter p0 p1 p2 p3 p4 p5
                        simp only [Act.put, List.setIfInBounds_toArray, List.set_cons_zero, List.set_cons_succ]
                        go_wp2_with fail
                        exact ⟨u108, u109, u110, u111, u112, .agg #[.bool (decide ((pn).num < 0)), .slice r5 (nlen (pn).num.natAbs) c5, .slice t5 (nlen (pn).den) d5], by simp only [Act.put, List.setIfInBounds_toArray, List.set_cons_zero, List.set_cons_succ], .inr ⟨by simp, fun j hj => by simp [HALL.out j hj], ⟨_, _, _, _, _, HS.out, HN5.out, HM5.out, rfl⟩⟩⟩
                    · exfalso
                      have hi : i < 7 := (Array.getElem?_eq_some_iff.1 ho).1
                      rcases Nat.lt_or_ge i 6 with h | h
                      · rw [hall i h] at hLi; cases hLi
                      · obtain rfl : i = 6 := by omega
                        rw [h10] at hLi; cases hLi
                  · intro Ls a0 wq hall hJ
                    obtain ⟨u108, u109, u110, u111, u112, u113, rfl, ⟨h10, _⟩ | ⟨_, _, hcut⟩⟩ := hJ
                    · rw [hall 6 (by decide)] at h10; cases h10
                    · obtain ⟨w2, r2, c2', r22, c22, hs, hn, hn', rfl⟩ := hcut
                      have Hs := Lib.hid hs
                      have Hn := Lib.hid hn
                      have Hn' := Lib.hid hn'
                      clear hs hn hn'
                      simp only [Act.put, List.setIfInBounds_toArray, List.set_cons_zero, List.set_cons_succ]
                      go_wp2_with fail
                      go_roundw
                      case rel => exact ⟨j + 1, pn, by omega, by go_num, HEN.out, (((HOB.out.below Hs.out.1).set hlB _).set hlB _).set hlB _, Rl.step (k := 0) (q := fun _ => pn) (show Rl N w2 wk.heap.size 1 0 (fun _ => pn) from ⟨(HRP.out.below Hs.out.1).1, fun i hi => absurd hi (by omega)⟩) (by omega) (by omega) Hn.out Hn'.out, (((HB.out.trans (Hs.out.1.mono hs0)).setCell (Nat.le_refl _) _).setCell (Nat.le_refl _) _).setCell (Nat.le_refl _) _, by have := Hs.out.1.size; simp [World.setCell]; omega⟩
                      case measure => simp [intOf]; omega
                · have hbt : bt k j = false := by simpa using hb
                  have HBT := Lib.hid hbt
                  clear hb
                  have hbits := bit_and k j false (by omega) hbt
                  clear hbt
                  go_wp2_with (at_builtin; refine wpList_append_own_at _ rfl (.tmp 103) (.tmp 105) 22 rfl WB.heap.size 4 i0 (.bool false) 1 1 Try.underBoolsM hi hz0 hz1 hz2 rfl (by decide) _ j ((List.range j).map fun i => .bool (bt k i)) rfl (World.ownsRow.alloc HOB.out _) ⟨wi.heap.size, 0, none⟩ 1 1 [.bool false] (by first | rfl | simp) rfl (cell_one_new _ _ _) (by intro u hu; simp at hu; subst hu; rfl) (by unfold maxLen; omega) (by omega) (by simp; omega) ?_; intro v1 w1 ho1 hg1 _ _; have KP1 := Lib.hid ((Kp.refl N wi).alloc (.cells #[.bool false] 4) |>.trans (own_kpM (World.ownsRow.alloc HOB.out _) (by omega) hg1)); have HB1 := Lib.hid (own_belM (own_lowM (World.ownsRow.alloc HOB.out _) (show wk.heap.size ≤ WB.heap.size by omega)) (HB.out.alloc hs0 _) (by simp; omega) hg1); have HBB := Lib.hid (own_belM (World.ownsRow.alloc HOB.out _) ((Below.refl WB.heap.size wi).alloc hszB (.cells #[.bool false] 4)) (by simp; omega) hg1); have HOB1 := Lib.hid (ObM.push HBT.out ho1); clear ho1 hg1)
                  have HRP1 := Lib.hid (HRP.out.keep KP1.out (HBB.out.block wk.heap.size hlB))
                  clear HOB HRP HB
                  have HOB := HOB1
                  have HRP := HRP1
                  have HB := HB1
                  have hs1 : wk.heap.size ≤ w1.heap.size := HB1.out.size
                  have hszB1 : WB.heap.size ≤ w1.heap.size := Nat.le_trans hszB KP1.out.1
                  clear HOB1 HRP1 HB1 hs0 hszB hN HBB KP1
                  have hs0 := hs1
                  have hszB := hszB1
                  have hN : N ≤ w1.heap.size := by omega
                  clear hs1 hszB1
                  obtain ⟨rp, cp, rp2, cp2, k_P_0, k_P_1, k_P_2, hp1, hp2⟩ := HRP.out.2 0 (by omega)
                  simp only [Nat.zero_mul, Nat.zero_add] at k_P_0 k_P_1 k_P_2
                  have HP1 := Lib.hid hp1
                  have HP2 := Lib.hid hp2
                  have f_P := HRP.out.1.frozen
                  have hl_P : wk.heap.size < w1.heap.size := HRP.out.lt
                  have HBNP := Lib.hid HRP.out.bn
                  clear hp1 hp2
                  obtain ⟨b, off, rfl, hc⟩ := (HA.out.below HB.out).2.2 (by omega)
                  obtain ⟨sk, ra, rn, rc, da, dn, dc, ga0, ga1, ga2, hrt⟩ := hc j hjn
                  have HR := Lib.hid hrt
                  have hla : b < w1.heap.size := World.block_lt_of_cell? w1 _ ga0
                  clear hc hrt
                  have hix0 : (0 : Int) ≤ (j : Int) := by omega
                  have hix1 : (j : Int) < (n : Int) := by omega
                  obtain ⟨hl_Ok, HX_Ok, f_Ok, k_Ok_0, k_Ok_1, k_Ok_2⟩ := KOk.out
                  have k_O_0 : w1.cell? ⟨wb.heap.size, 0, none⟩ = some (.bool (decide ((po).num < 0))) := (HB.out.cell (p := ⟨wb.heap.size, 0, none⟩) hl_Ok).trans k_Ok_0
                  have k_O_1 : w1.cell? ⟨wb.heap.size, 1, none⟩ = some (.slice ro (nlen (po).num.natAbs) co) := (HB.out.cell (p := ⟨wb.heap.size, 1, none⟩) hl_Ok).trans k_Ok_1
                  have k_O_2 : w1.cell? ⟨wb.heap.size, 2, none⟩ = some (.slice ro2 (nlen (po).den) co2) := (HB.out.cell (p := ⟨wb.heap.size, 2, none⟩) hl_Ok).trans k_Ok_2
                  have hl_O : wb.heap.size < w1.heap.size := by omega
                  clear hl_Ok HX_Ok f_Ok k_Ok_0 k_Ok_1 k_Ok_2
                  have HO1 := Lib.hid (HO1k.out.below HB.out)
                  have HO2 := Lib.hid (HO2k.out.below HB.out)
                  obtain ⟨pm, hpm⟩ : ∃ p, po - q j = p := ⟨_, rfl⟩
                  have HPM := Lib.hid hpm
                  have HZM := Lib.hid (show rsz pm ≤ 2000 by rw [← hpm]; have h1 := rsz_subM po (q j); have h2 := HLim.out j hjn; have h3 : rsz po ≤ 1 := (by rw [HPO1.out]; exact rsz_one); omega)
                  obtain ⟨pn, hpn⟩ : ∃ p, pp * pm = p := ⟨_, rfl⟩
                  have HPN := Lib.hid hpn
                  have HEN := Lib.hid (show pQ q k (j + 1) = pn by show pQ q k j * (if bt k j then q j else 1 - q j) = pn; rw [HBT.out, HPP2.out, ← hpn, ← hpm, HPO1.out]; rfl)
                  clear hpn hpm
                  go_upto_region 26 with fail
                  refine region_inv2 (by kernel_rfl) (MdJ26 N wk.heap.size wb.heap.size po pp pm pn rp rp2 ro ro2 cp cp2 co co2 sk ra da rn rc dn dc b off n ca j (w1)) ?_ ?_ ?_ ?_
                  · exact ⟨u114, u115, u116, u117, u118, u119, u120, u121, by simp only [Act.put, List.setIfInBounds_toArray, List.set_cons_zero, List.set_cons_succ], .inl ⟨rfl, Since.drawn _, (fun h => by cases h), (fun h => by cases h), (fun h => by cases h), (fun h => by cases h), (fun h => by cases h), (fun h => by cases h), (fun h => by cases h), (fun h => by cases h)⟩⟩
                  · exact acyc_spec (by kernel_rfl)
                  · intro Ls a0 wq i o ho hLi hafter hJ
                    obtain ⟨u114, u115, u116, u117, u118, u119, u120, u121, rfl, hJ | ⟨h10, hall, _⟩⟩ := hJ
                    · obtain ⟨hLl, hS, p0, p1, p2, p3, p4, p5, p6, p7⟩ := hJ
                      have hi : i < 9 := (Array.getElem?_eq_some_iff.1 ho).1
                      obtain rfl | rfl | rfl | rfl | rfl | rfl | rfl | rfl | rfl : i = 0 ∨ i = 1 ∨ i = 2 ∨ i = 3 ∨ i = 4 ∨ i = 5 ∨ i = 6 ∨ i = 7 ∨ i = 8 := by omega
                      · simp only [List.getElem?_toArray, List.getElem?_cons_zero, List.getElem?_cons_succ, Option.some.injEq] at ho
                        subst ho
                        have c0 := (hS.1.cell (p := ⟨wk.heap.size, 0, none⟩) hl_P).trans k_P_0
                        have c1 := (hS.1.cell (p := ⟨wk.heap.size, 1, none⟩) hl_P).trans k_P_1
                        have c2 := (hS.1.cell (p := ⟨wk.heap.size, 2, none⟩) hl_P).trans k_P_2
                        have P0 := Lib.hid p0
                        have P1 := Lib.hid p1
                        have P2 := Lib.hid p2
                        have P3 := Lib.hid p3
                        have P4 := Lib.hid p4
                        have P5 := Lib.hid p5
                        have P6 := Lib.hid p6
                        have P7 := Lib.hid p7
                        have HS := Lib.hid hS
                        clear hS hLi hafter p0 p1 p2 p3 p4 p5 p6 p7
                        simp only [Act.put, List.setIfInBounds_toArray, List.set_cons_zero, List.set_cons_succ]
                        go_wp2_with fail
                        exact ⟨.agg #[.bool (decide ((pp).num < 0)), .slice rp (nlen (pp).num.natAbs) cp, .slice rp2 (nlen (pp).den) cp2], u115, u116, u117, u118, u119, u120, u121, by simp only [Act.put, List.setIfInBounds_toArray, List.set_cons_zero, List.set_cons_succ], .inl ⟨by simpa using hLl, HS.out, (fun _ => rfl), (fun h => by first | rfl | exact P1.out (by simpa using h)), (fun h => by first | rfl | exact P2.out (by simpa using h)), (fun h => by first | rfl | exact P3.out (by simpa using h)), (fun h => by first | rfl | exact P4.out (by simpa using h)), (fun h => by first | rfl | exact P5.out (by simpa using h)), (fun h => P6.out (by simpa using h)), (fun h => P7.out (by simpa using h))⟩⟩
                      · simp only [List.getElem?_toArray, List.getElem?_cons_zero, List.getElem?_cons_succ, Option.some.injEq] at ho
                        subst ho
                        have c0 := (hS.1.cell (p := ⟨wb.heap.size, 0, none⟩) hl_O).trans k_O_0
                        have c1 := (hS.1.cell (p := ⟨wb.heap.size, 1, none⟩) hl_O).trans k_O_1
                        have c2 := (hS.1.cell (p := ⟨wb.heap.size, 2, none⟩) hl_O).trans k_O_2
                        have P0 := Lib.hid p0
                        have P1 := Lib.hid p1
                        have P2 := Lib.hid p2
                        have P3 := Lib.hid p3
                        have P4 := Lib.hid p4
                        have P5 := Lib.hid p5
                        have P6 := Lib.hid p6
                        have P7 := Lib.hid p7
                        have HS := Lib.hid hS
                        clear hS hLi hafter p0 p1 p2 p3 p4 p5 p6 p7
                        simp only [Act.put, List.setIfInBounds_toArray, List.set_cons_zero, List.set_cons_succ]
                        go_wp2_with fail
                        exact ⟨u114, .agg #[.bool (decide ((po).num < 0)), .slice ro (nlen (po).num.natAbs) co, .slice ro2 (nlen (po).den) co2], u116, u117, u118, u119, u120, u121, by simp only [Act.put, List.setIfInBounds_toArray, List.set_cons_zero, List.set_cons_succ], .inl ⟨by simpa using hLl, HS.out, (fun h => by first | rfl | exact P0.out (by simpa using h)), (fun _ => rfl), (fun h => by first | rfl | exact P2.out (by simpa using h)), (fun h => by first | rfl | exact P3.out (by simpa using h)), (fun h => by first | rfl | exact P4.out (by simpa using h)), (fun h => by first | rfl | exact P5.out (by simpa using h)), (fun h => P6.out (by simpa using h)), (fun h => P7.out (by simpa using h))⟩⟩
                      · simp only [List.getElem?_toArray, List.getElem?_cons_zero, List.getElem?_cons_succ, Option.some.injEq] at ho
                        subst ho
                        have P0 := Lib.hid p0
                        have P1 := Lib.hid p1
                        have P2 := Lib.hid p2
                        have P3 := Lib.hid p3
                        have P4 := Lib.hid p4
                        have P5 := Lib.hid p5
                        have P6 := Lib.hid p6
                        have P7 := Lib.hid p7
                        have HS := Lib.hid hS
                        clear hS hLi hafter p0 p1 p2 p3 p4 p5 p6 p7
                        simp only [Act.put, List.setIfInBounds_toArray, List.set_cons_zero, List.set_cons_succ]
                        go_wp2_with fail
                        exact ⟨u114, u115, .slice (some ⟨b, off, none⟩) n ca, u117, u118, u119, u120, u121, by simp only [Act.put, List.setIfInBounds_toArray, List.set_cons_zero, List.set_cons_succ], .inl ⟨by simpa using hLl, HS.out, (fun h => by first | rfl | exact P0.out (by simpa using h)), (fun h => by first | rfl | exact P1.out (by simpa using h)), (fun _ => rfl), (fun h => by first | rfl | exact P3.out (by simpa using h)), (fun h => by first | rfl | exact P4.out (by simpa using h)), (fun h => by first | rfl | exact P5.out (by simpa using h)), (fun h => P6.out (by simpa using h)), (fun h => P7.out (by simpa using h))⟩⟩
                      · simp only [List.getElem?_toArray, List.getElem?_cons_zero, List.getElem?_cons_succ, Option.some.injEq] at ho
                        subst ho
                        have P0 := Lib.hid p0
                        have P1 := Lib.hid p1
                        have P2 := Lib.hid p2
                        have P3 := Lib.hid p3
                        have P4 := Lib.hid p4
                        have P5 := Lib.hid p5
                        have P6 := Lib.hid p6
                        have P7 := Lib.hid p7
                        have HS := Lib.hid hS
                        clear hS hLi hafter p0 p1 p2 p3 p4 p5 p6 p7
                        simp only [Act.put, List.setIfInBounds_toArray, List.set_cons_zero, List.set_cons_succ]
                        go_wp2_with fail
                        exact ⟨u114, u115, u116, .int .i64 j, u118, u119, u120, u121, by simp only [Act.put, List.setIfInBounds_toArray, List.set_cons_zero, List.set_cons_succ], .inl ⟨by simpa using hLl, HS.out, (fun h => by first | rfl | exact P0.out (by simpa using h)), (fun h => by first | rfl | exact P1.out (by simpa using h)), (fun h => by first | rfl | exact P2.out (by simpa using h)), (fun _ => rfl), (fun h => by first | rfl | exact P4.out (by simpa using h)), (fun h => by first | rfl | exact P5.out (by simpa using h)), (fun h => P6.out (by simpa using h)), (fun h => P7.out (by simpa using h))⟩⟩
                      · simp only [List.getElem?_toArray, List.getElem?_cons_zero, List.getElem?_cons_succ, Option.some.injEq] at ho
                        subst ho
                        obtain rfl := p2 (hafter ⟨2, .data⟩ (by simp) rfl)
                        obtain rfl := p3 (hafter ⟨3, .data⟩ (by simp) rfl)
                        have P0 := Lib.hid p0
                        have P1 := Lib.hid p1
                        have P2 := Lib.hid p2
                        have P3 := Lib.hid p3
                        have P4 := Lib.hid p4
                        have P5 := Lib.hid p5
                        have P6 := Lib.hid p6
                        have P7 := Lib.hid p7
                        have HS := Lib.hid hS
                        clear hS hLi hafter p0 p1 p2 p3 p4 p5 p6 p7
                        simp only [Act.put, List.setIfInBounds_toArray, List.set_cons_zero, List.set_cons_succ]
                        go_wp2_with fail
                        exact ⟨u114, u115, .slice (some ⟨b, off, none⟩) n ca, .int .i64 j, .pointer (some ⟨b, off + j * 3, none⟩), u119, u120, u121, by simp only [Act.put, List.setIfInBounds_toArray, List.set_cons_zero, List.set_cons_succ], .inl ⟨by simpa using hLl, HS.out, (fun h => by first | rfl | exact P0.out (by simpa using h)), (fun h => by first | rfl | exact P1.out (by simpa using h)), (fun h => by first | rfl | exact P2.out (by simpa using h)), (fun h => by first | rfl | exact P3.out (by simpa using h)), (fun _ => rfl), (fun h => by first | rfl | exact P5.out (by simpa using h)), (fun h => P6.out (by simpa using h)), (fun h => P7.out (by simpa using h))⟩⟩
                      · simp only [List.getElem?_toArray, List.getElem?_cons_zero, List.getElem?_cons_succ, Option.some.injEq] at ho
                        subst ho
                        obtain rfl := p4 (hafter ⟨4, .data⟩ (by simp) rfl)
                        have c0 := (hS.1.cell (p := ⟨b, off + j * 3, none⟩) hla).trans ga0
                        have c1 := (hS.1.cell (p := ⟨b, off + j * 3 + 1, none⟩) hla).trans ga1
                        have c2 := (hS.1.cell (p := ⟨b, off + j * 3 + 2, none⟩) hla).trans ga2
                        have P0 := Lib.hid p0
                        have P1 := Lib.hid p1
                        have P2 := Lib.hid p2
                        have P3 := Lib.hid p3
                        have P4 := Lib.hid p4
                        have P5 := Lib.hid p5
                        have P6 := Lib.hid p6
                        have P7 := Lib.hid p7
                        have HS := Lib.hid hS
                        clear hS hLi hafter p0 p1 p2 p3 p4 p5 p6 p7
                        simp only [Act.put, List.setIfInBounds_toArray, List.set_cons_zero, List.set_cons_succ]
                        go_wp2_with fail
                        exact ⟨u114, u115, u116, u117, .pointer (some ⟨b, off + j * 3, none⟩), .agg #[.bool sk, .slice ra rn rc, .slice da dn dc], u120, u121, by simp only [Act.put, List.setIfInBounds_toArray, List.set_cons_zero, List.set_cons_succ], .inl ⟨by simpa using hLl, HS.out, (fun h => by first | rfl | exact P0.out (by simpa using h)), (fun h => by first | rfl | exact P1.out (by simpa using h)), (fun h => by first | rfl | exact P2.out (by simpa using h)), (fun h => by first | rfl | exact P3.out (by simpa using h)), (fun h => by first | rfl | exact P4.out (by simpa using h)), (fun _ => rfl), (fun h => P6.out (by simpa using h)), (fun h => P7.out (by simpa using h))⟩⟩
                      · simp only [List.getElem?_toArray, List.getElem?_cons_zero, List.getElem?_cons_succ, Option.some.injEq] at ho
                        subst ho
                        obtain rfl := p1 (hafter ⟨1, .data⟩ (by simp) rfl)
                        obtain rfl := p5 (hafter ⟨5, .data⟩ (by simp) rfl)
                        have P0 := Lib.hid p0
                        have P1 := Lib.hid p1
                        have P2 := Lib.hid p2
                        have P3 := Lib.hid p3
                        have P4 := Lib.hid p4
                        have P5 := Lib.hid p5
                        have P6 := Lib.hid p6
                        have P7 := Lib.hid p7
                        have HS := Lib.hid hS
                        clear hS hLi hafter p0 p1 p2 p3 p4 p5 p6 p7
                        simp only [Act.put, List.setIfInBounds_toArray, List.set_cons_zero, List.set_cons_succ]
                        go_wp2_with fail
                        refine (rsub_any (N := N) _ _ _ _ _ _ _ _ _ _ _ _ _ _ 2000 2 po (q j) _ (by have := HS.out.2; omega) (Rt.of_norm (HO1.out.below HS.out.1) (HO2.out.below HS.out.1) _ HZO.out) (HR.out.below HS.out.1) (by omega) (by omega) pm HPM.out).mono ?_
                        rintro e wn ⟨r, c, r2, c2, rfl, hn, hn', hb⟩
                        have HN := Lib.hid hn
                        have HM := Lib.hid hn'
                        have Hb := Lib.hid hb
                        clear hn hn' hb
                        go_wp2_with fail
                        exact ⟨u114, .agg #[.bool (decide ((po).num < 0)), .slice ro (nlen (po).num.natAbs) co, .slice ro2 (nlen (po).den) co2], u116, u117, u118, .agg #[.bool sk, .slice ra rn rc, .slice da dn dc], _, u121, by simp only [Act.put, List.setIfInBounds_toArray, List.set_cons_zero, List.set_cons_succ], .inl ⟨by simpa using hLl, HS.out.below Hb.out, (fun h => by first | rfl | exact P0.out (by simpa using h)), (fun h => by first | rfl | exact P1.out (by simpa using h)), (fun h => by first | rfl | exact P2.out (by simpa using h)), (fun h => by first | rfl | exact P3.out (by simpa using h)), (fun h => by first | rfl | exact P4.out (by simpa using h)), (fun h => by first | rfl | exact P5.out (by simpa using h)), (fun _ => ⟨r, c, r2, c2, rfl, HN.out, HM.out⟩), (fun h => (P7.out (by simpa using h)).below Hb.out)⟩⟩
                      · simp only [List.getElem?_toArray, List.getElem?_cons_zero, List.getElem?_cons_succ, Option.some.injEq] at ho
                        subst ho
                        obtain rfl := p0 (hafter ⟨0, .data⟩ (by simp) rfl)
                        obtain ⟨r6, c6, t6, d6, rfl, hn6, hm6⟩ := p6 (hafter ⟨6, .data⟩ (by simp) rfl)
                        have HN6 := Lib.hid hn6
                        have HM6 := Lib.hid hm6
                        clear hn6 hm6
                        have P0 := Lib.hid p0
                        have P1 := Lib.hid p1
                        have P2 := Lib.hid p2
                        have P3 := Lib.hid p3
                        have P4 := Lib.hid p4
                        have P5 := Lib.hid p5
                        have P6 := Lib.hid p6
                        have P7 := Lib.hid p7
                        have HS := Lib.hid hS
                        clear hS hLi hafter p0 p1 p2 p3 p4 p5 p6 p7
                        simp only [Act.put, List.setIfInBounds_toArray, List.set_cons_zero, List.set_cons_succ]
                        go_wp2_with fail
                        refine (rmul_any (N := N) _ _ _ _ _ _ _ _ _ _ _ _ _ _ 2000 2000 pp pm _ (by have := HS.out.2; omega) (Rt.of_norm (HP1.out.below HS.out.1) (HP2.out.below HS.out.1) _ HZP.out) (Rt.of_norm HN6.out HM6.out _ HZM.out) (by omega) (by omega) pn HPN.out).mono ?_
                        rintro e wn ⟨r, c, r2, c2, rfl, hn, hn', hb⟩
                        have HN := Lib.hid hn
                        have HM := Lib.hid hn'
                        have Hb := Lib.hid hb
                        clear hn hn' hb
                        go_wp2_with fail
                        exact ⟨.agg #[.bool (decide ((pp).num < 0)), .slice rp (nlen (pp).num.natAbs) cp, .slice rp2 (nlen (pp).den) cp2], u115, u116, u117, u118, u119, _, _, by simp only [Act.put, List.setIfInBounds_toArray, List.set_cons_zero, List.set_cons_succ], .inl ⟨by simpa using hLl, HS.out.below Hb.out, (fun h => by first | rfl | exact P0.out (by simpa using h)), (fun h => by first | rfl | exact P1.out (by simpa using h)), (fun h => by first | rfl | exact P2.out (by simpa using h)), (fun h => by first | rfl | exact P3.out (by simpa using h)), (fun h => by first | rfl | exact P4.out (by simpa using h)), (fun h => by first | rfl | exact P5.out (by simpa using h)), (fun h => (P6.out (by simpa using h)).below Hb.out), (fun _ => ⟨r, c, r2, c2, rfl, HN.out, HM.out⟩)⟩⟩
                      · simp only [List.getElem?_toArray, List.getElem?_cons_zero, List.getElem?_cons_succ, Option.some.injEq] at ho
                        subst ho
                        have hall : ∀ j, j < 8 → Ls j = true := by
                          intro j hj
                          obtain rfl | rfl | rfl | rfl | rfl | rfl | rfl | rfl : j = 0 ∨ j = 1 ∨ j = 2 ∨ j = 3 ∨ j = 4 ∨ j = 5 ∨ j = 6 ∨ j = 7 := by omega
                          all_goals first | (refine hafter ⟨_, .phase⟩ ?_ rfl; simp; done) | (refine hafter ⟨_, .data⟩ ?_ rfl; simp; done)
                        have HALL := Lib.hid hall
                        clear hall
                        obtain ⟨r7, c7, t7, d7, rfl, hn7, hm7⟩ := p7 (hafter ⟨7, .data⟩ (by simp) rfl)
                        have HN7 := Lib.hid hn7
                        have HM7 := Lib.hid hm7
                        clear hn7 hm7
                        have c0 := (hS.1.cell (p := ⟨wk.heap.size, 0, none⟩) hl_P).trans k_P_0
                        have c1 := (hS.1.cell (p := ⟨wk.heap.size, 1, none⟩) hl_P).trans k_P_1
                        have c2 := (hS.1.cell (p := ⟨wk.heap.size, 2, none⟩) hl_P).trans k_P_2
                        have fz : ∀ o, wq.frozen? ⟨wk.heap.size, o, none⟩ = false := fun o => (hS.1.frozen (p := ⟨wk.heap.size, o, none⟩) hl_P).trans (f_P o)
                        have P0 := Lib.hid p0
                        have P1 := Lib.hid p1
                        have P2 := Lib.hid p2
                        have P3 := Lib.hid p3
                        have P4 := Lib.hid p4
                        have P5 := Lib.hid p5
                        have P6 := Lib.hid p6
                        have P7 := Lib.hid p7
                        have HS := Lib.hid hS
                        clear hS hLi hafter p0 p1 p2 p3 p4 p5 p6 p7
                        simp only [Act.put, List.setIfInBounds_toArray, List.set_cons_zero, List.set_cons_succ]
                        go_wp2_with fail
                        exact ⟨u114, u115, u116, u117, u118, u119, u120, .agg #[.bool (decide ((pn).num < 0)), .slice r7 (nlen (pn).num.natAbs) c7, .slice t7 (nlen (pn).den) d7], by simp only [Act.put, List.setIfInBounds_toArray, List.set_cons_zero, List.set_cons_succ], .inr ⟨by simp, fun j hj => by simp [HALL.out j hj], ⟨_, _, _, _, _, HS.out, HN7.out, HM7.out, rfl⟩⟩⟩
                    · exfalso
                      have hi : i < 9 := (Array.getElem?_eq_some_iff.1 ho).1
                      rcases Nat.lt_or_ge i 8 with h | h
                      · rw [hall i h] at hLi; cases hLi
                      · obtain rfl : i = 8 := by omega
                        rw [h10] at hLi; cases hLi
                  · intro Ls a0 wq hall hJ
                    obtain ⟨u114, u115, u116, u117, u118, u119, u120, u121, rfl, ⟨h10, _⟩ | ⟨_, _, hcut⟩⟩ := hJ
                    · rw [hall 8 (by decide)] at h10; cases h10
                    · obtain ⟨w2, r2, c2', r22, c22, hs, hn, hn', rfl⟩ := hcut
                      have Hs := Lib.hid hs
                      have Hn := Lib.hid hn
                      have Hn' := Lib.hid hn'
                      clear hs hn hn'
                      simp only [Act.put, List.setIfInBounds_toArray, List.set_cons_zero, List.set_cons_succ]
                      go_wp2_with fail
                      go_roundw
                      case rel => exact ⟨j + 1, pn, by omega, by go_num, HEN.out, (((HOB.out.below Hs.out.1).set hlB _).set hlB _).set hlB _, Rl.step (k := 0) (q := fun _ => pn) (show Rl N w2 wk.heap.size 1 0 (fun _ => pn) from ⟨(HRP.out.below Hs.out.1).1, fun i hi => absurd hi (by omega)⟩) (by omega) (by omega) Hn.out Hn'.out, (((HB.out.trans (Hs.out.1.mono hs0)).setCell (Nat.le_refl _) _).setCell (Nat.le_refl _) _).setCell (Nat.le_refl _) _, by have := Hs.out.1.size; simp [World.setCell]; omega⟩
                      case measure => simp [intOf]; omega
              · obtain rfl : j = n := by omega
                obtain ⟨xp, xc, rfl, hsl⟩ := HOB.out.sl
                have HSL := Lib.hid hsl
                obtain ⟨g, hg⟩ : ∃ g, erN (bt k) j = g := ⟨_, rfl⟩
                have hgM : g < M := by rw [← hg, ← HM.out]; exact Nat.lt_succ_of_le (erN_quarter (bt k) j)
                have HG := Lib.hid hg
                clear hsl hg
                go_wp2_with fail
                refine (gut_any _ _ _ (bt k) _ h20 HSL.out).mono ?_
                rw [HG.out]
                rintro e w' ⟨rfl, rfl⟩
                have hgz : ((M : Int) ≤ (g : Int)) = False := by simp; omega
                have hgz2 : decide ((M : Int) ≤ (g : Int)) = false := by simp; omega
                have hgz3 : decide (M ≤ g) = false := by simp; omega
                have hg0 : (0 : Int) ≤ (g : Int) := by omega
                have hg1 : (g : Int) < (M : Int) := Int.ofNat_lt.2 hgM
                have HRw := Lib.hid (HRe.out.below HB.out)
                obtain ⟨sw, rv, lv, kv, dv, mv, ev, g6, g7, g8, hrt⟩ := HRw.out.2 g hgM
                obtain ⟨ps, hps⟩ : ∃ p, sQ (patT q j g) k = p := ⟨_, rfl⟩
                replace hrt : Rt N wi sw rv lv kv dv mv ev (sQ (patT q j g) k) 2000 := hrt
                rw [hps] at hrt
                have HW := Lib.hid hrt
                have fo := HRw.out.1.frozen
                have hlg : wv.heap.size < wi.heap.size := HRw.out.1.lt
                clear hrt
                obtain ⟨rp, cp, rp2, cp2, k_P_0, k_P_1, k_P_2, hp1, hp2⟩ := HRP.out.2 0 (by omega)
                simp only [Nat.zero_mul, Nat.zero_add] at k_P_0 k_P_1 k_P_2
                have HP1 := Lib.hid hp1
                have HP2 := Lib.hid hp2
                have f_P := HRP.out.1.frozen
                have hl_P : wk.heap.size < wi.heap.size := HRP.out.lt
                have HBNP := Lib.hid HRP.out.bn
                clear hp1 hp2
                obtain ⟨pn, hpn⟩ : ∃ p, ps + pp = p := ⟨_, rfl⟩
                have HPN := Lib.hid hpn
                have HEN := Lib.hid (show sQ (patT q j g) (k + 1) = pn by show sQ (patT q j g) k + patT q j g k = pn; unfold patT; rw [if_pos HG.out, HPP2.out]; exact (congrArg (· + pp) hps).trans hpn)
                have HZN := Lib.hid (show rsz pn ≤ 2000 by rw [← HEN.out]; have := patS_rsz q j g (by omega) (fun x hx => HLim.out x hx) (k + 1); omega)
                clear hps hpn
                go_upto_region 30 with fail
                refine region_inv2 (by kernel_rfl) (MdJ30 N wk.heap.size wv.heap.size M g ps pp pn rp rp2 cp cp2 sw rv dv lv kv mv ev (wi)) ?_ ?_ ?_ ?_
                · exact ⟨u139, u140, u141, u142, u143, u144, u145, u146, u147, by simp only [Act.put, List.setIfInBounds_toArray, List.set_cons_zero, List.set_cons_succ], .inl ⟨rfl, Since.drawn _, (fun h => by cases h), (fun h => by cases h), (fun h => by cases h), (fun h => by cases h), (fun h => by cases h), (fun h => by cases h), (fun h => by cases h), (fun h => by cases h), (fun h => by cases h)⟩⟩
                · exact acyc_spec (by kernel_rfl)
                · intro Ls a0 wq i o ho hLi hafter hJ
                  obtain ⟨u139, u140, u141, u142, u143, u144, u145, u146, u147, rfl, hJ | ⟨h10, hall, _⟩⟩ := hJ
                  · obtain ⟨hLl, hS, p0, p1, p2, p3, p4, p5, p6, p7, p8⟩ := hJ
                    have hi : i < 10 := (Array.getElem?_eq_some_iff.1 ho).1
                    obtain rfl | rfl | rfl | rfl | rfl | rfl | rfl | rfl | rfl | rfl : i = 0 ∨ i = 1 ∨ i = 2 ∨ i = 3 ∨ i = 4 ∨ i = 5 ∨ i = 6 ∨ i = 7 ∨ i = 8 ∨ i = 9 := by omega
                    · simp only [List.getElem?_toArray, List.getElem?_cons_zero, List.getElem?_cons_succ, Option.some.injEq] at ho
                      subst ho
                      have P0 := Lib.hid p0
                      have P1 := Lib.hid p1
                      have P2 := Lib.hid p2
                      have P3 := Lib.hid p3
                      have P4 := Lib.hid p4
                      have P5 := Lib.hid p5
                      have P6 := Lib.hid p6
                      have P7 := Lib.hid p7
                      have P8 := Lib.hid p8
                      have HS := Lib.hid hS
                      clear hS hLi hafter p0 p1 p2 p3 p4 p5 p6 p7 p8
                      simp only [Act.put, List.setIfInBounds_toArray, List.set_cons_zero, List.set_cons_succ]
                      go_wp2_with fail
                      exact ⟨.slice (some ⟨wv.heap.size, 0, none⟩) M M, u140, u141, u142, u143, u144, u145, u146, u147, by simp only [Act.put, List.setIfInBounds_toArray, List.set_cons_zero, List.set_cons_succ], .inl ⟨by simpa using hLl, HS.out, (fun _ => rfl), (fun h => by first | rfl | exact P1.out (by simpa using h)), (fun h => by first | rfl | exact P2.out (by simpa using h)), (fun h => by first | rfl | exact P3.out (by simpa using h)), (fun h => by first | rfl | exact P4.out (by simpa using h)), (fun h => by first | rfl | exact P5.out (by simpa using h)), (fun h => by first | rfl | exact P6.out (by simpa using h)), (fun h => P7.out (by simpa using h)), (fun h => by first | rfl | exact P8.out (by simpa using h))⟩⟩
                    · simp only [List.getElem?_toArray, List.getElem?_cons_zero, List.getElem?_cons_succ, Option.some.injEq] at ho
                      subst ho
                      have P0 := Lib.hid p0
                      have P1 := Lib.hid p1
                      have P2 := Lib.hid p2
                      have P3 := Lib.hid p3
                      have P4 := Lib.hid p4
                      have P5 := Lib.hid p5
                      have P6 := Lib.hid p6
                      have P7 := Lib.hid p7
                      have P8 := Lib.hid p8
                      have HS := Lib.hid hS
                      clear hS hLi hafter p0 p1 p2 p3 p4 p5 p6 p7 p8
                      simp only [Act.put, List.setIfInBounds_toArray, List.set_cons_zero, List.set_cons_succ]
                      go_wp2_with fail
                      exact ⟨u139, .int .i64 g, u141, u142, u143, u144, u145, u146, u147, by simp only [Act.put, List.setIfInBounds_toArray, List.set_cons_zero, List.set_cons_succ], .inl ⟨by simpa using hLl, HS.out, (fun h => by first | rfl | exact P0.out (by simpa using h)), (fun _ => rfl), (fun h => by first | rfl | exact P2.out (by simpa using h)), (fun h => by first | rfl | exact P3.out (by simpa using h)), (fun h => by first | rfl | exact P4.out (by simpa using h)), (fun h => by first | rfl | exact P5.out (by simpa using h)), (fun h => by first | rfl | exact P6.out (by simpa using h)), (fun h => P7.out (by simpa using h)), (fun h => by first | rfl | exact P8.out (by simpa using h))⟩⟩
                    · simp only [List.getElem?_toArray, List.getElem?_cons_zero, List.getElem?_cons_succ, Option.some.injEq] at ho
                      subst ho
                      have P0 := Lib.hid p0
                      have P1 := Lib.hid p1
                      have P2 := Lib.hid p2
                      have P3 := Lib.hid p3
                      have P4 := Lib.hid p4
                      have P5 := Lib.hid p5
                      have P6 := Lib.hid p6
                      have P7 := Lib.hid p7
                      have P8 := Lib.hid p8
                      have HS := Lib.hid hS
                      clear hS hLi hafter p0 p1 p2 p3 p4 p5 p6 p7 p8
                      simp only [Act.put, List.setIfInBounds_toArray, List.set_cons_zero, List.set_cons_succ]
                      go_wp2_with fail
                      exact ⟨u139, u140, .slice (some ⟨wv.heap.size, 0, none⟩) M M, u142, u143, u144, u145, u146, u147, by simp only [Act.put, List.setIfInBounds_toArray, List.set_cons_zero, List.set_cons_succ], .inl ⟨by simpa using hLl, HS.out, (fun h => by first | rfl | exact P0.out (by simpa using h)), (fun h => by first | rfl | exact P1.out (by simpa using h)), (fun _ => rfl), (fun h => by first | rfl | exact P3.out (by simpa using h)), (fun h => by first | rfl | exact P4.out (by simpa using h)), (fun h => by first | rfl | exact P5.out (by simpa using h)), (fun h => by first | rfl | exact P6.out (by simpa using h)), (fun h => P7.out (by simpa using h)), (fun h => by first | rfl | exact P8.out (by simpa using h))⟩⟩
                    · simp only [List.getElem?_toArray, List.getElem?_cons_zero, List.getElem?_cons_succ, Option.some.injEq] at ho
                      subst ho
                      have P0 := Lib.hid p0
                      have P1 := Lib.hid p1
                      have P2 := Lib.hid p2
                      have P3 := Lib.hid p3
                      have P4 := Lib.hid p4
                      have P5 := Lib.hid p5
                      have P6 := Lib.hid p6
                      have P7 := Lib.hid p7
                      have P8 := Lib.hid p8
                      have HS := Lib.hid hS
                      clear hS hLi hafter p0 p1 p2 p3 p4 p5 p6 p7 p8
                      simp only [Act.put, List.setIfInBounds_toArray, List.set_cons_zero, List.set_cons_succ]
                      go_wp2_with fail
                      exact ⟨u139, u140, u141, .int .i64 g, u143, u144, u145, u146, u147, by simp only [Act.put, List.setIfInBounds_toArray, List.set_cons_zero, List.set_cons_succ], .inl ⟨by simpa using hLl, HS.out, (fun h => by first | rfl | exact P0.out (by simpa using h)), (fun h => by first | rfl | exact P1.out (by simpa using h)), (fun h => by first | rfl | exact P2.out (by simpa using h)), (fun _ => rfl), (fun h => by first | rfl | exact P4.out (by simpa using h)), (fun h => by first | rfl | exact P5.out (by simpa using h)), (fun h => by first | rfl | exact P6.out (by simpa using h)), (fun h => P7.out (by simpa using h)), (fun h => by first | rfl | exact P8.out (by simpa using h))⟩⟩
                    · simp only [List.getElem?_toArray, List.getElem?_cons_zero, List.getElem?_cons_succ, Option.some.injEq] at ho
                      subst ho
                      obtain rfl := p2 (hafter ⟨2, .data⟩ (by simp) rfl)
                      obtain rfl := p3 (hafter ⟨3, .data⟩ (by simp) rfl)
                      have P0 := Lib.hid p0
                      have P1 := Lib.hid p1
                      have P2 := Lib.hid p2
                      have P3 := Lib.hid p3
                      have P4 := Lib.hid p4
                      have P5 := Lib.hid p5
                      have P6 := Lib.hid p6
                      have P7 := Lib.hid p7
                      have P8 := Lib.hid p8
                      have HS := Lib.hid hS
                      clear hS hLi hafter p0 p1 p2 p3 p4 p5 p6 p7 p8
                      simp only [Act.put, List.setIfInBounds_toArray, List.set_cons_zero, List.set_cons_succ]
                      go_wp2_with fail
                      exact ⟨u139, u140, .slice (some ⟨wv.heap.size, 0, none⟩) M M, .int .i64 g, .pointer (some ⟨wv.heap.size, g * 3, none⟩), u144, u145, u146, u147, by simp only [Act.put, List.setIfInBounds_toArray, List.set_cons_zero, List.set_cons_succ], .inl ⟨by simpa using hLl, HS.out, (fun h => by first | rfl | exact P0.out (by simpa using h)), (fun h => by first | rfl | exact P1.out (by simpa using h)), (fun h => by first | rfl | exact P2.out (by simpa using h)), (fun h => by first | rfl | exact P3.out (by simpa using h)), (fun _ => rfl), (fun h => by first | rfl | exact P5.out (by simpa using h)), (fun h => by first | rfl | exact P6.out (by simpa using h)), (fun h => P7.out (by simpa using h)), (fun h => by first | rfl | exact P8.out (by simpa using h))⟩⟩
                    · simp only [List.getElem?_toArray, List.getElem?_cons_zero, List.getElem?_cons_succ, Option.some.injEq] at ho
                      subst ho
                      obtain rfl := p4 (hafter ⟨4, .data⟩ (by simp) rfl)
                      have c0 := (hS.1.cell (p := ⟨wv.heap.size, g * 3, none⟩) hlg).trans g6
                      have c1 := (hS.1.cell (p := ⟨wv.heap.size, g * 3 + 1, none⟩) hlg).trans g7
                      have c2 := (hS.1.cell (p := ⟨wv.heap.size, g * 3 + 2, none⟩) hlg).trans g8
                      have P0 := Lib.hid p0
                      have P1 := Lib.hid p1
                      have P2 := Lib.hid p2
                      have P3 := Lib.hid p3
                      have P4 := Lib.hid p4
                      have P5 := Lib.hid p5
                      have P6 := Lib.hid p6
                      have P7 := Lib.hid p7
                      have P8 := Lib.hid p8
                      have HS := Lib.hid hS
                      clear hS hLi hafter p0 p1 p2 p3 p4 p5 p6 p7 p8
                      simp only [Act.put, List.setIfInBounds_toArray, List.set_cons_zero, List.set_cons_succ]
                      go_wp2_with fail
                      exact ⟨u139, u140, u141, u142, .pointer (some ⟨wv.heap.size, g * 3, none⟩), .agg #[.bool sw, .slice rv lv kv, .slice dv mv ev], u145, u146, u147, by simp only [Act.put, List.setIfInBounds_toArray, List.set_cons_zero, List.set_cons_succ], .inl ⟨by simpa using hLl, HS.out, (fun h => by first | rfl | exact P0.out (by simpa using h)), (fun h => by first | rfl | exact P1.out (by simpa using h)), (fun h => by first | rfl | exact P2.out (by simpa using h)), (fun h => by first | rfl | exact P3.out (by simpa using h)), (fun h => by first | rfl | exact P4.out (by simpa using h)), (fun _ => rfl), (fun h => by first | rfl | exact P6.out (by simpa using h)), (fun h => P7.out (by simpa using h)), (fun h => by first | rfl | exact P8.out (by simpa using h))⟩⟩
                    · simp only [List.getElem?_toArray, List.getElem?_cons_zero, List.getElem?_cons_succ, Option.some.injEq] at ho
                      subst ho
                      have c0 := (hS.1.cell (p := ⟨wk.heap.size, 0, none⟩) hl_P).trans k_P_0
                      have c1 := (hS.1.cell (p := ⟨wk.heap.size, 1, none⟩) hl_P).trans k_P_1
                      have c2 := (hS.1.cell (p := ⟨wk.heap.size, 2, none⟩) hl_P).trans k_P_2
                      have P0 := Lib.hid p0
                      have P1 := Lib.hid p1
                      have P2 := Lib.hid p2
                      have P3 := Lib.hid p3
                      have P4 := Lib.hid p4
                      have P5 := Lib.hid p5
                      have P6 := Lib.hid p6
                      have P7 := Lib.hid p7
                      have P8 := Lib.hid p8
                      have HS := Lib.hid hS
                      clear hS hLi hafter p0 p1 p2 p3 p4 p5 p6 p7 p8
                      simp only [Act.put, List.setIfInBounds_toArray, List.set_cons_zero, List.set_cons_succ]
                      go_wp2_with fail
                      exact ⟨u139, u140, u141, u142, u143, u144, .agg #[.bool (decide ((pp).num < 0)), .slice rp (nlen (pp).num.natAbs) cp, .slice rp2 (nlen (pp).den) cp2], u146, u147, by simp only [Act.put, List.setIfInBounds_toArray, List.set_cons_zero, List.set_cons_succ], .inl ⟨by simpa using hLl, HS.out, (fun h => by first | rfl | exact P0.out (by simpa using h)), (fun h => by first | rfl | exact P1.out (by simpa using h)), (fun h => by first | rfl | exact P2.out (by simpa using h)), (fun h => by first | rfl | exact P3.out (by simpa using h)), (fun h => by first | rfl | exact P4.out (by simpa using h)), (fun h => by first | rfl | exact P5.out (by simpa using h)), (fun _ => rfl), (fun h => P7.out (by simpa using h)), (fun h => by first | rfl | exact P8.out (by simpa using h))⟩⟩
                    · simp only [List.getElem?_toArray, List.getElem?_cons_zero, List.getElem?_cons_succ, Option.some.injEq] at ho
                      subst ho
                      obtain rfl := p5 (hafter ⟨5, .data⟩ (by simp) rfl)
                      obtain rfl := p6 (hafter ⟨6, .data⟩ (by simp) rfl)
                      have P0 := Lib.hid p0
                      have P1 := Lib.hid p1
                      have P2 := Lib.hid p2
                      have P3 := Lib.hid p3
                      have P4 := Lib.hid p4
                      have P5 := Lib.hid p5
                      have P6 := Lib.hid p6
                      have P7 := Lib.hid p7
                      have P8 := Lib.hid p8
                      have HS := Lib.hid hS
                      clear hS hLi hafter p0 p1 p2 p3 p4 p5 p6 p7 p8
                      simp only [Act.put, List.setIfInBounds_toArray, List.set_cons_zero, List.set_cons_succ]
                      go_wp2_with fail
                      refine (radd_any (N := N) _ _ _ _ _ _ _ _ _ _ _ _ _ _ 2000 2000 ps pp _ (by have := HS.out.2; omega) (HW.out.below HS.out.1) (Rt.of_norm (HP1.out.below HS.out.1) (HP2.out.below HS.out.1) _ HZP.out) (by omega) (by omega) pn HPN.out).mono ?_
                      rintro e wn ⟨r, c, r2, c2, rfl, hn, hn', hb⟩
                      have HN := Lib.hid hn
                      have HM := Lib.hid hn'
                      have Hb := Lib.hid hb
                      clear hn hn' hb
                      go_wp2_with fail
                      exact ⟨u139, u140, u141, u142, u143, .agg #[.bool sw, .slice rv lv kv, .slice dv mv ev], .agg #[.bool (decide ((pp).num < 0)), .slice rp (nlen (pp).num.natAbs) cp, .slice rp2 (nlen (pp).den) cp2], _, u147, by simp only [Act.put, List.setIfInBounds_toArray, List.set_cons_zero, List.set_cons_succ], .inl ⟨by simpa using hLl, HS.out.below Hb.out, (fun h => by first | rfl | exact P0.out (by simpa using h)), (fun h => by first | rfl | exact P1.out (by simpa using h)), (fun h => by first | rfl | exact P2.out (by simpa using h)), (fun h => by first | rfl | exact P3.out (by simpa using h)), (fun h => by first | rfl | exact P4.out (by simpa using h)), (fun h => by first | rfl | exact P5.out (by simpa using h)), (fun h => by first | rfl | exact P6.out (by simpa using h)), (fun _ => ⟨r, c, r2, c2, rfl, HN.out, HM.out⟩), (fun h => by first | rfl | exact P8.out (by simpa using h))⟩⟩
                    · simp only [List.getElem?_toArray, List.getElem?_cons_zero, List.getElem?_cons_succ, Option.some.injEq] at ho
                      subst ho
                      obtain rfl := p0 (hafter ⟨0, .data⟩ (by simp) rfl)
                      obtain rfl := p1 (hafter ⟨1, .data⟩ (by simp) rfl)
                      have P0 := Lib.hid p0
                      have P1 := Lib.hid p1
                      have P2 := Lib.hid p2
                      have P3 := Lib.hid p3
                      have P4 := Lib.hid p4
                      have P5 := Lib.hid p5
                      have P6 := Lib.hid p6
                      have P7 := Lib.hid p7
                      have P8 := Lib.hid p8
                      have HS := Lib.hid hS
                      clear hS hLi hafter p0 p1 p2 p3 p4 p5 p6 p7 p8
                      simp only [Act.put, List.setIfInBounds_toArray, List.set_cons_zero, List.set_cons_succ]
                      go_wp2_with fail
                      exact ⟨.slice (some ⟨wv.heap.size, 0, none⟩) M M, .int .i64 g, u141, u142, u143, u144, u145, u146, .pointer (some ⟨wv.heap.size, g * 3, none⟩), by simp only [Act.put, List.setIfInBounds_toArray, List.set_cons_zero, List.set_cons_succ], .inl ⟨by simpa using hLl, HS.out, (fun h => by first | rfl | exact P0.out (by simpa using h)), (fun h => by first | rfl | exact P1.out (by simpa using h)), (fun h => by first | rfl | exact P2.out (by simpa using h)), (fun h => by first | rfl | exact P3.out (by simpa using h)), (fun h => by first | rfl | exact P4.out (by simpa using h)), (fun h => by first | rfl | exact P5.out (by simpa using h)), (fun h => by first | rfl | exact P6.out (by simpa using h)), (fun h => P7.out (by simpa using h)), (fun _ => rfl)⟩⟩
                    · simp only [List.getElem?_toArray, List.getElem?_cons_zero, List.getElem?_cons_succ, Option.some.injEq] at ho
                      subst ho
                      have hall : ∀ j, j < 9 → Ls j = true := by
                        intro j hj
                        obtain rfl | rfl | rfl | rfl | rfl | rfl | rfl | rfl | rfl : j = 0 ∨ j = 1 ∨ j = 2 ∨ j = 3 ∨ j = 4 ∨ j = 5 ∨ j = 6 ∨ j = 7 ∨ j = 8 := by omega
                        all_goals first | (refine hafter ⟨_, .phase⟩ ?_ rfl; simp; done) | (refine hafter ⟨_, .data⟩ ?_ rfl; simp; done)
                      have HALL := Lib.hid hall
                      clear hall
                      obtain ⟨r7, c7, t7, d7, rfl, hn7, hm7⟩ := p7 (hafter ⟨7, .data⟩ (by simp) rfl)
                      have HN7 := Lib.hid hn7
                      have HM7 := Lib.hid hm7
                      clear hn7 hm7
                      obtain rfl := p8 (hafter ⟨8, .data⟩ (by simp) rfl)
                      have c0 := (hS.1.cell (p := ⟨wv.heap.size, g * 3, none⟩) hlg).trans g6
                      have c1 := (hS.1.cell (p := ⟨wv.heap.size, g * 3 + 1, none⟩) hlg).trans g7
                      have c2 := (hS.1.cell (p := ⟨wv.heap.size, g * 3 + 2, none⟩) hlg).trans g8
                      have fz : ∀ o, wq.frozen? ⟨wv.heap.size, o, none⟩ = false := fun o => (hS.1.frozen (p := ⟨wv.heap.size, o, none⟩) hlg).trans (fo o)
                      have P0 := Lib.hid p0
                      have P1 := Lib.hid p1
                      have P2 := Lib.hid p2
                      have P3 := Lib.hid p3
                      have P4 := Lib.hid p4
                      have P5 := Lib.hid p5
                      have P6 := Lib.hid p6
                      have P7 := Lib.hid p7
                      have P8 := Lib.hid p8
                      have HS := Lib.hid hS
                      clear hS hLi hafter p0 p1 p2 p3 p4 p5 p6 p7 p8
                      simp only [Act.put, List.setIfInBounds_toArray, List.set_cons_zero, List.set_cons_succ]
                      go_wp2_with fail
                      exact ⟨u139, u140, u141, u142, u143, u144, u145, .agg #[.bool (decide ((pn).num < 0)), .slice r7 (nlen (pn).num.natAbs) c7, .slice t7 (nlen (pn).den) d7], .pointer (some ⟨wv.heap.size, g * 3, none⟩), by simp only [Act.put, List.setIfInBounds_toArray, List.set_cons_zero, List.set_cons_succ], .inr ⟨by simp, fun j hj => by simp [HALL.out j hj], ⟨_, _, _, _, _, HS.out, HN7.out, HM7.out, rfl⟩⟩⟩
                  · exfalso
                    have hi : i < 10 := (Array.getElem?_eq_some_iff.1 ho).1
                    rcases Nat.lt_or_ge i 9 with h | h
                    · rw [hall i h] at hLi; cases hLi
                    · obtain rfl : i = 9 := by omega
                      rw [h10] at hLi; cases hLi
                · intro Ls a0 wq hall hJ
                  obtain ⟨u139, u140, u141, u142, u143, u144, u145, u146, u147, rfl, ⟨h10, _⟩ | ⟨_, _, hcut⟩⟩ := hJ
                  · rw [hall 9 (by decide)] at h10; cases h10
                  · obtain ⟨w2, r2, c2', r22, c22, hs, hn, hn', rfl⟩ := hcut
                    have Hs := Lib.hid hs
                    have Hn := Lib.hid hn
                    have Hn' := Lib.hid hn'
                    clear hs hn hn'
                    simp only [Act.put, List.setIfInBounds_toArray, List.set_cons_zero, List.set_cons_succ]
                    go_wp2_with fail
                    go_roundw
                    case rel => exact ⟨k + 1, by omega, by go_num, (HRw.out.below Hs.out.1).put (k := g) (by omega) hgM pn HEN.out HZN.out (fun i hi hne => by show sQ (patT q j i) k = sQ (patT q j i) k + patT q j i k; unfold patT; rw [if_neg (fun hh => hne (hh.symm.trans HG.out))]; exact (Rat.add_zero _).symm) Hn.out Hn'.out, (((HBk.out.trans ((HB.out.trans (Hs.out.1.mono hs0)).mono hsk)).setCell (Nat.le_refl _) _).setCell (Nat.le_refl _) _).setCell (Nat.le_refl _) _, by have := Hs.out.1.size; simp [World.setCell]; omega⟩
                    case measure => simp [intOf]; omega
          · obtain rfl : k = P := by omega
            have hpow0 : ((2 : Int) ^ n) = ((2 ^ n : Nat) : Int) := by simp
            have hpow : wrap64 ((2 : Int) ^ n) = (k : Int) := by rw [hpow0, HPP.out]; unfold wrap64; omega
            clear hpow0
            have hsh : ¬ (k : Int) < wrap64 ((2 : Int) ^ n) := by rw [hpow]; exact Int.lt_irrefl _
            clear hpow
            go_wp2_with fail
            clear hsh
            go_loopw [17] (fun i wr => ∃ j : Nat, j ≤ M ∧ i = .int .i64 j ∧ Below wk.heap.size wk wr) (fun i _ => M - (intOf i).toNat)
            case atStart => exact ⟨0, Nat.zero_le _, rfl, Below.refl _ _⟩
            case round =>
              clear hN
              obtain ⟨j, hj, rfl, hbel⟩ := hrel
              obtain ⟨wi, rfl⟩ : ∃ x : World, x = wr := ⟨_, rfl⟩
              have HB17 := Lib.hid hbel
              have hs17 : wk.heap.size ≤ wi.heap.size := hbel.size
              have hN : N ≤ wi.heap.size := by omega
              clear hbel
              by_cases hjM : j < M
              · obtain ⟨rd, cd_, rd2, cd2_, g0, g1, g2, n1, n2⟩ := (HD.out.below HB17.out).2 j hjM
                obtain ⟨sw, rv, lv, kv, dv, mv, ev, g3, g4, g5, hrt⟩ := (HRe.out.below HB17.out).2 j hjM
                obtain ⟨pv, hpv⟩ : ∃ p, nlQ q n j = p := ⟨_, rfl⟩
                have e2 : sQ (patT q n j) k = pv := by rw [← hpv, nl_pat, HPP.out]
                rw [hpv] at g0 g1 g2 n1 n2
                simp only [e2] at hrt
                have HN1 := Lib.hid n1
                have HN2 := Lib.hid n2
                have HW := Lib.hid hrt
                have HZV := Lib.hid (show rsz pv ≤ 2000 by rw [← hpv]; have := nl_rsz q n 2 h20 HX.out HLim.out j; omega)
                have hl1 : bg < wi.heap.size := World.block_lt_of_cell? wi _ g0
                have hl2 : wv.heap.size < wi.heap.size := World.block_lt_of_cell? wi _ g3
                have HK := Lib.hid (show cmpQ pv pv = 0 by unfold cmpQ; rw [if_neg Rat.lt_irrefl, if_neg Rat.lt_irrefl])
                clear n1 n2 hrt hpv e2
                have hix0 : (0 : Int) ≤ (j : Int) := by omega
                have hix1 : (j : Int) < (M : Int) := by omega
                have HB := HB17
                have hs0 := hs17
                clear HB17 hs17
                go_wp2_with fail
                go_region_held3 (fun w' => w'.cell? ⟨bg, j * 3, none⟩ = some (.bool (decide (pv.num < 0))) ∧ w'.cell? ⟨bg, j * 3 + 1, none⟩ = some (.slice rd (nlen pv.num.natAbs) cd_) ∧ w'.cell? ⟨bg, j * 3 + 2, none⟩ = some (.slice rd2 (nlen pv.den) cd2_) ∧ w'.cell? ⟨wv.heap.size, j * 3, none⟩ = some (.bool sw) ∧ w'.cell? ⟨wv.heap.size, j * 3 + 1, none⟩ = some (.slice rv lv kv) ∧ w'.cell? ⟨wv.heap.size, j * 3 + 2, none⟩ = some (.slice dv mv ev))
                  (first | (go_keep; done) | ((try dsimp only); (repeat' apply And.intro) <;> (first | (go_keep; done) | (exact cell_keep_alloc_drew (by first | omega | (simp; omega)) (by first | assumption | go_simp)) | (exact cell_keep_alloc (by first | omega | (simp; omega)) (by first | assumption | go_simp)) | (rw [cell_set2 _ _ _ _ _ _ _ _ (by omega)]; assumption) | (rw [cell_set3 _ _ _ _ _ _ _ _ _ _ (by omega)]; assumption))))
                  (first
                    | (go_at_call 13; refine (rcmp_any (N := N) _ _ _ _ _ _ _ _ _ _ _ _ _ _ 2000 2000 pv pv _ (by exact hN) (by exact Rt.of_norm HN1.out HN2.out 2000 HZV.out) (by exact HW.out) (by omega) (by omega)).mono ?_; rw [HK.out]; rintro e wy ⟨rfl, hb⟩; replace hb : Below wi.heap.size wi wy := (by first | exact hb | exact bel_of_drew hb); have g0' : wy.cell? ⟨bg, j * 3, none⟩ = some (.bool (decide (pv.num < 0))) := (hb.cell (p := ⟨bg, j * 3, none⟩) hl1).trans g0; have g1' : wy.cell? ⟨bg, j * 3 + 1, none⟩ = some (.slice rd (nlen pv.num.natAbs) cd_) := (hb.cell (p := ⟨bg, j * 3 + 1, none⟩) hl1).trans g1; have g2' : wy.cell? ⟨bg, j * 3 + 2, none⟩ = some (.slice rd2 (nlen pv.den) cd2_) := (hb.cell (p := ⟨bg, j * 3 + 2, none⟩) hl1).trans g2; have g3' : wy.cell? ⟨wv.heap.size, j * 3, none⟩ = some (.bool sw) := (hb.cell (p := ⟨wv.heap.size, j * 3, none⟩) hl2).trans g3; have g4' : wy.cell? ⟨wv.heap.size, j * 3 + 1, none⟩ = some (.slice rv lv kv) := (hb.cell (p := ⟨wv.heap.size, j * 3 + 1, none⟩) hl2).trans g4; have g5' : wy.cell? ⟨wv.heap.size, j * 3 + 2, none⟩ = some (.slice dv mv ev) := (hb.cell (p := ⟨wv.heap.size, j * 3 + 2, none⟩) hl2).trans g5; have hs_wy : wi.heap.size ≤ wy.heap.size := hb.size; replace HN1 := Lib.hid (HN1.out.below hb); replace HN2 := Lib.hid (HN2.out.below hb); replace HW := Lib.hid (HW.out.below hb); replace HB := Lib.hid (HB.out.trans (hb.mono hs0)); replace hN : N ≤ wy.heap.size := Nat.le_trans hN hb.size; replace hs0 : wk.heap.size ≤ wy.heap.size := Nat.le_trans hs0 hb.size; clear hb; skip))
                go_wp2_with fail
                go_roundw
                case rel => exact ⟨j + 1, by omega, by go_num, HB.out⟩
                case measure => simp [intOf]; omega
              · obtain rfl : j = M := by omega
                go_wp2_with fail
                go_ret
                exact ⟨rfl, HBV.out.trans ((HBk.out.trans (HB17.out.mono hsk)).mono hsV)⟩

theorem model_any {N : Nat} (a : Option Addr) (n ca : Nat) (q : Nat → Rat) (ln ld : Nat → Nat) (w : World) (hN : N ≤ w.heap.size) (h : Ru N w a n ca q ln ld) :
    Calls Try.prog 4 #[.slice a n ca] w fun e w' => e = .returned (.bool true) ∧ Below w.heap.size w w' := by
  by_cases h6 : n ≤ 6
  · by_cases hh : n ≤ 8 ∧ ∀ j, j < n → ln j ≤ 2 ∧ ld j ≤ 2
    · have HR : Rs N w a n ca q 2 := h.rs 2 (by omega) hh.2
      by_cases hc : chkF q n = 0
      · exact model_ok (N := N) a n ca q ln ld w hN h HR h6 hc
      · have h3 : chkF q n = 3 := by
          unfold chkF at hc ⊢
          rw [if_neg (by omega)] at hc ⊢
          split
          · next hp => rw [if_pos hp] at hc; exact absurd rfl hc
          · rfl
        exact model_bad (N := N) a n ca q ln ld w hN h HR h6 h3 hc
    · exact model_heavy (N := N) a n ca q ln ld w hN h (by omega) hh
  · exact model_long (N := N) a n ca q ln ld w hN h (by omega)

end Go.Proofs.Ytjobopafcgnljaa
