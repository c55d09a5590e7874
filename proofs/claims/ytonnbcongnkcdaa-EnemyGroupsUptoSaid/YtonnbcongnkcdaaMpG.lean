/- Maps of slices of numbers that a call makes, as functions on the integers. Over any program. No condition. -/
import Derived.Test.YtonnbcongnkcdaaMpA
import Derived.Test.YtonnbcongnkcdaaOwS
import Derived.Maps.OwnRows
namespace Go.Proofs.Ytonnbcongnkcdaa
open Go Go.Maps Go.RowKit Go.MapKept
open Go.WideElems (Fit rd rg rd_key rd_val rg_of)
open Go.ChangeShapes (lits)

section
variable {P : Program} {T K E e : TypeId}

/-- the types of a map of slices -/
structure MG (P : Program) (T K E : TypeId) : Prop where
  map : P.underlying T = some (.map K E)
  key : P.underlying K = some (.int .i64)
  zero : ∀ w, (zeroValue E).run P w = .ok (.slice none 0 0) w

/-- the datum of a slice of numbers -/
def Rd (d : DataW Unit) (zs : List Int) : Prop := (d = .nil ∧ zs = []) ∨ d = .slice (lits .i64 zs) []
theorem lits_inj {H : Type} {q : IntKind} {zs ys : List Int} (h : lits (H := H) q zs = lits q ys) : zs = ys :=
  (List.map_inj_right (fun a b hab => by cases hab; rfl)).1 h
theorem Rd.unique {d : DataW Unit} {zs ys : List Int} (h : Rd d zs) (k : Rd d ys) : zs = ys := by
  rcases h with ⟨rfl, rfl⟩ | rfl <;> rcases k with ⟨h2, rfl⟩ | h2
  · rfl
  · cases h2
  · cases h2
  · exact lits_inj (by injection h2)
theorem Rd.row {w : World} {base : Nat} {v : Value} {zs : List Int} (h : w.ownsInts base e .i64 v zs) : Rd (rowDatum .i64 v zs) zs := h.datum

/-- block b is a map of at most n entries; at each key x it holds nil or a row of the call's own, with the numbers f x -/
def Mg (P : Program) (K e : TypeId) (w : World) (base b n : Nat) (f : Int → List Int) : Prop :=
  ∃ D : DataW Unit, w.ownsGroups P K base e .i64 b n D ∧ ∀ x, W64 x → Rd (D.atKey (.int .i64 x) .nil) (f x)
theorem Mg.made (w : World) : Mg P K e (w.alloc (.map #[] 0)) (w.heap.size + 1) w.heap.size 0 (fun _ => []) :=
  ⟨.map [], World.ownsGroups_made _ _ _ _ _, fun _ _ => .inl ⟨rfl, rfl⟩⟩
theorem Mg.empty {w : World} {base b : Nat} (h : w.heap[b]? = some (.map #[] 0)) (hb : b < base) : Mg P K e w base b 0 (fun _ => []) :=
  ⟨.map [], ⟨#[], 0, h, ⟨by simp, stamped_empty 0, by simp⟩, Nat.le_refl _, rfl, hb, by simp, by simp⟩, fun _ _ => .inl ⟨rfl, rfl⟩⟩
theorem Mg.lt {w : World} {base b n : Nat} {f : Int → List Int} (h : Mg P K e w base b n f) : b < base ∧ b < w.heap.size := by
  obtain ⟨D, ⟨es, clock, hb, _, _, _, hbb, _⟩, _⟩ := h
  exact ⟨hbb, (Array.getElem?_eq_some_iff.1 hb).1⟩
theorem Mg.congr {w : World} {base b n : Nat} {f g : Int → List Int} (h : Mg P K e w base b n f) (hx : ∀ x, W64 x → f x = g x) : Mg P K e w base b n g := by
  obtain ⟨D, h, k⟩ := h; exact ⟨D, h, fun x hx' => by rw [← hx x hx']; exact k x hx'⟩
theorem Mg.below {w w' : World} {base b n : Nat} {f : Int → List Int} (h : Mg P K e w base b n f) (hbe : Below w.heap.size w w') : Mg P K e w' base b n f := by
  have hg : w.grownBy w' none := ⟨hbe.os, hbe.tape, hbe.output, hbe.size, fun k hk _ => hbe.block k hk⟩
  have hlt := h.lt.2
  obtain ⟨D, ⟨es, clock, hb, F, hs, rfl, hbb, hlen, hap⟩, k⟩ := h
  have hn : ∀ v : Value, v.ownBlock = none ∨ v.ownBlock ≠ none := fun v => by cases v.ownBlock <;> simp
  have hst : ∀ x ∈ es.toList, ∀ z, rowElem (H := Unit) w base e .i64 x.val = some z → rowElem w' base e .i64 x.val = some z := fun x hx z hz => by
    obtain ⟨zs, ho, rfl⟩ := rowElem_inv hz
    exact rowElem_mk (ho.kept hg (hn _))
  obtain ⟨F1, hmap, _⟩ := F.stay hst
  refine ⟨_, ⟨es, clock, (hbe.block b hlt).trans hb, F1, hs, rfl, hbb, fun x hx zs ho => ?_, hap⟩, fun x hx => by rw [hmap]; exact k x hx⟩
  obtain ⟨y, hy⟩ := F.reads x hx
  obtain ⟨z, hz, _⟩ := rd_val hy
  obtain ⟨zs0, ho0, _⟩ := rowElem_inv hz
  rw [ho.unique (ho0.kept hg (hn _))]
  exact hlen x hx zs0 ho0

/-- the way back of a look-up at key: whatever is done to the slice v alone -/
def Back (P : Program) (T K e : TypeId) (w : World) (base b n : Nat) (f : Int → List Int) (key : Int) (v : Value) : Prop :=
  ∀ (w1 : World) (v' : Value) (zs' : List Int), w.grownBy w1 v.ownBlock → Ow base e w1 v' zs' → (∀ z ∈ zs', W64 z) → zs'.length ≤ n + 1 → (v'.ownBlock = v.ownBlock ∨ v'.ownBlock = some w.heap.size ∨ ∃ g, v'.ownBlock = some g ∧ w.heap.size ≤ g) →
    ∃ w2, (Instr.mapUpdate T (.map (some b)) (.int .i64 key) v').run P w1 = .ok () w2 ∧ Mg P K e w2 base b (n + 1) (fun y => if y = key then zs' else f y) ∧ w1.grownBy w2 (some b)

variable {ops : Array Oper} {rest : List Oper} {o : Oper} {a : Act} {Q : Exit → Act → World → Prop}

theorem ints_of {w : World} {base : Nat} {v : Value} {zs : List Int} (h : Ow base e w v zs) (h64 : ∀ z ∈ zs, W64 z) : w.ownsInts base e .i64 v zs := ⟨h, fun z hz => (h64 z hz).wf⟩
theorem Mg.at {w : World} {base b n : Nat} {f : Int → List Int} (U : MG P T K E) (h : Mg P K e w base b n f) (hn : n < maxLen) {key : Int} (hk : W64 key) :
    ∃ v, (Instr.lookup T (.map (some b)) (.int .i64 key) false).run P w = .ok v w ∧ Ow base e w v (f key) ∧ (∀ z ∈ f key, W64 z) ∧ (f key).length ≤ n ∧ Back P T K e w base b n f key v := by
  obtain ⟨D, h, k⟩ := h
  obtain ⟨v, zs, hrun, hat, hoi, hzl, hback⟩ := h.at (int_keyed U.key) U.map (U.zero w) hn (keyOf_int_mk U.key hk.wf)
  have e1 : f key = zs := Rd.unique (hat ▸ k key hk) (Rd.row hoi)
  rw [e1]
  refine ⟨v, hrun, hoi.1, fun z hz => W64.of (hoi.2 z hz), hzl, fun w1 v' zs' hg ho h64 hl hloc => ?_⟩
  have ho2 := ints_of ho h64
  obtain ⟨w2, hr2, ho3, hg3⟩ := hback w1 v' zs' hg ho2 hl (hloc.imp id fun h => h.elim (fun h => ⟨_, h, Nat.le_refl _⟩) id)
  have hm : ∃ l, D = .map l := by obtain ⟨es, _, _, _, _, e1, _⟩ := h; exact ⟨_, e1⟩
  refine ⟨w2, hr2, ⟨_, ho3, fun x hx => ?_⟩, hg3⟩
  show Rd _ (if x = key then zs' else f x)
  by_cases c : x = key
  · subst c
    rw [atKey_put_same hm key_isKey, if_pos rfl]
    exact Rd.row ho2
  · rw [atKey_put_other (by simpa using c), if_neg c]
    exact k x hx
theorem wp_look_g (w : World) (hg : o.guard = none) (m x : Operand) (hop : o.op = Op.lookup T m x false) (U : MG P T K E) (base b n : Nat) (f : Int → List Int)
    (hm : a.eval m = .map (some b)) (h : Mg P K e w base b n f) (hn : n < maxLen) (key : Int) (hx : a.eval x = .int .i64 key) (hk : W64 key)
    (hK : ∀ v, Ow base e w v (f key) → (∀ z ∈ f key, W64 z) → (f key).length ≤ n → Back P T K e w base b n f key v → wpList P ops Q rest (a.put o.dst v) w) : wpList P ops Q (o :: rest) a w := by
  refine wpList_plain hg fun K' hK' => ?_
  obtain ⟨v, hrun, h1, h2, h3, h4⟩ := h.at U hn hk
  unfold Oper.wp
  simp [execOp, hop, hm, hx, hrun, Result.andThen]
  exact hK' _ _ (hK v h1 h2 h3 h4)
theorem wp_back_g (w : World) (hg : o.guard = none) (m x v : Operand) (hop : o.op = Op.mapUpdate T m x v) {w0 : World} {base b n : Nat} {f : Int → List Int} {key : Int} {u v' : Value} {zs' : List Int}
    (hback : Back P T K e w0 base b n f key u) (hm : a.eval m = .map (some b)) (hx : a.eval x = .int .i64 key) (hv : a.eval v = v')
    (hgr : w0.grownBy w u.ownBlock) (ho : Ow base e w v' zs') (h64 : ∀ z ∈ zs', W64 z) (hl : zs'.length ≤ n + 1) (hloc : v'.ownBlock = u.ownBlock ∨ v'.ownBlock = some w0.heap.size ∨ ∃ g, v'.ownBlock = some g ∧ w0.heap.size ≤ g)
    (hK : ∀ w2, Mg P K e w2 base b (n + 1) (fun y => if y = key then zs' else f y) → w.grownBy w2 (some b) → wpList P ops Q rest (a.put o.dst undef) w2) : wpList P ops Q (o :: rest) a w := by
  refine wpList_plain hg fun K' hK' => ?_
  obtain ⟨w2, hrun, r1, r2⟩ := hback w v' zs' hgr ho h64 hl hloc
  unfold Oper.wp
  simp [execOp, hop, hm, hx, hv, hrun, Result.andThen]
  exact hK' _ _ (hK w2 r1 r2)

/-- the reader that takes an element as it stands -/
def heldR (v : Value) : Option (DataW Value × List MemPlace) := some (.held v, [])
/-- block b is a map of at most n entries; at each key x it holds the value val x -/
def Mv (P : Program) (K : TypeId) (w : World) (b n : Nat) (val : Int → Value) : Prop :=
  ∃ D : DataW Value, w.ownsMap P K heldR b n D ∧ ∀ x, W64 x → D.atKey (.int .i64 x) (.held (.slice none 0 0)) = .held (val x)
theorem Mv.lt {w : World} {b n : Nat} {val : Int → Value} (h : Mv P K w b n val) : b < w.heap.size := by obtain ⟨D, h, _⟩ := h; exact h.lt
theorem ownsMap_heapV {w w' : World} {R : Value → Option (DataW Value × List MemPlace)} {b n : Nat} {D : DataW Value} (h : w.ownsMap P K R b n D) (e : w'.heap[b]? = w.heap[b]?) : w'.ownsMap P K R b n D := by
  obtain ⟨es, clock, hb, F, hs, hD⟩ := h
  exact ⟨es, clock, e.trans hb, F, hs, hD⟩
theorem Mv.grown {w w' : World} {b n : Nat} {val : Int → Value} {row : Option Nat} (h : Mv P K w b n val) (hg : w.grownBy w' row) (hne : some b ≠ row) : Mv P K w' b n val := by
  obtain ⟨D, h, k⟩ := h; exact ⟨D, h.kept hg hne, k⟩
theorem Mv.look {w : World} {b n : Nat} {val : Int → Value} (U : MG P T K E) (h : Mv P K w b n val) {key : Int} (hk : W64 key) : (Instr.lookup T (.map (some b)) (.int .i64 key) false).run P w = .ok (val key) w := by
  obtain ⟨D, h, k⟩ := h
  obtain ⟨v, ps, hrun, hat⟩ := h.lookup (zd := .held (.slice none 0 0)) (zp := []) (int_keyed U.key) U.map (U.zero w) rfl (keyOf_int_mk U.key hk.wf)
  rw [k key hk] at hat
  unfold heldR at hat
  simp at hat
  rw [hrun, hat.1]
theorem wp_look_v (w : World) (hg : o.guard = none) (m x : Operand) (hop : o.op = Op.lookup T m x false) (U : MG P T K E) (b n : Nat) (val : Int → Value)
    (hm : a.eval m = .map (some b)) (h : Mv P K w b n val) (key : Int) (hx : a.eval x = .int .i64 key) (hk : W64 key) (v : Value) (hv : val key = v)
    (hK : wpList P ops Q rest (a.put o.dst v) w) : wpList P ops Q (o :: rest) a w := by
  refine wpList_plain hg fun K' hK' => ?_
  have hrun := h.look U hk
  rw [hv] at hrun
  unfold Oper.wp
  simp [execOp, hop, hm, hx, hrun, Result.andThen]
  exact hK' _ _ hK
/-- a look-up at key, wherever it stands while other blocks turn -/
theorem Mg.here {w : World} {base b n : Nat} {f : Int → List Int} (U : MG P T K E) (h : Mg P K e w base b n f) (hn : n < maxLen) {key : Int} (hk : W64 key) :
    ∃ v, (∀ w', w'.heap[b]? = w.heap[b]? → (Instr.lookup T (.map (some b)) (.int .i64 key) false).run P w' = .ok v w') ∧ Ow base e w v (f key) ∧ (∀ z ∈ f key, W64 z) ∧ (f key).length ≤ n ∧ Back P T K e w base b n f key v := by
  obtain ⟨v, h1, h2, h3, h4, h5⟩ := h.at U hn hk
  obtain ⟨D, ⟨es, clock, hb, F, hs, rfl, hbb, hlen, hap⟩, k⟩ := h
  have F2 : Fit P K heldR es clock := ⟨F.size, F.stamped, fun x hx => by
    obtain ⟨y, hy⟩ := F.reads x hx
    exact ⟨(y.1, .held x.val), by simp [rd, heldR, rd_key hy]⟩⟩
  have hown : w.ownsMap P K heldR b n (.map ((es.toList.map (rg P K heldR)).foldr DataW.insert [])) := ⟨es, clock, hb, F2, hs, rfl⟩
  obtain ⟨u, ps, hrun, hat⟩ := hown.lookup (zd := .held (.slice none 0 0)) (zp := []) (int_keyed U.key) U.map (U.zero w) rfl (keyOf_int_mk U.key hk.wf)
  rw [h1] at hrun
  obtain e1 : v = u := by simpa using hrun
  refine ⟨v, fun w' hw => ?_, h2, h3, h4, h5⟩
  obtain ⟨u2, ps2, hrun2, hat2⟩ := (ownsMap_heapV hown hw).lookup (zd := .held (.slice none 0 0)) (zp := []) (int_keyed U.key) U.map (U.zero w') rfl (keyOf_int_mk U.key hk.wf)
  unfold heldR at hat hat2
  simp at hat hat2
  rw [hrun2, e1, ← DataW.held.inj (hat.1.trans hat2.1.symm)]
theorem wp_look_h (w : World) (hg : o.guard = none) (m x : Operand) (hop : o.op = Op.lookup T m x false) (b : Nat) (hm : a.eval m = .map (some b)) (key v : Value) (hx : a.eval x = key)
    (hrun : (Instr.lookup T (.map (some b)) key false).run P w = .ok v w) (hK : wpList P ops Q rest (a.put o.dst v) w) : wpList P ops Q (o :: rest) a w := by
  refine wpList_plain hg fun K' hK' => ?_
  unfold Oper.wp
  simp [execOp, hop, hm, hx, hrun, Result.andThen]
  exact hK' _ _ hK
/-- a map of slices, seen as what it holds: the values, the rows, and that no two keys' rows are one -/
theorem Mg.vals {w : World} {base b n : Nat} {f : Int → List Int} (U : MG P T K E) (h : Mg P K e w base b n f) (hn : n < maxLen) :
    ∃ val : Int → Value, Mv P K w b n val ∧ (∀ x, W64 x → Ow base e w (val x) (f x) ∧ ∀ z ∈ f x, W64 z) ∧ (∀ x, W64 x → (f x).length ≤ n) ∧ ∀ x y, W64 x → W64 y → x ≠ y → (val x).ownBlock = none ∨ (val x).ownBlock ≠ (val y).ownBlock := by
  have hA : ∀ x, ∃ v, W64 x → (Instr.lookup T (.map (some b)) (.int .i64 x) false).run P w = .ok v w ∧ Ow base e w v (f x) ∧ (∀ z ∈ f x, W64 z) ∧ (f x).length ≤ n := fun x => by
    by_cases hx : W64 x
    · obtain ⟨v, h1, h2, h3, h4, _⟩ := h.at U hn hx
      exact ⟨v, fun _ => ⟨h1, h2, h3, h4⟩⟩
    · exact ⟨.slice none 0 0, fun h => absurd h hx⟩
  have hD := h
  obtain ⟨D, ⟨es, clock, hb, F, hs, rfl, hbb, hlen, hap⟩, k⟩ := hD
  have F2 : Fit P K heldR es clock := ⟨F.size, F.stamped, fun x hx => by
    obtain ⟨y, hy⟩ := F.reads x hx
    exact ⟨(y.1, .held x.val), by simp [rd, heldR, rd_key hy]⟩⟩
  have hown : w.ownsMap P K heldR b n (.map ((es.toList.map (rg P K heldR)).foldr DataW.insert [])) := ⟨es, clock, hb, F2, hs, rfl⟩
  refine ⟨fun x => Classical.choose (hA x), ⟨_, hown, fun x hx => ?_⟩, fun x hx => ?_, fun x hx => ?_, fun x y hx hy hne => ?_⟩
  · obtain ⟨h1, _⟩ := Classical.choose_spec (hA x) hx
    obtain ⟨v, ps, hrun, hat⟩ := hown.lookup (zd := .held (.slice none 0 0)) (zp := []) (int_keyed U.key) U.map (U.zero w) rfl (keyOf_int_mk U.key hx.wf)
    rw [h1] at hrun
    obtain e1 : Classical.choose (hA x) = v := by simpa using hrun
    unfold heldR at hat
    simp at hat
    show _ = DataW.held (Classical.choose (hA x))
    rw [e1]; exact hat.1.symm
  · obtain ⟨_, h2, h3, _⟩ := Classical.choose_spec (hA x) hx; exact ⟨h2, h3⟩
  · exact (Classical.choose_spec (hA x) hx).2.2.2
  · have look : ∀ z, W64 z → (Classical.choose (hA z) = .slice none 0 0) ∨ ∃ e0 ∈ es.toList, e0.key = .int .i64 z ∧ e0.val = Classical.choose (hA z) := fun z hz => by
      obtain ⟨h1, _⟩ := Classical.choose_spec (hA z) hz
      rcases Maps.fit_look false (int_keyed U.key) U.map (U.zero w) hb F (keyOf_int_mk U.key hz.wf) with ⟨hrun, _, _⟩ | ⟨e0, y, hm0, h3, hrun, _⟩
      · rw [h1] at hrun; exact .inl (by simpa using hrun)
      · rw [h1] at hrun; exact .inr ⟨e0, hm0, h3, by simpa using hrun.symm⟩
    show (Classical.choose (hA x)).ownBlock = none ∨ (Classical.choose (hA x)).ownBlock ≠ (Classical.choose (hA y)).ownBlock
    rcases look x hx with hn0 | ⟨e1, m1, k1, v1⟩
    · rw [hn0]; exact .inl rfl
    · rcases look y hy with hn0 | ⟨e2, m2, k2, v2⟩
      · rw [hn0]
        cases hc : (Classical.choose (hA x)).ownBlock with
        | none => exact .inl rfl
        | some g => exact .inr (by simp [Value.ownBlock])
      · rw [← v1, ← v2]
        exact hap e1 m1 e2 m2 (by rw [k1, k2]; simpa using hne)

/-- a range over such a map under way: left says which keys are still to come -/
def Rv (P : Program) (K : TypeId) (w : World) (b r n : Nat) (val : Int → Value) (left : Int → Bool) (cnt : Nat) : Prop :=
  ∃ (D : DataW Value) (lf : Lit → Bool), w.ranges P K heldR b r n D lf cnt ∧ (∀ x, W64 x → D.atKey (.int .i64 x) (.held (.slice none 0 0)) = .held (val x)) ∧ ∀ x, W64 x → lf (.int .i64 x) = left x
theorem Rv.grown {w w' : World} {b r n cnt : Nat} {val : Int → Value} {left : Int → Bool} {row : Option Nat} (h : Rv P K w b r n val left cnt) (hg : w.grownBy w' row) (h1 : some b ≠ row) (h2 : some r ≠ row) : Rv P K w' b r n val left cnt := by
  obtain ⟨D, lf, h, k, l⟩ := h
  exact ⟨D, lf, h.kept hg h1 h2, k, l⟩
theorem Rv.left_eq {w : World} {b r n cnt : Nat} {val : Int → Value} {left : Int → Bool} (h : Rv P K w b r n val left cnt) : w.rangeLeft b r = cnt := by obtain ⟨D, lf, h, _⟩ := h; exact h.left_eq
theorem Rv.lt {w : World} {b r n cnt : Nat} {val : Int → Value} {left : Int → Bool} (h : Rv P K w b r n val left cnt) : b < w.heap.size ∧ r < w.heap.size ∧ r ≠ b := by obtain ⟨D, lf, h, _⟩ := h; exact ⟨h.owns.lt, h.lt, h.ne⟩
theorem wp_range_v (w : World) (hg : o.guard = none) (m : Operand) (hop : o.op = Op.range T m) (U : MG P T K E) (b n : Nat) (val : Int → Value)
    (hm : a.eval m = .map (some b)) (h : Mv P K w b n val)
    (hK : ∀ w' left cnt, Rv P K w' b w.heap.size n val left cnt → cnt ≤ n → (∀ x, W64 x → val x ≠ .slice none 0 0 → left x = true) → w.grownBy w' none → w'.heap.size = w.heap.size + 1 → wpList P ops Q rest (a.put o.dst (.pointer (some ⟨w.heap.size, 0, none⟩))) w') : wpList P ops Q (o :: rest) a w := by
  obtain ⟨D, h, k⟩ := h
  refine wpList_range_own w hg m T hop K E (int_keyed U.key) U.map _ b n D hm h fun w' hr hgr hs => hK w' (fun x => Maps.has D (.int .i64 x)) (Maps.size D) ⟨D, _, hr, k, fun _ _ => rfl⟩ h.size_le (fun x hx hf => ?_) hgr hs
  by_cases e : Maps.has D (.int .i64 x) = true
  · exact e
  · have h1 := k x hx
    rw [atKey_of_not_has (by simpa using e)] at h1
    simp at h1
    exact absurd h1.symm hf
theorem wp_next_v (w : World) (hg : o.guard = none) (it : Operand) (hop : o.op = Op.next it false) (U : MG P T K E) (b r n cnt : Nat) (val : Int → Value) (left : Int → Bool)
    (hit : a.eval it = .pointer (some ⟨r, 0, none⟩)) (h : Rv P K w b r n val left cnt)
    (hDone : (∀ x, W64 x → left x = false) → wpList P ops Q rest (a.put o.dst (.tuple #[.bool false])) w)
    (hMore : ∀ x v w' cnt', W64 x → left x = true → val x = v → Rv P K w' b r n val (fun z => left z && !decide (z = x)) cnt' → cnt' < cnt → w.grownBy w' (some r) → w'.heap.size = w.heap.size → (Instr.entry (.pointer (some ⟨r, 0, none⟩))).run P w' = .ok (.tuple #[.int .i64 x, v]) w' → wpList P ops Q rest (a.put o.dst (.tuple #[.bool true, .int .i64 x, v])) w') : wpList P ops Q (o :: rest) a w := by
  obtain ⟨D, lf, h, k, l⟩ := h
  refine wpList_next_ranges w hg it hop K (int_keyed U.key) heldR (Value.int .i64) (fun v : Value => v) (fun key kl hkey => by obtain ⟨x, rfl, _⟩ := Maps.keyOf_int_inv U.key hkey; exact ⟨x, rfl⟩) (fun v _ _ => ⟨v, rfl⟩) b r n D lf cnt hit h (fun _ hl => hDone fun x hx => by rw [← l x hx]; exact hl _) fun x v kl y w' cnt' hkey hlk hv hat hrg hlt hgr hsz hen => ?_
  obtain ⟨x', ex, rfl, hwx⟩ := Maps.keyOf_int_inv U.key hkey
  cases ex
  have hx := W64.of hwx
  refine hMore x v w' cnt' hx (by rw [← l x hx]; exact hlk) ?_ ⟨D, _, hrg, k, fun z hz => ?_⟩ hlt hgr hsz hen
  · have h1 := k x hx
    rw [hat] at h1
    unfold heldR at hv
    obtain rfl : y = (.held v, []) := (Option.some.inj hv).symm
    simpa using h1.symm
  · rw [l z hz]
    by_cases e : z = x
    · subst e; simp [Lit.sameKey]
    · have : Lit.sameKey (.int .i64 z) (.int .i64 x) = false := sameKey_ne (by simpa using e)
      simp [this, e]
end
end Go.Proofs.Ytonnbcongnkcdaa
