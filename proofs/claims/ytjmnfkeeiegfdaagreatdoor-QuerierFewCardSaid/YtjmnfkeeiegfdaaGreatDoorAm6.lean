/-
  AM, part 21: regions that draw their order: operations that make a block of their own, under a name that was set aside. Own work.
  AM, part 22: a part of the heap, and back. Own work.
  AM, part 23: the tries and masks of a region that draws. Own work.
  AM, part 24: masks. Own work.
  AM, part 25: what the shape of a region that draws tells. Own work.
  AM, part 26: the invariant of a region that draws; an operation within it. Own work.
  AM, part 27: plans of a region that draws. Own work.
  AM, part 28: planning. Own work.
  AM, part 29: where a region that draws stands, and how it goes on. Own work.
  AM, part 30: a heavy operation of a region that draws; the whole region. Own work.
  AM, part 31: regions that draw their order are sound. Own work.
-/
import Derived.Test.YtjmnfkeeiegfdaaGreatDoorAm5
namespace Go.AM
section
variable {P : Program} {T : Tbl} {K : Kp} {w0 : World} {m : M} {h : AH} {w : World} {ρ ρ' : Operand → Value}

def M.set (m : M) (j : Nat) (k : Blk) : M := fun i => if i = j then some k else m i
theorem M.set_le {m : M} {j : Nat} {k : Blk} (h : m j = none) : m.le (m.set j k) := fun i k' e => by
  unfold M.set
  by_cases hi : i = j
  · subst hi; rw [h] at e; cases e
  · rw [if_neg hi]; exact e
theorem M.set_same {m : M} {j : Nat} {k : Blk} : m.set j k j = some k := by simp [M.set]
theorem M.set_other {m : M} {j i : Nat} {k : Blk} (h : i ≠ j) : m.set j k i = m i := by simp [M.set, h]

/-- A new block under a name that was set aside. -/
theorem Rel.allocAt (r : Rel K w0 m h w) {j : Nat} (hj : j < h.nx) (hm : m j = none) (hl : j < lim) (hK : ¬ K.ids j) (k : Blk) (hk : k.b = w.heap.size) (o : AObj) (ob : Obj) (ho : ObjR (m.set j k) k o ob) :
    Rel K w0 (m.set j k) (h.set j o) (w.alloc ob) := by
  have hle : m.le (m.set j k) := M.set_le hm
  refine ⟨?_, ?_, ?_, ?_, ?_, fun i hi => ?_, r.io⟩
  rotate_left 5
  · obtain ⟨h1, h2⟩ := r.und i hi
    have hij : i ≠ j := by intro e; subst e; exact hK hi
    exact ⟨h1, by rw [M.set_other hij]; exact h2⟩
  · intro i k' e
    show i < h.nx
    by_cases hi : i = j
    · rw [hi]; exact hj
    · rw [M.set_other hi] at e; exact r.dom i k' e
  · intro i o' e
    rw [AH.get_set _ _ _ _ hl] at e
    split at e
    · rename_i hi; subst hi; cases e
      refine ⟨k, ob, M.set_same, ?_, ?_, ho⟩
      · intro hK; have := (r.keep _ hK).1; have := r.size; omega
      · rw [hk]; show (w.heap.push ob)[w.heap.size]? = some ob; simp
    · obtain ⟨k', ob', h1, h2, h3, h4⟩ := r.live i o' e
      refine ⟨k', ob', hle _ _ h1, h2, ?_, h4.mono hle⟩
      have := lt_of_get h3
      simp only [World.alloc]
      rw [Array.getElem?_push, if_neg (by omega)]; exact h3
  · intro a b o1 o2 k1 k2 e1 e2 f1 f2 hb
    rw [AH.get_set _ _ _ _ hl] at e1 e2
    split at e1 <;> split at e2
    · omega
    · rename_i hi hj'
      subst hi
      rw [M.set_same] at f1; cases f1
      rw [M.set_other hj'] at f2
      obtain ⟨k', ob', h1, h2, h3, h4⟩ := r.live b o2 e2
      rw [f2] at h1; cases h1
      have := lt_of_get h3; omega
    · rename_i hi hj'
      subst hj'
      rw [M.set_same] at f2; cases f2
      rw [M.set_other hi] at f1
      obtain ⟨k', ob', h1, h2, h3, h4⟩ := r.live a o1 e1
      rw [f1] at h1; cases h1
      have := lt_of_get h3; omega
    · rename_i hi hj'
      rw [M.set_other hi] at f1
      rw [M.set_other hj'] at f2
      exact r.inj a b o1 o2 k1 k2 e1 e2 f1 f2 hb
  · intro b hb
    have h1 := r.keep b hb
    refine ⟨h1.1, ?_⟩
    have := r.size
    simp only [World.alloc]
    rw [Array.getElem?_push, if_neg (by omega)]; exact h1.2
  · have := r.size; simp; omega

/-- What is known of an operation that made a block of its own. -/
def FOk (P : Program) (K : Kp) (w0 : World) (m : M) (s : Sem Next) (h : AH) (w : World) (j : Nat) (x : Value) (ob : AObj) : Prop :=
  ∃ x' w' k, s.run P w = .ok (.value x') w' ∧ Rel K w0 (m.set j k) (h.set j ob) w' ∧ VR (m.set j k) x x'

theorem Rel.cellsAt (r : Rel K w0 m h w) {j : Nat} (hj : j < h.nx) (hm : m j = none) (hl : j < lim) (hK : ¬ K.ids j) {c c' : List Value} (hv : VRL m c c') (sz : Nat) (t : TypeId) :
    ∃ k, Rel K w0 (m.set j k) (h.set j (.cells c sz)) (w.alloc (.cells c'.toArray t)) ∧ k.b = w.heap.size ∧ k.sh = 0 := by
  have hl' := hv.length
  refine ⟨{ b := w.heap.size, sh := 0, n := c.length, cn := c.length, sz := sz }, r.allocAt hj hm hl hK _ rfl _ _ (.cells ⟨rfl, by simp; omega, rfl, by simp, fun i v hi => ?_, fun i _ => by simp⟩), rfl, rfl⟩
  obtain ⟨v', h1, h2⟩ := hv.get i hi
  refine ⟨v', ?_, h2.mono (M.set_le hm)⟩
  simp only [Nat.zero_add]
  rw [List.getElem?_toArray]; exact h1

theorem new_get {j : Nat} {o : AObj} (hr : (⟨.nil, j⟩ : AH).room = true) : ((⟨.nil, j⟩ : AH).new o).get j = some o := by
  rw [AH.get_new _ _ _ hr, if_pos rfl]

theorem varAt (r : Rel K w0 m h w) {j : Nat} (hj : j < h.nx) (hm : m j = none) (hl : j < lim) (hK : ¬ K.ids j) {c : List Value} {x : Value} {hh : AH} {ob : AObj} (e : newCells ⟨.nil, j⟩ c 0 = some (x, hh)) (hob : hh.get j = some ob) {v' : Value} (hv : VRL m c v'.cells.toList) (t : TypeId) :
    ∃ a w' k, (newVar t v').run P w = .ok a w' ∧ Rel K w0 (m.set j k) (h.set j ob) w' ∧ VR (m.set j k) x (.pointer (some a)) := by
  unfold newCells at e
  split at e
  case isFalse => cases e
  rename_i hr
  cases e
  rw [new_get hr] at hob; cases hob
  obtain ⟨k, h1, h2, h3⟩ := r.cellsAt hj hm hl hK hv 0 t
  exact ⟨⟨w.heap.size, 0, none⟩, w.alloc (.cells v'.cells t), k, rfl, by simpa using h1, VR.newPtr M.set_same h3 h2⟩

theorem mapAt (r : Rel K w0 m h w) {j : Nat} (hj : j < h.nx) (hm : m j = none) (hl : j < lim) (hK : ¬ K.ids j) {s : Sem Next} (es : s.run P w = .ok (.value (.map (some w.heap.size))) (w.alloc (.map #[] 0))) {x : Value} {hh : AH} {ob : AObj} (e : newMap ⟨.nil, j⟩ = .v x hh) (hob : hh.get j = some ob) : FOk P K w0 m s h w j x ob := by
  unfold newMap at e
  split at e
  case isFalse => cases e
  rename_i hr
  cases e
  rw [new_get hr] at hob; cases hob
  exact ⟨_, _, { b := w.heap.size, sh := 0, n := 0, cn := 0, sz := 0 }, es, r.allocAt hj hm hl hK _ rfl _ _ (.map .nil), .map (k := { b := w.heap.size, sh := 0, n := 0, cn := 0, sz := 0 }) M.set_same⟩

theorem abuildSlice_run (ok : TOk T P) {m : M} {w : World} {h : AH} {t len : Nat} {parts : List (Nat × Value)} {parts' : Array (Nat × Value)} {x : Value} {h' : AH} (e : abuildSlice T t len parts h = some (x, h'))
    (hv : VRL m (parts.map (·.2)) (parts'.toList.map (·.2))) (hi : parts.map (·.1) = parts'.toList.map (·.1)) :
    ∃ (zs zs' : List Value) (sz : Nat) (el : TypeId), x = .slice (some ⟨h.nx, 0, none⟩) len len ∧ h.room = true ∧ h' = h.new (.cells zs sz) ∧ VRL m zs zs' ∧ (Instr.buildSlice t len parts').run P w = .ok (.slice (some ⟨w.heap.size, 0, none⟩) len len) (w.alloc (.cells zs'.toArray el)) := by
  unfold abuildSlice at e
  split at e
  case h_2 => cases e
  rename_i el ht
  obtain ⟨i, ht, hd⟩ := desc_of ht
  have ta := ok.at ht
  split at e
  case h_2 => cases e
  rename_i ei he
  have te := ok.at he
  split at e
  case isFalse => cases e
  rename_i hc
  simp only [Bool.and_eq_true, Nat.ble_eq, Nat.blt_eq] at hc
  obtain ⟨⟨⟨h1, h2⟩, h3⟩, h4⟩ := hc
  have h3 := cells_size_zero h3
  cases hf : fillL (fun k => some (k * ei.size, ei.size)) (zerosL (vcells ei.zero) len) parts with
  | none => rw [hf] at e; cases e
  | some c =>
    rw [hf] at e; simp at e; obtain ⟨rfl, rfl⟩ := e
    have hz : VRL m (zerosL (vcells ei.zero) len) (zerosL ei.zero.cells.toList len) := VRL.zeros len ((VR.of_plain m te.plain).vcells)
    have hz' : VRL m (zerosL (vcells ei.zero) len) (zerosL ei.zero.cells.toList len).toArray.toList := by simpa using hz
    obtain ⟨r', g1, g2⟩ := fillL_sound (place' := fun i => some (i * ei.size, ei.size)) (fun _ _ h => h) _ _ _ _ _ hf hz' hv hi
    refine ⟨c, r'.toList, ei.size, el, rfl, h4, rfl, g2, ?_⟩
    simp only [Instr.buildSlice, Sem.run_bind, ta.und, Result.andThen_ok, hd, te.size]
    rw [if_neg (by omega)]
    by_cases h0 : len * ei.size = 0
    · have hl : len = 0 := by rcases Nat.mul_eq_zero.1 h0 with h | h <;> omega
      subst hl
      simp only [zerosL] at g1
      rw [show ([] : List Value).toArray = #[] from rfl] at g1
      have hr : (Array.map (fun (x : Nat) => (#[] : Array Value)[x % (#[] : Array Value).size]!) (Array.range (0 * ei.size))) = #[] := by simp
      simp only [Nat.zero_mul, if_true, Sem.run_pure, Sem.run_bind, Result.andThen_ok]
      simp only [Nat.zero_mul] at hr
      rw [hr, g1]
      simp [newRow]
    · rw [if_neg h0]
      simp only [Sem.run_pure, Sem.run_bind, Result.andThen_ok, te.zero]
      have hr := zeros_range ei.zero.cells (by omega) len
      rw [h3] at hr
      rw [show (Array.map (fun (x : Nat) => ei.zero.cells[x % ei.zero.cells.size]!) (Array.range (len * ei.size))) = (zerosL ei.zero.cells.toList len).toArray by rw [h3]; exact hr]
      rw [g1]
      simp [newRow]


theorem amakeSlice_run (ok : TOk T P) {m : M} {w : World} {h : AH} {t : Nat} {l c l' c' x : Value} {h' : AH} (e : amakeSlice T t l c h = some (x, h')) (hl : VR m l l') (hc : VR m c c') :
    ∃ (l c : Nat) (zs zs' : List Value) (sz : Nat) (el : TypeId), x = .slice (some ⟨h.nx, 0, none⟩) l c ∧ h.room = true ∧ h' = h.new (.cells zs sz) ∧ VRL m zs zs' ∧ (Instr.makeSlice t l' c').run P w = .ok (.slice (some ⟨w.heap.size, 0, none⟩) l c) (w.alloc (.cells zs'.toArray el)) := by
  unfold amakeSlice at e
  split at e
  case h_2 => cases e
  rename_i el l c ht
  obtain ⟨i, ht, hd⟩ := desc_of ht
  have ta := ok.at ht
  split at e
  case h_2 => cases e
  rename_i ei he
  have te := ok.at he
  split at e
  case isFalse => cases e
  rename_i hcond
  simp only [Bool.and_eq_true, Nat.blt_eq, decide_eq_true_eq] at hcond
  obtain ⟨⟨⟨⟨⟨⟨h0, h1⟩, h2⟩, h3⟩, h4⟩, h5⟩, h6⟩ := hcond
  have h5 := cells_size_zero h5
  cases e
  cases hl; cases hc
  obtain ⟨inf, i1, i2, i3⟩ := te.bytes w
  have hz : VRL m (zerosL (vcells ei.zero) c.toNat) (zerosL ei.zero.cells.toList c.toNat) := VRL.zeros _ ((VR.of_plain m te.plain).vcells)
  refine ⟨l.toNat, c.toNat, zerosL (vcells ei.zero) c.toNat, zerosL ei.zero.cells.toList c.toNat, ei.size, el, rfl, h6, rfl, hz, ?_⟩
  have hbig : ¬ ((ei.bytes : Int) * c > 2 ^ 48) := by
    have : (2 : Int) ^ 48 = 281474976710656 := by decide
    omega
  have w1 : IntKind.i64.wrap l = l := wrap_i64_small h0 (by omega)
  have w2 : IntKind.i64.wrap c = c := wrap_i64_small (by omega) (by omega)
  simp only [Instr.makeSlice, Sem.run_bind, ta.und, Result.andThen_ok, hd, asInt, asIntOf, Sem.run_pure, i1, w1, w2, i2]
  have hcnd : ((decide (c < 0) || decide ((ei.bytes : Int) * c > 2 ^ 48)) || decide (l < 0) || decide (l > c)) = false := by
    simp only [Bool.or_eq_false_iff, decide_eq_false_iff_not]
    exact ⟨⟨⟨by omega, hbig⟩, by omega⟩, by omega⟩
  rw [hcnd]
  simp only [Bool.false_eq_true, if_false, run_askRoom, Result.andThen_ok, Sem.run_bind, te.size]
  by_cases h0 : c.toNat * ei.size = 0
  · have hl : c.toNat = 0 := by rcases Nat.mul_eq_zero.1 h0 with h | h <;> omega
    rw [if_pos h0, h0, hl]
    simp [newRow, zerosL]
    rw [show Array.range 0 = #[] from Array.size_eq_zero_iff.1 (by simp)]; simp
  · rw [if_neg h0]
    simp only [Sem.run_pure, Sem.run_bind, Result.andThen_ok, te.zero]
    have hr := zeros_range ei.zero.cells (by omega) c.toNat
    rw [h5] at hr
    rw [show (Array.map (fun (x : Nat) => ei.zero.cells[x % ei.zero.cells.size]!) (Array.range (c.toNat * ei.size))) = (zerosL ei.zero.cells.toList c.toNat).toArray by rw [h5]; exact hr]
    simp [newRow]


theorem float_sound (ok : TOk T P) (r : Rel K w0 m h w) (o : Oper) (hρ : ∀ x ∈ o.op.operands.toList, VR m (ρ x) (ρ' x)) (hf : floatOp o.op = true) {j : Nat} (hj : j < h.nx) (hm : m j = none) (hl : j < lim) (hK : ¬ K.ids j) {x : Value} {hh : AH} {ob : AObj}
    (e : aop T ρ o ⟨.nil, j⟩ = .v x hh) (hob : hh.get j = some ob) : FOk P K w0 m (execOp ρ' o) h w j x ob := by
  unfold aop at e
  obtain ⟨dst, op, type, pos, after, guard⟩ := o
  simp only at hρ hf e ⊢
  cases op with
  | alloc t =>
    simp only [aopK, oAlloc] at e
    split at e
    case h_2 => cases e
    rename_i i ht
    have ta := ok.at ht
    unfold R.ofOptH at e
    split at e
    case h_2 => cases e
    rename_i x1 h1 hq
    cases e
    obtain ⟨a, w', k, g1, g2, g3⟩ := varAt (P := P) r hj hm hl hK hq hob (v' := i.zero) (VR.of_plain m ta.plain).vcells t
    exact ⟨_, w', k, by simp only [execOp, Instr.alloc, Sem.run_bind, ta.zero, Result.andThen_ok, g1, Sem.run_pure], g2, g3⟩
  | box t y =>
    have hy := hρ y (by simp [Op.operands])
    simp only [aopK, aop2] at e
    unfold R.ofOptH at e
    split at e
    case h_2 => cases e
    rename_i x1 h1 hq
    cases e
    obtain ⟨a, w', k, g1, g2, g3⟩ := varAt (P := P) r hj hm hl hK hq hob (v' := ρ' y) hy.vcells t
    exact ⟨_, w', k, by simp only [execOp, Instr.box, Sem.run_bind, Result.andThen_ok, g1, Sem.run_pure], g2, g3⟩
  | makeMap t rr =>
    simp only [aopK, aop2, aop3] at e
    cases rr with
    | none => exact mapAt r hj hm hl hK rfl e hob
    | some y =>
      have hy := hρ y (by simp [Op.operands])
      simp only [Option.map_some, oMakeMap] at e
      split at e
      case h_2 => cases e
      rename_i kt el k n hd hxe
      obtain ⟨i, ht, hd⟩ := desc_of hd
      have ta := ok.at ht
      rw [hxe] at hy
      generalize hx' : ρ' y = y' at hy
      cases hy
      refine mapAt r hj hm hl hK ?_ e hob
      simp only [execOp, Instr.makeMap, Option.map_some, hx', Sem.run_bind, ta.und, Result.andThen_ok, hd, asInt, asIntOf, Sem.run_pure, run_newObj_alloc]
  | makeSlice t l c =>
    simp only [aopK, aop2, aop3] at e
    unfold R.ofOptH at e
    split at e
    case h_2 => cases e
    rename_i x1 h1 hq
    cases e
    obtain ⟨ln, cp, zs, zs', sz, el, rfl, hr, rfl, hv, hrun⟩ := amakeSlice_run (P := P) (w := w) ok hq (hρ l (by simp [Op.operands])) (hρ c (by simp [Op.operands]))
    rw [new_get hr] at hob; cases hob
    obtain ⟨k, g1, g2, g3⟩ := r.cellsAt hj hm hl hK hv sz el
    exact ⟨_, _, k, by simp only [execOp, Sem.run_bind, hrun, Result.andThen_ok, Sem.run_pure], g1, VR.newSl M.set_same g3 g2 _ _⟩
  | buildSlice t n parts =>
    simp only [aopK, aop2] at e
    unfold R.ofOptH at e
    split at e
    case h_2 => cases e
    rename_i x1 h1 hq
    cases e
    obtain ⟨zs, zs', sz, el, rfl, hr, rfl, hv, hrun⟩ := abuildSlice_run (P := P) (w := w) (m := m) (parts' := parts.map fun (i, x) => (i, ρ' x)) ok hq (by
      simp only [mapSnd_eq, List.map_map, Array.toList_map]
      have := VRL.map (l := parts.toList.map (·.2)) (m := m) (ρ := ρ) (ρ' := ρ') (fun x hx => hρ x (by simpa [Op.operands] using hx))
      simpa [List.map_map, Function.comp_def] using this) (by simp [mapSnd_eq, Function.comp_def])
    rw [new_get hr] at hob; cases hob
    obtain ⟨k, g1, g2, g3⟩ := r.cellsAt hj hm hl hK hv sz el
    exact ⟨_, _, k, by simp only [execOp, Sem.run_bind, hrun, Result.andThen_ok, Sem.run_pure], g1, VR.newSl M.set_same g3 g2 _ _⟩
  | _ => cases hf
end
end Go.AM
namespace Go.AM
section
variable {P : Program} {T : Tbl} {K : Kp} {w0 : World} {m : M} {h : AH} {w : World}

/-- Beside K: the blocks of h that h' lacks; names D. -/
def Kp.with (K : Kp) (m : M) (h h' : AH) (D : Nat → Prop) : Kp :=
  ⟨fun b => K.blk b ∨ ∃ i o k, h.get i = some o ∧ h'.get i = none ∧ m i = some k ∧ k.b = b, fun i => K.ids i ∨ D i⟩

theorem Rel.sub (r : Rel K w0 m h w) {h' : AH} (hn : h'.nx = h.nx) (hs : ∀ i o, h'.get i = some o → h.get i = some o) {D : Nat → Prop} (hD : ∀ i, D i → i < h.nx ∧ m i = none) : Rel (K.with m h h' D) w m h' w := by
  refine ⟨fun i k e => by rw [hn]; exact r.dom i k e, ?_, ?_, ?_, Nat.le_refl _, ?_, ⟨rfl, rfl⟩⟩
  · intro i o e
    obtain ⟨k, ob, h1, h2, h3, h4⟩ := r.live i o (hs i o e)
    refine ⟨k, ob, h1, ?_, h3, h4⟩
    rintro (hb | ⟨i', o', k', g1, g2, g3, g4⟩)
    · exact h2 hb
    · have := r.inj i i' o o' k k' (hs i o e) g1 h1 g3 g4.symm
      subst this
      rw [g2] at e; cases e
  · intro i j o o' k k' e e'
    exact r.inj i j o o' k k' (hs _ _ e) (hs _ _ e')
  · rintro b (hb | ⟨i', o', k', g1, g2, g3, g4⟩)
    · have := (r.keep b hb).1; have := r.size
      exact ⟨by omega, rfl⟩
    · obtain ⟨k, ob, h1, h2, h3, h4⟩ := r.live i' o' g1
      rw [g3] at h1; cases h1
      exact ⟨g4 ▸ lt_of_get h3, rfl⟩
  · rintro i (hi | hi)
    · rw [hn]; exact r.und i hi
    · rw [hn]; exact hD i hi

theorem Rel.join (r : Rel K w0 m h w) {h' h2 hj : AH} {D : Nat → Prop} {m' : M} {w2 : World} (r' : Rel (K.with m h h' D) w m' h2 w2) (hle : m.le m') (hn : hj.nx = h2.nx)
    (hs : ∀ i o, hj.get i = some o → h2.get i = some o ∨ (h.get i = some o ∧ h'.get i = none)) : Rel K w0 m' hj w2 := by
  have other : ∀ i o, h.get i = some o → h'.get i = none → ∃ k ob, m i = some k ∧ m' i = some k ∧ ¬ K.blk k.b ∧ (K.with m h h' D).blk k.b ∧ w2.heap[k.b]? = some ob ∧ ObjR m' k o ob := by
    intro i o e e'
    obtain ⟨k, ob, h1, h2, h3, h4⟩ := r.live i o e
    have hk : (K.with m h h' D).blk k.b := .inr ⟨i, o, k, e, e', h1, rfl⟩
    exact ⟨k, ob, h1, hle _ _ h1, h2, hk, by rw [(r'.keep _ hk).2]; exact h3, h4.mono hle⟩
  refine ⟨fun i k e => by rw [hn]; exact r'.dom i k e, ?_, ?_, ?_, Nat.le_trans r.size r'.size, ?_, ⟨r'.io.1.trans r.io.1, r'.io.2.trans r.io.2⟩⟩
  · intro i o e
    rcases hs i o e with e | ⟨e, e'⟩
    · obtain ⟨k, ob, h1, h2, h3, h4⟩ := r'.live i o e
      exact ⟨k, ob, h1, fun hb => h2 (.inl hb), h3, h4⟩
    · obtain ⟨k, ob, _, h1, h2, _, h3, h4⟩ := other i o e e'
      exact ⟨k, ob, h1, h2, h3, h4⟩
  · intro i j o o' k k' e1 e2 f1 f2 hb
    rcases hs i o e1 with e1 | ⟨e1, e1'⟩ <;> rcases hs j o' e2 with e2 | ⟨e2, e2'⟩
    · exact r'.inj i j o o' k k' e1 e2 f1 f2 hb
    · obtain ⟨k1, ob, h1, h2, _, _⟩ := r'.live i o e1
      rw [f1] at h1; cases h1
      obtain ⟨k2, ob2, _, g1, _, g2, _⟩ := other j o' e2 e2'
      rw [f2] at g1; cases g1
      rw [hb] at h2; exact absurd g2 h2
    · obtain ⟨k1, ob, h1, h2, _, _⟩ := r'.live j o' e2
      rw [f2] at h1; cases h1
      obtain ⟨k2, ob2, _, g1, _, g2, _⟩ := other i o e1 e1'
      rw [f1] at g1; cases g1
      rw [← hb] at h2; exact absurd g2 h2
    · obtain ⟨k1, _, h1, h1', _⟩ := other i o e1 e1'
      obtain ⟨k2, _, g1, g1', _⟩ := other j o' e2 e2'
      rw [f1] at h1'; cases h1'
      rw [f2] at g1'; cases g1'
      exact r.inj i j o o' k k' e1 e2 h1 g1 hb
  · intro b hb
    have h1 := r'.keep b (.inl hb)
    have h2 := r.keep b hb
    exact ⟨h2.1, h1.2.trans h2.2⟩
  · intro i hi
    have := r'.und i (.inl hi)
    exact ⟨by rw [hn]; exact this.1, this.2⟩
theorem Rel.und_with {h' h2 : AH} {D : Nat → Prop} {m' : M} {w2 : World} (r' : Rel (K.with m h h' D) w m' h2 w2) : ∀ i, D i → i < h2.nx ∧ m' i = none := fun i hi => r'.und i (.inr hi)
end
end Go.AM
namespace Go.AM

/-- The floats that may be looked into: those that p takes. -/
noncomputable def addF (p : Nat → Bool) (h : AH) : List Flt → AH
  | [] => h
  | (f, id, o) :: r => cond (p f) ((addF p h r).set id o) (addF p h r)
theorem withF_eq (ms hv : List Nat) (i s : Nat) (h : AH) : ∀ fl, withF ms hv i s h fl = addF (fun f => bit (ms.getD i 0) f && (hv.take s).all fun a => !bit (ms.getD a 0) f) h fl
  | [] => rfl
  | (f, id, o) :: r => by simp only [withF, addF, withF_eq ms hv i s h r]
theorem allF_eq (ms hv : List Nat) (s : Nat) (h : AH) : ∀ fl, allF ms hv s h fl = addF (fun f => (hv.take s).all fun a => !bit (ms.getD a 0) f) h fl
  | [] => rfl
  | (f, id, o) :: r => by simp only [allF, addF, allF_eq ms hv s h r]
theorem addF_nx (p : Nat → Bool) (h : AH) : ∀ fl, (addF p h fl).nx = h.nx
  | [] => rfl
  | (f, id, o) :: r => by
    simp only [addF]
    cases p f
    · exact addF_nx p h r
    · exact addF_nx p h r
/-- names of floats are apart and small -/
def FltOk : List Flt → Prop
  | [] => True
  | (_, id, _) :: r => id < lim ∧ (∀ q ∈ r, q.2.1 ≠ id) ∧ FltOk r
theorem addF_get (p : Nat → Bool) (h : AH) : ∀ {fl : List Flt}, FltOk fl → ∀ j, (addF p h fl).get j = (match fl.find? fun q => p q.1 && Nat.beq q.2.1 j with | some q => some q.2.2 | none => h.get j)
  | [], _, j => rfl
  | (f, id, o) :: r, ⟨h1, h2, h3⟩, j => by
    simp only [addF, List.find?_cons]
    cases hp : p f with
    | false => simp only [cond_false, Bool.false_and]; exact addF_get p h h3 j
    | true =>
      simp only [cond_true, Bool.true_and]
      rw [AH.get_set _ _ _ _ h1]
      by_cases hj : j = id
      · subst hj; simp
      · rw [if_neg hj]
        have : Nat.beq id j = false := nbeq (fun e => hj e.symm)
        rw [this]
        exact addF_get p h h3 j

/-! ### What is recorded of temporaries -/
/-- the temporaries by the records that p takes -/
noncomputable def putR (ops : Array Oper) (p : Nat → Bool) (ts0 : PT Value) : List Rec → PT Value
  | [] => ts0
  | (q, v) :: r => cond (p q) (match (ops[q]?).bind (·.dst) with | some d => (putR ops p ts0 r).put 30 d (some v) | none => putR ops p ts0 r) (putR ops p ts0 r)
theorem envOf_eq (ops : Array Oper) (ms : List Nat) (i : Nat) (ts0 : PT Value) : ∀ rs, envOf ops ms i ts0 rs = putR ops (fun q => bit (ms.getD i 0) q) ts0 rs
  | [] => rfl
  | (q, v) :: r => by simp only [envOf, putR, envOf_eq ops ms i ts0 r]; rfl
theorem endOf_eq (ops : Array Oper) (ts0 : PT Value) : ∀ rs, endOf ops ts0 rs = putR ops (fun _ => true) ts0 rs
  | [] => rfl
  | (q, v) :: r => by simp only [endOf, putR, endOf_eq ops ts0 r, cond_true]; rfl
/-- an operation's destination -/
def dstOf (ops : Array Oper) (q : Nat) : Option Tmp := (ops[q]?).bind (·.dst)
theorem putR_get (ops : Array Oper) (p : Nat → Bool) (ts0 : PT Value) (hd : ∀ q d, dstOf ops q = some d → d < lim) : ∀ (rs : List Rec) (t : Nat), tget (putR ops p ts0 rs) t = (match rs.find? fun r => p r.1 && dstOf ops r.1 == some t with | some r => r.2 | none => tget ts0 t)
  | [], t => rfl
  | (q, v) :: r, t => by
    simp only [putR, List.find?_cons]
    cases hp : p q with
    | false => simp only [cond_false, Bool.false_and]; exact putR_get ops p ts0 hd r t
    | true =>
      simp only [cond_true, Bool.true_and]
      cases hq : (ops[q]?).bind (·.dst) with
      | none =>
        have : (dstOf ops q == some t) = false := by unfold dstOf; rw [hq]; rfl
        rw [this]
        exact putR_get ops p ts0 hd r t
      | some d =>
        simp only
        rw [tget_put _ _ _ _ (hd q d hq)]
        by_cases ht : t = d
        · subst ht
          have : (dstOf ops q == some t) = true := by unfold dstOf; rw [hq]; simp
          rw [if_pos rfl, this]
        · have : (dstOf ops q == some t) = false := by unfold dstOf; rw [hq]; simp; exact fun e => ht e.symm
          rw [if_neg ht, this]
          exact putR_get ops p ts0 hd r t
end Go.AM
namespace Go.AM
theorem bit_eq (m j : Nat) : bit m j = m.testBit j := by
  unfold bit Nat.testBit
  have h : Nat.land (Nat.shiftRight m j) 1 = (m >>> j) % 2 := Nat.and_one_is_mod (m >>> j)
  have h' : 1 &&& (m >>> j) = (m >>> j) % 2 := by rw [Nat.and_comm]; exact Nat.and_one_is_mod (m >>> j)
  rw [h, h']
  rcases Nat.mod_two_eq_zero_or_one (m >>> j) with e | e <;> rw [e] <;> rfl
theorem bit_lor (a b j : Nat) : bit (Nat.lor a b) j = (bit a j || bit b j) := by
  rw [bit_eq, bit_eq, bit_eq]; exact Nat.testBit_or a b j
theorem bit_pow (k j : Nat) : bit (2 ^ k) j = decide (k = j) := by rw [bit_eq]; exact Nat.testBit_two_pow
theorem bit_zero (j : Nat) : bit 0 j = false := by rw [bit_eq]; exact Nat.zero_testBit j

/-- the mask of an operation, by the masks ahead of it -/
noncomputable def maskOf (o : Oper) (acc : List Nat) : Nat := o.after.toList.foldl (fun s e => cond (Region.binds .any e) (Nat.lor s (Nat.lor (2 ^ e.on) (acc.getD e.on 0))) s) 0
theorem masks_cons (o : Oper) (r : List Oper) (acc : List Nat) : masks (o :: r) acc = masks r (acc ++ [maskOf o acc]) := rfl
theorem masks_prefix : ∀ (l : List Oper) (acc : List Nat), ∃ t, masks l acc = acc ++ t ∧ t.length = l.length
  | [], acc => ⟨[], by simp [masks], rfl⟩
  | o :: r, acc => by
    obtain ⟨t, h1, h2⟩ := masks_prefix r (acc ++ [maskOf o acc])
    exact ⟨maskOf o acc :: t, by rw [masks_cons, h1]; simp, by simp [h2]⟩
theorem masks_get : ∀ (l : List Oper) (acc : List Nat) (i : Nat) (o : Oper), l[i]? = some o → ∃ acc', (masks l acc)[acc.length + i]? = some (maskOf o acc') ∧ ∀ j, j < acc.length + i → acc'.getD j 0 = (masks l acc).getD j 0
  | [], _, _, _, h => by simp at h
  | x :: r, acc, 0, o, h => by
    simp at h; subst h
    obtain ⟨t, h1, h2⟩ := masks_prefix r (acc ++ [maskOf x acc])
    refine ⟨acc, ?_, fun j hj => ?_⟩
    · rw [masks_cons, h1]; simp
    · rw [masks_cons, h1]
      simp only [Nat.add_zero] at hj
      simp only [List.getD_eq_getElem?_getD]
      rw [List.append_assoc, List.getElem?_append_left hj]
  | x :: r, acc, i + 1, o, h => by
    have h' : r[i]? = some o := by simpa using h
    obtain ⟨acc', g1, g2⟩ := masks_get r (acc ++ [maskOf x acc]) i o h'
    refine ⟨acc', ?_, fun j hj => ?_⟩
    · rw [masks_cons]
      rw [show acc.length + (i + 1) = (acc ++ [maskOf x acc]).length + i by simp; omega]; exact g1
    · rw [masks_cons]; exact g2 j (by simp; omega)
theorem foldMask_bit (acc : List Nat) (j : Nat) : ∀ (l : List Edge) (s : Nat), bit (l.foldl (fun s e => cond (Region.binds .any e) (Nat.lor s (Nat.lor (2 ^ e.on) (acc.getD e.on 0))) s) s) j = true →
    bit s j = true ∨ ∃ e ∈ l, Region.binds .any e = true ∧ (e.on = j ∨ bit (acc.getD e.on 0) j = true)
  | [], s, h => .inl h
  | e :: l, s, h => by
    rw [List.foldl_cons] at h
    rcases foldMask_bit acc j l _ h with h1 | ⟨e', h1, h2⟩
    · cases hb : Region.binds .any e with
      | false => rw [hb] at h1; exact .inl h1
      | true =>
        rw [hb] at h1
        simp only [cond_true, bit_lor, Bool.or_eq_true, bit_pow, decide_eq_true_eq] at h1
        rcases h1 with h1 | h1 | h1
        · exact .inl h1
        · exact .inr ⟨e, by simp, hb, .inl h1⟩
        · exact .inr ⟨e, by simp, hb, .inr h1⟩
    · exact .inr ⟨e', by simp [h1], h2⟩

theorem mask_step {ops : Array Oper} {i : Nat} {o : Oper} (hi : ops[i]? = some o) (hlt : ∀ e ∈ o.after.toList, Region.binds .any e = true → e.on < i) {j : Nat} (h : bit ((masks ops.toList []).getD i 0) j = true) :
    ∃ e ∈ o.after.toList, Region.binds .any e = true ∧ (e.on = j ∨ bit ((masks ops.toList []).getD e.on 0) j = true) := by
  obtain ⟨acc', g1, g2⟩ := masks_get ops.toList [] i o (by simpa using hi)
  simp only [List.length_nil, Nat.zero_add] at g1 g2
  have hm : (masks ops.toList []).getD i 0 = maskOf o acc' := by rw [List.getD_eq_getElem?_getD, g1]; rfl
  rw [hm] at h
  rcases foldMask_bit acc' j _ _ h with h1 | ⟨e, h1, h2, h3⟩
  · rw [bit_zero] at h1; cases h1
  · refine ⟨e, h1, h2, ?_⟩
    rcases h3 with h3 | h3
    · exact .inl h3
    · rw [g2 e.on (hlt e h1 h2)] at h3; exact .inr h3
end Go.AM
namespace Go.AM

structure ShapeOk (ops : Array Oper) (n : Nat) (ms hv : List Nat) : Prop where
  nb : n < 100000
  edge : ∀ (i : Nat) (o : Oper), ops[i]? = some o → ∀ e ∈ o.after.toList, Region.binds .any e = true → e.on < i
  lt : ∀ (q : Nat) (d : Tmp), dstOf ops q = some d → d < n
  guard : ∀ (i : Nat) (o : Oper) (j : Nat) (b : Bool), ops[i]? = some o → o.guard = some (j, b) → bit (ms.getD i 0) j = true
  looks : ∀ (i q : Nat) (o : Oper) (d : Tmp), ops[i]? = some o → i ≠ q → dstOf ops q = some d → d ∈ o.looksAt ops → bit (ms.getD i 0) q = true ∨ bit (ms.getD q 0) i = true
  chain : ∀ (s a b : Nat), hv[s]? = some a → hv[s + 1]? = some b → bit (ms.getD b 0) a = true
  dsts : nodupB (ops.toList.filterMap (·.dst)) = true

theorem mem_zipIdx {ops : Array Oper} {i : Nat} {o : Oper} (h : ops[i]? = some o) : (o, i) ∈ ops.toList.zipIdx := by
  rw [List.mem_zipIdx_iff_getElem?]; simpa using h
theorem drawShape_ok {ops : Array Oper} {n : Nat} {ms hv : List Nat} (h : drawShape ops n ms hv = true) : ShapeOk ops n ms hv := by
  unfold drawShape at h
  simp only [Bool.and_eq_true, Nat.blt_eq, List.all_eq_true] at h
  obtain ⟨⟨⟨⟨⟨h1, h2⟩, h3⟩, h4⟩, h5⟩, h6⟩ := h
  refine ⟨h1, ?_, ?_, ?_, ?_, ?_, h3⟩
  · intro i o hi e he hb
    have := h2 (o, i) (mem_zipIdx hi) e he
    simp only [hb, Bool.not_true, Bool.false_or, Nat.blt_eq] at this
    exact this
  · intro q d hq
    unfold dstOf at hq
    cases ho : ops[q]? with
    | none => rw [ho] at hq; cases hq
    | some o =>
      rw [ho] at hq
      simp only [Option.bind_some] at hq
      have := h4 o (by have := mem_zipIdx ho; exact List.mem_of_getElem? (by simpa using ho))
      rw [hq] at this
      simpa [Nat.blt_eq] using this
  · intro i o j b hi hg
    have := (h5 (o, i) (mem_zipIdx hi)).1
    simpa [hg] using this
  · intro i q o d hi hne hq hd
    unfold dstOf at hq
    cases ho : ops[q]? with
    | none => rw [ho] at hq; cases hq
    | some o2 =>
      rw [ho] at hq
      simp only [Option.bind_some] at hq
      have := (h5 (o, i) (mem_zipIdx hi)).2 (o2, q) (mem_zipIdx ho)
      simp only [nbeq hne, Bool.false_or, hq, Bool.or_eq_true] at this
      rcases this with (h | h) | h
      · simp at h; exact absurd hd h
      · exact .inl h
      · exact .inr h
  · intro s a b ha hb
    have hz : (hv.zip (hv.drop 1))[s]? = some (a, b) := by
      rw [List.getElem?_zip_eq_some]; exact ⟨ha, by simpa [Nat.add_comm] using hb⟩
    exact h6 (a, b) (List.mem_of_getElem? hz)
end Go.AM
namespace Go.AM
section
variable {P : Program} {T : Tbl} {K : Kp} {w0 : World} {m : M} {h : AH} {w : World}

/-- What the temporaries are when the operations of L have come. -/
def TsOk (m : M) (ops : Array Oper) (ts0 : PT Value) (L : Nat → Bool) (rs : List Rec) (a : Array Value) : Prop :=
  ∀ t, (∃ r ∈ rs, L r.1 = true ∧ dstOf ops r.1 = some t ∧ VR m r.2 (a.getD t undef)) ∨ ((∀ q, L q = true → dstOf ops q ≠ some t) ∧ VR m (tget ts0 t) (a.getD t undef))
theorem TsOk.mono {m m' : M} (hle : m.le m') {ops : Array Oper} {ts0 : PT Value} {L : Nat → Bool} {rs : List Rec} {a : Array Value} (e : TsOk m ops ts0 L rs a) : TsOk m' ops ts0 L rs a := by
  intro t
  rcases e t with ⟨r, h1, h2, h3, h4⟩ | ⟨h1, h2⟩
  · exact .inl ⟨r, h1, h2, h3, h4.mono hle⟩
  · exact .inr ⟨h1, h2.mono hle⟩
/-- one record for each operation -/
def RsOk : List Rec → Prop
  | [] => True
  | r :: l => (∀ q ∈ l, q.1 ≠ r.1) ∧ RsOk l
theorem RsOk.uniq : ∀ {rs : List Rec}, RsOk rs → ∀ a ∈ rs, ∀ b ∈ rs, a.1 = b.1 → a = b
  | _ :: _, ⟨h1, h2⟩, a, ha, b, hb, e => by
    rcases List.mem_cons.1 ha with rfl | ha' <;> rcases List.mem_cons.1 hb with rfl | hb'
    · rfl
    · exact absurd e.symm (h1 b hb')
    · exact absurd e (h1 a ha')
    · exact RsOk.uniq h2 a ha' b hb' e

theorem filterMap_uniq : ∀ (l : List Oper), nodupB (l.filterMap (·.dst)) = true → ∀ (q q' : Nat) (d : Tmp), (l[q]?).bind (·.dst) = some d → (l[q']?).bind (·.dst) = some d → q = q'
  | [], _, q, _, _, h, _ => by simp at h
  | o :: l, hn, q, q', d, h, h' => by
    have mem : ∀ (q : Nat), (l[q]?).bind (·.dst) = some d → d ∈ l.filterMap (·.dst) := fun q hq => by
      cases ho : l[q]? with
      | none => rw [ho] at hq; cases hq
      | some o2 =>
        rw [ho] at hq
        exact List.mem_filterMap.2 ⟨o2, List.mem_of_getElem? ho, by simpa using hq⟩
    rw [List.filterMap_cons] at hn
    cases q with
    | zero =>
      simp only [List.getElem?_cons_zero, Option.bind_some] at h
      rw [h] at hn
      simp only [nodupB, Bool.and_eq_true, Bool.not_eq_true', List.contains_eq_mem, decide_eq_false_iff_not] at hn
      cases q' with
      | zero => rfl
      | succ q' => exact absurd (mem q' (by simpa using h')) hn.1
    | succ q =>
      have h1 : (l[q]?).bind (·.dst) = some d := by simpa using h
      cases q' with
      | zero =>
        simp only [List.getElem?_cons_zero, Option.bind_some] at h'
        rw [h'] at hn
        simp only [nodupB, Bool.and_eq_true, Bool.not_eq_true', List.contains_eq_mem, decide_eq_false_iff_not] at hn
        exact absurd (mem q h1) hn.1
      | succ q' =>
        have h2 : (l[q']?).bind (·.dst) = some d := by simpa using h'
        have hn' : nodupB (l.filterMap (·.dst)) = true := by
          cases hd : o.dst with
          | none => rw [hd] at hn; exact hn
          | some d0 => rw [hd] at hn; simp only [nodupB, Bool.and_eq_true] at hn; exact hn.2
        rw [filterMap_uniq l hn' q q' d h1 h2]
theorem ShapeOk.uniq {ops : Array Oper} {n : Nat} {ms hv : List Nat} (sh : ShapeOk ops n ms hv) {q q' : Nat} {d : Tmp} (h : dstOf ops q = some d) (h' : dstOf ops q' = some d) : q = q' :=
  filterMap_uniq ops.toList sh.dsts q q' d (by simpa [dstOf] using h) (by simpa [dstOf] using h')

theorem env_sound {ops : Array Oper} {n : Nat} {ms hv : List Nat} (sh : ShapeOk ops n ms hv) {ts0 : PT Value} {L : Nat → Bool} {rs : List Rec} {a : Array Value} (ht : TsOk m ops ts0 L rs a) (hrs : RsOk rs) {i : Nat} {o : Oper} (ho : ops[i]? = some o)
    (hi : L i = false) (hp : ∀ q, bit (ms.getD i 0) q = true → L q = true) (hc : ∀ q, L q = true → ∀ j, bit (ms.getD q 0) j = true → L j = true) {t : Tmp} (hl : t ∈ o.looksAt ops) : VR m (tget (envOf ops ms i ts0 rs) t) (a.getD t undef) := by
  rw [envOf_eq, putR_get _ _ _ (fun q d hd => Nat.lt_trans (sh.lt q d hd) (Nat.lt_trans sh.nb (show 100000 < 1000000000 by omega)))]
  cases hf : rs.find? fun r => bit (ms.getD i 0) r.1 && dstOf ops r.1 == some t with
  | some r =>
    have hr := List.find?_some hf
    have hm := List.mem_of_find?_eq_some hf
    simp only [Bool.and_eq_true, beq_iff_eq] at hr
    rcases ht t with ⟨r', h1, h2, h3, h4⟩ | ⟨h1, _⟩
    · have := hrs.uniq r' h1 r hm (sh.uniq h3 hr.2)
      subst this; exact h4
    · exact absurd hr.2 (h1 r.1 (hp _ hr.1))
  | none =>
    rcases ht t with ⟨r', h1, h2, h3, h4⟩ | ⟨_, h2⟩
    · have hne : i ≠ r'.1 := fun e => by rw [← e, hi] at h2; cases h2
      rcases sh.looks i r'.1 o t ho hne h3 hl with hb | hb
      · have := List.find?_eq_none.1 hf r' h1
        rw [hb, h3] at this
        simp at this
      · rw [hc _ h2 i hb] at hi; cases hi
    · exact h2
end
end Go.AM
namespace Go.AM

/-! ### Masks -/
theorem fits_ok {ms : List Nat} {dn i : Nat} (h : fits ms dn i = true) : (∀ j, bit (ms.getD i 0) j = true → bit dn j = true) ∧ bit dn i = false := by
  unfold fits at h
  simp only [Bool.and_eq_true, Bool.not_eq_true'] at h
  refine ⟨fun j hj => ?_, h.2⟩
  have h1 := Nat.eq_of_beq_eq_true h.1
  rw [bit_eq] at hj ⊢
  have h2 : (Nat.land (ms.getD i 0) dn).testBit j = true := by rw [h1]; exact hj
  have h3 : (ms.getD i 0 &&& dn).testBit j = true := h2
  rw [Nat.testBit_and, Bool.and_eq_true] at h3
  exact h3.2
theorem bit_add {p : Plan} {i : Nat} {x : Value} {fl : List Flt} {nx : Nat} (j : Nat) : bit (p.add i x fl nx).dn j = (bit p.dn j || decide (i = j)) := by
  unfold Plan.add; rw [bit_lor, bit_pow]

/-- no heavy operation of the first s has taken f over -/
def free (ms hv : List Nat) (s f : Nat) : Bool := (hv.take s).all fun a => !bit (ms.getD a 0) f

/-- each operation has one float -/
def FlNd : List Flt → Prop
  | [] => True
  | r :: l => (∀ q ∈ l, q.1 ≠ r.1) ∧ FlNd l
theorem FlNd.uniq : ∀ {fl : List Flt}, FlNd fl → ∀ a ∈ fl, ∀ b ∈ fl, a.1 = b.1 → a = b
  | _ :: _, ⟨h1, h2⟩, a, ha, b, hb, e => by
    rcases List.mem_cons.1 ha with rfl | ha' <;> rcases List.mem_cons.1 hb with rfl | hb'
    · rfl
    · exact absurd e.symm (h1 b hb')
    · exact absurd e (h1 a ha')
    · exact FlNd.uniq h2 a ha' b hb' e
theorem FltOk.uniq : ∀ {fl : List Flt}, FltOk fl → ∀ a ∈ fl, ∀ b ∈ fl, a.2.1 = b.2.1 → a = b
  | (_, id, _) :: _, ⟨h0, h1, h2⟩, a, ha, b, hb, e => by
    rcases List.mem_cons.1 ha with rfl | ha' <;> rcases List.mem_cons.1 hb with rfl | hb'
    · rfl
    · exact absurd e.symm (h1 b hb')
    · exact absurd e (h1 a ha')
    · exact FltOk.uniq h2 a ha' b hb' e
theorem FltOk.lim : ∀ {fl : List Flt}, FltOk fl → ∀ a ∈ fl, a.2.1 < AM.lim
  | (_, id, _) :: _, ⟨h0, h1, h2⟩, a, ha => by
    rcases List.mem_cons.1 ha with rfl | ha'
    · exact h0
    · exact FltOk.lim h2 a ha'

/-- what is so of a plan: u bounds the stages of what is planned -/
structure PlanOk (T : Tbl) (ops : Array Oper) (ms hv : List Nat) (ts0 : PT Value) (u s : Nat) (h : AH) (p : Plan) : Prop where
  dn : ∀ j, bit p.dn j = true ↔ ∃ r ∈ p.rs, r.1 = j
  rs : RsOk p.rs
  closed : ∀ r ∈ p.rs, ∀ j, bit (ms.getD r.1 0) j = true → bit p.dn j = true
  idx : ∀ r ∈ p.rs, (∃ o, ops[r.1]? = some o) ∧ (r.1 ∉ hv → stageLo ms hv r.1 < u)
  dull : ∀ r ∈ p.rs, r.1 ∉ hv → ∀ o, ops[r.1]? = some o → awanted ops (envOf ops ms r.1 ts0 p.rs) o = false → r.2 = undef
  made : ∀ r ∈ p.rs, r.1 ∉ hv → ∀ o, ops[r.1]? = some o → awanted ops (envOf ops ms r.1 ts0 p.rs) o = true → lightOp T o.op = false → ∃ id ob hh, (r.1, id, ob) ∈ p.fl ∧ aop T (aeval (envOf ops ms r.1 ts0 p.rs)) o ⟨.nil, id⟩ = .v r.2 hh ∧ hh.get id = some ob
  pure : ∀ r ∈ p.rs, r.1 ∉ hv → ∀ o, ops[r.1]? = some o → awanted ops (envOf ops ms r.1 ts0 p.rs) o = true → lightOp T o.op = true → looksOp T o.op = false → ∀ h, aop T (aeval (envOf ops ms r.1 ts0 p.rs)) o h = .v r.2 h
  fl : FltOk p.fl
  nd : FlNd p.fl
  lt : ∀ q ∈ p.fl, q.2.1 < p.nx
  apart : ∀ q ∈ p.fl, free ms hv s q.1 = true → h.get q.2.1 = none
  told : ∀ q ∈ p.fl, bit p.dn q.1 = true ∧ q.1 ∉ hv ∧ ∃ o, ops[q.1]? = some o ∧ lightOp T o.op = false ∧ awanted ops (envOf ops ms q.1 ts0 p.rs) o = true
  hd : ∀ i o, h.get i = some o → i < p.nx

/-- a light operation yields at this stage what is recorded -/
def LtOk (T : Tbl) (ops : Array Oper) (ms hv : List Nat) (ts0 : PT Value) (s : Nat) (h : AH) (q : Plan) (r : Rec) : Prop :=
  ∀ o, ops[r.1]? = some o → awanted ops (envOf ops ms r.1 ts0 q.rs) o = true → lightOp T o.op = true → ∃ hh, aop T (aeval (envOf ops ms r.1 ts0 q.rs)) o (withF ms hv r.1 s ⟨h.t, q.nx⟩ q.fl) = .v r.2 hh

structure Ext (p q : Plan) : Prop where
  rs : ∃ pre, q.rs = pre ++ p.rs ∧ ∀ r ∈ pre, bit p.dn r.1 = false
  fl : ∃ pre, q.fl = pre ++ p.fl ∧ ∀ r ∈ pre, bit p.dn r.1 = false ∧ p.nx ≤ r.2.1
  dn : ∀ j, bit p.dn j = true → bit q.dn j = true
  nx : p.nx ≤ q.nx
theorem Ext.refl (p : Plan) : Ext p p := ⟨⟨[], rfl, by simp⟩, ⟨[], rfl, by simp⟩, fun _ h => h, Nat.le_refl _⟩
theorem Ext.trans {p q r : Plan} (a : Ext p q) (b : Ext q r) : Ext p r := by
  obtain ⟨p1, e1, h1⟩ := a.rs
  obtain ⟨p2, e2, h2⟩ := b.rs
  obtain ⟨f1, g1, k1⟩ := a.fl
  obtain ⟨f2, g2, k2⟩ := b.fl
  have nb : ∀ j, bit q.dn j = false → bit p.dn j = false := fun j hj => by
    cases hp : bit p.dn j with
    | false => rfl
    | true => rw [a.dn j hp] at hj; cases hj
  refine ⟨⟨p2 ++ p1, by rw [e2, e1, List.append_assoc], fun r hr => ?_⟩, ⟨f2 ++ f1, by rw [g2, g1, List.append_assoc], fun r hr => ?_⟩, fun j h => b.dn j (a.dn j h), Nat.le_trans a.nx b.nx⟩
  · rcases List.mem_append.1 hr with h | h
    · exact nb _ (h2 r h)
    · exact h1 r h
  · rcases List.mem_append.1 hr with h | h
    · exact ⟨nb _ (k2 r h).1, Nat.le_trans a.nx (k2 r h).2⟩
    · exact k1 r h

theorem envOf_pre {ops : Array Oper} {ms : List Nat} {i : Nat} {ts0 : PT Value} {rs : List Rec} : ∀ (pre : List Rec), (∀ r ∈ pre, bit (ms.getD i 0) r.1 = false) → envOf ops ms i ts0 (pre ++ rs) = envOf ops ms i ts0 rs
  | [], _ => rfl
  | (q, v) :: r, h => by
    rw [List.cons_append, envOf]
    rw [h (q, v) (by simp), cond_false]
    exact envOf_pre r (fun r hr => h r (by simp [hr]))
theorem withF_pre {ms hv : List Nat} {i s : Nat} {h : AH} {fl : List Flt} : ∀ (pre : List Flt), (∀ r ∈ pre, bit (ms.getD i 0) r.1 = false) → withF ms hv i s h (pre ++ fl) = withF ms hv i s h fl
  | [], _ => rfl
  | (q, id, v) :: r, h => by
    rw [List.cons_append, withF]
    rw [h (q, id, v) (by simp), Bool.false_and, cond_false]
    exact withF_pre r (fun r hr => h r (by simp [hr]))
theorem withF_nx {ms hv : List Nat} {i s : Nat} {t : PT AObj} {n n' : Nat} : ∀ (fl : List Flt), withF ms hv i s ⟨t, n'⟩ fl = ⟨(withF ms hv i s ⟨t, n⟩ fl).t, n'⟩
  | [] => rfl
  | (q, id, v) :: r => by
    simp only [withF]
    rw [withF_nx (n := n) r]
    cases (bit (ms.getD i 0) q && (hv.take s).all fun a => !bit (ms.getD a 0) q) with
    | true => rfl
    | false => rfl
theorem withF_nx_eq {ms hv : List Nat} {i s : Nat} {h : AH} : ∀ (fl : List Flt), (withF ms hv i s h fl).nx = h.nx := fun fl => by rw [withF_eq, addF_nx]

section
variable {T : Tbl} {ops : Array Oper} {ms hv : List Nat} {ts0 : PT Value} {u s : Nat} {h : AH} {p q : Plan}
theorem Ext.env (e : Ext p q) {i : Nat} (hc : ∀ j, bit (ms.getD i 0) j = true → bit p.dn j = true) : envOf ops ms i ts0 q.rs = envOf ops ms i ts0 p.rs := by
  obtain ⟨pre, e1, h1⟩ := e.rs
  rw [e1]
  refine envOf_pre pre fun r hr => ?_
  cases hb : bit (ms.getD i 0) r.1 with
  | false => rfl
  | true => rw [← h1 r hr, hc _ hb]
theorem Ext.withF (e : Ext p q) {i : Nat} (hc : ∀ j, bit (ms.getD i 0) j = true → bit p.dn j = true) (h : AH) : AM.withF ms hv i s h q.fl = AM.withF ms hv i s h p.fl := by
  obtain ⟨pre, e1, h1⟩ := e.fl
  rw [e1]
  refine withF_pre pre fun r hr => ?_
  cases hb : bit (ms.getD i 0) r.1 with
  | false => rfl
  | true => rw [← (h1 r hr).1, hc _ hb]
theorem Ext.rs_mem (e : Ext p q) {r : Rec} (hr : r ∈ p.rs) : r ∈ q.rs := by
  obtain ⟨pre, e1, h1⟩ := e.rs
  rw [e1]; exact List.mem_append.2 (.inr hr)
theorem Ext.fl_mem (e : Ext p q) {r : Flt} (hr : r ∈ p.fl) : r ∈ q.fl := by
  obtain ⟨pre, e1, h1⟩ := e.fl
  rw [e1]; exact List.mem_append.2 (.inr hr)

theorem PlanOk.add (pk : PlanOk T ops ms hv ts0 u s h p) {i : Nat} {x : Value} {o : Oper} {fl' : List Flt} {nx' : Nat} (hf : fits ms p.dn i = true) (ho : ops[i]? = some o) (hu : i ∉ hv → stageLo ms hv i < u)
    (hx : i ∉ hv → awanted ops (envOf ops ms i ts0 p.rs) o = false → x = undef)
    (hm : i ∉ hv → awanted ops (envOf ops ms i ts0 p.rs) o = true → lightOp T o.op = false → ∃ id ob hh, (i, id, ob) ∈ fl' ∧ aop T (aeval (envOf ops ms i ts0 p.rs)) o ⟨.nil, id⟩ = .v x hh ∧ hh.get id = some ob)
    (hpu : i ∉ hv → awanted ops (envOf ops ms i ts0 p.rs) o = true → lightOp T o.op = true → looksOp T o.op = false → ∀ h, aop T (aeval (envOf ops ms i ts0 p.rs)) o h = .v x h)
    (hfl : (fl' = p.fl ∧ nx' = p.nx) ∨ ∃ ob, fl' = (i, p.nx, ob) :: p.fl ∧ p.nx < AM.lim ∧ i ∉ hv ∧ (lightOp T o.op = false ∧ awanted ops (envOf ops ms i ts0 p.rs) o = true) ∧ nx' = p.nx + 1) :
    PlanOk T ops ms hv ts0 u s h (p.add i x fl' nx') ∧ Ext p (p.add i x fl' nx') := by
  obtain ⟨hc, hn⟩ := fits_ok hf
  have ex : Ext p (p.add i x fl' nx') := by
    refine ⟨⟨[(i, x)], rfl, fun r hr => by simp at hr; subst hr; exact hn⟩, ?_, fun j hj => by rw [bit_add, hj]; rfl, ?_⟩
    · rcases hfl with ⟨rfl, rfl⟩ | ⟨ob, rfl, h1, h2, h3, rfl⟩
      · exact ⟨[], rfl, by simp⟩
      · exact ⟨[(i, p.nx, ob)], rfl, fun r hr => by simp at hr; subst hr; exact ⟨hn, Nat.le_refl _⟩⟩
    · show p.nx ≤ nx'
      rcases hfl with ⟨rfl, rfl⟩ | ⟨ob, rfl, h1, h2, h3, rfl⟩ <;> omega
  have envi : envOf ops ms i ts0 (p.add i x fl' nx').rs = envOf ops ms i ts0 p.rs := ex.env hc
  have mem : ∀ r ∈ (p.add i x fl' nx').rs, r = (i, x) ∨ r ∈ p.rs := fun r hr => List.mem_cons.1 hr
  have pnx : p.nx ≤ nx' := ex.nx
  refine ⟨⟨?_, ?_, ?_, ?_, ?_, ?_, ?_, ?_, ?_, ?_, ?_, ?_, ?_⟩, ex⟩
  · intro j
    rw [bit_add, Bool.or_eq_true, decide_eq_true_eq, pk.dn j]
    constructor
    · rintro (⟨r, h1, h2⟩ | h1)
      · exact ⟨r, List.mem_cons_of_mem _ h1, h2⟩
      · exact ⟨(i, x), List.mem_cons_self, h1⟩
    · rintro ⟨r, h1, h2⟩
      rcases mem r h1 with rfl | h1
      · exact .inr h2
      · exact .inl ⟨r, h1, h2⟩
  · refine ⟨fun r hr e => ?_, pk.rs⟩
    have := (pk.dn i).2 ⟨r, hr, e⟩
    rw [hn] at this; cases this
  · intro r hr j hj
    rw [bit_add, Bool.or_eq_true]
    rcases mem r hr with rfl | hr
    · exact .inl (hc j hj)
    · exact .inl (pk.closed r hr j hj)
  · intro r hr
    rcases mem r hr with rfl | hr
    · exact ⟨⟨o, ho⟩, hu⟩
    · exact pk.idx r hr
  · intro r hr hh o' ho' hw
    rcases mem r hr with rfl | hr
    · rw [envi] at hw
      rw [ho] at ho'; cases ho'
      exact hx hh hw
    · rw [ex.env (pk.closed r hr)] at hw
      exact pk.dull r hr hh o' ho' hw
  · intro r hr hh o' ho' hw hl
    rcases mem r hr with rfl | hr
    · rw [envi] at hw ⊢
      rw [ho] at ho'; cases ho'
      exact hm hh hw hl
    · rw [ex.env (pk.closed r hr)] at hw ⊢
      obtain ⟨id, ob, h1, h2, h3⟩ := pk.made r hr hh o' ho' hw hl
      exact ⟨id, ob, h1, ex.fl_mem h2, h3⟩
  · intro r hr hh o' ho' hw hl hlo
    rcases mem r hr with rfl | hr
    · rw [envi] at hw ⊢
      rw [ho] at ho'; cases ho'
      exact hpu hh hw hl hlo
    · rw [ex.env (pk.closed r hr)] at hw ⊢
      exact pk.pure r hr hh o' ho' hw hl hlo
  · show FltOk fl'
    rcases hfl with ⟨rfl, rfl⟩ | ⟨ob, rfl, h1, h2, h3, rfl⟩
    · exact pk.fl
    · exact ⟨h1, fun q hq => by have := pk.lt q hq; omega, pk.fl⟩
  · show FlNd fl'
    rcases hfl with ⟨rfl, rfl⟩ | ⟨ob, rfl, h1, h2, h3, rfl⟩
    · exact pk.nd
    · refine ⟨fun q hq e => ?_, pk.nd⟩
      have h1 := (pk.told q hq).1
      rw [show q.1 = i from e, hn] at h1; cases h1
  · show ∀ q ∈ fl', q.2.1 < nx'
    intro q hq
    rcases hfl with ⟨rfl, rfl⟩ | ⟨ob, rfl, h1, h2, h3, rfl⟩
    · exact pk.lt q hq
    · rcases List.mem_cons.1 hq with rfl | hq
      · show p.nx < p.nx + 1; omega
      · have := pk.lt q hq; omega
  · show ∀ q ∈ fl', _
    intro q hq hfr
    rcases hfl with ⟨rfl, rfl⟩ | ⟨ob, rfl, h1, h2, h3, rfl⟩
    · exact pk.apart q hq hfr
    · rcases List.mem_cons.1 hq with rfl | hq
      · show h.get p.nx = none
        cases hg : h.get p.nx with
        | none => rfl
        | some o' => have := pk.hd _ _ hg; omega
      · exact pk.apart q hq hfr
  · show ∀ q ∈ fl', _
    intro q hq
    have old : ∀ q ∈ p.fl, bit (p.add i x fl' nx').dn q.1 = true ∧ q.1 ∉ hv ∧ ∃ o, ops[q.1]? = some o ∧ lightOp T o.op = false ∧ awanted ops (envOf ops ms q.1 ts0 (p.add i x fl' nx').rs) o = true := fun q hq => by
      obtain ⟨t1, t2, o', t3, t4, t5⟩ := pk.told q hq
      refine ⟨by rw [bit_add, t1]; rfl, t2, o', t3, t4, ?_⟩
      obtain ⟨r, hr, e⟩ := (pk.dn q.1).1 t1
      rw [ex.env (by rw [← e]; exact pk.closed r hr)]
      exact t5
    rcases hfl with ⟨rfl, rfl⟩ | ⟨ob, rfl, h1, h2, h3, rfl⟩
    · exact old q hq
    · rcases List.mem_cons.1 hq with rfl | hq
      · exact ⟨by rw [bit_add]; simp, h2, o, ho, h3.1, by rw [envi]; exact h3.2⟩
      · exact old q hq
  · intro j o' hj
    exact Nat.lt_of_lt_of_le (pk.hd j o' hj) pnx

theorem PlanOk.move (pk : PlanOk T ops ms hv ts0 u s h p) {u' s' : Nat} {h' : AH} {nx' : Nat} (hu : u ≤ u') (ha : ∀ q ∈ p.fl, free ms hv s' q.1 = true → h'.get q.2.1 = none) (hl : ∀ q ∈ p.fl, q.2.1 < nx') (hd : ∀ i o, h'.get i = some o → i < nx') :
    PlanOk T ops ms hv ts0 u' s' h' { p with nx := nx' } :=
  ⟨pk.dn, pk.rs, pk.closed, fun r hr => ⟨(pk.idx r hr).1, fun hh => Nat.lt_of_lt_of_le ((pk.idx r hr).2 hh) hu⟩, pk.dull, pk.made, pk.pure, pk.fl, pk.nd, hl, ha, pk.told, hd⟩
end
end Go.AM
namespace Go.AM
section
variable {T : Tbl} {ops : Array Oper} {ms hv : List Nat} {ts0 : PT Value} {u s : Nat} {h : AH} {p q : Plan} {ρ : Operand → Value}

theorem ofOpt_nx {w : String} {t : PT AObj} {n n' : Nat} {X : Option Value} {x : Value} {hh : AH} (e : R.ofOpt w ⟨t, n⟩ X = .v x hh) : hh = ⟨t, n⟩ ∧ R.ofOpt w ⟨t, n'⟩ X = .v x ⟨t, n'⟩ := by
  cases X with
  | none => cases e
  | some v => cases e; exact ⟨rfl, rfl⟩

theorem aconv_nx {a b : Nat} {y : Value} {t : PT AObj} {n n' : Nat} {x : Value} {hh : AH} (hl : (match T.desc a, T.desc b with | some (.int _), some (.int _) | some .string, some .string | some (.slice _), some .string => true | _, _ => false) = true)
    (e : R.ofOptH "convert" (aconv T a b y ⟨t, n⟩) = .v x hh) : hh = ⟨t, n⟩ ∧ R.ofOptH "convert" (aconv T a b y ⟨t, n'⟩) = .v x ⟨t, n'⟩ := by
  have key : ∀ X, aconv T a b y ⟨t, n⟩ = some X → X.2 = ⟨t, n⟩ ∧ aconv T a b y ⟨t, n'⟩ = some (X.1, ⟨t, n'⟩) := by
    intro X eX
    unfold aconv at eX ⊢
    unfold Tbl.desc at hl
    cases ha : T.ty a with
    | none => rw [ha] at eX; cases eX
    | some si =>
      cases hb : T.ty b with
      | none => rw [ha, hb] at eX; cases eX
      | some di =>
        rw [ha, hb] at eX hl
        simp only [Option.map_some] at eX hl ⊢
        split at eX
        · cases eX
          exact ⟨rfl, by simp [*]⟩
        · cases eX
          exact ⟨rfl, by simp [*]⟩
        · split at eX
          · cases eX
            exact ⟨rfl, by simp [*]⟩
          · cases eX
        · rename_i h1 h2
          split at eX
          · rename_i h3
            change ((loadN ⟨t, n'⟩ _ _ _).bind _) = some X at eX
            change _ ∧ ((loadN ⟨t, n'⟩ _ _ _).bind _) = _
            generalize (loadN ⟨t, n'⟩ _ _ _) = Z at eX ⊢
            cases Z with
            | none => cases eX
            | some c =>
              simp only [Option.bind_some] at eX ⊢
              cases hb2 : bytesOf c with
              | none => rw [hb2] at eX; cases eX
              | some bs => rw [hb2] at eX; cases eX; exact ⟨rfl, rfl⟩
          · cases eX
        · rename_i h1 h2
          rw [h1, h2] at hl
          simp at hl
        · cases eX
  cases hX : aconv T a b y ⟨t, n⟩ with
  | none => rw [hX] at e; cases e
  | some X =>
    obtain ⟨h1, h2⟩ := key X hX
    rw [hX] at e
    obtain ⟨v, g⟩ := X
    cases e
    exact ⟨h1, by rw [h2]; rfl⟩

theorem light_nx {o : Oper} {t : PT AObj} {n n' : Nat} {x : Value} {hh : AH} (hl : lightOp T o.op = true) (e : aop T ρ o ⟨t, n⟩ = .v x hh) : hh = ⟨t, n⟩ ∧ aop T ρ o ⟨t, n'⟩ = .v x ⟨t, n'⟩ := by
  obtain ⟨dst, op, type, pos, after, guard⟩ := o
  simp only [aop] at e hl ⊢
  cases op with
  | move a => cases e; exact ⟨rfl, rfl⟩
  | assign a => cases e; exact ⟨rfl, rfl⟩
  | pick c a b =>
    simp only [aopK] at e ⊢
    unfold oPick at e ⊢
    split at e
    · cases e; exact ⟨rfl, rfl⟩
    · cases e
  | build a b => exact ofOpt_nx e
  | load a b => exact ofOpt_nx (X := aload T a (ρ b) ⟨t, n⟩) e
  | nilCheck a =>
    simp only [aopK] at e ⊢
    unfold oNil at e ⊢
    split at e <;> first | (cases e; exact ⟨rfl, rfl⟩) | cases e
  | binOp a b c d f => exact ofOpt_nx e
  | unOp a b c => exact ofOpt_nx e
  | makeInterface a b =>
    simp only [aopK, aop2] at e ⊢
    unfold oIface at e ⊢
    split at e
    · cases e
    · cases e; exact ⟨rfl, rfl⟩
    · cases e
  | makeFunc a b c =>
    simp only [aopK, aop2] at e ⊢
    unfold oFunc at e ⊢
    split at e
    · cases e
    · cases e; exact ⟨rfl, rfl⟩
  | slice a b c d f => exact ofOpt_nx (X := aslice T a (ρ b) (c.map ρ) (d.map ρ) (f.map ρ) ⟨t, n⟩) e
  | fieldAddr a b c => exact ofOpt_nx e
  | field a b c => exact ofOpt_nx e
  | indexAddr a b c => exact ofOpt_nx e
  | index a b c => exact ofOpt_nx e
  | lookup a b c d => exact ofOpt_nx (X := alookup T a (ρ b) (ρ c) d ⟨t, n⟩) e
  | typeAssert a b c d => exact ofOpt_nx e
  | extract a b =>
    simp only [aopK] at e ⊢
    unfold oExtract at e ⊢
    split at e
    · exact ofOpt_nx e
    · cases e
  | convert a b c => exact aconv_nx hl e
  | call c =>
    obtain ⟨callee, args, argTypes⟩ := c
    simp only [aopK, acall] at e ⊢
    cases callee with
    | value f => cases hl
    | invoke a b => cases hl
    | builtin b =>
      cases b <;> first | cases hl | skip
      · simp only [abuiltin] at e ⊢
        split at e
        · rename_i y hy; exact ofOpt_nx (X := alen T argTypes.toList y ⟨t, n⟩) e
        · cases e
      · exact ofOpt_nx e
      · exact ofOpt_nx e
  | _ => cases hl

theorem ofOpt_any {w : String} {h h2 : AH} {X : Option Value} {x : Value} {hh : AH} (e : R.ofOpt w h X = .v x hh) : R.ofOpt w h2 X = .v x h2 := by
  cases X with
  | none => cases e
  | some v => cases e; rfl

/-- An operation that does not look into memory yields the same over any. -/
theorem pure_any {o : Oper} {h h2 : AH} {x : Value} {hh : AH} (hl : lightOp T o.op = true) (hlo : looksOp T o.op = false) (e : aop T ρ o h = .v x hh) : aop T ρ o h2 = .v x h2 := by
  obtain ⟨dst, op, type, pos, after, guard⟩ := o
  simp only [aop] at e hl hlo ⊢
  cases op with
  | move a => cases e; rfl
  | assign a => cases e; rfl
  | pick c a b =>
    simp only [aopK] at e ⊢
    unfold oPick at e ⊢
    split at e
    · cases e; rfl
    · cases e
  | build a b => exact ofOpt_any e
  | load a b => cases hlo
  | nilCheck a =>
    simp only [aopK] at e ⊢
    unfold oNil at e ⊢
    split at e <;> first | (cases e; rfl) | cases e
  | binOp a b c d f => exact ofOpt_any e
  | unOp a b c => exact ofOpt_any e
  | makeInterface a b =>
    simp only [aopK, aop2] at e ⊢
    unfold oIface at e ⊢
    split at e
    · cases e
    · cases e; rfl
    · cases e
  | makeFunc a b c =>
    simp only [aopK, aop2] at e ⊢
    unfold oFunc at e ⊢
    split at e
    · cases e
    · cases e; rfl
  | slice a b c d f => cases hlo
  | fieldAddr a b c => exact ofOpt_any e
  | field a b c => exact ofOpt_any e
  | indexAddr a b c => exact ofOpt_any e
  | index a b c => exact ofOpt_any e
  | lookup a b c d => cases hlo
  | typeAssert a b c d => exact ofOpt_any e
  | extract a b =>
    simp only [aopK] at e ⊢
    unfold oExtract at e ⊢
    split at e
    · exact ofOpt_any e
    · cases e
  | convert a b c =>
    simp only [aopK, aop2] at e ⊢
    unfold aconv at e ⊢
    simp only [lightOp, looksOp, Tbl.desc] at hl hlo
    cases ha : T.ty a with
    | none => rw [ha] at e; cases e
    | some si =>
      cases hb : T.ty b with
      | none => rw [ha, hb] at e; cases e
      | some di =>
        rw [ha, hb] at e hl hlo
        simp only [Option.map_some] at e hl hlo ⊢
        split at e
        · cases e; rfl
        · cases e; rfl
        · simp_all
        · simp_all
        · simp_all
        · cases e
  | call c =>
    obtain ⟨callee, args, argTypes⟩ := c
    simp only [aopK, acall] at e ⊢
    cases callee with
    | value f => cases hl
    | invoke a b => cases hl
    | builtin b =>
      cases b with
      | len => simp [looksOp] at hlo
      | min => exact ofOpt_any e
      | max => exact ofOpt_any e
      | _ => cases hl
  | _ => cases hl

/-- A plan goes on by one operation. -/
theorem planOne_ok (pk : PlanOk T ops ms hv ts0 (s + 1) s h p) {i : Nat} (hi : stageLo ms hv i = s) (hh : i ∉ hv) (e : planOne T ops ms hv ts0 s h i p = some q) :
    PlanOk T ops ms hv ts0 (s + 1) s h q ∧ Ext p q ∧ bit q.dn i = true ∧ ∀ r ∈ q.rs, r ∈ p.rs ∨ LtOk T ops ms hv ts0 s h q r := by
  unfold planOne at e
  split at e
  · cases e
  rename_i o ho
  cases hf : fits ms p.dn i with
  | false => rw [hf] at e; cases e
  | true =>
    rw [hf, cond_true] at e
    obtain ⟨hc, hn⟩ := fits_ok hf
    have fin : ∀ (x : Value) (fl' : List Flt) (nx' : Nat), q = p.add i x fl' nx' →
        (awanted ops (envOf ops ms i ts0 p.rs) o = false → x = undef) →
        (awanted ops (envOf ops ms i ts0 p.rs) o = true → lightOp T o.op = false → ∃ id ob hh, (i, id, ob) ∈ fl' ∧ aop T (aeval (envOf ops ms i ts0 p.rs)) o ⟨.nil, id⟩ = .v x hh ∧ hh.get id = some ob) →
        ((fl' = p.fl ∧ nx' = p.nx) ∨ ∃ ob, fl' = (i, p.nx, ob) :: p.fl ∧ p.nx < AM.lim ∧ i ∉ hv ∧ (lightOp T o.op = false ∧ awanted ops (envOf ops ms i ts0 p.rs) o = true) ∧ nx' = p.nx + 1) →
        (awanted ops (envOf ops ms i ts0 p.rs) o = true → lightOp T o.op = true → ∃ hh, aop T (aeval (envOf ops ms i ts0 p.rs)) o (withF ms hv i s ⟨h.t, p.nx⟩ p.fl) = .v x hh) →
        PlanOk T ops ms hv ts0 (s + 1) s h q ∧ Ext p q ∧ bit q.dn i = true ∧ ∀ r ∈ q.rs, r ∈ p.rs ∨ LtOk T ops ms hv ts0 s h q r := by
      intro x fl' nx' hq h1 h2 h3 h4
      obtain ⟨g1, g2⟩ := pk.add (x := x) hf ho (fun _ => by omega) (fun _ => h1) (fun _ => h2) (fun _ hw hl hlo h2 => by
        obtain ⟨hh', e'⟩ := h4 hw hl
        exact pure_any hl hlo e') h3
      subst hq
      refine ⟨g1, g2, by rw [bit_add]; simp, fun r hr => ?_⟩
      rcases List.mem_cons.1 hr with rfl | hr
      · refine .inr fun o' ho' hw hl => ?_
        rw [ho] at ho'; cases ho'
        rw [g2.env hc] at hw ⊢
        rw [g2.withF hc]
        obtain ⟨hh', e'⟩ := h4 hw hl
        rw [withF_nx (n := p.nx)]
        exact ⟨_, (light_nx (t := (withF ms hv i s ⟨h.t, p.nx⟩ p.fl).t) (n := p.nx) hl (by rw [← withF_nx (n := p.nx)]; exact e')).2⟩
      · exact .inl hr
    split at e
    · rename_i hw
      split at e
      · rename_i hl
        split at e
        · rename_i x hx he
          cases e
          exact fin x _ _ rfl (fun hw' => by rw [hw] at hw'; cases hw') (fun _ hl' => by rw [hl] at hl'; cases hl') (.inl ⟨rfl, rfl⟩) (fun _ _ => ⟨_, he⟩)
        · cases e
      · rename_i hl
        have hl : lightOp T o.op = false := by simpa using hl
        cases hb : Nat.blt p.nx AM.lim with
        | false => rw [hb] at e; cases e
        | true =>
          rw [hb, cond_true] at e
          rw [Nat.blt_eq] at hb
          split at e
          · rename_i x hx he
            split at e
            · rename_i ob hob
              cases e
              exact fin x _ _ rfl (fun hw' => by rw [hw] at hw'; cases hw') (fun _ _ => ⟨p.nx, ob, hx, List.mem_cons_self, he, hob⟩) (.inr ⟨ob, rfl, hb, hh, ⟨hl, hw⟩, rfl⟩) (fun _ hl' => by rw [hl] at hl'; cases hl')
            · cases e
          · cases e
    · rename_i hw
      cases e
      exact fin undef _ _ rfl (fun _ => rfl) (fun hw' => absurd hw' hw) (.inl ⟨rfl, rfl⟩) (fun hw' => absurd hw' hw)

theorem LtOk.ext (pk : PlanOk T ops ms hv ts0 u s h p) (e : Ext p q) {r : Rec} (hr : r ∈ p.rs) (hl : LtOk T ops ms hv ts0 s h p r) : LtOk T ops ms hv ts0 s h q r := by
  intro o ho hw hlo
  rw [e.env (pk.closed r hr)] at hw ⊢
  rw [e.withF (pk.closed r hr)]
  obtain ⟨hh, e'⟩ := hl o ho hw hlo
  rw [withF_nx (n := p.nx)]
  exact ⟨_, (light_nx (t := (withF ms hv r.1 s ⟨h.t, p.nx⟩ p.fl).t) (n := p.nx) hlo (by rw [← withF_nx (n := p.nx)]; exact e')).2⟩

theorem planL_ok : ∀ (l : List Nat) (p : Plan), PlanOk T ops ms hv ts0 (s + 1) s h p → (∀ i ∈ l, stageLo ms hv i = s ∧ i ∉ hv) → ∀ {q : Plan}, planL T ops ms hv ts0 s h l p = some q →
    PlanOk T ops ms hv ts0 (s + 1) s h q ∧ Ext p q ∧ (∀ i ∈ l, bit q.dn i = true) ∧ ∀ r ∈ q.rs, r ∈ p.rs ∨ LtOk T ops ms hv ts0 s h q r
  | [], p, pk, _, q, e => by cases e; exact ⟨pk, .refl _, by simp, fun r hr => .inl hr⟩
  | i :: l, p, pk, hl, q, e => by
    simp only [planL] at e
    split at e
    · rename_i p1 h1
      obtain ⟨a1, a2, a3, a4⟩ := planOne_ok pk (hl i (by simp)).1 (hl i (by simp)).2 h1
      obtain ⟨b1, b2, b3, b4⟩ := planL_ok l p1 a1 (fun j hj => hl j (by simp [hj])) e
      refine ⟨b1, a2.trans b2, fun j hj => ?_, fun r hr => ?_⟩
      · rcases List.mem_cons.1 hj with rfl | hj
        · exact b2.dn _ a3
        · exact b3 j hj
      · rcases b4 r hr with hr1 | hr1
        · rcases a4 r hr1 with hr2 | hr2
          · exact .inl hr2
          · exact .inr (hr2.ext a1 b2 hr1)
        · exact .inr hr1
    · cases e

/-- all that is early is planned -/
def Comp (ops : Array Oper) (ms hv : List Nat) (u : Nat) (p : Plan) : Prop := ∀ i, i < ops.size → i ∉ hv → stageLo ms hv i < u → bit p.dn i = true

theorem stagePlan_ok (pk : PlanOk T ops ms hv ts0 s s h p) (cp : Comp ops ms hv s p) (e : stagePlan T ops ms hv ts0 s h p = some q) :
    PlanOk T ops ms hv ts0 (s + 1) s h q ∧ Comp ops ms hv (s + 1) q ∧ Ext p q ∧ ∀ r ∈ q.rs, r.1 ∉ hv → s ≤ stageHi ms hv r.1 → LtOk T ops ms hv ts0 s h q r := by
  unfold stagePlan at e
  split at e
  case h_2 => cases e
  rename_i q' hq
  split at e
  case isFalse => cases e
  rename_i hall
  cases e
  have pk1 : PlanOk T ops ms hv ts0 (s + 1) s h p := pk.move (Nat.le_succ s) pk.apart pk.lt pk.hd
  have hearly : ∀ i ∈ early ops.size ms hv s, stageLo ms hv i = s ∧ i ∉ hv := fun i hi => by
    unfold early at hi
    rw [List.mem_filter] at hi
    simp only [Bool.and_eq_true, Bool.not_eq_true', List.contains_eq_mem, decide_eq_false_iff_not] at hi
    exact ⟨Nat.eq_of_beq_eq_true hi.2.2, hi.2.1⟩
  obtain ⟨a1, a2, a3, a4⟩ := planL_ok _ p pk1 hearly hq
  refine ⟨a1, fun i hi hh hs => ?_, a2, fun r hr hh hs => ?_⟩
  · by_cases hlt : stageLo ms hv i < s
    · exact a2.dn i (cp i hi hh hlt)
    · refine a3 i ?_
      unfold early
      rw [List.mem_filter, List.mem_range]
      refine ⟨hi, ?_⟩
      have he : stageLo ms hv i = s := by omega
      simp [hh, he]
  · rcases a4 r hr with h1 | h1
    · intro o ho hw hl
      have := List.all_eq_true.1 hall r h1
      unfold sameAt at this
      rw [ho] at this
      cases hlo : looksOp T o.op with
      | false =>
        refine ⟨_, a1.pure r (a2.rs_mem h1) hh o ho hw hl hlo _⟩
      | true =>
        have hlt := (pk.idx r h1).2 hh
        have hb1 : Nat.blt (stageLo ms hv r.1) s = true := by rw [Nat.blt_eq]; exact hlt
        have hb2 : Nat.ble s (stageHi ms hv r.1) = true := by rw [Nat.ble_eq]; exact hs
        simp only [hlo, hb1, hb2, hw, Bool.and_true, Bool.not_true, Bool.false_or] at this
        split at this
        · rename_i x hx he
          rw [beqV_eq _ _ _ this] at he
          exact ⟨_, he⟩
        · cases this
    · exact h1
end
end Go.AM
namespace Go.AM
section
variable {P : Program} {T : Tbl} {K : Kp} {w0 : World} {m m' : M} {w w' : World} {ops : Array Oper} {ms hv : List Nat} {ts0 : PT Value} {n u s : Nat} {df : List Deferred} {h h' : AH} {p q : Plan} {L : Nat → Bool} {a : Act}

theorem addF_some {p : Nat → Bool} {h : AH} {fl : List Flt} (hf : FltOk fl) {q : Flt} (hq : q ∈ fl) (hp : p q.1 = true) : (addF p h fl).get q.2.1 = some q.2.2 := by
  rw [addF_get p h hf]
  cases e : fl.find? fun r => p r.1 && Nat.beq r.2.1 q.2.1 with
  | some r =>
    have h1 := List.find?_some e
    have h2 := List.mem_of_find?_eq_some e
    simp only [Bool.and_eq_true] at h1
    have := hf.uniq r h2 q hq (Nat.eq_of_beq_eq_true h1.2)
    subst this; rfl
  | none =>
    have := List.find?_eq_none.1 e q hq
    simp [hp] at this
theorem addF_none {p : Nat → Bool} {h : AH} {fl : List Flt} (hf : FltOk fl) {j : Nat} (hn : ∀ q ∈ fl, p q.1 = true → q.2.1 ≠ j) : (addF p h fl).get j = h.get j := by
  rw [addF_get p h hf]
  cases e : fl.find? fun r => p r.1 && Nat.beq r.2.1 j with
  | some r =>
    have h1 := List.find?_some e
    have h2 := List.mem_of_find?_eq_some e
    simp only [Bool.and_eq_true] at h1
    exact absurd (Nat.eq_of_beq_eq_true h1.2) (hn r h2 h1.1)
  | none => rfl
theorem addF_cases {p : Nat → Bool} {h : AH} {fl : List Flt} (hf : FltOk fl) {j : Nat} {o : AObj} (e : (addF p h fl).get j = some o) : (∃ q ∈ fl, p q.1 = true ∧ q.2.1 = j ∧ q.2.2 = o) ∨ ((∀ q ∈ fl, p q.1 = true → q.2.1 ≠ j) ∧ h.get j = some o) := by
  by_cases hq : ∃ q ∈ fl, p q.1 = true ∧ q.2.1 = j
  · obtain ⟨q, h1, h2, h3⟩ := hq
    subst h3
    rw [addF_some hf h1 h2] at e
    cases e
    exact .inl ⟨q, h1, h2, rfl, rfl⟩
  · have hn : ∀ q ∈ fl, p q.1 = true → q.2.1 ≠ j := fun q h1 h2 h3 => hq ⟨q, h1, h2, h3⟩
    rw [addF_none hf hn] at e
    exact .inr ⟨hn, e⟩
theorem addF_sub {p p' : Nat → Bool} {h : AH} {fl : List Flt} (hf : FltOk fl) (hp : ∀ f, p f = true → p' f = true) (ha : ∀ q ∈ fl, p' q.1 = true → h.get q.2.1 = none) {j : Nat} {o : AObj} (e : (addF p h fl).get j = some o) : (addF p' h fl).get j = some o := by
  rcases addF_cases hf e with ⟨q, h1, h2, h3, h4⟩ | ⟨h1, h2⟩
  · subst h3; subst h4; exact addF_some hf h1 (hp _ h2)
  · rw [addF_none hf (fun q hq hp' hj => by
      have := ha q hq hp'
      rw [hj, h2] at this; cases this)]
    exact h2

theorem Rel.of_get {h2 : AH} (r : Rel K w0 m h w) (hn : h.nx ≤ h2.nx) (hg : ∀ j o, h2.get j = some o → h.get j = some o) : Rel K w0 m h2 w :=
  ⟨fun i k e => Nat.lt_of_lt_of_le (r.dom i k e) hn, fun j o e => r.live j o (hg j o e), fun a b o1 o2 k1 k2 e1 e2 => r.inj a b o1 o2 k1 k2 (hg _ _ e1) (hg _ _ e2), r.keep, r.size, fun i hi => ⟨Nat.lt_of_lt_of_le (r.und i hi).1 hn, (r.und i hi).2⟩, r.io⟩

/-- the heap when the operations of L have come, s heavy ones among them -/
noncomputable def heapOf (ms hv : List Nat) (s : Nat) (L : Nat → Bool) (h : AH) (p : Plan) : AH := addF (fun f => L f && free ms hv s f) ⟨h.t, p.nx⟩ p.fl
theorem heapOf_nx : (heapOf ms hv s L h p).nx = p.nx := by unfold heapOf; rw [addF_nx]
theorem heapOf_float (hf : FltOk p.fl) {q : Flt} (hq : q ∈ p.fl) (hL : L q.1 = true) (hfr : free ms hv s q.1 = true) : (heapOf ms hv s L h p).get q.2.1 = some q.2.2 :=
  addF_some hf hq (by simp [hL, hfr])
theorem heapOf_none (hf : FltOk p.fl) {j : Nat} (hn : ∀ q ∈ p.fl, L q.1 = true → free ms hv s q.1 = true → q.2.1 ≠ j) : (heapOf ms hv s L h p).get j = h.get j := by
  unfold heapOf
  rw [addF_none hf (fun q hq hp => by simp only [Bool.and_eq_true] at hp; exact hn q hq hp.1 hp.2)]
  rfl
theorem heapOf_cases (hf : FltOk p.fl) {j : Nat} {o : AObj} (e : (heapOf ms hv s L h p).get j = some o) : (∃ q ∈ p.fl, L q.1 = true ∧ free ms hv s q.1 = true ∧ q.2.1 = j ∧ q.2.2 = o) ∨ ((∀ q ∈ p.fl, L q.1 = true → free ms hv s q.1 = true → q.2.1 ≠ j) ∧ h.get j = some o) := by
  rcases addF_cases hf e with ⟨q, h1, h2, h3, h4⟩ | ⟨h1, h2⟩
  · simp only [Bool.and_eq_true] at h2
    exact .inl ⟨q, h1, h2.1, h2.2, h3, h4⟩
  · exact .inr ⟨fun q hq a b => h1 q hq (by simp [a, b]), h2⟩

/-- where the region stands -/
structure NInv (ops : Array Oper) (ms hv : List Nat) (ts0 : PT Value) (n : Nat) (df : List Deferred) (K : Kp) (w0 : World) (m : M) (s : Nat) (h : AH) (p : Plan) (L : Nat → Bool) (a : Act) (w : World) : Prop where
  rel : Rel K w0 m (heapOf ms hv s L h p) w
  und : ∀ q ∈ p.fl, L q.1 = false → m q.2.1 = none
  dfd : ∀ q ∈ p.fl, L q.1 = true → ∃ k, m q.2.1 = some k
  noK : ∀ q ∈ p.fl, ¬ K.ids q.2.1
  ts : TsOk m ops ts0 L p.rs a.tmps
  size : a.tmps.size = n
  df : DL m df a.defers
  closed : ∀ q, L q = true → ∀ j, bit (ms.getD q 0) j = true → L j = true
  heavy : ∀ t b, hv[t]? = some b → (L b = true ↔ t < s)
  sub : ∀ q, L q = true → bit p.dn q = true

theorem NInv.plan (iv : NInv ops ms hv ts0 n df K w0 m s h p L a w) (hf : FltOk p.fl) (pk : PlanOk T ops ms hv ts0 u s h q) (e : Ext p q) : NInv ops ms hv ts0 n df K w0 m s h q L a w := by
  obtain ⟨pre, e1, h1⟩ := e.fl
  have old : ∀ f ∈ q.fl, f ∈ p.fl ∨ (L f.1 = false ∧ p.nx ≤ f.2.1) := fun f hf => by
    rw [e1] at hf
    rcases List.mem_append.1 hf with hf | hf
    · refine .inr ⟨?_, (h1 f hf).2⟩
      cases hL : L f.1 with
      | false => rfl
      | true => rw [← (h1 f hf).1]; exact (iv.sub _ hL).symm
    · exact .inl hf
  refine ⟨?_, ?_, ?_, ?_, ?_, iv.size, iv.df, iv.closed, iv.heavy, fun f hL => e.dn _ (iv.sub f hL)⟩
  · refine iv.rel.of_get (by rw [heapOf_nx, heapOf_nx]; exact e.nx) fun j o ej => ?_
    rcases heapOf_cases pk.fl ej with ⟨f, g1, g2, g3, g4, g5⟩ | ⟨g1, g2⟩
    · rcases old f g1 with g1 | ⟨g1, _⟩
      · subst g4; subst g5; exact heapOf_float hf g1 g2 g3
      · rw [g2] at g1; cases g1
    · rw [heapOf_none hf fun f hf' a b => g1 f (e.fl_mem hf') a b]; exact g2
  · intro f hf' hL
    rcases old f hf' with g1 | ⟨_, g1⟩
    · exact iv.und f g1 hL
    · cases hm : m f.2.1 with
      | none => rfl
      | some k =>
        have := iv.rel.dom _ _ hm
        rw [heapOf_nx] at this; omega
  · intro f hf' hL
    rcases old f hf' with g1 | ⟨g1, _⟩
    · exact iv.dfd f g1 hL
    · rw [hL] at g1; cases g1
  · intro f hf' hK
    rcases old f hf' with g1 | ⟨_, g1⟩
    · exact iv.noK f g1 hK
    · have := (iv.rel.und _ hK).1
      rw [heapOf_nx] at this; omega
  · intro t
    rcases iv.ts t with ⟨r, g1, g2⟩ | g
    · exact .inl ⟨r, e.rs_mem g1, g2⟩
    · exact .inr g

def Ladd (L : Nat → Bool) (i : Nat) : Nat → Bool := fun q => L q || decide (q = i)
theorem Ladd_same {i : Nat} : Ladd L i i = true := by simp [Ladd]
theorem Ladd_other {i j : Nat} (h : j ≠ i) : Ladd L i j = L j := by simp [Ladd, h]
theorem Ladd_of {i j : Nat} (h : L j = true) : Ladd L i j = true := by simp [Ladd, h]
theorem Ladd_false {i j : Nat} (h : Ladd L i j = false) : L j = false ∧ j ≠ i := by simpa [Ladd] using h

theorem TsOk.step {rs rs' : List Rec} {b : Array Value} (ht : TsOk m ops ts0 L rs b) {i : Nat} {o : Oper} (ho : ops[i]? = some o) {x x' : Value} (hs : ∀ r ∈ rs, r ∈ rs') (hr : (i, x) ∈ rs') (hx : VR m x x') (hd : ∀ d, o.dst = some d → d < b.size) {df : List Deferred} :
    TsOk m ops ts0 (Ladd L i) rs' (Act.put { tmps := b, defers := df } o.dst x').tmps := by
  have hdst : dstOf ops i = o.dst := by unfold dstOf; rw [ho]; rfl
  have same : ∀ t, o.dst ≠ some t → ((Act.put { tmps := b, defers := df } o.dst x').tmps).getD t undef = b.getD t undef := fun t ht => by
    cases hod : o.dst with
    | none => rfl
    | some d =>
      rw [hod] at ht
      simp only [Act.put, Array.getD_eq_getD_getElem?]
      rw [Array.getElem?_setIfInBounds_ne (fun e => ht (by rw [e]))]
  intro t
  by_cases hot : o.dst = some t
  · refine .inl ⟨(i, x), hr, Ladd_same, by rw [hdst]; exact hot, ?_⟩
    have := hd t hot
    rw [hot]
    simp only [Act.put]
    simpa [Array.getD_eq_getD_getElem?, this] using hx
  · rw [same t hot]
    rcases ht t with ⟨r, g1, g2, g3, g4⟩ | ⟨g1, g2⟩
    · exact .inl ⟨r, hs r g1, Ladd_of g2, g3, g4⟩
    · refine .inr ⟨fun q hq => ?_, g2⟩
      by_cases hqi : q = i
      · subst hqi; rw [hdst]; exact hot
      · rw [Ladd_other hqi] at hq; exact g1 q hq

theorem put_size {b : Act} {d : Option Tmp} {x : Value} : (b.put d x).tmps.size = b.tmps.size := by
  cases d <;> simp [Act.put]
theorem put_defers {b : Act} {d : Option Tmp} {x : Value} : (b.put d x).defers = b.defers := by
  cases d <;> rfl

theorem closed_add (hcl : ∀ q, L q = true → ∀ j, bit (ms.getD q 0) j = true → L j = true) {i : Nat} (hc : ∀ j, bit (ms.getD i 0) j = true → L j = true) : ∀ q, Ladd L i q = true → ∀ j, bit (ms.getD q 0) j = true → Ladd L i j = true := by
  intro q hq j hj
  by_cases hqi : q = i
  · subst hqi; exact Ladd_of (hc j hj)
  · rw [Ladd_other hqi] at hq; exact Ladd_of (hcl q hq j hj)

/-- An operation that leaves the stage's heap alone has come. -/
theorem NInv.light (sh : ShapeOk ops n ms hv) (pk : PlanOk T ops ms hv ts0 u s h q) (iv : NInv ops ms hv ts0 n df K w0 m s h q L a w) {i : Nat} {o : Oper} {x x' : Value} (hh : i ∉ hv) (hc : ∀ j, bit (ms.getD i 0) j = true → L j = true) (ho : ops[i]? = some o) (hr : (i, x) ∈ q.rs)
    (hn : ∀ f ∈ q.fl, f.1 ≠ i) (hle : m.le m') (hund : ∀ f ∈ q.fl, L f.1 = false → m' f.2.1 = none) (rel' : Rel K w0 m' (heapOf ms hv s L h q) w') (hx : VR m' x x') : NInv ops ms hv ts0 n df K w0 m' s h q (Ladd L i) (a.put o.dst x') w' := by
  refine ⟨?_, ?_, ?_, iv.noK, ?_, by rw [put_size]; exact iv.size, by rw [put_defers]; exact iv.df.mono hle, closed_add iv.closed hc, ?_, ?_⟩
  · refine rel'.of_get (by rw [heapOf_nx, heapOf_nx]; exact Nat.le_refl _) fun j o' ej => ?_
    rcases heapOf_cases pk.fl ej with ⟨f, g1, g2, g3, g4, g5⟩ | ⟨g1, g2⟩
    · rw [Ladd_other (hn f g1)] at g2
      subst g4; subst g5; exact heapOf_float pk.fl g1 g2 g3
    · rw [heapOf_none pk.fl fun f hf a b => g1 f hf (Ladd_of a) b]; exact g2
  · intro f hf hL
    exact hund f hf (Ladd_false hL).1
  · intro f hf hL
    rw [Ladd_other (hn f hf)] at hL
    obtain ⟨k, hk⟩ := iv.dfd f hf hL
    exact ⟨k, hle _ _ hk⟩
  · refine (iv.ts.mono hle).step ho (fun r h => h) hr hx fun d hd => ?_
    rw [iv.size]
    exact sh.lt i d (by unfold dstOf; rw [ho]; exact hd)
  · intro t b hb
    have : b ≠ i := fun e => hh (e ▸ List.mem_of_getElem? hb)
    rw [Ladd_other this]; exact iv.heavy t b hb
  · intro j hj
    by_cases hji : j = i
    · subst hji; exact (pk.dn j).2 ⟨_, hr, rfl⟩
    · rw [Ladd_other hji] at hj; exact iv.sub j hj

/-- An operation has come that made a block of its own. -/
theorem NInv.float (sh : ShapeOk ops n ms hv) (pk : PlanOk T ops ms hv ts0 u s h q) (iv : NInv ops ms hv ts0 n df K w0 m s h q L a w) {i : Nat} {o : Oper} {x x' : Value} {id : Nat} {ob : AObj} {k : Blk} (hi : L i = false) (hh : i ∉ hv) (hc : ∀ j, bit (ms.getD i 0) j = true → L j = true) (ho : ops[i]? = some o) (hr : (i, x) ∈ q.rs)
    (hf : (i, id, ob) ∈ q.fl) (rel' : Rel K w0 (m.set id k) ((heapOf ms hv s L h q).set id ob) w') (hx : VR (m.set id k) x x') : NInv ops ms hv ts0 n df K w0 (m.set id k) s h q (Ladd L i) (a.put o.dst x') w' := by
  have hm : m id = none := iv.und _ hf hi
  have hle : m.le (m.set id k) := M.set_le hm
  have hlim : id < lim := pk.fl.lim _ hf
  have hfree : free ms hv s i = true := by
    unfold free
    rw [List.all_eq_true]
    intro b hb
    cases hbit : bit (ms.getD b 0) i with
    | false => rfl
    | true =>
      obtain ⟨t, ht⟩ := List.getElem?_of_mem hb
      rw [List.getElem?_take] at ht
      split at ht
      case isFalse => cases ht
      rename_i hts
      have hLb := (iv.heavy t b ht).2 hts
      rw [iv.closed b hLb i hbit] at hi; cases hi
  have other : ∀ f ∈ q.fl, f.1 ≠ i → f.2.1 ≠ id := fun f hf' hne e => by
    have := pk.fl.uniq f hf' _ hf e
    rw [this] at hne; exact hne rfl
  refine ⟨?_, ?_, ?_, iv.noK, ?_, by rw [put_size]; exact iv.size, by rw [put_defers]; exact iv.df.mono hle, closed_add iv.closed hc, ?_, ?_⟩
  · refine rel'.of_get (by show (heapOf ms hv s L h q).nx ≤ _; rw [heapOf_nx, heapOf_nx]; exact Nat.le_refl _) fun j o' ej => ?_
    rw [AH.get_set _ _ _ _ hlim]
    rcases heapOf_cases pk.fl ej with ⟨f, g1, g2, g3, g4, g5⟩ | ⟨g1, g2⟩
    · by_cases hfi : f.1 = i
      · have := pk.nd.uniq f g1 _ hf hfi
        subst this; subst g4; subst g5
        rw [if_pos rfl]
      · rw [Ladd_other hfi] at g2
        rw [if_neg (by rw [← g4]; exact other f g1 hfi)]
        subst g4; subst g5; exact heapOf_float pk.fl g1 g2 g3
    · rw [if_neg (by
        intro e
        have := g1 _ hf Ladd_same hfree
        exact this e.symm)]
      rw [heapOf_none pk.fl fun f hf a b => g1 f hf (Ladd_of a) b]; exact g2
  · intro f hf' hL
    obtain ⟨h1, h2⟩ := Ladd_false hL
    rw [M.set_other (other f hf' h2)]
    exact iv.und f hf' h1
  · intro f hf' hL
    by_cases hfi : f.1 = i
    · have := pk.nd.uniq f hf' _ hf hfi
      subst this
      exact ⟨k, M.set_same⟩
    · rw [Ladd_other hfi] at hL
      obtain ⟨k', hk⟩ := iv.dfd f hf' hL
      exact ⟨k', hle _ _ hk⟩
  · refine (iv.ts.mono hle).step ho (fun r h => h) hr hx fun d hd => ?_
    rw [iv.size]
    exact sh.lt i d (by unfold dstOf; rw [ho]; exact hd)
  · intro t b hb
    have : b ≠ i := fun e => hh (e ▸ List.mem_of_getElem? hb)
    rw [Ladd_other this]; exact iv.heavy t b hb
  · intro j hj
    by_cases hji : j = i
    · subst hji; exact (pk.dn j).2 ⟨_, hr, rfl⟩
    · rw [Ladd_other hji] at hj; exact iv.sub j hj
end
end Go.AM
namespace Go.AM
section
variable {P : Program} {T : Tbl} {K : Kp} {w0 : World} {m m' m0 : M} {w w' : World} {ops : Array Oper} {ms hv : List Nat} {ts0 : PT Value} {n u s : Nat} {df : List Deferred} {h h' : AH} {p q : Plan} {L : Nat → Bool} {a : Act}

theorem free_of {ms hv : List Nat} {s f : Nat} (hf : free ms hv (s + 1) f = true) : free ms hv s f = true := by
  unfold free at *
  rw [List.all_eq_true] at *
  intro b hb
  refine hf b ?_
  obtain ⟨t, ht⟩ := List.getElem?_of_mem hb
  rw [List.getElem?_take] at ht
  split at ht
  case isFalse => cases ht
  rename_i hts
  refine List.mem_of_getElem? (i := t) ?_
  rw [List.getElem?_take, if_pos (by omega)]; exact ht
theorem free_at {ms hv : List Nat} {s f i : Nat} (hf : free ms hv (s + 1) f = true) (hs : hv[s]? = some i) : bit (ms.getD i 0) f = false := by
  unfold free at hf
  rw [List.all_eq_true] at hf
  have := hf i (List.mem_of_getElem? (i := s) (by rw [List.getElem?_take, if_pos (by omega)]; exact hs))
  simpa using this

theorem withF_cases {i : Nat} (hf : FltOk q.fl) {j : Nat} {o : AObj} (e : (withF ms hv i s ⟨h.t, q.nx⟩ q.fl).get j = some o) : (∃ f ∈ q.fl, bit (ms.getD i 0) f.1 = true ∧ free ms hv s f.1 = true ∧ f.2.1 = j ∧ f.2.2 = o) ∨ h.get j = some o := by
  rw [withF_eq] at e
  rcases addF_cases hf e with ⟨f, h1, h2, h3, h4⟩ | ⟨h1, h2⟩
  · simp only [Bool.and_eq_true] at h2
    exact .inl ⟨f, h1, h2.1, h2.2, h3, h4⟩
  · exact .inr h2

/-- names of floats that have not come -/
def Later (q : Plan) (L : Nat → Bool) (j : Nat) : Prop := ∃ f ∈ q.fl, L f.1 = false ∧ f.2.1 = j

theorem withF_sub (pk : PlanOk T ops ms hv ts0 u s h q) {i : Nat} (hc : ∀ j, bit (ms.getD i 0) j = true → L j = true) {j : Nat} {o : AObj} (e : (withF ms hv i s ⟨h.t, q.nx⟩ q.fl).get j = some o) : (heapOf ms hv s L h q).get j = some o := by
  rcases withF_cases pk.fl e with ⟨f, g1, g2, g3, g4, g5⟩ | g
  · subst g4; subst g5; exact heapOf_float pk.fl g1 (hc _ g2) g3
  · rw [heapOf_none pk.fl fun f hf _ b e => by
      have := pk.apart f hf b
      rw [e, g] at this; cases this]
    exact g

theorem NInv.part (pk : PlanOk T ops ms hv ts0 u s h q) (iv : NInv ops ms hv ts0 n df K w0 m s h q L a w) {i : Nat} (hc : ∀ j, bit (ms.getD i 0) j = true → L j = true) :
    Rel (K.with m (heapOf ms hv s L h q) (withF ms hv i s ⟨h.t, q.nx⟩ q.fl) (Later q L)) w m (withF ms hv i s ⟨h.t, q.nx⟩ q.fl) w :=
  iv.rel.sub (by rw [withF_nx_eq, heapOf_nx]) (fun j o e => withF_sub pk hc e) fun j ⟨f, h1, h2, h3⟩ => by
    subst h3
    exact ⟨by rw [heapOf_nx]; exact pk.lt f h1, iv.und f h1 h2⟩

theorem heavies_nodup : (heavies T ops).Nodup := by
  unfold heavies
  have h1 : ((ops.toList.zipIdx.filter fun p => heavyOp T p.1.op).map (·.2)).Sublist (ops.toList.zipIdx.map (·.2)) := List.Sublist.map _ List.filter_sublist
  refine List.Nodup.sublist h1 ?_
  rw [List.zipIdx_map_snd]
  exact List.nodup_range'
theorem mem_heavies {i : Nat} : i ∈ heavies T ops ↔ ∃ o, ops[i]? = some o ∧ heavyOp T o.op = true := by
  unfold heavies
  simp only [List.mem_map, List.mem_filter]
  constructor
  · rintro ⟨⟨o, j⟩, ⟨h1, h2⟩, rfl⟩
    rw [List.mem_zipIdx_iff_getElem?] at h1
    exact ⟨o, by simpa using h1, h2⟩
  · rintro ⟨o, h1, h2⟩
    exact ⟨(o, i), ⟨mem_zipIdx h1, h2⟩, rfl⟩

/-- A heavy operation has come. -/
theorem NInv.heavyMove (sh : ShapeOk ops n ms hv) (nd : hv.Nodup) (pk : PlanOk T ops ms hv ts0 (s + 1) s h q) (cp : Comp ops ms hv (s + 1) q) (iv : NInv ops ms hv ts0 n df K w0 m s h q L a w) {i : Nat} {o : Oper} {x x' : Value} (hs : hv[s]? = some i)
    (hc : ∀ j, bit (ms.getD i 0) j = true → L j = true) (ho : ops[i]? = some o) (hf : fits ms q.dn i = true) (hle : m.le m')
    (rel' : Rel (K.with m (heapOf ms hv s L h q) (withF ms hv i s ⟨h.t, q.nx⟩ q.fl) (Later q L)) w m' h' w') (hx : VR m' x x') :
    PlanOk T ops ms hv ts0 (s + 1) (s + 1) h' (q.add i x q.fl h'.nx) ∧ Comp ops ms hv (s + 1) (q.add i x q.fl h'.nx) ∧ NInv ops ms hv ts0 n df K w0 m' (s + 1) h' (q.add i x q.fl h'.nx) (Ladd L i) (a.put o.dst x') w' := by
  have hmem : i ∈ hv := List.mem_of_getElem? hs
  have hnone : ∀ f ∈ q.fl, free ms hv (s + 1) f.1 = true → (withF ms hv i s ⟨h.t, q.nx⟩ q.fl).get f.2.1 = none := by
    intro f hf' hfr
    cases hg : (withF ms hv i s ⟨h.t, q.nx⟩ q.fl).get f.2.1 with
    | none => rfl
    | some ob =>
      rcases withF_cases pk.fl hg with ⟨f', g1, g2, g3, g4, g5⟩ | g
      · have := pk.fl.uniq f' g1 f hf' g4
        subst this
        rw [free_at hfr hs] at g2; cases g2
      · rw [pk.apart f hf' (free_of hfr)] at g; cases g
  have hne : ∀ f ∈ q.fl, f.1 ≠ i := fun f hf' e => (pk.told f hf').2.1 (by rw [e]; exact hmem)
  have hund : ∀ f ∈ q.fl, L f.1 = false → f.2.1 < h'.nx ∧ m' f.2.1 = none := fun f hf' hL => rel'.und_with _ ⟨f, hf', hL, rfl⟩
  have pk1 := (pk.add (x := x) (fl' := q.fl) (nx' := q.nx) hf ho (fun hn => absurd hmem hn) (fun hn => absurd hmem hn) (fun hn => absurd hmem hn) (fun hn => absurd hmem hn) (.inl ⟨rfl, rfl⟩)).1
  have hd' : ∀ j o, h'.get j = some o → j < h'.nx := fun j o e => by
    obtain ⟨k, ob, h1, _⟩ := rel'.live j o e
    exact rel'.dom _ _ h1
  have pk2 : PlanOk T ops ms hv ts0 (s + 1) (s + 1) h' (q.add i x q.fl h'.nx) := by
    refine pk1.move (u' := s + 1) (s' := s + 1) (h' := h') (nx' := h'.nx) (Nat.le_refl _) ?_ ?_ hd'
    · intro f hf' hfr
      cases hg : h'.get f.2.1 with
      | none => rfl
      | some ob =>
        obtain ⟨k, ob', h1, h2, _⟩ := rel'.live _ _ hg
        cases hL : L f.1 with
        | false => rw [(hund f hf' hL).2] at h1; cases h1
        | true =>
          obtain ⟨k0, hk0⟩ := iv.dfd f hf' hL
          have h3 := hle _ _ hk0
          rw [h1] at h3; cases h3
          exact absurd (.inr ⟨f.2.1, f.2.2, k, heapOf_float pk.fl hf' hL (free_of hfr), hnone f hf' hfr, hk0, rfl⟩) h2
    · intro f hf'
      cases hL : L f.1 with
      | false => exact (hund f hf' hL).1
      | true =>
        obtain ⟨k0, hk0⟩ := iv.dfd f hf' hL
        exact rel'.dom _ _ (hle _ _ hk0)
  refine ⟨pk2, fun j h1 h2 h3 => by rw [bit_add, cp j h1 h2 h3]; rfl, ?_⟩
  refine ⟨?_, ?_, ?_, iv.noK, ?_, by rw [put_size]; exact iv.size, by rw [put_defers]; exact iv.df.mono hle, closed_add iv.closed hc, ?_, ?_⟩
  · refine Rel.join iv.rel rel' hle (by rw [heapOf_nx]; rfl) fun j ob e => ?_
    rcases heapOf_cases pk2.fl e with ⟨f, g1, g2, g3, g4, g5⟩ | ⟨_, g⟩
    · have g1 : f ∈ q.fl := g1
      rw [Ladd_other (hne f g1)] at g2
      subst g4; subst g5
      exact .inr ⟨heapOf_float pk.fl g1 g2 (free_of g3), hnone f g1 g3⟩
    · exact .inl g
  · intro f hf' hL
    exact (hund f hf' (Ladd_false hL).1).2
  · intro f hf' hL
    rw [Ladd_other (hne f hf')] at hL
    obtain ⟨k0, hk0⟩ := iv.dfd f hf' hL
    exact ⟨k0, hle _ _ hk0⟩
  · refine (iv.ts.mono hle).step (rs' := (i, x) :: q.rs) ho (fun r h => List.mem_cons_of_mem _ h) List.mem_cons_self hx fun d hd => ?_
    rw [iv.size]
    exact sh.lt i d (by unfold dstOf; rw [ho]; exact hd)
  · intro t b hb
    by_cases hbi : b = i
    · subst hbi
      have : t = s := by
        obtain ⟨ht1, ht2⟩ := List.getElem?_eq_some_iff.1 hb
        obtain ⟨hs1, hs2⟩ := List.getElem?_eq_some_iff.1 hs
        exact (List.getElem_inj nd).1 (ht2.trans hs2.symm)
      subst this
      simp [Ladd_same]
    · rw [Ladd_other hbi, iv.heavy t b hb]
      have : t ≠ s := fun e => by subst e; rw [hs] at hb; cases hb; exact hbi rfl
      omega
  · intro j hj
    rw [bit_add, Bool.or_eq_true, decide_eq_true_eq]
    by_cases hji : j = i
    · exact .inr hji.symm
    · rw [Ladd_other hji] at hj; exact .inl (iv.sub j hj)

/-! ### What an operation looks at -/
theorem yielded_eq' {m : M} {ops : Array Oper} {ts : PT Value} {a : Array Value} (j : Nat) (h : ∀ d, (ops[j]?).bind (·.dst) = some d → VR m (tget ts d) (a.getD d undef)) : yielded ops a j = ayield ops ts j := by
  unfold yielded ayield
  cases hd : (ops[j]?).bind (·.dst) with
  | none => simp
  | some d =>
    simp only [Option.bind_some, Option.map_some]
    have hv := h d hd
    cases hq : a[d]? with
    | none =>
      have : a.getD d undef = undef := by simp [Array.getD_eq_getD_getElem?, hq]
      rw [this] at hv
      have hn : ∀ b, tget ts d ≠ .bool b := fun b hb => by
        have := (hv.bool_of b).1 hb
        simp [undef] at this
      cases hg : tget ts d <;> simp_all
    | some v =>
      have : a.getD d undef = v := by simp [Array.getD_eq_getD_getElem?, hq]
      rw [this] at hv
      generalize tget ts d = x at hv
      cases hv <;> rfl
theorem wanted_env {m : M} {ops : Array Oper} {ts : PT Value} {a : Array Value} (o : Oper) (h : ∀ t, t ∈ o.looksAt ops → VR m (tget ts t) (a.getD t undef)) : Region.wanted o (yielded ops a) = awanted ops ts o := by
  unfold Region.wanted awanted
  cases hg : o.guard with
  | none => rfl
  | some g =>
    obtain ⟨j, want⟩ := g
    have hy : yielded ops a j = ayield ops ts j := yielded_eq' j fun d hd => h d (by
      unfold Oper.looksAt
      rw [hg]
      exact List.mem_append_right _ (by simp [hd]))
    simp only [hy]
    cases ayield ops ts j <;> simp
theorem eval_env {m : M} {ops : Array Oper} {ts : PT Value} {a : Act} {o : Oper} (h : ∀ t, t ∈ o.looksAt ops → VR m (tget ts t) (a.tmps.getD t undef)) (hok : operOk o = true) : ∀ x ∈ o.op.operands.toList, VR m (aeval ts x) (a.eval x) := by
  intro x hx
  have hxo : operandOk x = true := by
    unfold operOk at hok; exact List.all_eq_true.1 hok x hx
  cases x with
  | tmp t => exact h t (List.mem_append_left _ (List.mem_filterMap.2 ⟨.tmp t, hx, rfl⟩))
  | const v => exact VR.of_plain m hxo
  | func f => exact .func (.func f) .nil .nil
  | global g => cases hxo
theorem sem_of {rd : Option Nat} {F : Fence} {o : Oper} {a : Act} (hF : RdOk m rd F) (hnd : ∀ c, o.op ≠ .defer c) : o.semAt F.round a.eval = execOp a.eval o := by
  cases rd with
  | none => cases hF; rfl
  | some l => exact Oper.semAt_eq _ _ _ fun c hc => absurd hc (hnd c)

/-! ### Lists of what has come -/
def Lof (listed : Array Bool) : Nat → Bool := fun q => listed.getD q false
theorem Lof_set {listed : Array Bool} {i : Nat} (hi : i < listed.size) : Lof (listed.setIfInBounds i true) = Ladd (Lof listed) i := by
  funext q
  unfold Lof Ladd
  simp only [Array.getD_eq_getD_getElem?, Array.getElem?_setIfInBounds]
  by_cases hq : i = q
  · subst hq; simp [hi]
  · have : ¬ q = i := fun e => hq e.symm
    simp [hq, this]
theorem lt_of_getD {listed : Array Bool} {i : Nat} (h : listed.getD i true = false) : i < listed.size ∧ Lof listed i = false ∧ listed.toList[i]? = some false := by
  have hlt : i < listed.size := by
    rcases Nat.lt_or_ge i listed.size with h' | h'
    · exact h'
    · simp [Array.getD_eq_getD_getElem?, Array.getElem?_eq_none h'] at h
  have hv : listed[i]? = some false := by
    simp only [Array.getD_eq_getD_getElem?] at h
    rw [Array.getElem?_eq_getElem hlt] at h ⊢
    simpa using h
  refine ⟨hlt, ?_, by simpa using hv⟩
  unfold Lof
  simp [Array.getD_eq_getD_getElem?, hv]
theorem count_set {listed : Array Bool} {i fuel : Nat} (h : listed.toList[i]? = some false) (hc : listed.toList.count false = fuel + 1) : (listed.setIfInBounds i true).toList.count false = fuel := by
  obtain ⟨h1, h2⟩ := List.getElem?_eq_some_iff.1 h
  rw [Array.toList_setIfInBounds, List.count_set h1, h2, hc]
  simp
end
end Go.AM
namespace Go.AM
section
variable {P : Program} {T : Tbl} {K : Kp} {w0 : World} {m m' m0 : M} {w w' : World} {ops : Array Oper} {ms hv : List Nat} {ts0 : PT Value} {n u s : Nat} {df : List Deferred} {h h' : AH} {p q : Plan} {L : Nat → Bool} {a : Act} {rec : Req → Out} {outs0 : List Resp} {F : Fence} {rd : Option Nat}

theorem light_kind {o : Op} (h1 : heavyOp T o = false) (h2 : lightOp T o = false) : floatOp o = true := by
  unfold heavyOp at h1
  rw [h2] at h1
  simpa using h1
theorem light_nodefer {o : Op} (h : lightOp T o = true ∨ floatOp o = true) : ∀ c, o ≠ .defer c := by
  intro c e
  subst e
  rcases h with h | h <;> cases h
theorem light_mono {o : Oper} (hl : lightOp T o.op = true) {ρ : Operand → Value} {x : Value} {hh : AH} (e : aop T ρ o h = .v x hh) : hh = h := (light_nx (n' := 0) hl (show aop T ρ o ⟨h.t, h.nx⟩ = .v x hh from e)).1

/-- What is asked of the region, once s heavy operations have come. -/
def NodeOk (P : Program) (T : Tbl) (ops : Array Oper) (ms hv : List Nat) (ts0 : PT Value) (n : Nat) (df : List Deferred) (K : Kp) (w0 : World) (m0 : M) (F : Fence) (rd : Option Nat) (outs0 : List Resp) (u s : Nat) (h : AH) (p : Plan) : Prop :=
  PlanOk T ops ms hv ts0 u s h p → Comp ops ms hv u p → ∀ (fuel : Nat) (m : M) (listed : Array Bool) (a : Act) (w : World), m0.le m → listed.size = ops.size → listed.toList.count false = fuel → RdOk m rd F → NInv ops ms hv ts0 n df K w0 m s h p (Lof listed) a w →
    wpAnyIn F 0 P .any ops (PostQ K w0 m0 n outs0) fuel listed a w

theorem all_listed (sh : ShapeOk ops n ms hv) {listed : Array Bool} (hsz : listed.size = ops.size) (h : Region.ready .any ops listed = []) : ∀ i, i < ops.size → Lof listed i = true := by
  intro i
  induction i using Nat.strongRecOn with
  | _ i ih =>
    intro hi
    cases hL : Lof listed i with
    | true => rfl
    | false =>
      have hm : i ∈ Region.ready .any ops listed := by
        rw [mem_ready]
        obtain ⟨o, ho⟩ : ∃ o, ops[i]? = some o := ⟨ops[i], Array.getElem?_eq_getElem hi⟩
        refine ⟨?_, o, ho, fun e he hb => ih e.on (sh.edge i o ho e (by simpa using he) hb) (Nat.lt_trans (sh.edge i o ho e (by simpa using he) hb) hi)⟩
        unfold Lof at hL
        simp only [Array.getD_eq_getD_getElem?] at hL ⊢
        rw [Array.getElem?_eq_getElem (by omega)] at hL ⊢
        simpa using hL
      rw [h] at hm; cases hm

theorem node_end (sh : ShapeOk ops n ms hv) (hhv : ∀ b ∈ hv, b < ops.size) (pk : PlanOk T ops ms hv ts0 u s h q) (iv : NInv ops ms hv ts0 n df K w0 m s h q L a w) (hall : ∀ i, i < ops.size → L i = true) (hle : m0.le m)
    (hend : hv.length ≤ s → Resp.code .normal (endOf ops ts0 q.rs) df (allF ms hv s ⟨h.t, q.nx⟩ q.fl) ∈ outs0) : PostQ K w0 m0 n outs0 .normal a w := by
  have hs : hv.length ≤ s := by
    rcases Nat.lt_or_ge s hv.length with hlt | hge
    · have h1 := (iv.heavy s hv[s] (List.getElem?_eq_getElem hlt)).1 (hall _ (hhv _ (List.getElem_mem hlt)))
      omega
    · exact hge
  have hin : ∀ q', (∃ o, ops[q']? = some o) → L q' = true := fun q' ⟨o, ho⟩ => hall q' (Array.getElem?_eq_some_iff.1 ho).1
  refine ⟨.normal, _, _, _, m, hend hs, hle, ?_, ?_, iv.size, iv.df, .normal⟩
  · refine iv.rel.of_get (by rw [allF_eq, addF_nx, heapOf_nx]; exact Nat.le_refl _) fun j o e => ?_
    rw [allF_eq] at e
    rcases addF_cases pk.fl e with ⟨f, h1, h2, h3, h4⟩ | ⟨h1, h2⟩
    · subst h3; subst h4
      obtain ⟨t1, t2, o', t3, _⟩ := pk.told f h1
      exact heapOf_float pk.fl h1 (hin _ ⟨o', t3⟩) h2
    · rw [heapOf_none pk.fl fun f hf _ b => h1 f hf b]; exact h2
  · intro t
    rw [endOf_eq, putR_get _ _ _ (fun q d hd => Nat.lt_trans (sh.lt q d hd) (Nat.lt_trans sh.nb (show 100000 < 1000000000 by omega)))]
    cases hf : q.rs.find? fun r => true && dstOf ops r.1 == some t with
    | some r =>
      have hr := List.find?_some hf
      have hm := List.mem_of_find?_eq_some hf
      simp only [Bool.true_and, beq_iff_eq] at hr
      rcases iv.ts t with ⟨r', h1, h2, h3, h4⟩ | ⟨h1, _⟩
      · have := pk.rs.uniq r' h1 r hm (sh.uniq h3 hr)
        subst this; exact h4
      · exact absurd hr (h1 r.1 (hin _ (pk.idx r hm).1))
    | none =>
      rcases iv.ts t with ⟨r', h1, h2, h3, h4⟩ | ⟨_, h2⟩
      · have := List.find?_eq_none.1 hf r' h1
        rw [h3] at this
        simp at this
      · exact h2

/-- Within a stage: lights and floats in any order, then the next heavy one. -/
theorem node_inner (ok : TOk T P) (ih : IH T P rec) (sh : ShapeOk ops n ms hv) (hms : ms = masks ops.toList []) (hhv : hv = heavies T ops) (hops : ∀ o ∈ ops.toList, operOk o = true) (hsle : s ≤ hv.length)
    (hlt : ∀ r ∈ q.rs, r.1 ∉ hv → s ≤ stageHi ms hv r.1 → LtOk T ops ms hv ts0 s h q r)
    (hend : hv.length ≤ s → Resp.code .normal (endOf ops ts0 q.rs) df (allF ms hv s ⟨h.t, q.nx⟩ q.fl) ∈ outs0)
    (hheavy : ∀ i o, hv[s]? = some i → ops[i]? = some o → fits ms q.dn i = true ∧ ∃ (k : Plan → AH → Out) (outs : List Resp), heavyOn T rec ops ms hv ts0 k s i o q h = .ok outs ∧ (∀ r ∈ outs, r ∈ outs0) ∧
      ∀ p' h' o', k p' h' = .ok o' → (∀ r ∈ o', r ∈ outs0) → NodeOk P T ops ms hv ts0 n df K w0 m0 F rd outs0 (s + 1) (s + 1) h' p') :
    NodeOk P T ops ms hv ts0 n df K w0 m0 F rd outs0 (s + 1) s h q := by
  intro pk cp fuel
  have hb : ∀ b ∈ hv, b < ops.size := fun b hb => by
    rw [hhv, mem_heavies] at hb
    obtain ⟨o, ho, _⟩ := hb
    exact (Array.getElem?_eq_some_iff.1 ho).1
  induction fuel with
  | zero =>
    intro m listed a w hle hsz hcnt hF iv
    have hr : Region.ready .any ops listed = [] := by
      cases hr : Region.ready .any ops listed with
      | nil => rfl
      | cons i l =>
        have hi : i ∈ Region.ready .any ops listed := by rw [hr]; exact List.mem_cons_self
        rw [mem_ready] at hi
        obtain ⟨_, _, h3⟩ := lt_of_getD hi.1
        exact absurd (List.mem_of_getElem? h3) (List.count_eq_zero.1 hcnt)
    exact ⟨hr, node_end sh hb pk iv (all_listed sh hsz hr) hle hend⟩
  | succ fuel ihf =>
    intro m listed a w hle hsz hcnt hF iv
    refine ⟨fun hr => node_end sh hb pk iv (all_listed sh hsz hr) hle hend, fun i hi => ?_⟩
    rw [mem_ready] at hi
    obtain ⟨hi0, o, ho, hedge⟩ := hi
    obtain ⟨hi1, hi2, hi3⟩ := lt_of_getD hi0
    have hmem : o ∈ ops.toList := List.mem_of_getElem? (i := i) (by simpa using ho)
    have hc : ∀ j, bit (ms.getD i 0) j = true → Lof listed j = true := by
      intro j hj
      rw [hms] at hj
      obtain ⟨e, e1, e2, e3⟩ := mask_step ho (fun e he hb => sh.edge i o ho e he hb) hj
      have he : Lof listed e.on = true := hedge e (by simpa using e1) e2
      rcases e3 with e3 | e3
      · rw [← e3]; exact he
      · rw [← hms] at e3; exact iv.closed e.on he j e3
    have hset := Lof_set hi1
    have hcnt' := count_set hi3 hcnt
    have hsz' : (listed.setIfInBounds i true).size = ops.size := by simp [hsz]
    have henv : ∀ t, t ∈ o.looksAt ops → VR m (tget (envOf ops ms i ts0 q.rs) t) (a.tmps.getD t undef) := fun t ht => env_sound sh iv.ts pk.rs ho hi2 hc iv.closed ht
    have hval := eval_env henv (hops o hmem)
    unfold wpOpIn
    simp only [ho]
    rw [wanted_env o henv]
    by_cases hh : i ∈ hv
    · -- heavy
      have hs : hv[s]? = some i := by
        obtain ⟨t, ht⟩ := List.getElem?_of_mem hh
        have h1 : ¬ t < s := fun hts => by
          have := (iv.heavy t i ht).2 hts
          rw [hi2] at this; cases this
        have h2 : t ≤ s := by
          cases t with
          | zero => omega
          | succ t =>
            obtain ⟨ht1, _⟩ := List.getElem?_eq_some_iff.1 ht
            have hp : hv[t]? = some hv[t] := List.getElem?_eq_getElem (by omega)
            have := (iv.heavy t _ hp).1 (hc _ (sh.chain t _ _ hp ht))
            omega
        have : t = s := by omega
        rw [← this]; exact ht
      obtain ⟨hf, k, outs, e, hsub, hk⟩ := hheavy i o hs ho
      have hnd : hv.Nodup := by rw [hhv]; exact heavies_nodup
      have go : ∀ {m' : M} {h' : AH} {x x' : Value} {w' : World} {o' : List Resp}, m.le m' → Rel (K.with m (heapOf ms hv s (Lof listed) h q) (withF ms hv i s ⟨h.t, q.nx⟩ q.fl) (Later q (Lof listed))) w m' h' w' → VR m' x x' → k (q.add i x q.fl h'.nx) h' = .ok o' → (∀ r ∈ o', r ∈ outs0) →
          wpAnyIn F 0 P .any ops (PostQ K w0 m0 n outs0) fuel (listed.setIfInBounds i true) (a.put o.dst x') w' := by
        intro m' h' x x' w' o' hle' rel' hx e' hsub'
        obtain ⟨g1, g2, g3⟩ := iv.heavyMove sh hnd pk cp hs hc ho hf hle' rel' hx
        rw [← hset] at g3
        exact hk _ _ _ e' hsub' g1 g2 fuel m' _ _ _ (M.le_trans hle hle') hsz' hcnt' (hF.mono hle') g3
      have part := iv.part pk hc
      unfold heavyOn at e
      cases hw : awanted ops (envOf ops ms i ts0 q.rs) o with
      | false =>
        rw [hw] at e
        simp only [Bool.false_eq_true, if_false] at e ⊢
        refine ⟨fun f _ => hF.fn f, ?_⟩
        refine go (h' := withF ms hv i s ⟨h.t, q.nx⟩ q.fl) m.le_refl part (VR.undef m) (o' := outs) ?_ hsub
        rw [withF_nx_eq]; exact e
      | true =>
        rw [hw] at e
        simp only [if_true] at e ⊢
        have hro := aop_sound ok part o hval
        have hsem : (∀ c, o.op = .defer c → False) → o.semAt F.round a.eval = execOp a.eval o := fun hd => sem_of hF fun c hc => hd c hc
        have hnodef : (∀ d, aop T (aeval (envOf ops ms i ts0 q.rs)) o (withF ms hv i s ⟨h.t, q.nx⟩ q.fl) ≠ .defer d (withF ms hv i s ⟨h.t, q.nx⟩ q.fl)) → (∀ wy, aop T (aeval (envOf ops ms i ts0 q.rs)) o (withF ms hv i s ⟨h.t, q.nx⟩ q.fl) ≠ .fail wy) → o.semAt F.round a.eval = execOp a.eval o := fun h1 h2 => hsem fun c hc => by
          rcases aop_defer (T := T) (h := withF ms hv i s ⟨h.t, q.nx⟩ q.fl) hc (ρ := aeval (envOf ops ms i ts0 q.rs)) with ⟨d, hd⟩ | ⟨wy, hw⟩
          · exact h1 _ hd
          · exact h2 _ hw
        refine ⟨fun f _ => hF.fn f, ?_⟩
        cases hr : aop T (aeval (envOf ops ms i ts0 q.rs)) o (withF ms hv i s ⟨h.t, q.nx⟩ q.fl) with
        | v x h' =>
          rw [hr] at e hro
          rw [hnodef (by rw [hr]; simp) (by rw [hr]; simp)]
          obtain ⟨nx, x', w', m', h1, h2, h3, h4, h5⟩ := hro
          rw [h1]
          have := go h3 h4 h5 e hsub
          rcases h2 with rfl | ⟨rfl, rfl⟩
          · exact this
          · exact this
        | enter f args h' =>
          rw [hr] at e hro
          rw [hnodef (by rw [hr]; simp) (by rw [hr]; simp)]
          obtain ⟨args', w', m', h1, h2, h3, h4⟩ := hro
          obtain ⟨l, e1, e2⟩ := bind_ok e
          rw [h1]
          refine ⟨hF.depth, hF.calls ?_⟩
          refine CallsIn.mono (ih.call e1 h3 h4) fun en w2 hq => ?_
          cases en with
          | outgrown => exact (hq.not_out).elim
          | returned v =>
            obtain ⟨e', h2', m2, q1, q2, q3, q4⟩ := hq
            cases q4 with
            | returned hv' =>
              obtain ⟨o', f1, f2⟩ := e2 _ q1
              exact go (M.le_trans h2 q2) q3 hv' f1 fun r hr => hsub r (f2 r hr)
          | panicked ch =>
            obtain ⟨e', h2', m2, q1, q2, q3, q4⟩ := hq
            cases q4 with
            | panicked hv' =>
              obtain ⟨o', f1, f2⟩ := e2 _ q1
              cases f1
        | round l args h' =>
          rw [hr] at e hro
          rw [hnodef (by rw [hr]; simp) (by rw [hr]; simp)]
          obtain ⟨kb, args', h1, h2, rfl, h4⟩ := hro
          rw [h4]
          obtain ⟨lo, e1, e2⟩ := bind_ok e
          refine around_sound (T := T) ih e1 h1 part h2 hF fun v v' h2' m' w' q1 q2 q3 q4 => ?_
          obtain ⟨o', f1, f2⟩ := e2 _ q1
          exact go q2 q3 q4 f1 fun r hr => hsub r (f2 r hr)
        | defer d h' => rw [hr] at e; cases e
        | recover h' => rw [hr] at e; cases e
        | panic x h' => rw [hr] at e; cases e
        | many xs => rw [hr] at e; cases e
        | fail wy => rw [hr] at e; cases e
    · -- light or float
      have hho : heavyOp T o.op = false := by
        cases hq : heavyOp T o.op with
        | false => rfl
        | true => exact absurd (by rw [hhv, mem_heavies]; exact ⟨o, ho, hq⟩) hh
      have hilt : i < ops.size := (Array.getElem?_eq_some_iff.1 ho).1
      have hlo : stageLo ms hv i < s + 1 := by
        unfold stageLo
        have hsub : (hv.filter fun b => bit (ms.getD i 0) b) = ((hv.take s).filter fun b => bit (ms.getD i 0) b) := by
          conv => lhs; rw [← List.take_append_drop s hv]
          rw [List.filter_append]
          have : (hv.drop s).filter (fun b => bit (ms.getD i 0) b) = [] := by
            rw [List.filter_eq_nil_iff]
            intro b hb hbit
            obtain ⟨t, ht⟩ := List.getElem?_of_mem hb
            rw [List.getElem?_drop] at ht
            have := (iv.heavy _ _ ht).1 (hc _ hbit)
            omega
          rw [this, List.append_nil]
        rw [hsub]
        have h1 := List.length_filter_le (fun b => bit (ms.getD i 0) b) (hv.take s)
        have h2 : (hv.take s).length ≤ s := by rw [List.length_take]; exact Nat.min_le_left _ _
        omega
      have hhi : s ≤ stageHi ms hv i := by
        unfold stageHi
        have : hv.takeWhile (fun b => !bit (ms.getD b 0) i) = hv.take s ++ (hv.drop s).takeWhile (fun b => !bit (ms.getD b 0) i) := by
          conv => lhs; rw [← List.take_append_drop s hv]
          rw [List.takeWhile_append_of_pos]
          intro b hb
          obtain ⟨t, ht⟩ := List.getElem?_of_mem hb
          rw [List.getElem?_take] at ht
          split at ht
          case isFalse => cases ht
          rename_i hts
          cases hbit : bit (ms.getD b 0) i with
          | false => rfl
          | true =>
            have := iv.closed b ((iv.heavy t b ht).2 hts) i hbit
            rw [hi2] at this; cases this
        rw [this, List.length_append, List.length_take]
        omega
      obtain ⟨r, hr, hri⟩ := (pk.dn i).1 (cp i hilt hh hlo)
      obtain ⟨ri, x⟩ := r
      simp only at hri
      subst hri
      have go : ∀ {m' : M} {x' : Value} {w' : World}, m.le m' → NInv ops ms hv ts0 n df K w0 m' s h q (Ladd (Lof listed) ri) (a.put o.dst x') w' → wpAnyIn F 0 P .any ops (PostQ K w0 m0 n outs0) fuel (listed.setIfInBounds ri true) (a.put o.dst x') w' := by
        intro m' x' w' hle' iv'
        rw [← hset] at iv'
        exact ihf m' _ _ _ (M.le_trans hle hle') hsz' hcnt' (hF.mono hle') iv'
      cases hw : awanted ops (envOf ops ms ri ts0 q.rs) o with
      | false =>
        simp only [Bool.false_eq_true, if_false]
        refine ⟨fun f _ => hF.fn f, go m.le_refl ?_⟩
        have hx : x = undef := pk.dull _ hr hh o ho hw
        subst hx
        refine iv.light sh pk hh hc ho hr (fun f hf e => ?_) m.le_refl iv.und iv.rel (VR.undef m)
        obtain ⟨_, _, o', t3, _, t5⟩ := pk.told f hf
        rw [e] at t3 t5
        rw [ho] at t3; cases t3
        rw [hw] at t5; cases t5
      | true =>
        simp only [if_true]
        refine ⟨fun f _ => hF.fn f, ?_⟩
        cases hl : lightOp T o.op with
        | false =>
          have hfo := light_kind hho hl
          obtain ⟨id, ob, hh', g1, g2, g3⟩ := pk.made _ hr hh o ho hw hl
          rw [sem_of hF (light_nodefer (T := T) (.inr hfo))]
          obtain ⟨x', w', k, f1, f2, f3⟩ := float_sound (P := P) ok iv.rel o hval hfo (j := id) (by rw [heapOf_nx]; exact pk.lt _ g1) (iv.und _ g1 hi2) (pk.fl.lim _ g1) (iv.noK _ g1) g2 g3
          rw [f1]
          exact go (M.set_le (iv.und _ g1 hi2)) (iv.float sh pk hi2 hh hc ho hr g1 f2 f3)
        | true =>
          have hlt' : ∃ hh, aop T (aeval (envOf ops ms ri ts0 q.rs)) o (withF ms hv ri s ⟨h.t, q.nx⟩ q.fl) = .v x hh := by
            exact hlt _ hr hh hhi o ho hw hl
          obtain ⟨hh', g1⟩ := hlt'
          have hhe := light_mono hl g1
          subst hhe
          rw [sem_of hF (light_nodefer (T := T) (.inl hl))]
          have hro := aop_sound ok (iv.part pk hc) o hval
          rw [g1] at hro
          obtain ⟨nx, x', w', m', h1, h2, h3, h4, h5⟩ := hro
          rw [h1]
          have hn : ∀ f ∈ q.fl, f.1 ≠ ri := fun f hf e => by
            obtain ⟨_, _, o', t3, t4, _⟩ := pk.told f hf
            rw [e, ho] at t3; cases t3
            rw [hl] at t4; cases t4
          have hrel : Rel K w0 m' (heapOf ms hv s (Lof listed) h q) w' := by
            refine Rel.join iv.rel h4 h3 (by rw [heapOf_nx, withF_nx_eq]) fun j ob e => ?_
            cases hg : (withF ms hv ri s ⟨h.t, q.nx⟩ q.fl).get j with
            | none => exact .inr ⟨e, rfl⟩
            | some ob' =>
              have := withF_sub pk hc hg
              rw [e] at this; cases this
              exact .inl rfl
          have := go h3 (iv.light sh pk hh hc ho hr hn h3 (fun f hf hL => (h4.und_with _ ⟨f, hf, hL, rfl⟩).2) hrel h5)
          rcases h2 with rfl | ⟨rfl, rfl⟩
          · exact this
          · exact this

theorem node_sound (ok : TOk T P) (ih : IH T P rec) (sh : ShapeOk ops n ms hv) (hms : ms = masks ops.toList []) (hhv : hv = heavies T ops) (hops : ∀ o ∈ ops.toList, operOk o = true) :
    ∀ (rest : List Nat) (s : Nat) (p : Plan) (h : AH) (outs : List Resp), hv.drop s = rest → s ≤ hv.length → adraw T rec ops ms hv ts0 df rest s p h = .ok outs → (∀ r ∈ outs, r ∈ outs0) → NodeOk P T ops ms hv ts0 n df K w0 m0 F rd outs0 s s h p
  | [], s, p, h, outs, hd, hsle, e, hsub => by
    intro pk cp fuel m listed a w hle hsz hcnt hF iv
    simp only [adraw] at e
    split at e
    case h_1 => cases e
    rename_i q hq
    cases e
    obtain ⟨g1, g2, g3, g4⟩ := stagePlan_ok pk cp hq
    refine node_inner ok ih sh hms hhv hops hsle g4 (fun _ => hsub _ (by simp)) (fun i o hi ho => ?_) g1 g2 fuel m listed a w hle hsz hcnt hF (iv.plan pk.fl g1 g3)
    have := congrArg (fun l => l[0]?) hd
    simp only [List.getElem?_drop, Nat.add_zero] at this
    rw [hi] at this; cases this
  | i :: rest, s, p, h, outs, hd, hsle, e, hsub => by
    intro pk cp fuel m listed a w hle hsz hcnt hF iv
    simp only [adraw] at e
    split at e
    case h_1 => cases e
    rename_i q hq
    split at e
    case h_1 => cases e
    rename_i o ho
    obtain ⟨g1, g2, g3, g4⟩ := stagePlan_ok pk cp hq
    have hs : hv[s]? = some i := by
      have := congrArg (fun l => l[0]?) hd
      simpa [List.getElem?_drop] using this
    have hslt : s < hv.length := (List.getElem?_eq_some_iff.1 hs).1
    refine node_inner ok ih sh hms hhv hops hsle g4 (fun h => by omega) (fun i' o' hi' ho' => ?_) g1 g2 fuel m listed a w hle hsz hcnt hF (iv.plan pk.fl g1 g3)
    rw [hs] at hi'; cases hi'
    rw [ho] at ho'; cases ho'
    cases hf : fits ms q.dn i with
    | false => rw [hf] at e; cases e
    | true =>
      rw [hf, cond_true] at e
      refine ⟨rfl, _, outs, e, hsub, fun p' h' o2 e2 hs2 => ?_⟩
      refine node_sound ok ih sh hms hhv hops rest (s + 1) p' h' o2 ?_ hslt e2 hs2
      have := congrArg (List.drop 1) hd
      simpa [List.drop_drop, Nat.add_comm] using this

/-- Regions that draw their order are sound. -/
theorem drawOk (ok : TOk T P) : DrawOk T P := by
  intro rec ih ops n ts df h outs e hops K w0 m w a F rd r ht hs hn hd hF
  unfold adrawAll at e
  extract_lets ms hv at e
  split at e
  case isFalse => cases e
  rename_i hshape
  have sh := drawShape_ok hshape
  refine node_sound (K := K) (w0 := w0) (m0 := m) (F := F) (rd := rd) (n := n) (outs0 := outs) ok ih sh rfl rfl hops _ 0 ⟨[], [], h.nx, 0⟩ h outs rfl (Nat.zero_le _) e (fun r hr => hr) ?_ (fun i _ _ h0 => absurd h0 (Nat.not_lt_zero _)) ops.size m _ a w m.le_refl (by simp) (by simp [List.count_replicate]) hF ?_
  · refine ⟨fun j => ?_, trivial, by simp, by simp, by simp, by simp, by simp, trivial, trivial, by simp, by simp, by simp, fun j o hj => ?_⟩
    · rw [bit_zero]; simp
    · obtain ⟨k, ob, h1, _⟩ := r.live j o hj
      exact r.dom _ _ h1
  · have hL : ∀ q, Lof (Array.replicate ops.size false) q = false := fun q => by
      unfold Lof
      simp only [Array.getD_eq_getD_getElem?]
      cases hq : (Array.replicate ops.size false)[q]? with
      | none => rfl
      | some b =>
        rw [Array.getElem?_replicate] at hq
        split at hq
        · cases hq; rfl
        · cases hq
    refine ⟨?_, by simp, by simp, by simp, fun t => .inr ⟨fun q hq => ?_, ht t⟩, hs, hd, fun q hq => ?_, fun t b hb => ?_, fun q hq => ?_⟩
    · exact r
    · rw [hL] at hq; cases hq
    · rw [hL] at hq; cases hq
    · rw [hL]; simp
    · rw [hL] at hq; cases hq

/-- What the machine tells is so. -/
theorem arun_ok (ok : TOk T P) (k : Nat) : IH T P (arun T k) := arun_sound ok (drawOk ok) k
end
end Go.AM
