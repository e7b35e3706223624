/-
  AM, part 3: each operation of the machine is the model's own, in every world that the heap stands for. Own work.
  AM, part 4: values: parts, equality, arithmetic, conversions, addresses. Own work.
  AM, part 5: arithmetic, conversions, aggregates, addresses. Own work.
  AM, part 6: blocks that are made; addresses; slices; conversions. Own work.
  AM, part 7: slices made and cut; addresses; parts; conversions. Own work.
  AM, part 8: addresses, parts, conversions, assertions, lengths. Own work.
  AM, part 9: maps. Own work.
  AM, part 10: iterators; append, copy, lengths. Own work.
  AM, part 11: append, copy, lengths, least and greatest. Own work.
  AM, part 12: append and copy. Own work.
  AM, part 13: calls; all operations together. Own work.
  AM, part 14: each operation of the machine is the model's. Own work.
-/
import Derived.Test.YtjmnfkeeiegfdaaGreatDoorAm2
import Derived.Shelf.Abstract
import Derived.Laws.StructEq
import Derived.Laws.NewFold
import Derived.Laws.BitsLemmas
import GoSem.Dispatch
import Derived.Laws.IdiomStrings
import Derived.Laws.BytesArg
import Derived.MapKept
import Derived.Laws.Append
namespace Go.AM

/-- What a table says is so of the program. -/
structure TOk (T : Tbl) (P : Program) : Prop where
  ty : ∀ t i, T.ty t = some i → P.underlying t = some i.desc ∧ (∃ info, P.info? t = some info ∧ info.size = i.size ∧ info.bytes = i.bytes ∧ info.zero = some i.zero) ∧
    P.eqGuardType P.depth t = i.eqg ∧ P.stoodInHeld t = i.stood ∧ plainV i.zero = true
  fn : ∀ f fn, T.fn f = some fn → P.funcs[f]? = some fn ∧ (fn.name == "runtime.NumGoroutine") = false
  meth : ∀ t name f b, T.meth t name = some (f, b) → ∃ info mm, P.info? t = some info ∧ info.methods.find? (·.name == name) = some mm ∧ mm.path = #[] ∧ mm.func = some (f, b)
  ext : ∀ f g, T.ext f = some g → ∀ (m : M) (args : List Value) (args' : Array Value) (v : Value) (w : World), VRL m args args'.toList → g args = some v →
    (callFunc f args').run P w = .ok (.value v) w ∧ plainV v = true
  mixed : P.follows .mixedOrders = true

def NV (nx : Next) (x : Value) : Prop := nx = .value x ∨ (nx = .skip ∧ x = undef)

inductive DR (m : M) : Deferred → Deferred → Prop
  | fn {f g a b c d} (h : FR m f g) (h1 : VRL m a.toList c.toList) (h2 : VRL m b.toList d.toList) : DR m { target := .fn f a, args := b } { target := .fn g c, args := d }
  | collected {r k} (h : m r = some k) : DR m { target := .collected r, args := #[] } { target := .collected k.b, args := #[] }

/-- What an operation's answer says of its run. -/
def ROk (P : Program) (K : Kp) (w0 : World) (m : M) (s : Sem Next) (h : AH) (w : World) : R → Prop
  | .v x h' => ∃ nx x' w' m', s.run P w = .ok nx w' ∧ NV nx x' ∧ m.le m' ∧ Rel K w0 m' h' w' ∧ VR m' x x'
  | .enter f args h' => ∃ args' w' m', s.run P w = .ok (.enter f args') w' ∧ m.le m' ∧ Rel K w0 m' h' w' ∧ VRL m' args args'.toList
  | .round l args h' => ∃ k args', m l = some k ∧ VRL m args args'.toList ∧ h' = h ∧ s.run P w = (Instr.yield k.b args').run P w
  | .defer d h' => ∃ d', s.run P w = .ok (.defer d') w ∧ DR m d d' ∧ h' = h
  | .recover h' => s.run P w = .ok .recover w ∧ h' = h
  | .panic x h' => ∃ x', s.run P w = .halt (.panic x') w ∧ VR m x x' ∧ h' = h
  | .many xs => ∃ p ∈ xs, ∃ x' w' m', s.run P w = .ok (.value x') w' ∧ m.le m' ∧ Rel K w0 m' p.2 w' ∧ VR m' p.1 x'
  | .fail _ => True

section
variable {P : Program} {T : Tbl} {K : Kp} {w0 : World} {m : M} {h : AH} {w : World}

theorem run_typeInfo' {t : TypeId} {i : TypeInfo} (e : P.info? t = some i) (w : World) : (typeInfo t).run P w = .ok i w := by
  simp only [typeInfo, Sem.run_bind, run_program, Result.andThen_ok, e, Sem.run_pure]
theorem run_underlying' {t : TypeId} {d : TypeDesc} (e : P.underlying t = some d) (w : World) : (underlying t).run P w = .ok d w := by
  simp only [underlying, Sem.run_bind, run_program, Result.andThen_ok, e, Sem.run_pure]

structure TyAt (P : Program) (t : TypeId) (i : TI) : Prop where
  raw : P.underlying t = some i.desc
  und : ∀ w, (underlying t).run P w = .ok i.desc w
  size : ∀ w, (sizeOf t).run P w = .ok i.size w
  bytes : ∀ w, ∃ inf, (typeInfo t).run P w = .ok inf w ∧ inf.bytes = i.bytes ∧ inf.size = i.size
  zero : ∀ w, (zeroValue t).run P w = .ok i.zero w
  agg : ∀ w, (isAgg t).run P w = .ok (aggT i) w
  plain : plainV i.zero = true
  eqg : P.eqGuardType P.depth t = i.eqg
  stood : P.stoodInHeld t = i.stood

theorem TOk.at (ok : TOk T P) {t : TypeId} {i : TI} (e : T.ty t = some i) : TyAt P t i := by
  obtain ⟨h1, ⟨inf, h2, h3, h4, h5⟩, h6, h7, h8⟩ := ok.ty t i e
  refine ⟨h1, fun w => run_underlying' h1 w, fun w => ?_, fun w => ⟨inf, run_typeInfo' h2 w, h4, h3⟩, fun w => ?_, fun w => ?_, h8, h6, h7⟩
  · simp only [sizeOf, Sem.run_bind, run_typeInfo' h2, Result.andThen_ok, Sem.run_pure, h3]
  · simp only [zeroValue, Sem.run_bind, run_typeInfo' h2, Result.andThen_ok, h5, Sem.run_pure]
  · simp only [isAgg, Sem.run_bind, run_underlying' h1, Result.andThen_ok, aggT]
    cases i.desc <;> rfl

theorem desc_of {t : Nat} {d : TypeDesc} (e : T.desc t = some d) : ∃ i, T.ty t = some i ∧ i.desc = d := by
  unfold Tbl.desc at e
  cases ht : T.ty t with
  | none => rw [ht] at e; cases e
  | some i => rw [ht] at e; simp at e; exact ⟨i, rfl, e⟩

theorem VR.of_plain1 (m : M) : ∀ {v : Value}, plain1 v = true → VR m v v
  | .bool _, _ => .bool _
  | .int .., _ => .int _ _
  | .float .., _ => .float _ _
  | .string _, _ => .string _
  | .pointer none, _ => .nilptr
  | .slice none 0 0, _ => .nilsl
  | .map none, _ => .nilmap
  | .nilFunc, _ => .nilFunc
  | .nilIface, _ => .nilIface
theorem VRL.of_plain1 (m : M) : ∀ {l : List Value}, l.all plain1 = true → VRL m l l
  | [], _ => .nil
  | v :: l, e => by
    simp only [List.all_cons, Bool.and_eq_true] at e
    exact .cons (VR.of_plain1 m e.1) (VRL.of_plain1 m e.2)
theorem VR.of_plain (m : M) {v : Value} (e : plainV v = true) : VR m v v := by
  unfold plainV at e
  split at e
  · exact .agg (VRL.of_plain1 m e)
  · exact .tuple (VRL.of_plain1 m e)
  · exact VR.of_plain1 m e

/-! ### Answers without a change of memory -/
theorem ROk.pure {s : Sem Next} {x x' : Value} (r : Rel K w0 m h w) (e : s.run P w = .ok (.value x') w) (v : VR m x x') : ROk P K w0 m s h w (.v x h) :=
  ⟨_, x', w, m, e, .inl rfl, m.le_refl, r, v⟩
theorem ROk.ofOpt {s : Sem Next} {why : String} {o : Option Value} (r : Rel K w0 m h w) (f : ∀ x, o = some x → ∃ x', s.run P w = .ok (.value x') w ∧ VR m x x') : ROk P K w0 m s h w (.ofOpt why h o) := by
  cases o with
  | none => exact trivial
  | some x => obtain ⟨x', e, v⟩ := f x rfl; exact ROk.pure r e v
theorem ROk.ofOptH {s : Sem Next} {why : String} {o : Option (Value × AH)} (f : ∀ x h', o = some (x, h') → ∃ x' w' m', s.run P w = .ok (.value x') w' ∧ m.le m' ∧ Rel K w0 m' h' w' ∧ VR m' x x') :
    ROk P K w0 m s h w (.ofOptH why o) := by
  cases o with
  | none => exact trivial
  | some p => obtain ⟨x', w', m', e, l, r, v⟩ := f p.1 p.2 rfl; exact ⟨_, x', w', m', e, .inl rfl, l, r, v⟩
theorem ROk.stored {s : Sem Next} {o : Option AH} (f : ∀ h', o = some h' → ∃ w', s.run P w = .ok .skip w' ∧ Rel K w0 m h' w') : ROk P K w0 m s h w (oStored o) := by
  cases o with
  | none => exact trivial
  | some h' => obtain ⟨w', e, r⟩ := f h' rfl; exact ⟨_, undef, w', m, e, .inr ⟨rfl, rfl⟩, m.le_refl, r, .undef m⟩

/-! ### Memory -/
theorem aload_sound (ok : TOk T P) (r : Rel K w0 m h w) {t : Nat} {x x' v : Value} (e : aload T t x h = some v) (hx : VR m x x') :
    ∃ v', (Instr.loadAt t x').run P w = .ok v' w ∧ VR m v v' ∧ ∃ a, x' = .pointer (some a) ∧ (loadVar t a).run P w = .ok v' w := by
  unfold aload at e
  split at e
  case h_2 => cases e
  rename_i i b off ht
  have ta := ok.at ht
  cases hx with
  | ptr o hm =>
    rename_i k
    suffices hs : ∃ v', (loadVar t ⟨k.b, off + k.sh, none⟩).run P w = .ok v' w ∧ VR m v v' by
      obtain ⟨v', h1, h2⟩ := hs
      exact ⟨v', by simp only [Instr.loadAt, Instr.sureAddr, Sem.run_bind, Sem.run_pure, Result.andThen_ok, h1], h2, _, rfl, h1⟩
    simp only [loadVar, Sem.run_bind, ta.agg, Result.andThen_ok]
    split at e
    · rename_i ha
      simp only [ha, if_true, Sem.run_bind, ta.size, Result.andThen_ok]
      cases hl : AM.loadN h b off i.size with
      | none => rw [hl] at e; cases e
      | some c =>
        rw [hl] at e; simp at e; subst e
        obtain ⟨c', h1, h2⟩ := r.loadN (P := P) hl hm
        refine ⟨.agg c'.toArray, ?_, .agg (by simpa using h2)⟩
        rw [h1]; rfl
    · rename_i ha
      simp only [ha, if_false, Bool.false_eq_true]
      unfold load1 at e
      split at e
      case h_2 => cases e
      rename_i c sz hg
      obtain ⟨k', c', t', fz, h1, h2, h3, h4⟩ := r.cells hg
      rw [hm] at h1; cases h1
      obtain ⟨v', g1, g2⟩ := h4.vals _ _ e
      refine ⟨v', ?_, g2⟩
      rw [run_load, cell_of_heap h3, show off + k.sh = k.sh + off by omega, g1]

theorem World.ext_heap {w w' : World} (h : w.heap = w'.heap) (t : w.tape = w'.tape) (d : w.drawn = w'.drawn) (o : w.os = w'.os) (p : w.output = w'.output) : w = w' := by
  cases w; cases w'; simp_all
theorem putObj_self {w : World} {b : Nat} {o : Obj} (e : w.heap[b]? = some o) : w.putObj b o = w := by
  refine World.ext_heap ?_ rfl rfl rfl rfl
  show w.heap.setIfInBounds b o = w.heap
  apply Array.ext_getElem?
  intro j
  rw [Array.getElem?_setIfInBounds]
  split
  · rename_i hj; subst hj
    split
    · exact e.symm
    · rename_i hlt; exact absurd (lt_of_get e) hlt
  · rfl
theorem putObj_putObj {w : World} {b : Nat} {o o' : Obj} : (w.putObj b o).putObj b o' = w.putObj b o' := by
  refine World.ext_heap ?_ rfl rfl rfl rfl
  show (w.heap.setIfInBounds b o).setIfInBounds b o' = w.heap.setIfInBounds b o'
  simp
theorem setCell_putObj {w : World} {b o : Nat} {c : Array Value} {t : TypeId} {fz : Nat × Nat} (e : w.heap[b]? = some (.cells c t fz)) (v : Value) :
    w.setCell ⟨b, o, none⟩ v = w.putObj b (.cells (c.setIfInBounds o v) t fz) := by
  refine World.ext_heap ?_ rfl rfl rfl rfl
  simp only [World.setCell, World.putObj]
  apply Array.ext_getElem?
  intro j
  rw [Array.getElem?_modify, Array.getElem?_setIfInBounds]
  split
  · rename_i hj; subst hj
    rw [if_pos (lt_of_get e), e]; simp
  · rfl
theorem setAt_length : ∀ (vs c : List Value) (o : Nat), (setAt c o vs).length = c.length
  | [], _, _ => rfl
  | v :: vs, c, o => by rw [setAt, setAt_length vs]; simp
theorem frozen_of_heap {w : World} {b o : Nat} {c' : Array Value} {t : TypeId} {fz : Nat × Nat} (e : w.heap[b]? = some (.cells c' t fz)) (hf : ¬ (fz.1 ≤ o ∧ o < fz.2)) : w.frozen? ⟨b, o, none⟩ = false := by
  unfold World.frozen?; rw [e]
  obtain ⟨lo, hi⟩ := fz
  simp only at hf ⊢
  simp; omega
theorem run_storeCells_blk {b o : Nat} {t : TypeId} {fz : Nat × Nat} : ∀ (vs : List Value) (i : Nat) (c' : Array Value) (w : World), w.heap[b]? = some (.cells c' t fz) → o + i + vs.length ≤ c'.size →
    (∀ j, j < c'.size → ¬ (fz.1 ≤ j ∧ j < fz.2)) → (∀ v ∈ vs, v.oneCell' = true) →
    (storeCells ⟨b, o, none⟩ vs i).run P w = .ok () (w.putObj b (.cells (setAt c'.toList (o + i) vs).toArray t fz))
  | [], i, c', w, e, _, _, _ => by
    simp only [storeCells, Sem.run_pure, setAt, Array.toArray_toList]
    rw [putObj_self e]
  | v :: vs, i, c', w, e, hle, hf, h1 => by
    simp only [List.length_cons] at hle
    have hlt : o + i < c'.size := by omega
    have hc : w.cell? ⟨b, o + i, none⟩ = some c'[o + i] := by rw [cell_of_heap e]; exact Array.getElem?_eq_getElem hlt
    simp only [storeCells, Sem.run_bind, Addr.add_eq, run_store _ _ _ _ _ (h1 v (by simp)), hc, frozen_of_heap e (hf _ hlt), Bool.false_eq_true, if_false, Result.andThen_ok]
    rw [setCell_putObj e]
    have hb := lt_of_get e
    rw [run_storeCells_blk vs (i + 1) (c'.setIfInBounds (o + i) v) _ (World.putObj_heap_same hb) (by simp; omega) (by simpa using hf) (fun x hx => h1 x (by simp [hx]))]
    rw [putObj_putObj]
    simp only [setAt, Array.toList_setIfInBounds, Nat.add_assoc]

theorem oneCell_eq : ∀ {v v' : Value}, oneCell v = true → VR m v v' → v'.oneCell' = true := by
  intro v v' e hv
  cases hv <;> simp_all [oneCell, Value.oneCell']
theorem VRL.oneCells : ∀ {l l' : List Value}, VRL m l l' → l.all oneCell = true → ∀ v ∈ l', v.oneCell' = true
  | _, _, .nil, _ => by intro v hv; cases hv
  | _, _, .cons h t, e => by
    simp only [List.all_cons, Bool.and_eq_true] at e
    intro v hv
    rcases List.mem_cons.1 hv with rfl | hv
    · exact oneCell_eq e.1 h
    · exact t.oneCells e.2 v hv

theorem setAt_get (vs : List Value) : ∀ (c : List Value) (o j : Nat), o + vs.length ≤ c.length → (setAt c o vs)[j]? = if o ≤ j ∧ j < o + vs.length then vs[j - o]? else c[j]? := by
  induction vs with
  | nil => intro c o j _; simp [setAt]; intro h1 h2; omega
  | cons v vs ih =>
    intro c o j hle
    simp only [List.length_cons] at hle
    rw [setAt, ih _ _ _ (by simp; omega)]
    by_cases h1 : o + 1 ≤ j ∧ j < o + 1 + vs.length
    · rw [if_pos h1, if_pos (by simp; omega)]
      rw [show j - o = (j - (o + 1)) + 1 by omega]; simp
    · rw [if_neg h1]
      by_cases h2 : j = o
      · subst h2
        rw [if_pos (by simp)]; simp
        rw [List.getElem?_set]; simp; omega
      · rw [if_neg (by simp; omega)]
        rw [List.getElem?_set]; rw [if_neg (by omega)]

/-- cells stored, on both sides -/
theorem Rel.storeN (r : Rel K w0 m h w) {i off : Nat} {vs vs' : List Value} {h' : AH} (e : AM.storeN h i off vs = some h') (hv : VRL m vs vs') {k : Blk} (hm : m i = some k) :
    ∃ w', (storeCells ⟨k.b, off + k.sh, none⟩ vs').run P w = .ok () w' ∧ Rel K w0 m h' w' := by
  unfold AM.storeN at e
  split at e
  case h_2 => cases e
  rename_i c sz hg
  split at e
  case isFalse => cases e
  rename_i hc
  cases e
  simp only [Bool.and_eq_true, Nat.ble_eq, Nat.blt_eq] at hc
  obtain ⟨⟨hle, hl⟩, h1⟩ := hc
  obtain ⟨k', c', t, fz, g1, g2, g3, g4⟩ := r.cells hg
  rw [hm] at g1; cases g1
  have hlen := hv.length
  have a1 := g4.hn; have a2 := g4.hcn; have a3 := g4.le
  refine ⟨_, run_storeCells_blk vs' 0 c' w g3 (by omega) (fun j hj => g4.free j (by omega)) (hv.oneCells h1), ?_⟩
  refine r.set hg hm hl _ _ (.cells ⟨?_, ?_, g4.hsz, g4.le, ?_, g4.free⟩)
  · rw [setAt_length]; exact g4.hn
  · simp [setAt_length]; exact g4.hcn
  · intro j v hj
    rw [setAt_get _ _ _ _ hle] at hj
    have : (setAt c'.toList (off + k.sh + 0) vs').toArray[k.sh + j]? = (setAt c'.toList (off + k.sh + 0) vs')[k.sh + j]? := by simp
    rw [this, setAt_get _ _ _ _ (by simp; omega)]
    split at hj
    · rename_i hj'
      obtain ⟨v', e1, e2⟩ := hv.get _ hj
      refine ⟨v', ?_, e2⟩
      rw [if_pos (by omega), show k.sh + j - (off + k.sh + 0) = j - off by omega]; exact e1
    · rename_i hj'
      obtain ⟨v', e1, e2⟩ := g4.vals _ _ hj
      refine ⟨v', ?_, e2⟩
      rw [if_neg (by omega)]
      simpa using e1

theorem astore_sound (ok : TOk T P) (r : Rel K w0 m h w) {t : Nat} {x x' v v' : Value} {h' : AH} (e : astore T t x v h = some h') (hx : VR m x x') (hv : VR m v v') :
    ∃ w', (Instr.storeAt t x' v').run P w = .ok () w' ∧ Rel K w0 m h' w' := by
  unfold astore at e
  split at e
  case h_2 => cases e
  rename_i i b off ht
  have ta := ok.at ht
  cases hx with
  | ptr o hm =>
    rename_i k
    split at e
    case isFalse => cases e
    rename_i hl
    have hl := Nat.eq_of_beq_eq_true hl
    obtain ⟨w', h1, h2⟩ := r.storeN (P := P) e hv.vcells hm
    refine ⟨w', ?_, h2⟩
    have hsz : v'.cells.size = i.size := by have := hv.vcells.length; simp at this; omega
    simp only [Instr.storeAt, Instr.sureAddr, Sem.run_bind, Sem.run_pure, Result.andThen_ok, storeVar, ta.size, hsz, ne_eq, not_true_eq_false, if_false]
    exact h1
end
end Go.AM
namespace Go.AM
section
variable {P : Program} {T : Tbl} {K : Kp} {w0 : World} {m : M} {h : AH} {w : World}

theorem apart_sound (ok : TOk T P) {t off : Nat} {cs : List Value} {cs' : Array Value} {v : Value} (e : apart T t cs off = some v) (hv : VRL m cs cs'.toList) (w : World) :
    ∃ v', (part t cs' off).run P w = .ok v' w ∧ VR m v v' := by
  unfold apart at e
  split at e
  case h_2 => cases e
  rename_i i ht
  have ta := ok.at ht
  simp only [part, Sem.run_bind, ta.agg, Result.andThen_ok]
  split at e
  · rename_i ha
    split at e
    case isFalse => cases e
    cases e
    simp only [ha, if_true, Sem.run_bind, ta.size, Result.andThen_ok, Sem.run_pure]
    refine ⟨_, rfl, .agg ?_⟩
    rw [Array.toList_extract]
    have := (hv.drop off).take i.size
    simpa [List.extract] using this
  · rename_i ha
    simp only [ha, if_false, Bool.false_eq_true]
    obtain ⟨v', h1, h2⟩ := hv.get _ e
    refine ⟨v', ?_, h2⟩
    have : cs'[off]? = some v' := by simpa using h1
    rw [this]; rfl

theorem aeqF_sound (ok : TOk T P) {d : Nat} (ih : ∀ (t : Nat) (x y x' y' : Value) (b : Bool), aeq T d t x y = some b → VR m x x' → VR m y y' → ∀ D, d ≤ D → ∀ w, (Op.equalIn D t x' y').run P w = .ok b w) :
    ∀ (fs : List Field) (xs ys : List Value) (xs' ys' : Array Value) (b : Bool), aeqF T (aeq T d) fs xs ys = some b → VRL m xs xs'.toList → VRL m ys ys'.toList → ∀ D, d ≤ D → ∀ w, (Op.eqFields D xs' ys' fs).run P w = .ok b w
  | [], _, _, _, _, b, e, _, _, D, _, w => by
    simp only [aeqF, Option.some.injEq] at e; subst e; simp [Op.eqFields]
  | f :: fs, xs, ys, xs', ys', b, e, hx, hy, D, hD, w => by
    simp only [aeqF] at e
    split at e
    case isTrue => cases e
    rename_i hn
    split at e
    case h_2 => cases e
    rename_i a a2 e1 e2
    obtain ⟨v1, g1, r1⟩ := apart_sound ok e1 hx w
    obtain ⟨v2, g2, r2⟩ := apart_sound ok e2 hy w
    simp only [Op.eqFields, ne_eq, hn, not_false_eq_true, if_true, Sem.run_bind, g1, g2, Result.andThen_ok]
    split at e
    · rename_i e3
      rw [ih _ _ _ _ _ _ e3 r1 r2 D hD w]
      simp only [Result.andThen_ok, Bool.not_true, Bool.false_eq_true, if_false]
      exact aeqF_sound ok ih fs xs ys xs' ys' b e hx hy D hD w
    · rename_i e3
      cases e
      rw [ih _ _ _ _ _ _ e3 r1 r2 D hD w]
      simp
    · cases e

theorem aeq_sound (ok : TOk T P) : ∀ (d t : Nat) (x y x' y' : Value) (b : Bool), aeq T d t x y = some b → VR m x x' → VR m y y' → ∀ D, d ≤ D → ∀ w, (Op.equalIn D t x' y').run P w = .ok b w
  | 0, _, _, _, _, _, _, e, _, _, _, _, _ => by simp [aeq] at e
  | d + 1, t, x, y, x', y', b, e, hx, hy, D, hD, w => by
    obtain ⟨D, rfl⟩ : ∃ D', D = D' + 1 := ⟨D - 1, by omega⟩
    simp only [aeq] at e
    split at e
    case h_1 => cases e
    rename_i i ht
    have ta := ok.at ht
    split at e
    · rename_i hd
      cases hx; cases hy; cases e
      simp [Op.equalIn, ta.und, hd]
    · rename_i hd
      cases hx; cases hy
      split at e
      case isFalse => cases e
      rename_i hk; cases e
      simp [Op.equalIn, ta.und, hd, hk]
    · rename_i hd
      cases hx; cases hy; cases e
      simp only [Op.equalIn, Sem.run_bind, ta.und, Result.andThen_ok, hd, Sem.run_pure]
      rw [beq_toListBytes, ByteArray.toList_eq, ByteArray.toList_eq]
    · rename_i hd
      cases hx; cases e
      cases hy <;> simp [Op.equalIn, ta.und, hd]
    · rename_i hd
      cases hx; cases hy; cases e
      simp [Op.equalIn, ta.und, hd]
    · rename_i hd
      cases hx; cases hy; cases e
      simp [Op.equalIn, ta.und, hd]
    · rename_i hd
      cases hx; cases hy; cases e
      simp [Op.equalIn, ta.und, hd]
    · rename_i hd
      cases hx; cases hy; cases e
      simp [Op.equalIn, ta.und, hd]
    · rename_i hd
      cases e
      cases hx; cases hy <;> simp [Op.equalIn, ta.und, hd]
    · rename_i hd
      cases e
      cases hx; cases hy; simp [Op.equalIn, ta.und, hd]
    · rename_i hd
      cases e
      cases hx; cases hy <;> simp [Op.equalIn, ta.und, hd]
    · rename_i hd
      cases e
      cases hx; cases hy; simp [Op.equalIn, ta.und, hd]
    · rename_i hd
      cases hx; cases hy; cases e
      simp [Op.equalIn, ta.und, hd]
    · rename_i hd
      cases hx; cases hy; cases e
      simp [Op.equalIn, ta.und, hd]
    · rename_i hd
      cases hx; cases hy; cases e
      simp [Op.equalIn, ta.und, hd]
    · rename_i fields xs ys hd
      split at e
      case isTrue => cases e
      rename_i hst
      cases hx with
      | agg hx =>
        cases hy with
        | agg hy =>
          have hf : P.fieldsOf t = fields := by unfold Program.fieldsOf; rw [ta.raw, hd]
          rw [run_equalIn_struct w D t _ _ (by rw [hf, ta.raw, hd]) (by rw [ta.stood]; simpa using hst), hf]
          exact aeqF_sound ok (aeq_sound ok d) fields.toList _ _ _ _ b e hx hy D (by omega) w
    · cases e
end
end Go.AM
namespace Go.AM
section
variable {P : Program} {T : Tbl} {K : Kp} {w0 : World} {m : M} {h : AH} {w : World}

theorem shiftOp_sound {left : Bool} {k k' : IntKind} {a b : Int} {v : Value} (e : shiftOp left k a b = some v) (w : World) :
    (Op.shift (if left then .shl else .shr) k a k' b).run P w = .ok v w ∧ VR m v v := by
  unfold shiftOp at e
  split at e
  case isTrue => cases e
  rename_i hb
  split at e
  · rename_i hl; subst hl; cases e
    exact ⟨by simp [Op.shift, hb], .int _ _⟩
  · rename_i hl; cases left
    · cases e; exact ⟨by simp [Op.shift, hb], .int _ _⟩
    · simp at hl

theorem intOp_sound {op : BinOp} {t : TypeId} {k : IntKind} {a b : Int} {v : Value} (e : intOp op k a b = some v) (w : World) :
    (binOp op t (.int k a) (.int k b)).run P w = .ok v w ∧ VR m v v := by
  cases op <;> simp only [intOp] at e
  case quo => split at e <;> cases e; rename_i hb; exact ⟨by simp [binOp, Op.intDiv, hb], .int _ _⟩
  case rem => split at e <;> cases e; rename_i hb; exact ⟨by simp [binOp, Op.intDiv, hb], .int _ _⟩
  all_goals first
    | (cases e; done)
    | (cases e; exact ⟨by simp only [binOp, ne_eq, not_true_eq_false, if_false]; rfl, .int _ _⟩)
    | (cases e; exact ⟨by simp only [binOp, ne_eq, not_true_eq_false, if_false]; rfl, .bool _⟩)

theorem strOp_sound {op : BinOp} {t : TypeId} {a b : ByteArray} {v : Value} (e : strOp op a b = some v) (w : World) :
    (binOp op t (.string a) (.string b)).run P w = .ok v w ∧ VR m v v := by
  have hm : IntKind.i64.max = 9223372036854775807 := by decide
  cases op <;> simp only [strOp] at e
  case add =>
    split at e
    case isFalse => cases e
    rename_i hlt; cases e
    refine ⟨?_, .string _⟩
    have : ¬ (((a.size + b.size : Nat) : Int) > IntKind.i64.max) := by rw [hm]; omega
    simp only [binOp, Op.stringOp]
    rw [if_neg this]; rfl
  all_goals first
    | (cases e; done)
    | (cases e; exact ⟨by simp [binOp, Op.stringOp, strEq, ByteArray.toList_eq], .bool _⟩)

theorem eqGuard_other {op : BinOp} {t : TypeId} {xo yo : Operand} {x y : Value} (h1 : ¬ (x = .nilIface ∧ y = .nilIface)) (h2 : ¬ (∃ a b, x = .agg a ∧ y = .agg b)) (w : World) : (eqGuard op t xo yo x y).run P w = .ok () w := by
  cases op <;> first
    | rfl
    | (cases x <;> first
        | rfl
        | (cases y <;> first | rfl | exact absurd ⟨rfl, rfl⟩ h1 | exact absurd ⟨_, _, rfl, rfl⟩ h2))

theorem binOp_eql {t : TypeId} {x y : Value} (h1 : ∀ k n, x ≠ .int k n) (h2 : ∀ k n, x ≠ .float k n) (h3 : ∀ k a b, x ≠ .complex k a b) (h4 : ∀ s, x ≠ .string s) : binOp .eql t x y = (do pure (.bool (← Op.equal t x y))) := by
  cases x <;> first
    | (exact absurd rfl (h1 _ _)) | (exact absurd rfl (h2 _ _)) | (exact absurd rfl (h3 _ _ _)) | (exact absurd rfl (h4 _))
    | (cases y <;> rfl)
theorem binOp_neq {t : TypeId} {x y : Value} (h1 : ∀ k n, x ≠ .int k n) (h2 : ∀ k n, x ≠ .float k n) (h3 : ∀ k a b, x ≠ .complex k a b) (h4 : ∀ s, x ≠ .string s) : binOp .neq t x y = (do pure (.bool (!(← Op.equal t x y)))) := by
  cases x <;> first
    | (exact absurd rfl (h1 _ _)) | (exact absurd rfl (h2 _ _)) | (exact absurd rfl (h3 _ _ _)) | (exact absurd rfl (h4 _))
    | (cases y <;> rfl)

theorem eqAny_sound (ok : TOk T P) {op : BinOp} {t : Nat} {xo yo : Operand} {x y x' y' : Value} {b : Bool} (e : eqAny T t (isConst xo || isConst yo) x y = some b) (hx : VR m x x') (hy : VR m y y') (w : World) :
    (eqGuard op t xo yo x' y').run P w = .ok () w ∧ (Op.equal t x' y').run P w = .ok b w := by
  unfold eqAny at e
  split at e
  · cases hx; cases hy
    split at e
    case isFalse => cases e
    rename_i hc
    refine ⟨?_, aeq_sound (m := m) ok 20 t _ _ _ _ b e .nilIface .nilIface _ (by decide) w⟩
    cases xo <;> cases yo <;> first
      | (simp [isConst] at hc; done)
      | (cases op <;> rfl)
  · rename_i hnn
    unfold eqOp at e
    split at e
    · cases e
    · rename_i xs ys
      cases hx with
      | agg hx =>
        cases hy with
        | agg hy =>
          split at e
          case h_2 => cases e
          rename_i i ht
          have ta := ok.at ht
          split at e
          case isTrue => cases e
          rename_i hg
          refine ⟨run_eqGuard_agg w op t xo yo _ _ (by rw [ta.eqg]; simpa using hg), aeq_sound ok 20 t _ _ _ _ b e (.agg hx) (.agg hy) _ (by decide) w⟩
    · rename_i h1 h2
      refine ⟨eqGuard_other ?_ ?_ w, aeq_sound ok 20 t _ _ _ _ b e hx hy _ (by decide) w⟩
      · rintro ⟨rfl, rfl⟩
        cases hx; cases hy
        exact h1 rfl rfl
      · rintro ⟨a, c, rfl, rfl⟩
        cases hx; cases hy
        exact h2 _ _ rfl rfl

theorem abin_sound (ok : TOk T P) {op : BinOp} {t : Nat} {xo yo : Operand} {x y x' y' v : Value} (e : abin T op t (isConst xo || isConst yo) x y = some v) (hx : VR m x x') (hy : VR m y y') (w : World) :
    ∃ v', (do eqGuard op t xo yo x' y'; binOp op t x' y' : Sem Value).run P w = .ok v' w ∧ VR m v v' := by
  unfold abin at e
  split at e
  · rename_i k a
    split at e
    case h_2 => cases e
    rename_i k' b
    cases hx; cases hy
    refine ⟨v, ?_⟩
    simp only [Sem.run_bind, eqGuard_other (P := P) (op := op) (t := t) (xo := xo) (yo := yo) (x := .int k a) (y := .int k' b) (by simp) (by simp) w, Result.andThen_ok]
    unfold intsOp at e
    split at e
    · have := shiftOp_sound (P := P) (m := m) (k' := k') e w
      simpa [binOp] using this
    · have := shiftOp_sound (P := P) (m := m) (k' := k') e w
      simpa [binOp] using this
    · split at e
      case isFalse => cases e
      rename_i hk; subst hk
      exact intOp_sound e w
  · rename_i a
    split at e
    case h_2 => cases e
    rename_i b
    cases hx; cases hy
    refine ⟨v, ?_⟩
    simp only [Sem.run_bind, eqGuard_other (P := P) (op := op) (t := t) (xo := xo) (yo := yo) (x := .string a) (y := .string b) (by simp) (by simp) w, Result.andThen_ok]
    exact strOp_sound e w
  · cases e
  · cases e
  · rename_i n1 n2 n3 n4
    have e' : otherOp T op t (isConst xo || isConst yo) x y = some v := by
      split at e <;> first | cases e | exact e
    have q1 : ∀ k n, x' ≠ .int k n := by rintro k n rfl; cases hx; exact n1 _ _ rfl
    have q2 : ∀ k n, x' ≠ .float k n := by rintro k n rfl; cases hx; exact n3 _ _ rfl
    have q3 : ∀ k a b, x' ≠ .complex k a b := by rintro k a b rfl; cases hx; exact n4 _ _ _ rfl
    have q4 : ∀ s, x' ≠ .string s := by rintro s rfl; cases hx; exact n2 _ rfl
    unfold otherOp at e'
    split at e'
    · cases hb : eqAny T t (isConst xo || isConst yo) x y with
      | none => rw [hb] at e'; cases e'
      | some b =>
        rw [hb] at e'; cases e'
        obtain ⟨g1, g2⟩ := eqAny_sound (P := P) (op := .eql) ok hb hx hy w
        refine ⟨.bool b, ?_, .bool b⟩
        simp only [Sem.run_bind, g1, Result.andThen_ok, binOp_eql q1 q2 q3 q4, g2, Sem.run_pure]
    · cases hb : eqAny T t (isConst xo || isConst yo) x y with
      | none => rw [hb] at e'; cases e'
      | some b =>
        rw [hb] at e'; cases e'
        obtain ⟨g1, g2⟩ := eqAny_sound (P := P) (op := .neq) ok hb hx hy w
        refine ⟨.bool !b, ?_, .bool _⟩
        simp only [Sem.run_bind, g1, Result.andThen_ok, binOp_neq q1 q2 q3 q4, g2, Sem.run_pure]
    · cases e'

theorem aun_sound {op : UnOp} {x x' v : Value} (e : aun op x = some v) (hx : VR m x x') (w : World) : (Op.unary op x').run P w = .ok v w ∧ VR m v v := by
  unfold aun at e
  split at e
  · cases hx; cases e; exact ⟨by simp [Op.unary, Op.intArith], .int _ _⟩
  · cases hx; cases e; exact ⟨by simp [Op.unary, Op.intBits], .int _ _⟩
  · cases hx; cases e; exact ⟨by simp [Op.unary], .bool _⟩
  · cases e

/-! ### Aggregates -/
theorem vcells_agg (c : List Value) : vcells (.agg c.toArray) = c := by simp [vcells]

theorem fill_fold : ∀ (vs : List Value) (j off : Nat) (c : Array Value), (vs.zipIdx j).foldl (fun cs (p : Value × Nat) => cs.setIfInBounds (off + p.2) p.1) c = (setAt c.toList (off + j) vs).toArray
  | [], j, off, c => by simp [setAt]
  | v :: vs, j, off, c => by
    simp only [List.zipIdx_cons, List.foldl_cons, setAt]
    rw [fill_fold vs (j + 1) off]
    simp [Nat.add_assoc]

theorem fillL_sound {place place' : Nat → Option (Nat × Nat)} (hp : ∀ i p, place i = some p → place' i = some p) : ∀ (parts : List (Nat × Value)) (parts' : List (Nat × Value)) (c r : List Value) (c' : Array Value),
    fillL place c parts = some r → VRL m c c'.toList → VRL m (parts.map (·.2)) (parts'.map (·.2)) → parts.map (·.1) = parts'.map (·.1) → ∃ r', Instr.fill place' c' parts' = some r' ∧ VRL m r r'.toList
  | [], [], c, r, c', e, hc, _, _ => by simp only [fillL, Option.some.injEq] at e; subst e; exact ⟨c', rfl, hc⟩
  | [], _ :: _, _, _, _, _, _, hv, _ => by simp at hv; cases hv
  | _ :: _, [], _, _, _, _, _, hv, _ => by simp at hv; cases hv
  | (i, v) :: parts, (i', v') :: parts', c, r, c', e, hc, hv, hi => by
    simp only [List.map_cons, List.cons.injEq] at hi hv
    obtain ⟨rfl, hi⟩ := hi
    cases hv with
    | cons hv hvs =>
      simp only [fillL] at e
      split at e
      case h_1 => cases e
      rename_i off size hpl
      split at e
      case isFalse => cases e
      rename_i hcond
      simp only [Bool.and_eq_true, Nat.ble_eq] at hcond
      have h1 := Nat.eq_of_beq_eq_true hcond.1
      have hl := hv.vcells.length
      have hl2 := hc.length
      simp at hl hl2
      have hs : ¬ ((v'.cells.size ≠ size) ∨ off + v'.cells.size > c'.size) := by omega
      simp only [Instr.fill, hp _ _ hpl]
      have hb : (v'.cells.size ≠ size || off + v'.cells.size > c'.size) = false := by simp; omega
      rw [if_neg (by rw [hb]; simp)]
      have hf : (v'.cells.zipIdx.foldl (fun cs (p : Value × Nat) => cs.setIfInBounds (off + p.2) p.1) c') = (setAt c'.toList off v'.cells.toList).toArray := by
        rw [← Array.foldl_toList, Array.toList_zipIdx]
        exact fill_fold v'.cells.toList 0 off c'
      refine fillL_sound hp parts parts' _ r _ e ?_ hvs hi
      rw [hf]
      simpa using hc.setAt off hv.vcells
end
end Go.AM
namespace Go.AM
section
variable {P : Program} {T : Tbl} {K : Kp} {w0 : World} {m : M} {h : AH} {w : World}

/-- A new row of cells, on both sides. -/
theorem Rel.newCells (r : Rel K w0 m h w) (hr : h.room = true) {c c' : List Value} {extra : List Value} (hv : VRL m c c') (sz : Nat) (t : TypeId) :
    ∃ m' k, m.le m' ∧ Rel K w0 m' (h.new (.cells c sz)) (w.alloc (.cells (c' ++ extra).toArray t)) ∧ m' h.nx = some k ∧ k.b = w.heap.size ∧ k.sh = 0 ∧ k.n = c.length ∧ k.sz = sz ∧ k.cn = c.length + extra.length := by
  let k : Blk := { b := w.heap.size, sh := 0, n := c.length, cn := c.length + extra.length, sz := sz }
  have hl := hv.length
  have hle : m.le (fun i => if i = h.nx then some k else m i) := fun i k' e => by
    have := r.dom i k' e
    simp only; rw [if_neg (by omega)]; exact e
  have := r.alloc hr k rfl (.cells c sz) (.cells (c' ++ extra).toArray t) (.cells ⟨rfl, by simp [k]; omega, rfl, by simp [k], fun i v hi => by
    obtain ⟨v', h1, h2⟩ := hv.get i hi
    refine ⟨v', ?_, h2.mono hle⟩
    have hlt : i < c'.length := (List.getElem?_eq_some_iff.1 h1).1
    simp only [k, Nat.zero_add]
    rw [List.getElem?_toArray, List.getElem?_append_left hlt]; exact h1, fun i _ => by simp⟩)
  exact ⟨_, k, this.2, this.1, by simp, rfl, rfl, rfl, rfl, rfl⟩

/-- The same, with a frozen stretch behind the cells. -/
theorem Rel.newCellsF (r : Rel K w0 m h w) (hr : h.room = true) {c c' : List Value} {row : Array Value} {extra : List Value} (hv : VRL m c c') (hrow : row.toList = c' ++ extra) (sz : Nat) (t : TypeId) (fz : Nat × Nat) (hf : ∀ i, i < row.size → ¬ (fz.1 ≤ i ∧ i < fz.2)) :
    ∃ m' k, m.le m' ∧ Rel K w0 m' (h.new (.cells c sz)) (w.alloc (.cells row t fz)) ∧ m' h.nx = some k ∧ k.b = w.heap.size ∧ k.sh = 0 ∧ k.n = c.length ∧ k.sz = sz ∧ k.cn = row.size := by
  let k : Blk := { b := w.heap.size, sh := 0, n := c.length, cn := row.size, sz := sz }
  have hl := hv.length
  have hs : row.size = c'.length + extra.length := by rw [← Array.length_toList, hrow]; simp
  have hle : m.le (fun i => if i = h.nx then some k else m i) := fun i k' e => by
    have := r.dom i k' e
    simp only; rw [if_neg (by omega)]; exact e
  have := r.alloc hr k rfl (.cells c sz) (.cells row t fz) (.cells ⟨rfl, rfl, rfl, by simp [k]; omega, fun i v hi => by
    obtain ⟨v', h1, h2⟩ := hv.get i hi
    refine ⟨v', ?_, h2.mono hle⟩
    have hlt : i < c'.length := (List.getElem?_eq_some_iff.1 h1).1
    simp only [k, Nat.zero_add]
    rw [← Array.getElem?_toList, hrow, List.getElem?_append_left hlt]; exact h1, fun i hi => hf i hi⟩)
  exact ⟨_, k, this.2, this.1, by simp, rfl, rfl, rfl, rfl, rfl⟩

theorem VR.newPtr {m' : M} {i : Nat} {k : Blk} (h : m' i = some k) (hs : k.sh = 0) {b : Nat} (hb : k.b = b) : VR m' (.pointer (some ⟨i, 0, none⟩)) (.pointer (some ⟨b, 0, none⟩)) := by
  have := VR.ptr (m := m') 0 h
  rw [hs, hb] at this; exact this

theorem newVar_sound (r : Rel K w0 m h w) {x : Value} {h' : AH} {c : List Value} {v' : Value} (e : newCells h c 0 = some (x, h')) (hv : VRL m c v'.cells.toList) (t : TypeId) :
    ∃ a w' m', (newVar t v').run P w = .ok a w' ∧ m.le m' ∧ Rel K w0 m' h' w' ∧ VR m' x (.pointer (some a)) := by
  unfold newCells at e
  split at e
  case isFalse => cases e
  rename_i hr
  cases e
  obtain ⟨m', k, h1, h2, h3, h4, h5, _⟩ := r.newCells hr (extra := []) hv 0 t
  refine ⟨⟨w.heap.size, 0, none⟩, w.alloc (.cells v'.cells t), m', rfl, h1, ?_, VR.newPtr h3 h5 h4⟩
  simpa using h2

theorem run_mapM_list {α β : Type} (f : α → Sem β) (g : α → β) (w : World) : ∀ (l : List α), (∀ x ∈ l, (f x).run P w = .ok (g x) w) → (l.mapM f).run P w = .ok (l.map g) w
  | [], _ => by simp
  | x :: l, hf => by
    rw [List.mapM_cons]
    simp only [Sem.run_bind, hf x (by simp), Result.andThen_ok, run_mapM_list f g w l (fun y hy => hf y (by simp [hy])), Sem.run_pure, List.map_cons]
theorem run_mapM_array {α β : Type} (f : α → Sem β) (g : α → β) (w : World) (l : Array α) (hf : ∀ x ∈ l.toList, (f x).run P w = .ok (g x) w) : (l.mapM f).run P w = .ok (l.map g) w := by
  rw [Array.mapM_eq_mapM_toList]
  simp only [Sem.run_map, run_mapM_list f g w l.toList hf, Result.andThen_ok]
  congr 1
  apply Array.toList_inj.1
  simp

theorem abuild_sound (ok : TOk T P) {t : Nat} {parts : List (Nat × Value)} {parts' : Array (Nat × Value)} {v : Value} (e : abuild T t parts = some v) (hv : VRL m (parts.map (·.2)) (parts'.toList.map (·.2))) (hi : parts.map (·.1) = parts'.toList.map (·.1)) (w : World) :
    ∃ v', (Instr.build t parts').run P w = .ok v' w ∧ VR m v v' := by
  unfold abuild at e
  split at e
  case h_1 => cases e
  rename_i i ht
  have ta := ok.at ht
  have hz : VRL m (vcells i.zero) i.zero.cells.toList := (VR.of_plain m ta.plain).vcells
  simp only [Instr.build, Sem.run_bind, ta.zero, Result.andThen_ok, ta.und]
  split at e
  · rename_i fields hd
    simp only [hd]
    split at e
    case isTrue => cases e
    rename_i hso
    have hso : ∀ f ∈ fields.toList, ∃ fi, T.ty f.type = some fi := by
      intro f hf
      have : structOk T fields.toList = true := by simpa using hso
      exact Option.isSome_iff_exists.1 (List.all_eq_true.1 this f hf)
    cases hf : fillL (fun k => (fields[k]?).bind fun f => (T.ty f.type).map fun fi => (f.offset, fi.size)) (vcells i.zero) parts with
    | none => rw [hf] at e; cases e
    | some c =>
      rw [hf] at e; simp at e; subst e
      have hg : ∀ f ∈ fields.toList, (do pure (f.offset, ← sizeOf f.type) : Sem (Nat × Nat)).run P w = .ok (f.offset, ((T.ty f.type).map (·.size)).getD 0) w := fun f hf => by
        obtain ⟨fi, hfi⟩ := hso f hf
        simp only [Sem.run_bind, (ok.at hfi).size, Result.andThen_ok, Sem.run_pure, hfi, Option.map_some, Option.getD_some]
      obtain ⟨r', g1, g2⟩ := fillL_sound (place' := fun i => (fields.map fun f => (f.offset, ((T.ty f.type).map (·.size)).getD 0))[i]?) (fun i p hp => by
        simp only [Array.getElem?_map]
        cases hfi : fields[i]? with
        | none => rw [hfi] at hp; cases hp
        | some f =>
          rw [hfi] at hp
          simp only [Option.bind_some] at hp
          cases hti : T.ty f.type with
          | none => rw [hti] at hp; cases hp
          | some fi => rw [hti] at hp; simpa [hti] using hp) _ _ _ _ _ hf hz hv hi
      refine ⟨.agg r', ?_, .agg (by simpa using g2)⟩
      simp only [Sem.run_bind]
      rw [run_mapM_array _ _ w fields hg]
      simp only [Result.andThen_ok]
      rw [g1]; rfl
  · rename_i n el hd
    simp only [hd]
    cases he : T.ty el with
    | none => rw [he] at e; cases e
    | some ei =>
      have te := ok.at he
      rw [he] at e
      simp only [Option.bind_some] at e
      cases hf : fillL (fun k => some (k * ei.size, ei.size)) (vcells i.zero) parts with
      | none => rw [hf] at e; cases e
      | some c =>
        rw [hf] at e; simp at e; subst e
        obtain ⟨r', g1, g2⟩ := fillL_sound (place' := fun i => some (i * ei.size, ei.size)) (fun _ _ h => h) _ _ _ _ _ hf hz hv hi
        refine ⟨.agg r', ?_, .agg (by simpa using g2)⟩
        simp only [Sem.run_bind, te.size, Result.andThen_ok, g1, Sem.run_pure]
  · cases e
end
end Go.AM
namespace Go.AM
section
variable {P : Program} {T : Tbl} {K : Kp} {w0 : World} {m : M} {h : AH} {w : World}

theorem zerosL_length (z : List Value) : ∀ n, (zerosL z n).length = n * z.length
  | 0 => by simp [zerosL]
  | n + 1 => by simp [zerosL, zerosL_length z n, Nat.succ_mul, Nat.add_comm]
theorem zerosL_get (z : List Value) (hz : 0 < z.length) : ∀ (n i : Nat), i < n * z.length → (zerosL z n)[i]? = z[i % z.length]?
  | 0, i, h => by simp at h
  | n + 1, i, h => by
    rw [zerosL]
    by_cases hi : i < z.length
    · rw [List.getElem?_append_left hi, Nat.mod_eq_of_lt hi]
    · rw [List.getElem?_append_right (by omega), zerosL_get z hz n (i - z.length) (by rw [Nat.succ_mul] at h; omega)]
      rw [Nat.mod_eq_sub_mod (by omega : i ≥ z.length)]
theorem zeros_range (z : Array Value) (hz : 0 < z.size) (n : Nat) : (Array.range (n * z.size)).map (z[· % z.size]!) = (zerosL z.toList n).toArray := by
  apply Array.toList_inj.1
  apply List.ext_getElem?
  intro i
  simp only [Array.toList_map, Array.toList_range, List.getElem?_map]
  by_cases hi : i < n * z.size
  · rw [List.getElem?_range hi, zerosL_get _ (by simpa using hz) _ _ (by simpa using hi)]
    have : i % z.size < z.size := Nat.mod_lt _ hz
    simp [getElem!_pos, this]
  · rw [List.getElem?_eq_none (by simp; omega), List.getElem?_eq_none (by rw [zerosL_length]; simp; omega)]; rfl

theorem VR.newSl {m' : M} {i : Nat} {k : Blk} (h : m' i = some k) (hs : k.sh = 0) {b : Nat} (hb : k.b = b) (l c : Nat) : VR m' (.slice (some ⟨i, 0, none⟩) l c) (.slice (some ⟨b, 0, none⟩) l c) := by
  rw [← hb]
  exact .sl h (.inl ⟨by omega, .inl rfl⟩)

theorem cells_size_zero {i : TI} (h : Nat.beq (vcells i.zero).length i.size = true) : i.zero.cells.size = i.size := by
  have := Nat.eq_of_beq_eq_true h
  rw [← this]
  cases i.zero <;> simp [vcells, Value.cells]

theorem abuildSlice_sound (ok : TOk T P) (r : Rel K w0 m h w) {t len : Nat} {parts : List (Nat × Value)} {parts' : Array (Nat × Value)} {x : Value} {h' : AH} (e : abuildSlice T t len parts h = some (x, h'))
    (hv : VRL m (parts.map (·.2)) (parts'.toList.map (·.2))) (hi : parts.map (·.1) = parts'.toList.map (·.1)) :
    ∃ x' w' m', (Instr.buildSlice t len parts').run P w = .ok x' w' ∧ m.le m' ∧ Rel K w0 m' h' w' ∧ VR m' x x' := by
  unfold abuildSlice at e
  split at e
  case h_2 => cases e
  rename_i el ht
  obtain ⟨i, ht, hd⟩ := desc_of ht
  have ta := ok.at ht
  split at e
  case h_2 => cases e
  rename_i ei he
  have te := ok.at he
  split at e
  case isFalse => cases e
  rename_i hc
  simp only [Bool.and_eq_true, Nat.ble_eq, Nat.blt_eq] at hc
  obtain ⟨⟨⟨h1, h2⟩, h3⟩, h4⟩ := hc
  have h3 := cells_size_zero h3
  cases hf : fillL (fun k => some (k * ei.size, ei.size)) (zerosL (vcells ei.zero) len) parts with
  | none => rw [hf] at e; cases e
  | some c =>
    rw [hf] at e; simp at e; obtain ⟨rfl, rfl⟩ := e
    have hz : VRL m (zerosL (vcells ei.zero) len) (zerosL ei.zero.cells.toList len) := VRL.zeros len ((VR.of_plain m te.plain).vcells)
    have hz' : VRL m (zerosL (vcells ei.zero) len) (zerosL ei.zero.cells.toList len).toArray.toList := by simpa using hz
    obtain ⟨r', g1, g2⟩ := fillL_sound (place' := fun i => some (i * ei.size, ei.size)) (fun _ _ h => h) _ _ _ _ _ hf hz' hv hi
    obtain ⟨m', k, a1, a2, a3, a4, a5, _⟩ := r.newCells h4 (extra := []) g2 ei.size el
    refine ⟨_, _, m', ?_, a1, a2, VR.newSl a3 a5 a4 len len⟩
    simp only [Instr.buildSlice, Sem.run_bind, ta.und, Result.andThen_ok, hd, te.size]
    rw [if_neg (by omega)]
    by_cases h0 : len * ei.size = 0
    · have hl : len = 0 := by rcases Nat.mul_eq_zero.1 h0 with h | h <;> omega
      subst hl
      simp only [zerosL] at g1
      rw [show ([] : List Value).toArray = #[] from rfl] at g1
      have hr : (Array.map (fun (x : Nat) => (#[] : Array Value)[x % (#[] : Array Value).size]!) (Array.range (0 * ei.size))) = #[] := by simp
      simp only [Nat.zero_mul, if_true, Sem.run_pure, Sem.run_bind, Result.andThen_ok]
      simp only [Nat.zero_mul] at hr
      rw [hr, g1]
      simp [newRow]
    · rw [if_neg h0]
      simp only [Sem.run_pure, Sem.run_bind, Result.andThen_ok, te.zero]
      have hr := zeros_range ei.zero.cells (by omega) len
      rw [h3] at hr
      rw [show (Array.map (fun (x : Nat) => ei.zero.cells[x % ei.zero.cells.size]!) (Array.range (len * ei.size))) = (zerosL ei.zero.cells.toList len).toArray by rw [h3]; exact hr]
      rw [g1]
      simp [newRow]

theorem wrap_i64_small {n : Int} (h0 : 0 ≤ n) (h1 : n < 9223372036854775808) : IntKind.i64.wrap n = n := by rw [IntKind.wrap_i64]; omega

theorem amakeSlice_sound (ok : TOk T P) (r : Rel K w0 m h w) {t : Nat} {l c l' c' x : Value} {h' : AH} (e : amakeSlice T t l c h = some (x, h')) (hl : VR m l l') (hc : VR m c c') :
    ∃ x' w' m', (Instr.makeSlice t l' c').run P w = .ok x' w' ∧ m.le m' ∧ Rel K w0 m' h' w' ∧ VR m' x x' := by
  unfold amakeSlice at e
  split at e
  case h_2 => cases e
  rename_i el l c ht
  obtain ⟨i, ht, hd⟩ := desc_of ht
  have ta := ok.at ht
  split at e
  case h_2 => cases e
  rename_i ei he
  have te := ok.at he
  split at e
  case isFalse => cases e
  rename_i hcond
  simp only [Bool.and_eq_true, Nat.blt_eq, decide_eq_true_eq] at hcond
  obtain ⟨⟨⟨⟨⟨⟨h0, h1⟩, h2⟩, h3⟩, h4⟩, h5⟩, h6⟩ := hcond
  have h5 := cells_size_zero h5
  cases e
  cases hl; cases hc
  obtain ⟨inf, i1, i2, i3⟩ := te.bytes w
  have hz : VRL m (zerosL (vcells ei.zero) c.toNat) (zerosL ei.zero.cells.toList c.toNat) := VRL.zeros _ ((VR.of_plain m te.plain).vcells)
  obtain ⟨m', k, a1, a2, a3, a4, a5, _⟩ := r.newCells h6 (extra := []) hz ei.size el
  refine ⟨_, _, m', ?_, a1, a2, VR.newSl a3 a5 a4 l.toNat c.toNat⟩
  have hbig : ¬ ((ei.bytes : Int) * c > 2 ^ 48) := by
    have : (2 : Int) ^ 48 = 281474976710656 := by decide
    omega
  have w1 : IntKind.i64.wrap l = l := wrap_i64_small h0 (by omega)
  have w2 : IntKind.i64.wrap c = c := wrap_i64_small (by omega) (by omega)
  simp only [Instr.makeSlice, Sem.run_bind, ta.und, Result.andThen_ok, hd, asInt, asIntOf, Sem.run_pure, i1, w1, w2, i2]
  have hcnd : ((decide (c < 0) || decide ((ei.bytes : Int) * c > 2 ^ 48)) || decide (l < 0) || decide (l > c)) = false := by
    simp only [Bool.or_eq_false_iff, decide_eq_false_iff_not]
    exact ⟨⟨⟨by omega, hbig⟩, by omega⟩, by omega⟩
  rw [hcnd]
  simp only [Bool.false_eq_true, if_false, run_askRoom, Result.andThen_ok, Sem.run_bind, te.size]
  by_cases h0 : c.toNat * ei.size = 0
  · have hl : c.toNat = 0 := by rcases Nat.mul_eq_zero.1 h0 with h | h <;> omega
    rw [if_pos h0, h0, hl]
    simp [newRow, zerosL]
    rw [show Array.range 0 = #[] from Array.size_eq_zero_iff.1 (by simp)]; simp
  · rw [if_neg h0]
    simp only [Sem.run_pure, Sem.run_bind, Result.andThen_ok, te.zero]
    have hr := zeros_range ei.zero.cells (by omega) c.toNat
    rw [h5] at hr
    rw [show (Array.map (fun (x : Nat) => ei.zero.cells[x % ei.zero.cells.size]!) (Array.range (c.toNat * ei.size))) = (zerosL ei.zero.cells.toList c.toNat).toArray by rw [h5]; exact hr]
    simp [newRow]

def bnd (code : BoundsCode) (y d : Nat) : Option Value → Sem Nat
  | some v => Instr.sliceBound v y code
  | none => pure d
theorem bound_sound {x x' : Option Value} {d y y' n : Nat} {code : BoundsCode} (e : bound x d y = some n) (hx : (x = none ∧ x' = none) ∨ ∃ v v', x = some v ∧ x' = some v' ∧ VR m v v') (hy : y ≤ y') (w : World) :
    (bnd code y' d x').run P w = .ok n w ∧ (x = none → n = d) ∧ (x ≠ none → n ≤ y) := by
  rcases hx with ⟨rfl, rfl⟩ | ⟨v, v', rfl, rfl, hv⟩
  · simp only [bound, Option.some.injEq] at e; subst e; exact ⟨rfl, fun _ => rfl, fun h => absurd rfl h⟩
  · unfold bound at e
    split at e
    · rename_i h; cases h
    · rename_i h; cases h
      split at e
      case isFalse => cases e
      rename_i hc
      simp only [Bool.and_eq_true, decide_eq_true_eq] at hc
      cases e; cases hv
      refine ⟨?_, fun h => (by cases h), fun _ => by omega⟩
      simp only [bnd, Instr.sliceBound, Sem.run_bind, asIntOf, Sem.run_pure, Result.andThen_ok]
      rw [if_pos (by omega)]; rfl
    · cases e

theorem bounds_sound {isSlice : Bool} {lo hi lo' hi' : Option Value} {len cap cap' l hh : Nat} (e1 : bound hi len cap = some hh) (e2 : bound lo 0 hh = some l) (hlo : (lo = none ∧ lo' = none) ∨ ∃ v v', lo = some v ∧ lo' = some v' ∧ VR m v v')
    (hhi : (hi = none ∧ hi' = none) ∨ ∃ v v', hi = some v ∧ hi' = some v' ∧ VR m v v') (hy : cap ≤ cap') (w : World) :
    (Instr.sliceBounds isSlice len cap' lo' hi' none).run P w = .ok (l, hh, cap') w ∧ (hi = none → hh = len) ∧ (hi ≠ none → hh ≤ cap) ∧ l ≤ hh := by
  obtain ⟨a1, a2, a3⟩ := bound_sound (P := P) (code := if isSlice then .sliceAcap else .sliceAlen) e1 hhi hy w
  obtain ⟨b1, b2, b3⟩ := bound_sound (P := P) (code := .sliceB) e2 hlo (Nat.le_refl hh) w
  refine ⟨?_, a2, a3, ?_⟩
  · simp only [Instr.sliceBounds, Sem.run_bind, Sem.run_pure, Result.andThen_ok]
    clear hhi hlo
    cases hi' <;> cases lo' <;> simp only [bnd] at a1 b1 <;> simp [a1, b1] <;> simp_all
  · by_cases h : lo = none
    · rw [b2 h]; omega
    · exact b3 h

theorem optMap {ρ : Operand → Value} {ρ' : Operand → Value} {x : Option Operand} (h : ∀ o ∈ x, VR m (ρ o) (ρ' o)) : (x.map ρ = none ∧ x.map ρ' = none) ∨ ∃ v v', x.map ρ = some v ∧ x.map ρ' = some v' ∧ VR m v v' := by
  cases x with
  | none => exact .inl ⟨rfl, rfl⟩
  | some o => exact .inr ⟨_, _, rfl, rfl, h o rfl⟩

theorem addOff_eq (b o n : Nat) : addOff ⟨b, o, none⟩ n = ⟨b, o + n, none⟩ := rfl

theorem aslice_sound (ok : TOk T P) (r : Rel K w0 m h w) {t : Nat} {x x' v : Value} {lo hi mx lo' hi' mx' : Option Value} (e : aslice T t x lo hi mx h = some v) (hx : VR m x x')
    (hlo : (lo = none ∧ lo' = none) ∨ ∃ v v', lo = some v ∧ lo' = some v' ∧ VR m v v') (hhi : (hi = none ∧ hi' = none) ∨ ∃ v v', hi = some v ∧ hi' = some v' ∧ VR m v v')
    (hmx : (mx = none ∧ mx' = none) ∨ ∃ v v', mx = some v ∧ mx' = some v' ∧ VR m v v') :
    ∃ v', (Instr.sliceAt t x' lo' hi' mx').run P w = .ok v' w ∧ VR m v v' := by
  unfold aslice at e
  split at e
  case h_1 => cases e
  obtain ⟨-, rfl⟩ : (none : Option Value) = none ∧ mx' = none := by
    rcases hmx with h | ⟨v, v', h1, h2, _⟩
    · exact h
    · cases h1
  split at e
  · rename_i s ht
    obtain ⟨i, ht, hd⟩ := desc_of ht
    have ta := ok.at ht
    cases hx
    cases e1 : bound hi s.size s.size with
    | none => rw [e1] at e; cases e
    | some hh =>
      rw [e1] at e; simp only [Option.bind_some] at e
      cases e2 : bound lo 0 hh with
      | none => rw [e2] at e; cases e
      | some l =>
        rw [e2] at e; cases e
        obtain ⟨b1, b2, b3, b4⟩ := bounds_sound (P := P) (isSlice := false) e1 e2 hlo hhi (Nat.le_refl _) w
        refine ⟨.string (s.extract l hh), ?_, .string _⟩
        simp only [Instr.sliceAt, Sem.run_bind, ta.und, Result.andThen_ok, hd, Instr.slice, Option.isSome_none, Bool.false_eq_true, if_false, Sem.run_pure, b1]
  · rename_i el a len cap ht
    obtain ⟨i, ht, hd⟩ := desc_of ht
    have ta := ok.at ht
    cases he : T.ty el with
    | none => rw [he] at e; cases e
    | some ei =>
      have te := ok.at he
      rw [he] at e; simp only [Option.bind_some] at e
      cases e1 : bound hi len cap with
      | none => rw [e1] at e; cases e
      | some hh =>
        rw [e1] at e; simp only [Option.bind_some] at e
        cases e2 : bound lo 0 hh with
        | none => rw [e2] at e; cases e
        | some l =>
          rw [e2] at e; simp only [Option.bind_some] at e
          split at e
          case isTrue => cases e
          rename_i hle
          have hle : hh ≤ cap := by simpa using hle
          have main : ∀ (a' : Option Addr) (c' : Nat), x' = .slice a' len c' → cap ≤ c' → (Instr.sliceAt t x' lo' hi' none).run P w = .ok (.slice (if c' = l then a' else a'.map (·.add (l * ei.size))) (hh - l) (c' - l)) w ∧ (hi = none → hh = len) ∧ (hi ≠ none → hh ≤ cap) ∧ l ≤ hh := by
            intro a' c' hx' hc
            subst hx'
            obtain ⟨b1, b2, b3, b4⟩ := bounds_sound (P := P) (isSlice := true) e1 e2 hlo hhi hc w
            refine ⟨?_, b2, b3, b4⟩
            simp only [Instr.sliceAt, Sem.run_bind, ta.und, Result.andThen_ok, hd, Instr.slice, Sem.run_pure, b1, te.size]
          cases hx with
          | nilsl =>
            obtain ⟨g1, g2, g3, g4⟩ := main none 0 rfl (Nat.le_refl _)
            refine ⟨_, g1, ?_⟩
            have hh0 : hh = 0 := by omega
            have hl0 : l = 0 := by omega
            subst hh0; subst hl0
            simp at e; subst e
            simpa using VR.nilsl
          | sl hm hs =>
            rename_i i1 k o o' c'
            have hcc : cap ≤ c' := by
              rcases hs with ⟨_, h | ⟨h, _⟩⟩ | ⟨_, h, _⟩ | ⟨_, h, _⟩ <;> omega
            obtain ⟨g1, g2, g3, g4⟩ := main (some ⟨k.b, o', none⟩) c' rfl hcc
            refine ⟨_, g1, ?_⟩
            by_cases hl : l = 0
            · subst hl
              rw [show Nat.beq 0 0 = true from rfl] at e
              simp only [if_true, Option.some.injEq] at e; subst e
              have ha : (if c' = 0 then some (⟨k.b, o', none⟩ : Addr) else (some (⟨k.b, o', none⟩ : Addr)).map (·.add (0 * ei.size))) = some ⟨k.b, o', none⟩ := by
                split
                · rfl
                · simp [Addr.add_eq]
              rw [ha]
              simp only [Nat.sub_zero]
              refine .sl hm ?_
              rcases hs with hs | ⟨h1, h2, h3⟩ | ⟨h1, h2, h3⟩
              · exact .inl hs
              · exact .inr (.inl ⟨by omega, h2, h3⟩)
              · exact .inr (.inr ⟨by omega, h2, h3⟩)
            · rw [nbeq hl] at e
              simp only [Bool.false_eq_true, if_false] at e
              split at e
              case isFalse => cases e
              rename_i hso
              cases e
              simp only [sliceOk] at hso
              split at hso
              case h_2 => cases hso
              rename_i cc sz hg
              obtain ⟨k', cc', t', fz, q1, q2, q3, q4⟩ := r.cells hg
              simp only [hm, Option.some.injEq] at q1; subst q1
              have hsz : k.sz = ei.size ∨ k.sz = 0 := by
                rw [q4.hsz]
                simp only [Bool.or_eq_true] at hso
                rcases hso with h | h
                · exact .inl (Nat.eq_of_beq_eq_true h)
                · exact .inr (Nat.eq_of_beq_eq_true h)
              rcases hs with ⟨s1, s2⟩ | ⟨_, h, _⟩ | ⟨_, h, _⟩
              · rcases s2 with s2 | ⟨s2, s3, s4, s5⟩
                · subst s2
                  have := VR.sl (m := m) (o := if c' = l then o else o + l * ei.size) (o' := (if c' = l then o else o + l * ei.size) + k.sh) (l := hh - l) (c := c' - l) (c' := c' - l) hm (.inl ⟨rfl, .inl rfl⟩)
                  subst s1
                  by_cases h1 : c' = l
                  · simpa [h1] using this
                  · simp only [if_neg h1, Option.map_some, Addr.add_eq, addOff_eq] at this ⊢
                    rw [show o + k.sh + l * ei.size = o + l * ei.size + k.sh by omega]; exact this
                · have hsz : k.sz = ei.size := by omega
                  have hmul : cap * ei.size = l * ei.size + (cap - l) * ei.size := by rw [← Nat.add_mul]; congr 1; omega
                  have hmul' : c' * ei.size = l * ei.size + (c' - l) * ei.size := by rw [← Nat.add_mul]; congr 1; omega
                  rw [hsz] at s4 s5
                  rw [if_neg (by omega : ¬ c' = l)]
                  simp only [Option.map_some, Addr.add_eq]
                  by_cases h1 : cap = l
                  · rw [if_pos h1]
                    refine .sl hm (.inr (.inr ⟨by omega, by omega, s3, ?_, ?_⟩))
                    · subst h1; omega
                    · rw [hsz]; omega
                  · rw [if_neg h1]
                    simp only [Option.map_some, addOff_eq]
                    refine .sl hm (.inl ⟨by omega, .inr ⟨by omega, s3, ?_, ?_⟩⟩)
                    · rw [hsz]; omega
                    · rw [hsz]; omega
              · omega
              · omega
  · rename_i n el a ht
    obtain ⟨i, ht, hd⟩ := desc_of ht
    have ta := ok.at ht
    cases hx with
    | ptr o hm =>
      rename_i i1 k
      cases he : T.ty el with
      | none => rw [he] at e; cases e
      | some ei =>
        have te := ok.at he
        rw [he] at e; simp only [Option.bind_some] at e
        cases e1 : bound hi n n with
        | none => rw [e1] at e; cases e
        | some hh =>
          rw [e1] at e; simp only [Option.bind_some] at e
          cases e2 : bound lo 0 hh with
          | none => rw [e2] at e; cases e
          | some l =>
            rw [e2] at e; simp only [Option.map_some, Option.some.injEq] at e; subst e
            obtain ⟨b1, b2, b3, b4⟩ := bounds_sound (P := P) (isSlice := false) e1 e2 hlo hhi (Nat.le_refl _) w
            refine ⟨.slice (some (if n = l then ⟨k.b, o + k.sh, none⟩ else (⟨k.b, o + k.sh, none⟩ : Addr).add (l * ei.size))) (hh - l) (n - l), ?_, ?_⟩
            · simp only [Instr.sliceAt, Sem.run_bind, ta.und, Result.andThen_ok, hd, Instr.sureAddr, Sem.run_pure, b1, te.size]
            · by_cases h1 : n = l
              · rw [if_pos h1, if_pos h1]
                exact .sl hm (.inl ⟨rfl, .inl rfl⟩)
              · rw [if_neg h1, if_neg h1, Addr.add_eq, addOff_eq]
                exact .sl hm (.inl ⟨by omega, .inl rfl⟩)
  · cases e
end
end Go.AM
namespace Go.AM
section
variable {P : Program} {T : Tbl} {K : Kp} {w0 : World} {m : M} {h : AH} {w : World}

theorem afieldAddr_sound (ok : TOk T P) {t k : Nat} {x x' v : Value} (e : afieldAddr T t x k = some v) (hx : VR m x x') (w : World) :
    ∃ v', (Instr.fieldAt t x' k).run P w = .ok v' w ∧ VR m v v' := by
  unfold afieldAddr at e
  split at e
  case h_2 => cases e
  rename_i fields b off ht
  obtain ⟨i, ht, hd⟩ := desc_of ht
  have ta := ok.at ht
  cases hf : fields[k]? with
  | none => rw [hf] at e; cases e
  | some f =>
    rw [hf] at e; simp only [Option.bind_some] at e
    cases he : T.ty f.type with
    | none => rw [he] at e; cases e
    | some fi =>
      have te := ok.at he
      rw [he] at e; simp only [Option.bind_some] at e
      split at e
      case isTrue => cases e
      rename_i hs
      have hs : ¬ fi.size = 0 := fun h => hs (by rw [h]; rfl)
      cases e
      cases hx with
      | ptr o hm =>
        rename_i k'
        refine ⟨.pointer (some ⟨k'.b, off + f.offset + k'.sh, none⟩), ?_, .ptr _ hm⟩
        simp only [Instr.fieldAt, Sem.run_bind, ta.und, Result.andThen_ok, hd, hf, Instr.sureAddr, Sem.run_pure, fieldPlace, te.size, hs, if_false, Addr.add_eq]
        rw [show off + k'.sh + f.offset = off + f.offset + k'.sh by omega]

theorem afield_sound (ok : TOk T P) {t k : Nat} {x x' v : Value} (e : afield T t x k = some v) (hx : VR m x x') (w : World) :
    ∃ v', (Instr.field t x' k).run P w = .ok v' w ∧ VR m v v' := by
  unfold afield at e
  split at e
  case h_2 => cases e
  rename_i fields cs ht
  obtain ⟨i, ht, hd⟩ := desc_of ht
  have ta := ok.at ht
  cases hf : fields[k]? with
  | none => rw [hf] at e; cases e
  | some f =>
    rw [hf] at e; simp only [Option.bind_some] at e
    cases hx with
    | agg hc =>
      obtain ⟨v', g1, g2⟩ := apart_sound ok e hc w
      refine ⟨v', ?_, g2⟩
      simp only [Instr.field, Sem.run_bind, ta.und, Result.andThen_ok, hd, hf, asAgg, Sem.run_pure, g1]

theorem aindexAddr_sound (ok : TOk T P) {t : Nat} {x x' ix ix' v : Value} (e : aindexAddr T t x ix = some v) (hx : VR m x x') (hi : VR m ix ix') (w : World) :
    ∃ v', (Instr.indexAt t x' ix').run P w = .ok v' w ∧ VR m v v' := by
  unfold aindexAddr at e
  split at e
  · rename_i n el b off k n' ht
    obtain ⟨i, ht, hd⟩ := desc_of ht
    have ta := ok.at ht
    cases he : T.ty el with
    | none => rw [he] at e; cases e
    | some ei =>
      have te := ok.at he
      rw [he] at e; simp only [Option.bind_some] at e
      split at e
      case isFalse => cases e
      rename_i hc
      simp only [Bool.and_eq_true, decide_eq_true_eq] at hc
      cases e; cases hi
      cases hx with
      | ptr o hm =>
        rename_i k'
        refine ⟨.pointer (some ⟨k'.b, off + n'.toNat * ei.size + k'.sh, none⟩), ?_, .ptr _ hm⟩
        simp only [Instr.indexAt, Sem.run_bind, asIntOf, Sem.run_pure, Result.andThen_ok, ta.und, hd, Instr.sureAddr]
        rw [if_pos hc]
        simp only [Sem.run_bind, te.size, Result.andThen_ok, Sem.run_pure, Addr.add_eq]
        rw [show off + k'.sh + n'.toNat * ei.size = off + n'.toNat * ei.size + k'.sh by omega]
  · rename_i el b off len cap k n' ht
    obtain ⟨i, ht, hd⟩ := desc_of ht
    have ta := ok.at ht
    cases he : T.ty el with
    | none => rw [he] at e; cases e
    | some ei =>
      have te := ok.at he
      rw [he] at e; simp only [Option.bind_some] at e
      split at e
      case isFalse => cases e
      rename_i hc
      simp only [Bool.and_eq_true, decide_eq_true_eq] at hc
      cases e; cases hi
      cases hx with
      | sl hm hs =>
        rename_i k' o' c'
        have ho : o' = off + k'.sh := by
          rcases hs with ⟨h, _⟩ | ⟨h, _⟩ | ⟨h, _⟩
          · exact h
          · omega
          · omega
        subst ho
        refine ⟨.pointer (some ⟨k'.b, off + n'.toNat * ei.size + k'.sh, none⟩), ?_, .ptr _ hm⟩
        simp only [Instr.indexAt, Sem.run_bind, asIntOf, Sem.run_pure, Result.andThen_ok, ta.und, hd]
        rw [if_pos hc]
        simp only [Sem.run_bind, te.size, Result.andThen_ok, Sem.run_pure, Addr.add_eq]
        rw [show off + k'.sh + n'.toNat * ei.size = off + n'.toNat * ei.size + k'.sh by omega]
  · cases e

theorem aindex_sound (ok : TOk T P) {t : Nat} {x x' ix ix' v : Value} (e : aindex T t x ix = some v) (hx : VR m x x') (hi : VR m ix ix') (w : World) :
    ∃ v', (Instr.index t x' ix').run P w = .ok v' w ∧ VR m v v' := by
  unfold aindex at e
  split at e
  · rename_i n el cs k n' ht
    obtain ⟨i, ht, hd⟩ := desc_of ht
    have ta := ok.at ht
    cases he : T.ty el with
    | none => rw [he] at e; cases e
    | some ei =>
      have te := ok.at he
      rw [he] at e; simp only [Option.bind_some] at e
      split at e
      case isFalse => cases e
      rename_i hc
      simp only [Bool.and_eq_true, decide_eq_true_eq] at hc
      cases hi
      cases hx with
      | agg hcs =>
        obtain ⟨v', g1, g2⟩ := apart_sound ok e hcs w
        refine ⟨v', ?_, g2⟩
        simp only [Instr.index, Sem.run_bind, asIntOf, Sem.run_pure, Result.andThen_ok, ta.und, hd]
        rw [if_pos hc]
        simp only [Sem.run_bind, te.size, Result.andThen_ok, g1]
  · rename_i s k n' ht
    obtain ⟨i, ht, hd⟩ := desc_of ht
    have ta := ok.at ht
    split at e
    case isFalse => cases e
    rename_i hc
    cases hb : s.data.toList[n'.toNat]? with
    | none => rw [hb] at e; cases e
    | some b =>
      rw [hb] at e; simp only [Option.map_some, Option.some.injEq] at e; subst e
      cases hi; cases hx
      refine ⟨.int .u8 b.toNat, ?_, .int _ _⟩
      have hs : s[n'.toNat]? = some b := by
        rw [← hb]
        by_cases hlt : n'.toNat < s.size
        · rw [getElem?_pos s n'.toNat hlt]
          have : n'.toNat < s.data.toList.length := by simpa using hlt
          rw [List.getElem?_eq_getElem this]; rfl
        · rw [getElem?_neg s n'.toNat hlt, List.getElem?_eq_none (by simpa using hlt)]
      simp only [Instr.index, Sem.run_bind, asIntOf, Sem.run_pure, Result.andThen_ok, ta.und, hd]
      rw [if_pos hc, hs]; rfl
  · cases e

theorem atypeAssert_sound (ok : TOk T P) {a : Nat} {c : Bool} {x x' v : Value} (xt : TypeId) (e : atypeAssert T x a c = some v) (hx : VR m x x') (w : World) :
    ∃ v', (Instr.typeAssert x' xt a c).run P w = .ok v' w ∧ VR m v v' := by
  unfold atypeAssert at e
  split at e
  case h_1 => cases e
  rename_i i ht
  have ta := ok.at ht
  have hz : ∀ m, VR m i.zero i.zero := fun m => VR.of_plain m ta.plain
  split at e
  · cases e
  · rename_i hd
    split at e
    case isFalse => cases e
    rename_i hc; subst hc
    cases e; cases hx
    refine ⟨.tuple #[i.zero, .bool false], ?_, .tuple (.cons (hz m) (.cons (.bool _) .nil))⟩
    simp only [Instr.typeAssert, Sem.run_bind, ta.und, Result.andThen_ok]
    simp [ta.zero]
  · rename_i hd t y hn
    cases hx with
    | iface hy =>
      rename_i y'
      have key : (Instr.typeAssert (.iface t y') xt a c).run P w = (if t = a then (pure (if c then .tuple #[y', .bool true] else y') : Sem Value) else if c then (do pure (.tuple #[← zeroValue a, .bool false])) else runtimePanic (.typeAssertion (some xt) (some t) a "")).run P w := by
        simp only [Instr.typeAssert, Sem.run_bind, ta.und, Result.andThen_ok]
      rw [key]
      by_cases h1 : t = a
      · simp only [h1, if_true, Option.some.injEq] at e ⊢
        subst e
        cases c
        · exact ⟨y', rfl, hy⟩
        · exact ⟨_, rfl, .tuple (.cons hy (.cons (.bool _) .nil))⟩
      · simp only [if_neg h1] at e ⊢
        split at e
        case isFalse => cases e
        rename_i hc; subst hc
        cases e
        refine ⟨.tuple #[i.zero, .bool false], ?_, .tuple (.cons (hz m) (.cons (.bool _) .nil))⟩
        simp [ta.zero]
  · cases e

/-! ### Conversions -/
theorem bytesOf_vals : ∀ {l : List Value} {bs : List UInt8}, bytesOf l = some bs → ∀ {l' : List Value}, VRL m l l' → l' = l ∧ ∃ ns : List Int, l = ns.map (fun n => Value.int .u8 n) ∧ bs = ns.map fun n => UInt8.ofNat n.toNat
  | [], bs, e, l', h => by cases h; cases e; exact ⟨rfl, [], rfl, rfl⟩
  | v :: l, bs, e, l', h => by
    cases h with
    | cons h1 h2 =>
      simp only [bytesOf] at e
      split at e
      case h_2 => cases e
      rename_i b bs' e1 e2
      cases e
      unfold byteOf at e1
      split at e1
      case h_2 => cases e1
      cases e1
      obtain ⟨rfl, ns, rfl, rfl⟩ := bytesOf_vals e2 h2
      cases h1
      exact ⟨rfl, _ :: ns, rfl, rfl⟩

theorem aconv_sound (ok : TOk T P) (r : Rel K w0 m h w) {s d : Nat} {x x' v : Value} {h' : AH} (e : aconv T s d x h = some (v, h')) (hx : VR m x x') :
    ∃ v' w' m', (convert s d x').run P w = .ok v' w' ∧ m.le m' ∧ Rel K w0 m' h' w' ∧ VR m' v v' := by
  unfold aconv at e
  split at e
  case h_2 => cases e
  rename_i si di hs hd
  have ts := ok.at hs
  have td := ok.at hd
  split at e
  · rename_i k k' n hdd
    cases e; cases hx
    refine ⟨.int k (k.wrap n), w, m, ?_, m.le_refl, r, .int _ _⟩
    simp only [convert, Sem.run_bind, ts.und, td.und, Result.andThen_ok, hdd]
    simp [Conv.intToInt]
  · rename_i s h1 h2
    cases e; cases hx
    refine ⟨.string s, w, m, ?_, m.le_refl, r, .string _⟩
    simp [convert, Sem.run_bind, ts.und, td.und, Result.andThen_ok, h1, h2]
  · rename_i el l c h1 h2
    split at e
    case h_2 => cases e
    rename_i hel
    obtain ⟨ei, he, hed⟩ := desc_of hel
    have te := ok.at he
    cases e
    cases hx
    refine ⟨.string .empty, w, m, ?_, m.le_refl, r, .string _⟩
    simp [convert, Sem.run_bind, ts.und, td.und, Result.andThen_ok, h1, h2, te.und, hed, Conv.bytesToString]
  · rename_i el b off len c h1 h2
    split at e
    case h_2 => cases e
    rename_i hel
    obtain ⟨ei, he, hed⟩ := desc_of hel
    have te := ok.at he
    cases hl : AM.loadN h b off len with
    | none => rw [hl] at e; cases e
    | some cs =>
      rw [hl] at e; simp only [Option.bind_some] at e
      cases hb : bytesOf cs with
      | none => rw [hb] at e; cases e
      | some bs =>
        rw [hb] at e; simp only [Option.map_some, Option.some.injEq, Prod.mk.injEq] at e
        obtain ⟨rfl, rfl⟩ := e
        cases hx with
        | sl hm hsl =>
          rename_i k o' c'
          have hcase : o' = off + k.sh ∨ len = 0 := by
            rcases hsl with ⟨h, _⟩ | ⟨h, _⟩ | ⟨h, _⟩
            · exact .inl h
            · exact .inr h
            · exact .inr h
          have hload : ∃ ns : List Int, (loadCells ⟨k.b, o', none⟩ len).run P w = .ok (ns.map (fun n => Value.int .u8 n)).toArray w ∧ bs = ns.map fun n => UInt8.ofNat n.toNat := by
            rcases hcase with rfl | rfl
            · obtain ⟨c'', g1, g2⟩ := r.loadN (P := P) hl hm
              obtain ⟨rfl, ns, rfl, rfl⟩ := bytesOf_vals hb g2
              exact ⟨ns, g1, rfl⟩
            · have : cs = [] := by
                unfold AM.loadN at hl
                split at hl
                case h_2 => cases hl
                split at hl
                case isFalse => cases hl
                cases hl; simp
              subst this
              cases hb
              exact ⟨[], rfl, rfl⟩
          obtain ⟨ns, g1, rfl⟩ := hload
          refine ⟨_, w, m, ?_, m.le_refl, r, .string _⟩
          have hb := run_bytesToString w _ len c' ns g1
          rw [foldl_push_bytes] at hb
          simp [convert, Sem.run_bind, ts.und, td.und, Result.andThen_ok, h1, h2, te.und, hed, hb]
  · rename_i el str h1 h2
    split at e
    case h_2 => cases e
    rename_i hel
    obtain ⟨ei, he, hed⟩ := desc_of hel
    have te := ok.at he
    split at e
    case isFalse => cases e
    rename_i hr
    simp only [Option.some.injEq, Prod.mk.injEq] at e
    obtain ⟨rfl, rfl⟩ := e
    cases hx
    have hu1 : P.underlying s = some .string := by rw [ts.raw, h1]
    have hu2 : P.underlying d = some (.slice el) := by rw [td.raw, h2]
    have hu3 : P.underlying el = some (.int .u8) := by rw [te.raw, hed]
    have hrun := run_bytes_of_string (P := P) w s d el str hu1 hu2 hu3
    have hcap : str.size ≤ grownCap w str.size 0 el := Nat.le_add_right _ _
    have hv : VRL m (str.data.toList.map fun b => Value.int .u8 b.toNat) (str.data.toList.map fun b => Value.int .u8 b.toNat) := by
      generalize str.data.toList = l
      induction l with
      | nil => exact .nil
      | cons b l ih => exact .cons (.int _ _) ih
    obtain ⟨m', k, a1, a2, a3, a4, a5, a6, a7, a8⟩ := (Rel.drew r).newCellsF hr (row := bytesRow str (grownCap w str.size 0 el)) (extra := (Array.replicate (grownCap w str.size 0 el - str.size) (Value.int .u8 0)).toList) hv (by simp [bytesRow]) 1 el
      ((bytesRow str (grownCap w str.size 0 el)).size, (bytesRow str (grownCap w str.size 0 el)).size + 1) (fun i hi => by simp; omega)
    refine ⟨_, _, m', hrun, a1, a2, ?_⟩
    have hb : k.b = w.heap.size := a4
    have hn : k.n = str.size := by rw [a6]; simp
    have hc : k.cn = grownCap w str.size 0 el := by
      rw [a8]; simp [bytesRow]; omega
    rw [← hb]
    refine .sl a3 (.inl ⟨by omega, ?_⟩)
    by_cases hq : grownCap w str.size 0 el = str.size
    · exact .inl hq
    · exact .inr ⟨by omega, by omega, by rw [a7]; omega, by rw [a7]; omega⟩
  · cases e
end
end Go.AM
namespace Go.AM
open Go.MapKept (IsKey run_checkKey run_findKey bytes_beq)
section
variable {P : Program} {T : Tbl} {K : Kp} {w0 : World} {m : M} {h : AH} {w : World}

theorem VR.byte_eq {a b : ByteArray} : (a.data.toList == b.data.toList) = (a == b) := by
  rw [beq_toListBytes, ByteArray.toList_eq, ByteArray.toList_eq]

theorem plainKey_isKey {d : TypeDesc} {v v' : Value} (h : plainKey d v = true) (hv : VR m v v') : IsKey d v' ∧ v' = v ∧ ((∃ k, d = .int k) ∨ d = .string) := by
  unfold plainKey at h
  split at h
  · cases hv; exact ⟨by simpa [IsKey] using h, rfl, .inl ⟨_, rfl⟩⟩
  · cases hv; exact ⟨by simp [IsKey], rfl, .inr rfl⟩
  · cases h

theorem keyEq_sound {d : TypeDesc} {k a a' : Value} {b : Bool} (hk : plainKey d k = true) (e : keyEq k a = some b) (ha : VR m a a') : Instr.sameNow d k a' = some b ∧ a' = a := by
  unfold plainKey at hk
  unfold keyEq at e
  split at e
  · cases ha
    split at hk
    · refine ⟨?_, rfl⟩
      simpa [Instr.sameNow] using e
    · rename_i h; cases h
    · cases hk
  · cases ha
    cases e
    split at hk
    · rename_i h; cases h
    · refine ⟨?_, rfl⟩
      simp only [Instr.sameNow, VR.byte_eq]
    · cases hk
  · cases e

theorem findE_sound {d : TypeDesc} {k : Value} (hk : plainKey d k = true) : ∀ {es es' : List MapEntry} (i : Nat) {a : Option (Nat × Value)}, findE k es i = some a → EsR m es es' →
    ∃ a', Instr.findNow d k es' i = some a' ∧ ((a = none ∧ a' = none) ∨ ∃ j v v', a = some (j, v) ∧ a' = some (j, v') ∧ VR m v v' ∧ i ≤ j ∧ ∃ x x', es[j - i]? = some x ∧ es'[j - i]? = some x' ∧ ER m x x' ∧ x'.key = x.key ∧ keyEq k x.key = some true)
  | _, _, i, a, e, .nil => by simp only [findE, Option.some.injEq] at e; subst e; exact ⟨none, rfl, .inl ⟨rfl, rfl⟩⟩
  | x :: es, x' :: es', i, a, e, .cons hx ht => by
    simp only [findE] at e
    split at e
    · rename_i he
      cases e
      obtain ⟨g1, g2⟩ := keyEq_sound hk he hx.1
      refine ⟨some (i, x'.val), by simp [Instr.findNow, g1], .inr ⟨i, x.val, x'.val, rfl, rfl, hx.2.1, Nat.le_refl _, x, x', by simp, by simp, hx, g2, he⟩⟩
    · rename_i he
      obtain ⟨g1, g2⟩ := keyEq_sound hk he hx.1
      obtain ⟨a', q1, q2⟩ := findE_sound hk (i + 1) e ht
      refine ⟨a', by simp [Instr.findNow, g1, q1], ?_⟩
      rcases q2 with q2 | ⟨j, v, v', r1, r2, r3, r4, y, y', r5, r6, r7, r8⟩
      · exact .inl q2
      · refine .inr ⟨j, v, v', r1, r2, r3, by omega, y, y', ?_, ?_, r7, r8⟩
        · rw [show j - i = (j - (i + 1)) + 1 by omega]; simpa using r5
        · rw [show j - i = (j - (i + 1)) + 1 by omega]; simpa using r6
    · cases e

theorem EsR.length {m : M} : ∀ {a b : List MapEntry}, EsR m a b → a.length = b.length
  | _, _, .nil => rfl
  | _, _, .cons _ t => by simp [t.length]
theorem EsR.append {m : M} : ∀ {a b c d : List MapEntry}, EsR m a b → EsR m c d → EsR m (a ++ c) (b ++ d)
  | _, _, _, _, .nil, h => h
  | _, _, _, _, .cons h t, h' => .cons h (t.append h')
theorem EsR.modify {m : M} {f g : MapEntry → MapEntry} (hf : ∀ x y, ER m x y → ER m (f x) (g y)) : ∀ (i : Nat) {a b : List MapEntry}, EsR m a b → EsR m (a.modify i f) (b.modify i g)
  | _, _, _, .nil => by simp; exact .nil
  | 0, _, _, .cons h t => by simp; exact .cons (hf _ _ h) t
  | i + 1, _, _, .cons h t => by simp; exact .cons h (EsR.modify hf i t)
theorem EsR.eraseIdx {m : M} : ∀ (i : Nat) {a b : List MapEntry}, EsR m a b → EsR m (a.eraseIdx i) (b.eraseIdx i)
  | _, _, _, .nil => by simp; exact .nil
  | 0, _, _, .cons _ t => by simpa using t
  | i + 1, _, _, .cons h t => by simp; exact .cons h (EsR.eraseIdx i t)

theorem Rel.map (r : Rel K w0 m h w) {i : Nat} {es : List MapEntry} {clock : Nat} (e : h.get i = some (.map es clock)) :
    ∃ k es', m i = some k ∧ ¬ K.blk k.b ∧ w.heap[k.b]? = some (.map es' clock) ∧ EsR m es es'.toList := by
  obtain ⟨k, ob, h1, h2, h3, h4⟩ := r.live i _ e
  cases h4 with
  | map h => exact ⟨k, _, h1, h2, h3, h⟩

theorem run_getObj' {b : Nat} {o : Obj} (e : w.heap[b]? = some o) (ho : ∀ c t f, o ≠ .cells c t f) : (getObj b).run P w = .ok o w := by
  cases o <;> first | exact absurd rfl (ho _ _ _) | simp only [getObj, Sem.run, e]
theorem run_setObj' {b : Nat} {o : Obj} (o' : Obj) (e : w.heap[b]? = some o) (ho : ∀ c t f, o ≠ .cells c t f) : (setObj b o').run P w = .ok () (w.putObj b o') := by
  cases o <;> first | exact absurd rfl (ho _ _ _) | simp only [setObj, Sem.run, e, World.putObj]

theorem alookup_sound (ok : TOk T P) (r : Rel K w0 m h w) {t : Nat} {x x' k k' v : Value} {c : Bool} (e : alookup T t x k c h = some v) (hx : VR m x x') (hk : VR m k k') :
    ∃ v', (Instr.lookup t x' k' c).run P w = .ok v' w ∧ VR m v v' := by
  unfold alookup at e
  split at e
  case h_2 => cases e
  rename_i kt el rr ht
  obtain ⟨i, ht, hd⟩ := desc_of ht
  have ta := ok.at ht
  cases hkt : T.ty kt with
  | none => rw [hkt] at e; cases e
  | some ki =>
    have tk := ok.at hkt
    rw [hkt] at e; simp only [Option.bind_some] at e
    cases hel : T.ty el with
    | none => rw [hel] at e; cases e
    | some ei =>
      have te := ok.at hel
      rw [hel] at e; simp only [Option.bind_some] at e
      split at e
      case isFalse => cases e
      rename_i hpk
      obtain ⟨q1, rfl, q3⟩ := plainKey_isKey hpk hk
      cases hm : mapOf h rr with
      | none => rw [hm] at e; cases e
      | some es =>
        rw [hm] at e; simp only [Option.bind_some] at e
        have hes : ∃ es', EsR m es es'.toList ∧ ((x' = .map none ∧ es' = #[]) ∨ ∃ b clock, x' = .map (some b) ∧ w.heap[b]? = some (.map es' clock)) := by
          unfold mapOf at hm
          split at hm
          · cases hm; cases hx; exact ⟨#[], .nil, .inl ⟨rfl, rfl⟩⟩
          · split at hm
            case h_2 => cases hm
            rename_i hg
            cases hm
            obtain ⟨kk, es', g1, g2, g3, g4⟩ := r.map hg
            cases hx with
            | map hmm =>
              rw [g1] at hmm; cases hmm
              exact ⟨es', g4, .inr ⟨_, _, rfl, g3⟩⟩
        obtain ⟨es', g1, g2⟩ := hes
        have fin : ∀ a, findE k' es 0 = some a → ∃ a', (Instr.findKey kt k' es'.toList).run P w = .ok a' w ∧ ((a = none ∧ a' = none) ∨ ∃ j v v', a = some (j, v) ∧ a' = some (j, v') ∧ VR m v v') := fun a ha => by
          obtain ⟨a', p1, p2⟩ := findE_sound hpk 0 ha g1
          refine ⟨a', run_findKey tk.raw p1, ?_⟩
          rcases p2 with p2 | ⟨j, v, v', p3, p4, p5, _⟩
          · exact .inl p2
          · exact .inr ⟨j, v, v', p3, p4, p5⟩
        have hck := fun em => run_checkKey (w := w) tk.raw q1 em 9999
        split at e
        · rename_i j u hfe
          cases e
          obtain ⟨a', p1, p2⟩ := fin _ hfe
          rcases p2 with ⟨p2, _⟩ | ⟨j', v1, v', p2, rfl, p3⟩
          · cases p2
          cases p2
          refine ⟨if c then .tuple #[v', .bool true] else v', ?_, ?_⟩
          · rcases g2 with ⟨rfl, rfl⟩ | ⟨b, clock, rfl, g2⟩
            · simp only [Instr.lookup, Sem.run_bind, ta.und, Result.andThen_ok, hd, Sem.run_pure, hck, p1]
            · simp only [Instr.lookup, Sem.run_bind, ta.und, Result.andThen_ok, hd, Sem.run_pure, run_getObj' g2 (by intros; simp), hck, p1]
          · cases c
            · exact p3
            · exact .tuple (.cons p3 (.cons (.bool _) .nil))
        · rename_i hfe
          cases e
          obtain ⟨a', p1, p2⟩ := fin _ hfe
          rcases p2 with ⟨_, rfl⟩ | ⟨j', v1, v', p2, _⟩
          · refine ⟨if c then .tuple #[ei.zero, .bool false] else ei.zero, ?_, ?_⟩
            · rcases g2 with ⟨rfl, rfl⟩ | ⟨b, clock, rfl, g2⟩
              · simp only [Instr.lookup, Sem.run_bind, ta.und, Result.andThen_ok, hd, Sem.run_pure, hck, p1, te.zero]
              · simp only [Instr.lookup, Sem.run_bind, ta.und, Result.andThen_ok, hd, Sem.run_pure, run_getObj' g2 (by intros; simp), hck, p1, te.zero]
            · cases c
              · exact VR.of_plain m te.plain
              · exact .tuple (.cons (VR.of_plain m te.plain) (.cons (.bool _) .nil))
          · cases p2
        · cases e
end
end Go.AM
namespace Go.AM
open Go.MapKept (IsKey run_checkKey run_findKey bytes_beq)
section
variable {P : Program} {T : Tbl} {K : Kp} {w0 : World} {m : M} {h : AH} {w : World}
theorem keyEq_same {k a : Value} (e : keyEq k a = some true) : a = k ∧ Instr.sameBits 10000 k k = true := by
  unfold keyEq at e
  split at e
  · rename_i k1 a1 k2 b1
    split at e
    case isFalse => cases e
    rename_i hk; subst hk
    simp only [Option.some.injEq, beq_iff_eq] at e; subst e
    exact ⟨rfl, by simp [Instr.sameBits]⟩
  · rename_i a1 b1
    simp only [Option.some.injEq, beq_iff_eq] at e
    have : a1 = b1 := by
      obtain ⟨x⟩ := a1; obtain ⟨y⟩ := b1
      simp only at e
      rw [Array.toList_inj.1 e]
    subst this
    exact ⟨rfl, by simp only [Instr.sameBits]; exact (bytes_beq _ _).2 rfl⟩
  · cases e

theorem amapUpdate_sound (ok : TOk T P) (r : Rel K w0 m h w) {t : Nat} {x x' k k' v v' : Value} {h' : AH} (e : amapUpdate T t x k v h = some h') (hx : VR m x x') (hk : VR m k k') (hv : VR m v v') :
    ∃ w', (Instr.mapUpdate t x' k' v').run P w = .ok () w' ∧ Rel K w0 m h' w' := by
  unfold amapUpdate at e
  split at e
  case h_2 => cases e
  rename_i kt el rr ht
  obtain ⟨i, ht, hd⟩ := desc_of ht
  have ta := ok.at ht
  cases hkt : T.ty kt with
  | none => rw [hkt] at e; cases e
  | some ki =>
    have tk := ok.at hkt
    rw [hkt] at e; simp only [Option.bind_some] at e
    split at e
    case isFalse => cases e
    rename_i hpk
    simp only [Bool.and_eq_true, Nat.blt_eq] at hpk
    obtain ⟨hpk, hlim⟩ := hpk
    obtain ⟨q1, rfl, q3⟩ := plainKey_isKey hpk hk
    split at e
    case h_2 => cases e
    rename_i es clock hg
    obtain ⟨kk, es', g1, g2, g3, g4⟩ := r.map hg
    cases hx with
    | map hmm =>
      rw [g1] at hmm; cases hmm
      have hck := fun em => run_checkKey (w := w) tk.raw q1 em 9999
      split at e
      · rename_i j u hfe
        cases e
        obtain ⟨a', p1, p2⟩ := findE_sound hpk 0 hfe g4
        rcases p2 with ⟨p2, _⟩ | ⟨j', v1, v1', p2, rfl, p3, p4, y, y', p5, p6, p7, p8, p9⟩
        · cases p2
        cases p2
        simp only [Nat.sub_zero] at p5 p6
        obtain ⟨hy, hsb⟩ := keyEq_same p9
        have hyk : y'.key = k' := by rw [p8, hy]
        refine ⟨_, ?_, r.set hg g1 hlim _ (.map (es'.modify j fun e => { e with key := k', val := v' }) clock) (.map ?_)⟩
        · have p6' : es'[j]? = some y' := by simpa using p6
          simp only [Instr.mapUpdate, Sem.run_bind, ta.und, Result.andThen_ok, hd, run_getObj' g3 (by intros; simp), hck, run_findKey tk.raw p1, p6', Option.map_some, Option.getD_some, hyk, Instr.keyThatStays, hsb, if_true, Sem.run_pure]
          exact run_setObj' _ g3 (by intros; simp)
        · rw [Array.toList_modify]
          refine EsR.modify ?_ j g4; intro a b hab; exact ⟨hk, hv, hab.2.2⟩
      · rename_i hfe
        cases e
        obtain ⟨a', p1, p2⟩ := findE_sound hpk 0 hfe g4
        rcases p2 with ⟨_, rfl⟩ | ⟨j', v1, v1', p2, _⟩
        · refine ⟨_, ?_, r.set hg g1 hlim _ (.map (es'.push { key := k', val := v', born := clock }) (clock + 1)) (.map ?_)⟩
          · simp only [Instr.mapUpdate, Sem.run_bind, ta.und, Result.andThen_ok, hd, run_getObj' g3 (by intros; simp), hck, run_findKey tk.raw p1]
            exact run_setObj' _ g3 (by intros; simp)
          · rw [Array.toList_push]
            exact g4.append (.cons ⟨hk, hv, rfl⟩ .nil)
        · cases p2
      · cases e

theorem amapEntry_sound (ok : TOk T P) (r : Rel K w0 m h w) {t : Nat} {x x' k k' v : Value} {h' : AH} (e : amapEntry T t x k h = some (v, h')) (hx : VR m x x') (hk : VR m k k') :
    ∃ v' w' m', (Instr.mapEntry t x' k').run P w = .ok v' w' ∧ m.le m' ∧ Rel K w0 m' h' w' ∧ VR m' v v' := by
  unfold amapEntry at e
  split at e
  case h_2 => cases e
  rename_i kt el rr ht
  obtain ⟨i, ht, hd⟩ := desc_of ht
  have ta := ok.at ht
  cases hkt : T.ty kt with
  | none => rw [hkt] at e; cases e
  | some ki =>
    have tk := ok.at hkt
    rw [hkt] at e; simp only [Option.bind_some] at e
    cases hel : T.ty el with
    | none => rw [hel] at e; cases e
    | some ei =>
      have te := ok.at hel
      rw [hel] at e; simp only [Option.bind_some] at e
      split at e
      case isFalse => cases e
      rename_i hpk
      simp only [Bool.and_eq_true, Nat.blt_eq] at hpk
      obtain ⟨hpk, hlim⟩ := hpk
      obtain ⟨q1, rfl, q3⟩ := plainKey_isKey hpk hk
      split at e
      case h_2 => cases e
      rename_i es clock hg
      obtain ⟨kk, es', g1, g2, g3, g4⟩ := r.map hg
      cases hx with
      | map hmm =>
        rw [g1] at hmm; cases hmm
        have hck := fun em => run_checkKey (w := w) tk.raw q1 em 9999
        split at e
        · rename_i j u hfe
          simp only [Option.some.injEq, Prod.mk.injEq] at e
          obtain ⟨rfl, rfl⟩ := e
          obtain ⟨a', p1, p2⟩ := findE_sound hpk 0 hfe g4
          rcases p2 with ⟨p2, _⟩ | ⟨j', v1, v1', p2, rfl, p3, p4, y, y', p5, p6, p7, p8, p9⟩
          · cases p2
          cases p2
          simp only [Nat.sub_zero] at p5 p6
          obtain ⟨hy, hsb⟩ := keyEq_same p9
          have hyk : y'.key = k' := by rw [p8, hy]
          have p6' : es'[j]? = some y' := by simpa using p6
          refine ⟨.tuple #[v1', goInt y'.born], _, m, ?_, m.le_refl, r.set hg g1 hlim _ (.map (es'.modify j fun e => { e with key := k' }) clock) (.map ?_), ?_⟩
          · simp only [Instr.mapEntry, Sem.run_bind, ta.und, Result.andThen_ok, hd, run_getObj' g3 (by intros; simp), hck, run_findKey tk.raw p1, p6', Option.map_some, Option.getD_some, hyk, Instr.keyThatStays, hsb, if_true, Sem.run_pure]
            rw [run_setObj' _ g3 (by intros; simp)]; rfl
          · rw [Array.toList_modify]
            refine EsR.modify ?_ j g4; intro a b hab; exact ⟨hk, hab.2.1, hab.2.2⟩
          · rw [p5]
            simp only [Option.map_some, Option.getD_some]
            rw [p7.2.2]
            exact .tuple (.cons p3 (.cons (.int _ _) .nil))
        · rename_i hfe
          simp only [Option.some.injEq, Prod.mk.injEq] at e
          obtain ⟨rfl, rfl⟩ := e
          obtain ⟨a', p1, p2⟩ := findE_sound hpk 0 hfe g4
          rcases p2 with ⟨_, rfl⟩ | ⟨j', v1, v1', p2, _⟩
          · refine ⟨.tuple #[ei.zero, goInt clock], _, m, ?_, m.le_refl, r.set hg g1 hlim _ (.map (es'.push { key := k', val := ei.zero, born := clock }) (clock + 1)) (.map ?_), .tuple (.cons (VR.of_plain m te.plain) (.cons (.int _ _) .nil))⟩
            · simp only [Instr.mapEntry, Sem.run_bind, ta.und, Result.andThen_ok, hd, run_getObj' g3 (by intros; simp), hck, run_findKey tk.raw p1, te.zero]
              rw [run_setObj' _ g3 (by intros; simp)]; rfl
            · rw [Array.toList_push]
              exact g4.append (.cons ⟨hk, VR.of_plain m te.plain, rfl⟩ .nil)
          · cases p2
        · cases e

theorem EsR.findIdx {m : M} {p : MapEntry → Bool} (hp : ∀ x y, ER m x y → p x = p y) : ∀ {a b : List MapEntry}, EsR m a b → a.findIdx? p = b.findIdx? p
  | _, _, .nil => rfl
  | _, _, .cons h t => by rw [List.findIdx?_cons, List.findIdx?_cons, hp _ _ h, EsR.findIdx hp t]

theorem aentryStore_sound (r : Rel K w0 m h w) (t : Nat) {x x' s s' v v' : Value} {h' : AH} (e : aentryStore x s v h = some h') (hx : VR m x x') (hs : VR m s s') (hv : VR m v v') :
    ∃ w', (Instr.entryStore t x' s' v').run P w = .ok () w' ∧ Rel K w0 m h' w' := by
  unfold aentryStore at e
  split at e
  case h_2 => cases e
  rename_i rr k born
  split at e
  case h_2 => cases e
  rename_i es clock hg
  split at e
  case isFalse => cases e
  rename_i hlim
  simp only [Nat.blt_eq] at hlim
  obtain ⟨kk, es', g1, g2, g3, g4⟩ := r.map hg
  cases hs
  cases hx with
  | map hmm =>
    rw [g1] at hmm; cases hmm
    cases hf : es.findIdx? (fun e => (e.born : Int) == born) with
    | none => rw [hf] at e; cases e
    | some i =>
      rw [hf] at e; simp only [Option.map_some, Option.some.injEq] at e; subst e
      have hf' : es'.findIdx? (fun e => (e.born : Int) == born) = some i := by
        rw [← hf, EsR.findIdx (p := fun e => (e.born : Int) == born) (fun x y hxy => by show (((x.born : Nat) : Int) == born) = (((y.born : Nat) : Int) == born); rw [hxy.2.2]) g4]
        cases es'; simp
      refine ⟨_, ?_, r.set hg g1 hlim _ (.map (es'.modify i fun e => { e with val := v' }) clock) (.map ?_)⟩
      · simp only [Instr.entryStore, Sem.run_bind, run_getObj' g3 (by intros; simp), Result.andThen_ok, asInt, asIntOf, Sem.run_pure, hf']
        exact run_setObj' _ g3 (by intros; simp)
      · rw [Array.toList_modify]
        refine EsR.modify ?_ i g4; intro a b hab; exact ⟨hab.1, hv, hab.2.2⟩

theorem adelete_sound (ok : TOk T P) (r : Rel K w0 m h w) {ts : Array Nat} {ty : Nat} {x x' k k' : Value} {h' : AH} (e : adelete T ts.toList x k h = some h') (hx : VR m x x') (hk : VR m k k') :
    ∃ w', (Builtin.delete_ ts ty #[x', k']).run P w = .ok (.tuple #[]) w' ∧ Rel K w0 m h' w' := by
  unfold adelete at e
  split at e
  case h_2 => cases e
  rename_i t rest hts
  have ht0 : ts[0]? = some t := by rw [← Array.getElem?_toList, hts]; rfl
  split at e
  case h_2 => cases e
  rename_i kt el rr ht
  obtain ⟨i, ht, hd⟩ := desc_of ht
  have ta := ok.at ht
  cases hkt : T.ty kt with
  | none => rw [hkt] at e; cases e
  | some ki =>
    have tk := ok.at hkt
    rw [hkt] at e; simp only [Option.bind_some] at e
    split at e
    case isTrue => cases e
    rename_i hpk
    have hpk : plainKey ki.desc k = true := by simpa using hpk
    obtain ⟨q1, rfl, q3⟩ := plainKey_isKey hpk hk
    have hck := fun em => run_checkKey (w := w) tk.raw q1 em 9999
    have e0 : (#[x', k'] : Array Value)[0]? = some x' := rfl
    have e1 : (#[x', k'] : Array Value)[1]? = some k' := rfl
    split at e
    · cases e; cases hx
      refine ⟨w, ?_, r⟩
      simp only [Builtin.delete_, ht0, e0, e1, Sem.run_bind, ta.und, Result.andThen_ok, hd, hck, Sem.run_pure]
    · rename_i rr
      split at e
      case h_2 => cases e
      rename_i es clock hg
      split at e
      case isTrue => cases e
      rename_i hlim
      have hlim : rr < lim := by simpa [Nat.blt_eq] using hlim
      obtain ⟨kk, es', g1, g2, g3, g4⟩ := r.map hg
      cases hx with
      | map hmm =>
        rw [g1] at hmm; cases hmm
        split at e
        · rename_i j u hfe
          cases e
          obtain ⟨a', p1, p2⟩ := findE_sound hpk 0 hfe g4
          rcases p2 with ⟨p2, _⟩ | ⟨j', v1, v1', p2, rfl, p3, p4, y, y', p5, p6, p7, p8, p9⟩
          · cases p2
          cases p2
          refine ⟨_, ?_, r.set hg g1 hlim _ (.map (es'.eraseIdxIfInBounds j) clock) (.map ?_)⟩
          · simp only [Builtin.delete_, ht0, e0, e1, Sem.run_bind, ta.und, Result.andThen_ok, hd, hck, Sem.run_pure, run_getObj' g3 (by intros; simp), run_findKey tk.raw p1]
            rw [run_setObj' _ g3 (by intros; simp)]; rfl
          · rw [Array.toList_eraseIdxIfInBounds]
            exact EsR.eraseIdx j g4
        · rename_i hfe
          cases e
          obtain ⟨a', p1, p2⟩ := findE_sound hpk 0 hfe g4
          rcases p2 with ⟨_, rfl⟩ | ⟨j', v1, v1', p2, _⟩
          · refine ⟨_, ?_, r.set hg g1 hlim _ (.map es' clock) (.map g4)⟩
            simp only [Builtin.delete_, ht0, e0, e1, Sem.run_bind, ta.und, Result.andThen_ok, hd, hck, Sem.run_pure, run_getObj' g3 (by intros; simp), run_findKey tk.raw p1]
            rw [run_setObj' _ g3 (by intros; simp)]; rfl
          · cases p2
        · cases e
end
end Go.AM
namespace Go.AM
section
variable {P : Program} {T : Tbl} {K : Kp} {w0 : World} {m : M} {h : AH} {w : World}

theorem arange_sound (ok : TOk T P) (r : Rel K w0 m h w) {t : Nat} {x x' v : Value} {h' : AH} (e : arange T t x h = some (v, h')) (hx : VR m x x') :
    ∃ v' w' m', (Instr.range t x').run P w = .ok v' w' ∧ m.le m' ∧ Rel K w0 m' h' w' ∧ VR m' v v' := by
  unfold arange at e
  have ptr : ∀ (m' : M) (k : Blk), m' h.nx = some k → k.b = w.heap.size → k.sh = 0 → VR m' (.pointer (some ⟨h.nx, 0, none⟩)) (.pointer (some ⟨w.heap.size, 0, none⟩)) := fun m' k a b c => VR.newPtr a c b
  split at e
  · rename_i s ht
    obtain ⟨i, ht, hd⟩ := desc_of ht
    have ta := ok.at ht
    split at e
    case isFalse => cases e
    rename_i hr
    cases e; cases hx
    have := r.alloc hr { b := w.heap.size, sh := 0, n := 0, cn := 0, sz := 0 } rfl (.strIter s 0) (.stringIter s 0) (.strIter s 0 rfl)
    refine ⟨_, _, _, ?_, this.2, this.1, ptr _ { b := w.heap.size, sh := 0, n := 0, cn := 0, sz := 0 } (by simp) rfl rfl⟩
    simp only [Instr.range, Sem.run_bind, ta.und, Result.andThen_ok, hd, Sem.run_pure, run_newObj_alloc]
  · rename_i kt el ht
    obtain ⟨i, ht, hd⟩ := desc_of ht
    have ta := ok.at ht
    split at e
    case isFalse => cases e
    rename_i hr
    cases e; cases hx
    have := r.alloc hr { b := w.heap.size, sh := 0, n := 0, cn := 0, sz := 0 } rfl (.mapIter none 0 [] 0) (.mapIter none 0 #[] 0) (.mapIter (seen := #[]) .none rfl)
    refine ⟨_, _, _, ?_, this.2, this.1, ptr _ { b := w.heap.size, sh := 0, n := 0, cn := 0, sz := 0 } (by simp) rfl rfl⟩
    simp only [Instr.range, Sem.run_bind, ta.und, Result.andThen_ok, hd, Sem.run_pure, run_newObj_alloc]
  · rename_i kt el rr ht
    obtain ⟨i, ht, hd⟩ := desc_of ht
    have ta := ok.at ht
    split at e
    case h_2 => cases e
    rename_i es clock hg
    split at e
    case isFalse => cases e
    rename_i hr
    cases e
    obtain ⟨kk, es', g1, g2, g3, g4⟩ := r.map hg
    cases hx with
    | map hmm =>
      rw [g1] at hmm; cases hmm
      have hle : m.le (fun i => if i = h.nx then some { b := w.heap.size, sh := 0, n := 0, cn := 0, sz := 0 } else m i) := fun i k' e => by
        have := r.dom i k' e
        simp only; rw [if_neg (by omega)]; exact e
      have := r.alloc hr { b := w.heap.size, sh := 0, n := 0, cn := 0, sz := 0 } rfl (.mapIter (some rr) clock [] clock) (.mapIter (some kk.b) clock #[] clock) (.mapIter (seen := #[]) (.some (hle _ _ g1)) rfl)
      refine ⟨_, _, _, ?_, this.2, this.1, ptr _ { b := w.heap.size, sh := 0, n := 0, cn := 0, sz := 0 } (by simp) rfl rfl⟩
      simp only [Instr.range, Sem.run_bind, ta.und, Result.andThen_ok, hd, Sem.run_pure, run_getObj' g3 (by intros; simp), run_newObj_alloc]
  · cases e

theorem EsR.filter {p : MapEntry → Bool} (hp : ∀ x y, ER m x y → p x = p y) : ∀ {a b : List MapEntry}, EsR m a b → EsR m (a.filter p) (b.filter p)
  | _, _, .nil => .nil
  | x :: a, y :: b, .cons h t => by
    rw [List.filter_cons, List.filter_cons, hp _ _ h]
    split
    · exact .cons h (EsR.filter hp t)
    · exact EsR.filter hp t
theorem EsR.get : ∀ {a b : List MapEntry} (i : Nat) {y : MapEntry}, EsR m a b → b[i]? = some y → ∃ x, a[i]? = some x ∧ ER m x y
  | _, _, _, _, .nil, e => by simp at e
  | x :: a, y :: b, 0, z, .cons h t, e => by simp at e; subst e; exact ⟨x, by simp, h⟩
  | x :: a, y :: b, i + 1, z, .cons h t, e => by simp at e; simpa using EsR.get i t e
theorem EsR.all {p : MapEntry → Bool} (hp : ∀ x y, ER m x y → p x = p y) : ∀ {a b : List MapEntry}, EsR m a b → a.all p = b.all p
  | _, _, .nil => rfl
  | _, _, .cons h t => by rw [List.all_cons, List.all_cons, hp _ _ h, EsR.all hp t]
theorem EsR.find {p : MapEntry → Bool} (hp : ∀ x y, ER m x y → p x = p y) : ∀ {a b : List MapEntry} {x : MapEntry}, EsR m a b → a.find? p = some x → ∃ y, b.find? p = some y ∧ ER m x y
  | _, _, _, .nil, e => by simp at e
  | x :: a, y :: b, z, .cons h t, e => by
    rw [List.find?_cons] at e ⊢
    rw [← hp _ _ h]
    split at e
    · rename_i h1; cases e; exact ⟨y, by simp [h1], h⟩
    · rename_i h1; obtain ⟨y', g1, g2⟩ := EsR.find hp t e; exact ⟨y', by simp [h1, g1], g2⟩

theorem Rel.iter (r : Rel K w0 m h w) {i since last : Nat} {a : Option Nat} {seen : List Nat} (e : h.get i = some (.mapIter a since seen last)) :
    ∃ k b, m i = some k ∧ k.sh = 0 ∧ w.heap[k.b]? = some (.mapIter b since seen.toArray last) ∧ OR m a b := by
  obtain ⟨k, ob, h1, h2, h3, h4⟩ := r.live i _ e
  cases h4 with
  | mapIter h hs => exact ⟨k, _, h1, hs, by simpa using h3, h⟩

theorem EsR.nilIff {a b : List MapEntry} (h : EsR m a b) : a = [] ↔ b = [] := by cases h <;> simp

theorem run_next_map {b c clock : Nat} {seen : Array Nat} {es : Array MapEntry} (t : TypeId) (hi : w.heap[b]? = some (.mapIter (some c) clock seen clock)) (hm : w.heap[c]? = some (.map es clock)) (hall : ∀ x ∈ es.toList, x.born < clock) :
    ((es.filter fun e => !seen.contains e.born) = #[] ∧ (Instr.next (.pointer (some ⟨b, 0, none⟩)) false t).run P w = .ok (.tuple #[.bool false]) w) ∨
    ∃ e, ∃ w1 : World, e ∈ (es.filter fun e => !seen.contains e.born).toList ∧ (w1.heap = w.heap ∧ w1.os = w.os ∧ w1.output = w.output) ∧ (Instr.next (.pointer (some ⟨b, 0, none⟩)) false t).run P w = .ok (.tuple #[.bool true, e.key, e.val]) (w1.putObj b (.mapIter (some c) clock (seen.push e.born) clock)) := by
  have h1 : (!seen.isEmpty && !es.isEmpty && es.all (fun e => decide (e.born ≥ clock))) = false := by
    cases hes : es.isEmpty with
    | true => simp
    | false =>
      have hpos : 0 < es.size := by
        rcases Nat.eq_zero_or_pos es.size with h | h
        · rw [Array.isEmpty_iff_size_eq_zero.2 h] at hes; cases hes
        · exact h
      have : es.all (fun e => decide (e.born ≥ clock)) = false := by
        rw [Array.all_eq_false]
        refine ⟨0, hpos, ?_⟩
        have := hall es[0] (by simp)
        simp; omega
      rw [this]; simp
  generalize hL : (es.filter fun e => !seen.contains e.born) = left
  have hl : ∀ x ∈ left.toList, x.born < clock := fun x hx => by
    subst hL
    rw [Array.toList_filter, List.mem_filter] at hx
    exact hall x hx.1
  have ho : left.filter (fun e => decide (e.born < clock)) = left := by
    rw [Array.filter_eq_self]
    intro a ha; simpa using hl a (by simpa using ha)
  have hn : left.filter (fun e => decide (e.born ≥ clock)) = #[] := by
    rw [Array.filter_eq_empty_iff]
    intro a ha; have := hl a (by simpa using ha); simp; omega
  by_cases he : left = #[]
  · refine .inl ⟨he, ?_⟩
    subst he
    simp only [Instr.next, Sem.run_bind, Sem.run_pure, Result.andThen_ok, run_getObj' hi (by intros; simp), run_getObj' hm (by intros; simp), h1, Bool.false_eq_true, if_false, hL, ho, hn]
    simp [Question.forced]
  · refine .inr ?_
    have hpos : 0 < left.size := by
      rcases Nat.eq_zero_or_pos left.size with h | h
      · exact absurd (Array.size_eq_zero_iff.1 h) he
      · exact h
    have hemp : left.isEmpty = false := by
      cases hq : left.isEmpty with
      | false => rfl
      | true => exact absurd (Array.isEmpty_iff.1 hq) he
    have main : ∀ (i : Nat) (w1 : World) (hi : i < left.size), w1.heap = w.heap → (choose (.mapNext left.size)).run P w = .ok i w1 → (Instr.next (.pointer (some ⟨b, 0, none⟩)) false t).run P w = .ok (.tuple #[.bool true, left[i].key, left[i].val]) (w1.putObj b (.mapIter (some c) clock (seen.push left[i].born) clock)) := by
      intro i w1 hlt hw hch
      simp only [Instr.next, Sem.run_bind, Sem.run_pure, Result.andThen_ok, run_getObj' hi (by intros; simp), run_getObj' hm (by intros; simp), h1, Bool.false_eq_true, if_false, hL, ho, hn, hemp]
      rw [show (#[] ++ Array.map some (left ++ #[]) : Array (Option MapEntry)) = left.map some by simp]
      rw [show (Array.map some left).size = left.size by simp, hch]
      simp only [Result.andThen_ok]
      rw [show (Array.map some left)[i]? = some (some left[i]) by simp [hlt]]
      simp only [Sem.run_bind]
      rw [run_setObj' (o := .mapIter (some c) clock seen clock) _ (by rw [hw]; exact hi) (by intros; simp)]; rfl
    by_cases hf : left.size ≤ 1
    · have hch : (choose (.mapNext left.size)).run P w = .ok 0 w := by
        rw [run_choose]; simp [Question.forced, hf]
      exact ⟨left[0], w, by simp, ⟨rfl, rfl, rfl⟩, main 0 w hpos rfl hch⟩
    · have hch : (choose (.mapNext left.size)).run P w = .ok (w.tape w.drawn (.mapNext left.size) % left.size) { w with drawn := w.drawn + 1 } := by
        rw [run_choose]; simp [Question.forced, hf, Question.cut]
      have hlt := Nat.mod_lt (w.tape w.drawn (.mapNext left.size)) hpos
      exact ⟨left[w.tape w.drawn (.mapNext left.size) % left.size], { w with drawn := w.drawn + 1 }, by simp, ⟨rfl, rfl, rfl⟩, main _ _ hlt rfl hch⟩

theorem seen_contains {seen : List Nat} {b : Nat} : seen.toArray.contains b = seen.contains b := by simp

theorem anext_sound (r : Rel K w0 m h w) {x x' : Value} {s : Bool} (t : TypeId) (hx : VR m x x') : ROk P K w0 m (do pure (.value (← Instr.next x' s t))) h w (anext x s h) := by
  unfold anext
  split
  case h_2 => exact trivial
  rename_i rr
  cases hx with
  | ptr o hm =>
    rename_i k
    split
    · rename_i s pos hg
      obtain ⟨k0, ob, h1, h2, h3, h4⟩ := r.live _ _ hg
      rw [hm] at h1; cases h1
      cases h4 with
      | strIter _ _ hs =>
        split
        · rename_i hlt
          split
          case isFalse => exact trivial
          rename_i hl
          rw [Nat.blt_eq] at hl
          refine ⟨_, .tuple #[.bool true, goInt pos, .int .i32 (Utf8.decode s pos).1], _, m, ?_, .inl rfl, m.le_refl, r.set hg hm hl _ (.stringIter s (pos + (Utf8.decode s pos).2)) (.strIter _ _ hs), .tuple (.cons (.bool _) (.cons (.int _ _) (.cons (.int _ _) .nil)))⟩
          rw [hs]
          simp only [Instr.next, Sem.run_bind, Sem.run_pure, Result.andThen_ok, run_getObj' h3 (by intros; simp), if_pos hlt]
          rw [run_setObj' _ h3 (by intros; simp)]; rfl
        · rename_i hlt
          split
          case isFalse => exact trivial
          rename_i hl
          rw [Nat.blt_eq] at hl
          refine ⟨_, .tuple #[.bool false], w, m, ?_, .inl rfl, m.le_refl, r.kill _ hl, .tuple (.cons (.bool _) .nil)⟩
          rw [hs]
          simp only [Instr.next, Sem.run_bind, Sem.run_pure, Result.andThen_ok, run_getObj' h3 (by intros; simp), if_neg hlt]
    · rename_i since seen last hg
      obtain ⟨k0, b, h1, hs, h3, h4⟩ := r.iter hg
      rw [hm] at h1; cases h1
      cases h4
      split
      case isFalse => exact trivial
      rename_i hl
      rw [Nat.blt_eq] at hl
      refine ⟨_, .tuple #[.bool false], w, m, ?_, .inl rfl, m.le_refl, r.kill _ hl, .tuple (.cons (.bool _) .nil)⟩
      rw [hs]
      simp only [Instr.next, Sem.run_bind, Sem.run_pure, Result.andThen_ok, run_getObj' h3 (by intros; simp)]
    · rename_i mm since seen last hg
      obtain ⟨k0, b, h1, hs, h3, h4⟩ := r.iter hg
      rw [hm] at h1; cases h1
      cases h4 with
      | some hmm =>
        rename_i km
        split
        case h_2 => exact trivial
        rename_i es clock hgm
        obtain ⟨kk, es', g1, g2, g3, g4⟩ := r.map hgm
        rw [hmm] at g1; cases g1
        split
        case isTrue => exact trivial
        rename_i hc
        simp only [Bool.or_eq_true, Bool.not_eq_true', not_or, Bool.not_eq_false] at hc
        obtain ⟨⟨⟨c1, c2⟩, c3⟩, c4⟩ := hc
        have c1 := Nat.eq_of_beq_eq_true c1
        have c2 := Nat.eq_of_beq_eq_true c2
        rw [Nat.blt_eq] at c3
        subst c1; subst c2
        have c4 : ∀ x ∈ es'.toList, x.born < clock := by
          have := EsR.all (p := fun e => Nat.blt e.born clock) (fun x y hxy => by show Nat.blt x.born clock = Nat.blt y.born clock; rw [hxy.2.2]) g4
          rw [c4] at this
          intro x hx
          have := List.all_eq_true.1 this.symm x hx
          rwa [Nat.blt_eq] at this
        have hfil := EsR.filter (p := fun e => !seen.contains e.born) (fun x y hxy => by show (!seen.contains x.born) = (!seen.contains y.born); rw [hxy.2.2]) g4
        have hfil' : (es'.filter fun e => !seen.toArray.contains e.born).toList = es'.toList.filter fun e => !seen.contains e.born := by
          rw [Array.toList_filter]; simp
        rw [hs]
        rcases run_next_map (P := P) t h3 g3 c4 with ⟨n1, n2⟩ | ⟨e, w1, n1, n2, n3⟩
        · have hnil : (es.filter fun e => !seen.contains e.born) = [] := by
            rw [EsR.nilIff hfil, ← hfil', n1]
          rw [hnil]
          exact ⟨_, .tuple #[.bool false], w, m, by simp only [Sem.run_bind, n2, Result.andThen_ok, Sem.run_pure], .inl rfl, m.le_refl, r.kill _ c3, .tuple (.cons (.bool _) .nil)⟩
        · rw [hfil'] at n1
          obtain ⟨i, hi⟩ := List.mem_iff_getElem?.1 n1
          obtain ⟨y, hy1, hy2⟩ := EsR.get i hfil hi
          have hmem : y ∈ es.filter fun e => !seen.contains e.born := List.mem_iff_getElem?.2 ⟨i, hy1⟩
          split
          · rename_i hnil; rw [hnil] at hmem; cases hmem
          · refine ⟨_, List.mem_map.2 ⟨y, hmem, rfl⟩, _, _, m, by simp only [Sem.run_bind, n3, Result.andThen_ok, Sem.run_pure]; rfl, m.le_refl, ?_, .tuple (.cons (.bool _) (.cons hy2.1 (.cons hy2.2.1 .nil)))⟩
            have := (Rel.of_heap r n2.1 n2.2).set hg hm c3 (.mapIter (some mm) clock (seen ++ [y.born]) clock) (.mapIter (some km.b) clock (seen.toArray.push e.born) clock) (by
              have := ObjR.mapIter (m := m) (k := k) (since := clock) (last := clock) (seen := seen.toArray.push e.born) (.some hmm) hs
              rw [hy2.2.2]
              simpa using this)
            exact this
    · exact trivial
end
end Go.AM
namespace Go.AM
section
variable {P : Program} {T : Tbl} {K : Kp} {w0 : World} {m : M} {h : AH} {w : World}

theorem aentry_sound (r : Rel K w0 m h w) {x x' v : Value} (e : aentry x h = some v) (hx : VR m x x') :
    ∃ v', (Instr.entry x').run P w = .ok v' w ∧ VR m v v' := by
  unfold aentry at e
  split at e
  case h_2 => cases e
  rename_i rr
  cases hx with
  | ptr o hm =>
    rename_i k
    split at e
    case h_2 => cases e
    rename_i mm since seen last hg
    obtain ⟨k0, b, h1, hs, h3, h4⟩ := r.iter hg
    rw [hm] at h1; cases h1
    cases h4 with
    | some hmm =>
      rename_i km
      split at e
      case h_2 => cases e
      rename_i stamp es clock hl hgm
      obtain ⟨kk, es', g1, g2, g3, g4⟩ := r.map hgm
      rw [hmm] at g1; cases g1
      split at e
      case isFalse => cases e
      rename_i hc
      have hc := Nat.eq_of_beq_eq_true hc
      subst hc
      cases hf : es.find? (·.born == stamp) with
      | none => rw [hf] at e; cases e
      | some y =>
        rw [hf] at e; simp only [Option.map_some, Option.some.injEq] at e; subst e
        obtain ⟨y', q1, q2⟩ := EsR.find (p := fun e => e.born == stamp) (fun a b hab => by show (a.born == stamp) = (b.born == stamp); rw [hab.2.2]) g4 hf
        refine ⟨.tuple #[y'.key, y'.val], ?_, .tuple (.cons q2.1 (.cons q2.2.1 .nil))⟩
        rw [hs]
        have hb : seen.toArray.back? = some stamp := by simpa using hl
        have hq : es'.find? (fun e => e.born == stamp) = some y' := by rw [← q1]; cases es'; simp
        simp only [Instr.entry, Sem.run_bind, Sem.run_pure, Result.andThen_ok, run_getObj' h3 (by intros; simp), run_getObj' g3 (by intros; simp), hb, bne_self_eq_false, Bool.false_eq_true, if_false, hq]

theorem alen_sound (ok : TOk T P) (r : Rel K w0 m h w) {ts : Array Nat} (ty : Nat) {x x' v : Value} (e : alen T ts.toList x h = some v) (hx : VR m x x') :
    (Builtin.len_ ts ty #[x']).run P w = .ok v w ∧ VR m v v := by
  unfold alen at e
  split at e
  case h_2 => cases e
  rename_i t rest hts
  have ht0 : ts[0]? = some t := by rw [← Array.getElem?_toList, hts]; rfl
  have e0 : (#[x'] : Array Value)[0]? = some x' := rfl
  split at e
  · rename_i ht
    obtain ⟨i, ht, hd⟩ := desc_of ht
    have ta := ok.at ht
    cases e; cases hx
    exact ⟨by simp only [Builtin.len_, ht0, e0, Sem.run_bind, ta.und, Result.andThen_ok, hd, Sem.run_pure], .int _ _⟩
  · rename_i n el ht
    obtain ⟨i, ht, hd⟩ := desc_of ht
    have ta := ok.at ht
    cases e
    exact ⟨by simp only [Builtin.len_, ht0, e0, Sem.run_bind, ta.und, Result.andThen_ok, hd, Sem.run_pure], .int _ _⟩
  · rename_i ht
    obtain ⟨i, ht, hd⟩ := desc_of ht
    have ta := ok.at ht
    cases e
    cases hx <;> exact ⟨by simp only [Builtin.len_, ht0, e0, Sem.run_bind, ta.und, Result.andThen_ok, hd, Sem.run_pure], .int _ _⟩
  · rename_i ht
    obtain ⟨i, ht, hd⟩ := desc_of ht
    have ta := ok.at ht
    cases e; cases hx
    exact ⟨by simp only [Builtin.len_, ht0, e0, Sem.run_bind, ta.und, Result.andThen_ok, hd, Sem.run_pure], .int _ _⟩
  · rename_i ht
    obtain ⟨i, ht, hd⟩ := desc_of ht
    have ta := ok.at ht
    split at e
    case h_2 => cases e
    rename_i es clock hg
    cases e
    obtain ⟨kk, es', g1, g2, g3, g4⟩ := r.map hg
    cases hx with
    | map hmm =>
      rw [g1] at hmm; cases hmm
      refine ⟨?_, .int _ _⟩
      simp only [Builtin.len_, ht0, e0, Sem.run_bind, ta.und, Result.andThen_ok, hd, Sem.run_pure, run_getObj' g3 (by intros; simp)]
      rw [g4.length]; simp
  · cases e

theorem minmax_sound (mx : Bool) (ts : Array Nat) (ty : Nat) {xs : List Value} {xs' : Array Value} {v : Value} (e : minmax mx xs = some v) (hx : VRL m xs xs'.toList) (w : World) :
    (if mx then (Builtin.max_ ts ty xs').run P w = .ok v w else (Builtin.min_ ts ty xs').run P w = .ok v w) ∧ VR m v v := by
  unfold minmax at e
  have key : ∀ (l l' : List Value) (k : IntKind) (a : Int) (v : Value), l.foldlM (fun a y => match a, y with
      | .int k x, .int _ y => some (.int k (if (if mx then y > x else y < x) then y else x))
      | _, _ => none) (Value.int k a) = some v → VRL m l l' → (if mx then (l'.foldlM Builtin.max2 (.int k a)).run P w = .ok v w else (l'.foldlM Builtin.min2 (.int k a)).run P w = .ok v w) ∧ VR m v v := by
    intro l
    induction l with
    | nil =>
      intro l' k a v e hl
      cases hl
      simp only [List.foldlM_nil, Option.pure_def, Option.some.injEq] at e; subst e
      exact ⟨by cases mx <;> simp, .int _ _⟩
    | cons y l ih =>
      intro l' k a v e hl
      cases hl with
      | cons h1 h2 =>
        rw [List.foldlM_cons] at e
        cases h1 with
        | int k' n =>
          simp only [Option.bind_eq_bind, Option.bind_some] at e
          obtain ⟨q1, q2⟩ := ih _ _ _ _ e h2
          refine ⟨?_, q2⟩
          cases mx
          · simp only [Bool.false_eq_true, if_false] at q1 ⊢
            rw [List.foldlM_cons]
            simp only [Builtin.min2, Sem.run_bind, Sem.run_pure, Result.andThen_ok]
            exact q1
          · simp only [if_true] at q1 ⊢
            rw [List.foldlM_cons]
            simp only [Builtin.max2, Sem.run_bind, Sem.run_pure, Result.andThen_ok]
            exact q1
        | _ => simp at e
  split at e
  · cases e
  · rename_i k a rest
    generalize hxs : xs'.toList = l' at hx
    cases hx with
    | cons h1 h2 =>
      cases h1
      obtain ⟨q1, q2⟩ := key _ _ _ _ _ e h2
      refine ⟨?_, q2⟩
      cases mx
      · simpa [Builtin.min_, hxs] using q1
      · simpa [Builtin.max_, hxs] using q1
  · cases e

theorem firstN_sound (r : Rel K w0 m h w) {sz n : Nat} {x x' : Value} {cs : List Value} (e : firstN h sz n x = some cs) (hx : VR m x x') :
    ∃ cs', (Builtin.firstCells sz n x').run P w = .ok cs' w ∧ VRL m cs cs'.toList ∧ cs.length = n * sz := by
  unfold firstN at e
  have len0 : ∀ {b off k : Nat} {c : List Value}, AM.loadN h b off k = some c → c.length = k := by
    intro b off k c e
    unfold AM.loadN at e
    split at e
    case h_2 => cases e
    split at e
    case isFalse => cases e
    rename_i hle
    rw [Nat.ble_eq] at hle
    cases e; simp; omega
  split at e
  · rename_i b off len cap
    split at e
    case isFalse => cases e
    rename_i hn
    rw [Nat.ble_eq] at hn
    cases hx with
    | sl hm hs =>
      rename_i k o' c'
      have hcase : o' = off + k.sh ∨ len = 0 := by
        rcases hs with ⟨h, _⟩ | ⟨h, _⟩ | ⟨h, _⟩
        · exact .inl h
        · exact .inr h
        · exact .inr h
      rcases hcase with rfl | rfl
      · obtain ⟨c', g1, g2⟩ := r.loadN (P := P) e hm
        exact ⟨c'.toArray, by simpa [Builtin.firstCells] using g1, by simpa using g2, len0 e⟩
      · have hn0 : n = 0 := by omega
        subst hn0
        have hl := len0 e
        rw [Nat.zero_mul] at hl
        have : cs = [] := List.length_eq_zero_iff.1 hl
        subst this
        refine ⟨#[], ?_, .nil, by simp⟩
        simp [Builtin.firstCells, loadCells, loadCellsFrom]
  · split at e
    case isFalse => cases e
    rename_i hn
    have hn := Nat.eq_of_beq_eq_true hn
    subst hn
    cases e; cases hx
    exact ⟨#[], by simp [Builtin.firstCells], .nil, by simp⟩
  · rename_i s
    split at e
    case isFalse => cases e
    rename_i hc
    simp only [Bool.and_eq_true, Nat.ble_eq] at hc
    have hsz := Nat.eq_of_beq_eq_true hc.1
    subst hsz
    cases e; cases hx
    refine ⟨((s.extract 0 n).data.map fun b => Value.int .u8 b.toNat), by simp [Builtin.firstCells], ?_, ?_⟩
    · have : ((s.extract 0 n).data.map fun b => Value.int .u8 b.toNat).toList = (s.data.toList.take n).map fun b => Value.int .u8 b.toNat := by
        simp [ByteArray.data_extract, List.extract]
      rw [this]
      generalize s.data.toList.take n = l
      induction l with
      | nil => exact .nil
      | cons b l ih => exact .cons (.int _ _) ih
    · simp; have : s.data.size = s.size := rfl
      omega
  · cases e

theorem lenV_sound {x x' : Value} {n : Nat} (e : lenV x = some n) (hx : VR m x x') (w : World) : (Builtin.lenOf x').run P w = .ok n w := by
  unfold lenV at e
  split at e
  · cases e; cases hx <;> simp [Builtin.lenOf]
  · cases e; cases hx; simp [Builtin.lenOf]
  · cases e
end
end Go.AM
namespace Go.AM
section
variable {P : Program} {T : Tbl} {K : Kp} {w0 : World} {m : M} {h : AH} {w : World}

/-- A block given up, and taken again under a new name. -/
theorem Rel.retake (r : Rel K w0 m h w) {i : Nat} {k : Blk} {o0 : AObj} (hi : h.get i = some o0) (hm : m i = some k) (hl : i < lim) (hr : h.room = true) (k2 : Blk) (hk : k2.b = k.b) (o : AObj) (ob : Obj)
    (ho : ObjR (fun j => if j = h.nx then some k2 else m j) k2 o ob) :
    Rel K w0 (fun j => if j = h.nx then some k2 else m j) ((h.kill i).new o) (w.putObj k.b ob) ∧ m.le (fun j => if j = h.nx then some k2 else m j) := by
  have hle : m.le (fun j => if j = h.nx then some k2 else m j) := fun j k' e => by
    have := r.dom j k' e
    simp only; rw [if_neg (by omega)]; exact e
  obtain ⟨k0, ob0, h1, h2, h3, h4⟩ := r.live i o0 hi
  rw [hm] at h1; cases h1
  have hlt := lt_of_get h3
  have hr' : (h.kill i).room = true := hr
  have sub : ∀ j o', j ≠ h.nx → ((h.kill i).new o).get j = some o' → h.get j = some o' ∧ j ≠ i := fun j o' hj e => by
    rw [AH.get_new _ _ _ hr'] at e
    rw [if_neg (by exact hj)] at e
    rw [AH.get_kill _ _ _ hl] at e
    split at e
    · cases e
    · exact ⟨e, by assumption⟩
  refine ⟨⟨?_, ?_, ?_, ?_, ?_, fun i hi => ?_, r.io⟩, hle⟩
  rotate_left 5
  · obtain ⟨h1, h2⟩ := r.und i hi
    refine ⟨by show i < h.nx + 1; omega, ?_⟩
    rw [if_neg (by omega)]; exact h2
  · intro j k' e
    show j < h.nx + 1
    split at e
    · omega
    · have := r.dom j k' e; omega
  · intro j o' e
    by_cases hj : j = h.nx
    · subst hj
      rw [AH.get_new _ _ _ hr', if_pos (show h.nx = (h.kill i).nx from rfl)] at e; cases e
      exact ⟨k2, ob, by simp, by rw [hk]; exact h2, by rw [hk]; exact World.putObj_heap_same hlt, ho⟩
    · obtain ⟨e', hji⟩ := sub j o' hj e
      obtain ⟨k', ob', g1, g2, g3, g4⟩ := r.live j o' e'
      refine ⟨k', ob', hle _ _ g1, g2, ?_, g4.mono hle⟩
      rw [World.putObj_heap_other]; exact g3
      intro hb; exact hji (r.inj j i o' o0 k' k e' hi g1 hm hb)
  · intro a b o1 o2 k1 k2' e1 e2 f1 f2 hb
    by_cases ha : a = h.nx
    · by_cases hb' : b = h.nx
      · omega
      · simp only [ha, if_true] at f1; cases f1
        simp only [if_neg hb'] at f2
        obtain ⟨e2', hji⟩ := sub b o2 hb' e2
        exact absurd (r.inj b i o2 o0 k2' k e2' hi f2 hm (by rw [← hb, hk])) hji
    · by_cases hb' : b = h.nx
      · simp only [hb', if_true] at f2; cases f2
        simp only [if_neg ha] at f1
        obtain ⟨e1', hji⟩ := sub a o1 ha e1
        exact absurd (r.inj a i o1 o0 k1 k e1' hi f1 hm (by rw [hb, hk])) hji
      · simp only [if_neg ha] at f1
        simp only [if_neg hb'] at f2
        exact r.inj a b _ _ k1 k2' (sub a o1 ha e1).1 (sub b o2 hb' e2).1 f1 f2 hb
  · intro b hb
    have g1 := r.keep b hb
    refine ⟨g1.1, ?_⟩
    rw [World.putObj_heap_other]; exact g1.2
    intro e; exact h2 (e ▸ hb)
  · simpa using r.size

theorem acopy_sound (ok : TOk T P) (r : Rel K w0 m h w) {ts : Array Nat} (ty : Nat) {x x' s s' v : Value} {h' : AH} (e : acopy T ts.toList x s h = some (v, h')) (hx : VR m x x') (hs : VR m s s') :
    ∃ v' w' m', (Builtin.copy_ ts ty #[x', s']).run P w = .ok v' w' ∧ m.le m' ∧ Rel K w0 m' h' w' ∧ VR m' v v' := by
  unfold acopy at e
  split at e
  case h_2 => cases e
  rename_i t rest hts
  have ht0 : ts[0]? = some t := by rw [← Array.getElem?_toList, hts]; rfl
  have e0 : (#[x', s'] : Array Value)[0]? = some x' := rfl
  have e1 : (#[x', s'] : Array Value)[1]? = some s' := rfl
  split at e
  case h_2 => cases e
  rename_i el base dLen dCap ht
  obtain ⟨i, ht, hd⟩ := desc_of ht
  have ta := ok.at ht
  cases hel : T.ty el with
  | none => rw [hel] at e; cases e
  | some ei =>
    have te := ok.at hel
    rw [hel] at e; simp only [Option.bind_some] at e
    cases hl : lenV s with
    | none => rw [hl] at e; cases e
    | some sl =>
      rw [hl] at e; simp only [Option.bind_some] at e
      cases hf : firstN h ei.size (Nat.min sl dLen) s with
      | none => rw [hf] at e; cases e
      | some cs =>
        rw [hf] at e; simp only [Option.bind_some] at e
        obtain ⟨cs', f1, f2, f3⟩ := firstN_sound (P := P) r hf hs
        have hlen := lenV_sound (P := P) hl hs w
        cases hx with
        | nilsl =>
          simp only [Option.some.injEq, Prod.mk.injEq] at e
          obtain ⟨rfl, rfl⟩ := e
          refine ⟨goInt (Nat.min sl 0), w, m, ?_, m.le_refl, r, .int _ _⟩
          simp only [Builtin.copy_, ht0, e0, e1, Sem.run_bind, ta.und, Result.andThen_ok, hd, hlen, te.size, f1, Sem.run_pure]
        | sl hm hsl =>
          rename_i i1 k o o' c'
          simp only at e
          split at e
          · rename_i hn
            simp only [Option.some.injEq, Prod.mk.injEq] at e
            obtain ⟨rfl, rfl⟩ := e
            have hcs : cs' = #[] := by
              have := f2.length
              rw [f3, hn, Nat.zero_mul] at this
              exact Array.size_eq_zero_iff.1 (by simpa using this.symm)
            subst hcs
            refine ⟨goInt (Nat.min sl dLen), w, m, ?_, m.le_refl, r, ?_⟩
            · simp only [Builtin.copy_, ht0, e0, e1, Sem.run_bind, ta.und, Result.andThen_ok, hd, hlen, te.size, f1, Sem.run_pure, storeCells]
            · rw [hn]; exact .int _ _
          · rename_i hn
            cases hst : AM.storeN h i1 o cs with
            | none => rw [hst] at e; cases e
            | some h2 =>
              rw [hst] at e; simp only [Option.map_some, Option.some.injEq, Prod.mk.injEq] at e
              obtain ⟨rfl, rfl⟩ := e
              have ho : o' = o + k.sh := by
                have : dLen ≠ 0 := fun h0 => hn (by subst h0; exact Nat.min_zero sl)
                rcases hsl with ⟨h, _⟩ | ⟨h, _⟩ | ⟨h, _⟩
                · exact h
                · exact absurd h this
                · exact absurd h this
              subst ho
              obtain ⟨w', g1, g2⟩ := r.storeN (P := P) hst f2 hm
              refine ⟨goInt (Nat.min sl dLen), w', m, ?_, m.le_refl, g2, .int _ _⟩
              simp only [Builtin.copy_, ht0, e0, e1, Sem.run_bind, ta.und, Result.andThen_ok, hd, hlen, te.size, f1, Sem.run_pure, g1]

theorem run_append_in {ts : Array Nat} (ty : Nat) {st xt el : Nat} {xd : TypeDesc} {size : Nat} (h0 : ts[0]? = some st) (h1 : ts[1]? = some xt) (us : (underlying st).run P w = .ok (.slice el) w) (ux : (underlying xt).run P w = .ok xd w)
    (hx : ∀ k, xd ≠ .int k) (hsz : (sizeOf el).run P w = .ok size w) {base : Option Addr} {sLen sCap n : Nat} {x : Value} {new : Array Value} {w' : World} (hl : (Builtin.lenOf x).run P w = .ok n w)
    (hn : (Builtin.firstCells size n x).run P w = .ok new w) (hle : sLen + n ≤ sCap) (hst : (base = none ∧ w' = w) ∨ ∃ a, base = some a ∧ (storeCells (a.add (sLen * size)) new.toList).run P w = .ok () w') :
    (Builtin.append_ ts ty #[.slice base sLen sCap, x]).run P w = .ok (.slice base (sLen + n) sCap) w' := by
  have e0 : (#[.slice base sLen sCap, x] : Array Value)[0]? = some (.slice base sLen sCap) := rfl
  have e1 : (#[.slice base sLen sCap, x] : Array Value)[1]? = some x := rfl
  rcases hst with ⟨rfl, rfl⟩ | ⟨a, rfl, hst⟩
  · cases xd <;> first
      | exact absurd rfl (hx _)
      | simp only [Builtin.append_, h0, h1, e0, e1, Sem.run_bind, us, ux, hsz, Result.andThen_ok, Sem.run_pure, Bool.false_eq_true, if_false, hl, Bool.not_false, if_true, hle, hn]
  · cases xd <;> first
      | exact absurd rfl (hx _)
      | simp only [Builtin.append_, h0, h1, e0, e1, Sem.run_bind, us, ux, hsz, Result.andThen_ok, Sem.run_pure, Bool.false_eq_true, if_false, hl, Bool.not_false, if_true, hle, hn, hst]

theorem run_append_grow {ts : Array Nat} (ty : Nat) {st xt el : Nat} {xd : TypeDesc} {size : Nat} {inf : TypeInfo} {zero : Value} (h0 : ts[0]? = some st) (h1 : ts[1]? = some xt) (us : (underlying st).run P w = .ok (.slice el) w) (ux : (underlying xt).run P w = .ok xd w)
    (hx : ∀ k, xd ≠ .int k) (hsz : (sizeOf el).run P w = .ok size w) (hinf : ∀ w, (typeInfo el).run P w = .ok inf w) (hz : ∀ w, (zeroValue el).run P w = .ok zero w) {base : Option Addr} {sLen sCap n : Nat} {x : Value} {old new : Array Value} (hl : (Builtin.lenOf x).run P w = .ok n w)
    (ho : (Builtin.firstCells size sLen (.slice base sLen sCap)).run P w.drew = .ok old w.drew)
    (hn : (Builtin.firstCells size n x).run P w.drew = .ok new w.drew) (hgt : sCap < sLen + n) (hsm : sLen + n ≤ 1000000000) (hfit : Builtin.nextslicecap (sLen + n) sCap * inf.bytes ≤ 281474976710656) :
    ∃ c, sLen + n ≤ c ∧ (Builtin.append_ ts ty #[.slice base sLen sCap, x]).run P w = .ok (.slice (some ⟨w.heap.size, 0, none⟩) (sLen + n) c) (w.drew.alloc (.cells (old ++ new ++ Builtin.zeroCells zero.cells (c - (sLen + n))) el)) := by
  have e0 : (#[.slice base sLen sCap, x] : Array Value)[0]? = some (.slice base sLen sCap) := rfl
  have e1 : (#[.slice base sLen sCap, x] : Array Value)[1]? = some x := rfl
  refine ⟨(Question.appendCap (sLen + n) sCap el).cut (w.tape w.drawn (.appendCap (sLen + n) sCap el)), Nat.le_add_right _ _, ?_⟩
  have g1 : ¬ (sLen + n ≤ sCap) := by omega
  have g2 : ¬ (((sLen + n : Nat) : Int) > IntKind.i64.max ∧ (False ∨ inf.bytes = 0)) := fun h => by
    have : (IntKind.i64.max : Int) = 9223372036854775807 := by decide
    have := h.1
    omega
  have g3 : ¬ (Builtin.nextslicecap (sLen + n) sCap * inf.bytes > 2 ^ 48) := by
    have : (2 : Nat) ^ 48 = 281474976710656 := by decide
    omega
  have hch : (choose (.appendCap (sLen + n) sCap el)).run P w = .ok ((Question.appendCap (sLen + n) sCap el).cut (w.tape w.drawn (.appendCap (sLen + n) sCap el))) w.drew := by
    rw [run_choose]; rfl
  cases xd <;> first
      | exact absurd rfl (hx _)
      | (simp only [Builtin.append_, h0, h1, e0, e1, Sem.run_bind, us, ux, hsz, Result.andThen_ok, Sem.run_pure, Bool.false_eq_true, if_false, hl, Bool.not_false, if_true, if_neg g1, hinf, if_neg g2, if_neg g3, hch, run_askRoom, ho, hn, hz]
         rfl)

theorem VRL.append_toArray {a b : List Value} {c d : Array Value} (h : VRL m a c.toList) (h' : VRL m b d.toList) : VRL m (a ++ b) (c ++ d).toList := by
  rw [Array.toList_append]; exact h.append h'

theorem aappend_sound (ok : TOk T P) (r : Rel K w0 m h w) {ts : Array Nat} (ty : Nat) {x x' s s' v : Value} {h' : AH} (e : aappend T ts.toList s x h = some (v, h')) (hs : VR m s s') (hx : VR m x x') :
    ∃ v' w' m', (Builtin.append_ ts ty #[s', x']).run P w = .ok v' w' ∧ m.le m' ∧ Rel K w0 m' h' w' ∧ VR m' v v' := by
  unfold aappend at e
  split at e
  case h_2 => cases e
  rename_i st xt rest hts
  have h0 : ts[0]? = some st := by rw [← Array.getElem?_toList, hts]; rfl
  have h1 : ts[1]? = some xt := by rw [← Array.getElem?_toList, hts]; rfl
  split at e
  case h_2 => cases e
  rename_i el xd base sLen sCap ht htx
  obtain ⟨i, ht, hd⟩ := desc_of ht
  have ta := ok.at ht
  obtain ⟨xi, htx, hxd⟩ := desc_of htx
  have tx := ok.at htx
  split at e
  case h_1 => cases e
  rename_i hnint
  cases hel : T.ty el with
  | none => rw [hel] at e; cases e
  | some ei =>
    have te := ok.at hel
    rw [hel] at e; simp only [Option.bind_some] at e
    cases hl : lenV x with
    | none => rw [hl] at e; cases e
    | some n =>
      rw [hl] at e; simp only [Option.bind_some] at e
      split at e
      case isTrue => cases e
      rename_i hc
      simp only [Bool.or_eq_true, Bool.not_eq_true', not_or, Bool.not_eq_false, Nat.ble_eq] at hc
      obtain ⟨⟨⟨c1, c2⟩, c3⟩, c4⟩ := hc
      have c1 : ei.size ≠ 0 := fun h => c1 (by rw [h]; rfl)
      have c4 := cells_size_zero c4
      cases hf : firstN h ei.size n x with
      | none => rw [hf] at e; cases e
      | some new =>
        rw [hf] at e; simp only [Option.bind_some] at e
        have us : ∀ w, (underlying st).run P w = .ok (.slice el) w := fun w => by rw [ta.und, hd]
        have ux : ∀ w, (underlying xt).run P w = .ok xd w := fun w => by rw [tx.und, hxd]
        have hni : ∀ k, xd ≠ .int k := fun k h => hnint k h
        obtain ⟨new', f1, f2, f3⟩ := firstN_sound (P := P) r hf hx
        obtain ⟨new2, f1', f2', _⟩ := firstN_sound (P := P) r.drew hf hx
        have hlen := lenV_sound (P := P) hl hx w
        have hnl : new2.size = n * ei.size := by have := f2'.length; rw [f3] at this; simpa using this.symm
        have hnl1 : new'.size = n * ei.size := by have := f2.length; rw [f3] at this; simpa using this.symm
        -- growing, on the world's side
        have grow : ∀ (base' : Option Addr) (c' : Nat) (old : List Value) (old' : Array Value), s' = .slice base' sLen c' → c' < sLen + n → (Builtin.firstCells ei.size sLen (.slice base' sLen c')).run P w.drew = .ok old' w.drew → VRL m old old'.toList → old.length = sLen * ei.size →
            ∀ (h1 : AH), Rel K w0 m h1 w.drew → h1.room = true → h1.nx = h.nx → ∃ v' w' m', (Builtin.append_ ts ty #[s', x']).run P w = .ok v' w' ∧ m.le m' ∧ Rel K w0 m' (h1.new (.cells (old ++ new) ei.size)) w' ∧ VR m' (.slice (some ⟨h.nx, 0, none⟩) (sLen + n) (sLen + n)) v' := by
          intro base' c' old old' hs' hgt ho hvo hol h1' r1 hr1 hnx
          subst hs'
          obtain ⟨inf, i1, i2, i3⟩ := te.bytes w
          have hi1 : ∀ w, (typeInfo el).run P w = .ok inf w := by
            intro w2
            obtain ⟨inf2, j1, j2, j3⟩ := te.bytes w2
            obtain ⟨_, ⟨info, q1, _⟩, _⟩ := ok.ty el ei hel
            rw [run_typeInfo' q1] at i1; cases i1
            exact run_typeInfo' q1 w2
          have hsm : sLen + n ≤ 1000000000 := Nat.le_trans (Nat.le_mul_of_pos_right _ (by omega)) c2
          have hfit : Builtin.nextslicecap (sLen + n) c' * inf.bytes ≤ 281474976710656 := by
            refine growslice_fits hgt ?_
            rw [i2]
            have : (sLen + n) * ei.bytes ≤ (sLen + n) * (ei.bytes + 1) := Nat.mul_le_mul_left _ (by omega)
            omega
          obtain ⟨c, g1, g2⟩ := run_append_grow ty h0 h1 (us w) (ux w) hni (te.size w) hi1 te.zero hlen ho f1' hgt hsm hfit
          have hvv : VRL m (old ++ new) (old' ++ new2).toList := hvo.append_toArray f2'
          have hz : (Builtin.zeroCells ei.zero.cells (c - (sLen + n))).size = (c - (sLen + n)) * ei.size := by simp [Builtin.zeroCells, c4]
          have hol' : old'.size = sLen * ei.size := by have := hvo.length; rw [hol] at this; simpa using this.symm
          obtain ⟨m', k, a1, a2, a3, a4, a5, a6, a7, a8⟩ := r1.newCellsF hr1 (row := old' ++ new2 ++ Builtin.zeroCells ei.zero.cells (c - (sLen + n))) (extra := (Builtin.zeroCells ei.zero.cells (c - (sLen + n))).toList) hvv (by simp) ei.size el (0, 0) (fun i _ => by simp)
          refine ⟨_, _, m', g2, a1, a2, ?_⟩
          have hb : k.b = w.heap.size := a4
          have hmul : (sLen + n) * ei.size = sLen * ei.size + n * ei.size := Nat.add_mul _ _ _
          have hmul2 : c * ei.size = (sLen + n) * ei.size + (c - (sLen + n)) * ei.size := by rw [← Nat.add_mul]; congr 1; omega
          have hn : k.n = (sLen + n) * ei.size := by rw [a6, List.length_append, hol, f3, hmul]
          have hcn : k.cn = c * ei.size := by rw [a8]; simp only [Array.size_append, hol', hnl, hz]; omega
          rw [← hb, ← hnx]
          refine .sl a3 (.inl ⟨by omega, ?_⟩)
          by_cases hq : c = sLen + n
          · exact .inl hq
          · exact .inr ⟨by omega, by omega, by rw [a7]; omega, by rw [a7]; omega⟩
        split at e
        · rename_i hle
          rw [Nat.ble_eq] at hle
          cases hs with
          | nilsl =>
            simp only [Option.map_some, Option.some.injEq, Prod.mk.injEq] at e
            obtain ⟨rfl, rfl⟩ := e
            have hn0 : n = 0 := by omega
            refine ⟨_, w, m, run_append_in ty h0 h1 (us w) (ux w) hni (te.size w) hlen f1 hle (.inl ⟨rfl, rfl⟩), m.le_refl, r, ?_⟩
            subst hn0; exact .nilsl
          | sl hm hsl =>
            rename_i i1 k o o' c'
            have hcc : sCap ≤ c' := by
              rcases hsl with ⟨_, h | ⟨h, _⟩⟩ | ⟨_, h, _⟩ | ⟨_, h, _⟩ <;> omega
            simp only at e
            by_cases hn0 : n = 0
            · rw [if_pos hn0] at e
              simp only [Option.map_some, Option.some.injEq, Prod.mk.injEq] at e
              obtain ⟨rfl, rfl⟩ := e
              have hcs : new' = #[] := Array.size_eq_zero_iff.1 (by rw [hnl1, hn0, Nat.zero_mul])
              subst hcs
              refine ⟨_, w, m, run_append_in ty h0 h1 (us w) (ux w) hni (te.size w) hlen f1 (by omega) (.inr ⟨_, rfl, rfl⟩), m.le_refl, r, .sl hm ?_⟩
              rw [hn0]
              rcases hsl with h | ⟨h1, h2⟩ | ⟨h1, h2⟩
              · exact .inl h
              · exact .inr (.inl ⟨by omega, h2⟩)
              · exact .inr (.inr ⟨by omega, h2⟩)
            · rw [if_neg hn0] at e
              cases hst : AM.storeN h i1 (o + sLen * ei.size) new with
              | none => rw [hst] at e; cases e
              | some h2 =>
                rw [hst] at e; simp only [Option.map_some, Option.some.injEq, Prod.mk.injEq] at e
                obtain ⟨rfl, rfl⟩ := e
                rcases hsl with ⟨ho, hsl⟩ | ⟨_, h, _⟩ | ⟨_, h, _⟩
                · obtain ⟨w', g1, g2⟩ := r.storeN (P := P) hst f2 hm
                  refine ⟨_, w', m, run_append_in ty h0 h1 (us w) (ux w) hni (te.size w) hlen f1 (by omega) (.inr ⟨_, rfl, ?_⟩), m.le_refl, g2, .sl hm (.inl ⟨ho, hsl⟩)⟩
                  rw [Addr.add_eq, show o' + sLen * ei.size = o + sLen * ei.size + k.sh by omega]; exact g1
                · omega
                · omega
        · rename_i hgt
          have hgt : sCap < sLen + n := by
            rcases Nat.lt_or_ge sCap (sLen + n) with h | h
            · exact h
            · exact absurd (by rw [Nat.ble_eq]; exact h) hgt
          cases hs with
          | nilsl =>
            simp only [Option.some.injEq, Prod.mk.injEq] at e
            obtain ⟨rfl, rfl⟩ := e
            exact grow none 0 [] #[] rfl hgt (by simp [Builtin.firstCells]) .nil (by simp) h r.drew c3 rfl
          | sl hm hsl =>
            rename_i i1 k o o' c'
            simp only at e
            split at e
            case h_2 => cases e
            rename_i c sz hg
            split at e
            case isFalse => cases e
            rename_i hcd
            simp only [Bool.and_eq_true, Nat.blt_eq] at hcd
            obtain ⟨⟨d1, d2⟩, d3⟩ := hcd
            have d1 := Nat.eq_of_beq_eq_true d1
            subst d1
            cases hfo : firstN h ei.size sLen (.slice (some ⟨i1, o, none⟩) sLen sCap) with
            | none => rw [hfo] at e; cases e
            | some old =>
              rw [hfo] at e; simp only [Option.map_some, Option.some.injEq, Prod.mk.injEq] at e
              obtain ⟨rfl, rfl⟩ := e
              obtain ⟨old', p1, p2, p3⟩ := firstN_sound (P := P) r.drew hfo (.sl hm hsl)
              by_cases hbig : c' < sLen + n
              · exact grow _ c' old old' rfl hbig p1 p2 p3 (h.kill i1) (r.drew.kill _ d2) c3 rfl
              · obtain ⟨kk, cw, t', fz, q1, q2, q3, q4⟩ := r.cells hg
                rw [hm] at q1; cases q1
                have hsz := q4.hsz
                have hn4 := q4.hn
                have hcn4 := q4.hcn
                have hle4 := q4.le
                -- the slice's place
                have place : o' + c' * ei.size ≤ k.cn ∧ (o' = o + k.sh ∨ sLen = 0) := by
                  rcases hsl with ⟨ho, h | ⟨_, _, _, h5⟩⟩ | ⟨_, h, h'⟩ | ⟨h5, h6, h7, h8, h9⟩
                  · omega
                  · rw [hsz] at h5; exact ⟨h5, .inl ho⟩
                  · omega
                  · rw [hsz] at h9; exact ⟨h9, .inr h5⟩
                obtain ⟨pl1, pl2⟩ := place
                have hmul : (sLen + n) * ei.size = sLen * ei.size + n * ei.size := Nat.add_mul _ _ _
                have hmul2 : (sLen + n) * ei.size ≤ c' * ei.size := Nat.mul_le_mul_right _ (by omega)
                have hst := run_storeCells_blk (P := P) (b := k.b) (o := o' + sLen * ei.size) (t := t') (fz := fz) new'.toList 0 cw w q3 (by simp only [Array.length_toList, hnl1]; omega) (fun j hj => q4.free j (by omega)) (f2.oneCells d3)
                have hle' : m.le (fun j => if j = h.nx then some { b := k.b, sh := o', n := (sLen + n) * ei.size, cn := k.cn, sz := ei.size } else m j) := fun j k' e => by
                  have := r.dom j k' e
                  simp only; rw [if_neg (by omega)]; exact e
                have hold : ∀ i v, old[i]? = some v → o' = o + k.sh ∧ ∃ v', cw[o' + i]? = some v' ∧ VR m v v' := by
                  intro i v hv
                  have hi : i < sLen * ei.size := by rw [← p3]; exact (List.getElem?_eq_some_iff.1 hv).1
                  have ho : o' = o + k.sh := by
                    rcases pl2 with h | h
                    · exact h
                    · rw [h, Nat.zero_mul] at hi; omega
                  refine ⟨ho, ?_⟩
                  simp only [firstN, Nat.ble_eq, Nat.le_refl, if_true] at hfo
                  unfold AM.loadN at hfo
                  rw [hg] at hfo
                  simp only at hfo
                  split at hfo
                  case isFalse => cases hfo
                  cases hfo
                  rw [List.getElem?_take, if_pos hi, List.getElem?_drop] at hv
                  obtain ⟨v', u1, u2⟩ := q4.vals _ _ hv
                  exact ⟨v', by rw [ho, show o + k.sh + i = k.sh + (o + i) by omega]; exact u1, u2⟩
                have hoff : o' + sLen * ei.size + 0 + new'.toList.length ≤ cw.toList.length := by simp only [Array.length_toList, hnl1]; omega
                have hR := r.retake hg hm d2 c3 { b := k.b, sh := o', n := (sLen + n) * ei.size, cn := k.cn, sz := ei.size } rfl (.cells (old ++ new) ei.size) (.cells (setAt cw.toList (o' + sLen * ei.size + 0) new'.toList).toArray t' fz)
                  (.cells ⟨by simp only [List.length_append, p3, f3]; omega, by simp only [List.size_toArray, setAt_length, Array.length_toList]; omega, rfl, by simp only; omega, by
                    intro i v hv
                    rw [List.getElem?_toArray, setAt_get _ _ _ _ hoff]
                    by_cases hi : i < sLen * ei.size
                    · rw [List.getElem?_append_left (by omega)] at hv
                      obtain ⟨u0, v', u1, u2⟩ := hold i v hv
                      refine ⟨v', ?_, u2.mono hle'⟩
                      simp only
                      rw [if_neg (by omega)]
                      simpa using u1
                    · rw [List.getElem?_append_right (by omega), p3] at hv
                      obtain ⟨v', u1, u2⟩ := f2.get _ hv
                      have hlt := (List.getElem?_eq_some_iff.1 u1).1
                      refine ⟨v', ?_, u2.mono hle'⟩
                      simp only
                      rw [if_pos (by omega), show o' + i - (o' + sLen * ei.size + 0) = i - sLen * ei.size by omega]; exact u1, fun i hi => q4.free i hi⟩)
                refine ⟨_, _, _, run_append_in ty h0 h1 (us w) (ux w) hni (te.size w) hlen f1 (by omega) (.inr ⟨_, rfl, ?_⟩), hR.2, hR.1, ?_⟩
                · rw [Addr.add_eq]; exact hst
                · have := VR.sl (m := fun j => if j = h.nx then some { b := k.b, sh := o', n := (sLen + n) * ei.size, cn := k.cn, sz := ei.size } else m j) (i := h.nx) (k := { b := k.b, sh := o', n := (sLen + n) * ei.size, cn := k.cn, sz := ei.size }) (o := 0) (o' := o') (l := sLen + n) (c := sLen + n) (c' := c') (by simp) (.inl ⟨by simp, ?_⟩)
                  · exact this
                  · by_cases hq : c' = sLen + n
                    · exact .inl hq
                    · exact .inr ⟨by omega, by simpa using c1, by simp, by simpa using pl1⟩
end
end Go.AM
namespace Go.AM
section
variable {P : Program} {T : Tbl} {K : Kp} {w0 : World} {m : M} {h : AH} {w : World}

theorem ROk.congr {s s' : Sem Next} {a : R} (e : s.run P w = s'.run P w) (k : ROk P K w0 m s h w a) : ROk P K w0 m s' h w a := by
  cases a <;> simp only [ROk] at k ⊢ <;> first | exact k | (rw [← e]; exact k)

theorem acallF_sound (ok : TOk T P) (r : Rel K w0 m h w) (f : Nat) {args : List Value} {args' : Array Value} (hv : VRL m args args'.toList) : ROk P K w0 m (callFunc f args') h w (acallF T f args h) := by
  unfold acallF
  split
  · rename_i g hg
    refine ROk.ofOpt r fun x e => ?_
    obtain ⟨h1, h2⟩ := ok.ext f g hg m args args' x w hv e
    exact ⟨x, h1, VR.of_plain m h2⟩
  · split
    case h_2 => exact trivial
    rename_i fn hfn
    cases hb : fn.body.isSome with
    | false => exact trivial
    | true =>
      simp only [cond_true]
      obtain ⟨h1, h2⟩ := ok.fn f fn hfn
      refine ⟨args', w, m, ?_, m.le_refl, r, hv⟩
      have hn : fn.body.isNone = false := by cases hq : fn.body <;> simp_all
      simp only [callFunc, Sem.run_bind, run_program, Result.andThen_ok, h1, h2, Bool.false_eq_true, if_false, hn, Sem.run_pure]

theorem run_nilChk (ts : Array TypeId) (ty : TypeId) (a : Addr) (nm : String) (w : World) : (Builtin.ssaWrapNilChk_ ts ty #[.pointer (some a), strVal "", strVal nm]).run P w = .ok (.pointer (some a)) w := rfl
theorem aviaMeth_sound (ok : TOk T P) (r : Rel K w0 m h w) {mt : Option (Nat × Bool)} {t : Nat} {x x' : Value} {rest : List Value} {rest' : Array Value} (hx : VR m x x') (hr : VRL m rest rest'.toList) (wr : Option String) :
    ∀ f b, mt = some (f, b) → ROk P K w0 m (do callFunc f (#[← receiverAt t (.val x') b wr] ++ rest')) h w (aviaMeth T mt (T.desc t) x rest h) := by
  intro f b hmt
  subst hmt
  have call : ∀ (y y' : Value), VR m y y' → (receiverAt t (.val x') b wr).run P w = .ok y' w → ROk P K w0 m (do callFunc f (#[← receiverAt t (.val x') b wr] ++ rest')) h w (acallF T f (y :: rest) h) := by
    intro y y' hy hrun
    refine ROk.congr ?_ (acallF_sound ok r f (args := y :: rest) (args' := #[y'] ++ rest') (by rw [Array.toList_append]; exact .cons hy hr))
    simp only [Sem.run_bind, hrun, Result.andThen_ok]
  unfold aviaMeth
  split
  · rename_i f1 e h1 h2
    cases h1
    obtain ⟨i, ht, hd⟩ := desc_of h2
    have ta := ok.at ht
    refine call x x' hx ?_
    simp only [receiverAt, Sem.run_bind, ta.und, Result.andThen_ok, hd, Place.get, Sem.run_pure]
  · rename_i f1 e h1 h2
    cases h1
    obtain ⟨i, ht, hd⟩ := desc_of h2
    have ta := ok.at ht
    cases hl : aload T e x h with
    | none => exact trivial
    | some v =>
      obtain ⟨v', g1, g2, a, rfl, g3⟩ := aload_sound ok r hl hx
      refine call v v' g2 ?_
      cases wr with
      | none => simp only [receiverAt, Sem.run_bind, ta.und, Result.andThen_ok, hd, Place.get, Sem.run_pure, asAddr, g3]
      | some nm => simp only [receiverAt, Sem.run_bind, ta.und, Result.andThen_ok, hd, Place.get, Sem.run_pure, run_nilChk, asAddr, g3]
  · rename_i f1 d h3 h1 h2
    cases h1
    obtain ⟨i, ht, hd⟩ := desc_of h2
    have ta := ok.at ht
    refine call x x' hx ?_
    simp only [receiverAt, Sem.run_bind, ta.und, Result.andThen_ok, Place.get]
    have : ∀ e, i.desc ≠ .pointer e := fun e he => h3 e (by rw [← hd, he])
    cases hq : i.desc <;> first | rfl | exact absurd hq (this _)
  · exact trivial

theorem acallMethod_sound (ok : TOk T P) (r : Rel K w0 m h w) {t : Nat} {name : String} {x x' : Value} {rest : List Value} {rest' : Array Value} (hx : VR m x x') (hr : VRL m rest rest'.toList) :
    ROk P K w0 m (callMethod (.iface t x') name rest') h w (aviaMeth T (T.meth t name) (T.desc t) x rest h) := by
  cases hmt : T.meth t name with
  | none => simp only [aviaMeth]; exact trivial
  | some p =>
    obtain ⟨f, b⟩ := p
    obtain ⟨info, mm, h1, h2, h3, h4⟩ := ok.meth t name f b hmt
    refine ROk.congr ?_ (aviaMeth_sound ok r hx hr (some ((name.splitOn ".").getLastD name)) f b rfl)
    have hd : P.types.size + Made.depth = (P.types.size + (Made.depth - 1)) + 1 := by simp [Made.depth]
    simp only [callMethod, Sem.run_bind, run_program, Result.andThen_ok]
    rw [hd]
    simp only [method, Sem.run_bind, run_typeInfo' h1, Result.andThen_ok, h2, h3, follow, Sem.run_pure, h4, Array.toList_empty, Array.isEmpty_empty, if_true]
    cases (receiverAt t (Place.val x') b (some ((name.splitOn ".").getLastD name))).run P w <;> rfl

theorem ainvoke_sound (ok : TOk T P) (r : Rel K w0 m h w) {fn fn' : Fn} {captured : List Value} {captured' : Array Value} {args : List Value} {args' : Array Value} (hf : FR m fn fn') (hc : VRL m captured captured'.toList) (ha : VRL m args args'.toList) :
    ROk P K w0 m (invoke (.fn fn' captured') args') h w (ainvoke T fn captured args h) := by
  unfold ainvoke
  split
  · cases hf
    exact acallF_sound ok r _ (by rw [Array.toList_append]; exact ha.append hc)
  · cases hf with
    | yield hm => exact ⟨_, args', hm, ha, rfl, rfl⟩
  · cases hf
    split
    case h_2 => exact trivial
    rename_i t v rest
    generalize hb : args'.toList = l' at ha
    cases ha with
    | cons h1 h2 =>
      rename_i w' rest'
      cases h1 with
      | iface h1 =>
        rename_i w'
        have e0 : args'[0]? = some (.iface t w') := by rw [← Array.getElem?_toList, hb]; rfl
        have e1 : args'.extract 1 args'.size = rest'.toArray := by
          apply Array.toList_inj.1; rw [Array.toList_extract, hb]; simp [List.extract, ← Array.length_toList, hb]
        refine ROk.congr ?_ (acallMethod_sound ok r h1 (rest' := rest'.toArray) (by simpa using h2))
        simp only [invoke, e0, e1]
  · rename_i t path f b
    cases hf
    split
    case h_2 => exact trivial
    rename_i x rest
    generalize hb : args'.toList = l' at ha
    cases ha with
    | cons h1 h2 =>
      rename_i w' rest'
      split
      case isFalse => exact trivial
      rename_i hp
      have e0 : args'[0]? = some w' := by rw [← Array.getElem?_toList, hb]; rfl
      have e1 : args'.extract 1 args'.size = rest'.toArray := by
        apply Array.toList_inj.1; rw [Array.toList_extract, hb]; simp [List.extract, ← Array.length_toList, hb]
      have hp : path = #[] := by simpa using hp
      subst hp
      refine ROk.congr ?_ (aviaMeth_sound ok r (mt := some (f, b)) h1 (rest' := rest'.toArray) (by simpa using h2) none f b rfl)
      simp only [invoke, e0, e1, receiverVia, follow, Sem.run_bind, Sem.run_pure, Result.andThen_ok, Array.toList_empty]
  · exact trivial

theorem acallV_sound (ok : TOk T P) (r : Rel K w0 m h w) {f f' : Value} {args : List Value} {args' : Array Value} (hf : VR m f f') (ha : VRL m args args'.toList) :
    ROk P K w0 m (do let d ← Deferred.ofValue f' args'; invoke d.target d.args) h w (acallV T f args h) := by
  unfold acallV
  split
  case h_2 => exact trivial
  rename_i fn first captured
  cases hf with
  | func h1 h2 h3 =>
    refine ROk.congr ?_ (ainvoke_sound ok r h1 h3 (by rw [Array.toList_append]; exact h2.append ha))
    simp only [Deferred.ofValue, Sem.run_bind, Sem.run_pure, Result.andThen_ok]

theorem abuiltin_sound (ok : TOk T P) (r : Rel K w0 m h w) {b : Builtin} {ts : Array Nat} (ty : Nat) (cs : Array Bool) {args : List Value} {args' : Array Value} (ha : VRL m args args'.toList) :
    ROk P K w0 m (builtin b ts ty cs args') h w (abuiltin T b ts.toList args h) := by
  have one : ∀ {x : Value}, args = [x] → ∃ x', args' = #[x'] ∧ VR m x x' := by
    intro x hx; subst hx
    generalize hb : args'.toList = l' at ha
    cases ha with
    | cons h1 h2 => cases h2; exact ⟨_, by apply Array.toList_inj.1; simpa using hb, h1⟩
  have two : ∀ {x y : Value}, args = [x, y] → ∃ x' y', args' = #[x', y'] ∧ VR m x x' ∧ VR m y y' := by
    intro x y hx; subst hx
    generalize hb : args'.toList = l' at ha
    cases ha with
    | cons h1 h2 => cases h2 with
      | cons h2 h3 => cases h3; exact ⟨_, _, by apply Array.toList_inj.1; simpa using hb, h1, h2⟩
  unfold abuiltin
  split
  · split
    case h_2 => exact trivial
    rename_i x
    obtain ⟨x', rfl, hx⟩ := one rfl
    refine ROk.ofOpt r fun v e => ?_
    obtain ⟨g1, g2⟩ := alen_sound ok r ty e hx
    exact ⟨v, by simp only [builtin, Sem.run_bind, g1, Result.andThen_ok, Sem.run_pure], g2⟩
  · split
    case h_2 => exact trivial
    rename_i s x
    obtain ⟨s', x', rfl, hs, hx⟩ := two rfl
    refine ROk.ofOptH fun v h' e => ?_
    obtain ⟨v', w', m', g1, g2, g3, g4⟩ := aappend_sound ok r ty e hs hx
    exact ⟨v', w', m', by simp only [builtin, Sem.run_bind, g1, Result.andThen_ok, Sem.run_pure], g2, g3, g4⟩
  · split
    case h_2 => exact trivial
    rename_i d s
    obtain ⟨d', s', rfl, hd, hs⟩ := two rfl
    refine ROk.ofOptH fun v h' e => ?_
    obtain ⟨v', w', m', g1, g2, g3, g4⟩ := acopy_sound ok r ty e hd hs
    exact ⟨v', w', m', by simp only [builtin, Sem.run_bind, g1, Result.andThen_ok, Sem.run_pure], g2, g3, g4⟩
  · split
    case h_2 => exact trivial
    rename_i x k
    obtain ⟨x', k', rfl, hx, hk⟩ := two rfl
    cases e : adelete T ts.toList x k h with
    | none => exact trivial
    | some h' =>
      obtain ⟨w', g1, g2⟩ := adelete_sound ok r (ty := ty) e hx hk
      exact ⟨_, .tuple #[], w', m, by simp only [builtin, Sem.run_bind, g1, Result.andThen_ok, Sem.run_pure], .inl rfl, m.le_refl, g2, .tuple .nil⟩
  · refine ROk.ofOpt r fun v e => ?_
    obtain ⟨g1, g2⟩ := minmax_sound (P := P) false ts ty e ha w
    exact ⟨v, by simp only [builtin, Sem.run_bind]; simp only [Bool.false_eq_true, if_false] at g1; rw [g1]; rfl, g2⟩
  · refine ROk.ofOpt r fun v e => ?_
    obtain ⟨g1, g2⟩ := minmax_sound (P := P) true ts ty e ha w
    exact ⟨v, by simp only [builtin, Sem.run_bind]; simp only [if_true] at g1; rw [g1]; rfl, g2⟩
  · split
    · exact ⟨rfl, rfl⟩
    · exact trivial
  · exact trivial
end
end Go.AM
namespace Go.AM
section
variable {P : Program} {T : Tbl} {K : Kp} {w0 : World} {m : M} {h : AH} {w : World} {ρ ρ' : Operand → Value}

theorem ROk.v1 {s : Sem Value} {why : String} {o : Option Value} (r : Rel K w0 m h w) (f : ∀ x, o = some x → ∃ x', s.run P w = .ok x' w ∧ VR m x x') : ROk P K w0 m (do Pure.pure (Next.value (← s))) h w (.ofOpt why h o) :=
  ROk.ofOpt r fun x e => by
    obtain ⟨x', h1, h2⟩ := f x e
    exact ⟨x', by simp only [Sem.run_bind, h1, Result.andThen_ok, Sem.run_pure], h2⟩
theorem ROk.v2 {s : Sem Value} {why : String} {o : Option (Value × AH)} (f : ∀ x h', o = some (x, h') → ∃ x' w' m', s.run P w = .ok x' w' ∧ m.le m' ∧ Rel K w0 m' h' w' ∧ VR m' x x') : ROk P K w0 m (do Pure.pure (Next.value (← s))) h w (.ofOptH why o) :=
  ROk.ofOptH fun x h' e => by
    obtain ⟨x', w', m', h1, h2⟩ := f x h' e
    exact ⟨x', w', m', by simp only [Sem.run_bind, h1, Result.andThen_ok, Sem.run_pure], h2⟩
theorem ROk.u1 {s : Sem Unit} {o : Option AH} (f : ∀ h', o = some h' → ∃ w', s.run P w = .ok () w' ∧ Rel K w0 m h' w') : ROk P K w0 m (do s; Pure.pure Next.skip) h w (oStored o) :=
  ROk.stored fun h' e => by
    obtain ⟨w', h1, h2⟩ := f h' e
    exact ⟨w', by simp only [Sem.run_bind, h1, Result.andThen_ok, Sem.run_pure], h2⟩

theorem VRL.map {l : List Operand} (hl : ∀ x ∈ l, VR m (ρ x) (ρ' x)) : VRL m (l.map ρ) (l.map ρ') := by
  induction l with
  | nil => exact .nil
  | cons x l ih => exact .cons (hl x (by simp)) (ih fun y hy => hl y (by simp [hy]))
theorem mapSnd_eq (l : List (Nat × Operand)) : mapSnd ρ l = l.map fun p => (p.1, ρ p.2) := by
  induction l with
  | nil => rfl
  | cons p l ih => obtain ⟨i, x⟩ := p; simp [mapSnd, ih]

theorem acall_sound (ok : TOk T P) (r : Rel K w0 m h w) (c : Call) (ty : Nat) (hρ : ∀ x ∈ c.operands.toList, VR m (ρ x) (ρ' x)) :
    ROk P K w0 m (do let d ← resolve ρ' c ty; invoke d.target d.args) h w (acall T ρ c h) := by
  have hargs : VRL m (c.args.toList.map ρ) (c.args.map ρ').toList := by
    rw [Array.toList_map]
    exact VRL.map fun x hx => hρ x (by simp only [Call.operands, Array.toList_append, List.mem_append]; exact .inr hx)
  unfold acall
  split
  · rename_i f hc
    refine ROk.congr ?_ (acallV_sound ok r (f' := ρ' f) (hρ f (by simp [Call.operands, hc])) hargs)
    simp only [resolve, hc]
  · rename_i recv name hc
    refine ROk.congr ?_ (ainvoke_sound ok r (.method name) (captured' := #[]) .nil (args' := #[ρ' recv] ++ c.args.map ρ') (by rw [Array.toList_append]; exact .cons (hρ recv (by simp [Call.operands, hc])) hargs))
    simp only [resolve, hc, Sem.run_bind, Sem.run_pure, Result.andThen_ok]
  · rename_i b hc
    refine ROk.congr ?_ (abuiltin_sound ok r ty (c.args.map fun | .const _ => true | _ => false) hargs)
    simp only [resolve, hc, Sem.run_bind, Sem.run_pure, Result.andThen_ok, invoke]
    rfl

theorem box_sound (r : Rel K w0 m h w) (t : Nat) {x x' v : Value} {h' : AH} (e : newCells h (vcells x) 0 = some (v, h')) (hx : VR m x x') :
    ∃ v' w' m', (Instr.box t x').run P w = .ok v' w' ∧ m.le m' ∧ Rel K w0 m' h' w' ∧ VR m' v v' := by
  obtain ⟨a, w', m', h1, h2, h3, h4⟩ := newVar_sound (P := P) r e (v' := x') hx.vcells t
  exact ⟨_, w', m', by simp only [Instr.box, Sem.run_bind, h1, Result.andThen_ok, Sem.run_pure], h2, h3, h4⟩

theorem newMap_sound (r : Rel K w0 m h w) {s : Sem Next} (e : s.run P w = .ok (.value (.map (some w.heap.size))) (w.alloc (.map #[] 0))) : ROk P K w0 m s h w (newMap h) := by
  unfold newMap
  split
  case isFalse => exact trivial
  rename_i hr
  have := r.alloc hr { b := w.heap.size, sh := 0, n := 0, cn := 0, sz := 0 } rfl (.map [] 0) (.map #[] 0) (.map .nil)
  exact ⟨_, _, _, _, e, .inl rfl, this.2, this.1, .map (k := { b := w.heap.size, sh := 0, n := 0, cn := 0, sz := 0 }) (by simp)⟩

theorem aop_sound (ok : TOk T P) (r : Rel K w0 m h w) (o : Oper) (hρ : ∀ x ∈ o.op.operands.toList, VR m (ρ x) (ρ' x)) : ROk P K w0 m (execOp ρ' o) h w (aop T ρ o h) := by
  unfold aop
  have opt : ∀ (y : Option Operand), (∀ x, y = some x → x ∈ o.op.operands.toList) → (y.map ρ = none ∧ y.map ρ' = none) ∨ ∃ v v', y.map ρ = some v ∧ y.map ρ' = some v' ∧ VR m v v' := by
    intro y hy
    cases y with
    | none => exact .inl ⟨rfl, rfl⟩
    | some x => exact .inr ⟨_, _, rfl, rfl, hρ x (hy x rfl)⟩
  obtain ⟨dst, op, type, pos, after, guard⟩ := o
  simp only at hρ opt ⊢
  cases op with
  | move x => exact ROk.pure r rfl (hρ x (by simp [Op.operands]))
  | assign x => exact ROk.pure r rfl (hρ x (by simp [Op.operands]))
  | pick c a b =>
    have hc := hρ c (by simp [Op.operands])
    have ha := hρ a (by simp [Op.operands])
    have hb := hρ b (by simp [Op.operands])
    simp only [aopK, oPick]
    split
    case h_2 => exact trivial
    rename_i t ht
    rw [ht] at hc
    generalize hcc : ρ' c = c' at hc
    cases hc
    cases t
    · exact ⟨_, ρ' b, w, m, by simp [execOp, hcc, asBool], .inl rfl, m.le_refl, r, by simpa using hb⟩
    · exact ⟨_, ρ' a, w, m, by simp [execOp, hcc, asBool], .inl rfl, m.le_refl, r, by simpa using ha⟩
  | alloc t =>
    simp only [aopK, oAlloc]
    split
    case h_2 => exact trivial
    rename_i i ht
    refine ROk.v2 fun x h' e => ?_
    have ta := ok.at ht
    obtain ⟨a, w', m', h1, h2, h3, h4⟩ := newVar_sound (P := P) r e (v' := i.zero) (VR.of_plain m ta.plain).vcells t
    exact ⟨_, w', m', by simp only [Instr.alloc, Sem.run_bind, ta.zero, Result.andThen_ok, h1, Sem.run_pure], h2, h3, h4⟩
  | box t x => exact ROk.v2 fun v h' e => box_sound r t e (hρ x (by simp [Op.operands]))
  | build t parts =>
    refine ROk.v1 r fun v e => ?_
    refine abuild_sound ok e ?_ ?_ w
    · simp only [mapSnd_eq, List.map_map, Array.toList_map]
      have := VRL.map (l := parts.toList.map (·.2)) (m := m) (ρ := ρ) (ρ' := ρ') (fun x hx => hρ x (by simpa [Op.operands] using hx))
      simpa [List.map_map, Function.comp_def] using this
    · simp [mapSnd_eq, Function.comp_def]
  | buildSlice t n parts =>
    refine ROk.v2 fun v h' e => ?_
    refine abuildSlice_sound ok r e ?_ ?_
    · simp only [mapSnd_eq, List.map_map, Array.toList_map]
      have := VRL.map (l := parts.toList.map (·.2)) (m := m) (ρ := ρ) (ρ' := ρ') (fun x hx => hρ x (by simpa [Op.operands] using hx))
      simpa [List.map_map, Function.comp_def] using this
    · simp [mapSnd_eq, Function.comp_def]
  | load t a =>
    refine ROk.v1 r fun v e => ?_
    obtain ⟨v', h1, h2, _⟩ := aload_sound ok r e (hρ a (by simp [Op.operands]))
    exact ⟨v', h1, h2⟩
  | store t a x => exact ROk.u1 fun h' e => astore_sound ok r e (hρ a (by simp [Op.operands])) (hρ x (by simp [Op.operands]))
  | nilCheck x =>
    have hx := hρ x (by simp [Op.operands])
    simp only [aopK]
    unfold oNil
    split <;> rename_i hq <;> first | exact trivial | skip
    · rw [hq] at hx
      generalize hx' : ρ' x = x' at hx
      have hx2 := hx
      cases hx
      exact ⟨_, _, w, m, by simp only [execOp, hx']; rfl, .inl rfl, m.le_refl, r, hx2⟩
    · rw [hq] at hx
      generalize hx' : ρ' x = x' at hx
      have hx2 := hx
      cases hx with
      | func hf h1 h2 =>
        cases hf
        exact ⟨_, _, w, m, by simp only [execOp, hx']; rfl, .inl rfl, m.le_refl, r, hx2⟩
    · rw [hq] at hx
      generalize hx' : ρ' x = x' at hx
      have hx2 := hx
      cases hx
      exact ⟨_, _, w, m, by simp only [execOp, hx']; rfl, .inl rfl, m.le_refl, r, hx2⟩
    · rw [hq] at hx
      generalize hx' : ρ' x = x' at hx
      have hx2 := hx
      cases hx <;> exact ⟨_, _, w, m, by simp only [execOp, hx']; rfl, .inl rfl, m.le_refl, r, hx2⟩
  | binOp op t x y f => exact ROk.v1 r fun v e => abin_sound ok e (hρ x (by simp [Op.operands])) (hρ y (by simp [Op.operands])) w
  | unOp op t x =>
    refine ROk.v1 r fun v e => ?_
    obtain ⟨h1, h2⟩ := aun_sound (P := P) e (hρ x (by simp [Op.operands])) w
    exact ⟨v, h1, h2⟩
  | convert s d x => exact ROk.v2 fun v h' e => aconv_sound ok r e (hρ x (by simp [Op.operands]))
  | makeInterface t x =>
    have hx := hρ x (by simp [Op.operands])
    simp only [aopK, aop2]
    unfold oIface
    split
    · exact trivial
    · rename_i d hni hd
      obtain ⟨i, ht, hd⟩ := desc_of hd
      have ta := ok.at ht
      refine ⟨_, .iface t (ρ' x), w, m, ?_, .inl rfl, m.le_refl, r, .iface hx⟩
      have : ∀ ms, i.desc ≠ .interface ms := fun ms he => hni ms (by rw [← hd, he])
      simp only [execOp, Instr.makeInterface, Sem.run_bind, ta.und, Result.andThen_ok]
      cases hq : i.desc <;> first | rfl | exact absurd hq (this _)
    · exact trivial
  | makeFunc fn first captured =>
    have h1 : VRL m (first.map ρ).toList (first.map ρ').toList := by
      rw [Array.toList_map, Array.toList_map]; exact VRL.map fun x hx => hρ x (by simp only [Op.operands, Array.toList_append, List.mem_append]; exact .inl hx)
    have h2 : VRL m (captured.map ρ).toList (captured.map ρ').toList := by
      rw [Array.toList_map, Array.toList_map]; exact VRL.map fun x hx => hρ x (by simp only [Op.operands, Array.toList_append, List.mem_append]; exact .inr hx)
    have fin : FR m fn fn → ROk P K w0 m (execOp ρ' ⟨dst, .makeFunc fn first captured, type, pos, after, guard⟩) h w (.v (.func fn (first.map ρ) (captured.map ρ)) h) := fun hf =>
      ⟨_, .func fn (first.map ρ') (captured.map ρ'), w, m, rfl, .inl rfl, m.le_refl, r, .func hf h1 h2⟩
    simp only [aopK, aop2]
    cases fn with
    | func f => exact fin (.func _)
    | method f => exact fin (.method _)
    | methodOf f g => exact fin (.methodOf _ _)
    | via a b c d => exact fin (.via _ _ _ _)
    | yield l => exact trivial
  | makeMap t rr =>
    simp only [aopK, aop2, aop3]
    cases rr with
    | none => exact newMap_sound r rfl
    | some x =>
      have hx := hρ x (by simp [Op.operands])
      simp only [Option.map_some, oMakeMap]
      split
      case h_2 => exact trivial
      rename_i kt el k n hd hxe
      obtain ⟨i, ht, hd⟩ := desc_of hd
      have ta := ok.at ht
      rw [hxe] at hx
      generalize hx' : ρ' x = x' at hx
      cases hx
      refine newMap_sound r ?_
      simp only [execOp, Instr.makeMap, Option.map_some, hx', Sem.run_bind, ta.und, Result.andThen_ok, hd, asInt, asIntOf, Sem.run_pure, run_newObj_alloc]
  | makeSlice t l c => exact ROk.v2 fun v h' e => amakeSlice_sound ok r e (hρ l (by simp [Op.operands])) (hρ c (by simp [Op.operands]))
  | slice t x lo hi mx =>
    exact ROk.v1 r fun v e => aslice_sound ok r e (hρ x (by simp [Op.operands])) (opt lo (by intro y hy; subst hy; simp [Op.operands])) (opt hi (by intro y hy; subst hy; simp [Op.operands])) (opt mx (by intro y hy; subst hy; simp [Op.operands]))
  | fieldAddr t x k => exact ROk.v1 r fun v e => afieldAddr_sound ok e (hρ x (by simp [Op.operands])) w
  | field t x k => exact ROk.v1 r fun v e => afield_sound ok e (hρ x (by simp [Op.operands])) w
  | indexAddr t x i => exact ROk.v1 r fun v e => aindexAddr_sound ok e (hρ x (by simp [Op.operands])) (hρ i (by simp [Op.operands])) w
  | index t x i => exact ROk.v1 r fun v e => aindex_sound ok e (hρ x (by simp [Op.operands])) (hρ i (by simp [Op.operands])) w
  | lookup t x k c => exact ROk.v1 r fun v e => alookup_sound ok r e (hρ x (by simp [Op.operands])) (hρ k (by simp [Op.operands]))
  | mapUpdate t x k v => exact ROk.u1 fun h' e => amapUpdate_sound ok r e (hρ x (by simp [Op.operands])) (hρ k (by simp [Op.operands])) (hρ v (by simp [Op.operands]))
  | insert t x k v => exact ROk.u1 fun h' e => amapUpdate_sound ok r e (hρ x (by simp [Op.operands])) (hρ k (by simp [Op.operands])) (hρ v (by simp [Op.operands]))
  | mapEntry t x k => exact ROk.v2 fun v h' e => amapEntry_sound ok r e (hρ x (by simp [Op.operands])) (hρ k (by simp [Op.operands]))
  | entryStore t x s v => exact ROk.u1 fun h' e => aentryStore_sound r t e (hρ x (by simp [Op.operands])) (hρ s (by simp [Op.operands])) (hρ v (by simp [Op.operands]))
  | range t x => exact ROk.v2 fun v h' e => arange_sound ok r e (hρ x (by simp [Op.operands]))
  | next it s => exact anext_sound r type (hρ it (by simp [Op.operands]))
  | entry it => exact ROk.v1 r fun v e => aentry_sound r e (hρ it (by simp [Op.operands]))
  | typeAssert x xt a c => exact ROk.v1 r fun v e => atypeAssert_sound ok xt e (hρ x (by simp [Op.operands])) w
  | extract t i =>
    have hx := hρ t (by simp [Op.operands])
    simp only [aopK, oExtract]
    split
    case h_2 => exact trivial
    rename_i vs hq
    rw [hq] at hx
    refine ROk.v1 r fun v e => ?_
    generalize hx' : ρ' t = x' at hx
    cases hx with
    | tuple hl =>
      rename_i vs'
      obtain ⟨v', g1, g2⟩ := hl.get _ e
      have g1 : vs'[i]? = some v' := by simpa using g1
      exact ⟨v', by simp only [Instr.extract, g1, Sem.run_pure], g2⟩
  | call c => exact acall_sound ok r c type (fun x hx => hρ x hx)
  | defer c =>
    simp only [aopK, aop2, aop3]
    have hargs : VRL m (c.args.toList.map ρ) (c.args.map ρ').toList := by
      rw [Array.toList_map]
      exact VRL.map fun x hx => hρ x (by simp only [Op.operands, Call.operands, Array.toList_append, List.mem_append]; exact .inr hx)
    split
    case h_2 => exact trivial
    rename_i f hc
    have hf := hρ f (by simp [Op.operands, Call.operands, hc])
    unfold oDefer
    split
    case h_2 => exact trivial
    rename_i fn first captured hq
    rw [hq] at hf
    generalize hx' : ρ' f = x' at hf
    cases hf with
    | func g1 g2 g3 =>
      rename_i fn' first' captured'
      refine ⟨{ target := .fn fn' captured', args := first' ++ c.args.map ρ' }, ?_, .fn g1 g3 ?_, rfl⟩
      · simp only [execOp, resolve, hc, hx', Deferred.ofValue, Sem.run_bind, Sem.run_pure, Result.andThen_ok]
      · simpa using g2.append hargs
  | panic x =>
    have hx := hρ x (by simp [Op.operands])
    simp only [aopK, aop2, aop3, oPanic]
    split
    case h_2 => exact trivial
    rename_i t v hq
    rw [hq] at hx
    generalize hx' : ρ' x = x' at hx
    have hx2 := hx
    cases hx
    exact ⟨_, by simp only [execOp, hx', Instr.panic, Sem.run_bind, run_goPanic]; rfl, hx2, rfl⟩
  | _ => exact trivial
end
end Go.AM
