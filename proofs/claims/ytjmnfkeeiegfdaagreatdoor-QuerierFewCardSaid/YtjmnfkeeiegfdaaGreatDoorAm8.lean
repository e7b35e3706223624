/-
  AM, part 34: the table of a program. Own work.
-/
import Derived.Test.YtjmnfkeeiegfdaaGreatDoorAm7
import Derived.Laws.Externs
import Derived.Lib.Bytealg
namespace Go.AM

noncomputable def tiOf (P : Program) (t : Nat) : Option TI :=
  match P.info? t, P.underlying t with
  | some i, some d => (match i.zero with
    | some z => cond (plainV z) (some { desc := d, size := i.size, bytes := i.bytes, zero := z, eqg := P.eqGuardType P.depth t, stood := P.stoodInHeld t }) none
    | none => none)
  | _, _ => none
def methOf (P : Program) (t : Nat) (name : String) : Option (Nat × Bool) :=
  match P.info? t with
  | some i => (match i.methods.find? (·.name == name) with
    | some m => cond m.path.isEmpty m.func none
    | none => none)
  | none => none

inductive ExtKind where
  | indexByteString
  | countString
def extIndexByte : List Value → Option Value
  | [.string s, .int .u8 c] => some (.int .i64 (Lib.indexByte s.data.toList c.toNat.toUInt8))
  | _ => none
def extCount : List Value → Option Value
  | [.string s, .int .u8 c] => some (.int .i64 (Lib.countByte s.data.toList c.toNat.toUInt8))
  | _ => none
def ExtKind.fn : ExtKind → List Value → Option Value
  | .indexByteString => extIndexByte
  | .countString => extCount
def findX (f : Nat) : List (Nat × ExtKind) → Option (List Value → Option Value)
  | [] => none
  | (g, k) :: l => cond (Nat.beq f g) (some k.fn) (findX f l)

noncomputable def tblOf (P : Program) (xs : List (Nat × ExtKind)) : Tbl where
  ty := tiOf P
  fn := fun f => P.funcs[f]?
  meth := methOf P
  ext := fun f => findX f xs

/-- what is asked of functions that are not in the program's text -/
structure ExtOk (P : Program) (f : Nat) (k : ExtKind) : Prop where
  ok : ∃ fn e, P.funcs[f]? = some fn ∧ (fn.name == "runtime.NumGoroutine") = false ∧ fn.body.isNone = true ∧ Extern.findNext fn = none ∧ Extern.find fn = some e ∧ (match k with | .indexByteString => e = Extern.BytealgIndexByte.indexByte | .countString => e = Extern.BytealgCount.count)

theorem ExtOk.run {P : Program} {f : Nat} {k : ExtKind} (h : ExtOk P f k) {m : M} {args : List Value} {args' : Array Value} {v : Value} {w : World} (hv : VRL m args args'.toList) (e : k.fn args = some v) : (callFunc f args').run P w = .ok (.value v) w ∧ plainV v = true := by
  obtain ⟨fn, ex, h1, h2, h3, h4, h5, h6⟩ := h.ok
  have key : ∀ {s : ByteArray} {c : Int}, args = [.string s, .int .u8 c] → args' = #[.string s, .int .u8 c] := fun {s c} ha => by
    subst ha
    obtain ⟨l⟩ := args'
    cases hv with
    | cons a b =>
      cases a
      cases b with
      | cons c d => cases c; cases d; rfl
  rw [run_callFunc_extern h1 h2 h3 h4 h5]
  cases k with
  | indexByteString =>
    simp only at h6
    subst h6
    simp only [ExtKind.fn, extIndexByte] at e
    split at e
    · cases e
      rw [key rfl, Lib.run_indexByteString]
      exact ⟨rfl, rfl⟩
    · cases e
  | countString =>
    simp only at h6
    subst h6
    simp only [ExtKind.fn, extCount] at e
    split at e
    · cases e
      rw [key rfl, Lib.run_countString]
      exact ⟨rfl, rfl⟩
    · cases e

theorem tok {P : Program} {xs : List (Nat × ExtKind)} (hm : P.follows .mixedOrders = true) (hn : P.funcs.toList.all (fun fn => !(fn.name == "runtime.NumGoroutine")) = true) (hx : ∀ p ∈ xs, ExtOk P p.1 p.2) : TOk (tblOf P xs) P where
  ty := by
    intro t i e
    simp only [tblOf, tiOf] at e
    split at e
    · rename_i inf d h1 h2
      split at e
      · rename_i z hz
        cases hp : plainV z with
        | false => rw [hp] at e; cases e
        | true =>
          rw [hp] at e
          cases e
          exact ⟨h2, ⟨inf, h1, rfl, rfl, hz⟩, rfl, rfl, hp⟩
      · cases e
    · cases e
  fn := by
    intro f fn e
    have e : P.funcs[f]? = some fn := e
    refine ⟨e, ?_⟩
    have := List.all_eq_true.1 hn fn (List.mem_of_getElem? (i := f) (by simpa using e))
    simpa using this
  meth := by
    intro t name f b e
    simp only [tblOf, methOf] at e
    split at e
    · rename_i inf h1
      split at e
      · rename_i mm h2
        cases hp : mm.path.isEmpty with
        | false => rw [hp] at e; cases e
        | true =>
          rw [hp] at e
          exact ⟨inf, mm, h1, h2, by simpa using hp, e⟩
      · cases e
    · cases e
  ext := by
    intro f g e m args args' v w hv hg
    simp only [tblOf] at e
    have : ∀ (l : List (Nat × ExtKind)), (∀ p ∈ l, ExtOk P p.1 p.2) → findX f l = some g → ∃ k, ExtOk P f k ∧ g = k.fn := by
      intro l
      induction l with
      | nil => intro _ h; cases h
      | cons p l ih =>
        intro hl h
        obtain ⟨g0, k⟩ := p
        simp only [findX] at h
        cases hb : Nat.beq f g0 with
        | true =>
          rw [hb] at h
          cases h
          have := Nat.eq_of_beq_eq_true hb
          subst this
          exact ⟨k, hl _ List.mem_cons_self, rfl⟩
        | false => rw [hb] at h; exact ih (fun p hp => hl p (List.mem_cons_of_mem _ hp)) h
    obtain ⟨k, h1, h2⟩ := this xs hx e
    subst h2
    exact h1.run hv hg
  mixed := hm
end Go.AM
