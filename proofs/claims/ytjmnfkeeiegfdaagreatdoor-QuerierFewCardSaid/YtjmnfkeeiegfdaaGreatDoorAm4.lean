/-
  AM, part 15: control, the plain part: what an answer says of a run; operations in order. Own work.
-/
import Derived.Test.YtjmnfkeeiegfdaaGreatDoorAm3
namespace Go.AM

inductive DL (m : M) : List Deferred → List Deferred → Prop
  | nil : DL m [] []
  | cons {a b l k} (h : DR m a b) (t : DL m l k) : DL m (a :: l) (b :: k)
structure PE (m : M) (p q : PanicEntry) : Prop where
  v : VR m p.v q.v
  recovered : p.recovered = q.recovered
  goexit : p.goexit = q.goexit
inductive CL (m : M) : List PanicEntry → List PanicEntry → Prop
  | nil : CL m [] []
  | cons {a b l k} (h : PE m a b) (t : CL m l k) : CL m (a :: l) (b :: k)
inductive EX (m : M) : AExit → Exit → Prop
  | normal : EX m .normal .normal
  | exit (i) : EX m (.exit i) (.exit i)
  | goto (l) : EX m (.goto l) (.goto l)
  | ret : EX m .ret .ret
  | panic {c c'} (h : CL m c c') : EX m (.panic c) (.panic c')
inductive EN (m : M) : AEnd → Ending → Prop
  | returned {v v'} (h : VR m v v') : EN m (.returned v) (.returned v')
  | panicked {c c'} (h : CL m c c') : EN m (.panicked c) (.panicked c')
inductive UM (m : M) : FrameMode → FrameMode → Prop
  | run : UM m .run .run
  | returning : UM m .returning .returning
  | panicking {c c'} (h : CL m c c') : UM m (.panicking c) (.panicking c')

theorem DR.mono {m m' : M} (h : m.le m') : ∀ {a b}, DR m a b → DR m' a b
  | _, _, .fn a b c => .fn (a.mono h) (b.mono h) (c.mono h)
  | _, _, .collected e => .collected (h _ _ e)
theorem DL.mono {m m' : M} (h : m.le m') : ∀ {a b}, DL m a b → DL m' a b
  | _, _, .nil => .nil
  | _, _, .cons a b => .cons (a.mono h) (b.mono h)
theorem PE.mono {m m' : M} (h : m.le m') {a b : PanicEntry} (e : PE m a b) : PE m' a b := ⟨e.v.mono h, e.recovered, e.goexit⟩
theorem CL.mono {m m' : M} (h : m.le m') : ∀ {a b}, CL m a b → CL m' a b
  | _, _, .nil => .nil
  | _, _, .cons a b => .cons (a.mono h) (b.mono h)
theorem EX.mono {m m' : M} (h : m.le m') : ∀ {a b}, EX m a b → EX m' a b
  | _, _, .normal => .normal
  | _, _, .exit i => .exit i
  | _, _, .goto i => .goto i
  | _, _, .ret => .ret
  | _, _, .panic e => .panic (e.mono h)
theorem UM.mono {m m' : M} (h : m.le m') : ∀ {a b}, UM m a b → UM m' a b
  | _, _, .run => .run
  | _, _, .returning => .returning
  | _, _, .panicking e => .panicking (e.mono h)

def RdOk (m : M) (rd : Option Nat) (F : Fence) : Prop :=
  match rd with
  | none => F = Fence.wide
  | some l => ∃ k, m l = some k ∧ F = Fence.wide.inRound k.b
theorem RdOk.mono {m m' : M} (h : m.le m') {rd : Option Nat} {F : Fence} (e : RdOk m rd F) : RdOk m' rd F := by
  cases rd with
  | none => exact e
  | some l => obtain ⟨k, h1, h2⟩ := e; exact ⟨k, h _ _ h1, h2⟩
theorem RdOk.fn {m : M} {rd : Option Nat} {F : Fence} (e : RdOk m rd F) (f : FuncId) : F.fn f := by
  cases rd with
  | none => cases e; exact trivial
  | some l => obtain ⟨k, h1, rfl⟩ := e; exact trivial
theorem RdOk.depth {m : M} {rd : Option Nat} {F : Fence} (e : RdOk m rd F) : F.depth.isSome = true → 1 ≤ 0 := by
  cases rd with
  | none => cases e; intro h; cases h
  | some l => obtain ⟨k, h1, rfl⟩ := e; intro h; cases h
theorem RdOk.calls {m : M} {rd : Option Nat} {F : Fence} (e : RdOk m rd F) {P : Program} {n : Nat} {f : FuncId} {args : Array Value} {w : World} {R : Ending → World → Prop} (h : CallsIn Fence.wide n P f args w R) : CallsIn F n P f args w R := by
  cases rd with
  | none => cases e; exact h
  | some l => obtain ⟨k, h1, rfl⟩ := e; exact h

/-- Where the machine stands after code. -/
def PostQ (K : Kp) (w0 : World) (m : M) (n : Nat) (outs : List Resp) : Exit → Act → World → Prop :=
  fun e a w => ∃ e' ts df h m', Resp.code e' ts df h ∈ outs ∧ m.le m' ∧ Rel K w0 m' h w ∧ TR m' ts a.tmps ∧ a.tmps.size = n ∧ DL m' df a.defers ∧ EX m' e' e
def PostC (K : Kp) (w0 : World) (m : M) (outs : List Resp) : Ending → World → Prop :=
  fun e w => ∃ e' h m', Resp.call e' h ∈ outs ∧ m.le m' ∧ Rel K w0 m' h w ∧ EN m' e' e
def PostD (K : Kp) (w0 : World) (m : M) (outs : List Resp) : Ending → FrameMode → World → Prop :=
  fun e u w => ∃ e' u' h m', Resp.dcall e' u' h ∈ outs ∧ m.le m' ∧ Rel K w0 m' h w ∧ EN m' e' e ∧ UM m' u' u

theorem PostQ.mono {K : Kp} {w0 : World} {m m' : M} {n : Nat} {outs outs' : List Resp} (h : m.le m') (s : ∀ r ∈ outs', r ∈ outs) {e : Exit} {a : Act} {w : World} (p : PostQ K w0 m' n outs' e a w) : PostQ K w0 m n outs e a w := by
  obtain ⟨e', ts, df, hh, m2, q1, q2, q3⟩ := p
  exact ⟨e', ts, df, hh, m2, s _ q1, M.le_trans h q2, q3⟩
theorem PostC.mono {K : Kp} {w0 : World} {m m' : M} {outs outs' : List Resp} (h : m.le m') (s : ∀ r ∈ outs', r ∈ outs) {e : Ending} {w : World} (p : PostC K w0 m' outs' e w) : PostC K w0 m outs e w := by
  obtain ⟨e', hh, m2, q1, q2, q3⟩ := p
  exact ⟨e', hh, m2, s _ q1, M.le_trans h q2, q3⟩
theorem PostD.mono {K : Kp} {w0 : World} {m m' : M} {outs outs' : List Resp} (h : m.le m') (s : ∀ r ∈ outs', r ∈ outs) {e : Ending} {u : FrameMode} {w : World} (p : PostD K w0 m' outs' e u w) : PostD K w0 m outs e u w := by
  obtain ⟨e', u', hh, m2, q1, q2, q3⟩ := p
  exact ⟨e', u', hh, m2, s _ q1, M.le_trans h q2, q3⟩
theorem PostQ.not_out {K : Kp} {w0 : World} {m : M} {n : Nat} {outs : List Resp} {a : Act} {w : World} (p : PostQ K w0 m n outs .outgrown a w) : False := by
  obtain ⟨e', ts, df, hh, m2, q1, q2, q3, q4, q5, q6, q7⟩ := p
  cases q7
theorem PostC.not_out {K : Kp} {w0 : World} {m : M} {outs : List Resp} {w : World} (p : PostC K w0 m outs .outgrown w) : False := by
  obtain ⟨e', hh, m2, q1, q2, q3, q7⟩ := p
  cases q7

theorem joinAll_ok {α : Type} {f : α → Out} : ∀ {l : List α} {outs : List Resp}, joinAll f l = .ok outs → ∀ x ∈ l, ∃ o, f x = .ok o ∧ ∀ r ∈ o, r ∈ outs
  | [], _, _, _, hx => by cases hx
  | y :: l, outs, e, x, hx => by
    simp only [joinAll] at e
    cases h1 : f y with
    | fail w => rw [h1] at e; cases e
    | ok a =>
      cases h2 : joinAll f l with
      | fail w => rw [h1, h2] at e; cases e
      | ok b =>
        rw [h1, h2] at e
        simp only [Out.ok.injEq] at e; subst e
        rcases List.mem_cons.1 hx with rfl | hx
        · exact ⟨a, h1, fun r hr => List.mem_append.2 (.inl hr)⟩
        · obtain ⟨o, g1, g2⟩ := joinAll_ok h2 x hx
          exact ⟨o, g1, fun r hr => List.mem_append.2 (.inr (g2 r hr))⟩
theorem bind_ok {o : Out} {f : Resp → Out} {outs : List Resp} (e : o.bind f = .ok outs) : ∃ l, o = .ok l ∧ ∀ x ∈ l, ∃ o', f x = .ok o' ∧ ∀ r ∈ o', r ∈ outs := by
  cases o with
  | fail w => cases e
  | ok l =>
    refine ⟨l, rfl, ?_⟩
    simp only [Out.bind] at e
    split at e
    · intro x hx
      rw [List.mem_singleton.1 hx]
      exact ⟨outs, e, fun _ h => h⟩
    · exact joinAll_ok e

theorem VR.bool_of {m : M} {v v' : Value} (h : VR m v v') (b : Bool) : v = .bool b ↔ v' = .bool b := by
  cases h <;> simp

theorem yielded_eq {m : M} {ops : Array Oper} {ts : PT Value} {a : Array Value} (h : TR m ts a) (j : Nat) : yielded ops a j = ayield ops ts j := by
  unfold yielded ayield
  cases hd : (ops[j]?).bind (·.dst) with
  | none => simp
  | some d =>
    simp only [Option.bind_some, Option.map_some]
    have hv := h d
    cases hq : a[d]? with
    | none =>
      have : a.getD d undef = undef := by simp [Array.getD_eq_getD_getElem?, hq]
      rw [this] at hv
      have hn : ∀ b, tget ts d ≠ .bool b := fun b hb => by
        have := (hv.bool_of b).1 hb
        simp [undef] at this
      cases hg : tget ts d <;> simp_all
    | some v =>
      have : a.getD d undef = v := by simp [Array.getD_eq_getD_getElem?, hq]
      rw [this] at hv
      generalize tget ts d = x at hv
      cases hv <;> rfl
theorem wanted_eq {m : M} {ops : Array Oper} {ts : PT Value} {a : Array Value} (h : TR m ts a) (o : Oper) : Region.wanted o (yielded ops a) = awanted ops ts o := by
  unfold Region.wanted awanted
  cases o.guard with
  | none => rfl
  | some g =>
    obtain ⟨j, want⟩ := g
    simp only [yielded_eq h]
    cases ayield ops ts j <;> simp

theorem TR.put {m : M} {ts : PT Value} {a : Array Value} (h : TR m ts a) {d : Nat} (hd : d < a.size) (hl : a.size < 100000) {v v' : Value} (hv : VR m v v') : TR m (ts.put 30 d (some v)) (a.setIfInBounds d v') := by
  intro t
  have : d < lim := by unfold lim; omega
  rw [tget_put _ _ _ _ this]
  by_cases ht : t = d
  · subst ht
    simp [Array.getD_eq_getD_getElem?, hd, hv]
  · rw [if_neg ht]
    have := h t
    have e : (a.setIfInBounds d v').getD t undef = a.getD t undef := by
      simp only [Array.getD_eq_getD_getElem?]
      rw [Array.getElem?_setIfInBounds_ne (by omega)]
    rw [e]; exact this

theorem TR.eval {m : M} {ts : PT Value} {a : Act} (h : TR m ts a.tmps) {x : Operand} (hx : operandOk x = true) : VR m (aeval ts x) (a.eval x) := by
  cases x with
  | tmp t => exact h t
  | const v => exact VR.of_plain m hx
  | func f => exact .func (.func f) .nil .nil
  | global g => cases hx
end Go.AM
