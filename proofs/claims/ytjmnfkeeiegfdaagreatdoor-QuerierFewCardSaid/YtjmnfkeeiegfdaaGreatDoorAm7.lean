/-
  AM, part 32: rules for code over heaps and temporaries that are not closed terms; calls that give back the heap that they found. Own work.
  AM, part 33: rules for code. Own work.
  AM, part 35: heaps and temporaries made small again; runs of operations; bodies, and new names. Own work.
  AM, part 36: a load out of what is to be left alone. Own work.
  AM, part 37: second names; a call whose body is known. Own work.
-/
import Derived.Test.YtjmnfkeeiegfdaaGreatDoorAm6
namespace Go.AM

def PostP (K : Kp) (w0 : World) (m : M) (n : Nat) (Φ : AExit → PT Value → List Deferred → AH → Prop) : Exit → Act → World → Prop :=
  fun e a w => ∃ e' ts df h m', Φ e' ts df h ∧ m.le m' ∧ Rel K w0 m' h w ∧ TR m' ts a.tmps ∧ a.tmps.size = n ∧ DL m' df a.defers ∧ EX m' e' e
def PostE (K : Kp) (w0 : World) (m : M) (Φ : AEnd → AH → Prop) : Ending → World → Prop :=
  fun e w => ∃ e' h m', Φ e' h ∧ m.le m' ∧ Rel K w0 m' h w ∧ EN m' e' e

/-- What is known of the world and of the names beside the heap. -/
structure Ctx where
  p : Kp → World → M → Prop
  le : ∀ {K : Kp} {w0 : World} {m m' : M}, m.le m' → p K w0 m → p K w0 m'
def Ctx.any : Ctx := ⟨fun _ _ _ => True, fun _ _ => trivial⟩

structure HCall (P : Program) (f : Nat) (args : List Value) (h : AH) (Φ : AEnd → AH → Prop) : Prop where
  go : ∀ {K : Kp} {w0 : World} {m : M} {w : World} {args' : Array Value}, Rel K w0 m h w → VRL m args args'.toList → CallsIn Fence.wide 0 P f args' w (PostE K w0 m Φ)
structure HCode (P : Program) (C : Ctx) (c : Code) (ts : PT Value) (n : Nat) (df : List Deferred) (rd : Option Nat) (h : AH) (Φ : AExit → PT Value → List Deferred → AH → Prop) : Prop where
  go : ∀ {K : Kp} {w0 : World} {m : M} {w : World} {a : Act} {F : Fence}, C.p K w0 m → Rel K w0 m h w → TR m ts a.tmps → a.tmps.size = n → DL m df a.defers → RdOk m rd F → c.wpIn F 0 P (PostP K w0 m n Φ) a w
structure HOps (P : Program) (C : Ctx) (ops : Array Oper) (n : Nat) (rd : Option Nat) (i : Nat) (ts : PT Value) (df : List Deferred) (h : AH) (Φ : AExit → PT Value → List Deferred → AH → Prop) : Prop where
  go : ∀ {K : Kp} {w0 : World} {m0 m : M} {w : World} {a : Act} {F : Fence}, C.p K w0 m → m0.le m → RdOk m rd F → Rel K w0 m h w → TR m ts a.tmps → a.tmps.size = n → DL m df a.defers → wpOpsIn F 0 P ops (PostP K w0 m0 n Φ) (List.range' i (ops.size - i)) a w

section
variable {P : Program} {C : Ctx} {T : Tbl} {K : Kp} {w0 : World} {m m' : M} {h h' : AH} {w w' : World}

theorem PostP.mono {n : Nat} {Φ Ψ : AExit → PT Value → List Deferred → AH → Prop} (hle : m.le m') (hs : ∀ e ts df h, Φ e ts df h → Ψ e ts df h) {e : Exit} {a : Act} (p : PostP K w0 m' n Φ e a w) : PostP K w0 m n Ψ e a w := by
  obtain ⟨e', ts, df, hh, m2, q1, q2, q3⟩ := p
  exact ⟨e', ts, df, hh, m2, hs _ _ _ _ q1, M.le_trans hle q2, q3⟩
theorem PostE.mono {Φ Ψ : AEnd → AH → Prop} (hle : m.le m') (hs : ∀ e h, Φ e h → Ψ e h) {e : Ending} (p : PostE K w0 m' Φ e w) : PostE K w0 m Ψ e w := by
  obtain ⟨e', hh, m2, q1, q2, q3⟩ := p
  exact ⟨e', hh, m2, hs _ _ q1, M.le_trans hle q2, q3⟩

theorem HCall.mono {f : Nat} {args : List Value} {Φ Ψ : AEnd → AH → Prop} (hc : HCall P f args h Φ) (hs : ∀ e h, Φ e h → Ψ e h) : HCall P f args h Ψ :=
  ⟨fun r hv => CallsIn.mono (hc.go r hv) fun _ _ p => PostE.mono (M.le_refl _) hs p⟩
theorem HCode.mono {c : Code} {ts : PT Value} {n : Nat} {df : List Deferred} {rd : Option Nat} {Φ Ψ : AExit → PT Value → List Deferred → AH → Prop} (hc : HCode P C c ts n df rd h Φ) (hs : ∀ e ts df h, Φ e ts df h → Ψ e ts df h) : HCode P C c ts n df rd h Ψ :=
  ⟨fun hC r ht hsz hd hF => wpIn_mono (hc.go hC r ht hsz hd hF) fun _ _ _ p => PostP.mono (M.le_refl _) hs p⟩

theorem HCall.run (ok : TOk T P) {k f : Nat} {args : List Value} {outs : List Resp} (e : arun T k (.call f args h) = .ok outs) : HCall P f args h fun e' h' => .call e' h' ∈ outs :=
  ⟨fun r hv => (arun_ok ok k).call e r hv⟩
theorem HCode.run (ok : TOk T P) {k : Nat} {c : Code} {ts : PT Value} {n : Nat} {df : List Deferred} {rd : Option Nat} {outs : List Resp} (e : arun T k (.code c ts n df rd h) = .ok outs) (hc : codeOk c = true) (hn : n < 100000) : HCode P C c ts n df rd h fun e' ts' df' h' => .code e' ts' df' h' ∈ outs :=
  ⟨fun _ r ht hsz hd hF => (arun_ok ok k).code e hc r ht hsz hn hd hF⟩

/-! ### Heaps and temporaries of another form -/
theorem TR.other {ts ts' : PT Value} {a : Array Value} {n : Nat} (ht : TR m ts a) (hs : a.size = n) (h1 : ∀ t, t < n → tget ts' t = tget ts t) (h2 : ∀ t, n ≤ t → tget ts' t = undef) : TR m ts' a := by
  intro t
  by_cases hl : t < n
  · rw [h1 t hl]; exact ht t
  · rw [h2 t (by omega)]
    have : a.getD t undef = undef := by
      rw [Array.getD_eq_getD_getElem?, Array.getElem?_eq_none (by omega)]; rfl
    rw [this]; exact .undef m
theorem HCode.other {c : Code} {ts ts' : PT Value} {n : Nat} {df : List Deferred} {rd : Option Nat} {h2 : AH} {Φ : AExit → PT Value → List Deferred → AH → Prop} (hc : HCode P C c ts' n df rd h2 Φ) (h1 : ∀ t, t < n → tget ts' t = tget ts t) (hb : ∀ t, n ≤ t → tget ts' t = undef)
    (hn : h.nx ≤ h2.nx) (hg : ∀ i o, h2.get i = some o → h.get i = some o) : HCode P C c ts n df rd h Φ :=
  ⟨fun hC r ht hsz hd hF => hc.go hC (r.of_get hn hg) (ht.other hsz h1 hb) hsz hd hF⟩
theorem HCall.other {f : Nat} {args : List Value} {h2 : AH} {Φ : AEnd → AH → Prop} (hc : HCall P f args h2 Φ) (hn : h.nx ≤ h2.nx) (hg : ∀ i o, h2.get i = some o → h.get i = some o) : HCall P f args h Φ :=
  ⟨fun r hv => hc.go (r.of_get hn hg) hv⟩

/-! ### What the world holds anew, and mentions nothing new -/
mutual
theorem VR.back {m m' : M} (hle : m.le m') : ∀ {v v0 v'}, VR m v v0 → VR m' v v' → VR m v v'
  | _, _, _, .bool b, .bool _ => .bool b
  | _, _, _, .int k n, .int _ _ => .int k n
  | _, _, _, .float k n, .float _ _ => .float k n
  | _, _, _, .complex k a b, .complex _ _ _ => .complex k a b
  | _, _, _, .string s, .string _ => .string s
  | _, _, _, .nilptr, .nilptr => .nilptr
  | _, _, _, .ptr o e, .ptr _ e' => by
    have := hle _ _ e
    rw [e'] at this; cases this
    exact .ptr o e
  | _, _, _, .nilsl, .nilsl => .nilsl
  | _, _, _, .sl e hs, .sl e' hs' => by
    have := hle _ _ e
    rw [e'] at this; cases this
    exact .sl e hs'
  | _, _, _, .nilmap, .nilmap => .nilmap
  | _, _, _, .map e, .map e' => by
    have := hle _ _ e
    rw [e'] at this; cases this
    exact .map e
  | _, _, _, .func f a b, .func f' a' b' => .func (FR.back hle f f') (VRL.back hle a a') (VRL.back hle b b')
  | _, _, _, .nilFunc, .nilFunc => .nilFunc
  | _, _, _, .iface a, .iface a' => .iface (VR.back hle a a')
  | _, _, _, .nilIface, .nilIface => .nilIface
  | _, _, _, .agg a, .agg a' => .agg (VRL.back hle a a')
  | _, _, _, .tuple a, .tuple a' => .tuple (VRL.back hle a a')
theorem VRL.back {m m' : M} (hle : m.le m') : ∀ {v v0 v'}, VRL m v v0 → VRL m' v v' → VRL m v v'
  | _, _, _, .nil, .nil => .nil
  | _, _, _, .cons a b, .cons a' b' => .cons (VR.back hle a a') (VRL.back hle b b')
theorem FR.back {m m' : M} (hle : m.le m') : ∀ {v v0 v'}, FR m v v0 → FR m' v v' → FR m v v'
  | _, _, _, .func f, .func _ => .func f
  | _, _, _, .method s, .method _ => .method s
  | _, _, _, .methodOf t s, .methodOf _ _ => .methodOf t s
  | _, _, _, .via t p f b, .via _ _ _ _ => .via t p f b
  | _, _, _, .yield e, .yield e' => by
    have := hle _ _ e
    rw [e'] at this; cases this
    exact .yield e
end

def WfV (m : M) (v : Value) : Prop := ∃ v', VR m v v'
def WfO (m : M) : AObj → Prop
  | .cells c _ => ∀ v ∈ c, WfV m v
  | .map es _ => ∀ e ∈ es, WfV m e.key ∧ WfV m e.val
  | .mapIter a _ _ _ => ∃ b, OR m a b
  | .strIter _ _ => True
  | .loop _ _ ts _ _ _ _ d => (∀ t, WfV m (tget ts t)) ∧ ∃ k, m d = some k
  | .dfr _ => True

theorem EsR.back (hle : m.le m') : ∀ {a b : List MapEntry}, (∀ e ∈ a, WfV m e.key ∧ WfV m e.val) → EsR m' a b → EsR m a b
  | _, _, _, .nil => .nil
  | _, _, hw, .cons e t => by
    obtain ⟨⟨_, h1⟩, ⟨_, h2⟩⟩ := hw _ List.mem_cons_self
    exact .cons ⟨VR.back hle h1 e.1, VR.back hle h2 e.2.1, e.2.2⟩ (EsR.back hle (fun x hx => hw x (List.mem_cons_of_mem _ hx)) t)
theorem ObjR.back (hle : m.le m') {k : Blk} {o : AObj} {ob : Obj} (hw : WfO m o) (e : ObjR m' k o ob) : ObjR m k o ob := by
  cases e with
  | cells e =>
    refine .cells ⟨e.hn, e.hcn, e.hsz, e.le, fun i v hv => ?_, e.free⟩
    obtain ⟨v', h1, h2⟩ := e.vals i v hv
    obtain ⟨v0, h0⟩ := hw v (List.mem_of_getElem? hv)
    exact ⟨v', h1, VR.back hle h0 h2⟩
  | map e => exact .map (e.back hle hw)
  | mapIter e hs =>
    obtain ⟨b, hb⟩ := hw
    refine .mapIter ?_ hs
    cases e with
    | none => exact .none
    | some e =>
      cases hb with
      | some e0 =>
        have := hle _ _ e0
        rw [e] at this; cases this
        exact .some e0
  | strIter s p hs => exact .strIter s p hs
  | loop e =>
    obtain ⟨h1, k, h2⟩ := hw
    refine .loop ⟨e.hst, e.hpe, fun t => ?_, e.hn, e.nb, e.hps, e.has, e.hbd, ?_, e.ok⟩
    · obtain ⟨v0, h0⟩ := h1 t
      exact VR.back hle h0 (e.hts t)
    · obtain ⟨k', g1, g2⟩ := e.hd
      have := hle _ _ h2
      rw [g1] at this; cases this
      exact ⟨k, h2, g2⟩
  | dfr => exact .dfr
theorem EsR.wf : ∀ {a b : List MapEntry}, EsR m a b → ∀ x ∈ a, WfV m x.key ∧ WfV m x.val
  | _, _, .nil, x, hx => by cases hx
  | _, _, .cons e t, x, hx => by
    rcases List.mem_cons.1 hx with rfl | hx
    · exact ⟨⟨_, e.1⟩, ⟨_, e.2.1⟩⟩
    · exact EsR.wf t x hx
theorem WfO.of_rel {k : Blk} {o : AObj} {ob : Obj} (e : ObjR m k o ob) : WfO m o := by
  cases e with
  | cells e =>
    intro v hv
    obtain ⟨i, hi⟩ := List.getElem?_of_mem hv
    obtain ⟨v', _, h2⟩ := e.vals i v hi
    exact ⟨v', h2⟩
  | map e =>
    exact fun x hx => EsR.wf e x hx
  | mapIter e hs => exact ⟨_, e⟩
  | strIter s p hs => exact trivial
  | loop e =>
    obtain ⟨k, h1, _⟩ := e.hd
    exact ⟨fun t => ⟨_, e.hts t⟩, k, h1⟩
  | dfr => exact trivial

/-- What a heap and arguments mention is known. -/
def Known (h : AH) (args : List Value) (m : M) : Prop := (∀ i o, h.get i = some o → WfO m o ∧ ∃ k, m i = some k) ∧ ∀ v ∈ args, WfV m v
theorem VRL.wf : ∀ {a b : List Value}, VRL m a b → ∀ v ∈ a, WfV m v
  | _, _, .nil, v, hv => by cases hv
  | _, _, .cons h t, v, hv => by
    rcases List.mem_cons.1 hv with rfl | hv
    · exact ⟨_, h⟩
    · exact VRL.wf t v hv
theorem Known.of (r : Rel K w0 m h w) {args : List Value} {args' : List Value} (hv : VRL m args args') : Known h args m :=
  ⟨fun i o e => by
    obtain ⟨k, ob, h1, _, _, h4⟩ := r.live i o e
    exact ⟨WfO.of_rel h4, k, h1⟩, hv.wf⟩

/-- A call whose garbage is forgotten. -/
theorem HCall.gc {f : Nat} {args : List Value} {Φ Ψ : AEnd → AH → Prop} (hc : HCall P f args h Φ)
    (hg : ∀ e' h', Φ e' h' → ∃ hj v, Ψ (.returned v) hj ∧ e' = .returned v ∧ hj.nx = h.nx ∧ (∀ i o, hj.get i = some o → h'.get i = some o ∧ ∃ o0, h.get i = some o0) ∧ ∀ m, Known h args m → (∀ i o, hj.get i = some o → WfO m o) ∧ WfV m v) : HCall P f args h Ψ := by
  refine ⟨fun {K w0 m w args'} r hv => ?_⟩
  refine CallsIn.mono (hc.go r hv) fun e w' p => ?_
  obtain ⟨e', h', m', q1, q2, q3, q4⟩ := p
  obtain ⟨hj, v, g1, g2, g3, g4, g5⟩ := hg e' h' q1
  subst g2
  obtain ⟨g5, v0, g6⟩ := g5 m (.of r hv)
  refine ⟨.returned v, hj, m, g1, m.le_refl, ⟨fun i k e => by rw [g3]; exact r.dom i k e, fun i o e => ?_, fun i j o o' k k' e1 e2 f1 f2 hb => ?_, q3.keep, q3.size, fun i hi => by rw [g3]; exact r.und i hi, q3.io⟩, ?_⟩
  · obtain ⟨e1, o0, e2⟩ := g4 i o e
    obtain ⟨k, ob, a1, a2, a3, a4⟩ := q3.live i o e1
    obtain ⟨k0, _, b1, _⟩ := r.live i o0 e2
    have := q2 _ _ b1
    rw [a1] at this; cases this
    exact ⟨k, ob, b1, a2, a3, a4.back q2 (g5 i o e)⟩
  · exact q3.inj i j o o' k k' (g4 i o e1).1 (g4 j o' e2).1 (q2 _ _ f1) (q2 _ _ f2) hb
  · cases q4 with
    | returned hv' => exact .returned (VR.back q2 g6 hv')

/-- A call in a part of the heap. -/
theorem HCall.frame {f : Nat} {args : List Value} {hb : AH} {Φ Ψ : AEnd → AH → Prop} (hc : HCall P f args h Φ) (hn : h.nx = hb.nx) (hs : ∀ i o, h.get i = some o → hb.get i = some o)
    (hΨ : ∀ e' h', Φ e' h' → ∃ hj, Ψ e' hj ∧ hj.nx = h'.nx ∧ ∀ i o, hj.get i = some o → h'.get i = some o ∨ (hb.get i = some o ∧ h.get i = none)) : HCall P f args hb Ψ := by
  refine ⟨fun {K w0 m w args'} r hv => ?_⟩
  have rs := r.sub hn hs (D := fun _ => False) (fun _ h => h.elim)
  refine CallsIn.mono (hc.go rs hv) fun e w' p => ?_
  obtain ⟨e', h', m', q1, q2, q3, q4⟩ := p
  obtain ⟨hj, g1, g2, g3⟩ := hΨ e' h' q1
  exact ⟨e', hj, m', g1, q2, r.join q3 q2 g2 g3, q4⟩

def subPT : PT AObj → PT AObj → Bool
  | .nil, _ => true
  | .node a x b, .nil => x.isNone && subPT a .nil && subPT b .nil
  | .node a x b, .node c y d => (match x with | none => true | some o => (match y with | some o' => beqO o o' | none => false)) && subPT a c && subPT b d
theorem subPT_get : ∀ (s t : PT AObj), subPT s t = true → ∀ (i : Nat) (o : AObj), s.get i = some o → t.get i = some o
  | .nil, t, _, i, o, e => by rw [PT.get_nil] at e; cases e
  | .node a x b, t, h, i, o, e => by
    cases t with
    | nil =>
      simp only [subPT, Bool.and_eq_true, Option.isNone_iff_eq_none] at h
      obtain ⟨⟨h1, h2⟩, h3⟩ := h
      cases i with
      | zero => rw [PT.get_node_zero, h1] at e; cases e
      | succ i =>
        rw [PT.get_node_succ] at e
        cases hp : Nat.beq (i % 2) 0 with
        | true => rw [hp] at e; have := subPT_get a .nil h2 _ _ e; rw [PT.get_nil] at this; cases this
        | false => rw [hp] at e; have := subPT_get b .nil h3 _ _ e; rw [PT.get_nil] at this; cases this
    | node c y d =>
      simp only [subPT, Bool.and_eq_true] at h
      obtain ⟨⟨h1, h2⟩, h3⟩ := h
      cases i with
      | zero =>
        rw [PT.get_node_zero] at e ⊢
        subst e
        cases y with
        | none => simp at h1
        | some o' => simp only at h1; rw [beqO_eq h1]
      | succ i =>
        rw [PT.get_node_succ] at e ⊢
        cases hp : Nat.beq (i % 2) 0 with
        | true => rw [hp] at e; exact subPT_get a c h2 _ _ e
        | false => rw [hp] at e; exact subPT_get b d h3 _ _ e

/-- each answer is v, and the heap is as it was, but for what is new -/
def pureOut (h : AH) (v : Value) : Out → Bool
  | .ok l => l.all fun r => match r with | .call (.returned v') h' => beqV 20 v v' && subPT h.t h'.t | _ => false
  | .fail _ => false
theorem HCall.pure (ok : TOk T P) {k f : Nat} {args : List Value} {v : Value} (e : pureOut h v (arun T k (.call f args h)) = true) (hp : plainV v = true) : HCall P f args h fun e' h' => e' = .returned v ∧ h' = h := by
  unfold pureOut at e
  split at e
  case h_2 => cases e
  rename_i l hl
  refine HCall.gc (HCall.run ok hl) fun e' h' hm => ?_
  have := List.all_eq_true.1 e _ hm
  split at this
  · rename_i v' h2 heq
    cases heq
    simp only [Bool.and_eq_true] at this
    have hv := beqV_eq _ _ _ this.1
    subst hv
    exact ⟨h, v, ⟨rfl, rfl⟩, rfl, rfl, fun i o e => ⟨subPT_get _ _ this.2 i o e, o, e⟩, fun m hk => ⟨fun i o e => (hk.1 i o e).1, v, VR.of_plain m hp⟩⟩
  · cases this
/-- .. in a greater heap -/
theorem HCall.pureIn {f : Nat} {args : List Value} {v : Value} {hb : AH} (hc : HCall P f args h fun e' h' => e' = .returned v ∧ h' = h) (hn : h.nx = hb.nx) (hs : ∀ i o, h.get i = some o → hb.get i = some o) : HCall P f args hb fun e' h' => e' = .returned v ∧ h' = hb := by
  refine hc.frame hn hs fun e' h' ⟨h1, h2⟩ => ⟨hb, ⟨h1, rfl⟩, by rw [h2, hn], fun i o e => ?_⟩
  subst h2
  cases hg : h'.get i with
  | none => exact .inr ⟨e, rfl⟩
  | some o' => left; rw [← e]; exact (hs i o' hg).symm
end
end Go.AM
namespace Go.AM
section
variable {P : Program} {C : Ctx} {T : Tbl} {K : Kp} {w0 : World} {m m' : M} {h h' : AH} {w w' : World} {n : Nat} {ts : PT Value} {df : List Deferred} {rd : Option Nat} {Φ Ψ : AExit → PT Value → List Deferred → AH → Prop}

/-! ### A code's parts, by name of their place -/
def Code.s1 : Code → Code
  | .seq a _ => a
  | .cond _ a _ => a
  | .block _ b => b
  | .loop b => b
  | .scope b => b
  | .rangeFunc _ _ a _ => a
  | c => c
def Code.s2 : Code → Code
  | .seq _ b => b
  | .cond _ _ b => b
  | .rangeFunc _ _ _ b => b
  | c => c
def Code.co : Code → Operand
  | .cond o _ _ => o
  | _ => .tmp 0
def Code.ops : Code → Array Oper
  | .region _ ops _ => ops
  | _ => #[]
def Code.id : Code → Nat
  | .region i _ _ => i
  | .block i _ => i
  | _ => 0

def Code.xid : Code → Nat
  | .exit i => i
  | _ => 0
theorem HCode.exit {c : Code} (he : c = .exit (Code.xid c)) (hΦ : Φ (.exit (Code.xid c)) ts df h) : HCode P C c ts n df rd h Φ := by
  refine ⟨fun {K w0 m w a F} hC r ht hs hd hF => ?_⟩
  rw [he]
  exact wpIn_exit ⟨_, _, _, _, m, hΦ, m.le_refl, r, ht, hs, hd, .exit _⟩
theorem HCode.ret {c : Code} (he : c = .ret) (hΦ : Φ .ret ts df h) : HCode P C c ts n df rd h Φ := by
  refine ⟨fun {K w0 m w a F} hC r ht hs hd hF => ?_⟩
  rw [he]
  exact wpIn_ret ⟨_, _, _, _, m, hΦ, m.le_refl, r, ht, hs, hd, .ret⟩
theorem HCode.skip {c : Code} (he : c = .skip) (hΦ : Φ .normal ts df h) : HCode P C c ts n df rd h Φ := by
  refine ⟨fun {K w0 m w a F} hC r ht hs hd hF => ?_⟩
  rw [he]
  exact wpIn_skip ⟨_, _, _, _, m, hΦ, m.le_refl, r, ht, hs, hd, .normal⟩

theorem HCode.seq {c : Code} (he : c = .seq (Code.s1 c) (Code.s2 c)) (h1 : HCode P C (Code.s1 c) ts n df rd h Ψ) (h2 : ∀ e ts df h, Ψ e ts df h → match e with | .normal => HCode P C (Code.s2 c) ts n df rd h Φ | e => Φ e ts df h) : HCode P C c ts n df rd h Φ := by
  refine ⟨fun {K w0 m w a F} hC r ht hs hd hF => ?_⟩
  rw [he]
  refine wpIn_seq (wpIn_mono (h1.go hC r ht hs hd hF) fun e a w hq => ?_)
  obtain ⟨e', ts', df', hh, m', q1, q2, q3, q4, q5, q6, q7⟩ := hq
  have := h2 _ _ _ _ q1
  cases q7 with
  | normal => exact wpIn_mono (this.go (C.le q2 hC) q3 q4 q5 q6 (hF.mono q2)) fun e a w p => p.mono q2 (fun _ _ _ _ h => h)
  | exit i => exact ⟨_, ts', df', hh, m', this, q2, q3, q4, q5, q6, .exit i⟩
  | goto i => exact ⟨_, ts', df', hh, m', this, q2, q3, q4, q5, q6, .goto i⟩
  | ret => exact ⟨_, ts', df', hh, m', this, q2, q3, q4, q5, q6, .ret⟩
  | panic hc => exact ⟨_, ts', df', hh, m', this, q2, q3, q4, q5, q6, .panic hc⟩

theorem HCode.cond {c : Code} (he : c = .cond (Code.co c) (Code.s1 c) (Code.s2 c)) (hok : operandOk (Code.co c) = true) {b : Bool} (hb : aeval ts (Code.co c) = .bool b) (h1 : b = true → HCode P C (Code.s1 c) ts n df rd h Φ) (h2 : b = false → HCode P C (Code.s2 c) ts n df rd h Φ) : HCode P C c ts n df rd h Φ := by
  refine ⟨fun {K w0 m w a F} hC r ht hs hd hF => ?_⟩
  rw [he]
  have hev := ht.eval hok
  rw [hb] at hev
  refine wpIn_cond ((hev.bool_of b).1 rfl) ?_
  cases b with
  | true => exact (h1 rfl).go hC r ht hs hd hF
  | false => exact (h2 rfl).go hC r ht hs hd hF

theorem HCode.block {c : Code} (he : c = .block (Code.id c) (Code.s1 c)) (h1 : HCode P C (Code.s1 c) ts n df rd h Ψ) (h2 : ∀ e ts df h, Ψ e ts df h → match e with | .exit j => if j = Code.id c then Φ .normal ts df h else Φ (.exit j) ts df h | e => Φ e ts df h) : HCode P C c ts n df rd h Φ := by
  refine ⟨fun {K w0 m w a F} hC r ht hs hd hF => ?_⟩
  rw [he]
  refine wpIn_block (wpIn_mono (h1.go hC r ht hs hd hF) fun e a w hq => ?_)
  obtain ⟨e', ts', df', hh, m', q1, q2, q3, q4, q5, q6, q7⟩ := hq
  have := h2 _ _ _ _ q1
  cases q7 with
  | exit j =>
    simp only [Exit.inBlock] at this ⊢
    split at this
    · rename_i hj
      rw [if_pos hj]
      exact ⟨_, ts', df', hh, m', this, q2, q3, q4, q5, q6, .normal⟩
    · rename_i hj
      rw [if_neg hj]
      exact ⟨_, ts', df', hh, m', this, q2, q3, q4, q5, q6, .exit j⟩
  | normal => exact ⟨_, ts', df', hh, m', this, q2, q3, q4, q5, q6, .normal⟩
  | goto i => exact ⟨_, ts', df', hh, m', this, q2, q3, q4, q5, q6, .goto i⟩
  | ret => exact ⟨_, ts', df', hh, m', this, q2, q3, q4, q5, q6, .ret⟩
  | panic hc => exact ⟨_, ts', df', hh, m', this, q2, q3, q4, q5, q6, .panic hc⟩

/-- A loop with a measure. -/
theorem HCode.loop {c : Code} (he : c = .loop (Code.s1 c)) (I : Nat → PT Value → List Deferred → AH → Prop)
    (hb : ∀ v ts df h, I v ts df h → HCode P C (Code.s1 c) ts n df rd h fun e ts' df' h' => match e with | .normal => ∃ v', v' < v ∧ I v' ts' df' h' | e => Φ e ts' df' h') {v : Nat} (h0 : I v ts df h) : HCode P C c ts n df rd h Φ := by
  have main : ∀ v ts df h, I v ts df h → ∀ {K w0 m w a F}, C.p K w0 m → Rel K w0 m h w → TR m ts a.tmps → a.tmps.size = n → DL m df a.defers → RdOk m rd F → loopIn F 0 P (Code.s1 c) (PostP K w0 m n Φ) a w := by
    intro v
    induction v using Nat.strongRecOn with
    | _ v ih =>
      intro ts df h hi K w0 m w a F hC r ht hs hd hF b k cs hro hbf hr
      obtain ⟨ex, a1, w1, hq, harr⟩ := (hb v ts df h hi).go hC r ht hs hd hF b (.inLoop (Code.s1 c) :: k) cs hro hbf hr
      obtain ⟨e', ts1, df1, h1, m1, q1, q2, q3, q4, q5, q6, q7⟩ := hq
      cases q7 with
      | normal =>
        obtain ⟨v', hlt, hi'⟩ := q1
        obtain ⟨e2', a2, w2, hq2, harr2⟩ := ih v' hlt ts1 df1 h1 hi' (C.le q2 hC) q3 q4 q5 q6 (hF.mono q2) b k cs hro hbf hr
        exact ⟨e2', a2, w2, hq2.mono q2 (fun _ _ _ _ h => h), .of_steps (StepsIn.trans harr (.one (fenced_calm hbf hr rfl) stepR_inLoop)) harr2⟩
      | exit i => exact ⟨_, a1, w1, ⟨_, ts1, df1, h1, m1, q1, q2, q3, q4, q5, q6, .exit i⟩, .pass (x := .inLoop (Code.s1 c)) rfl (fun _ _ => .inl (by simp)) harr⟩
      | goto i => exact ⟨_, a1, w1, ⟨_, ts1, df1, h1, m1, q1, q2, q3, q4, q5, q6, .goto i⟩, .pass (x := .inLoop (Code.s1 c)) rfl (fun _ _ => .inl (by simp)) harr⟩
      | ret => exact ⟨_, a1, w1, ⟨_, ts1, df1, h1, m1, q1, q2, q3, q4, q5, q6, .ret⟩, .pass (x := .inLoop (Code.s1 c)) rfl (fun _ _ => .inl (by simp)) harr⟩
      | panic hcl => exact ⟨_, a1, w1, ⟨_, ts1, df1, h1, m1, q1, q2, q3, q4, q5, q6, .panic hcl⟩, .pass (x := .inLoop (Code.s1 c)) rfl (fun _ _ => .inl (by simp)) harr⟩
  refine ⟨fun {K w0 m w a F} hC r ht hs hd hF => ?_⟩
  rw [he]
  exact wpIn_loop_of (main v ts df h h0 hC r ht hs hd hF)

/-! ### Operations in order -/
noncomputable def putD (ts : PT Value) (d : Option Nat) (x : Value) : PT Value :=
  match d with
  | none => ts
  | some d => ts.put 30 d (some x)
def dstB (n : Nat) : Option Nat → Bool
  | none => true
  | some d => Nat.blt d n
theorem TR.putD {a : Act} (ht : TR m ts a.tmps) (hs : a.tmps.size = n) (hn : n < 100000) {d : Option Nat} (hd : dstB n d = true) {x x' : Value} (hx : VR m x x') : TR m (AM.putD ts d x) (a.put d x').tmps ∧ (a.put d x').tmps.size = n ∧ (a.put d x').defers = a.defers := by
  cases d with
  | none => exact ⟨ht, hs, rfl⟩
  | some d =>
    simp only [dstB, Nat.blt_eq] at hd
    exact ⟨TR.put ht (by omega) (by omega) hx, by rw [put_size]; exact hs, rfl⟩

theorem HCode.region {c : Code} (he : c = .region (Code.id c) (Code.ops c) false) (h1 : HOps P C (Code.ops c) n rd 0 ts df h Φ) : HCode P C c ts n df rd h Φ := by
  refine ⟨fun {K w0 m w a F} hC r ht hs hd hF => ?_⟩
  rw [he]
  refine wpIn_region ?_
  rw [List.range_eq_range']
  exact h1.go hC m.le_refl hF r ht hs hd

theorem HOps.nil {ops : Array Oper} {i : Nat} (hi : Nat.beq i ops.size = true) (hΦ : Φ .normal ts df h) : HOps P C ops n rd i ts df h Φ := by
  refine ⟨fun {K w0 m0 m w a F} hC hle hF r ht hs hd => ?_⟩
  have := Nat.eq_of_beq_eq_true hi
  subst this
  rw [Nat.sub_self]
  exact ⟨_, _, _, _, m, hΦ, hle, r, ht, hs, hd, .normal⟩

/-- operation i of a list -/
def opAt (ops : Array Oper) (i : Nat) : Oper := (ops[i]?).getD default

theorem range_at {ops : Array Oper} {i : Nat} (hi : i < ops.size) : List.range' i (ops.size - i) = i :: List.range' (i + 1) (ops.size - (i + 1)) := by
  rw [show ops.size - i = (ops.size - (i + 1)) + 1 by omega, List.range'_succ]
theorem opAt_some {ops : Array Oper} {i : Nat} (hi : i < ops.size) : ops[i]? = some (opAt ops i) := by
  unfold opAt; rw [Array.getElem?_eq_getElem hi]; rfl

theorem HOps.op (ok : TOk T P) (hn : n < 100000) {ops : Array Oper} {i : Nat} (hi : Nat.blt i ops.size = true) (hok : operOk (opAt ops i) = true) (hw : awanted ops ts (opAt ops i) = true) {x : Value}
    (e : aop T (aeval ts) (opAt ops i) h = .v x h') (hd : dstB n (opAt ops i).dst = true) (next : HOps P C ops n rd (i + 1) (putD ts (opAt ops i).dst x) df h' Φ) : HOps P C ops n rd i ts df h Φ := by
  refine ⟨fun {K w0 m0 m w a F} hC hle hF r ht hs hdf => ?_⟩
  rw [Nat.blt_eq] at hi
  rw [range_at hi]
  simp only [wpOpsIn, opAt_some hi]
  rw [wanted_eq ht, hw]
  simp only [if_true]
  refine ⟨fun f _ => hF.fn f, ?_⟩
  have hro := aop_sound ok r (opAt ops i) (ρ := aeval ts) (ρ' := a.eval) (fun x hx => ht.eval (by
    unfold operOk at hok; exact List.all_eq_true.1 hok x hx))
  rw [e] at hro
  rw [sem_of hF (fun c hc => by
    rcases aop_defer (T := T) (h := h) hc (ρ := aeval ts) with ⟨d, hd⟩ | ⟨w, hw⟩
    · rw [hd] at e; cases e
    · rw [hw] at e; cases e)]
  obtain ⟨nx, x', w', m', h1, h2, h3, h4, h5⟩ := hro
  obtain ⟨p1, p2, p3⟩ := TR.putD (ht.mono h3) hs hn hd h5
  rw [h1]
  have := next.go (C.le h3 hC) (M.le_trans hle h3) (hF.mono h3) h4 p1 p2 (p3 ▸ hdf.mono h3)
  rcases h2 with rfl | ⟨rfl, rfl⟩
  · exact this
  · exact this

theorem HOps.skip (hn : n < 100000) {ops : Array Oper} {i : Nat} (hi : Nat.blt i ops.size = true) (hw : awanted ops ts (opAt ops i) = false) (hd : dstB n (opAt ops i).dst = true) (next : HOps P C ops n rd (i + 1) (putD ts (opAt ops i).dst undef) df h Φ) : HOps P C ops n rd i ts df h Φ := by
  refine ⟨fun {K w0 m0 m w a F} hC hle hF r ht hs hdf => ?_⟩
  rw [Nat.blt_eq] at hi
  rw [range_at hi]
  simp only [wpOpsIn, opAt_some hi]
  rw [wanted_eq ht, hw]
  simp only [Bool.false_eq_true, if_false]
  obtain ⟨p1, p2, p3⟩ := TR.putD ht hs hn hd (VR.undef m)
  exact ⟨fun f _ => hF.fn f, next.go hC hle hF r p1 p2 (p3 ▸ hdf)⟩

theorem HOps.call (ok : TOk T P) (hn : n < 100000) {ops : Array Oper} {i : Nat} (hi : Nat.blt i ops.size = true) (hok : operOk (opAt ops i) = true) (hw : awanted ops ts (opAt ops i) = true) {f : Nat} {args : List Value} {h1 : AH} {Θ : AEnd → AH → Prop}
    (e : aop T (aeval ts) (opAt ops i) h = .enter f args h1) (hc : HCall P f args h1 Θ) (hd : dstB n (opAt ops i).dst = true)
    (next : ∀ e' h2, Θ e' h2 → match e' with | .returned v => HOps P C ops n rd (i + 1) (putD ts (opAt ops i).dst v) df h2 Φ | .panicked ch => Φ (.panic ch) ts df h2) : HOps P C ops n rd i ts df h Φ := by
  refine ⟨fun {K w0 m0 m w a F} hC hle hF r ht hs hdf => ?_⟩
  rw [Nat.blt_eq] at hi
  rw [range_at hi]
  simp only [wpOpsIn, opAt_some hi]
  rw [wanted_eq ht, hw]
  simp only [if_true]
  refine ⟨fun f _ => hF.fn f, ?_⟩
  have hro := aop_sound ok r (opAt ops i) (ρ := aeval ts) (ρ' := a.eval) (fun x hx => ht.eval (by
    unfold operOk at hok; exact List.all_eq_true.1 hok x hx))
  rw [e] at hro
  rw [sem_of hF (fun c hc => by
    rcases aop_defer (T := T) (h := h) hc (ρ := aeval ts) with ⟨d, hd⟩ | ⟨w, hw⟩
    · rw [hd] at e; cases e
    · rw [hw] at e; cases e)]
  obtain ⟨args', w', m', h1', h2, h3, h4⟩ := hro
  rw [h1']
  refine ⟨hF.depth, hF.calls ?_⟩
  refine CallsIn.mono (hc.go h3 h4) fun en w2 hq => ?_
  obtain ⟨e', h2', m2, q1, q2, q3, q4⟩ := hq
  have hnx := next e' h2' q1
  have hle2 := M.le_trans h2 q2
  cases q4 with
  | returned hv =>
    obtain ⟨p1, p2, p3⟩ := TR.putD (ht.mono hle2) hs hn hd hv
    exact hnx.go (C.le hle2 hC) (M.le_trans hle hle2) (hF.mono hle2) q3 p1 p2 (p3 ▸ hdf.mono hle2)
  | panicked hv =>
    exact ⟨_, _, _, _, m2, hnx, M.le_trans hle hle2, q3, ht.mono hle2, hs, hdf.mono hle2, .panic hv⟩

theorem wpOpsIn_mono {F : Fence} {ops : Array Oper} {Q Q' : Exit → Act → World → Prop} (hQ : ∀ e a w, Q e a w → Q' e a w) : ∀ (l : List Nat) (a : Act) (w : World), wpOpsIn F 0 P ops Q l a w → wpOpsIn F 0 P ops Q' l a w
  | [], a, w, h => hQ _ _ _ h
  | i :: l, a, w, h => by
    have ih := wpOpsIn_mono (F := F) (ops := ops) hQ l
    have hlo : LetsOut Q → LetsOut Q' := fun ⟨a, w, h⟩ => ⟨a, w, hQ _ _ _ h⟩
    unfold wpOpsIn at h ⊢
    cases ho : ops[i]? with
    | none => rw [ho] at h; exact ih a w h
    | some o =>
      rw [ho] at h
      simp only at h ⊢
      split
      · rename_i hw
        rw [if_pos hw] at h
        refine ⟨h.1, ?_⟩
        have h := h.2
        generalize (o.semAt F.round a.eval).run P w = r at h ⊢
        cases r with
        | ok x w' =>
          cases x <;> simp only [Oper.uponIn] at h ⊢ <;>
            first
              | exact ih _ _ h
              | exact ⟨h.1, CallsIn.mono h.2 (fun e w'' he => by cases e <;> first | exact ih _ _ he | exact hQ _ _ _ he | exact hlo he)⟩
              | exact ⟨h.1, RowsIn.mono h.2 (fun _ _ he => ih _ _ he)⟩
              | exact ⟨h.1, RoundIn.mono h.2 (fun e w'' he => by cases e <;> first | exact ih _ _ he | exact hQ _ _ _ he | exact hlo he)⟩
        | halt x w' => cases x <;> simp only [Oper.uponIn] at h ⊢ <;> exact hQ _ _ _ h
      · rename_i hw
        rw [if_neg hw] at h
        exact ⟨h.1, ih _ _ h.2⟩

/-- the rest of a region is run -/
theorem HOps.rest (ok : TOk T P) (hn : n < 100000) {ops : Array Oper} {i k : Nat} (hi : Nat.ble i ops.size = true) (hok : (ops.toList.drop i).all operOk = true) {outs : List Resp} (e : aops T (arun T k) ops n rd (ops.toList.drop i) ts df h = .ok outs) (hΦ : ∀ e ts df h, .code e ts df h ∈ outs → Φ e ts df h) : HOps P C ops n rd i ts df h Φ := by
  refine ⟨fun {K w0 m0 m w a F} hC hle hF r ht hs hdf => ?_⟩
  rw [Nat.ble_eq] at hi
  have := aops_sound ok (arun_ok ok k) hn (F := F) (ops.toList.drop i) i rfl (fun o ho => List.all_eq_true.1 hok o ho) m0 outs outs ts df h e (fun _ h => h) m w a hle hF r ht hs hdf
  rw [List.length_drop, Array.length_toList] at this
  have mono : ∀ e a w, PostQ K w0 m0 n outs e a w → PostP K w0 m0 n Φ e a w := fun e a w hq => by
    obtain ⟨e', ts', df', hh, m', q1, q2⟩ := hq
    exact ⟨e', ts', df', hh, m', hΦ _ _ _ _ q1, q2⟩
  exact wpOpsIn_mono mono _ _ _ this

/-- A function's body, and its results (nothing put off). -/
theorem HCall.of_code (ok : TOk T P) {f : Nat} {args : List Value} {fn : Func} {c : Code} {Θ : AEnd → AH → Prop} (hfn : T.fn f = some fn) (hb : fn.body = some c) (hle : Nat.ble args.length fn.ntmps = true) (hn : Nat.blt fn.ntmps 100000 = true)
    (hc : HCode P Ctx.any c (initTs args) fn.ntmps [] none h fun e ts df h' => match e with
      | .normal | .ret => df = [] ∧ ∃ v, aresults T fn ts h' = some v ∧ Θ (.returned v) h'
      | .panic ch => df = [] ∧ Θ (.panicked ch) h'
      | _ => False) : HCall P f args h Θ := by
  refine ⟨fun {K w0 m w args'} r hv => ?_⟩
  rw [Nat.ble_eq] at hle
  rw [Nat.blt_eq] at hn
  obtain ⟨t1, t2⟩ := TR.init hv hle hn
  refine callsIn_of_wp_marks (ok.fn f fn hfn).1 hb trivial (wpIn_mono (hc.go trivial r (a := { tmps := _, defers := [] }) t1 t2 .nil (show RdOk m none Fence.wide from rfl)) fun ex a1 w1 hq => ?_)
  obtain ⟨e', ts1, df1, h1', m1, q1, q2, q3, q4, q5, q6, q7⟩ := hq
  cases q7 with
  | normal =>
    obtain ⟨rfl, v, g1, g2⟩ := q1
    generalize hdd : a1.defers = dd at q6
    cases q6
    obtain ⟨v', g3, g4⟩ := aresults_sound (P := P) ok q3 q4 g1
    show LeavesInM Fence.wide 0 P fn a1.tmps (PostE K w0 m Θ) a1.defers .returning w1
    rw [hdd]
    exact ⟨v', g3, _, h1', m1, g2, q2, q3, .returned g4⟩
  | ret =>
    obtain ⟨rfl, v, g1, g2⟩ := q1
    generalize hdd : a1.defers = dd at q6
    cases q6
    obtain ⟨v', g3, g4⟩ := aresults_sound (P := P) ok q3 q4 g1
    show LeavesInM Fence.wide 0 P fn a1.tmps (PostE K w0 m Θ) a1.defers .returning w1
    rw [hdd]
    exact ⟨v', g3, _, h1', m1, g2, q2, q3, .returned g4⟩
  | panic hcl =>
    obtain ⟨rfl, g2⟩ := q1
    generalize hdd : a1.defers = dd at q6
    cases q6
    show LeavesInM Fence.wide 0 P fn a1.tmps (PostE K w0 m Θ) a1.defers (.panicking _) w1
    rw [hdd]
    exact ⟨_, h1', m1, g2, q2, q3, .panicked hcl⟩
  | exit i => exact q1.elim
  | goto i => exact q1.elim
end
end Go.AM
namespace Go.AM

def Code.at (c : Code) : List Nat → Code
  | [] => c
  | 1 :: p => Code.at (Code.s1 c) p
  | _ :: p => Code.at (Code.s2 c) p

def lk : List (Nat × Value) → Nat → Value → Value
  | [], _, d => d
  | (i, v) :: r, t, d => cond (Nat.beq i t) v (lk r t d)
noncomputable def mkT (n : Nat) (sp : List (Nat × Value)) (y : Nat → Value) : PT Value := PT.ofList 0 ((List.range n).map fun t => lk sp t (y t)) .nil
noncomputable def putAll : List (Nat × AObj) → PT AObj
  | [] => .nil
  | (i, o) :: r => (putAll r).put 30 i (some o)
noncomputable def mkH (l : List (Nat × AObj)) (nx : Nat) : AH := ⟨putAll l, nx⟩

theorem tget_mkT {n : Nat} (hn : n < 100000) (sp : List (Nat × Value)) (y : Nat → Value) (t : Nat) : tget (mkT n sp y) t = if t < n then lk sp t (y t) else undef := by
  unfold mkT tget
  rw [ofList_get _ _ _ _ (by simp; unfold lim; omega)]
  simp only [List.length_map, List.length_range, Nat.zero_le, true_and, Nat.zero_add, Nat.sub_zero]
  by_cases h : t < n
  · rw [if_pos h, if_pos h]; simp [h]
  · rw [if_neg h, if_neg h]; rfl
theorem mkH_get {nx : Nat} : ∀ {l : List (Nat × AObj)}, (∀ p ∈ l, p.1 < lim) → ∀ {i : Nat} {o : AObj}, (mkH l nx).get i = some o → (i, o) ∈ l
  | [], _, i, o, e => by cases e
  | (j, ob) :: r, hl, i, o, e => by
    have e2 : ((putAll r).put 30 j (some ob)).get i = some o := e
    clear e
    rw [PT.get_put _ _ _ _ (hl _ List.mem_cons_self)] at e2
    split at e2
    · rename_i h; subst h; cases e2; exact List.mem_cons_self
    · exact List.mem_cons_of_mem _ (mkH_get (nx := nx) (fun p hp => hl p (List.mem_cons_of_mem _ hp)) e2)
theorem lk_mem : ∀ {sp : List (Nat × Value)} {ts : PT Value}, (sp.map fun p => tget ts p.1) = sp.map (·.2) → ∀ t, lk sp t (tget ts t) = tget ts t
  | [], _, _, t => rfl
  | (i, v) :: r, ts, e, t => by
    simp only [List.map_cons, List.cons.injEq] at e
    simp only [lk]
    cases hb : Nat.beq i t with
    | true =>
      have := Nat.eq_of_beq_eq_true hb
      subst this
      exact e.1.symm
    | false => exact lk_mem e.2 t
theorem get_of_map {h : AH} : ∀ {l : List (Nat × AObj)}, (l.map fun p => h.get p.1) = (l.map fun p => some p.2) → ∀ p ∈ l, h.get p.1 = some p.2
  | [], _, p, hp => by cases hp
  | q :: l, e, p, hp => by
    simp only [List.map_cons, List.cons.injEq] at e
    rcases List.mem_cons.1 hp with rfl | hp
    · exact e.1
    · exact get_of_map e.2 p hp

section
variable {P : Program} {C : Ctx} {T : Tbl} {K : Kp} {w0 : World} {m m' : M} {h h' : AH} {w w' : World} {n : Nat} {ts : PT Value} {df : List Deferred} {rd : Option Nat} {Φ Ψ : AExit → PT Value → List Deferred → AH → Prop}

theorem HCode.canon {c : Code} (sp : List (Nat × Value)) (l : List (Nat × AObj)) (nx : Nat) (hn : Nat.blt n 100000 = true) (e1 : (sp.map fun p => tget ts p.1) = sp.map (·.2)) (e2 : (l.map fun p => h.get p.1) = (l.map fun p => some p.2)) (e3 : Nat.ble h.nx nx = true) (e4 : (l.all fun p => Nat.blt p.1 lim) = true)
    (next : ∀ y, HCode P C c (mkT n sp y) n df rd (mkH l nx) Φ) : HCode P C c ts n df rd h Φ := by
  rw [Nat.blt_eq] at hn
  refine HCode.other (next (tget ts)) (fun t ht => ?_) (fun t ht => ?_) (by rw [Nat.ble_eq] at e3; exact e3) fun i o e => ?_
  · rw [tget_mkT hn, if_pos ht]; exact lk_mem e1 t
  · rw [tget_mkT hn, if_neg (by omega)]
  · have hm := mkH_get (fun p hp => by have := List.all_eq_true.1 e4 p hp; rwa [Nat.blt_eq] at this) e
    exact get_of_map e2 _ hm
theorem HOps.canon {ops : Array Oper} {i : Nat} (sp : List (Nat × Value)) (l : List (Nat × AObj)) (nx : Nat) (hn : Nat.blt n 100000 = true) (e1 : (sp.map fun p => tget ts p.1) = sp.map (·.2)) (e2 : (l.map fun p => h.get p.1) = (l.map fun p => some p.2)) (e3 : Nat.ble h.nx nx = true) (e4 : (l.all fun p => Nat.blt p.1 lim) = true)
    (next : ∀ y, HOps P C ops n rd i (mkT n sp y) df (mkH l nx) Φ) : HOps P C ops n rd i ts df h Φ := by
  rw [Nat.blt_eq] at hn
  refine ⟨fun {K w0 m0 m w a F} hC hle hF r ht hs hdf => ?_⟩
  refine (next (tget ts)).go hC hle hF (r.of_get (by rw [Nat.ble_eq] at e3; exact e3) fun i o e => ?_) (ht.other hs (fun t ht => ?_) (fun t ht => ?_)) hs hdf
  · have hm := mkH_get (fun p hp => by have := List.all_eq_true.1 e4 p hp; rwa [Nat.blt_eq] at this) e
    exact get_of_map e2 _ hm
  · rw [tget_mkT hn, if_pos ht]; exact lk_mem e1 t
  · rw [tget_mkT hn, if_neg (by omega)]

/-! ### Runs -/
noncomputable def runOps (T : Tbl) (ops : Array Oper) (n : Nat) : Nat → Nat → PT Value → AH → Option (PT Value × AH)
  | 0, _, ts, h => some (ts, h)
  | c + 1, i, ts, h => cond (dstB n (opAt ops i).dst)
    (cond (awanted ops ts (opAt ops i))
      (match aop T (aeval ts) (opAt ops i) h with
        | .v x h' => runOps T ops n c (i + 1) (putD ts (opAt ops i).dst x) h'
        | _ => none)
      (runOps T ops n c (i + 1) (putD ts (opAt ops i).dst undef) h)) none
def rTs : Option (PT Value × AH) → PT Value
  | some p => p.1
  | none => .nil
def rH : Option (PT Value × AH) → AH
  | some p => p.2
  | none => ⟨.nil, 0⟩
theorem HOps.run1 (ok : TOk T P) (hn : n < 100000) {ops : Array Oper} (hok : (ops.toList.all operOk) = true) : ∀ (j i : Nat) (ts : PT Value) (h : AH) (ts' : PT Value) (h' : AH), i + j ≤ ops.size → runOps T ops n j i ts h = some (ts', h') → HOps P C ops n rd (i + j) ts' df h' Φ → HOps P C ops n rd i ts df h Φ
  | 0, i, ts, h, ts', h', hsz, e, next => by cases e; exact next
  | j + 1, i, ts, h, ts', h', hsz, e, next => by
    have hi : Nat.blt i ops.size = true := by rw [Nat.blt_eq]; omega
    have hop : operOk (opAt ops i) = true := List.all_eq_true.1 hok _ (by
      have := opAt_some (ops := ops) (i := i) (by omega)
      exact List.mem_of_getElem? (i := i) (by simpa using this))
    simp only [runOps] at e
    cases hd : dstB n (opAt ops i).dst with
    | false => rw [hd] at e; cases e
    | true =>
      rw [hd, cond_true] at e
      have next' : HOps P C ops n rd (i + 1 + j) ts' df h' Φ := by rw [show i + 1 + j = i + (j + 1) by omega]; exact next
      cases hw : awanted ops ts (opAt ops i) with
      | false =>
        rw [hw, cond_false] at e
        exact HOps.skip hn hi hw hd (HOps.run1 ok hn hok j (i + 1) _ _ _ _ (by omega) e next')
      | true =>
        rw [hw, cond_true] at e
        split at e
        · rename_i x h2 he
          exact HOps.op ok hn hi hop hw he hd (HOps.run1 ok hn hok j (i + 1) _ _ _ _ (by omega) e next')
        · cases e
theorem HOps.run (ok : TOk T P) (hn : Nat.blt n 100000 = true) {ops : Array Oper} (hok : (ops.toList.all operOk) = true) {i : Nat} (j : Nat) (hsz : Nat.ble (i + j) ops.size = true) (e : (runOps T ops n j i ts h).isSome = true) (next : HOps P C ops n rd (i + j) (rTs (runOps T ops n j i ts h)) df (rH (runOps T ops n j i ts h)) Φ) : HOps P C ops n rd i ts df h Φ := by
  rw [Nat.blt_eq] at hn
  rw [Nat.ble_eq] at hsz
  cases hr : runOps T ops n j i ts h with
  | none => rw [hr] at e; cases e
  | some p =>
    obtain ⟨ts', h'⟩ := p
    rw [hr] at next
    exact HOps.run1 ok hn hok j i ts h ts' h' hsz hr next

def plainOp : Op → Bool
  | .defer _ => false
  | _ => true
/-- An operation whose run is known of the world. -/
theorem HOps.opW (hn : Nat.blt n 100000 = true) {ops : Array Oper} {i : Nat} (hi : Nat.blt i ops.size = true) (hp : plainOp (opAt ops i).op = true) (hw : awanted ops ts (opAt ops i) = true) {x : Value}
    (hx : ∀ {K : Kp} {w0 : World} {m : M} {w : World} {a : Act}, C.p K w0 m → Rel K w0 m h w → TR m ts a.tmps → ∃ x', (execOp a.eval (opAt ops i)).run P w = .ok (.value x') w ∧ VR m x x') (hd : dstB n (opAt ops i).dst = true) (next : HOps P C ops n rd (i + 1) (putD ts (opAt ops i).dst x) df h Φ) : HOps P C ops n rd i ts df h Φ := by
  rw [Nat.blt_eq] at hn
  refine ⟨fun {K w0 m0 m w a F} hC hle hF r ht hs hdf => ?_⟩
  rw [Nat.blt_eq] at hi
  rw [range_at hi]
  simp only [wpOpsIn, opAt_some hi]
  rw [wanted_eq ht, hw]
  simp only [if_true]
  refine ⟨fun f _ => hF.fn f, ?_⟩
  rw [sem_of hF (fun c hc => by rw [hc] at hp; cases hp)]
  obtain ⟨x', h1, h2⟩ := hx hC r ht
  rw [h1]
  obtain ⟨p1, p2, p3⟩ := TR.putD ht hs hn hd h2
  exact next.go hC hle hF r p1 p2 (p3 ▸ hdf)

/-- An operation with several outcomes. -/
theorem HOps.many (ok : TOk T P) (hn : Nat.blt n 100000 = true) {ops : Array Oper} {i : Nat} (hi : Nat.blt i ops.size = true) (hok : operOk (opAt ops i) = true) (hw : awanted ops ts (opAt ops i) = true) {xs : List (Value × AH)}
    (e : aop T (aeval ts) (opAt ops i) h = .many xs) (hd : dstB n (opAt ops i).dst = true) (next : ∀ p ∈ xs, HOps P C ops n rd (i + 1) (putD ts (opAt ops i).dst p.1) df p.2 Φ) : HOps P C ops n rd i ts df h Φ := by
  rw [Nat.blt_eq] at hn
  refine ⟨fun {K w0 m0 m w a F} hC hle hF r ht hs hdf => ?_⟩
  rw [Nat.blt_eq] at hi
  rw [range_at hi]
  simp only [wpOpsIn, opAt_some hi]
  rw [wanted_eq ht, hw]
  simp only [if_true]
  refine ⟨fun f _ => hF.fn f, ?_⟩
  have hro := aop_sound ok r (opAt ops i) (ρ := aeval ts) (ρ' := a.eval) (fun x hx => ht.eval (by
    unfold operOk at hok; exact List.all_eq_true.1 hok x hx))
  rw [e] at hro
  rw [sem_of hF (fun c hc => by
    rcases aop_defer (T := T) (h := h) hc (ρ := aeval ts) with ⟨d, hd⟩ | ⟨w, hw⟩
    · rw [hd] at e; cases e
    · rw [hw] at e; cases e)]
  obtain ⟨p, hp, x', w', m', h1, h2, h3, h4⟩ := hro
  obtain ⟨p1, p2, p3⟩ := TR.putD (ht.mono h2) hs hn hd h4
  rw [h1]
  exact (next p hp).go (C.le h2 hC) (M.le_trans hle h2) (hF.mono h2) h3 p1 p2 (p3 ▸ hdf.mono h2)

def resTs : Out → PT Value
  | .ok [.code .normal ts _ _] => ts
  | _ => .nil
def resH : Out → AH
  | .ok [.code .normal _ _ h] => h
  | _ => ⟨.nil, 0⟩
def isN : Out → Bool
  | .ok [.code .normal _ [] _] => true
  | _ => false
theorem isN_eq : ∀ {o : Out}, isN o = true → o = .ok [.code .normal (resTs o) [] (resH o)]
  | .ok [.code .normal _ [] _], _ => rfl
/-- Code that ends as it should. -/
theorem HCode.runN (ok : TOk T P) {k : Nat} {c : Code} (e : isN (arun T k (.code c ts n [] rd h)) = true) (hc : codeOk c = true) (hn : Nat.blt n 100000 = true)
    (hΦ : Φ .normal (resTs (arun T k (.code c ts n [] rd h))) [] (resH (arun T k (.code c ts n [] rd h)))) : HCode P C c ts n [] rd h Φ := by
  rw [Nat.blt_eq] at hn
  refine HCode.mono (HCode.run ok (isN_eq e) hc hn) fun e' ts' df' h' hm => ?_
  rw [List.mem_singleton] at hm
  cases hm
  exact hΦ

def retTs : Out → PT Value
  | .ok [.code .ret ts _ _] => ts
  | _ => .nil
def retH : Out → AH
  | .ok [.code .ret _ _ h] => h
  | _ => ⟨.nil, 0⟩
def isRet : Out → Bool
  | .ok [.code .ret _ [] _] => true
  | _ => false
theorem isRet_eq : ∀ {o : Out}, isRet o = true → o = .ok [.code .ret (retTs o) [] (retH o)]
  | .ok [.code .ret _ [] _], _ => rfl
theorem HCode.runR (ok : TOk T P) (k : Nat) {c : Code} (e : isRet (arun T k (.code c ts n [] rd h)) = true) (hc : codeOk c = true) (hn : Nat.blt n 100000 = true)
    (hΦ : Φ .ret (retTs (arun T k (.code c ts n [] rd h))) [] (retH (arun T k (.code c ts n [] rd h)))) : HCode P C c ts n [] rd h Φ := by
  rw [Nat.blt_eq] at hn
  refine HCode.mono (HCode.run ok (isRet_eq e) hc hn) fun e' ts' df' h' hm => ?_
  rw [List.mem_singleton] at hm
  cases hm
  exact hΦ
/-- Two codes, the first one run. -/
theorem HCode.seqN (ok : TOk T P) (k : Nat) {c : Code} (he : c = .seq (Code.s1 c) (Code.s2 c)) (e : isN (arun T k (.code (Code.s1 c) ts n [] rd h)) = true) (hc : codeOk (Code.s1 c) = true) (hn : Nat.blt n 100000 = true)
    (next : HCode P C (Code.s2 c) (resTs (arun T k (.code (Code.s1 c) ts n [] rd h))) n [] rd (resH (arun T k (.code (Code.s1 c) ts n [] rd h))) Φ) : HCode P C c ts n [] rd h Φ :=
  HCode.seq (Ψ := fun e ts df h => match e with | .normal => HCode P C (Code.s2 c) ts n df rd h Φ | e => Φ e ts df h) he (HCode.runN ok e hc hn next) fun e ts df h hq => by cases e <;> exact hq
/-- Two codes, one behind the other. -/
theorem HCode.seqC {c : Code} (he : c = .seq (Code.s1 c) (Code.s2 c)) (h1 : HCode P C (Code.s1 c) ts n df rd h fun e ts df h => match e with | .normal => HCode P C (Code.s2 c) ts n df rd h Φ | e => Φ e ts df h) : HCode P C c ts n df rd h Φ :=
  HCode.seq he h1 fun e ts df h hq => by cases e <;> exact hq

/-- A call whose garbage is forgotten, by lists. -/
theorem HCall.gcL {f : Nat} {args : List Value} {l l' : List (Nat × AObj)} {nx : Nat} {v : Value} (hc : HCall P f args (mkH l nx) fun e' h' => e' = .returned v ∧ (l'.map fun p => h'.get p.1) = l'.map fun p => some p.2) (e1 : (l'.all fun p => Nat.blt p.1 lim) = true)
    (e2 : (l'.all fun p => ((mkH l nx).get p.1).isSome) = true) (hw : ∀ m, Known (mkH l nx) args m → (∀ p ∈ l', WfO m p.2) ∧ WfV m v) : HCall P f args (mkH l nx) fun e' h' => e' = .returned v ∧ h' = mkH l' nx := by
  refine HCall.gc hc fun e' h' ⟨h1, h2⟩ => ⟨mkH l' nx, v, ⟨rfl, rfl⟩, h1, rfl, fun i o e => ?_, fun m hk => ⟨fun i o e => ?_, (hw m hk).2⟩⟩
  · have hm := mkH_get (fun p hp => by have := List.all_eq_true.1 e1 p hp; rwa [Nat.blt_eq] at this) e
    exact ⟨get_of_map h2 _ hm, Option.isSome_iff_exists.1 (List.all_eq_true.1 e2 _ hm)⟩
  · have hm := mkH_get (fun p hp => by have := List.all_eq_true.1 e1 p hp; rwa [Nat.blt_eq] at this) e
    exact (hw m hk).1 _ hm
theorem Known.obj {l : List (Nat × AObj)} {nx : Nat} {args : List Value} (hk : Known (mkH l nx) args m) (i : Nat) {o : AObj} (e : (mkH l nx).get i = some o) : WfO m o := (hk.1 i o e).1

/-! ### Bodies -/
def Fin (K : Kp) (w0 w' : World) : Prop := (∀ b, K.blk b → b < w0.heap.size ∧ w'.heap[b]? = w0.heap[b]?) ∧ w0.heap.size ≤ w'.heap.size ∧ w'.os = w0.os ∧ w'.output = w0.output
/-- The rest of a body, that ends with v as its result. -/
structure XCode (P : Program) (C : Ctx) (c : Code) (ts : PT Value) (n : Nat) (h : AH) (t : Nat) (v : Value) : Prop where
  go : ∀ {K : Kp} {w0 : World} {m : M} {w : World} {a : Act}, C.p K w0 m → Rel K w0 m h w → TR m ts a.tmps → a.tmps.size = n → a.defers = [] →
    c.wpIn Fence.wide 0 P (fun e a' w' => e = .ret ∧ a'.tmps.getD t undef = v ∧ a'.defers = [] ∧ Fin K w0 w') a w
theorem XCode.of_code {c : Code} {t : Nat} {v : Value} (hv : ∀ m v', VR m v v' → v' = v) (hc : HCode P C c ts n [] none h fun e ts df _ => e = .ret ∧ df = [] ∧ tget ts t = v) : XCode P C c ts n h t v := by
  refine ⟨fun {K w0 m w a} hC r ht hs hd => ?_⟩
  refine wpIn_mono (hc.go hC r ht hs (by rw [hd]; exact .nil) (show RdOk m none Fence.wide from rfl)) fun e a' w' hq => ?_
  obtain ⟨e', ts', df', h', m', ⟨rfl, rfl, q1⟩, q2, q3, q4, q5, q6, q7⟩ := hq
  cases q7
  generalize hdd : a'.defers = dd at q6
  cases q6
  have := q4 t
  rw [q1] at this
  exact ⟨rfl, hv _ _ this, by first | exact hdd | rfl, q3.keep, q3.size, q3.io⟩
theorem XCode.seq {c : Code} {t : Nat} {v : Value} (he : c = .seq (Code.s1 c) (Code.s2 c)) (h1 : HCode P C (Code.s1 c) ts n [] none h fun e ts df h => e = .normal ∧ df = [] ∧ XCode P C (Code.s2 c) ts n h t v) : XCode P C c ts n h t v := by
  refine ⟨fun {K w0 m w a} hC r ht hs hd => ?_⟩
  rw [he]
  refine wpIn_seq (wpIn_mono (h1.go hC r ht hs (by rw [hd]; exact .nil) (show RdOk m none Fence.wide from rfl)) fun e a' w' hq => ?_)
  obtain ⟨e', ts', df', h', m', ⟨rfl, rfl, q1⟩, q2, q3, q4, q5, q6, q7⟩ := hq
  cases q7
  generalize hdd : a'.defers = dd at q6
  cases q6
  exact q1.go (C.le q2 hC) q3 q4 q5 (by first | exact hdd | rfl)
theorem XCode.other {c : Code} {t : Nat} {v : Value} {ts' : PT Value} {h2 : AH} (hc : XCode P C c ts' n h2 t v) (h1 : ∀ t, t < n → tget ts' t = tget ts t) (hb : ∀ t, n ≤ t → tget ts' t = undef)
    (hn : h.nx ≤ h2.nx) (hg : ∀ i o, h2.get i = some o → h.get i = some o) : XCode P C c ts n h t v :=
  ⟨fun hC r ht hsz hd => hc.go hC (r.of_get hn hg) (ht.other hsz h1 hb) hsz hd⟩
theorem XCode.canon {c : Code} {t : Nat} {v : Value} (sp : List (Nat × Value)) (l : List (Nat × AObj)) (nx : Nat) (hn : Nat.blt n 100000 = true) (e1 : (sp.map fun p => tget ts p.1) = sp.map (·.2)) (e2 : (l.map fun p => h.get p.1) = (l.map fun p => some p.2)) (e3 : Nat.ble h.nx nx = true) (e4 : (l.all fun p => Nat.blt p.1 lim) = true)
    (next : ∀ y, XCode P C c (mkT n sp y) n (mkH l nx) t v) : XCode P C c ts n h t v := by
  rw [Nat.blt_eq] at hn
  refine XCode.other (next (tget ts)) (fun t ht => ?_) (fun t ht => ?_) (by rw [Nat.ble_eq] at e3; exact e3) fun i o e => ?_
  · rw [tget_mkT hn, if_pos ht]; exact lk_mem e1 t
  · rw [tget_mkT hn, if_neg (by omega)]
  · have hm := mkH_get (fun p hp => by have := List.all_eq_true.1 e4 p hp; rwa [Nat.blt_eq] at this) e
    exact get_of_map e2 _ hm

/-! ### New names -/
/-- name i is to stand for the name σ i -/
def nameOf (nx : Nat) (σ : Nat → Nat) : M := fun i => if i < nx then some { b := σ i, sh := 0, n := 1, cn := 0, sz := 0 } else none
def renM (nx : Nat) (σ : Nat → Nat) (m : M) : M := fun i => if i < nx then m (σ i) else none
theorem nameOf_some {nx : Nat} {σ : Nat → Nat} {i : Nat} {k : Blk} (e : nameOf nx σ i = some k) : i < nx ∧ k = { b := σ i, sh := 0, n := 1, cn := 0, sz := 0 } := by
  unfold nameOf at e
  split at e
  · rename_i h; cases e; exact ⟨h, rfl⟩
  · cases e
theorem renM_some {nx : Nat} {σ : Nat → Nat} {i : Nat} (hi : i < nx) : renM nx σ m i = m (σ i) := by unfold renM; rw [if_pos hi]
theorem FR.ren {nx : Nat} {σ : Nat → Nat} : ∀ {a b c}, FR (nameOf nx σ) a b → FR m b c → FR (renM nx σ m) a c
  | _, _, _, .func f, .func _ => .func f
  | _, _, _, .method s, .method _ => .method s
  | _, _, _, .methodOf t s, .methodOf _ _ => .methodOf t s
  | _, _, _, .via t p f b, .via _ _ _ _ => .via t p f b
  | _, _, _, .yield e, .yield e' => by
    obtain ⟨h1, rfl⟩ := nameOf_some e
    exact .yield (by rw [renM_some h1]; exact e')
theorem SlR.ren {i : Nat} {k : Blk} {o o1 o2 l c c1 c2 : Nat} (h1 : SlR { b := i, sh := 0, n := 1, cn := 0, sz := 0 } o o1 l c c1) (h2 : SlR k o1 o2 l c1 c2) : SlR k o o2 l c c2 := by
  rcases h1 with ⟨a1, a2⟩ | ⟨a1, a2, a3⟩ | ⟨a1, a2, a3, a4⟩
  · have e1 : o1 = o := a1
    have e2 : c1 = c := by rcases a2 with a2 | ⟨_, b, _⟩
                           · exact a2
                           · exact absurd rfl b
    subst e1; subst e2; exact h2
  · subst a1; subst a2; subst a3
    rcases h2 with ⟨b1, b2⟩ | ⟨b1, b2, b3⟩ | ⟨b1, b2, b3, b4⟩
    · rcases b2 with b2 | ⟨b2, b3, b4, b5⟩
      · exact .inr (.inl ⟨rfl, rfl, b2⟩)
      · exact .inr (.inr ⟨rfl, rfl, b3, by omega, b5⟩)
    · exact .inr (.inl ⟨rfl, rfl, b3⟩)
    · exact .inr (.inr ⟨rfl, rfl, b3, b4⟩)
  · exact absurd rfl a3
mutual
theorem VR.ren {nx : Nat} {σ : Nat → Nat} : ∀ {a b c}, VR (nameOf nx σ) a b → VR m b c → VR (renM nx σ m) a c
  | _, _, _, .bool b, .bool _ => .bool b
  | _, _, _, .int k n, .int _ _ => .int k n
  | _, _, _, .float k n, .float _ _ => .float k n
  | _, _, _, .complex k a b, .complex _ _ _ => .complex k a b
  | _, _, _, .string s, .string _ => .string s
  | _, _, _, .nilptr, .nilptr => .nilptr
  | _, _, _, .ptr o e, .ptr _ e' => by
    obtain ⟨h1, rfl⟩ := nameOf_some e
    exact .ptr o (by rw [renM_some h1]; exact e')
  | _, _, _, .nilsl, .nilsl => .nilsl
  | _, _, _, .sl e hs, .sl e' hs' => by
    obtain ⟨h1, rfl⟩ := nameOf_some e
    exact .sl (by rw [renM_some h1]; exact e') (hs.ren hs')
  | _, _, _, .nilmap, .nilmap => .nilmap
  | _, _, _, .map e, .map e' => by
    obtain ⟨h1, rfl⟩ := nameOf_some e
    exact .map (by rw [renM_some h1]; exact e')
  | _, _, _, .func f a b, .func f' a' b' => .func (f.ren f') (VRL.ren a a') (VRL.ren b b')
  | _, _, _, .nilFunc, .nilFunc => .nilFunc
  | _, _, _, .iface a, .iface a' => .iface (VR.ren a a')
  | _, _, _, .nilIface, .nilIface => .nilIface
  | _, _, _, .agg a, .agg a' => .agg (VRL.ren a a')
  | _, _, _, .tuple a, .tuple a' => .tuple (VRL.ren a a')
theorem VRL.ren {nx : Nat} {σ : Nat → Nat} : ∀ {a b c}, VRL (nameOf nx σ) a b → VRL m b c → VRL (renM nx σ m) a c
  | _, _, _, .nil, .nil => .nil
  | _, _, _, .cons a b, .cons a' b' => .cons (VR.ren a a') (VRL.ren b b')
end
theorem EsR.ren {nx : Nat} {σ : Nat → Nat} : ∀ {a b c : List MapEntry}, EsR (nameOf nx σ) a b → EsR m b c → EsR (renM nx σ m) a c
  | _, _, _, .nil, .nil => .nil
  | _, _, _, .cons a b, .cons a' b' => .cons ⟨a.1.ren a'.1, a.2.1.ren a'.2.1, a.2.2.trans a'.2.2⟩ (EsR.ren b b')
/-- one object is another one under new names -/
inductive ObjN (ρ : M) : AObj → AObj → Prop
  | cells {c c' sz} (h : VRL ρ c c') : ObjN ρ (.cells c sz) (.cells c' sz)
  | map {es es' clock} (h : EsR ρ es es') : ObjN ρ (.map es clock) (.map es' clock)
theorem ObjN.ren {nx : Nat} {σ : Nat → Nat} {o o' : AObj} {k : Blk} {ob : Obj} (h1 : ObjN (nameOf nx σ) o o') (h2 : ObjR m k o' ob) : ObjR (renM nx σ m) k o ob := by
  cases h1 with
  | cells h =>
    cases h2 with
    | cells e =>
      refine .cells ⟨by rw [e.hn, h.length], e.hcn, e.hsz, e.le, fun i v hv => ?_, e.free⟩
      obtain ⟨v1, g1, g2⟩ := h.get i hv
      obtain ⟨v2, g3, g4⟩ := e.vals i v1 g1
      exact ⟨v2, g3, g2.ren g4⟩
  | map h =>
    cases h2 with
    | map e => exact .map (h.ren e)
theorem XCode.rename {c : Code} {t : Nat} {v : Value} {ts2 : PT Value} {h2 : AH} (σ : Nat → Nat) {C' : Ctx} (hC : ∀ {K w0 m}, C.p K w0 m → C'.p ⟨K.blk, fun _ => False⟩ w0 (renM h2.nx σ m)) (hc : XCode P C' c ts2 n h2 t v)
    (ho : ∀ i o, h2.get i = some o → i < h2.nx ∧ ∃ o', h.get (σ i) = some o' ∧ ObjN (nameOf h2.nx σ) o o')
    (hi : ∀ i j o o', h2.get i = some o → h2.get j = some o' → σ i = σ j → i = j)
    (ht : ∀ t, t < n → VR (nameOf h2.nx σ) (tget ts2 t) (tget ts t)) (hb : ∀ t, n ≤ t → tget ts2 t = undef) : XCode P C c ts n h t v := by
  refine ⟨fun {K w0 m w a} hK r htr hs hd => ?_⟩
  refine hc.go (K := ⟨K.blk, fun _ => False⟩) (hC hK) ⟨fun i k e => ?_, fun i o e => ?_, fun i j o o' k k' e1 e2 f1 f2 hbb => ?_, r.keep, r.size, fun i hi => hi.elim, r.io⟩ (fun t => ?_) hs hd
  · unfold renM at e
    split at e
    · rename_i h; exact h
    · cases e
  · obtain ⟨h1, o', g1, g2⟩ := ho i o e
    obtain ⟨k, ob, q1, q2, q3, q4⟩ := r.live _ _ g1
    exact ⟨k, ob, by rw [renM_some h1]; exact q1, q2, q3, g2.ren q4⟩
  · obtain ⟨h1, o1, g1, _⟩ := ho i o e1
    obtain ⟨h2, o2, g2, _⟩ := ho j o' e2
    rw [renM_some h1] at f1
    rw [renM_some h2] at f2
    exact hi i j o o' e1 e2 (r.inj _ _ _ _ k k' g1 g2 f1 f2 hbb)
  · by_cases hl : t < n
    · exact (ht t hl).ren (htr t)
    · rw [hb t (by omega)]
      have : a.tmps.getD t undef = undef := by
        rw [Array.getD_eq_getD_getElem?, Array.getElem?_eq_none (by omega)]; rfl
      rw [this]; exact .undef _
end
end Go.AM
namespace Go.AM
section
variable {P : Program} {T : Tbl} {K : Kp} {w0 : World} {m : M} {h : AH} {w : World}
def loadOf : Op → Option (Nat × Operand)
  | .load t x => some (t, x)
  | _ => none
theorem load_world (ok : TOk T P) {t : Nat} {ti : TI} (ht : T.ty t = some ti) (hag : aggT ti = false) {o : Oper} {x : Operand} (ho : loadOf o.op = some (t, x)) {a : Act} {j off : Nat} (hp : VR m (.pointer (some ⟨j, off, none⟩)) (a.eval x)) {k : Blk} (hm : m j = some k)
    {cs : Array Value} {ty : TypeId} {fz : Nat × Nat} (hb : w.heap[k.b]? = some (.cells cs ty fz)) {v' : Value} (hv : cs[off + k.sh]? = some v') : (execOp a.eval o).run P w = .ok (.value v') w := by
  obtain ⟨dst, op, type, pos, after, guard⟩ := o
  cases op with
  | load t' x' =>
    simp only [loadOf, Option.some.injEq, Prod.mk.injEq] at ho
    obtain ⟨rfl, rfl⟩ := ho
    have ta := ok.at ht
    generalize hx : a.eval x' = y at hp
    cases hp with
    | ptr o hm' =>
      rw [hm] at hm'; cases hm'
      have h1 : (Instr.loadAt t' (.pointer (some ⟨k.b, off + k.sh, none⟩))).run P w = .ok v' w := by
        simp only [Instr.loadAt, Instr.sureAddr, Sem.run_bind, Sem.run_pure, Result.andThen_ok, loadVar, ta.agg, hag, Bool.false_eq_true, if_false]
        rw [run_load, cell_of_heap hb, hv]
      simp only [execOp, hx, Sem.run_bind, h1, Result.andThen_ok, Sem.run_pure]
  | _ => cases ho
end
end Go.AM
namespace Go.AM
section
variable {P : Program} {C : Ctx} {T : Tbl} {K : Kp} {w0 : World} {m m' : M} {h h' : AH} {w w' : World} {n : Nat} {ts : PT Value} {df : List Deferred} {rd : Option Nat}

theorem renM_le {nx : Nat} {σ : Nat → Nat} {b : Nat} (hb : b ≤ nx) (hm : ∀ i k, m i = some k → i < b) (hσ : ∀ i, i < b → σ i = i) : m.le (renM nx σ m) := fun i k e => by
  have := hm i k e
  rw [renM_some (by omega), hσ i this]; exact e
/-- Code over objects under second names. -/
theorem XCode.alias {c : Code} {t : Nat} {v : Value} {ts2 : PT Value} {h2 : AH} (σ : Nat → Nat) (hc : XCode P C c ts2 n h2 t v) (hle : h.nx ≤ h2.nx) (hσ : ∀ i, i < h.nx → σ i = i)
    (ho : ∀ i o, h2.get i = some o → i < h2.nx ∧ ∃ o', h.get (σ i) = some o' ∧ ObjN (nameOf h2.nx σ) o o')
    (hi : ∀ i j o o', h2.get i = some o → h2.get j = some o' → σ i = σ j → i = j)
    (ht : ∀ t, t < n → tget ts2 t = tget ts t ∨ VR (nameOf h2.nx σ) (tget ts2 t) (tget ts t)) (hb : ∀ t, n ≤ t → tget ts2 t = undef) : XCode P C c ts n h t v := by
  refine ⟨fun {K w0 m w a} hK r htr hs hd => ?_⟩
  have hm : m.le (renM h2.nx σ m) := renM_le hle r.dom hσ
  refine hc.go (C.le hm hK) ⟨fun i k e => ?_, fun i o e => ?_, fun i j o o' k k' e1 e2 f1 f2 hbb => ?_, r.keep, r.size, fun i hi => ?_, r.io⟩ (fun t => ?_) hs hd
  · unfold renM at e
    split at e
    · rename_i h; exact h
    · cases e
  · obtain ⟨h1, o', g1, g2⟩ := ho i o e
    obtain ⟨k, ob, q1, q2, q3, q4⟩ := r.live _ _ g1
    exact ⟨k, ob, by rw [renM_some h1]; exact q1, q2, q3, g2.ren q4⟩
  · obtain ⟨h1, o1, g1, _⟩ := ho i o e1
    obtain ⟨h2, o2, g2, _⟩ := ho j o' e2
    rw [renM_some h1] at f1
    rw [renM_some h2] at f2
    exact hi i j o o' e1 e2 (r.inj _ _ _ _ k k' g1 g2 f1 f2 hbb)
  · have h1 := r.und i hi
    refine ⟨by omega, ?_⟩
    rw [renM_some (by omega), hσ i h1.1]; exact h1.2
  · by_cases hl : t < n
    · rcases ht t hl with h1 | h1
      · rw [h1]; exact (htr t).mono hm
      · exact h1.ren (htr t)
    · rw [hb t (by omega)]
      have : a.tmps.getD t undef = undef := by
        rw [Array.getD_eq_getD_getElem?, Array.getElem?_eq_none (by omega)]; rfl
      rw [this]; exact .undef _

theorem lk_alias {ρ : M} {ts : PT Value} : ∀ {sp : List (Nat × Value)}, (∀ p ∈ sp, p.2 = tget ts p.1 ∨ VR ρ p.2 (tget ts p.1)) → ∀ t, lk sp t (tget ts t) = tget ts t ∨ VR ρ (lk sp t (tget ts t)) (tget ts t)
  | [], _, t => .inl rfl
  | (i, v) :: r, hsp, t => by
    simp only [lk]
    cases hb : Nat.beq i t with
    | true =>
      have := Nat.eq_of_beq_eq_true hb
      subst this
      exact hsp (i, v) List.mem_cons_self
    | false => exact lk_alias (fun p hp => hsp p (List.mem_cons_of_mem _ hp)) t

/-- A call whose body is known. -/
theorem XCode.call {f : Nat} {args : List Value} {args' : Array Value} {fn : Func} {c : Code} {t : Nat} {v : Value} (hf : P.funcs[f]? = some fn) (hb : fn.body = some c) (hle : Nat.ble args.length fn.ntmps = true) (hn : Nat.blt fn.ntmps 100000 = true) (hx : XCode P C c (initTs args) fn.ntmps h t v)
    (hC : C.p K w0 m) (r : Rel K w0 m h w) (hv : VRL m args args'.toList) (hres : ∀ (tmps : Array Value) (w : World), (results fn tmps).run P w = .ok (tmps.getD t undef) w) : CallsIn Fence.wide 0 P f args' w fun e w' => e = .returned v ∧ Fin K w0 w' := by
  rw [Nat.ble_eq] at hle
  rw [Nat.blt_eq] at hn
  obtain ⟨t1, t2⟩ := TR.init hv hle hn
  refine callsIn_of_wp_marks hf hb trivial (wpIn_mono (hx.go hC r (a := { tmps := _, defers := [] }) t1 t2 rfl) fun ex a1 w1 hq => ?_)
  obtain ⟨rfl, q1, q2, q3⟩ := hq
  show LeavesInM Fence.wide 0 P fn a1.tmps (fun e w' => e = .returned v ∧ Fin K w0 w') a1.defers .returning w1
  rw [q2]
  exact ⟨v, by rw [hres, q1], rfl, q3⟩
end
end Go.AM
