/-
  AM, part 16: operations in order, rounds. Own work.
  AM, part 17: ways out: results, deferred calls, scopes. Own work.
  AM, part 18: the steps of code. Own work.
  AM, part 19: calls, ways out, deferred calls; the whole. Own work.
  AM, part 20: deferred functions that may recover; the whole. Own work.
-/
import Derived.Test.YtjmnfkeeiegfdaaGreatDoorAm4
import Derived.RangeFuncLeaves
import Derived.RecoverIn
import Derived.LoopNIn
namespace Go.AM

/-- Code within a scope. -/
def scopeIn (F : Fence) (n : Nat) (P : Program) (c body : Code) (Q : Exit → Act → World → Prop) (a : Act) (w : World) : Prop :=
  ∀ (b : Frame) (k : List Item) (cs : List Frame), b.roundOf = F.round → F.fn b.fn → F.room (cs.length + 1 + n) →
    ∃ e a' w', Q e a' w' ∧ ArrivesIn (Machine.fenced P F) P (lone (b.atR a (.code c :: .inScope body :: k)) cs w) b k cs e a' w'
/-- Code within a loop. -/
def loopIn (F : Fence) (n : Nat) (P : Program) (c : Code) (Q : Exit → Act → World → Prop) (a : Act) (w : World) : Prop :=
  ∀ (b : Frame) (k : List Item) (cs : List Frame), b.roundOf = F.round → F.fn b.fn → F.room (cs.length + 1 + n) →
    ∃ e a' w', Q e a' w' ∧ ArrivesIn (Machine.fenced P F) P (lone (b.atR a (.code c :: .inLoop c :: k)) cs w) b k cs e a' w'
/-- Where the machine stands after code of a deferred function. -/
def PostS (K : Kp) (w0 : World) (m : M) (n : Nat) (c₀ : Frame) (cs : List Frame) (outs : List Resp) : Exit → Act → List Frame → World → Prop :=
  fun e a cs' w => ∃ e' ts u u' h m', Resp.scode e' ts u h ∈ outs ∧ m.le m' ∧ Rel K w0 m' h w ∧ TR m' ts a.tmps ∧ a.tmps.size = n ∧ a.defers = [] ∧ EX m' e' e ∧ UM m' u u' ∧ cs' = { c₀ with mode := u' } :: cs

/-- What is known of the answers of a machine with less fuel. -/
structure IH (T : Tbl) (P : Program) (rec : Req → Out) : Prop where
  code : ∀ {c ts n df rd h outs}, rec (.code c ts n df rd h) = .ok outs → codeOk c = true → ∀ {K w0 m w a F}, Rel K w0 m h w → TR m ts a.tmps → a.tmps.size = n → n < 100000 → DL m df a.defers → RdOk m rd F → c.wpIn F 0 P (PostQ K w0 m n outs) a w
  call : ∀ {f args h outs}, rec (.call f args h) = .ok outs → ∀ {K w0 m w args'}, Rel K w0 m h w → VRL m args args'.toList → CallsIn Fence.wide 0 P f args' w (PostC K w0 m outs)
  leave : ∀ {fn ts ds u h outs}, rec (.leave fn ts ds u h) = .ok outs → ∀ {K w0 m w tmps ds' u'}, Rel K w0 m h w → TR m ts tmps → DL m ds ds' → UM m u u' → LeavesInM Fence.wide 0 P fn tmps (PostC K w0 m outs) ds' u' w
  dcall : ∀ {f args u h outs}, rec (.dcall f args u h) = .ok outs → ∀ {K w0 m w args' u'}, Rel K w0 m h w → VRL m args args'.toList → UM m u u' → CallsDIn Fence.wide 0 P f args' u' w (PostD K w0 m outs)
  scode : ∀ {c ts n u h outs}, rec (.scode c ts n u h) = .ok outs → codeOk c = true → ∀ {K w0 m w a c₀ cs}, Rel K w0 m h w → TR m ts a.tmps → a.tmps.size = n → n < 100000 → a.defers = [] → UM m u c₀.mode → c.wpSIn Fence.wide 0 P (PostS K w0 m n c₀ cs outs) a (c₀ :: cs) w
  scope : ∀ {c body ts n df rd h outs}, rec (.scope c body ts n df rd h) = .ok outs → codeOk c = true → codeOk body = true → ∀ {K w0 m w a F}, Rel K w0 m h w → TR m ts a.tmps → a.tmps.size = n → n < 100000 → DL m df a.defers → RdOk m rd F → scopeIn F 0 P c body (PostQ K w0 m n outs) a w
  loopr : ∀ {c ts n df rd h outs}, rec (.loopr c ts n df rd h) = .ok outs → codeOk c = true → ∀ {K w0 m w a F}, Rel K w0 m h w → TR m ts a.tmps → a.tmps.size = n → n < 100000 → DL m df a.defers → RdOk m rd F → loopIn F 0 P c (PostQ K w0 m n outs) a w

section
variable {P : Program} {T : Tbl} {K : Kp} {w0 : World} {m : M} {h : AH} {w : World} {rec : Req → Out}

theorem putK_ok {ts : PT Value} {n : Nat} {d : Option Nat} {v : Value} {k : PT Value → Out} {outs : List Resp} (e : putK ts n d v k = .ok outs) :
    ∃ ts', k ts' = .ok outs ∧ ∀ {m : M} {a : Act} {v' : Value}, TR m ts a.tmps → a.tmps.size = n → n < 100000 → VR m v v' → TR m ts' (a.put d v').tmps ∧ (a.put d v').tmps.size = n ∧ (a.put d v').defers = a.defers := by
  unfold putK at e
  cases d with
  | none => exact ⟨ts, e, fun h1 h2 _ _ => ⟨h1, h2, rfl⟩⟩
  | some d =>
    simp only at e
    cases hd : Nat.blt d n with
    | false => rw [hd] at e; cases e
    | true =>
      rw [hd] at e
      rw [Nat.blt_eq] at hd
      refine ⟨_, e, fun h1 h2 h3 h4 => ⟨TR.put h1 (by omega) (by omega) h4, ?_, rfl⟩⟩
      simp [Act.put, h2]

/-- What is known of what comes behind. -/
def KontOk (K : Kp) (w0 : World) (m : M) (n : Nat) (kont : Kont) (outs : List Resp) (N : Act → World → Prop) : Prop :=
  ∀ ts df h o, kont ts df h = .ok o → (∀ r ∈ o, r ∈ outs) → ∀ m' w a, m.le m' → Rel K w0 m' h w → TR m' ts a.tmps → a.tmps.size = n → DL m' df a.defers → N a w

theorem aop_defer {o : Oper} {c : Call} (ho : o.op = .defer c) {ρ : Operand → Value} : (∃ d, aop T ρ o h = .defer d h) ∨ ∃ w, aop T ρ o h = .fail w := by
  simp only [aop, ho, aopK, aop2, aop3]
  split
  · unfold oDefer
    split
    · exact .inl ⟨_, rfl⟩
    · exact .inr ⟨_, rfl⟩
  · exact .inr ⟨_, rfl⟩

theorem callK_ok {kont : PT Value → AH → Out} {ts : PT Value} {n : Nat} {d : Option Nat} {df : List Deferred} {r : Resp} {outs : List Resp} (e : callK kont ts n d df r = .ok outs) :
    (∃ v h, r = .call (.returned v) h ∧ putK ts n d v (fun ts => kont ts h) = .ok outs) ∨ ∃ ch h, r = .call (.panicked ch) h ∧ outs = [.code (.panic ch) ts df h] := by
  unfold callK at e
  split at e
  · exact .inl ⟨_, _, rfl, e⟩
  · cases e; exact .inr ⟨_, _, rfl, rfl⟩
  · cases e

theorem Rel.loop (r : Rel K w0 m h w) {i : Nat} {st pe ts n ps asg bd d} (e : h.get i = some (.loop st pe ts n ps asg bd d)) {k : Blk} (hm : m i = some k) :
    ∃ l : Loop, w.heap[k.b]? = some (.loop l) ∧ LoopR m st pe ts n ps asg bd d l := by
  obtain ⟨k', ob, h1, h2, h3, h4⟩ := r.live i _ e
  rw [hm] at h1; cases h1
  cases h4 with
  | loop h => exact ⟨_, h3, h⟩

theorem bindParams_sound : ∀ {ps : List Tmp} {args args' : List Value} {ts ts' : PT Value} {n : Nat} {a : Array Value}, bindParams n ps args ts = some ts' → VRL m args args' → TR m ts a → a.size = n → n < 100000 →
    ps.length = args'.length ∧ TR m ts' ((ps.zip args').foldl (fun tmps (t, a) => tmps.setIfInBounds t a) a) ∧ ((ps.zip args').foldl (fun tmps (t, a) => tmps.setIfInBounds t a) a).size = n
  | [], [], _, ts, ts', n, a, e, hv, ht, hs, hn => by
    cases hv
    simp only [bindParams, Option.some.injEq] at e; subst e
    exact ⟨rfl, ht, hs⟩
  | p :: ps, v :: vs, _, ts, ts', n, a, e, hv, ht, hs, hn => by
    cases hv with
    | cons h1 h2 =>
      simp only [bindParams, aput] at e
      cases hp : Nat.blt p n && Nat.blt n 100000 with
      | false => rw [hp] at e; simp at e
      | true =>
        rw [hp] at e
        simp only [Bool.and_eq_true, Nat.blt_eq] at hp
        simp only [if_true] at e
        obtain ⟨g1, g2, g3⟩ := bindParams_sound e h2 (TR.put ht (by omega) (by omega) h1) (by simpa using hs) hn
        exact ⟨by simp [g1], g2, g3⟩
  | [], _ :: _, _, _, _, _, _, e, _, _, _, _ => by simp [bindParams] at e
  | _ :: _, [], _, _, _, _, _, e, _, _, _, _ => by simp [bindParams] at e

theorem aroundEnd_sound (r : Rel K w0 m h w) {l : Nat} {j : Option Code} {v : Value} {h' : AH} (e : aroundEnd l j h = some (v, h')) (hj : pendOk j = true) {k : Blk} (hm : m l = some k) :
    ∃ w', (Instr.endRound k.b j).run P w = .ok v w' ∧ Rel K w0 m h' w' ∧ VR m v v := by
  unfold aroundEnd at e
  split at e
  case h_2 => cases e
  rename_i st pe ts n ps a b d hg
  split at e
  case isFalse => cases e
  rename_i hl
  rw [Nat.blt_eq] at hl
  cases e
  obtain ⟨lo, g1, g2⟩ := r.loop hg hm
  refine ⟨_, ?_, r.set hg hm hl _ (.loop { lo with state := if j.isNone then .ready else .done, pending := j }) (.loop ⟨rfl, rfl, g2.hts, g2.hn, g2.nb, g2.hps, g2.has, g2.hbd, g2.hd, ⟨g2.ok.1, g2.ok.2.1, hj⟩⟩), .bool _⟩
  simp only [Instr.endRound, Instr.getLoop, Sem.run_bind, run_getObj_loop g1, Result.andThen_ok, Sem.run_pure, run_setObj_loop _ g1]

/-- A round. -/
theorem around_sound (ih : IH T P rec) {l : Nat} {args : List Value} {args' : Array Value} {h : AH} {outs : List Resp} (e : around rec l args h = .ok outs) {k : Blk} (hm : m l = some k) (r : Rel K w0 m h w) (hv : VRL m args args'.toList)
    {F : Fence} {rd : Option Nat} (hF : RdOk m rd F) {o : Oper} {a : Act} {N : Act → World → Prop} {Q : Exit → Act → World → Prop} (hN : ∀ v v' h' m' w', Resp.call (.returned v) h' ∈ outs → m.le m' → Rel K w0 m' h' w' → VR m' v v' → N (a.put o.dst v') w') :
    o.uponIn F 0 P a N Q ((Instr.yield k.b args').run P w) := by
  unfold around at e
  split at e
  case h_2 => cases e
  rename_i pe ts0 n ps asg bd d hg
  obtain ⟨lo, g1, g2⟩ := r.loop hg hm
  split at e
  case h_1 => cases e
  rename_i ts hb
  obtain ⟨b1, b2, b3⟩ := bindParams_sound hb hv g2.hts g2.hn g2.nb
  have hsz : ¬ (args'.size ≠ lo.params.size) := by
    have h1 := b1
    rw [← g2.hps] at h1
    simp at h1; omega
  have hfold : (lo.params.zip args').foldl (fun tmps (x : Tmp × Value) => tmps.setIfInBounds x.1 x.2) lo.tmps = (ps.zip args'.toList).foldl (fun tmps (x : Tmp × Value) => tmps.setIfInBounds x.1 x.2) lo.tmps := by
    rw [← g2.hps, ← Array.foldl_toList, Array.toList_zip]
  have hrun : (Instr.yield k.b args').run P w = .ok (.round k.b lo.fn ((ps.zip args'.toList).foldl (fun tmps (x : Tmp × Value) => tmps.setIfInBounds x.1 x.2) lo.tmps) lo.assign lo.body) w := by
    simp only [Instr.yield, Instr.getLoop, Sem.run_bind, run_getObj_loop g1, Result.andThen_ok, Sem.run_pure, if_neg hsz]
    rw [← hfold]
  rw [hrun]
  obtain ⟨l1, e1, e2⟩ := bind_ok e
  have hFr : F.inRound k.b = Fence.wide.inRound k.b := by
    cases rd with
    | none => cases hF; rfl
    | some l => obtain ⟨k0, _, rfl⟩ := hF; rfl
  refine ⟨hF.depth, roundIn_of_wpIn (hF.fn _) ?_⟩
  rw [hFr, g2.has, g2.hbd]
  have hR : RdOk m (some l) (Fence.wide.inRound k.b) := ⟨k, hm, rfl⟩
  refine wpIn_mono (ih.code e1 g2.ok.1 r (a := { tmps := _, defers := [] }) b2 b3 g2.nb .nil hR) fun ex a1 w1 hq => ?_
  obtain ⟨e', ts1, df1, h1, m1, q1, q2, q3, q4, q5, q6, q7⟩ := hq
  obtain ⟨o1, f1, f2⟩ := e2 _ q1
  split at f1
  case h_2 => cases f1
  rename_i ts1' h1' heq
  cases heq
  cases q7
  split at f1
  case h_2 => cases f1
  rename_i pe1 ts01 n1 ps1 asg1 bd1 d1 hg1
  split at f1
  case isTrue => cases f1
  rename_i hl
  have hl : l < lim := by simpa [Nat.blt_eq] using hl
  have hm1 := q2 _ _ hm
  obtain ⟨lo1, g3, g4⟩ := q3.loop hg1 hm1
  obtain ⟨l2, e3, e4⟩ := bind_ok f1
  have hR1 : RdOk m1 (some l) (Fence.wide.inRound k.b) := ⟨k, hm1, rfl⟩
  refine ⟨w1.putObj k.b (.loop { lo1 with state := .busy }), ?_, ?_⟩
  · simp only [Instr.beginRound, Instr.getLoop, Sem.run_bind, run_getObj_loop g3, Result.andThen_ok, Sem.run_pure, run_setObj_loop _ g3, g4.hst]
  · have r1 := q3.set hg1 hm1 hl (.loop .busy pe1 ts01 n1 ps1 asg1 bd1 d1) (.loop { lo1 with state := .busy }) (.loop ⟨rfl, g4.hpe, g4.hts, g4.hn, g4.nb, g4.hps, g4.has, g4.hbd, g4.hd, g4.ok⟩)
    refine wpIn_mono (ih.code e3 g2.ok.2.1 r1 q4 q5 g2.nb q6 hR1) fun ex2 a2 w2 hq2 => ?_
    obtain ⟨e2', ts2, df2, h2, m2, p1, p2, p3, p4, p5, p6, p7⟩ := hq2
    obtain ⟨o2, u1, u2⟩ := e4 _ p1
    have fin : ∀ (j : Option Code), pendOk j = true → (match aroundEnd l j h2 with
        | some (v, h) => Out.ok [Resp.call (.returned v) h]
        | none => Out.fail "endRound") = .ok o2 → ∃ v w', (Instr.endRound k.b j).run P w2 = .ok v w' ∧ N (a.put o.dst v) w' := by
      intro j hj hu
      split at hu
      · rename_i v h3 ha
        cases hu
        obtain ⟨w', v1, v2, v3⟩ := aroundEnd_sound (P := P) p3 ha hj (p2 _ _ hm1)
        exact ⟨v, w', v1, hN v v h3 m2 w' (f2 _ (u2 _ (by simp))) (M.le_trans q2 p2) v2 v3⟩
      · cases hu
    split at u1
    · rename_i heq; cases heq; cases p7; exact fin none rfl u1
    · rename_i heq; cases heq; cases p7; exact fin (some .ret) rfl u1
    · rename_i heq; cases heq; cases p7; exact fin (some (.exit _)) rfl u1
    · rename_i heq; cases heq; cases p7; exact fin (some (.goto _)) rfl u1
    · cases u1

theorem opK_sound (ok : TOk T P) (ih : IH T P rec) {n : Nat} {rd : Option Nat} {F : Fence} {o : Oper} {ts : PT Value} {df : List Deferred} {kont : Kont} {outs : List Resp} {a : Act} {N : Act → World → Prop}
    (e : opK rec n rd o ts df kont (aop T (aeval ts) o h) = .ok outs) (hok : operOk o = true) (r : Rel K w0 m h w) (ht : TR m ts a.tmps) (hs : a.tmps.size = n) (hn : n < 100000) (hd : DL m df a.defers) (hF : RdOk m rd F) (hk : KontOk K w0 m n kont outs N) {Q : Exit → Act → World → Prop} (hQ : ∀ e a w, PostQ K w0 m n outs e a w → Q e a w) :
    o.wpIn F 0 P a w N Q := by
  refine ⟨fun f _ => hF.fn f, ?_⟩
  have hro := aop_sound ok r o (ρ := aeval ts) (ρ' := a.eval) (fun x hx => ht.eval (by
    unfold operOk at hok; exact List.all_eq_true.1 hok x hx))
  have hsem : o.semAt F.round a.eval = execOp a.eval o := by
    cases rd with
    | none => cases hF; rfl
    | some l =>
      refine Oper.semAt_eq _ _ _ fun c hc => ?_
      rcases aop_defer (T := T) (h := h) hc (ρ := aeval ts) with ⟨d, hd⟩ | ⟨w, hw⟩
      · rw [hd] at e; simp [opK] at e
      · rw [hw] at e; simp [opK] at e
  rw [hsem]
  cases hr : aop T (aeval ts) o h with
  | v x h' =>
    rw [hr] at e hro
    obtain ⟨nx, x', w', m', h1, h2, h3, h4, h5⟩ := hro
    obtain ⟨ts', e', hput⟩ := putK_ok (show putK ts n o.dst x (fun ts => kont ts df h') = .ok outs from e)
    obtain ⟨p1, p2, p3⟩ := hput (ht.mono h3) hs hn h5
    rw [h1]
    have := hk ts' df h' outs e' (fun _ h => h) m' w' _ h3 h4 p1 p2 (p3 ▸ hd.mono h3)
    rcases h2 with rfl | ⟨rfl, rfl⟩
    · exact this
    · exact this
  | enter f args h' =>
    rw [hr] at e hro
    obtain ⟨args', w', m', h1, h2, h3, h4⟩ := hro
    obtain ⟨l, e1, e2⟩ := bind_ok e
    rw [h1]
    refine ⟨hF.depth, hF.calls ?_⟩
    refine CallsIn.mono (ih.call e1 h3 h4) fun en w2 hq => ?_
    cases en with
    | outgrown => exact (hq.not_out).elim
    | returned v =>
      obtain ⟨e', h2', m2, q1, q2, q3, q4⟩ := hq
      cases q4 with
      | returned hv =>
        obtain ⟨o', f1, f2⟩ := e2 _ q1
        rcases callK_ok f1 with ⟨v0, h0, g1, g2⟩ | ⟨ch, h0, g1, g2⟩
        · cases g1
          obtain ⟨ts', e', hput⟩ := putK_ok g2
          have hle := M.le_trans h2 q2
          obtain ⟨p1, p2, p3⟩ := hput (ht.mono hle) hs hn hv
          exact hk ts' df _ o' e' f2 m2 w2 _ hle q3 p1 p2 (p3 ▸ hd.mono hle)
        · cases g1
    | panicked ch =>
      obtain ⟨e', h2', m2, q1, q2, q3, q4⟩ := hq
      cases q4 with
      | panicked hv =>
        obtain ⟨o', f1, f2⟩ := e2 _ q1
        rcases callK_ok f1 with ⟨v0, h0, g1, g2⟩ | ⟨ch, h0, g1, g2⟩
        · cases g1
        · cases g1
          have hle := M.le_trans h2 q2
          subst g2
          exact hQ _ _ _ ⟨_, _, _, _, m2, f2 _ (by simp), hle, q3, ht.mono hle, hs, hd.mono hle, .panic hv⟩
  | round l args h' =>
    rw [hr] at e hro
    obtain ⟨k, args', h1, h2, rfl, h4⟩ := hro
    rw [h4]
    obtain ⟨lo, e1, e2⟩ := bind_ok e
    refine around_sound (T := T) ih e1 h1 r h2 hF fun v v' h2' m' w' q1 q2 q3 q4 => ?_
    obtain ⟨o', f1, f2⟩ := e2 _ q1
    rcases callK_ok f1 with ⟨v0, h0, g1, g2⟩ | ⟨ch, h0, g1, g2⟩
    · cases g1
      obtain ⟨ts', e', hput⟩ := putK_ok g2
      obtain ⟨p1, p2, p3⟩ := hput (ht.mono q2) hs hn q4
      exact hk ts' df _ o' e' f2 m' w' _ q2 q3 p1 p2 (p3 ▸ hd.mono q2)
    · cases g1
  | defer d h' =>
    rw [hr] at e hro
    obtain ⟨d', h1, h2, rfl⟩ := hro
    rw [h1]
    simp only [opK] at e
    split at e
    case isTrue => cases e
    obtain ⟨ts', e', hput⟩ := putK_ok e
    have hput := hput (m := m) (a := { a with defers := d' :: a.defers }) (v' := undef) ht hs hn (.undef m)
    exact hk ts' (d :: df) _ outs e' (fun _ h => h) m w _ m.le_refl r hput.1 hput.2.1 (by rw [hput.2.2]; exact .cons h2 hd)
  | recover h' => rw [hr] at e; cases e
  | panic x h' =>
    rw [hr] at e hro
    obtain ⟨x', h1, h2, rfl⟩ := hro
    rw [h1]
    cases e
    exact hQ _ _ _ ⟨_, _, _, _, m, by simp, m.le_refl, r, ht, hs, hd, .panic (c := [{ v := x, recovered := false }]) (c' := [{ v := x', recovered := false }]) (.cons ⟨h2, rfl, rfl⟩ .nil)⟩
  | many xs =>
    rw [hr] at e hro
    obtain ⟨p, hp, x', w', m', h1, h2, h3, h4⟩ := hro
    obtain ⟨o', f1, f2⟩ := joinAll_ok e p hp
    obtain ⟨ts', e', hput⟩ := putK_ok f1
    obtain ⟨p1, p2, p3⟩ := hput (ht.mono h2) hs hn h4
    rw [h1]
    exact hk ts' df _ o' e' f2 m' w' _ h2 h3 p1 p2 (p3 ▸ hd.mono h2)
  | fail w => rw [hr] at e; cases e

theorem aops_sound (ok : TOk T P) (ih : IH T P rec) {ops : Array Oper} {n : Nat} {rd : Option Nat} {F : Fence} (hn : n < 100000) : ∀ (l : List Oper) (i : Nat), ops.toList.drop i = l → (∀ o ∈ l, operOk o = true) →
    ∀ (m0 : M) (outs outs0 : List Resp) (ts : PT Value) (df : List Deferred) (h : AH), aops T rec ops n rd l ts df h = .ok outs → (∀ r ∈ outs, r ∈ outs0) → ∀ (m : M) (w : World) (a : Act), m0.le m → RdOk m rd F → Rel K w0 m h w → TR m ts a.tmps → a.tmps.size = n → DL m df a.defers →
      wpOpsIn F 0 P ops (PostQ K w0 m0 n outs0) (List.range' i l.length) a w
  | [], i, hl, _, m0, outs, outs0, ts, df, h, e, hsub, m, w, a, hle, hF, r, ht, hs, hd => by
    simp only [aops, Out.ok.injEq] at e; subst e
    exact ⟨_, _, _, _, m, hsub _ (by simp), hle, r, ht, hs, hd, .normal⟩
  | o :: l, i, hl, hop, m0, outs, outs0, ts, df, h, e, hsub, m, w, a, hle, hF, r, ht, hs, hd => by
    have hi : ops[i]? = some o := by
      have : (ops.toList.drop i)[0]? = some o := by rw [hl]; rfl
      simpa using this
    have hl' : ops.toList.drop (i + 1) = l := by
      have := congrArg (List.drop 1) hl
      simpa [List.drop_drop, Nat.add_comm] using this
    rw [List.length_cons, List.range'_succ]
    simp only [wpOpsIn, hi]
    rw [wanted_eq ht]
    simp only [aops] at e
    cases hw : awanted ops ts o with
    | true =>
      rw [hw] at e
      simp only [cond_true] at e
      simp only [if_true]
      have hk : KontOk K w0 m n (aops T rec ops n rd l) outs (wpOpsIn F 0 P ops (PostQ K w0 m0 n outs0) (List.range' (i + 1) l.length)) := by
        intro ts' df' h' o' e' hsub' m' w' a' hle' r' ht' hs' hd'
        exact aops_sound ok ih hn l (i + 1) hl' (fun x hx => hop x (by simp [hx])) m0 o' outs0 ts' df' h' e' (fun x hx => hsub x (hsub' x hx)) m' w' a' (M.le_trans hle hle') (hF.mono hle') r' ht' hs' hd'
      exact opK_sound ok ih e (hop o (by simp)) r ht hs hn hd hF hk (fun e a w p => p.mono hle hsub)
    | false =>
      rw [hw] at e
      simp only [cond_false] at e
      simp only [Bool.false_eq_true, if_false]
      refine ⟨fun f _ => hF.fn f, ?_⟩
      obtain ⟨ts', e', hput⟩ := putK_ok e
      obtain ⟨p1, p2, p3⟩ := hput ht hs hn (VR.undef m)
      exact aops_sound ok ih hn l (i + 1) hl' (fun x hx => hop x (by simp [hx])) m0 outs outs0 ts' df h e' hsub m w _ hle hF r p1 p2 (p3 ▸ hd)
end
end Go.AM
namespace Go.AM
section
variable {P : Program} {T : Tbl} {K : Kp} {w0 : World} {m : M} {h : AH} {w : World} {rec : Req → Out}

/-- A block given up on the one side, changed on the other. -/
theorem Rel.drop (r : Rel K w0 m h w) {i : Nat} {k : Blk} {o0 : AObj} (hi : h.get i = some o0) (hm : m i = some k) (hl : i < lim) (ob : Obj) : Rel K w0 m (h.kill i) (w.putObj k.b ob) := by
  obtain ⟨k0, ob0, h1, h2, h3, h4⟩ := r.live i o0 hi
  rw [hm] at h1; cases h1
  have sub : ∀ j o', (h.kill i).get j = some o' → h.get j = some o' ∧ j ≠ i := fun j o' e => by
    rw [AH.get_kill _ _ _ hl] at e
    split at e
    · cases e
    · exact ⟨e, by assumption⟩
  refine ⟨r.dom, ?_, ?_, ?_, ?_, r.und, r.io⟩
  · intro j o' e
    obtain ⟨e', hji⟩ := sub j o' e
    obtain ⟨k', ob', g1, g2, g3, g4⟩ := r.live j o' e'
    refine ⟨k', ob', g1, g2, ?_, g4⟩
    rw [World.putObj_heap_other]; exact g3
    intro hb; exact hji (r.inj j i o' o0 k' k e' hi g1 hm hb)
  · intro a b o1 o2 k1 k2 e1 e2 f1 f2 hb
    exact r.inj a b _ _ k1 k2 (sub a o1 e1).1 (sub b o2 e2).1 f1 f2 hb
  · intro b hb
    have h1 := r.keep b hb
    refine ⟨h1.1, ?_⟩
    rw [World.putObj_heap_other]; exact h1.2
    intro e; exact h2 (e ▸ hb)
  · simpa using r.size

theorem results_go (ok : TOk T P) (r : Rel K w0 m h w) {ts : PT Value} {tmps : Array Value} (ht : TR m ts tmps) : ∀ (l : List ResultVar) (vs : List Value), aresults.go T ts h l = some vs →
    ∃ vs', (l.mapM (fun (x : ResultVar) => match x with
      | .tmp t => (Pure.pure (tmps.getD t undef) : Sem Value)
      | .cell a t => do loadVar t (← asAddr (tmps.getD a undef)))).run P w = .ok vs' w ∧ VRL m vs vs'
  | [], vs, e => by
    simp only [aresults.go, Option.some.injEq] at e; subst e
    exact ⟨[], by simp, .nil⟩
  | .tmp t :: l, vs, e => by
    simp only [aresults.go] at e
    cases hg : aresults.go T ts h l with
    | none => rw [hg] at e; cases e
    | some l1 =>
      rw [hg] at e; simp only [Option.map_some, Option.some.injEq] at e; subst e
      obtain ⟨vs', g1, g2⟩ := results_go ok r ht l l1 hg
      refine ⟨tmps.getD t undef :: vs', ?_, .cons (ht t) g2⟩
      rw [List.mapM_cons]
      simp only [Sem.run_bind, Sem.run_pure, Result.andThen_ok, g1]
  | .cell a t :: l, vs, e => by
    simp only [aresults.go] at e
    split at e
    case h_2 => cases e
    rename_i v l1 h1 h2
    cases e
    obtain ⟨vs', g1, g2⟩ := results_go ok r ht l l1 h2
    obtain ⟨v', q1, q2, ad, q3, q4⟩ := aload_sound (P := P) ok r h1 (ht a)
    refine ⟨v' :: vs', ?_, .cons q2 g2⟩
    have hA : (asAddr (tmps.getD a undef)).run P w = .ok ad w := by rw [q3]; rfl
    rw [List.mapM_cons]
    simp only [Sem.run_bind, hA, Sem.run_pure, Result.andThen_ok, q4, g1]

theorem aresults_sound (ok : TOk T P) (r : Rel K w0 m h w) {ts : PT Value} {tmps : Array Value} (ht : TR m ts tmps) {fn : Func} {v : Value} (e : aresults T fn ts h = some v) :
    ∃ v', (results fn tmps).run P w = .ok v' w ∧ VR m v v' := by
  unfold aresults at e
  cases hg : aresults.go T ts h fn.results.toList with
  | none => rw [hg] at e; cases e
  | some vs =>
    rw [hg] at e; simp only [Option.map_some, Option.some.injEq] at e
    obtain ⟨vs', g1, g2⟩ := results_go (P := P) ok r ht _ _ hg
    have hm : (fn.results.mapM (fun (x : ResultVar) => match x with
      | .tmp t => (Pure.pure (tmps.getD t undef) : Sem Value)
      | .cell a t => do loadVar t (← asAddr (tmps.getD a undef)))).run P w = .ok vs'.toArray w := by
      rw [Array.mapM_eq_mapM_toList]
      simp only [Sem.run_map, g1, Result.andThen_ok]
    refine ⟨if h : vs'.toArray.size = 1 then vs'.toArray[0] else .tuple vs'.toArray, ?_, ?_⟩
    · unfold results
      simp only [Sem.run_bind]
      erw [hm]
      simp only [Result.andThen_ok, Sem.run_pure]
    · split at e
      · cases g2 with
        | cons h1 h2 => cases h2; subst e; simpa using h1
      · rename_i hne
        subst e
        have hl := g2.length
        have : ¬ vs'.toArray.size = 1 := by
          intro h1
          simp at h1
          rw [h1] at hl
          match vs, hl with
          | [x], _ => exact hne x rfl
        rw [dif_neg this]
        exact .tuple (by simpa using g2)

theorem CL.append {a b c d : List PanicEntry} : CL m a b → CL m c d → CL m (a ++ c) (b ++ d)
  | .nil, h => h
  | .cons h t, h' => .cons h (t.append h')
theorem CL.dropWhile {p : PanicEntry → Bool} (hp : ∀ x y, PE m x y → p x = p y) : ∀ {a b}, CL m a b → CL m (a.dropWhile p) (b.dropWhile p)
  | _, _, .nil => .nil
  | x :: a, y :: b, .cons h t => by
    rw [List.dropWhile_cons, List.dropWhile_cons, hp _ _ h]
    split
    · exact CL.dropWhile hp t
    · exact .cons h t
theorem UM.settle {u u' : FrameMode} (h : UM m u u') : UM m (settle u) (settle u') := by
  cases h with
  | run => exact .run
  | returning => exact .returning
  | panicking hc =>
    cases hc with
    | nil => exact .panicking .nil
    | cons h t =>
      rename_i p q l k
      obtain ⟨pv, pr, pg⟩ := p
      obtain ⟨qv, qr, qg⟩ := q
      have hr : pr = qr := h.recovered
      subst hr
      cases pr with
      | false => exact .panicking (.cons h t)
      | true =>
        have hd := CL.dropWhile (p := fun x => !x.goexit) (fun x y hxy => by show (!x.goexit) = (!y.goexit); rw [hxy.goexit]) t
        simp only [Go.settle]
        revert hd
        generalize l.dropWhile (fun x => !x.goexit) = l1
        generalize k.dropWhile (fun x => !x.goexit) = k1
        intro hd
        cases hd with
        | nil => exact .returning
        | cons h t => exact .panicking (.cons h t)
theorem UM.raised {u u' : FrameMode} {c c' : List PanicEntry} (h : UM m u u') (hc : CL m c c') : UM m (raised u c) (raised u' c') := by
  cases h with
  | run => exact .panicking hc
  | returning => exact .panicking hc
  | panicking h => exact .panicking (hc.append h)
end
end Go.AM
namespace Go.AM

/-- What is asked of regions that draw their order. -/
def DrawOk (T : Tbl) (P : Program) : Prop :=
  ∀ (rec : Req → Out), IH T P rec → ∀ {ops n ts df h outs}, adrawAll T rec ops n ts df h = .ok outs → (∀ o ∈ ops.toList, operOk o = true) → ∀ {K w0 m w a F rd}, Rel K w0 m h w → TR m ts a.tmps → a.tmps.size = n → n < 100000 → DL m df a.defers → RdOk m rd F →
    wpAnyIn F 0 P .any ops (PostQ K w0 m n outs) ops.size (Array.replicate ops.size false) a w

section
variable {P : Program} {T : Tbl} {K : Kp} {w0 : World} {m : M} {h : AH} {w : World} {rec : Req → Out}

theorem PostQ.one {n : Nat} {outs : List Resp} {e' : AExit} {ts : PT Value} {df : List Deferred} {a : Act} {e : Exit} (hm : Resp.code e' ts df h ∈ outs) (r : Rel K w0 m h w) (ht : TR m ts a.tmps) (hs : a.tmps.size = n) (hd : DL m df a.defers) (he : EX m e' e) : PostQ K w0 m n outs e a w :=
  ⟨e', ts, df, h, m, hm, m.le_refl, r, ht, hs, hd, he⟩

theorem seq_post (ih : IH T P rec) {b : Code} {n : Nat} {rd : Option Nat} {l outs : List Resp} {F : Fence} (hb : codeOk b = true) (hn : n < 100000) (hF : RdOk m rd F) (h2 : ∀ x ∈ l, ∃ o', seqK rec b n rd x = .ok o' ∧ ∀ r ∈ o', r ∈ outs) :
    ∀ e a w, PostQ K w0 m n l e a w → Exit.then (b.wpIn F 0 P (PostQ K w0 m n outs)) (PostQ K w0 m n outs) e a w := by
  intro e a w hq
  obtain ⟨e', ts, df, hh, m', q1, q2, q3, q4, q5, q6, q7⟩ := hq
  obtain ⟨o', f1, f2⟩ := h2 _ q1
  have other : e' ≠ .normal → PostQ K w0 m n outs e a w := fun hne => by
    have : seqK rec b n rd (.code e' ts df hh) = .ok [.code e' ts df hh] := by
      unfold seqK; split
      · rename_i heq; cases heq; exact absurd rfl hne
      · rfl
    rw [this] at f1; cases f1
    exact ⟨e', ts, df, hh, m', f2 _ (by simp), q2, q3, q4, q5, q6, q7⟩
  cases q7 with
  | normal => exact wpIn_mono (ih.code f1 hb q3 q4 q5 hn q6 (hF.mono q2)) fun e a w p => p.mono q2 f2
  | exit i => exact other (by simp)
  | goto i => exact other (by simp)
  | ret => exact other (by simp)
  | panic hc => exact other (by simp)

theorem stepR_scope' {b : Frame} {a : Act} {k : List Item} {cs : List Frame} {c : Code} : step P (lone (b.atR a (.code (.scope c) :: k)) cs w) = .next (lone (b.atR a (.code c :: .inScope c :: k)) cs w) :=
  step_lone_go (by simp [stepG, stepG.exec, Frame.atR])
theorem stepR_inScope' {b : Frame} {a : Act} {k : List Item} {cs : List Frame} {c : Code} : step P (lone (b.atR a (.inScope c :: k)) cs w) = .next (lone (b.atR a k) cs w) :=
  step_lone_go (by simp [stepG, stepG.exec, Frame.atR])

theorem wpIn_scope {F : Fence} {n : Nat} {c : Code} {Q : Exit → Act → World → Prop} {a : Act} (hs : scopeIn F n P c c Q a w) : (Code.scope c).wpIn F n P Q a w := by
  intro b k cs hro hb hr
  obtain ⟨e, a', w', q, harr⟩ := hs b k cs hro hb hr
  exact ⟨e, a', w', q, .of_steps (.one (fenced_calm hb hr rfl) stepR_scope') harr⟩

theorem findLabel_ok : ∀ {c : Code} {l : Nat} {rest : Code}, findLabel c l = some rest → codeOk c = true → codeOk rest = true
  | .seq a b, l, rest, e, hc => by
    simp only [codeOk, Bool.and_eq_true] at hc
    simp only [findLabel] at e
    cases ha : findLabel a l with
    | some r1 =>
      rw [ha] at e; cases e
      simp only [codeOk, Bool.and_eq_true]
      exact ⟨findLabel_ok ha hc.1, hc.2⟩
    | none => rw [ha] at e; exact findLabel_ok e hc.2
  | .label l', l, rest, e, hc => by
    simp only [findLabel] at e
    split at e
    · cases e; rfl
    · cases e
  | .skip, _, _, e, _ => by simp [findLabel] at e
  | .region .., _, _, e, _ => by simp [findLabel] at e
  | .cond .., _, _, e, _ => by simp [findLabel] at e
  | .block .., _, _, e, _ => by simp [findLabel] at e
  | .loop .., _, _, e, _ => by simp [findLabel] at e
  | .scope .., _, _, e, _ => by simp [findLabel] at e
  | .ret, _, _, e, _ => by simp [findLabel] at e
  | .exit _, _, _, e, _ => by simp [findLabel] at e
  | .goto _, _, _, e, _ => by simp [findLabel] at e
  | .rangeFunc .., _, _, e, _ => by simp [findLabel] at e
  | .refuse _, _, _, e, _ => by simp [findLabel] at e

theorem scope_step (ih : IH T P rec) {c body : Code} {n : Nat} {rd : Option Nat} {ts : PT Value} {df : List Deferred} {outs : List Resp} (e : (rec (.code c ts n df rd h)).bind (scopeK rec body n rd) = .ok outs) (hc : codeOk c = true) (hb : codeOk body = true)
    {a : Act} {F : Fence} (r : Rel K w0 m h w) (ht : TR m ts a.tmps) (hs : a.tmps.size = n) (hn : n < 100000) (hd : DL m df a.defers) (hF : RdOk m rd F) : scopeIn F 0 P c body (PostQ K w0 m n outs) a w := by
  obtain ⟨l, e1, e2⟩ := bind_ok e
  intro b k cs hro hbf hr
  obtain ⟨ex, a1, w1, hq, harr⟩ := ih.code e1 hc r ht hs hn hd hF b (.inScope body :: k) cs hro hbf hr
  obtain ⟨e', ts1, df1, h1, m1, q1, q2, q3, q4, q5, q6, q7⟩ := hq
  obtain ⟨o1, f1, f2⟩ := e2 _ q1
  have pass : ∀ (hk : scopeK rec body n rd (.code e' ts1 df1 h1) = .ok [.code e' ts1 df1 h1]), PostQ K w0 m n outs ex a1 w1 := fun hk => by
    rw [hk] at f1; cases f1
    exact ⟨e', ts1, df1, h1, m1, f2 _ (by simp), q2, q3, q4, q5, q6, q7⟩
  have hx : ∀ id, exitTo id (.inScope body :: k) = exitTo id k := fun id => by simp [exitTo]
  cases q7 with
  | normal =>
    exact ⟨.normal, a1, w1, pass rfl, StepsIn.trans harr (.one (fenced_calm hbf hr rfl) stepR_inScope')⟩
  | exit i =>
    exact ⟨.exit i, a1, w1, pass rfl, fun k' hk => harr.1 k' (by rw [hx]; exact hk), fun hr' hk => harr.2 hr' (by rw [hx]; exact hk)⟩
  | ret => exact ⟨.ret, a1, w1, pass rfl, harr⟩
  | panic hcl => exact ⟨_, a1, w1, pass rfl, harr⟩
  | goto l =>
    cases hf : findLabel body l with
    | none =>
      have hg : gotoIn l (.inScope body :: k) = gotoIn l k := by simp [gotoIn, hf]
      exact ⟨.goto l, a1, w1, pass (by simp [scopeK, hf]), fun k' hk => harr.1 k' (by rw [hg]; exact hk), fun hr' hk => harr.2 hr' (by rw [hg]; exact hk)⟩
    | some rest =>
      have hg : gotoIn l (.inScope body :: k) = some (.code rest :: .inScope body :: k) := by simp [gotoIn, hf]
      simp only [scopeK, hf] at f1
      obtain ⟨e2', a2, w2, hq2, harr2⟩ := ih.scope f1 (findLabel_ok hf hb) hb q3 q4 q5 hn q6 (hF.mono q2) b k cs hro hbf hr
      exact ⟨e2', a2, w2, hq2.mono q2 f2, .of_steps (harr.1 _ hg) harr2⟩

theorem hasBody_run (ok : TOk T P) {f : Nat} (hb : hasBody T f = true) (args : Array Value) (w : World) : (callFunc f args).run P w = .ok (.enter f args) w := by
  unfold hasBody at hb
  split at hb
  case h_2 => cases hb
  rename_i fn hfn
  obtain ⟨h1, h2⟩ := ok.fn f fn hfn
  have hn : fn.body.isNone = false := by cases hq : fn.body <;> simp_all
  simp only [callFunc, Sem.run_bind, run_program, Result.andThen_ok, h1, h2, Bool.false_eq_true, if_false, hn, Sem.run_pure]

theorem range1_sound (ok : TOk T P) (ih : IH T P rec) {g : Operand} {ps : Array Tmp} {asg body : Code} {ts : PT Value} {n : Nat} {df : List Deferred} {rd : Option Nat} {d : Nat} {outs : List Resp} {a : Act} {F : Fence} {w : World} {h : AH}
    (e : range1 T rec (aeval ts g) ps asg body ts n df rd d h = .ok outs) (r : Rel K w0 m h w) (hr : h.room = true) (ht : TR m ts a.tmps) (hs : a.tmps.size = n) (hn : n < 100000) (hg : operandOk g = true) (ha : codeOk asg = true) (hb : codeOk body = true) (hF : RdOk m rd F)
    {kd : Blk} (hkd : m d = some kd) {mark : List Deferred} (hd : DL m df (mark ++ a.defers)) (fn : FuncId) {wa : World} (hent : (Instr.enterLoop fn a.tmps ps asg body F.round).run P wa = .ok (w.heap.size, mark) (w.alloc (.loop { state := .ready, pending := none, fn, tmps := a.tmps, params := ps, assign := asg, body, defers := kd.b }))) {m0 : M} (hm0 : m0.le m) :
    ∃ (l : Nat) (mark : List Deferred) (w₁ : World) (d : Deferred) (w₁' : World) (f : FuncId) (args : Array Value) (w₂ : World),
      (Instr.enterLoop fn a.tmps ps asg body F.round).run P wa = .ok (l, mark) w₁ ∧
      (resolve a.eval (rangeCall g l) 0).run P w₁ = .ok d w₁' ∧
      (∀ f', Target.leads P w₁' d.target d.args = some f' → F.fn f') ∧
      (invoke d.target d.args).run P w₁' = .ok (.enter f args) w₂ ∧
      (F.depth.isSome = true → 1 ≤ 0) ∧
      CallsIn F (0 - 1) P f args w₂ (rangePost F 0 P l (PostQ K w0 m0 n outs) { a with defers := mark ++ a.defers }) := by
  unfold range1 at e
  split at e
  case h_2 => cases e
  rename_i f first captured hgv
  cases hbd : hasBody T f with
  | false => rw [hbd] at e; cases e
  | true =>
    rw [hbd] at e
    simp only [Bool.not_true, cond_false] at e
    obtain ⟨l1, e1, e2⟩ := bind_ok e
    have hgv' := ht.eval hg
    rw [hgv] at hgv'
    generalize hge : a.eval g = gv at hgv'
    cases hgv' with
    | func hf h1 h2 =>
      rename_i first' captured'
      cases hf
      let kb : Blk := { b := w.heap.size, sh := 0, n := 0, cn := 0, sz := 0 }
      let m1 : M := fun i => if i = h.nx then some kb else m i
      have hle0 : m.le m1 := fun i k' e => by
        have := r.dom i k' e
        simp only [m1]; rw [if_neg (by omega)]; exact e
      obtain ⟨r1, hle⟩ := r.alloc hr kb rfl (.loop .ready none ts n ps.toList asg body d) (.loop { state := .ready, pending := none, fn, tmps := a.tmps, params := ps, assign := asg, body, defers := kd.b })
        (.loop ⟨rfl, rfl, ht.mono hle0, hs, hn, rfl, rfl, rfl, ⟨kd, hle0 _ _ hkd, rfl⟩, ⟨ha, hb, rfl⟩⟩)
      have hnx : m1 h.nx = some kb := by simp [m1]
      refine ⟨w.heap.size, mark, w.alloc (.loop { state := .ready, pending := none, fn, tmps := a.tmps, params := ps, assign := asg, body, defers := kd.b }), { target := .fn (.func f) captured', args := first' ++ #[.func (.yield w.heap.size) #[] #[]] }, w.alloc (.loop { state := .ready, pending := none, fn, tmps := a.tmps, params := ps, assign := asg, body, defers := kd.b }), f, first' ++ #[.func (.yield w.heap.size) #[] #[]] ++ captured', w.alloc (.loop { state := .ready, pending := none, fn, tmps := a.tmps, params := ps, assign := asg, body, defers := kd.b }), hent, ?_, fun f' _ => hF.fn f', ?_, hF.depth, hF.calls ?_⟩
      · simp only [resolve, rangeCall, hge, Deferred.ofValue]
        simp [Act.eval]
      · simp only [invoke]; exact hasBody_run ok hbd _ _
      · have hargs : VRL m1 (first.toList ++ Value.func (Fn.yield h.nx) #[] #[] :: captured.toList) (first' ++ #[Value.func (Fn.yield w.heap.size) #[] #[]] ++ captured').toList := by
          have : (first' ++ #[Value.func (Fn.yield w.heap.size) #[] #[]] ++ captured').toList = first'.toList ++ Value.func (Fn.yield w.heap.size) #[] #[] :: captured'.toList := by simp
          rw [this]
          exact (h1.mono hle0).append (.cons (.func (.yield hnx) .nil .nil) (h2.mono hle0))
        refine CallsIn.mono (ih.call e1 r1 hargs) fun en w2 hq => ?_
        cases en with
        | outgrown => exact (hq.not_out).elim
        | returned v =>
          obtain ⟨e', h2', m2, q1, q2, q3, q4⟩ := hq
          cases q4 with
          | returned hv =>
            obtain ⟨o', f1, f2⟩ := e2 _ q1
            simp only [rangeK] at f1
            unfold endK at f1
            split at f1
            case h_2 => cases f1
            rename_i st pe ts2 n2 ps2 asg2 bd2 d2 hg2
            have hst : st ≠ .busy := fun hb => by subst hb; simp at f1
            have f1 : (if !Nat.blt h.nx lim then Out.fail "endLoop" else match (generalizing := false) pe with
              | none => Out.ok [.code .normal ts df (h2'.kill h.nx)]
              | some c => rec (.code c ts n df rd (h2'.kill h.nx))) = .ok o' := by
              cases st <;> first | exact absurd rfl hst | exact f1
            split at f1
            case isTrue => cases f1
            rename_i hc
            have c2 : h.nx < lim := by simpa [Nat.blt_eq] using hc
            have hm2 : m2 h.nx = some kb := q2 _ _ hnx
            obtain ⟨lo, g1, g2⟩ := q3.loop hg2 hm2
            have hnb : (lo.state == .busy) = false := by
              rw [g2.hst]; cases st <;> first | rfl | exact absurd rfl hst
            have hle2 := M.le_trans hle0 q2
            refine ⟨pe, w2.putObj w.heap.size (.loop { lo with state := .exhausted }), ?_, ?_⟩
            · have g1' : w2.heap[w.heap.size]? = some (.loop lo) := g1
              simp only [Instr.endLoop, Instr.getLoop, Sem.run_bind, run_getObj_loop g1', Result.andThen_ok, Sem.run_pure, hnb, Bool.false_eq_true, if_false, run_setObj_loop _ g1', g2.hpe]
            · have r2 := q3.drop hg2 hm2 c2 (.loop { lo with state := .exhausted })
              cases pe with
              | none =>
                cases f1
                exact PostQ.mono (M.le_trans hm0 hle2) f2 (PostQ.one (m := m2) (by simp) r2 (ht.mono hle2) hs (hd.mono hle2) .normal)
              | some c =>
                have hcok : codeOk c = true := by
                  have := g2.ok.2.2
                  cases c <;> simp [pendOk] at this <;> rfl
                exact wpIn_mono (ih.code f1 hcok r2 (a := { a with defers := mark ++ a.defers }) (ht.mono hle2) hs hn (hd.mono hle2) (hF.mono hle2)) fun e a w p => p.mono (M.le_trans hm0 hle2) f2
        | panicked ch =>
          obtain ⟨e', h2', m2, q1, q2, q3, q4⟩ := hq
          cases q4 with
          | panicked hv =>
            obtain ⟨o', f1, f2⟩ := e2 _ q1
            cases f1
            have hle2 := M.le_trans hle0 q2
            exact PostQ.mono (M.le_trans hm0 hle2) f2 (PostQ.one (m := m2) (by simp) q3 (ht.mono hle2) hs (hd.mono hle2) (.panic hv))

theorem wpIn_loop_of {F : Fence} {n : Nat} {c : Code} {Q : Exit → Act → World → Prop} {a : Act} (hs : loopIn F n P c Q a w) : (Code.loop c).wpIn F n P Q a w := by
  intro b k cs hro hb hr
  obtain ⟨e, a', w', q, harr⟩ := hs b k cs hro hb hr
  exact ⟨e, a', w', q, .of_steps (.one (fenced_calm hb hr rfl) stepR_loop) harr⟩

theorem loop_step (ih : IH T P rec) {c : Code} {n : Nat} {rd : Option Nat} {ts : PT Value} {df : List Deferred} {outs : List Resp} (e : (rec (.code c ts n df rd h)).bind (loopK rec c n rd) = .ok outs) (hc : codeOk c = true)
    {a : Act} {F : Fence} (r : Rel K w0 m h w) (ht : TR m ts a.tmps) (hs : a.tmps.size = n) (hn : n < 100000) (hd : DL m df a.defers) (hF : RdOk m rd F) : loopIn F 0 P c (PostQ K w0 m n outs) a w := by
  obtain ⟨l, e1, e2⟩ := bind_ok e
  intro b k cs hro hbf hr
  obtain ⟨ex, a1, w1, hq, harr⟩ := ih.code e1 hc r ht hs hn hd hF b (.inLoop c :: k) cs hro hbf hr
  obtain ⟨e', ts1, df1, h1, m1, q1, q2, q3, q4, q5, q6, q7⟩ := hq
  obtain ⟨o1, f1, f2⟩ := e2 _ q1
  have pass : ∀ (hk : loopK rec c n rd (.code e' ts1 df1 h1) = .ok [.code e' ts1 df1 h1]), PostQ K w0 m n outs ex a1 w1 := fun hk => by
    rw [hk] at f1; cases f1
    exact ⟨e', ts1, df1, h1, m1, f2 _ (by simp), q2, q3, q4, q5, q6, q7⟩
  cases q7 with
  | normal =>
    obtain ⟨e2', a2, w2, hq2, harr2⟩ := ih.loopr f1 hc q3 q4 q5 hn q6 (hF.mono q2) b k cs hro hbf hr
    exact ⟨e2', a2, w2, hq2.mono q2 f2, .of_steps (StepsIn.trans harr (.one (fenced_calm hbf hr rfl) stepR_inLoop)) harr2⟩
  | exit i => exact ⟨_, a1, w1, pass rfl, .pass (x := .inLoop c) rfl (fun _ _ => .inl (by simp)) harr⟩
  | goto i => exact ⟨_, a1, w1, pass rfl, .pass (x := .inLoop c) rfl (fun _ _ => .inl (by simp)) harr⟩
  | ret => exact ⟨_, a1, w1, pass rfl, .pass (x := .inLoop c) rfl (fun _ _ => .inl (by simp)) harr⟩
  | panic hcl => exact ⟨_, a1, w1, pass rfl, .pass (x := .inLoop c) rfl (fun _ _ => .inl (by simp)) harr⟩

theorem range0_sound (ok : TOk T P) (ih : IH T P rec) {g : Operand} {ps : Array Tmp} {asg body : Code} {ts : PT Value} {n : Nat} {df : List Deferred} {rd : Option Nat} {outs : List Resp} {a : Act} {F : Fence}
    (e : range0 T rec (aeval ts g) ps asg body ts n df rd h = .ok outs) (r : Rel K w0 m h w) (ht : TR m ts a.tmps) (hs : a.tmps.size = n) (hn : n < 100000) (hd : DL m df a.defers) (hg : operandOk g = true) (ha : codeOk asg = true) (hb : codeOk body = true) (hF : RdOk m rd F) :
    (Code.rangeFunc g ps asg body).wpIn F 0 P (PostQ K w0 m n outs) a w := by
  refine wpIn_rangeFunc fun fn _ => ?_
  unfold range0 at e
  cases rd with
  | none =>
    cases hF
    simp only at e
    cases hr : Nat.blt (h.nx + 1) lim with
    | false => rw [hr] at e; cases e
    | true =>
      rw [hr] at e
      rw [Nat.blt_eq] at hr
      simp only [cond_true] at e
      have hr0 : h.room = true := by unfold AH.room; rw [Nat.blt_eq]; omega
      let kd : Blk := { b := w.heap.size, sh := 0, n := 0, cn := 0, sz := 0 }
      obtain ⟨r1, hle⟩ := r.alloc hr0 kd rfl (.dfr true) (.deferred (some [])) .dfr
      have hr1 : (h.new (.dfr true)).room = true := by unfold AH.room AH.new; rw [Nat.blt_eq]; exact hr
      have hkd : (fun i => if i = h.nx then some kd else m i) h.nx = some kd := by simp
      refine range1_sound ok ih (w := w.alloc (.deferred (some []))) (mark := [{ target := .collected w.heap.size, args := #[] }]) e r1 hr1 (ht.mono hle) hs hn hg ha hb (rd := none) rfl hkd (.cons (.collected (k := kd) hkd) (hd.mono hle)) fn (wa := w) ?_ hle
      simp only [Instr.enterLoop, Fence.wide, Sem.run_bind, run_newObj_alloc, Result.andThen_ok, Sem.run_pure]
      rfl
  | some l0 =>
    obtain ⟨k, hk, rfl⟩ := hF
    simp only at e
    split at e
    case h_2 => cases e
    rename_i st pe ts2 n2 ps2 asg2 bd2 d hg2
    cases hr : h.room with
    | false => rw [hr] at e; cases e
    | true =>
      rw [hr] at e
      simp only [cond_true] at e
      obtain ⟨lo, g1, g2⟩ := r.loop hg2 hk
      obtain ⟨kd, hkd, hlo⟩ := g2.hd
      refine range1_sound ok ih (w := w) (mark := []) e r hr ht hs hn hg ha hb (rd := some l0) ⟨k, hk, rfl⟩ hkd hd fn (wa := w) ?_ m.le_refl
      simp only [Instr.enterLoop, Instr.getLoop, Fence.inRound_round, Sem.run_bind, run_getObj_loop g1, run_newObj_alloc, Result.andThen_ok, Sem.run_pure, hlo]

theorem block_post {n i : Nat} {l outs : List Resp} (h2 : ∀ x ∈ l, ∃ o', blockK i x = .ok o' ∧ ∀ r ∈ o', r ∈ outs) : ∀ e a w, PostQ K w0 m n l e a w → Exit.inBlock i (PostQ K w0 m n outs) e a w := by
  intro e a w hq
  obtain ⟨e', ts, df, hh, m', q1, q2, q3, q4, q5, q6, q7⟩ := hq
  obtain ⟨o', f1, f2⟩ := h2 _ q1
  cases q7 with
  | exit j =>
    simp only [blockK] at f1
    simp only [Exit.inBlock]
    by_cases hj : j = i
    · rw [if_pos hj]
      rw [show Nat.beq j i = true by rw [hj]; exact Nat.beq_refl i] at f1
      cases f1
      exact ⟨_, ts, df, hh, m', f2 _ (by simp), q2, q3, q4, q5, q6, .normal⟩
    · rw [if_neg hj]
      rw [nbeq hj] at f1
      cases f1
      exact ⟨_, ts, df, hh, m', f2 _ (by simp), q2, q3, q4, q5, q6, .exit j⟩
  | normal => cases f1; exact ⟨_, ts, df, hh, m', f2 _ (by simp), q2, q3, q4, q5, q6, .normal⟩
  | goto j => cases f1; exact ⟨_, ts, df, hh, m', f2 _ (by simp), q2, q3, q4, q5, q6, .goto j⟩
  | ret => cases f1; exact ⟨_, ts, df, hh, m', f2 _ (by simp), q2, q3, q4, q5, q6, .ret⟩
  | panic hc => cases f1; exact ⟨_, ts, df, hh, m', f2 _ (by simp), q2, q3, q4, q5, q6, .panic hc⟩

theorem code_step (ok : TOk T P) (dr : DrawOk T P) (ih : IH T P rec) {c : Code} {n : Nat} {rd : Option Nat} {ts : PT Value} {df : List Deferred} {outs : List Resp} (e : stepCode T rec c ts n df rd h = .ok outs) (hc : codeOk c = true)
    {a : Act} {F : Fence} (r : Rel K w0 m h w) (ht : TR m ts a.tmps) (hs : a.tmps.size = n) (hn : n < 100000) (hd : DL m df a.defers) (hF : RdOk m rd F) : c.wpIn F 0 P (PostQ K w0 m n outs) a w := by
  cases c with
  | skip => cases e; exact wpIn_skip (PostQ.one (by simp) r ht hs hd .normal)
  | label l => cases e; exact wpIn_label (PostQ.one (by simp) r ht hs hd .normal)
  | ret => cases e; exact wpIn_ret (PostQ.one (by simp) r ht hs hd .ret)
  | exit i => cases e; exact wpIn_exit (PostQ.one (by simp) r ht hs hd (.exit i))
  | goto l => cases e; exact wpIn_goto (PostQ.one (by simp) r ht hs hd (.goto l))
  | region id ops draw =>
    simp only [stepCode] at e
    simp only [codeOk] at hc
    have hc' : ∀ o ∈ ops.toList, operOk o = true := fun o ho => List.all_eq_true.1 hc o ho
    cases draw with
    | true =>
      simp only [cond_true] at e
      exact wpIn_region_any ok.mixed (dr rec ih e hc' r.drew ht hs hn hd hF)
    | false =>
      simp only [cond_false] at e
      refine wpIn_region ?_
      rw [List.range_eq_range', show ops.size = ops.toList.length by simp]
      exact aops_sound ok ih hn ops.toList 0 (by simp) hc' m outs outs ts df h e (fun _ h => h) m w a m.le_refl hF r ht hs hd
  | seq x y =>
    simp only [codeOk, Bool.and_eq_true] at hc
    obtain ⟨l, e1, e2⟩ := bind_ok e
    exact wpIn_seq (wpIn_mono (ih.code e1 hc.1 r ht hs hn hd hF) (seq_post ih hc.2 hn hF e2))
  | cond o x y =>
    simp only [codeOk, Bool.and_eq_true] at hc
    simp only [stepCode, condK] at e
    split at e
    case h_2 => cases e
    rename_i t hv
    have he := ht.eval hc.1.1
    rw [hv] at he
    have he' : a.eval o = .bool t := (he.bool_of t).1 rfl
    refine wpIn_cond he' ?_
    cases t with
    | true => exact ih.code e hc.1.2 r ht hs hn hd hF
    | false => exact ih.code e hc.2 r ht hs hn hd hF
  | block i b =>
    obtain ⟨l, e1, e2⟩ := bind_ok e
    exact wpIn_block (wpIn_mono (ih.code e1 hc r ht hs hn hd hF) (block_post e2))
  | loop b => exact wpIn_loop_of (ih.loopr e hc r ht hs hn hd hF)
  | scope b => exact wpIn_scope (ih.scope e hc hc r ht hs hn hd hF)
  | rangeFunc g ps asg body =>
    simp only [codeOk, Bool.and_eq_true] at hc
    exact range0_sound ok ih e r ht hs hn hd hc.1.1 hc.1.2 hc.2 hF
  | refuse s => cases e
end
end Go.AM
namespace Go.AM

/-! ### Equal answers -/
theorem beqL_eq {eq : Value → Value → Bool} (h : ∀ x y, eq x y = true → x = y) : ∀ {a b : List Value}, beqL eq a b = true → a = b
  | [], [], _ => rfl
  | [], _ :: _, e => by simp [beqL] at e
  | _ :: _, [], e => by simp [beqL] at e
  | x :: a, y :: b, e => by
    simp only [beqL, Bool.and_eq_true] at e
    rw [h _ _ e.1, beqL_eq h e.2]
theorem bytes_eq {a b : ByteArray} (e : (a.data.toList == b.data.toList) = true) : a = b := by
  obtain ⟨x⟩ := a; obtain ⟨y⟩ := b
  simp only [beq_iff_eq] at e
  rw [Array.toList_inj.1 e]
theorem beqV_eq : ∀ (d : Nat) (x y : Value), beqV d x y = true → x = y
  | 0, _, _, e => by simp [beqV] at e
  | d + 1, x, y, e => by
    have ih := beqV_eq d
    simp only [beqV] at e
    split at e
    · rw [beq_iff_eq.1 e]
    · simp only [Bool.and_eq_true, decide_eq_true_eq] at e; rw [e.1, e.2]
    · rw [bytes_eq e]
    · rw [of_decide_eq_true e]
    · simp only [Bool.and_eq_true, decide_eq_true_eq] at e
      rw [e.1.1, Nat.eq_of_beq_eq_true e.1.2, Nat.eq_of_beq_eq_true e.2]
    · rw [of_decide_eq_true e]
    · simp only [Bool.and_eq_true, decide_eq_true_eq] at e
      rw [e.1.1, Array.toList_inj.1 (beqL_eq ih e.1.2), Array.toList_inj.1 (beqL_eq ih e.2)]
    · rfl
    · simp only [Bool.and_eq_true] at e
      rw [Nat.eq_of_beq_eq_true e.1, ih _ _ e.2]
    · rfl
    · rw [Array.toList_inj.1 (beqL_eq ih e)]
    · rw [Array.toList_inj.1 (beqL_eq ih e)]
    · cases e
theorem beqE_eq {a b : MapEntry} (e : beqE a b = true) : a = b := by
  simp only [beqE, Bool.and_eq_true] at e
  obtain ⟨a1, a2, a3⟩ := a
  obtain ⟨b1, b2, b3⟩ := b
  have h1 : a1 = b1 := beqV_eq _ _ _ e.1.1
  have h2 : a2 = b2 := beqV_eq _ _ _ e.1.2
  have h3 : a3 = b3 := Nat.eq_of_beq_eq_true e.2
  rw [h1, h2, h3]
theorem beqEs_eq : ∀ {a b : List MapEntry}, beqEs a b = true → a = b
  | [], [], _ => rfl
  | [], _ :: _, e => by simp [beqEs] at e
  | _ :: _, [], e => by simp [beqEs] at e
  | x :: a, y :: b, e => by
    simp only [beqEs, Bool.and_eq_true] at e
    rw [beqE_eq e.1, beqEs_eq e.2]
theorem beqNs_eq : ∀ {a b : List Nat}, beqNs a b = true → a = b
  | [], [], _ => rfl
  | [], _ :: _, e => by simp [beqNs] at e
  | _ :: _, [], e => by simp [beqNs] at e
  | x :: a, y :: b, e => by
    simp only [beqNs, Bool.and_eq_true] at e
    rw [Nat.eq_of_beq_eq_true e.1, beqNs_eq e.2]
theorem beqO_eq {a b : AObj} (e : beqO a b = true) : a = b := by
  unfold beqO at e
  split at e
  · simp only [Bool.and_eq_true] at e; rw [Nat.eq_of_beq_eq_true e.1, beqL_eq (beqV_eq 20) e.2]
  · simp only [Bool.and_eq_true] at e; rw [Nat.eq_of_beq_eq_true e.1, beqEs_eq e.2]
  · simp only [Bool.and_eq_true, decide_eq_true_eq] at e; rw [e.1.1.1, Nat.eq_of_beq_eq_true e.1.1.2, beqNs_eq e.1.2, Nat.eq_of_beq_eq_true e.2]
  · simp only [Bool.and_eq_true] at e; rw [bytes_eq e.1, Nat.eq_of_beq_eq_true e.2]
  · rw [beq_iff_eq.1 e]
  · cases e
theorem beqPT_eq : ∀ {a b : PT AObj}, beqPT a b = true → a = b
  | .nil, .nil, _ => rfl
  | .nil, .node .., e => by simp [beqPT] at e
  | .node .., .nil, e => by simp [beqPT] at e
  | .node a x b, .node c y d, e => by
    simp only [beqPT, Bool.and_eq_true] at e
    obtain ⟨⟨e1, e2⟩, e3⟩ := e
    rw [beqPT_eq e2, beqPT_eq e3]
    cases x <;> cases y <;> simp_all
    exact beqO_eq e1
theorem beqR_eq {a b : Resp} (e : beqR a b = true) : a = b := by
  unfold beqR at e
  split at e
  · rename_i v h v' h'
    simp only [Bool.and_eq_true] at e
    obtain ⟨t, nx⟩ := h
    obtain ⟨t', nx'⟩ := h'
    simp only at e
    rw [beqV_eq _ _ _ e.1.1, Nat.eq_of_beq_eq_true e.1.2, beqPT_eq e.2]
  · cases e
theorem mem_dedup : ∀ {l : List Resp} {r : Resp}, r ∈ l → r ∈ dedup l
  | [], _, h => by cases h
  | x :: l, r, h => by
    unfold dedup
    split
    · exact h
    · rename_i l hl
      split
      · rename_i hany
        rcases List.mem_cons.1 h with rfl | h
        · obtain ⟨y, hy, he⟩ := List.any_eq_true.1 hany
          rw [beqR_eq he]
          exact mem_dedup hy
        · exact mem_dedup h
      · rcases List.mem_cons.1 h with rfl | h
        · exact List.mem_cons_self
        · exact List.mem_cons_of_mem _ (mem_dedup h)
theorem dedup_ok {o : Out} {outs : List Resp} (e : o.dedup = .ok outs) : ∃ l, o = .ok l ∧ ∀ r ∈ l, r ∈ outs := by
  cases o with
  | fail w => cases e
  | ok l => cases e; exact ⟨l, rfl, fun r hr => mem_dedup hr⟩

theorem ofList_get : ∀ (l : List Value) (k : Nat) (t : PT Value) (j : Nat), k + l.length ≤ lim → (PT.ofList k l t).get j = if k ≤ j ∧ j < k + l.length then l[j - k]? else t.get j
  | [], k, t, j, _ => by
    simp only [PT.ofList, List.length_nil, Nat.add_zero]
    rw [if_neg (by omega)]
  | x :: l, k, t, j, h => by
    simp only [List.length_cons] at h
    rw [PT.ofList, ofList_get l (k + 1) _ j (by omega), PT.get_put _ _ _ _ (by omega)]
    by_cases h1 : k + 1 ≤ j ∧ j < k + 1 + l.length
    · rw [if_pos h1, if_pos (by simp; omega), show j - k = (j - (k + 1)) + 1 by omega]; simp
    · rw [if_neg h1]
      by_cases h2 : j = k
      · subst h2; rw [if_pos rfl, if_pos (by simp)]; simp
      · rw [if_neg h2, if_neg (by simp; omega)]

section
variable {P : Program} {T : Tbl} {K : Kp} {w0 : World} {m : M} {h : AH} {w : World} {rec : Req → Out}

theorem TR.init {args : List Value} {args' : Array Value} (hv : VRL m args args'.toList) {n : Nat} (hle : args.length ≤ n) (hn : n < 100000) : TR m (initTs args) (args' ++ Array.replicate (n - args'.size) undef) ∧ (args' ++ Array.replicate (n - args'.size) undef).size = n := by
  have hl := hv.length
  simp only [Array.length_toList] at hl
  refine ⟨fun t => ?_, by simp; omega⟩
  have hlim : 0 + args.length ≤ lim := by unfold lim; omega
  unfold initTs tget
  rw [ofList_get _ _ _ _ hlim]
  by_cases ht : t < args.length
  · rw [if_pos (by omega)]
    have ht' : t < args'.size := by omega
    obtain ⟨v', g1, g2⟩ := hv.get t (List.getElem?_eq_getElem ht)
    have : (args' ++ Array.replicate (n - args'.size) undef).getD t undef = v' := by
      rw [Array.getD_eq_getD_getElem?, Array.getElem?_append_left ht']
      rw [Array.getElem?_toList] at g1
      rw [g1]; rfl
    rw [this, Nat.sub_zero, List.getElem?_eq_getElem ht]
    exact g2
  · rw [if_neg (by omega)]
    have : (args' ++ Array.replicate (n - args'.size) undef).getD t undef = undef := by
      rw [Array.getD_eq_getD_getElem?, Array.getElem?_append_right (by omega)]
      by_cases h2 : t - args'.size < n - args'.size
      · rw [Array.getElem?_replicate, if_pos h2]; rfl
      · rw [Array.getElem?_replicate, if_neg h2]; rfl
    rw [this]
    exact .undef m

theorem withBody_ok {f : Nat} {args : List Value} {k : Func → Code → Out} {outs : List Resp} (e : withBody T f args k = .ok outs) : ∃ fn c, T.fn f = some fn ∧ fn.body = some c ∧ codeOk c = true ∧ args.length ≤ fn.ntmps ∧ fn.ntmps < 100000 ∧ k fn c = .ok outs := by
  unfold withBody at e
  split at e
  case h_2 => cases e
  rename_i fn hfn
  split at e
  case h_2 => cases e
  rename_i c hc
  cases hb : codeOk c && Nat.ble args.length fn.ntmps && Nat.blt fn.ntmps 100000 with
  | false => rw [hb] at e; cases e
  | true =>
    rw [hb] at e
    simp only [Bool.and_eq_true, Nat.ble_eq, Nat.blt_eq] at hb
    exact ⟨fn, c, hfn, hc, hb.1.1, hb.1.2, hb.2, e⟩

theorem leavesInM_mono {F : Fence} {n : Nat} {fn : Func} {tmps : Array Value} {R R' : Ending → World → Prop} (hr : ∀ e w, R e w → R' e w) : ∀ (ds : List Deferred) (u : FrameMode) (w : World), LeavesInM F n P fn tmps R ds u w → LeavesInM F n P fn tmps R' ds u w
  | [], .returning, w, h => by obtain ⟨v, h1, h2⟩ := h; exact ⟨v, h1, hr _ _ h2⟩
  | [], .panicking c, w, h => hr _ _ h
  | [], .run, w, h => h
  | d :: ds, u, w, h => by
    obtain ⟨h1, h2⟩ := h
    refine ⟨h1, ?_⟩
    rcases h2 with ⟨r, w', a, b, c⟩ | ⟨hn, fv, cap, f, args, a, b, c, hc⟩
    · exact .inl ⟨r, w', a, b, leavesInM_mono hr ds u w' c⟩
    · refine .inr ⟨hn, fv, cap, f, args, a, b, c, hc.1, fun c0 cs hm hroom => ?_⟩
      obtain ⟨e, u', w', fr, q, rest⟩ := hc.2 c0 cs hm hroom
      refine ⟨e, u', w', fr, ?_, rest⟩
      cases e with
      | returned v => exact leavesInM_mono hr ds _ _ q
      | panicked ch => exact leavesInM_mono hr ds _ _ q
      | outgrown => exact hr _ _ q

theorem settle_run {u : FrameMode} (h : u ≠ .run) : settle u ≠ .run := by
  intro hs
  unfold settle at hs
  split at hs
  · split at hs <;> cases hs
  · exact h hs
theorem raised_run {u : FrameMode} {c : List PanicEntry} : raised u c ≠ .run := by
  intro hs
  unfold raised at hs
  split at hs <;> cases hs

theorem leave_step (ok : TOk T P) (ih : IH T P rec) {fn : Func} {ts : PT Value} {ds : List Deferred} {u : FrameMode} {outs : List Resp} (e : stepLeave T rec fn ts ds u h = .ok outs)
    {tmps : Array Value} {ds' : List Deferred} {u' : FrameMode} (r : Rel K w0 m h w) (ht : TR m ts tmps) (hd : DL m ds ds') (hu : UM m u u') : LeavesInM Fence.wide 0 P fn tmps (PostC K w0 m outs) ds' u' w := by
  have hnr : u' ≠ .run := by
    intro hq; subst hq
    cases hu
    unfold stepLeave at e
    cases ds <;> cases e
  unfold stepLeave at e
  cases hd with
  | nil =>
    simp only [leave0] at e
    cases hu with
    | run => exact absurd rfl hnr
    | returning =>
      simp only at e
      split at e
      case h_2 => cases e
      rename_i v hv
      cases e
      obtain ⟨v', g1, g2⟩ := aresults_sound (P := P) ok r ht hv
      exact ⟨v', g1, _, h, m, by simp, m.le_refl, r, .returned g2⟩
    | panicking hc =>
      cases e
      exact ⟨_, h, m, by simp, m.le_refl, r, .panicked hc⟩
  | cons hdd hds =>
    rename_i d d' ds1 ds1'
    refine ⟨hnr, ?_⟩
    have e : leave1 T rec fn ts d ds1 u h = .ok outs := by
      cases hu with
      | run => exact absurd rfl hnr
      | returning => exact e
      | panicking hc => exact e
    unfold leave1 at e
    cases hdd with
    | @collected rr k hr =>
      simp only at e
      split at e
      case h_2 => cases e
      rename_i hg
      cases hl : Nat.blt rr lim with
      | false => rw [hl] at e; cases e
      | true =>
        rw [hl] at e
        rw [Nat.blt_eq] at hl
        simp only [cond_true] at e
        obtain ⟨k', ob, g1, g2, g3, g4⟩ := r.live _ _ hg
        rw [hr] at g1; cases g1
        cases g4
        refine .inl ⟨k.b, w.putObj k.b (.deferred none), rfl, ?_, ih.leave e (r.drop hg hr hl _) ht hds hu⟩
        simp only [Instr.takeDeferred, Sem.run_bind, run_getObj' g3 (by intros; simp), Result.andThen_ok, run_setObj' _ g3 (by intros; simp), Sem.run_pure]
    | @fn ff ff' aa bb cc dd hf h1 h2 =>
      simp only at e
      split at e
      · rename_i heq; cases heq
      · rename_i f captured heq
        cases heq
        cases hf
        cases hb : hasBody T f with
        | false => rw [hb] at e; cases e
        | true =>
          rw [hb] at e
          simp only [Bool.not_true, cond_false] at e
          obtain ⟨l, e1, e2⟩ := bind_ok e
          refine .inr ⟨(fun h => by cases h), Fn.func f, cc, f, dd ++ cc, rfl, hasBody_run ok hb _ _, fun g _ => trivial, ?_⟩
          have hdc := ih.dcall e1 r (args' := dd ++ cc) (by rw [Array.toList_append]; exact h2.append h1) hu
          refine ⟨trivial, fun c0 cs hm hroom => ?_⟩
          obtain ⟨en, u2, w2, fr, hq, hsteps, g1, g2, g3⟩ := hdc.2 c0 cs hm hroom
          refine ⟨en, u2, w2, fr, ?_, hsteps, g1, g2, g3⟩
          obtain ⟨e', u2a, h2', m2, q1, q2, q3, q4, q5⟩ := hq
          obtain ⟨o', f1, f2⟩ := e2 _ q1
          have hset : ∀ {x x' : FrameMode}, UM m2 x x' → rec (.leave fn ts ds1 x h2') = .ok o' → LeavesInM Fence.wide 0 P fn tmps (PostC K w0 m outs) ds1' x' w2 := by
            intro x x' hx ho
            exact leavesInM_mono (fun e w p => PostC.mono q2 f2 p) _ _ _ (ih.leave ho q3 (ht.mono q2) (hds.mono q2) hx)
          cases q4 with
          | returned hv => exact hset (UM.settle q5) f1
          | panicked hv => exact hset (UM.raised q5 hv) f1
      · cases e

theorem call_step (ok : TOk T P) (ih : IH T P rec) {f : Nat} {args : List Value} {outs : List Resp} (e : stepCall T rec f args h = .ok outs) {args' : Array Value} (r : Rel K w0 m h w) (hv : VRL m args args'.toList) :
    CallsIn Fence.wide 0 P f args' w (PostC K w0 m outs) := by
  obtain ⟨fn, c, h1, h2, h3, h4, h5, e⟩ := withBody_ok e
  obtain ⟨l0, e, esub⟩ := dedup_ok e
  obtain ⟨l, e1, e2⟩ := bind_ok e
  obtain ⟨t1, t2⟩ := TR.init hv h4 h5
  refine callsIn_of_wp_marks (ok.fn f fn h1).1 h2 trivial (wpIn_mono (ih.code e1 h3 r (a := { tmps := _, defers := [] }) t1 t2 h5 .nil (rd := none) rfl) fun ex a1 w1 hq => ?_)
  obtain ⟨e', ts1, df1, h1', m1, q1, q2, q3, q4, q5, q6, q7⟩ := hq
  obtain ⟨o1, f1, f2⟩ := e2 _ q1
  have post : ∀ (u u' : FrameMode), UM m1 u u' → rec (.leave fn ts1 df1 u h1') = .ok o1 → LeavesInM Fence.wide 0 P fn a1.tmps (PostC K w0 m outs) a1.defers u' w1 := fun u u' hu ho =>
    leavesInM_mono (fun e w p => PostC.mono q2 (fun x hx => esub x (f2 x hx)) p) _ _ _ (ih.leave ho q3 q4 q6 hu)
  cases q7 with
  | normal => exact post _ _ .returning f1
  | ret => exact post _ _ .returning f1
  | panic hc => exact post _ _ (.panicking hc) f1
  | exit i => cases f1
  | goto i => cases f1

theorem dcall_step (ok : TOk T P) (ih : IH T P rec) {f : Nat} {args : List Value} {u : FrameMode} {outs : List Resp} (e : stepDcall T rec f args u h = .ok outs) {args' : Array Value} {u' : FrameMode} (r : Rel K w0 m h w) (hv : VRL m args args'.toList) (hu : UM m u u') :
    CallsDIn Fence.wide 0 P f args' u' w (PostD K w0 m outs) := by
  obtain ⟨fn, c, h1, h2, h3, h4, h5, e⟩ := withBody_ok e
  obtain ⟨l, e1, e2⟩ := bind_ok e
  obtain ⟨t1, t2⟩ := TR.init hv h4 h5
  refine callsDIn_of_wpSIn (ok.fn f fn h1).1 h2 trivial fun c₀ cs hm => ?_
  have := ih.scode e1 h3 r (a := { tmps := _, defers := [] }) t1 t2 h5 rfl (c₀ := c₀) (cs := cs) (hm ▸ hu)
  intro b k hb hr hF hroom
  obtain ⟨ex, a1, cs1, w1, hl, hq, harr⟩ := this b k hb hr hF hroom
  refine ⟨ex, a1, cs1, w1, hl, ?_, harr⟩
  obtain ⟨e', ts1, u1, u1', hh, m1, q1, q2, q3, q4, q5, q6, q7, q8, q9⟩ := hq
  obtain ⟨o1, f1, f2⟩ := e2 _ q1
  have res : ∀ {v : Value}, aresults T fn ts1 hh = some v → [Resp.dcall (.returned v) u1 hh] = o1 → a1.defers = [] ∧ ∃ u', cs1 = { c₀ with mode := u' } :: cs ∧ ∃ v, (results fn a1.tmps).run P w1 = .ok v w1 ∧ PostD K w0 m outs (.returned v) u' w1 := by
    intro v hv ho
    obtain ⟨v', g1, g2⟩ := aresults_sound (P := P) ok q3 q4 hv
    exact ⟨q6, u1', q9, v', g1, _, u1, hh, m1, f2 _ (by rw [← ho]; simp), q2, q3, .returned g2, q8⟩
  cases q7 with
  | normal =>
    simp only [dresK] at f1
    split at f1
    case h_2 => cases f1
    rename_i v hv
    cases f1
    exact res hv rfl
  | ret =>
    simp only [dresK] at f1
    split at f1
    case h_2 => cases f1
    rename_i v hv
    cases f1
    exact res hv rfl
  | panic hc =>
    cases f1
    exact ⟨q6, u1', q9, _, u1, hh, m1, f2 _ (by simp), q2, q3, .panicked hc, q8⟩
  | exit i => cases f1
  | goto i => cases f1
end
end Go.AM
namespace Go.AM
section
variable {P : Program} {T : Tbl} {K : Kp} {w0 : World} {m : M} {h : AH} {w : World} {rec : Req → Out}

theorem recover_rel {u : FrameMode} {c₀ : Frame} {cs : List Frame} (hu : UM m u c₀.mode) :
    (∃ v' u2', recoverD (c₀ :: cs) = some (v', { c₀ with mode := u2' } :: cs) ∧ VR m (arecover u).1 v' ∧ UM m (arecover u).2 u2') ∨ (recoverD (c₀ :: cs) = none ∧ arecover u = (.nilIface, u)) := by
  simp only [recoverD]
  generalize c₀.mode = u' at hu
  cases hu with
  | run => exact .inr ⟨rfl, rfl⟩
  | returning => exact .inr ⟨rfl, rfl⟩
  | panicking hc =>
    cases hc with
    | nil => exact .inr ⟨rfl, rfl⟩
    | cons h t =>
      rename_i p q l k
      obtain ⟨pv, pr, pg⟩ := p
      obtain ⟨qv, qr, qg⟩ := q
      have hr : pr = qr := h.recovered
      have hg : pg = qg := h.goexit
      subst hr; subst hg
      cases pr with
      | true => exact .inr ⟨rfl, rfl⟩
      | false =>
        cases pg with
        | true => exact .inr ⟨rfl, rfl⟩
        | false => exact .inl ⟨qv, _, rfl, h.v, .panicking (.cons ⟨h.v, rfl, rfl⟩ t)⟩

theorem PostS.mono {n : Nat} {c₀ : Frame} {cs : List Frame} {m' : M} {outs outs' : List Resp} {u1 : FrameMode} (hle : m.le m') (s : ∀ r ∈ outs', r ∈ outs) {e : Exit} {a : Act} {cs' : List Frame} {w : World} (p : PostS K w0 m' n { c₀ with mode := u1 } cs outs' e a cs' w) : PostS K w0 m n c₀ cs outs e a cs' w := by
  obtain ⟨e', ts, u, u', hh, m2, q1, q2, q3, q4, q5, q6, q7, q8, q9⟩ := p
  exact ⟨e', ts, u, u', hh, m2, s _ q1, M.le_trans hle q2, q3, q4, q5, q6, q7, q8, q9⟩

theorem wpSIn_mono {F : Fence} {n : Nat} {c : Code} {Q Q' : Exit → Act → List Frame → World → Prop} {a : Act} {cs : List Frame} (hs : c.wpSIn F n P Q a cs w) (hq : ∀ e a cs w, Q e a cs w → Q' e a cs w) : c.wpSIn F n P Q' a cs w :=
  fun b k hb hr hF hroom => let ⟨e, a', cs', w', l, q, r⟩ := hs b k hb hr hF hroom; ⟨e, a', cs', w', l, hq _ _ _ _ q, r⟩

theorem sops_sound (ok : TOk T P) {ops : Array Oper} {n : Nat} (hn : n < 100000) : ∀ (l : List Oper) (i : Nat), ops.toList.drop i = l → (∀ o ∈ l, operOk o = true) →
    ∀ (m0 : M) (c₀ : Frame) (cs : List Frame) (outs : List Resp) (ts : PT Value) (u : FrameMode) (h : AH), sops T rec ops n l ts u h = .ok outs → ∀ (m : M) (w : World) (a : Act) (u' : FrameMode), m0.le m → UM m u u' → Rel K w0 m h w → TR m ts a.tmps → a.tmps.size = n → a.defers = [] →
      wpOpsSIn Fence.wide 0 P ops (PostS K w0 m0 n c₀ cs outs) (List.range' i l.length) a ({ c₀ with mode := u' } :: cs) w
  | [], i, hl, _, m0, c₀, cs, outs, ts, u, h, e, m, w, a, u', hle, hu, r, ht, hs, hd => by
    simp only [sops, Out.ok.injEq] at e; subst e
    exact ⟨_, _, _, u', _, m, by simp, hle, r, ht, hs, hd, .normal, hu, rfl⟩
  | o :: l, i, hl, hop, m0, c₀, cs, outs, ts, u, h, e, m, w, a, u', hle, hu, r, ht, hs, hd => by
    have hi : ops[i]? = some o := by
      have : (ops.toList.drop i)[0]? = some o := by rw [hl]; rfl
      simpa using this
    have hl' : ops.toList.drop (i + 1) = l := by
      have := congrArg (List.drop 1) hl
      simpa [List.drop_drop, Nat.add_comm] using this
    rw [List.length_cons, List.range'_succ]
    simp only [wpOpsSIn, hi]
    rw [wanted_eq ht]
    refine ⟨fun f _ => trivial, ?_⟩
    simp only [sops] at e
    have next : ∀ {m' : M} {w' : World} {h' : AH} {v v' : Value} {u2 u2' : FrameMode}, m.le m' → Rel K w0 m' h' w' → VR m' v v' → UM m' u2 u2' → putK ts n o.dst v (fun ts => sops T rec ops n l ts u2 h') = .ok outs →
        wpOpsSIn Fence.wide 0 P ops (PostS K w0 m0 n c₀ cs outs) (List.range' (i + 1) l.length) (a.put o.dst v') ({ c₀ with mode := u2' } :: cs) w' := by
      intro m' w' h' v v' u2 u2' hle' r' hv hu2 e'
      obtain ⟨ts', e', hput⟩ := putK_ok e'
      obtain ⟨p1, p2, p3⟩ := hput (ht.mono hle') hs hn hv
      exact sops_sound ok hn l (i + 1) hl' (fun x hx => hop x (by simp [hx])) m0 c₀ cs outs ts' u2 h' e' m' w' _ u2' (M.le_trans hle hle') hu2 r' p1 p2 (p3.trans hd)
    cases hw : awanted ops ts o with
    | false =>
      rw [hw] at e
      simp only [cond_false] at e
      simp only [Bool.false_eq_true, if_false]
      exact next m.le_refl r (.undef m) hu e
    | true =>
      rw [hw] at e
      simp only [cond_true] at e
      simp only [if_true]
      have hro := aop_sound ok r o (ρ := aeval ts) (ρ' := a.eval) (fun x hx => ht.eval (List.all_eq_true.1 (hop o (by simp)) x hx))
      cases hr : aop T (aeval ts) o h with
      | v x h' =>
        rw [hr] at e hro
        obtain ⟨nx, x', w', m', h1, h2, h3, h4, h5⟩ := hro
        rw [h1]
        rcases h2 with rfl | ⟨rfl, rfl⟩
        · exact next h3 h4 h5 (hu.mono h3) e
        · exact next h3 h4 h5 (hu.mono h3) e
      | panic x h' =>
        rw [hr] at e hro
        obtain ⟨x', h1, h2, rfl⟩ := hro
        rw [h1]
        cases e
        exact ⟨_, _, _, u', _, m, by simp, hle, r, ht, hs, hd, .panic (c := [{ v := x, recovered := false }]) (c' := [{ v := x', recovered := false }]) (.cons ⟨h2, rfl, rfl⟩ .nil), hu, rfl⟩
      | recover h' =>
        rw [hr] at e hro
        obtain ⟨h1, rfl⟩ := hro
        rw [h1]
        simp only [sopK] at e
        rcases recover_rel (cs := cs) (c₀ := { c₀ with mode := u' }) hu with ⟨v', u2', g1, g2, g3⟩ | ⟨g1, g2⟩
        · rw [g1]
          exact next m.le_refl r g2 g3 e
        · rw [g1]
          rw [g2] at e
          exact next m.le_refl r .nilIface hu e
      | enter f args h' => rw [hr] at e; cases e
      | round l args h' => rw [hr] at e; cases e
      | defer d h' => rw [hr] at e; cases e
      | many xs => rw [hr] at e; cases e
      | fail s => rw [hr] at e; cases e

theorem scode_step (ok : TOk T P) (ih : IH T P rec) {c : Code} {ts : PT Value} {n : Nat} {u : FrameMode} {outs : List Resp} (e : stepScode T rec c ts n u h = .ok outs) (hc : codeOk c = true) {a : Act} {c₀ : Frame} {cs : List Frame} (r : Rel K w0 m h w) (ht : TR m ts a.tmps) (hs : a.tmps.size = n) (hn : n < 100000) (hd : a.defers = []) (hu : UM m u c₀.mode) :
    c.wpSIn Fence.wide 0 P (PostS K w0 m n c₀ cs outs) a (c₀ :: cs) w := by
  unfold stepScode at e
  cases hrec : hasRecover c with
  | false =>
    rw [hrec] at e
    simp only [cond_false] at e
    obtain ⟨l, e1, e2⟩ := bind_ok e
    refine wpSIn_of_wpIn rfl (wpIn_mono (ih.code e1 hc r ht hs hn (by rw [hd]; exact .nil) (rd := none) rfl) fun ex a1 w1 hq => ?_)
    obtain ⟨e', ts1, df1, h1, m1, q1, q2, q3, q4, q5, q6, q7⟩ := hq
    obtain ⟨o1, f1, f2⟩ := e2 _ q1
    cases df1 with
    | cons d ds => simp [scodeK] at f1
    | nil =>
      cases f1
      have hd1 : a1.defers = [] := by
        generalize a1.defers = z at q6
        cases q6; rfl
      exact ⟨e', ts1, u, c₀.mode, h1, m1, f2 _ (by simp), q2, q3, q4, q5, hd1, q7, hu.mono q2, rfl⟩
  | true =>
    rw [hrec] at e
    simp only [cond_true] at e
    split at e
    · rename_i x y
      simp only [codeOk, Bool.and_eq_true] at hc
      obtain ⟨l, e1, e2⟩ := bind_ok e
      refine wpSIn_seq (wpSIn_mono (ih.scode e1 hc.1 r ht hs hn hd hu) fun ex a1 cs1 w1 hq => ?_)
      obtain ⟨e', ts1, u1, u1', h1, m1, q1, q2, q3, q4, q5, q6, q7, q8, q9⟩ := hq
      obtain ⟨o1, f1, f2⟩ := e2 _ q1
      have pass : sseqK rec y n (.scode e' ts1 u1 h1) = .ok [.scode e' ts1 u1 h1] → PostS K w0 m n c₀ cs outs ex a1 cs1 w1 := fun hk => by
        rw [hk] at f1; cases f1
        exact ⟨e', ts1, u1, u1', h1, m1, f2 _ (by simp), q2, q3, q4, q5, q6, q7, q8, q9⟩
      cases q7 with
      | normal =>
        subst q9
        exact wpSIn_mono (ih.scode f1 hc.2 q3 q4 q5 hn q6 (c₀ := { c₀ with mode := u1' }) q8) fun ex a cs w p => p.mono q2 f2
      | exit i => exact pass rfl
      | goto i => exact pass rfl
      | ret => exact pass rfl
      | panic hcl => exact pass rfl
    · rename_i o x y
      simp only [codeOk, Bool.and_eq_true] at hc
      simp only [scondK] at e
      split at e
      case h_2 => cases e
      rename_i t hv
      have he := ht.eval hc.1.1
      rw [hv] at he
      have he' : a.eval o = .bool t := (he.bool_of t).1 rfl
      refine wpSIn_cond he' ?_
      cases t with
      | true => exact ih.scode e hc.1.2 r ht hs hn hd hu
      | false => exact ih.scode e hc.2 r ht hs hn hd hu
    · rename_i id ops
      simp only [codeOk] at hc
      refine wpSIn_region ?_
      rw [List.range_eq_range', show ops.size = ops.toList.length by simp]
      exact sops_sound ok hn ops.toList 0 (by simp) (fun o ho => List.all_eq_true.1 hc o ho) m c₀ cs outs ts u h e m w a c₀.mode m.le_refl hu r ht hs hd
    · cases e

theorem step_sound (ok : TOk T P) (dr : DrawOk T P) (ih : IH T P rec) : IH T P (astep T rec) where
  code e hc := fun r ht hs hn hd hF => code_step ok dr ih e hc r ht hs hn hd hF
  call e := fun r hv => call_step ok ih e r hv
  leave e := fun r ht hd hu => leave_step ok ih e r ht hd hu
  dcall e := fun r hv hu => dcall_step ok ih e r hv hu
  scode e hc := fun r ht hs hn hd hu => scode_step ok ih e hc r ht hs hn hd hu
  scope e hc hb := fun r ht hs hn hd hF => scope_step ih e hc hb r ht hs hn hd hF
  loopr e hc := fun r ht hs hn hd hF => loop_step ih e hc r ht hs hn hd hF

theorem arun_succ (k : Nat) : arun T (k + 1) = astep T (arun T k) := rfl
theorem arun_sound (ok : TOk T P) (dr : DrawOk T P) : ∀ k, IH T P (arun T k)
  | 0 => by
    constructor <;> intros <;> rename_i e _ <;> simp [arun] at *
  | k + 1 => step_sound ok dr (arun_sound ok dr k)
end
end Go.AM
