/-
  AM, part 2: what it is for the machine's heap and values to stand for a world's. Own work.
-/
import Derived.Test.YtjmnfkeeiegfdaaGreatDoorAm1
import Derived.Laws.Cells
import Derived.Laws.World
import Derived.Laws.Entries
import Derived.RangeFuncRecord
namespace Go.AM

/-! ### Tries -/
theorem nbeq {a b : Nat} (h : ¬ a = b) : Nat.beq a b = false := by
  cases e : Nat.beq a b with
  | false => rfl
  | true => exact absurd (Nat.eq_of_beq_eq_true e) h
theorem PT.get_nil {α : Type} (k : Nat) : (PT.nil : PT α).get k = none := rfl
theorem PT.get_node_zero {α : Type} (l r : PT α) (v : Option α) : (PT.node l v r).get 0 = v := rfl
theorem PT.get_node_succ {α : Type} (l r : PT α) (v : Option α) (k : Nat) : (PT.node l v r).get (k + 1) = bif Nat.beq (k % 2) 0 then l.get (k / 2) else r.get (k / 2) := rfl
theorem PT.put_zero {α : Type} (t : PT α) (k : Nat) (v : Option α) : PT.put 0 t k v = t := rfl
theorem PT.put_nil_zero {α : Type} (f : Nat) (v : Option α) : PT.put (f + 1) .nil 0 v = .node .nil v .nil := rfl
theorem PT.put_nil_succ {α : Type} (f k : Nat) (v : Option α) : PT.put (f + 1) .nil (k + 1) v = bif Nat.beq (k % 2) 0 then .node (PT.put f .nil (k / 2) v) none .nil else .node .nil none (PT.put f .nil (k / 2) v) := rfl
theorem PT.put_node_zero {α : Type} (f : Nat) (l r : PT α) (x v : Option α) : PT.put (f + 1) (.node l x r) 0 v = .node l v r := rfl
theorem PT.put_node_succ {α : Type} (f k : Nat) (l r : PT α) (x v : Option α) : PT.put (f + 1) (.node l x r) (k + 1) v = bif Nat.beq (k % 2) 0 then .node (PT.put f l (k / 2) v) x r else .node l x (PT.put f r (k / 2) v) := rfl

theorem PT.get_put_aux {α : Type} : ∀ (f : Nat) (t : PT α) (k j : Nat) (v : Option α), k + 2 ≤ 2 ^ f → (PT.put f t k v).get j = if j = k then v else t.get j := by
  intro f
  induction f with
  | zero => intro t k j v h; simp at h
  | succ f ih =>
    intro t k j v h
    cases k with
    | zero =>
      cases t with
      | nil => rw [put_nil_zero]; cases j with
        | zero => rfl
        | succ j => rw [get_node_succ]; simp [get_nil]
      | node l x r => rw [put_node_zero]; cases j with
        | zero => rfl
        | succ j => rw [get_node_succ, get_node_succ]; simp
    | succ k =>
      have hk : k / 2 + 2 ≤ 2 ^ f := by rw [Nat.pow_succ] at h; omega
      by_cases hp : k % 2 = 0
      · have hb : Nat.beq (k % 2) 0 = true := by rw [hp]; rfl
        cases t with
        | nil =>
          rw [put_nil_succ, hb]; simp only [cond_true]
          cases j with
          | zero => rw [get_node_zero]; simp [get_nil]
          | succ j =>
            rw [get_node_succ]
            by_cases hq : j % 2 = 0
            · have hb' : Nat.beq (j % 2) 0 = true := by rw [hq]; rfl
              rw [hb']; simp only [cond_true]; rw [ih _ _ _ _ hk]
              by_cases e : j = k
              · subst e; simp
              · rw [if_neg (by omega), if_neg (by omega)]; simp [get_nil]
            · have hb' : Nat.beq (j % 2) 0 = false := nbeq hq
              rw [hb']; simp only [cond_false]; rw [if_neg (by omega)]; simp [get_nil]
        | node l x r =>
          rw [put_node_succ, hb]; simp only [cond_true]
          cases j with
          | zero => rw [get_node_zero, get_node_zero]; simp
          | succ j =>
            rw [get_node_succ, get_node_succ]
            by_cases hq : j % 2 = 0
            · have hb' : Nat.beq (j % 2) 0 = true := by rw [hq]; rfl
              rw [hb']; simp only [cond_true]; rw [ih _ _ _ _ hk]
              by_cases e : j = k
              · subst e; simp
              · rw [if_neg (by omega), if_neg (by omega)]
            · have hb' : Nat.beq (j % 2) 0 = false := nbeq hq
              rw [hb']; simp only [cond_false]; rw [if_neg (by omega)]
      · have hb : Nat.beq (k % 2) 0 = false := nbeq hp
        cases t with
        | nil =>
          rw [put_nil_succ, hb]; simp only [cond_false]
          cases j with
          | zero => rw [get_node_zero]; simp [get_nil]
          | succ j =>
            rw [get_node_succ]
            by_cases hq : j % 2 = 0
            · have hb' : Nat.beq (j % 2) 0 = true := by rw [hq]; rfl
              rw [hb']; simp only [cond_true]; rw [if_neg (by omega)]; simp [get_nil]
            · have hb' : Nat.beq (j % 2) 0 = false := nbeq hq
              rw [hb']; simp only [cond_false]; rw [ih _ _ _ _ hk]
              by_cases e : j = k
              · subst e; simp
              · rw [if_neg (by omega), if_neg (by omega)]; simp [get_nil]
        | node l x r =>
          rw [put_node_succ, hb]; simp only [cond_false]
          cases j with
          | zero => rw [get_node_zero, get_node_zero]; simp
          | succ j =>
            rw [get_node_succ, get_node_succ]
            by_cases hq : j % 2 = 0
            · have hb' : Nat.beq (j % 2) 0 = true := by rw [hq]; rfl
              rw [hb']; simp only [cond_true]; rw [if_neg (by omega)]
            · have hb' : Nat.beq (j % 2) 0 = false := nbeq hq
              rw [hb']; simp only [cond_false]; rw [ih _ _ _ _ hk]
              by_cases e : j = k
              · subst e; simp
              · rw [if_neg (by omega), if_neg (by omega)]
theorem PT.get_put {α : Type} (t : PT α) (k j : Nat) (v : Option α) (h : k < lim) : (PT.put 30 t k v).get j = if j = k then v else t.get j :=
  PT.get_put_aux 30 t k j v (by unfold lim at h; have : (2 : Nat) ^ 30 = 1073741824 := by decide
                                omega)

theorem AH.get_set (h : AH) (i j : Nat) (o : AObj) (hi : i < lim) : (h.set i o).get j = if j = i then some o else h.get j := PT.get_put _ _ _ _ hi
theorem AH.get_kill (h : AH) (i j : Nat) (hi : i < lim) : (h.kill i).get j = if j = i then none else h.get j := PT.get_put _ _ _ _ hi
theorem AH.get_new (h : AH) (j : Nat) (o : AObj) (hi : h.room = true) : (h.new o).get j = if j = h.nx then some o else h.get j :=
  PT.get_put _ _ _ _ (by unfold AH.room at hi; simpa [Nat.blt_eq] using hi)
theorem tget_put (ts : PT Value) (d t : Nat) (v : Value) (h : d < lim) : tget (ts.put 30 d (some v)) t = if t = d then v else tget ts t := by
  unfold tget; rw [PT.get_put _ _ _ _ h]; split <;> rfl

/-! ### What stands for what -/
/-- Where one of the machine's blocks lies: the world's block; how far in; how many cells it has, and the world's block; the cells of an element (0: a variable). -/
structure Blk where
  b : Nat
  sh : Nat
  n : Nat
  cn : Nat
  sz : Nat

abbrev M := Nat → Option Blk

/-- A slice's place and capacity. -/
def SlR (k : Blk) (o o' l c c' : Nat) : Prop :=
  (o' = o + k.sh ∧ (c' = c ∨ (c < c' ∧ k.sz ≠ 0 ∧ o + c * k.sz = k.n ∧ o' + c' * k.sz ≤ k.cn))) ∨
  (l = 0 ∧ c = 0 ∧ c' = 0) ∨
  (l = 0 ∧ c = 0 ∧ k.sz ≠ 0 ∧ o' = k.sh + k.n ∧ o' + c' * k.sz ≤ k.cn)

inductive FR (m : M) : Fn → Fn → Prop
  | func (f) : FR m (.func f) (.func f)
  | method (s) : FR m (.method s) (.method s)
  | methodOf (t s) : FR m (.methodOf t s) (.methodOf t s)
  | via (t p f b) : FR m (.via t p f b) (.via t p f b)
  | yield {l k} (h : m l = some k) : FR m (.yield l) (.yield k.b)

mutual
inductive VR (m : M) : Value → Value → Prop
  | bool (b) : VR m (.bool b) (.bool b)
  | int (k n) : VR m (.int k n) (.int k n)
  | float (k n) : VR m (.float k n) (.float k n)
  | complex (k a b) : VR m (.complex k a b) (.complex k a b)
  | string (s) : VR m (.string s) (.string s)
  | nilptr : VR m (.pointer none) (.pointer none)
  | ptr {i k} (o) (h : m i = some k) : VR m (.pointer (some ⟨i, o, none⟩)) (.pointer (some ⟨k.b, o + k.sh, none⟩))
  | nilsl : VR m (.slice none 0 0) (.slice none 0 0)
  | sl {i k o o' l c c'} (h : m i = some k) (hs : SlR k o o' l c c') : VR m (.slice (some ⟨i, o, none⟩) l c) (.slice (some ⟨k.b, o', none⟩) l c')
  | nilmap : VR m (.map none) (.map none)
  | map {i k} (h : m i = some k) : VR m (.map (some i)) (.map (some k.b))
  | func {f g a b c d} (h : FR m f g) (h1 : VRL m a.toList c.toList) (h2 : VRL m b.toList d.toList) : VR m (.func f a b) (.func g c d)
  | nilFunc : VR m .nilFunc .nilFunc
  | iface {t v w} (h : VR m v w) : VR m (.iface t v) (.iface t w)
  | nilIface : VR m .nilIface .nilIface
  | agg {a b} (h : VRL m a.toList b.toList) : VR m (.agg a) (.agg b)
  | tuple {a b} (h : VRL m a.toList b.toList) : VR m (.tuple a) (.tuple b)
inductive VRL (m : M) : List Value → List Value → Prop
  | nil : VRL m [] []
  | cons {a b l k} (h : VR m a b) (t : VRL m l k) : VRL m (a :: l) (b :: k)
end

def M.le (m m' : M) : Prop := ∀ i k, m i = some k → m' i = some k
theorem M.le_refl (m : M) : m.le m := fun _ _ h => h
theorem M.le_trans {a b c : M} (h : a.le b) (h' : b.le c) : a.le c := fun i k e => h' i k (h i k e)

theorem FR.mono {m m' : M} (h : m.le m') : ∀ {a b}, FR m a b → FR m' a b
  | _, _, .func f => .func f
  | _, _, .method s => .method s
  | _, _, .methodOf t s => .methodOf t s
  | _, _, .via t p f b => .via t p f b
  | _, _, .yield e => .yield (h _ _ e)
mutual
theorem VR.mono {m m' : M} (h : m.le m') : ∀ {a b}, VR m a b → VR m' a b
  | _, _, .bool b => .bool b
  | _, _, .int k n => .int k n
  | _, _, .float k n => .float k n
  | _, _, .complex k a b => .complex k a b
  | _, _, .string s => .string s
  | _, _, .nilptr => .nilptr
  | _, _, .ptr o e => .ptr o (h _ _ e)
  | _, _, .nilsl => .nilsl
  | _, _, .sl e hs => .sl (h _ _ e) hs
  | _, _, .nilmap => .nilmap
  | _, _, .map e => .map (h _ _ e)
  | _, _, .func e h1 h2 => .func (e.mono h) (VRL.mono h h1) (VRL.mono h h2)
  | _, _, .nilFunc => .nilFunc
  | _, _, .iface e => .iface (VR.mono h e)
  | _, _, .nilIface => .nilIface
  | _, _, .agg e => .agg (VRL.mono h e)
  | _, _, .tuple e => .tuple (VRL.mono h e)
theorem VRL.mono {m m' : M} (h : m.le m') : ∀ {a b}, VRL m a b → VRL m' a b
  | _, _, .nil => .nil
  | _, _, .cons e f => .cons (VR.mono h e) (VRL.mono h f)
end

section lists
variable {m : M}
theorem VRL.length : ∀ {a b}, VRL m a b → a.length = b.length
  | _, _, .nil => rfl
  | _, _, .cons _ t => by simp [t.length]
theorem VRL.append : ∀ {a b c d}, VRL m a b → VRL m c d → VRL m (a ++ c) (b ++ d)
  | _, _, _, _, .nil, h => h
  | _, _, _, _, .cons h t, h' => .cons h (t.append h')
theorem VRL.drop : ∀ (n : Nat) {a b}, VRL m a b → VRL m (a.drop n) (b.drop n)
  | 0, _, _, h => h
  | _ + 1, _, _, .nil => .nil
  | n + 1, _, _, .cons _ t => VRL.drop n t
theorem VRL.take : ∀ (n : Nat) {a b}, VRL m a b → VRL m (a.take n) (b.take n)
  | 0, _, _, _ => .nil
  | _ + 1, _, _, .nil => .nil
  | n + 1, _, _, .cons h t => .cons h (VRL.take n t)
theorem VRL.get : ∀ (n : Nat) {a b : List Value} {v : Value}, VRL m a b → a[n]? = some v → ∃ v', b[n]? = some v' ∧ VR m v v'
  | 0, _, _, _, .cons h _, e => by simp at e; subst e; exact ⟨_, rfl, h⟩
  | n + 1, _, _, _, .cons _ t, e => by simp at e; obtain ⟨v', h1, h2⟩ := VRL.get n t e; exact ⟨v', by simpa using h1, h2⟩
theorem VRL.set : ∀ (n : Nat) {a b v v'}, VRL m a b → VR m v v' → VRL m (a.set n v) (b.set n v')
  | _, _, _, _, _, .nil, _ => .nil
  | 0, _, _, _, _, .cons _ t, h => .cons h t
  | n + 1, _, _, _, _, .cons h t, h' => .cons h (VRL.set n t h')
theorem VRL.setAt : ∀ {vs vs' : List Value} (o : Nat) {a b}, VRL m a b → VRL m vs vs' → VRL m (AM.setAt a o vs) (AM.setAt b o vs')
  | _, _, _, _, _, h, .nil => h
  | _, _, o, _, _, h, .cons e t => VRL.setAt (o + 1) (h.set o e) t
theorem VRL.of_get : ∀ {a b : List Value}, a.length = b.length → (∀ (n : Nat) (v : Value), a[n]? = some v → ∃ v', b[n]? = some v' ∧ VR m v v') → VRL m a b
  | [], [], _, _ => .nil
  | [], _ :: _, h, _ => by simp at h
  | _ :: _, [], h, _ => by simp at h
  | x :: a, y :: b, h, f => by
    obtain ⟨v', e, r⟩ := f 0 x rfl
    simp at e; subst e
    exact .cons r (VRL.of_get (by simpa using h) fun n v e => by have := f (n + 1) v (by simpa using e); simpa using this)
theorem VRL.zeros : ∀ (n : Nat) {a b}, VRL m a b → VRL m (zerosL a n) (zerosL b n)
  | 0, _, _, _ => .nil
  | n + 1, _, _, h => h.append (VRL.zeros n h)
end lists

theorem VR.vcells {m : M} {v w : Value} (h : VR m v w) : VRL m (AM.vcells v) w.cells.toList := by
  cases h with
  | agg h => exact h
  | _ => exact .cons (by first | exact .bool _ | exact .int _ _ | exact .float _ _ | exact .complex _ _ _ | exact .string _ | exact .nilptr | exact .nilsl | exact .nilmap | exact .nilFunc | exact .nilIface | (constructor <;> assumption)) .nil

inductive OR (m : M) : Option Nat → Option Nat → Prop
  | none : OR m none none
  | some {i k} (h : m i = some k) : OR m (some i) (some k.b)
def ER (m : M) (e e' : MapEntry) : Prop := VR m e.key e'.key ∧ VR m e.val e'.val ∧ e.born = e'.born
inductive EsR (m : M) : List MapEntry → List MapEntry → Prop
  | nil : EsR m [] []
  | cons {a b l k} (h : ER m a b) (t : EsR m l k) : EsR m (a :: l) (b :: k)
theorem OR.mono {m m' : M} (h : m.le m') {a b : Option Nat} : OR m a b → OR m' a b
  | .none => .none
  | .some e => .some (h _ _ e)
theorem ER.mono {m m' : M} (h : m.le m') {a b : MapEntry} (e : ER m a b) : ER m' a b := ⟨e.1.mono h, e.2.1.mono h, e.2.2⟩
theorem EsR.mono {m m' : M} (h : m.le m') : ∀ {a b : List MapEntry}, EsR m a b → EsR m' a b
  | _, _, .nil => .nil
  | _, _, .cons e t => .cons (e.mono h) (t.mono h)

def pendOk : Option Code → Bool
  | none => true
  | some .ret => true
  | some (.exit _) => true
  | some (.goto _) => true
  | _ => false

def TR (m : M) (ts : PT Value) (a : Array Value) : Prop := ∀ t, VR m (tget ts t) (a.getD t undef)
theorem VR.undef (m : M) : VR m Go.undef Go.undef := .tuple .nil
theorem TR.mono {m m' : M} (h : m.le m') {ts : PT Value} {a : Array Value} (e : TR m ts a) : TR m' ts a := fun t => (e t).mono h

structure CellsR (m : M) (k : Blk) (c : List Value) (sz : Nat) (c' : Array Value) (fz : Nat × Nat) : Prop where
  hn : k.n = c.length
  hcn : k.cn = c'.size
  hsz : k.sz = sz
  le : k.sh + k.n ≤ k.cn
  vals : ∀ (i : Nat) (v : Value), c[i]? = some v → ∃ v', c'[k.sh + i]? = some v' ∧ VR m v v'
  free : ∀ i, i < k.cn → ¬ (fz.1 ≤ i ∧ i < fz.2)

structure LoopR (m : M) (st : LoopState) (pe : Option Code) (ts : PT Value) (n : Nat) (ps : List Tmp) (as bd : Code) (d : Nat) (l : Loop) : Prop where
  hst : l.state = st
  hpe : l.pending = pe
  hts : TR m ts l.tmps
  hn : l.tmps.size = n
  nb : n < 100000
  hps : l.params.toList = ps
  has : l.assign = as
  hbd : l.body = bd
  hd : ∃ k, m d = some k ∧ l.defers = k.b
  ok : codeOk as = true ∧ codeOk bd = true ∧ pendOk pe = true

inductive ObjR (m : M) (k : Blk) : AObj → Obj → Prop
  | cells {c sz c' t fz} (h : CellsR m k c sz c' fz) : ObjR m k (.cells c sz) (.cells c' t fz)
  | map {es es' clock} (h : EsR m es es'.toList) : ObjR m k (.map es clock) (.map es' clock)
  | mapIter {a b since last} {seen : Array Nat} (h : OR m a b) (hs : k.sh = 0) : ObjR m k (.mapIter a since seen.toList last) (.mapIter b since seen last)
  | strIter (s p) (hs : k.sh = 0) : ObjR m k (.strIter s p) (.stringIter s p)
  | loop {st pe ts n ps as bd d l} (h : LoopR m st pe ts n ps as bd d l) : ObjR m k (.loop st pe ts n ps as bd d) (.loop l)
  | dfr : ObjR m k (.dfr true) (.deferred (some []))

theorem CellsR.mono {m m' : M} (h : m.le m') {k c sz c' fz} (e : CellsR m k c sz c' fz) : CellsR m' k c sz c' fz :=
  ⟨e.hn, e.hcn, e.hsz, e.le, fun i v hv => by obtain ⟨v', h1, h2⟩ := e.vals i v hv; exact ⟨v', h1, h2.mono h⟩, e.free⟩
theorem ObjR.mono {m m' : M} (h : m.le m') {k a b} (e : ObjR m k a b) : ObjR m' k a b := by
  cases e with
  | cells e => exact .cells (e.mono h)
  | map e => exact .map (e.mono h)
  | mapIter e hs => exact .mapIter (e.mono h) hs
  | strIter s p hs => exact .strIter s p hs
  | loop e => exact .loop ⟨e.hst, e.hpe, e.hts.mono h, e.hn, e.nb, e.hps, e.has, e.hbd, (by obtain ⟨k, a, b⟩ := e.hd; exact ⟨k, h _ _ a, b⟩), e.ok⟩
  | dfr => exact .dfr

/-- What is to be left alone: blocks of the world; names of the machine that must not be given yet. -/
structure Kp where
  blk : Nat → Prop
  ids : Nat → Prop

/-- The machine's heap stands for a part of the world; the blocks of K lie as they lay in w0. -/
structure Rel (K : Kp) (w0 : World) (m : M) (h : AH) (w : World) : Prop where
  dom : ∀ i k, m i = some k → i < h.nx
  live : ∀ i o, h.get i = some o → ∃ k ob, m i = some k ∧ ¬ K.blk k.b ∧ w.heap[k.b]? = some ob ∧ ObjR m k o ob
  inj : ∀ i j o o' k k', h.get i = some o → h.get j = some o' → m i = some k → m j = some k' → k.b = k'.b → i = j
  keep : ∀ b, K.blk b → b < w0.heap.size ∧ w.heap[b]? = w0.heap[b]?
  size : w0.heap.size ≤ w.heap.size
  und : ∀ i, K.ids i → i < h.nx ∧ m i = none
  io : w.os = w0.os ∧ w.output = w0.output

section rel
variable {K : Kp} {w0 : World} {m : M} {h : AH} {w : World}

theorem Rel.drew (r : Rel K w0 m h w) : Rel K w0 m h { w with drawn := w.drawn + 1 } := ⟨r.dom, r.live, r.inj, r.keep, r.size, r.und, r.io⟩
theorem Rel.of_heap {w' : World} (r : Rel K w0 m h w) (e : w'.heap = w.heap) (eo : w'.os = w.os ∧ w'.output = w.output) : Rel K w0 m h w' := ⟨r.dom, (by rw [e]; exact r.live), r.inj, (by rw [e]; exact r.keep), (by rw [e]; exact r.size), r.und, ⟨eo.1.trans r.io.1, eo.2.trans r.io.2⟩⟩

theorem lt_of_get {w : World} {b : Nat} {o : Obj} (e : w.heap[b]? = some o) : b < w.heap.size := (Array.getElem?_eq_some_iff.1 e).1

/-- A new block on both sides. -/
theorem Rel.alloc (r : Rel K w0 m h w) (hr : h.room = true) (k : Blk) (hk : k.b = w.heap.size) (o : AObj) (ob : Obj)
    (ho : ObjR (fun i => if i = h.nx then some k else m i) k o ob) :
    Rel K w0 (fun i => if i = h.nx then some k else m i) (h.new o) (w.alloc ob) ∧ m.le (fun i => if i = h.nx then some k else m i) := by
  have hle : m.le (fun i => if i = h.nx then some k else m i) := fun i k' e => by
    have := r.dom i k' e
    simp only; rw [if_neg (by omega)]; exact e
  refine ⟨⟨?_, ?_, ?_, ?_, ?_, fun i hi => ?_, r.io⟩, hle⟩
  rotate_left 5
  · obtain ⟨h1, h2⟩ := r.und i hi
    refine ⟨by show i < h.nx + 1; omega, ?_⟩
    rw [if_neg (by omega)]; exact h2
  · intro i k' e
    simp only [AH.new] at *
    split at e
    · omega
    · have := r.dom i k' e; omega
  · intro i o' e
    rw [AH.get_new _ _ _ hr] at e
    split at e
    · rename_i hi; subst hi; cases e
      refine ⟨k, ob, by simp, ?_, ?_, ho⟩
      · intro hK; have := (r.keep _ hK).1; have := r.size; omega
      · rw [hk]; show (w.heap.push ob)[w.heap.size]? = some ob; simp
    · obtain ⟨k', ob', h1, h2, h3, h4⟩ := r.live i o' e
      refine ⟨k', ob', hle _ _ h1, h2, ?_, h4.mono hle⟩
      have := lt_of_get h3
      simp only [World.alloc]
      rw [Array.getElem?_push, if_neg (by omega)]; exact h3
  · intro i j o1 o2 k1 k2 e1 e2 f1 f2 hb
    rw [AH.get_new _ _ _ hr] at e1 e2
    split at e1 <;> split at e2
    · omega
    · rename_i hi hj
      simp only [hi, if_true] at f1; cases f1
      simp only [if_neg hj] at f2
      obtain ⟨k', ob', h1, h2, h3, h4⟩ := r.live j o2 e2
      rw [f2] at h1; cases h1
      have := lt_of_get h3; omega
    · rename_i hi hj
      simp only [hj, if_true] at f2; cases f2
      simp only [if_neg hi] at f1
      obtain ⟨k', ob', h1, h2, h3, h4⟩ := r.live i o1 e1
      rw [f1] at h1; cases h1
      have := lt_of_get h3; omega
    · rename_i hi hj
      simp only [if_neg hi] at f1
      simp only [if_neg hj] at f2
      exact r.inj i j o1 o2 k1 k2 e1 e2 f1 f2 hb
  · intro b hb
    have h1 := r.keep b hb
    refine ⟨h1.1, ?_⟩
    have := r.size
    simp only [World.alloc]
    rw [Array.getElem?_push, if_neg (by omega)]; exact h1.2
  · have := r.size; simp; omega

/-- A block turned on both sides. -/
theorem Rel.set (r : Rel K w0 m h w) {i : Nat} {k : Blk} {o0 : AObj} (hi : h.get i = some o0) (hm : m i = some k) (hl : i < lim) (o : AObj) (ob : Obj) (ho : ObjR m k o ob) :
    Rel K w0 m (h.set i o) (w.putObj k.b ob) := by
  obtain ⟨k0, ob0, h1, h2, h3, h4⟩ := r.live i o0 hi
  rw [hm] at h1; cases h1
  have hlt := lt_of_get h3
  have live' : ∀ j o', (h.set i o).get j = some o' → ∃ o'', h.get j = some o'' := fun j o' e => by
    rw [AH.get_set _ _ _ _ hl] at e
    split at e
    · rename_i hj; subst hj; exact ⟨_, hi⟩
    · exact ⟨_, e⟩
  refine ⟨r.dom, ?_, ?_, ?_, ?_, r.und, r.io⟩
  · intro j o' e
    rw [AH.get_set _ _ _ _ hl] at e
    split at e
    · rename_i hj; subst hj; cases e
      exact ⟨k, ob, hm, h2, World.putObj_heap_same hlt, ho⟩
    · rename_i hj
      obtain ⟨k', ob', g1, g2, g3, g4⟩ := r.live j o' e
      refine ⟨k', ob', g1, g2, ?_, g4⟩
      rw [World.putObj_heap_other]; exact g3
      intro hb; exact hj (r.inj j i o' o0 k' k e hi g1 hm hb)
  · intro a b o1 o2 k1 k2 e1 e2 f1 f2 hb
    obtain ⟨_, g1⟩ := live' a o1 e1
    obtain ⟨_, g2⟩ := live' b o2 e2
    exact r.inj a b _ _ k1 k2 g1 g2 f1 f2 hb
  · intro b hb
    have h1 := r.keep b hb
    refine ⟨h1.1, ?_⟩
    rw [World.putObj_heap_other]; exact h1.2
    intro e; exact h2 (e ▸ hb)
  · simpa using r.size

/-- A block given up. -/
theorem Rel.kill (r : Rel K w0 m h w) (i : Nat) (hl : i < lim) : Rel K w0 m (h.kill i) w := by
  have sub : ∀ j o', (h.kill i).get j = some o' → h.get j = some o' := fun j o' e => by
    rw [AH.get_kill _ _ _ hl] at e
    split at e
    · cases e
    · exact e
  exact ⟨r.dom, fun j o e => r.live j o (sub j o e), fun a b o1 o2 k1 k2 e1 e2 => r.inj a b o1 o2 k1 k2 (sub _ _ e1) (sub _ _ e2), r.keep, r.size, r.und, r.io⟩

theorem Rel.cells (r : Rel K w0 m h w) {i : Nat} {c : List Value} {sz : Nat} (e : h.get i = some (.cells c sz)) :
    ∃ k c' t fz, m i = some k ∧ ¬ K.blk k.b ∧ w.heap[k.b]? = some (.cells c' t fz) ∧ CellsR m k c sz c' fz := by
  obtain ⟨k, ob, h1, h2, h3, h4⟩ := r.live i _ e
  cases h4 with
  | cells h => exact ⟨k, _, _, _, h1, h2, h3, h⟩

theorem cell_of_heap {w : World} {b o : Nat} {c' : Array Value} {t : TypeId} {fz : Nat × Nat} (e : w.heap[b]? = some (.cells c' t fz)) : w.cell? ⟨b, o, none⟩ = c'[o]? := by
  unfold World.cell?; rw [e]; rfl

theorem Addr.add_eq (b o n : Nat) : (⟨b, o, none⟩ : Addr).add n = ⟨b, o + n, none⟩ := by
  unfold Addr.add; split
  · rename_i h; simp [h]
  · rfl

theorem Rel.loadN {P : Program} (r : Rel K w0 m h w) {i off n : Nat} {c : List Value} (e : AM.loadN h i off n = some c) {k : Blk} (hm : m i = some k) :
    ∃ c', (loadCells ⟨k.b, off + k.sh, none⟩ n).run P w = .ok c'.toArray w ∧ VRL m c c' := by
  unfold AM.loadN at e
  split at e
  case h_2 => cases e
  rename_i c0 sz hg
  split at e
  case isFalse => cases e
  rename_i hle
  cases e
  rw [Nat.ble_eq] at hle
  obtain ⟨k', c', t, fz, h1, h2, h3, h4⟩ := r.cells hg
  rw [hm] at h1; cases h1
  refine ⟨(c'.toList.drop (k.sh + off)).take n, ?_, ?_⟩
  · have hlen : ((c'.toList.drop (k.sh + off)).take n).length = n := by
      simp only [List.length_take, List.length_drop, Array.length_toList]
      have := h4.le; have := h4.hn; have := h4.hcn; omega
    have := run_loadCells_list (P := P) w ⟨k.b, off + k.sh, none⟩ ((c'.toList.drop (k.sh + off)).take n) (fun j v hv => by
      rw [Addr.add_eq, cell_of_heap h3]
      rw [List.getElem?_take] at hv
      split at hv
      · rw [List.getElem?_drop] at hv
        rw [show off + k.sh + j = k.sh + off + j by omega]
        simpa using hv
      · cases hv)
    rw [hlen] at this
    exact this
  · refine VRL.of_get ?_ ?_
    · simp only [List.length_take, List.length_drop, Array.length_toList]
      have := h4.le; have := h4.hn; have := h4.hcn; omega
    · intro j v hv
      rw [List.getElem?_take] at hv
      split at hv
      case isFalse => cases hv
      rename_i hj
      rw [List.getElem?_drop] at hv
      obtain ⟨v', g1, g2⟩ := h4.vals _ _ hv
      refine ⟨v', ?_, g2⟩
      rw [List.getElem?_take, if_pos hj, List.getElem?_drop]
      rw [show k.sh + off + j = k.sh + (off + j) by omega]
      simpa using g1

end rel

end Go.AM
