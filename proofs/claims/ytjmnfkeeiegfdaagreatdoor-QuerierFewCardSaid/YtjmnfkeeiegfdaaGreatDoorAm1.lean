/-
  AM: an abstract machine over the model: it carries out code over a small heap of its own (blocks named by the machine, capacities unknown), one outcome for each choice that Go leaves open. AmSound.lean shows that what it tells holds of every run in every world. Own work.
-/
import Derived.RangeFuncLeaves
import Derived.RecoverIn
import Derived.OrdersIn
import Derived.LoopNIn
namespace Go.AM
noncomputable section

/-! ### Tries keyed by numbers -/
inductive PT (α : Type) where
  | nil : PT α
  | node (l : PT α) (v : Option α) (r : PT α) : PT α

namespace PT
variable {α : Type}
def get (t : PT α) : Nat → Option α :=
  PT.rec (motive := fun _ => Nat → Option α) (fun _ => none) (fun _ v _ gl gr k => Nat.rec (motive := fun _ => Option α) v (fun k _ => cond (Nat.beq (Nat.mod k 2) 0) (gl (Nat.div k 2)) (gr (Nat.div k 2))) k) t
def put (f : Nat) : PT α → Nat → Option α → PT α :=
  Nat.rec (motive := fun _ => PT α → Nat → Option α → PT α) (fun t _ _ => t)
    (fun _ ih t k v => PT.rec (motive := fun _ => PT α)
      (Nat.rec (motive := fun _ => PT α) (.node .nil v .nil) (fun k _ => cond (Nat.beq (Nat.mod k 2) 0) (.node (ih .nil (Nat.div k 2) v) none .nil) (.node .nil none (ih .nil (Nat.div k 2) v))) k)
      (fun l x r _ _ => Nat.rec (motive := fun _ => PT α) (.node l v r) (fun k _ => cond (Nat.beq (Nat.mod k 2) 0) (.node (ih l (Nat.div k 2) v) x r) (.node l x (ih r (Nat.div k 2) v))) k) t) f
def ofList : Nat → List α → PT α → PT α
  | _, [], t => t
  | k, x :: l, t => ofList (k + 1) l (put 30 t k (some x))
end PT

/-- What is known of a type. -/
structure TI where
  desc : TypeDesc
  size : Nat
  bytes : Nat
  zero : Value
  eqg : Bool
  stood : Bool

/-- What is known of the program: of some types, some functions, some methods. -/
structure Tbl where
  ty : Nat → Option TI
  fn : Nat → Option Func
  meth : Nat → String → Option (Nat × Bool)
  ext : Nat → Option (List Value → Option Value)

def Tbl.desc (T : Tbl) (t : Nat) : Option TypeDesc := (T.ty t).map (·.desc)

inductive AObj where
  | cells (c : List Value) (sz : Nat)
  | map (es : List MapEntry) (clock : Nat)
  | mapIter (m : Option Nat) (since : Nat) (seen : List Nat) (last : Nat)
  | strIter (s : ByteArray) (pos : Nat)
  | loop (st : LoopState) (pending : Option Code) (ts : PT Value) (n : Nat) (params : List Tmp) (assign body : Code) (dfr : Nat)
  | dfr (isOpen : Bool)

structure AH where
  t : PT AObj
  nx : Nat

def lim : Nat := 1000000000
def AH.get (h : AH) (i : Nat) : Option AObj := h.t.get i
def AH.set (h : AH) (i : Nat) (o : AObj) : AH := { h with t := h.t.put 30 i (some o) }
def AH.kill (h : AH) (i : Nat) : AH := { h with t := h.t.put 30 i none }
def AH.new (h : AH) (o : AObj) : AH := { t := h.t.put 30 h.nx (some o), nx := h.nx + 1 }
def AH.room (h : AH) : Bool := Nat.blt h.nx lim

def tget (ts : PT Value) (t : Nat) : Value := (ts.get t).getD undef

/-- What an operation comes to. -/
inductive R where
  | v (x : Value) (h : AH)
  | enter (f : Nat) (args : List Value) (h : AH)
  | round (l : Nat) (args : List Value) (h : AH)
  | defer (d : Deferred) (h : AH)
  | recover (h : AH)
  | panic (x : Value) (h : AH)
  | many (xs : List (Value × AH))
  | fail (why : String)

def R.ofOpt (why : String) (h : AH) : Option Value → R
  | some x => .v x h
  | none => .fail why
def R.ofOptH (why : String) : Option (Value × AH) → R
  | some (x, h) => .v x h
  | none => .fail why

def aggT (i : TI) : Bool := match i.desc with | .struct _ | .array _ _ => true | _ => false

/-- cells of a value -/
def vcells : Value → List Value
  | .agg cs => cs.toList
  | v => [v]

def newCells (h : AH) (c : List Value) (sz : Nat) : Option (Value × AH) :=
  if h.room then some (.pointer (some ⟨h.nx, 0, none⟩), h.new (.cells c sz)) else none

/-- n cells of block i from off on -/
def loadN (h : AH) (i off n : Nat) : Option (List Value) :=
  match h.get i with
  | some (.cells c _) => if Nat.ble (off + n) c.length then some ((c.drop off).take n) else none
  | _ => none
def load1 (h : AH) (i off : Nat) : Option Value :=
  match h.get i with
  | some (.cells c _) => c[off]?
  | _ => none
def setAt : List Value → Nat → List Value → List Value
  | c, _, [] => c
  | c, off, v :: vs => setAt (c.set off v) (off + 1) vs
def oneCell : Value → Bool
  | .agg _ | .tuple _ => false
  | _ => true
def storeN (h : AH) (i off : Nat) (vs : List Value) : Option AH :=
  match h.get i with
  | some (.cells c sz) => if Nat.ble (off + vs.length) c.length && Nat.blt i lim && vs.all oneCell then some (h.set i (.cells (setAt c off vs) sz)) else none
  | _ => none

def addOff (a : Addr) (n : Nat) : Addr := ⟨a.block, a.off + n, none⟩

def aload (T : Tbl) (t : Nat) (x : Value) (h : AH) : Option Value :=
  match T.ty t, x with
  | some i, .pointer (some ⟨b, off, none⟩) =>
    if aggT i then (loadN h b off i.size).map fun c => .agg c.toArray else load1 h b off
  | _, _ => none
def astore (T : Tbl) (t : Nat) (x v : Value) (h : AH) : Option AH :=
  match T.ty t, x with
  | some i, .pointer (some ⟨b, off, none⟩) => if Nat.beq (vcells v).length i.size then storeN h b off (vcells v) else none
  | _, _ => none

/-- a part of an aggregate -/
def apart (T : Tbl) (t : Nat) (cs : List Value) (off : Nat) : Option Value :=
  match T.ty t with
  | some i => if aggT i then (if Nat.ble (off + i.size) cs.length then some (.agg ((cs.drop off).take i.size).toArray) else none) else cs[off]?
  | none => none

def aeqF (T : Tbl) (eq : Nat → Value → Value → Option Bool) : List Field → List Value → List Value → Option Bool
  | [], _, _ => some true
  | f :: fs, xs, ys =>
    if f.name = "_" then none else
    match apart T f.type xs f.offset, apart T f.type ys f.offset with
    | some a, some b => match eq f.type a b with
      | some true => aeqF T eq fs xs ys
      | some false => some false
      | none => none
    | _, _ => none
def aeq (T : Tbl) : Nat → Nat → Value → Value → Option Bool
  | 0, _, _, _ => none
  | d + 1, t, x, y =>
    match T.ty t with
    | none => none
    | some i =>
      match i.desc, x, y with
      | .bool, .bool a, .bool b => some (a == b)
      | .int _, .int k a, .int k' b => if k = k' then some (a == b) else none
      | .string, .string a, .string b => some (a.data.toList == b.data.toList)
      | .pointer _, .pointer none, .pointer b => some b.isNone
      | .pointer _, .pointer (some _), .pointer none => some false
      | .interface _, .nilIface, .nilIface => some true
      | .interface _, .nilIface, .iface _ _ | .interface _, .iface _ _, .nilIface => some false
      | .slice _, .slice none _ _, .slice b _ _ => some b.isNone
      | .slice _, .slice (some _) _ _, .slice none _ _ => some false
      | .map _ _, .map none, .map b => some b.isNone
      | .map _ _, .map (some _), .map none => some false
      | .func _ _ _, .nilFunc, .nilFunc => some true
      | .func _ _ _, .nilFunc, .func _ _ _ | .func _ _ _, .func _ _ _, .nilFunc => some false
      | .struct fields, .agg xs, .agg ys => if i.stood then none else aeqF T (aeq T d) fields.toList xs.toList ys.toList
      | _, _, _ => none

def eqOp (T : Tbl) (t : Nat) (x y : Value) : Option Bool :=
  match x, y with
  | .nilIface, .nilIface => none
  | .agg _, .agg _ => match T.ty t with
    | some i => if i.eqg then none else aeq T 20 t x y
    | none => none
  | _, _ => aeq T 20 t x y

def intOp (op : BinOp) (k : IntKind) (a b : Int) : Option Value :=
  match op with
  | .add => some (.int k (k.wrap (a + b)))
  | .sub => some (.int k (k.wrap (a - b)))
  | .mul => some (.int k (k.wrap (a * b)))
  | .quo => if b = 0 then none else some (.int k (k.wrap (a.tdiv b)))
  | .rem => if b = 0 then none else some (.int k (a.tmod b))
  | .and => some (.int k (k.wrap (BitVec.ofInt k.bits a &&& BitVec.ofInt k.bits b).toNat))
  | .or => some (.int k (k.wrap (BitVec.ofInt k.bits a ||| BitVec.ofInt k.bits b).toNat))
  | .xor => some (.int k (k.wrap (BitVec.ofInt k.bits a ^^^ BitVec.ofInt k.bits b).toNat))
  | .andNot => some (.int k (k.wrap (BitVec.ofInt k.bits a &&& ~~~ (BitVec.ofInt k.bits b)).toNat))
  | .eql => some (.bool (a == b))
  | .neq => some (.bool (a != b))
  | .lss => some (.bool (decide (a < b)))
  | .leq => some (.bool (decide (a ≤ b)))
  | .gtr => some (.bool (decide (a > b)))
  | .geq => some (.bool (decide (a ≥ b)))
  | _ => none
def strEq (a b : ByteArray) : Bool := a.data.toList == b.data.toList
def strOp (op : BinOp) (a b : ByteArray) : Option Value :=
  match op with
  | .add => if a.size + b.size < 9223372036854775808 then some (.string (a ++ b)) else none
  | .eql => some (.bool (strEq a b))
  | .neq => some (.bool (!strEq a b))
  | .lss => some (.bool (Op.bytesLess a.data.toList b.data.toList))
  | .leq => some (.bool (Op.bytesLess a.data.toList b.data.toList || strEq a b))
  | .gtr => some (.bool (!(Op.bytesLess a.data.toList b.data.toList || strEq a b)))
  | .geq => some (.bool (!(Op.bytesLess a.data.toList b.data.toList)))
  | _ => none
def eqAny (T : Tbl) (t : Nat) (isC : Bool) (x y : Value) : Option Bool :=
  match x, y with
  | .nilIface, .nilIface => if isC then aeq T 20 t .nilIface .nilIface else none
  | x, y => eqOp T t x y
def otherOp (T : Tbl) (op : BinOp) (t : Nat) (isC : Bool) (x y : Value) : Option Value :=
  match op with
  | .eql => (eqAny T t isC x y).map fun b => .bool b
  | .neq => (eqAny T t isC x y).map fun b => .bool !b
  | _ => none
def shiftOp (left : Bool) (k : IntKind) (a b : Int) : Option Value :=
  if b < 0 then none else if left then some (.int k (k.wrap (a * 2 ^ (min b.toNat k.bits)))) else some (.int k (a.fdiv (2 ^ (min b.toNat k.bits))))
def intsOp (op : BinOp) (k : IntKind) (a : Int) (k' : IntKind) (b : Int) : Option Value :=
  match op with
  | .shl => shiftOp true k a b
  | .shr => shiftOp false k a b
  | op => if k = k' then intOp op k a b else none
def abin (T : Tbl) (op : BinOp) (t : Nat) (isC : Bool) (x y : Value) : Option Value :=
  match x with
  | .int k a => match y with | .int k' b => intsOp op k a k' b | _ => none
  | .string a => match y with | .string b => strOp op a b | _ => none
  | .float .. => none
  | .complex .. => none
  | x => match y with | .int .. => none | .string _ => none | .float .. => none | .complex .. => none | y => otherOp T op t isC x y

def aun (op : UnOp) (x : Value) : Option Value :=
  match op, x with
  | .neg, .int k n => some (.int k (k.wrap (0 - n)))
  | .xor, .int k n => some (.int k (k.wrap (BitVec.ofInt k.bits (if k.signed then -1 else k.max) ^^^ BitVec.ofInt k.bits n).toNat))
  | .not, .bool b => some (.bool !b)
  | _, _ => none

def byteOf : Value → Option UInt8
  | .int .u8 n => some (UInt8.ofNat n.toNat)
  | _ => none
def bytesOf : List Value → Option (List UInt8)
  | [] => some []
  | v :: vs => match byteOf v, bytesOf vs with
    | some b, some bs => some (b :: bs)
    | _, _ => none

def aconv (T : Tbl) (src dst : Nat) (x : Value) (h : AH) : Option (Value × AH) :=
  match T.ty src, T.ty dst with
  | some si, some di =>
    match si.desc, di.desc, x with
    | _, .int k, .int _ n => some (.int k (k.wrap n), h)
    | .string, .string, .string s => some (.string s, h)
    | .slice e, .string, .slice none _ _ => match T.desc e with | some (.int .u8) => some (.string .empty, h) | _ => none
    | .slice e, .string, .slice (some ⟨b, off, none⟩) len _ => match T.desc e with
      | some (.int .u8) => (loadN h b off len).bind fun c => (bytesOf c).map fun bs => (.string ⟨bs.toArray⟩, h)
      | _ => none
    | .string, .slice e, .string s => match T.desc e with
      | some (.int .u8) => if h.room then some (.slice (some ⟨h.nx, 0, none⟩) s.size s.size, h.new (.cells (s.data.toList.map fun b => .int .u8 b.toNat) 1)) else none
      | _ => none
    | _, _, _ => none
  | _, _ => none

def fillL (place : Nat → Option (Nat × Nat)) : List Value → List (Nat × Value) → Option (List Value)
  | cells, [] => some cells
  | cells, (i, v) :: rest =>
    match place i with
    | none => none
    | some (off, size) => if Nat.beq (vcells v).length size && Nat.ble (off + (vcells v).length) cells.length then fillL place (setAt cells off (vcells v)) rest else none

def structOk (T : Tbl) (fs : List Field) : Bool := fs.all fun f => (T.ty f.type).isSome
def abuild (T : Tbl) (t : Nat) (parts : List (Nat × Value)) : Option Value :=
  match T.ty t with
  | none => none
  | some i =>
    match i.desc with
    | .struct fields => if !structOk T fields.toList then none else (fillL (fun k => (fields[k]?).bind fun f => (T.ty f.type).map fun fi => (f.offset, fi.size)) (vcells i.zero) parts).map fun c => .agg c.toArray
    | .array _ e => (T.ty e).bind fun ei => (fillL (fun k => some (k * ei.size, ei.size)) (vcells i.zero) parts).map fun c => .agg c.toArray
    | _ => none

def zerosL (z : List Value) : Nat → List Value
  | 0 => []
  | n + 1 => z ++ zerosL z n

def abuildSlice (T : Tbl) (t len : Nat) (parts : List (Nat × Value)) (h : AH) : Option (Value × AH) :=
  match T.desc t with
  | some (.slice e) => match T.ty e with
    | some ei =>
      if Nat.ble (len * ei.size) 16777216 && Nat.blt 0 ei.size && Nat.beq (vcells ei.zero).length ei.size && h.room then
        (fillL (fun k => some (k * ei.size, ei.size)) (zerosL (vcells ei.zero) len) parts).map fun c =>
          (.slice (some ⟨h.nx, 0, none⟩) len len, h.new (.cells c ei.size))
      else none
    | none => none
  | _ => none

def amakeSlice (T : Tbl) (t : Nat) (len cap : Value) (h : AH) : Option (Value × AH) :=
  match T.desc t, len, cap with
  | some (.slice e), .int .i64 l, .int .i64 c => match T.ty e with
    | some ei =>
      if decide (0 ≤ l) && decide (l ≤ c) && decide (ei.bytes * c ≤ 1000000000) && decide (c ≤ 1000000000) && Nat.blt 0 ei.size && Nat.beq (vcells ei.zero).length ei.size && h.room then
        some (.slice (some ⟨h.nx, 0, none⟩) l.toNat c.toNat, h.new (.cells (zerosL (vcells ei.zero) c.toNat) ei.size))
      else none
    | none => none
  | _, _, _ => none

def bound (x : Option Value) (d y : Nat) : Option Nat :=
  match x with
  | none => some d
  | some (.int _ i) => if decide (0 ≤ i) && decide (i ≤ y) then some i.toNat else none
  | _ => none

/-- may a slice of elements of so many cells be cut anew? -/
def sliceOk (h : AH) (size : Nat) : Option Addr → Bool
  | none => true
  | some a => match h.get a.block with
    | some (.cells _ sz) => Nat.beq sz size || Nat.beq sz 0
    | _ => false
def aslice (T : Tbl) (t : Nat) (x : Value) (lo hi mx : Option Value) (h : AH) : Option Value :=
  match mx with
  | some _ => none
  | none =>
  match T.desc t, x with
  | some .string, .string s => (bound hi s.size s.size).bind fun h => (bound lo 0 h).map fun l => .string (s.extract l h)
  | some (.slice e), .slice a len cap => (T.ty e).bind fun ei => (bound hi len cap).bind fun hh => (bound lo 0 hh).bind fun l =>
      if !Nat.ble hh cap then none else
      if Nat.beq l 0 then some (.slice a hh cap) else
      if sliceOk h ei.size a then some (.slice (if cap = l then a else a.map (fun a => addOff a (l * ei.size))) (hh - l) (cap - l)) else none
  | some (.array n e), .pointer (some a) => (T.ty e).bind fun ei => (bound hi n n).bind fun h => (bound lo 0 h).map fun l =>
      .slice (some (if n = l then a else addOff a (l * ei.size))) (h - l) (n - l)
  | _, _ => none

def afieldAddr (T : Tbl) (t : Nat) (x : Value) (k : Nat) : Option Value :=
  match T.desc t, x with
  | some (.struct fields), .pointer (some ⟨b, off, none⟩) => (fields[k]?).bind fun f => (T.ty f.type).bind fun fi => if Nat.beq fi.size 0 then none else some (.pointer (some ⟨b, off + f.offset, none⟩))
  | _, _ => none
def afield (T : Tbl) (t : Nat) (x : Value) (k : Nat) : Option Value :=
  match T.desc t, x with
  | some (.struct fields), .agg cs => (fields[k]?).bind fun f => apart T f.type cs.toList f.offset
  | _, _ => none
def aindexAddr (T : Tbl) (t : Nat) (x ix : Value) : Option Value :=
  match T.desc t, x, ix with
  | some (.array n e), .pointer (some ⟨b, off, none⟩), .int _ i => (T.ty e).bind fun ei => if decide (0 ≤ i) && decide (i < n) then some (.pointer (some ⟨b, off + i.toNat * ei.size, none⟩)) else none
  | some (.slice e), .slice (some ⟨b, off, none⟩) len _, .int _ i => (T.ty e).bind fun ei => if decide (0 ≤ i) && decide (i < len) then some (.pointer (some ⟨b, off + i.toNat * ei.size, none⟩)) else none
  | _, _, _ => none
def aindex (T : Tbl) (t : Nat) (x ix : Value) : Option Value :=
  match T.desc t, x, ix with
  | some (.array n e), .agg cs, .int _ i => (T.ty e).bind fun ei => if decide (0 ≤ i) && decide (i < n) then apart T e cs.toList (i.toNat * ei.size) else none
  | some .string, .string s, .int _ i => if 0 ≤ i then (s.data.toList[i.toNat]?).map fun b => .int .u8 b.toNat else none
  | _, _, _ => none

/-- a key that needs no look -/
def plainKey (d : TypeDesc) (v : Value) : Bool :=
  match d, v with
  | .int k, .int k' _ => decide (k' = k)
  | .string, .string _ => true
  | _, _ => false
def keyEq : Value → Value → Option Bool
  | .int k a, .int k' b => if k = k' then some (a == b) else none
  | .string a, .string b => some (a.data.toList == b.data.toList)
  | _, _ => none
def findE (k : Value) : List MapEntry → Nat → Option (Option (Nat × Value))
  | [], _ => some none
  | e :: es, i => match keyEq k e.key with
    | some true => some (some (i, e.val))
    | some false => findE k es (i + 1)
    | none => none

def mapOf (h : AH) : Option Nat → Option (List MapEntry)
  | none => some []
  | some r => match h.get r with | some (.map es _) => some es | _ => none
def alookup (T : Tbl) (t : Nat) (x k : Value) (ok : Bool) (h : AH) : Option Value :=
  match T.desc t, x with
  | some (.map kt e), .map r => (T.ty kt).bind fun ki => (T.ty e).bind fun ei =>
    if plainKey ki.desc k then
      (mapOf h r).bind fun es => match findE k es 0 with
        | some (some (_, v)) => some (if ok then .tuple #[v, .bool true] else v)
        | some none => some (if ok then .tuple #[ei.zero, .bool false] else ei.zero)
        | none => none
    else none
  | _, _ => none

def amapUpdate (T : Tbl) (t : Nat) (x k v : Value) (h : AH) : Option AH :=
  match T.desc t, x with
  | some (.map kt _), .map (some r) => (T.ty kt).bind fun ki =>
    if plainKey ki.desc k && Nat.blt r lim then
      match h.get r with
      | some (.map es clock) => match findE k es 0 with
        | some (some (i, _)) => some (h.set r (.map (es.modify i fun e => { e with key := k, val := v }) clock))
        | some none => some (h.set r (.map (es ++ [{ key := k, val := v, born := clock }]) (clock + 1)))
        | none => none
      | _ => none
    else none
  | _, _ => none

def amapEntry (T : Tbl) (t : Nat) (x k : Value) (h : AH) : Option (Value × AH) :=
  match T.desc t, x with
  | some (.map kt e), .map (some r) => (T.ty kt).bind fun ki => (T.ty e).bind fun ei =>
    if plainKey ki.desc k && Nat.blt r lim then
      match h.get r with
      | some (.map es clock) => match findE k es 0 with
        | some (some (i, v)) => some (.tuple #[v, goInt (((es[i]?).map (·.born)).getD 0)], h.set r (.map (es.modify i fun e => { e with key := k }) clock))
        | some none => some (.tuple #[ei.zero, goInt clock], h.set r (.map (es ++ [{ key := k, val := ei.zero, born := clock }]) (clock + 1)))
        | none => none
      | _ => none
    else none
  | _, _ => none
def aentryStore (x st v : Value) (h : AH) : Option AH :=
  match x, st with
  | .map (some r), .int _ born => match h.get r with
    | some (.map es clock) => if Nat.blt r lim then (es.findIdx? (fun e => (e.born : Int) == born)).map fun i => h.set r (.map (es.modify i fun e => { e with val := v }) clock) else none
    | _ => none
  | _, _ => none

def arange (T : Tbl) (t : Nat) (x : Value) (h : AH) : Option (Value × AH) :=
  match T.desc t, x with
  | some .string, .string s => if h.room then some (.pointer (some ⟨h.nx, 0, none⟩), h.new (.strIter s 0)) else none
  | some (.map _ _), .map none => if h.room then some (.pointer (some ⟨h.nx, 0, none⟩), h.new (.mapIter none 0 [] 0)) else none
  | some (.map _ _), .map (some m) => match h.get m with
    | some (.map _ clock) => if h.room then some (.pointer (some ⟨h.nx, 0, none⟩), h.new (.mapIter (some m) clock [] clock)) else none
    | _ => none
  | _, _ => none

def anext (x : Value) (isStr : Bool) (h : AH) : R :=
  match x with
  | .pointer (some ⟨r, 0, none⟩) =>
    match h.get r, isStr with
    | some (.strIter s pos), true =>
      if pos < s.size then
        if Nat.blt r lim then .v (.tuple #[.bool true, goInt pos, .int .i32 (Utf8.decode s pos).1]) (h.set r (.strIter s (pos + (Utf8.decode s pos).2))) else .fail "next"
      else if Nat.blt r lim then .v (.tuple #[.bool false]) (h.kill r) else .fail "next"
    | some (.mapIter none _ _ _), false => if Nat.blt r lim then .v (.tuple #[.bool false]) (h.kill r) else .fail "next"
    | some (.mapIter (some m) since seen last), false =>
      match h.get m with
      | some (.map es clock) =>
        if !(Nat.beq clock last) || !(Nat.beq clock since) || !(Nat.blt r lim) || !(es.all fun e => Nat.blt e.born clock) then .fail "next: the map has grown" else
        match es.filter fun e => !seen.contains e.born with
        | [] => .v (.tuple #[.bool false]) (h.kill r)
        | l => .many (l.map fun e => (.tuple #[.bool true, e.key, e.val], h.set r (.mapIter (some m) since (seen ++ [e.born]) clock)))
      | _ => .fail "next"
    | _, _ => .fail "next"
  | _ => .fail "next"

def aentry (x : Value) (h : AH) : Option Value :=
  match x with
  | .pointer (some ⟨r, 0, none⟩) => match h.get r with
    | some (.mapIter (some m) _ seen last) => match seen.getLast?, h.get m with
      | some stamp, some (.map es clock) => if Nat.beq clock last then (es.find? (·.born == stamp)).map fun e => .tuple #[e.key, e.val] else none
      | _, _ => none
    | _ => none
  | _ => none

def atypeAssert (T : Tbl) (x : Value) (asserted : Nat) (ok : Bool) : Option Value :=
  match T.ty asserted with
  | none => none
  | some i =>
    match i.desc, x with
    | .interface _, _ => none
    | _, .nilIface => if ok then some (.tuple #[i.zero, .bool false]) else none
    | _, .iface t v => if t = asserted then some (if ok then .tuple #[v, .bool true] else v) else if ok then some (.tuple #[i.zero, .bool false]) else none
    | _, _ => none

def firstN (h : AH) (sz n : Nat) : Value → Option (List Value)
  | .slice (some ⟨b, off, none⟩) len _ => if Nat.ble n len then loadN h b off (n * sz) else none
  | .slice none _ _ => if Nat.beq n 0 then some [] else none
  | .string s => if Nat.beq sz 1 && Nat.ble n s.size then some ((s.data.toList.take n).map fun b => .int .u8 b.toNat) else none
  | _ => none
def lenV : Value → Option Nat
  | .slice _ n _ => some n
  | .string s => some s.size
  | _ => none

/-- append(s, x...): what is there is taken over, the old block is given up where a new one may have come. -/
def aappend (T : Tbl) (argTypes : List Nat) (s x : Value) (h : AH) : Option (Value × AH) :=
  match argTypes with
  | st :: xt :: _ =>
    match T.desc st, T.desc xt, s with
    | some (.slice e), some xd, .slice base sLen sCap =>
      match xd with
      | .int _ => none
      | _ =>
        (T.ty e).bind fun ei => (lenV x).bind fun n =>
        if Nat.beq ei.size 0 || !(Nat.ble ((sLen + n) * (ei.bytes + 1)) 1000000000) || !h.room || !(Nat.beq (vcells ei.zero).length ei.size) then none else
        (firstN h ei.size n x).bind fun new =>
        if Nat.ble (sLen + n) sCap then
          (match base with
           | some a => if n = 0 then some h else storeN h a.block (a.off + sLen * ei.size) new
           | none => some h).map fun h => (.slice base (sLen + n) sCap, h)
        else
          match base with
          | none => some (.slice (some ⟨h.nx, 0, none⟩) (sLen + n) (sLen + n), h.new (.cells new ei.size))
          | some a =>
            match h.get a.block with
            | some (.cells c sz) =>
              if Nat.beq sz ei.size && Nat.blt a.block lim && new.all oneCell then
                (firstN h ei.size sLen s).map fun old => (.slice (some ⟨h.nx, 0, none⟩) (sLen + n) (sLen + n), (h.kill a.block).new (.cells (old ++ new) ei.size))
              else none
            | _ => none
    | _, _, _ => none
  | _ => none

def acopy (T : Tbl) (argTypes : List Nat) (dst src : Value) (h : AH) : Option (Value × AH) :=
  match argTypes with
  | dt :: _ =>
    match T.desc dt, dst with
    | some (.slice e), .slice base dLen _ => (T.ty e).bind fun ei => (lenV src).bind fun sl =>
      let n := Nat.min sl dLen
      (firstN h ei.size n src).bind fun cs =>
      match base with
      | some a => if n = 0 then some (goInt 0, h) else (storeN h a.block a.off cs).map fun h => (goInt n, h)
      | none => some (goInt n, h)
    | _, _ => none
  | _ => none

def alen (T : Tbl) (argTypes : List Nat) (x : Value) (h : AH) : Option Value :=
  match argTypes with
  | t :: _ => match T.desc t, x with
    | some .string, .string s => some (goInt s.size)
    | some (.array n _), _ => some (goInt n)
    | some (.slice _), .slice _ n _ => some (goInt n)
    | some (.map _ _), .map none => some (goInt 0)
    | some (.map _ _), .map (some r) => match h.get r with | some (.map es _) => some (goInt es.length) | _ => none
    | _, _ => none
  | _ => none

def adelete (T : Tbl) (argTypes : List Nat) (x k : Value) (h : AH) : Option AH :=
  match argTypes with
  | t :: _ => match T.desc t, x with
    | some (.map kt _), .map r => (T.ty kt).bind fun ki => if !plainKey ki.desc k then none else
      match r with
      | none => some h
      | some r => match h.get r with
        | some (.map es clock) => if !Nat.blt r lim then none else match findE k es 0 with
          | some (some (i, _)) => some (h.set r (.map (es.eraseIdx i) clock))
          | some none => some (h.set r (.map es clock))
          | none => none
        | _ => none
    | _, _ => none
  | _ => none

def minmax (isMax : Bool) : List Value → Option Value
  | [] => none
  | .int k x :: rest => rest.foldlM (fun a y => match a, y with
    | .int k x, .int _ y => some (.int k (if (if isMax then y > x else y < x) then y else x))
    | _, _ => none) (.int k x)
  | _ => none

def acallF (T : Tbl) (f : Nat) (args : List Value) (h : AH) : R :=
  match T.ext f with
  | some g => .ofOpt "extern" h (g args)
  | none => match T.fn f with
    | some fn => cond fn.body.isSome (.enter f args h) (.fail ("no body " ++ fn.name))
    | none => .fail "no function"
def aviaMeth (T : Tbl) (m : Option (Nat × Bool)) (d : Option TypeDesc) (x : Value) (rest : List Value) (h : AH) : R :=
  match m, d with
  | some (f, true), some (.pointer _) => acallF T f (x :: rest) h
  | some (f, false), some (.pointer e) => (match aload T e x h with | some v => acallF T f (v :: rest) h | none => .fail "method load")
  | some (f, false), some _ => acallF T f (x :: rest) h
  | _, _ => .fail "method"
def ainvoke (T : Tbl) (fn : Fn) (captured args : List Value) (h : AH) : R :=
  match fn with
  | .func f => acallF T f (args ++ captured) h
  | .yield l => .round l args h
  | .method name => (match args with
    | .iface t v :: rest => aviaMeth T (T.meth t name) (T.desc t) v rest h
    | _ => .fail "method")
  | .via t path f ptr => (match args with
    | x :: rest => if path.isEmpty then aviaMeth T (some (f, ptr)) (T.desc t) x rest h else .fail "via path"
    | [] => .fail "via")
  | _ => .fail "invoke"
def acallV (T : Tbl) (f : Value) (args : List Value) (h : AH) : R :=
  match f with
  | .func fn first captured => ainvoke T fn captured.toList (first.toList ++ args) h
  | _ => .fail "call: no function"
def oDelete : Option AH → R
  | some h => .v (.tuple #[]) h
  | none => .fail "delete"
def abuiltin (T : Tbl) (b : Builtin) (ts : List Nat) (args : List Value) (h : AH) : R :=
  match b with
  | .len => (match args with | [x] => .ofOpt "len" h (alen T ts x h) | _ => .fail "len")
  | .append => (match args with | [s, x] => .ofOptH "append" (aappend T ts s x h) | _ => .fail "append")
  | .copy => (match args with | [d, s] => .ofOptH "copy" (acopy T ts d s h) | _ => .fail "copy")
  | .delete => (match args with | [m, k] => oDelete (adelete T ts m k h) | _ => .fail "delete")
  | .min => .ofOpt "min" h (minmax false args)
  | .max => .ofOpt "max" h (minmax true args)
  | .recover => (match args with | [] => .recover h | _ => .fail "recover")
  | _ => .fail "builtin"
def acall (T : Tbl) (ρ : Operand → Value) (c : Call) (h : AH) : R :=
  match c.callee with
  | .value f => acallV T (ρ f) (c.args.toList.map ρ) h
  | .invoke recv name => ainvoke T (.method name) [] (ρ recv :: c.args.toList.map ρ) h
  | .builtin b => abuiltin T b c.argTypes.toList (c.args.toList.map ρ) h

def isConst : Operand → Bool
  | .const _ => true
  | _ => false
def oPick (c a b : Value) (h : AH) : R := match c with | .bool t => .v (if t then a else b) h | _ => .fail "pick"
def oAlloc (T : Tbl) (t : Nat) (h : AH) : R := match T.ty t with | some i => .ofOptH "alloc" (newCells h (vcells i.zero) 0) | none => .fail "alloc"
def oStored : Option AH → R
  | some h => .v undef h
  | none => .fail "store"
def oNil (x : Value) (h : AH) : R :=
  match x with
  | .pointer (some a) => .v (.pointer (some a)) h
  | .func (.func f) a b => .v (.func (.func f) a b) h
  | .iface t v => .v (.iface t v) h
  | .map r => .v (.map r) h
  | _ => .fail "nilCheck"
def oIface (T : Tbl) (t : Nat) (x : Value) (h : AH) : R :=
  match T.desc t with
  | some (.interface _) => .fail "makeInterface"
  | some _ => .v (.iface t x) h
  | none => .fail "makeInterface"
def newMap (h : AH) : R := if h.room then .v (.map (some h.nx)) (h.new (.map [] 0)) else .fail "makeMap"
def oMakeMap (T : Tbl) (t : Nat) (r : Option Value) (h : AH) : R :=
  match r with
  | none => newMap h
  | some x => match T.desc t, x with
    | some (.map _ _), .int _ _ => newMap h
    | _, _ => .fail "makeMap"
def oExtract (x : Value) (i : Nat) (h : AH) : R := match x with | .tuple vs => .ofOpt "extract" h (vs.toList[i]?) | _ => .fail "extract"
def oDefer (f : Value) (args : List Value) (h : AH) : R :=
  match f with
  | .func fn first captured => .defer { target := .fn fn captured, args := (first.toList ++ args).toArray } h
  | _ => .fail "defer"
def oPanic (x : Value) (h : AH) : R := match x with | .iface t v => .panic (.iface t v) h | _ => .fail "panic"
def oFunc (fn : Fn) (a b : Array Value) (h : AH) : R :=
  match fn with
  | .yield _ => .fail "makeFunc"
  | fn => .v (.func fn a b) h
def mapSnd (ρ : Operand → Value) : List (Nat × Operand) → List (Nat × Value)
  | [] => []
  | (i, x) :: l => (i, ρ x) :: mapSnd ρ l

def aop3 (T : Tbl) (ρ : Operand → Value) (op : Op) (h : AH) : R :=
  match op with
  | .mapEntry t m k => .ofOptH "mapEntry" (amapEntry T t (ρ m) (ρ k) h)
  | .entryStore _ m s x => oStored (aentryStore (ρ m) (ρ s) (ρ x) h)
  | .range t x => .ofOptH "range" (arange T t (ρ x) h)
  | .next it s => anext (ρ it) s h
  | .entry it => .ofOpt "entry" h (aentry (ρ it) h)
  | .typeAssert x _ a ok => .ofOpt "typeAssert" h (atypeAssert T (ρ x) a ok)
  | .defer c => (match c.callee with | .value f => oDefer (ρ f) (c.args.toList.map ρ) h | _ => .fail "defer")
  | .panic x => oPanic (ρ x) h
  | .makeMap t r => oMakeMap T t (r.map ρ) h
  | .makeSlice t l c => .ofOptH "makeSlice" (amakeSlice T t (ρ l) (ρ c) h)
  | .insert t m k x => oStored (amapUpdate T t (ρ m) (ρ k) (ρ x) h)
  | .mapUpdate t m k x => oStored (amapUpdate T t (ρ m) (ρ k) (ρ x) h)
  | _ => .fail "op"
def aop2 (T : Tbl) (ρ : Operand → Value) (op : Op) (h : AH) : R :=
  match op with
  | .box _ x => .ofOptH "box" (newCells h (vcells (ρ x)) 0)
  | .build t parts => .ofOpt "build" h (abuild T t (mapSnd ρ parts.toList))
  | .buildSlice t n parts => .ofOptH "buildSlice" (abuildSlice T t n (mapSnd ρ parts.toList) h)
  | .unOp op _ x => .ofOpt "unOp" h (aun op (ρ x))
  | .convert s d x => .ofOptH "convert" (aconv T s d (ρ x) h)
  | .makeInterface t x => oIface T t (ρ x) h
  | .makeFunc fn first captured => oFunc fn (first.map ρ) (captured.map ρ) h
  | .slice t x lo hi mx => .ofOpt "slice" h (aslice T t (ρ x) (lo.map ρ) (hi.map ρ) (mx.map ρ) h)
  | .field t x k => .ofOpt "field" h (afield T t (ρ x) k)
  | .index t x i => .ofOpt "index" h (aindex T t (ρ x) (ρ i))
  | .lookup t x k ok => .ofOpt "lookup" h (alookup T t (ρ x) (ρ k) ok h)
  | op => aop3 T ρ op h
def aopK (T : Tbl) (ρ : Operand → Value) (op : Op) (h : AH) : R :=
  match op with
  | .move x => .v (ρ x) h
  | .assign x => .v (ρ x) h
  | .load t a => .ofOpt "load" h (aload T t (ρ a) h)
  | .store t a x => oStored (astore T t (ρ a) (ρ x) h)
  | .fieldAddr t x k => .ofOpt "fieldAddr" h (afieldAddr T t (ρ x) k)
  | .indexAddr t x i => .ofOpt "indexAddr" h (aindexAddr T t (ρ x) (ρ i))
  | .binOp op t x y _ => .ofOpt "binOp" h (abin T op t (isConst x || isConst y) (ρ x) (ρ y))
  | .pick c a b => oPick (ρ c) (ρ a) (ρ b) h
  | .extract t i => oExtract (ρ t) i h
  | .call c => acall T ρ c h
  | .nilCheck x => oNil (ρ x) h
  | .alloc t => oAlloc T t h
  | op => aop2 T ρ op h
def aop (T : Tbl) (ρ : Operand → Value) (o : Oper) (h : AH) : R := aopK T ρ o.op h

/-! ### Code -/
inductive AExit where
  | normal
  | exit (id : Nat)
  | goto (l : Nat)
  | ret
  | panic (chain : List PanicEntry)

inductive AEnd where
  | returned (v : Value)
  | panicked (chain : List PanicEntry)

/-- What is asked of the machine. -/
inductive Req where
  | code (c : Code) (ts : PT Value) (n : Nat) (df : List Deferred) (rd : Option Nat) (h : AH)
  | call (f : Nat) (args : List Value) (h : AH)
  | dcall (f : Nat) (args : List Value) (u : FrameMode) (h : AH)
  | scode (c : Code) (ts : PT Value) (n : Nat) (u : FrameMode) (h : AH)
  | scope (c body : Code) (ts : PT Value) (n : Nat) (df : List Deferred) (rd : Option Nat) (h : AH)
  | leave (fn : Func) (ts : PT Value) (ds : List Deferred) (u : FrameMode) (h : AH)
  | loopr (b : Code) (ts : PT Value) (n : Nat) (df : List Deferred) (rd : Option Nat) (h : AH)

/-- What it answers: of code an exit, of a call an end. -/
inductive Resp where
  | code (e : AExit) (ts : PT Value) (df : List Deferred) (h : AH)
  | call (e : AEnd) (h : AH)
  | dcall (e : AEnd) (u : FrameMode) (h : AH)
  | scode (e : AExit) (ts : PT Value) (u : FrameMode) (h : AH)

inductive Out where
  | ok (l : List Resp)
  | fail (why : String)

def beqL (eq : Value → Value → Bool) : List Value → List Value → Bool
  | [], [] => true
  | a :: l, b :: k => eq a b && beqL eq l k
  | _, _ => false
def beqV : Nat → Value → Value → Bool
  | 0, _, _ => false
  | d + 1, x, y =>
    match x, y with
    | .bool a, .bool b => a == b
    | .int k a, .int k' b => decide (k = k') && decide (a = b)
    | .string a, .string b => a.data.toList == b.data.toList
    | .pointer a, .pointer b => decide (a = b)
    | .slice a l c, .slice b k e => decide (a = b) && Nat.beq l k && Nat.beq c e
    | .map a, .map b => decide (a = b)
    | .func f a b, .func g c e => decide (f = g) && beqL (beqV d) a.toList c.toList && beqL (beqV d) b.toList e.toList
    | .nilFunc, .nilFunc => true
    | .iface t v, .iface u w => Nat.beq t u && beqV d v w
    | .nilIface, .nilIface => true
    | .agg a, .agg b => beqL (beqV d) a.toList b.toList
    | .tuple a, .tuple b => beqL (beqV d) a.toList b.toList
    | _, _ => false

def beqE (a b : MapEntry) : Bool := beqV 20 a.key b.key && beqV 20 a.val b.val && Nat.beq a.born b.born
def beqEs : List MapEntry → List MapEntry → Bool
  | [], [] => true
  | a :: l, b :: k => beqE a b && beqEs l k
  | _, _ => false
def beqNs : List Nat → List Nat → Bool
  | [], [] => true
  | a :: l, b :: k => Nat.beq a b && beqNs l k
  | _, _ => false
def beqO : AObj → AObj → Bool
  | .cells c s, .cells d t => Nat.beq s t && beqL (beqV 20) c d
  | .map es c, .map fs d => Nat.beq c d && beqEs es fs
  | .mapIter m a s l, .mapIter n b t k => decide (m = n) && Nat.beq a b && beqNs s t && Nat.beq l k
  | .strIter s p, .strIter t q => s.data.toList == t.data.toList && Nat.beq p q
  | .dfr a, .dfr b => a == b
  | _, _ => false
def beqPT : PT AObj → PT AObj → Bool
  | .nil, .nil => true
  | .node a x b, .node c y d => (match x, y with | none, none => true | some x, some y => beqO x y | _, _ => false) && beqPT a c && beqPT b d
  | _, _ => false
def beqR : Resp → Resp → Bool
  | .call (.returned v) h, .call (.returned w) g => beqV 20 v w && Nat.beq h.nx g.nx && beqPT h.t g.t
  | _, _ => false
def dedup : List Resp → List Resp
  | [] => []
  | r :: l => match l with
    | [] => [r]
    | l => if l.any (beqR r) then dedup l else r :: dedup l
def Out.dedup : Out → Out
  | .ok l => .ok (AM.dedup l)
  | .fail w => .fail w

def joinAll {α : Type} (f : α → Out) : List α → Out
  | [] => .ok []
  | x :: l => match f x, joinAll f l with
    | .ok a, .ok b => .ok (a ++ b)
    | .fail w, _ => .fail w
    | _, .fail w => .fail w
def Out.bind (o : Out) (f : Resp → Out) : Out :=
  match o with
  | .fail w => .fail w
  | .ok l => match l with
    | [x] => f x
    | l => joinAll f l

def aeval (ts : PT Value) : Operand → Value
  | .tmp t => tget ts t
  | .const v => v
  | .global g => .pointer (some ⟨g, 0, none⟩)
  | .func f => .func (.func f) #[] #[]

/-- constants bear no addresses -/
def ayield (ops : Array Oper) (ts : PT Value) (j : Nat) : Option Bool :=
  match ((ops[j]?).bind (·.dst)).map (tget ts) with
  | some (.bool b) => some b
  | _ => none

def aput (ts : PT Value) (n : Nat) (d : Option Nat) (v : Value) : Option (PT Value) :=
  match d with
  | none => some ts
  | some d => if Nat.blt d n && Nat.blt n 100000 then some (ts.put 30 d (some v)) else none

/-- a round of a range over a function, out of a yield -/
def aroundEnd (l : Nat) (e : Option Code) (h : AH) : Option (Value × AH) :=
  match h.get l with
  | some (.loop _ _ ts n ps a b d) => if Nat.blt l lim then some (.bool e.isNone, h.set l (.loop (if e.isNone then .ready else .done) e ts n ps a b d)) else none
  | _ => none

def bindParams (n : Nat) : List Tmp → List Value → PT Value → Option (PT Value)
  | [], [], ts => some ts
  | p :: ps, v :: vs, ts => match aput ts n (some p) v with
    | some ts => bindParams n ps vs ts
    | none => none
  | _, _, _ => none

def around (rec : Req → Out) (l : Nat) (args : List Value) (h : AH) : Out :=
  match h.get l with
  | some (.loop .ready pe ts0 n ps assign body d) =>
    match bindParams n ps args ts0 with
    | none => .fail "yield"
    | some ts =>
      (rec (.code assign ts n [] (some l) h)).bind fun r => match r with
        | .code .normal ts [] h =>
          (match h.get l with
           | some (.loop .ready pe2 ts2 n2 ps2 asg2 bd2 d2) =>
             if !Nat.blt l lim then .fail "yield" else
             (rec (.code body ts n [] (some l) (h.set l (.loop .busy pe2 ts2 n2 ps2 asg2 bd2 d2)))).bind fun r => match r with
               | .code .normal _ [] h => (match aroundEnd l none h with | some (v, h) => .ok [.call (.returned v) h] | none => .fail "endRound")
               | .code .ret _ [] h => (match aroundEnd l (some .ret) h with | some (v, h) => .ok [.call (.returned v) h] | none => .fail "endRound")
               | .code (.exit i) _ [] h => (match aroundEnd l (some (.exit i)) h with | some (v, h) => .ok [.call (.returned v) h] | none => .fail "endRound")
               | .code (.goto i) _ [] h => (match aroundEnd l (some (.goto i)) h with | some (v, h) => .ok [.call (.returned v) h] | none => .fail "endRound")
               | _ => .fail "round's body"
           | _ => .fail "yield: record")
        | _ => .fail "round's assign"
  | _ => .fail "yield: no loop"

/-- is an operation asked for? -/
def awanted (ops : Array Oper) (ts : PT Value) (o : Oper) : Bool :=
  match o.guard with
  | none => true
  | some (j, want) => match ayield ops ts j with
    | some b => b == want
    | none => false

abbrev Kont := PT Value → List Deferred → AH → Out
def putK (ts : PT Value) (n : Nat) (d : Option Nat) (v : Value) (k : PT Value → Out) : Out :=
  match d with
  | none => k ts
  | some d => cond (Nat.blt d n) (k (ts.put 30 d (some v))) (.fail "dst")
def callK (k : PT Value → AH → Out) (ts : PT Value) (n : Nat) (d : Option Nat) (df : List Deferred) (r : Resp) : Out :=
  match r with
  | .call (.returned v) h => putK ts n d v fun ts => k ts h
  | .call (.panicked ch) h => .ok [.code (.panic ch) ts df h]
  | _ => .fail "answer"

/-- on behind an operation -/
def opK (rec : Req → Out) (n : Nat) (rd : Option Nat) (o : Oper) (ts : PT Value) (df : List Deferred) (k : Kont) (r : R) : Out :=
  match r with
  | .v x h => putK ts n o.dst x fun ts => k ts df h
  | .enter f args h => (rec (.call f args h)).bind (callK (fun ts h => k ts df h) ts n o.dst df)
  | .fail w => .fail (w ++ " " ++ o.pos)
  | .many xs => joinAll (fun (p : Value × AH) => putK ts n o.dst p.1 fun ts => k ts df p.2) xs
  | .round l args h => (around rec l args h).bind (callK (fun ts h => k ts df h) ts n o.dst df)
  | .defer d h => if rd.isSome then .fail "defer in a round" else putK ts n o.dst undef fun ts => k ts (d :: df) h
  | .panic x h => .ok [.code (.panic [{ v := x, recovered := false }]) ts df h]
  | .recover _ => .fail "recover"

/-- the operations of a region, in order -/
def aops (T : Tbl) (rec : Req → Out) (ops : Array Oper) (n : Nat) (rd : Option Nat) : List Oper → Kont
  | [] => fun ts df h => .ok [.code .normal ts df h]
  | o :: rest => fun ts df h =>
    cond (awanted ops ts o) (opK rec n rd o ts df (aops T rec ops n rd rest) (aop T (aeval ts) o h)) (putK ts n o.dst undef fun ts => aops T rec ops n rd rest ts df h)

/-- the operations of a region in a deferred function, that may ask recover -/
def arecover : FrameMode → Value × FrameMode
  | .panicking ({ v, recovered := false, goexit := false } :: older) => (v, .panicking ({ v, recovered := true } :: older))
  | u => (.nilIface, u)

def sopK (rec : Req → Out) (n : Nat) (o : Oper) (ts : PT Value) (u : FrameMode) (k : PT Value → FrameMode → AH → Out) (r : R) : Out :=
  match r with
  | .v x h => putK ts n o.dst x fun ts => k ts u h
  | .panic x h => .ok [.scode (.panic [{ v := x, recovered := false }]) ts u h]
  | .recover h => putK ts n o.dst (arecover u).1 fun ts => k ts (arecover u).2 h
  | .fail w => .fail (w ++ " " ++ o.pos)
  | _ => .fail "sops"
def sops (T : Tbl) (rec : Req → Out) (ops : Array Oper) (n : Nat) : List Oper → PT Value → FrameMode → AH → Out
  | [] => fun ts u h => .ok [.scode .normal ts u h]
  | o :: rest => fun ts u h =>
    cond (awanted ops ts o) (sopK rec n o ts u (sops T rec ops n rest) (aop T (aeval ts) o h)) (putK ts n o.dst undef fun ts => sops T rec ops n rest ts u h)

/-- constants that bear no addresses; no package variable is named -/
def plain1 : Value → Bool
  | .bool _ => true
  | .int .. => true
  | .float .. => true
  | .string _ => true
  | .pointer none => true
  | .slice none 0 0 => true
  | .map none => true
  | .nilFunc => true
  | .nilIface => true
  | _ => false
def plainV : Value → Bool
  | .agg cs => cs.toList.all plain1
  | .tuple cs => cs.toList.all plain1
  | v => plain1 v
def operandOk : Operand → Bool
  | .tmp _ => true
  | .const v => plainV v
  | .func _ => true
  | .global _ => false
def operOk (o : Oper) : Bool := o.op.operands.toList.all operandOk
def codeOk : Code → Bool
  | .region _ ops _ => ops.toList.all operOk
  | .seq a b => codeOk a && codeOk b
  | .cond c a b => operandOk c && codeOk a && codeOk b
  | .block _ c => codeOk c
  | .loop c => codeOk c
  | .scope c => codeOk c
  | .rangeFunc f _ a b => operandOk f && codeOk a && codeOk b
  | .refuse _ => false
  | _ => true

/-- does a code bear a call of recover? -/
def hasRecover : Code → Bool
  | .region _ ops _ => ops.toList.any fun o => match o.op with | .call { callee := .builtin .recover, .. } => true | _ => false
  | .seq a b | .cond _ a b => hasRecover a || hasRecover b
  | .block _ c | .loop c | .scope c => hasRecover c
  | .rangeFunc _ _ a b => hasRecover a || hasRecover b
  | _ => false

/-- an operation that leaves memory alone -/
def lightOp (T : Tbl) : Op → Bool
  | .move _ | .assign _ | .pick .. | .build .. | .load .. | .nilCheck _ | .binOp .. | .unOp .. | .makeInterface .. | .makeFunc .. | .slice .. | .fieldAddr .. | .field .. | .indexAddr .. | .index .. | .lookup .. | .typeAssert .. | .extract .. => true
  | .convert a b _ => match T.desc a, T.desc b with | some (.int _), some (.int _) | some .string, some .string | some (.slice _), some .string => true | _, _ => false
  | .call { callee := .builtin b, .. } => match b with | .len | .min | .max => true | _ => false
  | _ => false

/-- .. of these: one that looks into memory -/
def looksOp (T : Tbl) : Op → Bool
  | .load .. | .slice .. | .lookup .. => true
  | .convert a b _ => match T.desc a, T.desc b with | some (.slice _), some .string => true | _, _ => false
  | .call { callee := .builtin b, .. } => match b with | .len => true | _ => false
  | _ => false

/-- which operations must have come ahead of each: a bit for each -/
def masks : List Oper → List Nat → List Nat
  | [], acc => acc
  | o :: r, acc => masks r (acc ++ [o.after.toList.foldl (fun s e => cond (Region.binds .any e) (Nat.lor s (Nat.lor (2 ^ e.on) (acc.getD e.on 0))) s) 0])
def bit (m j : Nat) : Bool := Nat.beq (Nat.land (Nat.shiftRight m j) 1) 1

/-- an operation that only makes a block of its own -/
def floatOp : Op → Bool
  | .alloc _ | .box .. | .makeMap .. | .makeSlice .. | .buildSlice .. => true
  | _ => false
def heavyOp (T : Tbl) (o : Op) : Bool := !lightOp T o && !floatOp o

def nodupB : List Nat → Bool
  | [] => true
  | x :: l => !l.contains x && nodupB l

def heavies (T : Tbl) (ops : Array Oper) : List Nat := (ops.toList.zipIdx.filter fun p => heavyOp T p.1.op).map (·.2)

/-- what a region that draws must be like, by its text -/
def drawShape (ops : Array Oper) (n : Nat) (ms hv : List Nat) : Bool :=
  let idx := ops.toList.zipIdx
  Nat.blt n 100000 &&
  (idx.all fun p => p.1.after.toList.all fun e => !Region.binds .any e || Nat.blt e.on p.2) &&
  nodupB (ops.toList.filterMap (·.dst)) &&
  (ops.toList.all fun o => match o.dst with | none => true | some d => Nat.blt d n) &&
  (idx.all fun p => (match p.1.guard with | none => true | some (j, _) => bit (ms.getD p.2 0) j) &&
    idx.all fun q => Nat.beq p.2 q.2 || (match q.1.dst with
      | none => true
      | some d => !(p.1.looksAt ops).contains d || bit (ms.getD p.2 0) q.2 || bit (ms.getD q.2 0) p.2)) &&
  (hv.zip (hv.drop 1)).all fun p => bit (ms.getD p.2 0) p.1

/-- what was found out of an operation -/
abbrev Rec := Nat × Value
abbrev Flt := Nat × Nat × AObj

def envOf (ops : Array Oper) (ms : List Nat) (i : Nat) (ts0 : PT Value) : List Rec → PT Value
  | [] => ts0
  | (q, v) :: r => cond (bit (ms.getD i 0) q) (match (ops[q]?).bind (·.dst) with | some d => (envOf ops ms i ts0 r).put 30 d (some v) | none => envOf ops ms i ts0 r) (envOf ops ms i ts0 r)
def endOf (ops : Array Oper) (ts0 : PT Value) : List Rec → PT Value
  | [] => ts0
  | (q, v) :: r => match (ops[q]?).bind (·.dst) with | some d => (endOf ops ts0 r).put 30 d (some v) | none => endOf ops ts0 r
/-- the blocks that operation i may look into, among those that no heavy operation has taken over at stage s -/
def withF (ms hv : List Nat) (i s : Nat) (h : AH) : List Flt → AH
  | [] => h
  | (f, id, o) :: r => cond (bit (ms.getD i 0) f && (hv.take s).all fun a => !bit (ms.getD a 0) f) ((withF ms hv i s h r).set id o) (withF ms hv i s h r)
def allF (ms hv : List Nat) (s : Nat) (h : AH) : List Flt → AH
  | [] => h
  | (f, id, o) :: r => cond ((hv.take s).all fun a => !bit (ms.getD a 0) f) ((allF ms hv s h r).set id o) (allF ms hv s h r)

def stageLo (ms hv : List Nat) (i : Nat) : Nat := (hv.filter fun a => bit (ms.getD i 0) a).length
def stageHi (ms hv : List Nat) (i : Nat) : Nat := (hv.takeWhile fun a => !bit (ms.getD a 0) i).length

/-- What is planned of a region: what each operation yields; the floats; the next name; which operations are planned. -/
structure Plan where
  rs : List Rec
  fl : List Flt
  nx : Nat
  dn : Nat

/-- an operation that is not planned yet, while all that must come ahead of it is -/
def fits (ms : List Nat) (dn i : Nat) : Bool := Nat.beq (Nat.land (ms.getD i 0) dn) (ms.getD i 0) && !bit dn i
def Plan.add (p : Plan) (i : Nat) (x : Value) (fl : List Flt) (nx : Nat) : Plan := ⟨(i, x) :: p.rs, fl, nx, Nat.lor p.dn (2 ^ i)⟩

def planOne (T : Tbl) (ops : Array Oper) (ms hv : List Nat) (ts0 : PT Value) (s : Nat) (h : AH) (i : Nat) (p : Plan) : Option Plan :=
  match ops[i]? with
  | none => none
  | some o =>
    cond (fits ms p.dn i) (
    if awanted ops (envOf ops ms i ts0 p.rs) o then
      if lightOp T o.op then
        match aop T (aeval (envOf ops ms i ts0 p.rs)) o (withF ms hv i s ⟨h.t, p.nx⟩ p.fl) with
        | .v x _ => some (p.add i x p.fl p.nx)
        | _ => none
      else
        cond (Nat.blt p.nx lim) (
        match aop T (aeval (envOf ops ms i ts0 p.rs)) o ⟨.nil, p.nx⟩ with
        | .v x h' => (match h'.get p.nx with
          | some ob => some (p.add i x ((i, p.nx, ob) :: p.fl) (p.nx + 1))
          | none => none)
        | _ => none) none
    else some (p.add i undef p.fl p.nx)) none
def planL (T : Tbl) (ops : Array Oper) (ms hv : List Nat) (ts0 : PT Value) (s : Nat) (h : AH) : List Nat → Plan → Option Plan
  | [], p => some p
  | i :: l, p => match planOne T ops ms hv ts0 s h i p with
    | some p => planL T ops ms hv ts0 s h l p
    | none => none
/-- an operation that was planned at an earlier stage and may come at this one yields the same -/
def sameAt (T : Tbl) (ops : Array Oper) (ms hv : List Nat) (ts0 : PT Value) (s : Nat) (h : AH) (p : Plan) (r : Rec) : Bool :=
  match ops[r.1]? with
  | none => false
  | some o =>
    !(looksOp T o.op && Nat.blt (stageLo ms hv r.1) s && Nat.ble s (stageHi ms hv r.1) && awanted ops (envOf ops ms r.1 ts0 p.rs) o) ||
      (match aop T (aeval (envOf ops ms r.1 ts0 p.rs)) o (withF ms hv r.1 s ⟨h.t, p.nx⟩ p.fl) with | .v x _ => beqV 20 x r.2 | _ => false)
/-- the lights and floats of a stage -/
def early (n : Nat) (ms hv : List Nat) (s : Nat) : List Nat := (List.range n).filter fun i => !hv.contains i && Nat.beq (stageLo ms hv i) s
def stagePlan (T : Tbl) (ops : Array Oper) (ms hv : List Nat) (ts0 : PT Value) (s : Nat) (h : AH) (p : Plan) : Option Plan :=
  match planL T ops ms hv ts0 s h (early ops.size ms hv s) p with
  | some q => if p.rs.all (sameAt T ops ms hv ts0 s h q) then some q else none
  | none => none

/-- behind a heavy operation that was a call -/
def heavyK (k : Plan → AH → Out) (p : Plan) (i : Nat) (r : Resp) : Out :=
  match r with
  | .call (.returned v) h => k (p.add i v p.fl h.nx) h
  | _ => .fail "draw: panic"
/-- a heavy operation, and on -/
def heavyOn (T : Tbl) (rec : Req → Out) (ops : Array Oper) (ms hv : List Nat) (ts0 : PT Value) (k : Plan → AH → Out) (s i : Nat) (o : Oper) (p : Plan) (h : AH) : Out :=
  if awanted ops (envOf ops ms i ts0 p.rs) o then
    (match aop T (aeval (envOf ops ms i ts0 p.rs)) o (withF ms hv i s ⟨h.t, p.nx⟩ p.fl) with
    | .v x h' => k (p.add i x p.fl h'.nx) h'
    | .enter f args h1 => (rec (.call f args h1)).bind (heavyK k p i)
    | .round l args h1 => (around rec l args h1).bind (heavyK k p i)
    | .fail w => .fail (w ++ " drawn " ++ o.pos)
    | _ => .fail ("draw " ++ o.pos))
  else k (p.add i undef p.fl p.nx) (withF ms hv i s ⟨h.t, p.nx⟩ p.fl)
/-- s: how many heavy operations have come -/
def adraw (T : Tbl) (rec : Req → Out) (ops : Array Oper) (ms hv : List Nat) (ts0 : PT Value) (df : List Deferred) : List Nat → Nat → Plan → AH → Out
  | [], s, p, h =>
    (match stagePlan T ops ms hv ts0 s h p with
    | none => .fail ("draw: plan " ++ (ops.toList.map (·.pos)).headD "")
    | some p => .ok [.code .normal (endOf ops ts0 p.rs) df (allF ms hv s ⟨h.t, p.nx⟩ p.fl)])
  | i :: rest, s, p, h =>
    (match stagePlan T ops ms hv ts0 s h p with
    | none => .fail ("draw: plan " ++ (ops.toList.map (·.pos)).headD "")
    | some p =>
      match ops[i]? with
      | none => .fail "op"
      | some o => cond (fits ms p.dn i) (heavyOn T rec ops ms hv ts0 (adraw T rec ops ms hv ts0 df rest (s + 1)) s i o p h) (.fail "draw: order"))

def adrawAll (T : Tbl) (rec : Req → Out) (ops : Array Oper) (n : Nat) (ts : PT Value) (df : List Deferred) (h : AH) : Out :=
  let ms := masks ops.toList []
  let hv := heavies T ops
  if drawShape ops n ms hv then adraw T rec ops ms hv ts df hv 0 ⟨[], [], h.nx, 0⟩ h
  else .fail ("draw: shape " ++ (ops.toList.map (·.pos)).headD "")

def aresults (T : Tbl) (fn : Func) (ts : PT Value) (h : AH) : Option Value :=
  let rec go : List ResultVar → Option (List Value)
    | [] => some []
    | .tmp t :: r => (go r).map fun l => tget ts t :: l
    | .cell a t :: r => match aload T t (tget ts a) h, go r with
      | some v, some l => some (v :: l)
      | _, _ => none
  (go fn.results.toList).map fun l => match l with
    | [v] => v
    | l => .tuple l.toArray

def initTs (args : List Value) : PT Value := PT.ofList 0 args .nil

def asettle : FrameMode → FrameMode := settle

def seqK (rec : Req → Out) (b : Code) (n : Nat) (rd : Option Nat) (r : Resp) : Out :=
  match r with
  | .code .normal ts df h => rec (.code b ts n df rd h)
  | r => .ok [r]
def loopK (rec : Req → Out) (b : Code) (n : Nat) (rd : Option Nat) (r : Resp) : Out :=
  match r with
  | .code .normal ts df h => rec (.loopr b ts n df rd h)
  | r => .ok [r]
def blockK (i : Nat) (r : Resp) : Out :=
  match r with
  | .code (.exit j) ts df h => cond (Nat.beq j i) (.ok [.code .normal ts df h]) (.ok [.code (.exit j) ts df h])
  | r => .ok [r]
def condK (rec : Req → Out) (v : Value) (a b : Code) (ts : PT Value) (n : Nat) (df : List Deferred) (rd : Option Nat) (h : AH) : Out :=
  match v with
  | .bool t => rec (.code (cond t a b) ts n df rd h)
  | _ => .fail "cond"
def scopeK (rec : Req → Out) (body : Code) (n : Nat) (rd : Option Nat) (r : Resp) : Out :=
  match r with
  | .code (.goto l) ts df h => (match findLabel body l with
    | some rest => rec (.scope rest body ts n df rd h)
    | none => .ok [.code (.goto l) ts df h])
  | r => .ok [r]
def endK (rec : Req → Out) (l : Nat) (ts : PT Value) (n : Nat) (df : List Deferred) (rd : Option Nat) (h : AH) : Out :=
  match h.get l with
  | some (.loop st pe _ _ _ _ _ _) =>
    if (match st with | .busy => true | _ => false) || !Nat.blt l lim then .fail "endLoop" else
    (match pe with
     | none => .ok [.code .normal ts df (h.kill l)]
     | some c => rec (.code c ts n df rd (h.kill l)))
  | _ => .fail "endLoop"
def rangeK (rec : Req → Out) (l : Nat) (ts : PT Value) (n : Nat) (df : List Deferred) (rd : Option Nat) (r : Resp) : Out :=
  match r with
  | .call (.panicked ch) h => .ok [.code (.panic ch) ts df h]
  | .call (.returned _) h => endK rec l ts n df rd h
  | _ => .fail "rangeFunc"
def hasBody (T : Tbl) (f : Nat) : Bool :=
  match T.fn f with
  | some fn => fn.body.isSome
  | none => false
def range1 (T : Tbl) (rec : Req → Out) (g : Value) (ps : Array Tmp) (assign body : Code) (ts : PT Value) (n : Nat) (df : List Deferred) (rd : Option Nat) (d : Nat) (h : AH) : Out :=
  match g with
  | .func (.func f) first captured =>
    cond (!hasBody T f) (.fail "rangeFunc: no body") <|
    (rec (.call f (first.toList ++ .func (.yield h.nx) #[] #[] :: captured.toList) (h.new (.loop .ready none ts n ps.toList assign body d)))).bind (rangeK rec h.nx ts n df rd)
  | _ => .fail "rangeFunc: value"
def range0 (T : Tbl) (rec : Req → Out) (g : Value) (ps : Array Tmp) (assign body : Code) (ts : PT Value) (n : Nat) (df : List Deferred) (rd : Option Nat) (h : AH) : Out :=
  match rd with
  | none => cond (Nat.blt (h.nx + 1) lim) (range1 T rec g ps assign body ts n ({ target := .collected h.nx, args := #[] } :: df) none h.nx (h.new (.dfr true))) (.fail "room")
  | some l0 => match h.get l0 with
    | some (.loop _ _ _ _ _ _ _ d) => cond h.room (range1 T rec g ps assign body ts n df rd d h) (.fail "room")
    | _ => .fail "rangeFunc: around"
def stepCode (T : Tbl) (rec : Req → Out) (c : Code) (ts : PT Value) (n : Nat) (df : List Deferred) (rd : Option Nat) (h : AH) : Out :=
  match c with
  | .skip => .ok [.code .normal ts df h]
  | .label _ => .ok [.code .normal ts df h]
  | .ret => .ok [.code .ret ts df h]
  | .exit i => .ok [.code (.exit i) ts df h]
  | .goto l => .ok [.code (.goto l) ts df h]
  | .region _ ops draw => cond draw (adrawAll T rec ops n ts df h) (aops T rec ops n rd ops.toList ts df h)
  | .seq a b => (rec (.code a ts n df rd h)).bind (seqK rec b n rd)
  | .cond o a b => condK rec (aeval ts o) a b ts n df rd h
  | .block i b => (rec (.code b ts n df rd h)).bind (blockK i)
  | .loop b => rec (.loopr b ts n df rd h)
  | .scope b => rec (.scope b b ts n df rd h)
  | .rangeFunc g ps assign body => range0 T rec (aeval ts g) ps assign body ts n df rd h
  | .refuse w => .fail ("refused " ++ w)

def bodyK (rec : Req → Out) (fn : Func) (r : Resp) : Out :=
  match r with
  | .code .normal ts df h => rec (.leave fn ts df .returning h)
  | .code .ret ts df h => rec (.leave fn ts df .returning h)
  | .code (.panic ch) ts df h => rec (.leave fn ts df (.panicking ch) h)
  | _ => .fail "body"
def withBody (T : Tbl) (f : Nat) (args : List Value) (k : Func → Code → Out) : Out :=
  match T.fn f with
  | some fn => (match fn.body with
    | some c => cond (codeOk c && Nat.ble args.length fn.ntmps && Nat.blt fn.ntmps 100000) (k fn c) (.fail ("args or names " ++ fn.name))
    | none => .fail ("no body " ++ fn.name))
  | none => .fail ("no function " ++ toString f)
def stepCall (T : Tbl) (rec : Req → Out) (f : Nat) (args : List Value) (h : AH) : Out :=
  withBody T f args fun fn c => ((rec (.code c (initTs args) fn.ntmps [] none h)).bind (bodyK rec fn)).dedup
def leaveK (rec : Req → Out) (fn : Func) (ts : PT Value) (ds : List Deferred) (r : Resp) : Out :=
  match r with
  | .dcall (.returned _) u h => rec (.leave fn ts ds (settle u) h)
  | .dcall (.panicked ch) u h => rec (.leave fn ts ds (raised u ch) h)
  | _ => .fail "leave"
def leave0 (T : Tbl) (fn : Func) (ts : PT Value) (u : FrameMode) (h : AH) : Out :=
  match u with
  | .returning => (match aresults T fn ts h with | some v => .ok [.call (.returned v) h] | none => .fail "results")
  | .panicking ch => .ok [.call (.panicked ch) h]
  | .run => .fail "leave"
def leave1 (T : Tbl) (rec : Req → Out) (fn : Func) (ts : PT Value) (d : Deferred) (ds : List Deferred) (u : FrameMode) (h : AH) : Out :=
  match d.target with
  | .collected r => (match h.get r with
    | some (.dfr true) => cond (Nat.blt r lim) (rec (.leave fn ts ds u (h.kill r))) (.fail "collected")
    | _ => .fail "collected")
  | .fn (.func f) captured => cond (!hasBody T f) (.fail "leave: no body") <| (rec (.dcall f (d.args.toList ++ captured.toList) u h)).bind (leaveK rec fn ts ds)
  | _ => .fail "leave: target"
def stepLeave (T : Tbl) (rec : Req → Out) (fn : Func) (ts : PT Value) (ds : List Deferred) (u : FrameMode) (h : AH) : Out :=
  match ds with
  | [] => leave0 T fn ts u h
  | d :: ds => match u with
    | .run => .fail "leave"
    | u => leave1 T rec fn ts d ds u h
def dresK (T : Tbl) (fn : Func) (r : Resp) : Out :=
  match r with
  | .scode .normal ts u h => (match aresults T fn ts h with | some v => .ok [.dcall (.returned v) u h] | none => .fail "results")
  | .scode .ret ts u h => (match aresults T fn ts h with | some v => .ok [.dcall (.returned v) u h] | none => .fail "results")
  | .scode (.panic ch) _ u h => .ok [.dcall (.panicked ch) u h]
  | _ => .fail "dcall"
def stepDcall (T : Tbl) (rec : Req → Out) (f : Nat) (args : List Value) (u : FrameMode) (h : AH) : Out :=
  withBody T f args fun fn c => (rec (.scode c (initTs args) fn.ntmps u h)).bind (dresK T fn)
def scodeK (u : FrameMode) (r : Resp) : Out :=
  match r with
  | .code e ts [] h => .ok [.scode e ts u h]
  | _ => .fail "scode"
def sseqK (rec : Req → Out) (b : Code) (n : Nat) (r : Resp) : Out :=
  match r with
  | .scode .normal ts u h => rec (.scode b ts n u h)
  | r => .ok [r]
def scondK (rec : Req → Out) (v : Value) (a b : Code) (ts : PT Value) (n : Nat) (u : FrameMode) (h : AH) : Out :=
  match v with
  | .bool t => rec (.scode (cond t a b) ts n u h)
  | _ => .fail "cond"
def stepScode (T : Tbl) (rec : Req → Out) (c : Code) (ts : PT Value) (n : Nat) (u : FrameMode) (h : AH) : Out :=
  cond (hasRecover c)
    (match c with
     | .seq a b => (rec (.scode a ts n u h)).bind (sseqK rec b n)
     | .cond o a b => scondK rec (aeval ts o) a b ts n u h
     | .region _ ops false => sops T rec ops n ops.toList ts u h
     | _ => .fail "scode")
    ((rec (.code c ts n [] none h)).bind (scodeK u))
def astep (T : Tbl) (rec : Req → Out) (r : Req) : Out :=
  match r with
  | .code c ts n df rd h => stepCode T rec c ts n df rd h
  | .scope c body ts n df rd h => (rec (.code c ts n df rd h)).bind (scopeK rec body n rd)
  | .loopr b ts n df rd h => (rec (.code b ts n df rd h)).bind (loopK rec b n rd)
  | .call f args h => stepCall T rec f args h
  | .leave fn ts ds u h => stepLeave T rec fn ts ds u h
  | .dcall f args u h => stepDcall T rec f args u h
  | .scode c ts n u h => stepScode T rec c ts n u h

def arun (T : Tbl) (k : Nat) : Req → Out := Nat.rec (fun _ => .fail "fuel") (fun _ ih => astep T ih) k

end
end Go.AM
