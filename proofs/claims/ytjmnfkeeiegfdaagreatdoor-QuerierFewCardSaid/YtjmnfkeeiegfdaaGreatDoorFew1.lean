/-
  QuerierFew: what a query is; calls that leave it alone. Own work.
-/
import Derived.Test.YtjmnfkeeiegfdaaGreatDoorFew0
import Derived.Test.YtjmnfkeeiegfdaaGreatDoorAm7
namespace Go.AM
def isR : Out → Bool
  | .ok [.call (.returned _) _] => true
  | _ => false
def resV : Out → Value
  | .ok [.call (.returned v) _] => v
  | _ => .nilIface
def resCH : Out → AH
  | .ok [.call (.returned _) h] => h
  | _ => ⟨.nil, 0⟩
theorem isR_eq : ∀ {o : Out}, isR o = true → o = .ok [.call (.returned (resV o)) (resCH o)]
  | .ok [.call (.returned _) _], _ => rfl
theorem HCall.pureL {P : Program} {T : Tbl} (ok : TOk T P) {k f : Nat} {args : List Value} (l : List (Nat × AObj)) {nx : Nat} {v : Value}
    (e : (isR (arun T k (.call f args (mkH l nx))), resV (arun T k (.call f args (mkH l nx))), l.map fun p => (resCH (arun T k (.call f args (mkH l nx)))).get p.1) = (true, v, l.map fun p => some p.2))
    (hp : plainV v = true) (e4 : (l.all fun p => Nat.blt p.1 lim) = true) : HCall P f args (mkH l nx) fun e' h' => e' = .returned v ∧ h' = mkH l nx := by
  simp only [Prod.mk.injEq] at e
  obtain ⟨e0, e1, e2⟩ := e
  refine HCall.gc (HCall.run ok (isR_eq e0)) fun e' h' hm => ?_
  rw [List.mem_singleton] at hm
  cases hm
  refine ⟨mkH l nx, v, ⟨rfl, rfl⟩, by rw [e1], rfl, fun i o e => ?_, fun m hk => ⟨fun i o e => (hk.1 i o e).1, v, VR.of_plain m hp⟩⟩
  have hm := mkH_get (fun p hp => by have := List.all_eq_true.1 e4 p hp; rwa [Nat.blt_eq] at this) e
  exact ⟨get_of_map e2 _ hm, o, e⟩
end Go.AM
namespace Go.Proofs.YtjmnfkeeiegfdaaGreatDoor
open Go Go.AM

noncomputable def c3 : Code := (Tryz.f3.body).getD .skip
theorem b3 : Tryz.f3.body = some c3 := by kernel_rfl

/-! ### The query -/
def esOf (n : Nat) (c : Nat → Nat) : List MapEntry := (List.range n).map fun j => { key := .int .i64 (j : Nat), val := .int .i64 (c j : Nat), born := j }
def saidOf (n : Nat) (c : Nat → Nat) : List Value := (List.range n).map fun j => .bool (decide (0 < c j))
def qCells (must : Int) (rd : Bool) : List Value := [.slice (some ⟨5005, 0, none⟩) 1 1, .int .i64 60, .int .i64 60, .int .i64 0, .map (some 5002), .int .i64 must, .bool rd, .int .u64 0, .int .i64 0, .slice none 0 0, .map (some 5003), .slice none 0 0, .func (.func (cond rd 18 14)) #[.pointer (some ⟨5001, 0, none⟩)] #[]]
def leafO : AObj := .cells [.int .i64 1, .string ⟨#[95, 95, 110, 97, 109, 101, 95, 95]⟩, .string ⟨#[120]⟩] 3
def treeO (leaf : Nat) : AObj := .cells [.int .i64 2, .int .i64 0, .string ⟨#[]⟩, .slice (some ⟨leaf, 0, none⟩) 1 1, .int .i64 0, .int .i64 0, .int .i64 0, .slice none 0 0, .bool false, .int .i64 0] 10
def objsA (must : Int) (rd : Bool) : List (Nat × AObj) := [(5001, .cells (qCells must rd) 0), (5003, .map [] 0), (5004, leafO), (5005, treeO 5004)]
def objsL (n : Nat) (must : Int) (rd : Bool) (c : Nat → Nat) : List (Nat × AObj) := [(5001, .cells (qCells must rd) 0), (5002, .map (esOf n c) n), (5003, .map [] 0), (5004, leafO), (5005, treeO 5004), (5006, .cells (saidOf n c) 1)]
def qP : Value := .pointer (some ⟨5001, 0, none⟩)
def nilS : Value := .slice none 0 0
def errI (e : Int) : Value := .int .i64 e

theorem answer_unread (must : Int) : HCall Tryz.prog 8 [qP] (mkH (objsA must false) 5010) fun e' h' => e' = .returned (.tuple #[nilS, .int .i64 0, errI 273]) ∧ h' = mkH (objsA must false) 5010 :=
  HCall.pureL (k := 100000) okT (objsA must false) (by kernel_rfl) rfl rfl
theorem answer_read (must : Int) : HCall Tryz.prog 8 [qP] (mkH (objsA must true) 5010) fun e' h' => e' = .returned (.tuple #[nilS, .int .i64 0, errI 0]) ∧ h' = mkH (objsA must true) 5010 :=
  HCall.pureL (k := 100000) okT (objsA must true) (by kernel_rfl) rfl rfl

theorem merge_nil : HCall Tryz.prog 15 [.slice (some ⟨5010, 0, none⟩) 2 2] (mkH [(5010, .cells [nilS, nilS] 1)] 5011) fun e' h' => e' = .returned (.tuple #[nilS, errI 0]) ∧ h' = mkH [(5010, .cells [nilS, nilS] 1)] 5011 :=
  HCall.pureL (k := 100000) okT [(5010, .cells [nilS, nilS] 1)] (by kernel_rfl) rfl rfl
def ix0 : Value := .agg #[.int .u64 0, .int .i64 0, nilS]
theorem check_ix : HCall Tryz.prog 16 [ix0] (mkH [] 5011) fun e' h' => e' = .returned (errI 0) ∧ h' = mkH [] 5011 :=
  HCall.pureL (k := 100000) okT [] (by kernel_rfl) rfl rfl
theorem copy_ix : HCall Tryz.prog 17 [ix0] (mkH [] 5012) fun e' h' => e' = .returned ix0 ∧ h' = mkH [] 5012 :=
  HCall.pureL (k := 100000) okT [] (by kernel_rfl) rfl rfl

def lowI (x : Int) : Int := IntKind.i64.wrap (BitVec.ofInt 64 x &&& BitVec.ofInt 64 9223372036854775807).toNat
theorem low_run (x : Int) (h : AH) : arun T 100 (.call 4 [.int .i64 x] h) = .ok [.call (.returned (.int .i64 (lowI x))) h] := by kernel_rfl
theorem low (x : Int) (h : AH) : HCall Tryz.prog 4 [.int .i64 x] h fun e' h' => e' = .returned (.int .i64 (lowI x)) ∧ h' = h :=
  HCall.mono (HCall.run okT (low_run x h)) fun e' h' hm => by
    rw [List.mem_singleton] at hm
    cases hm
    exact ⟨rfl, rfl⟩
theorem lowI_bounds (x : Int) : 0 ≤ lowI x ∧ lowI x < 9223372036854775808 := by
  unfold lowI
  have h1 : (BitVec.ofInt 64 x &&& BitVec.ofInt 64 9223372036854775807).toNat ≤ 9223372036854775807 := by
    rw [BitVec.toNat_and]
    have h2 : (BitVec.ofInt 64 9223372036854775807).toNat = 9223372036854775807 := by decide
    rw [h2]
    exact Nat.and_le_right
  generalize (BitVec.ofInt 64 x &&& BitVec.ofInt 64 9223372036854775807).toNat = k at h1
  rw [wrap_i64_small (by omega) (by omega)]
  omega

/-! ### The members -/
theorem esOf_length (n : Nat) (c : Nat → Nat) : (esOf n c).length = n := by simp [esOf]
theorem esOf_get {n : Nat} {c : Nat → Nat} {j : Nat} (h : j < n) : (esOf n c)[j]? = some { key := .int .i64 (j : Nat), val := .int .i64 (c j : Nat), born := j } := by
  simp [esOf, h]
theorem findE_aux (k : Nat) (c : Nat → Nat) : ∀ (m i : Nat), findE (.int .i64 (k : Nat)) ((List.range' i m).map fun j => { key := .int .i64 (j : Nat), val := .int .i64 (c j : Nat), born := j }) i = some (if i ≤ k ∧ k < i + m then some (k, .int .i64 (c k : Nat)) else none)
  | 0, i => by simp [findE]
  | m + 1, i => by
    rw [List.range'_succ, List.map_cons, findE]
    simp only [keyEq, if_true]
    by_cases h : (k : Int) = (i : Int)
    · have hk : k = i := by omega
      subst hk
      simp
    · have hk : ¬ k = i := by omega
      have hb : ((k : Int) == (i : Int)) = false := by simpa using h
      rw [hb]
      simp only
      rw [findE_aux k c m (i + 1)]
      by_cases h1 : i + 1 ≤ k ∧ k < i + 1 + m
      · rw [if_pos h1, if_pos (by omega)]
      · rw [if_neg h1, if_neg (by omega)]
theorem findE_esOf (k n : Nat) (c : Nat → Nat) : findE (.int .i64 (k : Nat)) (esOf n c) 0 = some (if k < n then some (k, .int .i64 (c k : Nat)) else none) := by
  unfold esOf
  rw [List.range_eq_range', findE_aux]
  simp
def upd (c : Nat → Nat) (k : Nat) : Nat → Nat := fun j => if j = k then c k + 1 else c j
theorem esOf_modify {k n : Nat} (c : Nat → Nat) : ((esOf n c).modify k fun e => { e with key := .int .i64 (k : Nat), val := .int .i64 ((c k : Nat) + 1 : Int) }) = esOf n (upd c k) := by
  apply List.ext_getElem?
  intro j
  rw [List.getElem?_modify]
  by_cases hj : j < n
  · rw [esOf_get hj, esOf_get hj]
    by_cases hk : k = j
    · subst hk; simp [upd]
    · have : ¬ j = k := fun e => hk e.symm
      simp [hk, upd, this]
  · have h1 : ∀ c, (esOf n c)[j]? = none := fun c => List.getElem?_eq_none (by rw [esOf_length]; omega)
    rw [h1, h1]; rfl
end Go.Proofs.YtjmnfkeeiegfdaaGreatDoor
