/-
  QuerierFew: the region that draws its order; the whole body. Own work.
-/
import Derived.Test.YtjmnfkeeiegfdaaGreatDoorFew6
import Derived.Test.YtjmnfkeeiegfdaaGreatDoorFewA1
import Derived.Test.YtjmnfkeeiegfdaaGreatDoorFewA2
import Derived.Test.YtjmnfkeeiegfdaaGreatDoorFewA3
import Derived.Test.YtjmnfkeeiegfdaaGreatDoorAm7
namespace Go.Proofs.YtjmnfkeeiegfdaaGreatDoor
open Go Go.AM

noncomputable def ops2 : Array Oper := Code.ops (Code.at c3 [2, 2, 1])
noncomputable def ms2 : List Nat := masks ops2.toList []
noncomputable def hv2 : List Nat := heavies T ops2
def fl2 : List Flt := [(4, 1001, .cells [.int .i64 1, .int .i64 3, .int .i64 5] 1)]
def rs2 (a b : Int) (v3 : Int) : List Rec := [(6, .int .i64 (lowI b)), (3, .int .i64 v3), (2, .int .i64 ((lowI a).tmod 9)), (1, .int .i64 (lowI a)), (5, .int .i64 b), (4, .slice (some ⟨1001, 0, none⟩) 3 3), (0, .int .i64 a)]
def p2 (a b v3 : Int) : Plan := ⟨rs2 a b v3, fl2, 1002, 127⟩
def q2 (a b : Int) (n : Int) (k : Int) (r : Nat) : Plan := ⟨(11, .int .i64 k) :: (10, .int .i64 n) :: (9, .int .i64 k) :: (8, .pointer (some ⟨1001, r, none⟩)) :: (7, .int .i64 (r : Nat)) :: rs2 a b n, fl2, 1002, 4095⟩
def p7 (a b : Int) (n x : Int) : Plan := ⟨(7, .int .i64 x) :: rs2 a b n, fl2, 1002, 255⟩
noncomputable def ts2 (a b : Int) (nv : Value) (y : Nat → Value) : PT Value := mkT 141 [(0, .int .i64 a), (1, .int .i64 b), (2, nv), (6, .bool false), (7, .pointer (some ⟨1000, 0, none⟩))] y
noncomputable def h2 : AH := mkH [(1000, .cells [.int .u64 0, nilS] 0)] 1001
noncomputable def h2' : AH := ⟨h2.t, 1002⟩

theorem reg2a (a b : Int) (nv : Value) (y : Nat → Value) : arun T 60 (.code (Code.at c3 [2, 2, 1]) (ts2 a b nv y) 141 [] none h2) = adraw T (arun T 59) ops2 ms2 hv2 (ts2 a b nv y) [] [] 2 (p2 a b (IntKind.i64.wrap (1 + (lowI a).tmod 9))) h2' := by kernel_rfl
theorem reg2b (a b n : Int) (nv : Value) (y : Nat → Value) : planL T ops2 ms2 hv2 (ts2 a b nv y) 2 h2' (AM.early ops2.size ms2 hv2 2) (p2 a b n) = planL T ops2 ms2 hv2 (ts2 a b nv y) 2 h2' [8, 9, 10, 11] (p7 a b n ((lowI b).tmod 3)) := by kernel_rfl
theorem reg2c0 (a b n : Int) (nv : Value) (y : Nat → Value) : planL T ops2 ms2 hv2 (ts2 a b nv y) 2 h2' [8, 9, 10, 11] (p7 a b n (0 : Nat)) = some (q2 a b n 1 0) := by kernel_rfl
theorem reg2c1 (a b n : Int) (nv : Value) (y : Nat → Value) : planL T ops2 ms2 hv2 (ts2 a b nv y) 2 h2' [8, 9, 10, 11] (p7 a b n (1 : Nat)) = some (q2 a b n 3 1) := by kernel_rfl
theorem reg2c2 (a b n : Int) (nv : Value) (y : Nat → Value) : planL T ops2 ms2 hv2 (ts2 a b nv y) 2 h2' [8, 9, 10, 11] (p7 a b n (2 : Nat)) = some (q2 a b n 5 2) := by kernel_rfl
theorem reg2d (a b n k : Int) (r : Nat) (nv : Value) (y : Nat → Value) : (p2 a b n).rs.all (sameAt T ops2 ms2 hv2 (ts2 a b nv y) 2 h2' (q2 a b n k r)) = true := by kernel_rfl
theorem reg2 (a b n k : Int) (r : Nat) (nv : Value) (y : Nat → Value) (h8 : IntKind.i64.wrap (1 + (lowI a).tmod 9) = n) (h7 : (lowI b).tmod 3 = (r : Nat)) (hr : (r = 0 ∧ k = 1) ∨ (r = 1 ∧ k = 3) ∨ (r = 2 ∧ k = 5)) :
    arun T 60 (.code (Code.at c3 [2, 2, 1]) (ts2 a b nv y) 141 [] none h2) = .ok [.code .normal (endOf ops2 (ts2 a b nv y) (q2 a b n k r).rs) [] (allF ms2 hv2 2 ⟨h2'.t, (q2 a b n k r).nx⟩ (q2 a b n k r).fl)] := by
  rw [reg2a, h8]
  have hp : planL T ops2 ms2 hv2 (ts2 a b nv y) 2 h2' (AM.early ops2.size ms2 hv2 2) (p2 a b n) = some (q2 a b n k r) := by
    rw [reg2b, h7]
    rcases hr with ⟨rfl, rfl⟩ | ⟨rfl, rfl⟩ | ⟨rfl, rfl⟩
    · exact reg2c0 a b n nv y
    · exact reg2c1 a b n nv y
    · exact reg2c2 a b n nv y
  simp only [adraw, stagePlan, hp, reg2d, if_true]

/-! ### Second names -/
def sg (n i : Nat) : Nat := if i = 5001 then qId n else if i = 5002 then midId n else if i = 5003 then fetId n else if i = 5004 then leafId n else if i = 5005 then treeId n else if i = 5006 then sidId n else i
theorem esA_eq (m : Nat) : ∀ (k i : Nat), EsR (nameOf 5010 (sg m)) ((List.range' i k).map fun j => { key := .int .i64 (j : Nat), val := .int .i64 ((fun _ => 0) j : Nat), born := j }) (esA i k)
  | 0, i => .nil
  | k + 1, i => by
    rw [List.range'_succ, List.map_cons]
    exact .cons ⟨.int _ _, .int _ _, rfl⟩ (esA_eq m k (i + 1))
theorem saidA_eq (m : M) : ∀ (k i : Nat), VRL m ((List.range' i k).map fun j => .bool (decide (0 < (fun _ => 0) j))) (saidA k)
  | 0, i => .nil
  | k + 1, i => by
    rw [List.range'_succ, List.map_cons]
    exact .cons (by simp; exact .bool _) (saidA_eq m k (i + 1))
theorem nameAt {n i j : Nat} (hi : i < 5010) (hj : sg n i = j) : nameOf 5010 (sg n) i = some { b := j, sh := 0, n := 1, cn := 0, sz := 0 } := by
  unfold nameOf; rw [if_pos hi, hj]
theorem slAt {n i j l c : Nat} (hi : i < 5010) (hj : sg n i = j) : VR (nameOf 5010 (sg n)) (.slice (some ⟨i, 0, none⟩) l c) (.slice (some ⟨j, 0, none⟩) l c) :=
  VR.sl (k := { b := j, sh := 0, n := 1, cn := 0, sz := 0 }) (nameAt hi hj) (.inl ⟨rfl, .inl rfl⟩)
theorem ptrAt {n i j : Nat} (hi : i < 5010) (hj : sg n i = j) : VR (nameOf 5010 (sg n)) (.pointer (some ⟨i, 0, none⟩)) (.pointer (some ⟨j, 0, none⟩)) :=
  VR.ptr (k := { b := j, sh := 0, n := 1, cn := 0, sz := 0 }) 0 (nameAt hi hj)
theorem mapAt' {n i j : Nat} (hi : i < 5010) (hj : sg n i = j) : VR (nameOf 5010 (sg n)) (.map (some i)) (.map (some j)) :=
  VR.map (k := { b := j, sh := 0, n := 1, cn := 0, sz := 0 }) (nameAt hi hj)
theorem objN (n : Nat) (must : Int) : ∀ i o, (mkH (objsG n must false (fun _ => 0) (fun _ => 0)) 5010).get i = some o → i < 5010 ∧ ∃ o', (sg n i, o') ∈ objsQ n must ∧ ObjN (nameOf 5010 (sg n)) o o' := by
  intro i o e
  have hm := mkH_get (fun p hp => by
    simp only [objsG, List.mem_cons, List.not_mem_nil, or_false] at hp
    rcases hp with rfl | rfl | rfl | rfl | rfl | rfl <;> simp [lim]) e
  simp only [objsG, List.mem_cons, Prod.mk.injEq, List.not_mem_nil, or_false] at hm
  rcases hm with ⟨rfl, rfl⟩ | ⟨rfl, rfl⟩ | ⟨rfl, rfl⟩ | ⟨rfl, rfl⟩ | ⟨rfl, rfl⟩ | ⟨rfl, rfl⟩
  · refine ⟨by decide, .cells (qCellsA n must) 0, by simp [objsQ, sg], .cells ?_⟩
    exact .cons (slAt (by decide) rfl) (.cons (.int _ _) (.cons (.int _ _) (.cons (.int _ _) (.cons (mapAt' (by decide) rfl) (.cons (.int _ _) (.cons (.bool _) (.cons (.int _ _) (.cons (.int _ _) (.cons .nilsl (.cons (mapAt' (by decide) rfl) (.cons .nilsl (.cons (.func (.func _) (.cons (ptrAt (by decide) rfl) .nil) .nil) .nil))))))))))))
  · refine ⟨by decide, .map (esA 0 n) n, by simp [objsQ, sg], .map ?_⟩
    have := esA_eq n n 0
    rw [← List.range_eq_range'] at this
    exact this
  · exact ⟨by decide, .map [] 0, by simp [objsQ, sg], .map .nil⟩
  · exact ⟨by decide, leafO, by simp [objsQ, sg], .cells (VRL.of_plain1 _ rfl)⟩
  · refine ⟨by decide, treeO (leafId n), by simp [objsQ, sg], .cells ?_⟩
    exact .cons (.int _ _) (.cons (.int _ _) (.cons (.string _) (.cons (slAt (by decide) rfl) (.cons (.int _ _) (.cons (.int _ _) (.cons (.int _ _) (.cons .nilsl (.cons (.bool _) (.cons (.int _ _) .nil)))))))))
  · refine ⟨by decide, .cells (saidA n) 1, by simp [objsQ, sg], .cells ?_⟩
    have := saidA_eq (nameOf 5010 (sg n)) n 0
    rw [← List.range_eq_range'] at this
    exact this
theorem sg_inj {n : Nat} (h1 : 1 ≤ n) (h9 : n ≤ 9) (must : Int) : ∀ i j o o', (mkH (objsG n must false (fun _ => 0) (fun _ => 0)) 5010).get i = some o → (mkH (objsG n must false (fun _ => 0) (fun _ => 0)) 5010).get j = some o' → sg n i = sg n j → i = j := by
  intro i j o o' e1 e2 he
  have key : ∀ i o, (mkH (objsG n must false (fun _ => 0) (fun _ => 0)) 5010).get i = some o → i = 5001 ∨ i = 5002 ∨ i = 5003 ∨ i = 5004 ∨ i = 5005 ∨ i = 5006 := fun i o e => by
    have hm := mkH_get (fun p hp => by
      simp only [objsG, List.mem_cons, List.not_mem_nil, or_false] at hp
      rcases hp with rfl | rfl | rfl | rfl | rfl | rfl <;> simp [lim]) e
    simp only [objsG, List.mem_cons, Prod.mk.injEq, List.not_mem_nil, or_false] at hm
    omega
  rcases key i o e1 with rfl | rfl | rfl | rfl | rfl | rfl <;> rcases key j o' e2 with rfl | rfl | rfl | rfl | rfl | rfl <;> first | rfl | (exfalso; simp [sg, qId, midId, fetId, leafId, treeId, sidId] at he; done) | (exfalso; simp [sg, qId, midId, fetId, leafId, treeId, sidId] at he; omega)
end Go.Proofs.YtjmnfkeeiegfdaaGreatDoor
