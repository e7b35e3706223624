/-
  QuerierFew: up to the loop: the run for each number of members, and each rf. Own work.
-/
import Derived.Test.YtjmnfkeeiegfdaaGreatDoorFew1
namespace Go.Proofs.YtjmnfkeeiegfdaaGreatDoor
open Go Go.AM
/-- where the query lies -/
def qId (n : Nat) : Nat := 1078 + 6 * n
def midId (n : Nat) : Nat := 1076 + 6 * n
def fetId (n : Nat) : Nat := 1077 + 6 * n
def leafId (n : Nat) : Nat := 1028 + 3 * n
def treeId (n : Nat) : Nat := 1035 + 3 * n
def sidId (n : Nat) : Nat := 1079 + 7 * n
def nxA (n : Nat) : Nat := 1080 + 7 * n
def esA : Nat → Nat → List MapEntry
  | _, 0 => []
  | i, m + 1 => { key := .int .i64 (i : Nat), val := .int .i64 (0 : Nat), born := i } :: esA (i + 1) m
def saidA : Nat → List Value
  | 0 => []
  | n + 1 => .bool false :: saidA n
def qCellsA (n : Nat) (must : Int) : List Value := [.slice (some ⟨treeId n, 0, none⟩) 1 1, .int .i64 60, .int .i64 60, .int .i64 0, .map (some (midId n)), .int .i64 must, .bool false, .int .u64 0, .int .i64 0, .slice none 0 0, .map (some (fetId n)), .slice none 0 0, .func (.func 14) #[.pointer (some ⟨qId n, 0, none⟩)] #[]]
def objsQ (n : Nat) (must : Int) : List (Nat × AObj) := [(qId n, .cells (qCellsA n must) 0), (midId n, .map (esA 0 n) n), (fetId n, .map [] 0), (leafId n, leafO), (treeId n, treeO (leafId n)), (sidId n, .cells (saidA n) 1)]
def spQ (n : Nat) (nv : Value) (k : Int) : List (Nat × Value) := [(2, nv), (6, .bool false), (8, .int .i64 (n : Nat)), (9, .int .i64 k), (11, .pointer (some ⟨qId n, 0, none⟩)), (13, .slice (some ⟨sidId n, 0, none⟩) n n), (14, .int .i64 0)]
noncomputable def tsA (n : Nat) (nv : Value) (k : Int) (y : Nat → Value) : PT Value := mkT 141 [(2, nv), (6, .bool false), (7, .pointer (some ⟨1000, 0, none⟩)), (8, .int .i64 (n : Nat)), (9, .int .i64 k)] y
noncomputable def hA : AH := mkH [(1000, .cells [.int .u64 0, nilS] 0)] 1002
noncomputable def o1 (n : Nat) (nv : Value) (k : Int) (y : Nat → Value) : Out := arun T 100000 (.code (Code.at c3 [2, 2, 2, 1]) (tsA n nv k y) 141 [] none hA)
noncomputable def o2 (n : Nat) (nv : Value) (k : Int) (y : Nat → Value) : Out := arun T 100000 (.code (Code.at c3 [2, 2, 2, 2, 1]) (resTs (o1 n nv k y)) 141 [] none (resH (o1 n nv k y)))
noncomputable def o3 (n : Nat) (nv : Value) (k : Int) (y : Nat → Value) : Out := arun T 100000 (.code (Code.at c3 [2, 2, 2, 2, 2, 1]) (resTs (o2 n nv k y)) 141 [] none (resH (o2 n nv k y)))
noncomputable def o4 (n : Nat) (nv : Value) (k : Int) (y : Nat → Value) : Out := arun T 100000 (.code (Code.at c3 [2, 2, 2, 2, 2, 2, 1]) (resTs (o3 n nv k y)) 141 [] none (resH (o3 n nv k y)))
noncomputable def o5 (n : Nat) (nv : Value) (k : Int) (y : Nat → Value) : Out := arun T 100000 (.code (Code.at c3 [2, 2, 2, 2, 2, 2, 2, 1]) (resTs (o4 n nv k y)) 141 [] none (resH (o4 n nv k y)))
/-- what is so when the query is open -/
def GoodA (n : Nat) (nv : Value) (k must : Int) (y : Nat → Value) : Prop :=
  (isN (o1 n nv k y), isN (o2 n nv k y), isN (o3 n nv k y), isN (o4 n nv k y), isN (o5 n nv k y), (spQ n nv k).map (fun p => tget (resTs (o5 n nv k y)) p.1), (objsQ n must).map (fun p => (resH (o5 n nv k y)).get p.1), Nat.beq (resH (o5 n nv k y)).nx (nxA n)) =
  (true, true, true, true, true, (spQ n nv k).map (·.2), (objsQ n must).map (fun p => some p.2), true)
end Go.Proofs.YtjmnfkeeiegfdaaGreatDoor
