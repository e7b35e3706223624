/-
  QuerierFew: Give. Own work.
  QuerierFew: Give, its garbage forgotten. Own work.
  QuerierFew: Read: how many have answered. Own work.
  QuerierFew: Read. Own work.
-/
import Derived.Test.YtjmnfkeeiegfdaaGreatDoorFew1
namespace Go.Proofs.YtjmnfkeeiegfdaaGreatDoor
open Go Go.AM
noncomputable def c6 : Code := (Tryz.f6.body).getD .skip
theorem b6 : Tryz.f6.body = some c6 := by kernel_rfl
def objsG (n : Nat) (must : Int) (rd : Bool) (c d : Nat → Nat) : List (Nat × AObj) := [(5001, .cells (qCells must rd) 0), (5002, .map (esOf n c) n), (5003, .map [] 0), (5004, leafO), (5005, treeO 5004), (5006, .cells (saidOf n d) 1)]

def lookM (n at' : Nat) (c : Nat → Nat) : Option Value := match findE (.int .i64 (at' : Nat)) (esOf n c) 0 with
    | some (some (_, v)) => some (Value.tuple #[v, .bool true])
    | some none => some (Value.tuple #[.int .i64 0, .bool false])
    | none => none
theorem lookM_in {n at' : Nat} (h : at' < n) (c : Nat → Nat) : lookM n at' c = some (.tuple #[.int .i64 (c at' : Nat), .bool true]) := by
  unfold lookM
  rw [findE_esOf, if_pos h]
theorem lookM_out {n at' : Nat} (h : ¬ at' < n) (c : Nat → Nat) : lookM n at' c = some (.tuple #[.int .i64 0, .bool false]) := by
  unfold lookM
  rw [findE_esOf, if_neg h]

/-- region 1: is the node a member? -/
theorem give1 (n at' : Nat) (must : Int) (rd : Bool) (c d : Nat → Nat) (y : Nat → Value) (b : Bool) (v : Int) (hb : lookM n at' c = some (.tuple #[.int .i64 v, .bool b])) {Φ : AExit → PT Value → List Deferred → AH → Prop}
    (next : ∀ y, Φ .normal (mkT 46 [(0, qP), (1, .int .i64 (at' : Nat)), (2, nilS), (8, .bool b)] y) [] (mkH (objsG n must rd c d) 5010)) :
    HCode Tryz.prog Ctx.any (Code.at c6 [2, 1, 1]) (mkT 46 [(0, qP), (1, .int .i64 (at' : Nat)), (2, nilS)] y) 46 [] none (mkH (objsG n must rd c d) 5010) Φ := by
  refine HCode.region (by kernel_rfl) ?_
  refine HOps.run okT (by kernel_rfl) (by kernel_rfl) 5 (by kernel_rfl) (by kernel_rfl) ?_
  refine HOps.canon [(0, qP), (1, .int .i64 (at' : Nat)), (2, nilS), (15, .map (some 5002)), (16, .int .i64 (at' : Nat))] (objsG n must rd c d) 5010 (by kernel_rfl) (by kernel_rfl) (by kernel_rfl) (by kernel_rfl) (by kernel_rfl) fun y => ?_
  refine HOps.op okT (by decide) (by kernel_rfl) (by kernel_rfl) (by kernel_rfl) (x := .tuple #[.int .i64 v, .bool b]) (h' := mkH (objsG n must rd c d) 5010)
    (Eq.trans (b := R.ofOpt "lookup" (mkH (objsG n must rd c d) 5010) (lookM n at' c)) (by kernel_rfl) (by rw [hb]; rfl)) (by kernel_rfl) ?_
  refine HOps.run okT (by kernel_rfl) (by kernel_rfl) 5 (by kernel_rfl) (by kernel_rfl) ?_
  refine HOps.canon [(0, qP), (1, .int .i64 (at' : Nat)), (2, nilS), (8, .bool b)] (objsG n must rd c d) 5010 (by kernel_rfl) (by kernel_rfl) (by kernel_rfl) (by kernel_rfl) (by kernel_rfl) fun y => ?_
  exact HOps.nil (by kernel_rfl) (next y)

/-- region 4: the merge with nothing -/
theorem give4 (n at' : Nat) (must : Int) (rd : Bool) (c d : Nat → Nat) (y : Nat → Value) {Φ : AExit → PT Value → List Deferred → AH → Prop}
    (next : ∀ y, Φ .normal (mkT 46 [(0, qP), (1, .int .i64 (at' : Nat)), (9, nilS), (10, errI 0)] y) [] (mkH (objsG n must rd c d) 5011)) :
    HCode Tryz.prog Ctx.any (Code.at c6 [2, 2, 1]) (mkT 46 [(0, qP), (1, .int .i64 (at' : Nat)), (2, nilS)] y) 46 [] none (mkH (objsG n must rd c d) 5010) Φ := by
  refine HCode.region (by kernel_rfl) ?_
  refine HOps.run okT (by kernel_rfl) (by kernel_rfl) 6 (by kernel_rfl) (by kernel_rfl) ?_
  refine HOps.canon [(0, qP), (1, .int .i64 (at' : Nat)), (28, .slice (some ⟨5010, 0, none⟩) 2 2)] ((5010, .cells [nilS, nilS] 1) :: objsG n must rd c d) 5011 (by kernel_rfl) (by kernel_rfl) (by kernel_rfl) (by kernel_rfl) (by kernel_rfl) fun y => ?_
  refine HOps.call okT (by decide) (by kernel_rfl) (by kernel_rfl) (by kernel_rfl) (f := 15) (args := [.slice (some ⟨5010, 0, none⟩) 2 2]) (h1 := mkH ((5010, .cells [nilS, nilS] 1) :: objsG n must rd c d) 5011) (by kernel_rfl)
    (HCall.pureIn (hb := mkH ((5010, .cells [nilS, nilS] 1) :: objsG n must rd c d) 5011) merge_nil rfl fun i o e => ?_) (by kernel_rfl) ?_
  · have hm := mkH_get (fun p hp => by simp at hp; subst hp; decide) e
    simp at hm
    obtain ⟨rfl, rfl⟩ := hm
    show (mkH ((5010, .cells [nilS, nilS] 1) :: objsG n must rd c d) 5011).get 5010 = some (.cells [nilS, nilS] 1)
    kernel_rfl
  · rintro e' h2 ⟨rfl, rfl⟩
    refine HOps.run okT (by kernel_rfl) (by kernel_rfl) 5 (by kernel_rfl) (by kernel_rfl) ?_
    refine HOps.canon [(0, qP), (1, .int .i64 (at' : Nat)), (9, nilS), (10, errI 0)] (objsG n must rd c d) 5011 (by kernel_rfl) (by kernel_rfl) (by kernel_rfl) (by kernel_rfl) (by kernel_rfl) fun y => ?_
    exact HOps.nil (by kernel_rfl) (next y)

def lookN (n at' : Nat) (c : Nat → Nat) : Option Value := match findE (.int .i64 (at' : Nat)) (esOf n c) 0 with
    | some (some (_, v)) => some v
    | some none => some (.int .i64 0)
    | none => none
theorem lookN_in {n at' : Nat} (h : at' < n) (c : Nat → Nat) : lookN n at' c = some (.int .i64 (c at' : Nat)) := by
  unfold lookN
  rw [findE_esOf, if_pos h]
noncomputable def addN (n at' : Nat) (v : Value) (c : Nat → Nat) (h : AH) : Option AH := match findE (.int .i64 (at' : Nat)) (esOf n c) 0 with
    | some (some (i, _)) => some (h.set 5002 (.map ((esOf n c).modify i fun e => { e with key := .int .i64 (at' : Nat), val := v }) n))
    | some none => some (h.set 5002 (.map (esOf n c ++ [{ key := .int .i64 (at' : Nat), val := v, born := n }]) (n + 1)))
    | none => none
theorem addN_in {n at' : Nat} (h : at' < n) (c : Nat → Nat) (hh : AH) : addN n at' (.int .i64 ((c at' : Nat) + 1 : Int)) c hh = some (hh.set 5002 (.map (esOf n (upd c at')) n)) := by
  unfold addN
  rw [findE_esOf, if_pos h]
  simp only [esOf_modify]

/-- region 7: one answer more -/
theorem give7 (n at' : Nat) (must : Int) (rd : Bool) (c d : Nat → Nat) (h : at' < n) (hc : c at' < 9223372036854775807) (y : Nat → Value) {Φ : AExit → PT Value → List Deferred → AH → Prop}
    (next : ∀ y, Φ .normal (mkT 46 [(0, qP), (9, nilS)] y) [] (mkH (objsG n must rd (upd c at') d) 5011)) :
    HCode Tryz.prog Ctx.any (Code.at c6 [2, 2, 2, 2, 1]) (mkT 46 [(0, qP), (1, .int .i64 (at' : Nat)), (9, nilS)] y) 46 [] none (mkH (objsG n must rd c d) 5011) Φ := by
  refine HCode.region (by kernel_rfl) ?_
  refine HOps.run okT (by kernel_rfl) (by kernel_rfl) 5 (by kernel_rfl) (by kernel_rfl) ?_
  refine HOps.canon [(0, qP), (9, nilS), (38, .map (some 5002)), (39, .int .i64 (at' : Nat))] (objsG n must rd c d) 5011 (by kernel_rfl) (by kernel_rfl) (by kernel_rfl) (by kernel_rfl) (by kernel_rfl) fun y => ?_
  refine HOps.op okT (by decide) (by kernel_rfl) (by kernel_rfl) (by kernel_rfl) (x := .int .i64 (c at' : Nat)) (h' := mkH (objsG n must rd c d) 5011)
    (Eq.trans (b := R.ofOpt "lookup" (mkH (objsG n must rd c d) 5011) (lookN n at' c)) (by kernel_rfl) (by rw [lookN_in h]; rfl)) (by kernel_rfl) ?_
  refine HOps.op okT (by decide) (by kernel_rfl) (by kernel_rfl) (by kernel_rfl) (x := .int .i64 ((c at' : Nat) + 1 : Int)) (h' := mkH (objsG n must rd c d) 5011)
    (Eq.trans (b := .v (.int .i64 (IntKind.i64.wrap ((c at' : Nat) + 1 : Int))) (mkH (objsG n must rd c d) 5011)) (by kernel_rfl) (by rw [wrap_i64_small (by omega) (by omega)])) (by kernel_rfl) ?_
  refine HOps.op okT (by decide) (by kernel_rfl) (by kernel_rfl) (by kernel_rfl) (x := undef) (h' := (mkH (objsG n must rd c d) 5011).set 5002 (.map (esOf n (upd c at')) n))
    (Eq.trans (b := oStored (addN n at' (.int .i64 ((c at' : Nat) + 1 : Int)) c (mkH (objsG n must rd c d) 5011))) (by kernel_rfl) (by rw [addN_in h]; rfl)) (by kernel_rfl) ?_
  refine HOps.canon [(0, qP), (9, nilS)] (objsG n must rd (upd c at') d) 5011 (by kernel_rfl) (by kernel_rfl) (by kernel_rfl) (by kernel_rfl) (by kernel_rfl) fun y => ?_
  exact HOps.nil (by kernel_rfl) (next y)

theorem give_in (n at' : Nat) (must : Int) (rd : Bool) (c d : Nat → Nat) (h : at' < n) (hc : c at' < 9223372036854775807) :
    HCall Tryz.prog 6 [qP, .int .i64 (at' : Nat), nilS] (mkH (objsG n must rd c d) 5010) fun e' h' => e' = .returned (errI 0) ∧ ((objsG n must rd (upd c at') d).map fun p => h'.get p.1) = (objsG n must rd (upd c at') d).map fun p => some p.2 := by
  refine HCall.of_code okT Tryz.func6 b6 (by kernel_rfl) (by kernel_rfl) ?_
  rw [Tryz.ntmps6]
  refine HCode.seqN okT 10 (by kernel_rfl) (by kernel_rfl) (by kernel_rfl) (by kernel_rfl) ?_
  refine HCode.canon [(0, qP), (1, .int .i64 (at' : Nat)), (2, nilS)] (objsG n must rd c d) 5010 (by kernel_rfl) (by kernel_rfl) (by kernel_rfl) (by kernel_rfl) (by kernel_rfl) fun y => ?_
  refine HCode.seqC (by kernel_rfl) (HCode.seqC (by kernel_rfl) (give1 n at' must rd c d y true (c at') (lookM_in h c) fun y => ?_))
  refine HCode.runN okT (k := 10) (by kernel_rfl) (by kernel_rfl) (by kernel_rfl) ?_
  refine HCode.canon [(0, qP), (1, .int .i64 (at' : Nat)), (2, nilS)] (objsG n must rd c d) 5010 (by kernel_rfl) (by kernel_rfl) (by kernel_rfl) (by kernel_rfl) (by kernel_rfl) fun y => ?_
  refine HCode.seqC (by kernel_rfl) (give4 n at' must rd c d y fun y => ?_)
  refine HCode.seqN okT 10 (by kernel_rfl) (by kernel_rfl) (by kernel_rfl) (by kernel_rfl) ?_
  refine HCode.canon [(0, qP), (1, .int .i64 (at' : Nat)), (9, nilS)] (objsG n must rd c d) 5011 (by kernel_rfl) (by kernel_rfl) (by kernel_rfl) (by kernel_rfl) (by kernel_rfl) fun y => ?_
  refine HCode.seqC (by kernel_rfl) (give7 n at' must rd c d h hc y fun y => ?_)
  refine HCode.runR okT 10 (by kernel_rfl) (by kernel_rfl) (by kernel_rfl) ?_
  exact ⟨rfl, errI 0, by kernel_rfl, rfl, by kernel_rfl⟩

theorem give_out (n at' : Nat) (must : Int) (rd : Bool) (c d : Nat → Nat) (h : ¬ at' < n) :
    HCall Tryz.prog 6 [qP, .int .i64 (at' : Nat), nilS] (mkH (objsG n must rd c d) 5010) fun e' h' => e' = .returned (errI 270) ∧ ((objsG n must rd c d).map fun p => h'.get p.1) = (objsG n must rd c d).map fun p => some p.2 := by
  refine HCall.of_code okT Tryz.func6 b6 (by kernel_rfl) (by kernel_rfl) ?_
  rw [Tryz.ntmps6]
  refine HCode.seqN okT 10 (by kernel_rfl) (by kernel_rfl) (by kernel_rfl) (by kernel_rfl) ?_
  refine HCode.canon [(0, qP), (1, .int .i64 (at' : Nat)), (2, nilS)] (objsG n must rd c d) 5010 (by kernel_rfl) (by kernel_rfl) (by kernel_rfl) (by kernel_rfl) (by kernel_rfl) fun y => ?_
  refine HCode.seqC (by kernel_rfl) (HCode.seqC (by kernel_rfl) (give1 n at' must rd c d y false 0 (lookM_out h c) fun y => ?_))
  refine HCode.runR okT 10 (by kernel_rfl) (by kernel_rfl) (by kernel_rfl) ?_
  exact ⟨rfl, errI 270, by kernel_rfl, rfl, by kernel_rfl⟩
end Go.Proofs.YtjmnfkeeiegfdaaGreatDoor
namespace Go.Proofs.YtjmnfkeeiegfdaaGreatDoor
open Go Go.AM
theorem wf_es (m : M) (n k : Nat) (c : Nat → Nat) : WfO m (.map (esOf n c) k) := by
  intro e he
  obtain ⟨j, _, rfl⟩ := List.mem_map.1 he
  exact ⟨⟨_, .int _ _⟩, ⟨_, .int _ _⟩⟩
theorem wf_said (m : M) (n k : Nat) (c : Nat → Nat) : WfO m (.cells (saidOf n c) k) := by
  intro e he
  obtain ⟨j, _, rfl⟩ := List.mem_map.1 he
  exact ⟨_, .bool _⟩
theorem give_in' (n at' : Nat) (must : Int) (rd : Bool) (c d : Nat → Nat) (h : at' < n) (hc : c at' < 9223372036854775807) :
    HCall Tryz.prog 6 [qP, .int .i64 (at' : Nat), nilS] (mkH (objsG n must rd c d) 5010) fun e' h' => e' = .returned (errI 0) ∧ h' = mkH (objsG n must rd (upd c at') d) 5010 :=
  HCall.gcL (give_in n at' must rd c d h hc) (by kernel_rfl) (by kernel_rfl) fun m hk => ⟨fun p hp => by
    simp only [objsG, List.mem_cons, List.not_mem_nil, or_false] at hp
    rcases hp with rfl | rfl | rfl | rfl | rfl | rfl
    · exact hk.obj 5001 (by kernel_rfl)
    · exact wf_es _ _ _ _
    · exact hk.obj 5003 (by kernel_rfl)
    · exact hk.obj 5004 (by kernel_rfl)
    · exact hk.obj 5005 (by kernel_rfl)
    · exact wf_said _ _ _ _, ⟨_, .int _ _⟩⟩
theorem give_out' (n at' : Nat) (must : Int) (rd : Bool) (c d : Nat → Nat) (h : ¬ at' < n) :
    HCall Tryz.prog 6 [qP, .int .i64 (at' : Nat), nilS] (mkH (objsG n must rd c d) 5010) fun e' h' => e' = .returned (errI 270) ∧ h' = mkH (objsG n must rd c d) 5010 :=
  HCall.gcL (give_out n at' must rd c d h) (by kernel_rfl) (by kernel_rfl) fun m hk => ⟨fun p hp => by
    simp only [objsG, List.mem_cons, List.not_mem_nil, or_false] at hp
    rcases hp with rfl | rfl | rfl | rfl | rfl | rfl
    · exact hk.obj 5001 (by kernel_rfl)
    · exact wf_es _ _ _ _
    · exact hk.obj 5003 (by kernel_rfl)
    · exact hk.obj 5004 (by kernel_rfl)
    · exact hk.obj 5005 (by kernel_rfl)
    · exact wf_said _ _ _ _, ⟨_, .int _ _⟩⟩

/-- the answer, over all that is there -/
theorem answer' (n : Nat) (must : Int) (rd : Bool) (c d : Nat → Nat) :
    HCall Tryz.prog 8 [qP] (mkH (objsG n must rd c d) 5010) fun e' h' => e' = .returned (.tuple #[nilS, .int .i64 0, errI (cond rd 0 273)]) ∧ h' = mkH (objsG n must rd c d) 5010 := by
  have sub : ∀ (rd : Bool) (i : Nat) (o : AObj), (mkH (objsA must rd) 5010).get i = some o → (mkH (objsG n must rd c d) 5010).get i = some o := by
    intro rd i o e
    have hm := mkH_get (fun p hp => by
      simp only [objsA, List.mem_cons, List.not_mem_nil, or_false] at hp
      rcases hp with rfl | rfl | rfl | rfl <;> simp [lim]) e
    simp only [objsA, List.mem_cons, Prod.mk.injEq, List.not_mem_nil, or_false] at hm
    rcases hm with ⟨rfl, rfl⟩ | ⟨rfl, rfl⟩ | ⟨rfl, rfl⟩ | ⟨rfl, rfl⟩
    · show (mkH (objsG n must rd c d) 5010).get 5001 = some (.cells (qCells must rd) 0); kernel_rfl
    · show (mkH (objsG n must rd c d) 5010).get 5003 = some (.map [] 0); kernel_rfl
    · show (mkH (objsG n must rd c d) 5010).get 5004 = some leafO; kernel_rfl
    · show (mkH (objsG n must rd c d) 5010).get 5005 = some (treeO 5004); kernel_rfl
  cases rd with
  | false =>
    show HCall Tryz.prog 8 [qP] (mkH (objsG n must false c d) 5010) fun e' h' => e' = .returned (.tuple #[nilS, .int .i64 0, errI 273]) ∧ h' = mkH (objsG n must false c d) 5010
    exact HCall.pureIn (hb := mkH (objsG n must false c d) 5010) (answer_unread must) rfl (sub false)
  | true =>
    show HCall Tryz.prog 8 [qP] (mkH (objsG n must true c d) 5010) fun e' h' => e' = .returned (.tuple #[nilS, .int .i64 0, errI 0]) ∧ h' = mkH (objsG n must true c d) 5010
    exact HCall.pureIn (hb := mkH (objsG n must true c d) 5010) (answer_read must) rfl (sub true)
end Go.Proofs.YtjmnfkeeiegfdaaGreatDoor
namespace Go.Proofs.YtjmnfkeeiegfdaaGreatDoor
open Go Go.AM
noncomputable def c7 : Code := (Tryz.f7.body).getD .skip
theorem b7 : Tryz.f7.body = some c7 := by kernel_rfl

def cntL (c : Nat → Nat) (l : List Nat) : Nat := (l.filter fun j => decide (0 < c j)).length
def cnt (n : Nat) (c : Nat → Nat) : Nat := cntL c (List.range n)
theorem cntL_snoc (c : Nat → Nat) (l : List Nat) (j : Nat) : cntL c (l ++ [j]) = cntL c l + (if 0 < c j then 1 else 0) := by
  unfold cntL
  rw [List.filter_append, List.length_append]
  by_cases h : 0 < c j <;> simp [h]
theorem cntL_le (c : Nat → Nat) (l : List Nat) : cntL c l ≤ l.length := List.length_filter_le _ _
theorem cnt_of {n : Nat} {c : Nat → Nat} {seen : List Nat} (h1 : seen.Nodup) (h2 : ∀ j, j ∈ seen ↔ j < n) : cntL c seen = cnt n c := by
  unfold cnt cntL
  refine (List.Perm.filter _ ((List.perm_ext_iff_of_nodup h1 List.nodup_range).2 fun j => ?_)).length_eq
  rw [h2, List.mem_range]
theorem seen_len {n : Nat} {seen : List Nat} (h1 : seen.Nodup) (h2 : ∀ j ∈ seen, j < n) : seen.length ≤ n := by
  have := List.Nodup.length_le_of_subset h1 (l₂ := List.range n) (fun j hj => List.mem_range.2 (h2 j hj))
  rwa [List.length_range] at this

noncomputable def nextM (n : Nat) (seen : List Nat) (c : Nat → Nat) (h : AH) : R :=
  if !(Nat.beq n n) || !(Nat.beq n n) || !(Nat.blt 5011 lim) || !((esOf n c).all fun e => Nat.blt e.born n) then .fail "next: the map has grown" else
  match (esOf n c).filter fun e => !seen.contains e.born with
  | [] => .v (.tuple #[.bool false]) (h.kill 5011)
  | l => .many (l.map fun e => (.tuple #[.bool true, e.key, e.val], h.set 5011 (.mapIter (some 5002) n (seen ++ [e.born]) n)))
theorem nextM_eq (n : Nat) (seen : List Nat) (c : Nat → Nat) (h : AH) : nextM n seen c h = match (esOf n c).filter fun e => !seen.contains e.born with
  | [] => .v (.tuple #[.bool false]) (h.kill 5011)
  | l => .many (l.map fun e => (.tuple #[.bool true, e.key, e.val], h.set 5011 (.mapIter (some 5002) n (seen ++ [e.born]) n))) := by
  have h1 : ((esOf n c).all fun e => Nat.blt e.born n) = true := by
    rw [List.all_eq_true]
    intro e he
    obtain ⟨j, hj, rfl⟩ := List.mem_map.1 he
    rw [Nat.blt_eq]; exact List.mem_range.1 hj
  have h2 : Nat.blt 5011 lim = true := rfl
  have h3 : Nat.beq n n = true := Nat.beq_refl n
  unfold nextM
  rw [h1, h2, h3]
  rfl
def entM (n : Nat) (c : Nat → Nat) (seen : List Nat) : Option Value :=
  match seen.getLast?, (some (.map (esOf n c) n) : Option AObj) with
  | some stamp, some (.map es clock) => if Nat.beq clock n then (es.find? (·.born == stamp)).map fun e => .tuple #[e.key, e.val] else none
  | _, _ => none
theorem find_es (k : Nat) (c : Nat → Nat) : ∀ (m i : Nat), i ≤ k → k < i + m → ((List.range' i m).map fun j => ({ key := .int .i64 (j : Nat), val := .int .i64 (c j : Nat), born := j } : MapEntry)).find? (·.born == k) = some { key := .int .i64 (k : Nat), val := .int .i64 (c k : Nat), born := k }
  | 0, i, h1, h2 => by omega
  | m + 1, i, h1, h2 => by
    rw [List.range'_succ, List.map_cons, List.find?_cons]
    by_cases h : i = k
    · subst h; simp
    · have hb : (i == k) = false := by simpa using h
      simp only [hb]
      exact find_es k c m (i + 1) (by omega) (by omega)
theorem entM_eq {n k : Nat} (h : k < n) (c : Nat → Nat) (seen : List Nat) : entM n c (seen ++ [k]) = some (.tuple #[.int .i64 (k : Nat), .int .i64 (c k : Nat)]) := by
  unfold entM
  have h3 : Nat.beq n n = true := Nat.beq_refl n
  rw [List.getLast?_concat]
  simp only [h3, if_true]
  unfold esOf
  rw [List.range_eq_range', find_es k c n 0 (by omega) (by omega)]
  rfl

def boxP : Value := .pointer (some ⟨5010, 0, none⟩)
def iterP : Value := .pointer (some ⟨5011, 0, none⟩)
def objsB (n : Nat) (must : Int) (rd : Bool) (c d : Nat → Nat) : List (Nat × AObj) := (5010, .cells [.int .u64 0, .int .i64 0, nilS] 0) :: objsG n must rd c d
def objsR (n : Nat) (must : Int) (rd : Bool) (c d : Nat → Nat) (seen : List Nat) : List (Nat × AObj) := (5011, .mapIter (some 5002) n seen n) :: objsB n must rd c d

theorem read_loop (n : Nat) (must : Int) (rd : Bool) (c d : Nat → Nat) (hn : n ≤ 1000000) (y : Nat → Value) {Φ : AExit → PT Value → List Deferred → AH → Prop}
    (next : ∀ y, Φ .normal (mkT 46 [(0, qP), (3, boxP), (6, .int .i64 (cnt n c : Nat))] y) [] (mkH (objsB n must rd c d) 5012)) :
    HCode Tryz.prog Ctx.any (Code.at c7 [2, 2, 2, 1, 2]) (mkT 46 [(0, qP), (3, boxP), (6, .int .i64 ((cntL c [] : Nat) : Int)), (18, iterP)] y) 46 [] none (mkH (objsR n must rd c d []) 5012) Φ := by
  refine HCode.block (Ψ := fun e ts df h => e = .exit 0 ∧ Φ .normal ts df h) (by kernel_rfl) ?_ (fun e ts df h ⟨he, hq⟩ => by
    subst he
    have : 0 = Code.id (Code.at c7 [2, 2, 2, 1, 2]) := by kernel_rfl
    simp only
    rw [if_pos this]
    exact hq)
  refine HCode.loop (by kernel_rfl) (fun v ts df h => df = [] ∧ ∃ (seen : List Nat) (y : Nat → Value), v = n - seen.length ∧ seen.Nodup ∧ (∀ b ∈ seen, b < n) ∧ ts = mkT 46 [(0, qP), (3, boxP), (6, .int .i64 (cntL c seen : Nat)), (18, iterP)] y ∧ h = mkH (objsR n must rd c d seen) 5012) ?_ (v := n) ⟨rfl, [], y, by simp, List.nodup_nil, by simp, rfl, rfl⟩
  rintro v ts df h ⟨rfl, seen, y, hv, hnd, hlt, rfl, rfl⟩
  have hlen := seen_len hnd hlt
  refine HCode.seqC (by kernel_rfl) ?_
  refine HCode.region (by kernel_rfl) ?_
  cases hf : (esOf n c).filter fun e => !seen.contains e.born with
  | nil =>
    refine HOps.op okT (by decide) (by kernel_rfl) (by kernel_rfl) (by kernel_rfl) (x := .tuple #[.bool false]) (h' := (mkH (objsR n must rd c d seen) 5012).kill 5011)
      (Eq.trans (b := nextM n seen c (mkH (objsR n must rd c d seen) 5012)) (by kernel_rfl) (by rw [nextM_eq, hf])) (by kernel_rfl) ?_
    have hcov : ∀ j, j ∈ seen ↔ j < n := fun j => ⟨hlt j, fun hj => by
      have hm : ({ key := .int .i64 (j : Nat), val := .int .i64 (c j : Nat), born := j } : MapEntry) ∈ esOf n c := List.mem_of_getElem? (esOf_get hj)
      have := List.filter_eq_nil_iff.1 hf _ hm
      simpa using this⟩
    rw [cnt_of hnd hcov]
    refine HOps.run okT (by kernel_rfl) (by kernel_rfl) 1 (by kernel_rfl) (by kernel_rfl) ?_
    refine HOps.canon [(0, qP), (3, boxP), (6, .int .i64 (cnt n c : Nat)), (20, .bool false)] (objsB n must rd c d) 5012 (by kernel_rfl) (by kernel_rfl) (by kernel_rfl) (by kernel_rfl) (by kernel_rfl) fun y => ?_
    refine HOps.nil (by kernel_rfl) ?_
    refine HCode.seqC (by kernel_rfl) ?_
    refine HCode.cond (by kernel_rfl) (by kernel_rfl) (b := false) (by kernel_rfl) (fun h => by cases h) fun _ => ?_
    refine HCode.canon [(0, qP), (3, boxP), (6, .int .i64 (cnt n c : Nat))] (objsB n must rd c d) 5012 (by kernel_rfl) (by kernel_rfl) (by kernel_rfl) (by kernel_rfl) (by kernel_rfl) fun y => ?_
    refine HCode.exit (by kernel_rfl) ?_
    show (AExit.exit (Code.xid (Code.s2 (Code.s1 (Code.s2 (Code.s1 (Code.s1 (Code.at c7 [2, 2, 2, 1, 2]))))))) = .exit 0) ∧ _
    exact ⟨congrArg AExit.exit (by kernel_rfl), next y⟩
  | cons e0 l0 =>
    refine HOps.many okT (by kernel_rfl) (by kernel_rfl) (by kernel_rfl) (by kernel_rfl)
      (Eq.trans (b := nextM n seen c (mkH (objsR n must rd c d seen) 5012)) (by kernel_rfl) (by rw [nextM_eq, hf])) (by kernel_rfl) fun p hp => ?_
    obtain ⟨e1, he1, rfl⟩ := List.mem_map.1 hp
    rw [← hf, List.mem_filter] at he1
    obtain ⟨he2, he3⟩ := he1
    obtain ⟨j, hj, rfl⟩ := List.mem_map.1 he2
    rw [List.mem_range] at hj
    have hns : j ∉ seen := by simpa using he3
    have hnd' : (seen ++ [j]).Nodup := by
      rw [List.nodup_append]
      refine ⟨hnd, by simp, fun a ha b hb => ?_⟩
      simp only [List.mem_singleton] at hb
      subst hb
      exact fun e => hns (e ▸ ha)
    have hlt' : ∀ b ∈ seen ++ [j], b < n := fun b hb => by
      rcases List.mem_append.1 hb with h | h
      · exact hlt b h
      · simp only [List.mem_singleton] at h; subst h; exact hj
    have hlen' := seen_len hnd' hlt'
    rw [List.length_append, List.length_singleton] at hlen'
    have hcl := cntL_le c seen
    refine HOps.run okT (by kernel_rfl) (by kernel_rfl) 1 (by kernel_rfl) (by kernel_rfl) ?_
    refine HOps.canon [(0, qP), (3, boxP), (6, .int .i64 (cntL c seen : Nat)), (18, iterP), (20, .bool true)] (objsR n must rd c d (seen ++ [j])) 5012 (by kernel_rfl) (by kernel_rfl) (by kernel_rfl) (by kernel_rfl) (by kernel_rfl) fun y => ?_
    refine HOps.nil (by kernel_rfl) ?_
    refine HCode.seqC (by kernel_rfl) ?_
    refine HCode.cond (by kernel_rfl) (by kernel_rfl) (b := true) (by kernel_rfl) (fun _ => ?_) (fun h => by cases h)
    refine HCode.skip (by kernel_rfl) ?_
    have fin : ∀ (y : Nat → Value), ∃ v', v' < v ∧ ([] : List Deferred) = [] ∧ ∃ (seen2 : List Nat) (y2 : Nat → Value), v' = n - seen2.length ∧ seen2.Nodup ∧ (∀ b ∈ seen2, b < n) ∧ mkT 46 [(0, qP), (3, boxP), (6, .int .i64 (cntL c (seen ++ [j]) : Nat)), (18, iterP)] y = mkT 46 [(0, qP), (3, boxP), (6, .int .i64 (cntL c seen2 : Nat)), (18, iterP)] y2 ∧ mkH (objsR n must rd c d (seen ++ [j])) 5012 = mkH (objsR n must rd c d seen2) 5012 :=
      fun y => ⟨n - (seen ++ [j]).length, by rw [List.length_append, List.length_singleton]; omega, rfl, seen ++ [j], y, rfl, hnd', hlt', rfl, rfl⟩
    refine HCode.block (Ψ := fun e ts df h => e = .normal ∧ df = [] ∧ ∃ y, ts = mkT 46 [(0, qP), (3, boxP), (6, .int .i64 (cntL c (seen ++ [j]) : Nat)), (18, iterP)] y ∧ h = mkH (objsR n must rd c d (seen ++ [j])) 5012) (by kernel_rfl) ?_ (fun e ts df h ⟨he, hd, y, ht, hh⟩ => by
      subst he; subst hd; subst ht; subst hh
      exact fin y)
    refine HCode.seqC (by kernel_rfl) ?_
    refine HCode.region (by kernel_rfl) ?_
    refine HOps.op okT (by decide) (by kernel_rfl) (by kernel_rfl) (by kernel_rfl) (x := .tuple #[.int .i64 (j : Nat), .int .i64 (c j : Nat)]) (h' := mkH (objsR n must rd c d (seen ++ [j])) 5012)
      (Eq.trans (b := R.ofOpt "entry" (mkH (objsR n must rd c d (seen ++ [j])) 5012) (entM n c (seen ++ [j]))) (by kernel_rfl) (by rw [entM_eq hj]; rfl)) (by kernel_rfl) ?_
    refine HOps.run okT (by kernel_rfl) (by kernel_rfl) 2 (by kernel_rfl) (by kernel_rfl) ?_
    refine HOps.canon [(0, qP), (3, boxP), (6, .int .i64 (cntL c seen : Nat)), (18, iterP), (8, .int .i64 (c j : Nat))] (objsR n must rd c d (seen ++ [j])) 5012 (by kernel_rfl) (by kernel_rfl) (by kernel_rfl) (by kernel_rfl) (by kernel_rfl) fun y => ?_
    refine HOps.nil (by kernel_rfl) ?_
    refine HCode.seqN okT 10 (by kernel_rfl) (by kernel_rfl) (by kernel_rfl) (by kernel_rfl) ?_
    refine HCode.canon [(0, qP), (3, boxP), (6, .int .i64 (cntL c seen : Nat)), (18, iterP), (24, .bool (decide ((c j : Int) > 0)))] (objsR n must rd c d (seen ++ [j])) 5012 (by kernel_rfl) (by kernel_rfl) (by kernel_rfl) (by kernel_rfl) (by kernel_rfl) fun y => ?_
    refine HCode.cond (by kernel_rfl) (by kernel_rfl) (b := decide ((c j : Int) > 0)) (by kernel_rfl) (fun hb => ?_) (fun hb => ?_)
    · have hpos : 0 < c j := by simpa using hb
      have hcn : cntL c (seen ++ [j]) = cntL c seen + 1 := by rw [cntL_snoc, if_pos hpos]
      refine HCode.region (by kernel_rfl) ?_
      refine HOps.run okT (by kernel_rfl) (by kernel_rfl) 1 (by kernel_rfl) (by kernel_rfl) ?_
      refine HOps.canon [(0, qP), (3, boxP), (18, iterP), (25, .int .i64 (cntL c seen : Nat))] (objsR n must rd c d (seen ++ [j])) 5012 (by kernel_rfl) (by kernel_rfl) (by kernel_rfl) (by kernel_rfl) (by kernel_rfl) fun y => ?_
      refine HOps.op okT (by decide) (by kernel_rfl) (by kernel_rfl) (by kernel_rfl) (x := .int .i64 (cntL c (seen ++ [j]) : Nat)) (h' := mkH (objsR n must rd c d (seen ++ [j])) 5012)
        (Eq.trans (b := .v (.int .i64 (IntKind.i64.wrap ((cntL c seen : Nat) + 1 : Int))) (mkH (objsR n must rd c d (seen ++ [j])) 5012)) (by kernel_rfl) (by rw [wrap_i64_small (by omega) (by omega), hcn]; rfl)) (by kernel_rfl) ?_
      refine HOps.run okT (by kernel_rfl) (by kernel_rfl) 1 (by kernel_rfl) (by kernel_rfl) ?_
      refine HOps.canon [(0, qP), (3, boxP), (6, .int .i64 (cntL c (seen ++ [j]) : Nat)), (18, iterP)] (objsR n must rd c d (seen ++ [j])) 5012 (by kernel_rfl) (by kernel_rfl) (by kernel_rfl) (by kernel_rfl) (by kernel_rfl) fun y => ?_
      exact HOps.nil (by kernel_rfl) ⟨rfl, rfl, y, rfl, rfl⟩
    · have hpos : ¬ 0 < c j := by simpa using hb
      have hcn : cntL c (seen ++ [j]) = cntL c seen := by rw [cntL_snoc, if_neg hpos]; rfl
      refine HCode.canon [(0, qP), (3, boxP), (6, .int .i64 (cntL c seen : Nat)), (18, iterP)] (objsR n must rd c d (seen ++ [j])) 5012 (by kernel_rfl) (by kernel_rfl) (by kernel_rfl) (by kernel_rfl) (by kernel_rfl) fun y => ?_
      refine HCode.skip (by kernel_rfl) ⟨rfl, rfl, y, ?_, rfl⟩
      rw [hcn]
end Go.Proofs.YtjmnfkeeiegfdaaGreatDoor
namespace Go.Proofs.YtjmnfkeeiegfdaaGreatDoor
open Go Go.AM

theorem read_walk (n : Nat) (must : Int) (rd : Bool) (c d : Nat → Nat) (hn : n ≤ 1000000) {Θ : AEnd → AH → Prop}
    (h1 : (cnt n c : Int) < must → ∀ h', ((objsG n must rd c d).map fun p => h'.get p.1) = ((objsG n must rd c d).map fun p => some p.2) → Θ (.returned (errI 271)) h')
    (h2 : ¬ (cnt n c : Int) < must → ∀ h', ((objsG n must true c d).map fun p => h'.get p.1) = ((objsG n must true c d).map fun p => some p.2) → Θ (.returned (errI 0)) h') :
    HCall Tryz.prog 7 [qP, ix0] (mkH (objsG n must rd c d) 5010) Θ := by
  have sub : ∀ (k : Nat) (h : AH) (i : Nat) (o : AObj), (mkH [] k).get i = some o → h.get i = some o := fun k h i o e => by
    have := mkH_get (nx := k) (l := []) (fun p hp => by cases hp) e
    cases this
  refine HCall.of_code okT Tryz.func7 b7 (by kernel_rfl) (by kernel_rfl) ?_
  rw [Tryz.ntmps7]
  refine HCode.seqN okT 10 (by kernel_rfl) (by kernel_rfl) (by kernel_rfl) (by kernel_rfl) ?_
  refine HCode.canon [(0, qP), (3, boxP)] (objsB n must rd c d) 5011 (by kernel_rfl) (by kernel_rfl) (by kernel_rfl) (by kernel_rfl) (by kernel_rfl) fun y => ?_
  refine HCode.seqC (by kernel_rfl) ?_
  refine HCode.seqC (by kernel_rfl) ?_
  refine HCode.region (by kernel_rfl) ?_
  refine HOps.run okT (by kernel_rfl) (by kernel_rfl) 1 (by kernel_rfl) (by kernel_rfl) ?_
  refine HOps.canon [(0, qP), (3, boxP), (9, ix0)] (objsB n must rd c d) 5011 (by kernel_rfl) (by kernel_rfl) (by kernel_rfl) (by kernel_rfl) (by kernel_rfl) fun y => ?_
  refine HOps.call okT (by decide) (by kernel_rfl) (by kernel_rfl) (by kernel_rfl) (f := 16) (args := [ix0]) (h1 := mkH (objsB n must rd c d) 5011) (by kernel_rfl)
    (HCall.pureIn (hb := mkH (objsB n must rd c d) 5011) check_ix rfl (sub 5011 _)) (by kernel_rfl) ?_
  rintro e' h2' ⟨rfl, rfl⟩
  refine HOps.run okT (by kernel_rfl) (by kernel_rfl) 1 (by kernel_rfl) (by kernel_rfl) ?_
  refine HOps.canon [(0, qP), (3, boxP), (5, errI 0)] (objsB n must rd c d) 5011 (by kernel_rfl) (by kernel_rfl) (by kernel_rfl) (by kernel_rfl) (by kernel_rfl) fun y => ?_
  refine HOps.nil (by kernel_rfl) ?_
  refine HCode.runN okT (k := 10) (by kernel_rfl) (by kernel_rfl) (by kernel_rfl) ?_
  refine HCode.canon [(0, qP), (3, boxP)] (objsB n must rd c d) 5011 (by kernel_rfl) (by kernel_rfl) (by kernel_rfl) (by kernel_rfl) (by kernel_rfl) fun y => ?_
  refine HCode.seqN okT 10 (by kernel_rfl) (by kernel_rfl) (by kernel_rfl) (by kernel_rfl) ?_
  refine HCode.seqC (by kernel_rfl) ?_
  refine HCode.seqN okT 10 (by kernel_rfl) (by kernel_rfl) (by kernel_rfl) (by kernel_rfl) ?_
  refine HCode.canon [(0, qP), (3, boxP), (6, .int .i64 ((cntL c [] : Nat) : Int)), (18, iterP)] (objsR n must rd c d []) 5012 (by kernel_rfl) (by kernel_rfl) (by kernel_rfl) (by kernel_rfl) (by kernel_rfl) fun y => ?_
  refine read_loop n must rd c d hn y fun y => ?_
  refine HCode.seqC (by kernel_rfl) ?_
  refine HCode.seqN okT 10 (by kernel_rfl) (by kernel_rfl) (by kernel_rfl) (by kernel_rfl) ?_
  refine HCode.canon [(0, qP), (3, boxP), (32, .bool (decide ((cnt n c : Int) < must)))] (objsB n must rd c d) 5012 (by kernel_rfl) (by kernel_rfl) (by kernel_rfl) (by kernel_rfl) (by kernel_rfl) fun y => ?_
  refine HCode.cond (by kernel_rfl) (by kernel_rfl) (b := decide ((cnt n c : Int) < must)) (by kernel_rfl) (fun hb => ?_) (fun hb => ?_)
  · refine HCode.runR okT 10 (by kernel_rfl) (by kernel_rfl) (by kernel_rfl) ?_
    exact ⟨rfl, errI 271, by kernel_rfl, h1 (by simpa using hb) _ (by kernel_rfl)⟩
  · refine HCode.skip (by kernel_rfl) ?_
    refine HCode.canon [(0, qP), (3, boxP)] (objsB n must rd c d) 5012 (by kernel_rfl) (by kernel_rfl) (by kernel_rfl) (by kernel_rfl) (by kernel_rfl) fun y => ?_
    refine HCode.seqC (by kernel_rfl) ?_
    refine HCode.region (by kernel_rfl) ?_
    refine HOps.run okT (by kernel_rfl) (by kernel_rfl) 3 (by kernel_rfl) (by kernel_rfl) ?_
    refine HOps.canon [(0, qP), (33, qP), (34, qP), (35, ix0)] (objsB n must rd c d) 5012 (by kernel_rfl) (by kernel_rfl) (by kernel_rfl) (by kernel_rfl) (by kernel_rfl) fun y => ?_
    refine HOps.call okT (by decide) (by kernel_rfl) (by kernel_rfl) (by kernel_rfl) (f := 17) (args := [ix0]) (h1 := mkH (objsB n must rd c d) 5012) (by kernel_rfl)
      (HCall.pureIn (hb := mkH (objsB n must rd c d) 5012) copy_ix rfl (sub 5012 _)) (by kernel_rfl) ?_
    rintro e' h2' ⟨rfl, rfl⟩
    refine HOps.run okT (by kernel_rfl) (by kernel_rfl) 6 (by kernel_rfl) (by kernel_rfl) ?_
    refine HOps.nil (by kernel_rfl) ?_
    refine HCode.runR okT 10 (by kernel_rfl) (by kernel_rfl) (by kernel_rfl) ?_
    exact ⟨rfl, errI 0, by kernel_rfl, h2 (by simpa using hb) _ (by kernel_rfl)⟩

theorem wf_q (m : M) (must : Int) (rd : Bool) (h1 : WfO m (.cells (qCells must rd) 0)) (h2 : WfV m qP) : WfO m (.cells (qCells must true) 0) := by
  intro v hv
  simp only [qCells, List.mem_cons, List.not_mem_nil, or_false] at hv
  have old : ∀ v, v ∈ qCells must rd → WfV m v := h1
  rcases hv with rfl | rfl | rfl | rfl | rfl | rfl | rfl | rfl | rfl | rfl | rfl | rfl | rfl
  · exact old _ (by simp [qCells])
  · exact old _ (by simp [qCells])
  · exact old _ (by simp [qCells])
  · exact old _ (by simp [qCells])
  · exact old _ (by simp [qCells])
  · exact old _ (by simp [qCells])
  · exact ⟨_, .bool _⟩
  · exact old _ (by simp [qCells])
  · exact old _ (by simp [qCells])
  · exact old _ (by simp [qCells])
  · exact old _ (by simp [qCells])
  · exact old _ (by simp [qCells])
  · obtain ⟨q', hq⟩ := h2
    exact ⟨.func (.func 18) #[q'] #[], .func (.func 18) (.cons hq .nil) .nil⟩

theorem read_few (n : Nat) (must : Int) (rd : Bool) (c d : Nat → Nat) (hn : n ≤ 1000000) (h : (cnt n c : Int) < must) :
    HCall Tryz.prog 7 [qP, ix0] (mkH (objsG n must rd c d) 5010) fun e' h' => e' = .returned (errI 271) ∧ h' = mkH (objsG n must rd c d) 5010 :=
  HCall.gcL (read_walk n must rd c d hn (fun _ h' hh => ⟨rfl, hh⟩) (fun hh => absurd h hh)) (by kernel_rfl) (by kernel_rfl) fun m hk => ⟨fun p hp => by
    simp only [objsG, List.mem_cons, List.not_mem_nil, or_false] at hp
    rcases hp with rfl | rfl | rfl | rfl | rfl | rfl
    · exact hk.obj 5001 (by kernel_rfl)
    · exact wf_es _ _ _ _
    · exact hk.obj 5003 (by kernel_rfl)
    · exact hk.obj 5004 (by kernel_rfl)
    · exact hk.obj 5005 (by kernel_rfl)
    · exact wf_said _ _ _ _, ⟨_, .int _ _⟩⟩
theorem read_ok (n : Nat) (must : Int) (rd : Bool) (c d : Nat → Nat) (hn : n ≤ 1000000) (h : ¬ (cnt n c : Int) < must) :
    HCall Tryz.prog 7 [qP, ix0] (mkH (objsG n must rd c d) 5010) fun e' h' => e' = .returned (errI 0) ∧ h' = mkH (objsG n must true c d) 5010 :=
  HCall.gcL (read_walk n must rd c d hn (fun hh => absurd hh h) (fun _ h' hh => ⟨rfl, hh⟩)) (by kernel_rfl) (by kernel_rfl) fun m hk => ⟨fun p hp => by
    simp only [objsG, List.mem_cons, List.not_mem_nil, or_false] at hp
    rcases hp with rfl | rfl | rfl | rfl | rfl | rfl
    · exact wf_q m must rd (hk.obj 5001 (by kernel_rfl)) (hk.2 _ (by simp))
    · exact wf_es _ _ _ _
    · exact hk.obj 5003 (by kernel_rfl)
    · exact hk.obj 5004 (by kernel_rfl)
    · exact hk.obj 5005 (by kernel_rfl)
    · exact wf_said _ _ _ _, ⟨_, .int _ _⟩⟩
end Go.Proofs.YtjmnfkeeiegfdaaGreatDoor
