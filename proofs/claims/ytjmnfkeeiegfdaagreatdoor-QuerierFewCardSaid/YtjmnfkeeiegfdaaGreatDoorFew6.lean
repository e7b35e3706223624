/-
  QuerierFew: the loop over the nodes. Own work.
  QuerierFew: the loop over the nodes: Give, and who has answered. Own work.
  QuerierFew: the loop over the nodes: others, Read, Answer. Own work.
  QuerierFew: the whole loop, and the end. Own work.
-/
import Derived.Test.YtjmnfkeeiegfdaaGreatDoorFew2
import Derived.Test.YtjmnfkeeiegfdaaGreatDoorAm7
import Derived.Test.YtjmnfkeeiegfdaaGreatDoorFewAwake
namespace Go.Proofs.YtjmnfkeeiegfdaaGreatDoor
open Go Go.AM

def nodesV (base : Option Addr) (len cap : Nat) : Value := .slice base len cap
def saidV (n : Nat) : Value := .slice (some ⟨5006, 0, none⟩) n n
/-- what is known of the nodes -/
def ctxN (xs : List Int) : Ctx where
  p := fun K w0 m => 0 < xs.length → ∃ (kn : Blk) (cs : Array Value) (ty : TypeId) (fz : Nat × Nat), m 7 = some kn ∧ K.blk kn.b ∧ w0.heap[kn.b]? = some (.cells cs ty fz) ∧ ∀ (i : Nat) (x : Int), xs[i]? = some x → cs[i + kn.sh]? = some (.int .i64 x)
  le := fun hle h hl => by
    obtain ⟨kn, cs, ty, fz, h1, h2⟩ := h hl
    exact ⟨kn, cs, ty, fz, hle _ _ h1, h2⟩
def spL (nv : Value) (n : Nat) (k many : Int) (i : Nat) : List (Nat × Value) := [(2, nv), (6, .bool false), (8, .int .i64 (n : Nat)), (9, .int .i64 k), (11, qP), (13, saidV n), (14, .int .i64 many), (15, .int .i64 (i : Nat))]
noncomputable def cB : Code := Code.at c3 [2, 2, 2, 2, 2, 2, 2, 2, 1, 2, 1, 1]

def nodeAt (x : Int) (n : Nat) : Nat := (lowI x).toNat % (n + 2)
theorem nodeAt_eq (x : Int) (n : Nat) : (lowI x).tmod ((n : Int) + 2) = (nodeAt x n : Nat) := by
  obtain ⟨h1, h2⟩ := lowI_bounds x
  obtain ⟨k, hk⟩ := Int.eq_ofNat_of_zero_le h1
  unfold nodeAt
  rw [hk]
  simp only [Int.toNat_natCast]
  have : ((n : Int) + 2) = ((n + 2 : Nat) : Int) := by omega
  rw [this]
  rfl
def idxN (base : Option Addr) (len : Nat) (i : Nat) : Option Value :=
  match base with
  | some ⟨b, off, none⟩ => if decide ((0 : Int) ≤ (i : Nat)) && decide (((i : Nat) : Int) < (len : Nat)) then some (.pointer (some ⟨b, off + ((i : Nat) : Int).toNat * 1, none⟩)) else none
  | _ => none
def scalarB (T : Tbl) (t : Nat) : Bool := match T.ty t with
  | some ti => !aggT ti
  | none => false
theorem scalar_of {T : Tbl} {t : Nat} (h : scalarB T t = true) : ∃ ti, T.ty t = some ti ∧ aggT ti = false := by
  unfold scalarB at h
  split at h
  · rename_i ti ht; exact ⟨ti, ht, by simpa using h⟩
  · cases h
theorem ty3 : ∃ ti, T.ty 3 = some ti ∧ aggT ti = false := scalar_of (by kernel_rfl)
/-- region 15: which node -/
theorem loop15 (n : Nat) (k : Int) (must : Int) (rd : Bool) (c : Nat → Nat) (xs : List Int) (base : Option Addr) (cap i : Nat) (x : Int) (hn : n ≤ 1000000) (hbase : 0 < xs.length → base = some ⟨7, 0, none⟩) (hx : xs[i]? = some x) (y : Nat → Value) {Φ : AExit → PT Value → List Deferred → AH → Prop}
    (next : ∀ y, Φ .normal (mkT 141 ((16, .int .i64 (nodeAt x n : Nat)) :: spL (nodesV base xs.length cap) n k (cnt n c : Nat) i) y) [] (mkH (objsG n must rd c c) 5010)) :
    HCode Tryz.prog (ctxN xs) (Code.at cB [2, 1, 1, 1]) (mkT 141 (spL (nodesV base xs.length cap) n k (cnt n c : Nat) i) y) 141 [] none (mkH (objsG n must rd c c) 5010) Φ := by
  have hi : i < xs.length := (List.getElem?_eq_some_iff.1 hx).1
  have hb := hbase (by omega)
  refine HCode.region (by kernel_rfl) ?_
  refine HOps.run okT (by kernel_rfl) (by kernel_rfl) 2 (by kernel_rfl) (by kernel_rfl) ?_
  refine HOps.canon ((69, nodesV base xs.length cap) :: (70, .int .i64 (i : Nat)) :: spL (nodesV base xs.length cap) n k (cnt n c : Nat) i) (objsG n must rd c c) 5010 (by kernel_rfl) (by kernel_rfl) (by kernel_rfl) (by kernel_rfl) (by kernel_rfl) fun y => ?_
  subst hb
  refine HOps.op okT (by decide) (by kernel_rfl) (by kernel_rfl) (by kernel_rfl) (x := .pointer (some ⟨7, i, none⟩)) (h' := mkH (objsG n must rd c c) 5010)
    (Eq.trans (b := R.ofOpt "indexAddr" (mkH (objsG n must rd c c) 5010) (idxN (some ⟨7, 0, none⟩) xs.length i)) (by kernel_rfl) (by
      have h1 : (decide ((0 : Int) ≤ (i : Nat)) && decide (((i : Nat) : Int) < (xs.length : Nat))) = true := by simp; omega
      simp only [idxN, h1, if_true]
      simp [R.ofOpt])) (by kernel_rfl) ?_
  obtain ⟨ti, ht1, ht2⟩ := ty3
  refine HOps.opW (by kernel_rfl) (by kernel_rfl) (by kernel_rfl) (by kernel_rfl) (x := .int .i64 x) (fun {K w0 m w a} hC r ht => ?_) (by kernel_rfl) ?_
  · obtain ⟨kn, cs, ty, fz, q1, q2, q3, q4⟩ := hC (by omega)
    refine ⟨.int .i64 x, load_world okT ht1 ht2 (x := .tmp 71) (by kernel_rfl) (j := 7) (off := i) (by
      have := ht 71
      rw [show tget (putD (mkT 141 ((69, nodesV (some ⟨7, 0, none⟩) xs.length cap) :: (70, .int .i64 (i : Nat)) :: spL (nodesV (some ⟨7, 0, none⟩) xs.length cap) n k (cnt n c : Nat) i) y) (opAt (Code.ops (Code.at cB [2, 1, 1, 1])) (0 + 2)).dst (.pointer (some ⟨7, i, none⟩))) 71 = .pointer (some ⟨7, i, none⟩) by kernel_rfl] at this
      exact this) q1 (by rw [(r.keep _ q2).2]; exact q3) (q4 i x hx), .int _ _⟩
  refine HOps.canon ((72, .int .i64 x) :: spL (nodesV (some ⟨7, 0, none⟩) xs.length cap) n k (cnt n c : Nat) i) (objsG n must rd c c) 5010 (by kernel_rfl) (by kernel_rfl) (by kernel_rfl) (by kernel_rfl) (by kernel_rfl) fun y => ?_
  refine HOps.call okT (by decide) (by kernel_rfl) (by kernel_rfl) (by kernel_rfl) (f := 4) (args := [.int .i64 x]) (h1 := mkH (objsG n must rd c c) 5010) (by kernel_rfl) (low x _) (by kernel_rfl) ?_
  rintro e' h2' ⟨rfl, rfl⟩
  refine HOps.run okT (by kernel_rfl) (by kernel_rfl) 1 (by kernel_rfl) (by kernel_rfl) ?_
  refine HOps.canon ((73, .int .i64 (lowI x)) :: (74, .int .i64 (n : Nat)) :: spL (nodesV (some ⟨7, 0, none⟩) xs.length cap) n k (cnt n c : Nat) i) (objsG n must rd c c) 5010 (by kernel_rfl) (by kernel_rfl) (by kernel_rfl) (by kernel_rfl) (by kernel_rfl) fun y => ?_
  refine HOps.op okT (by decide) (by kernel_rfl) (by kernel_rfl) (by kernel_rfl) (x := .int .i64 ((n : Int) + 2)) (h' := mkH (objsG n must rd c c) 5010)
    (Eq.trans (b := .v (.int .i64 (IntKind.i64.wrap ((n : Int) + 2))) (mkH (objsG n must rd c c) 5010)) (by kernel_rfl) (by rw [wrap_i64_small (by omega) (by omega)])) (by kernel_rfl) ?_
  refine HOps.op okT (by decide) (by kernel_rfl) (by kernel_rfl) (by kernel_rfl) (x := .int .i64 (nodeAt x n : Nat)) (h' := mkH (objsG n must rd c c) 5010)
    (Eq.trans (b := R.ofOpt "binOp" (mkH (objsG n must rd c c) 5010) (if ((n : Int) + 2) = 0 then none else some (.int .i64 ((lowI x).tmod ((n : Int) + 2))))) (by kernel_rfl) (by rw [if_neg (by omega), nodeAt_eq]; rfl)) (by kernel_rfl) ?_
  refine HOps.run okT (by kernel_rfl) (by kernel_rfl) 1 (by kernel_rfl) (by kernel_rfl) ?_
  refine HOps.canon ((16, .int .i64 (nodeAt x n : Nat)) :: spL (nodesV (some ⟨7, 0, none⟩) xs.length cap) n k (cnt n c : Nat) i) (objsG n must rd c c) 5010 (by kernel_rfl) (by kernel_rfl) (by kernel_rfl) (by kernel_rfl) (by kernel_rfl) fun y => ?_
  exact HOps.nil (by kernel_rfl) (next y)
end Go.Proofs.YtjmnfkeeiegfdaaGreatDoor
namespace Go.Proofs.YtjmnfkeeiegfdaaGreatDoor
open Go Go.AM

theorem saidOf_length (n : Nat) (c : Nat → Nat) : (saidOf n c).length = n := by simp [saidOf]
theorem saidOf_get {n : Nat} {c : Nat → Nat} {j : Nat} (h : j < n) : (saidOf n c)[j]? = some (.bool (decide (0 < c j))) := by
  simp [saidOf, h]
theorem saidOf_set {n k : Nat} (c : Nat → Nat) : setAt (saidOf n c) k [.bool true] = saidOf n (upd c k) := by
  simp only [setAt]
  apply List.ext_getElem?
  intro j
  rw [List.getElem?_set]
  by_cases hj : j < n
  · rw [saidOf_get hj, saidOf_get hj, saidOf_length]
    by_cases hk : k = j
    · subst hk; simp [upd, hj]
    · have : ¬ j = k := fun e => hk e.symm
      simp [hk, upd, this]
  · have h1 : ∀ c, (saidOf n c)[j]? = none := fun c => List.getElem?_eq_none (by rw [saidOf_length]; omega)
    rw [h1, h1, saidOf_length]
    split <;> simp; omega
theorem saidOf_upd {n k : Nat} {c : Nat → Nat} (h : 0 < c k) : saidOf n (upd c k) = saidOf n c := by
  unfold saidOf
  apply List.map_congr_left
  intro j _
  by_cases hj : j = k
  · subst hj; simp [upd, h]
  · simp [upd, hj]
theorem cntL_upd_pos {k : Nat} {c : Nat → Nat} (h : 0 < c k) (l : List Nat) : cntL (upd c k) l = cntL c l := by
  unfold cntL
  congr 1
  apply List.filter_congr
  intro j _
  by_cases hj : j = k
  · subst hj; simp [upd, h]
  · simp [upd, hj]
theorem cntL_upd_zero {k : Nat} {c : Nat → Nat} (h : c k = 0) : ∀ (l : List Nat), l.Nodup → cntL (upd c k) l = cntL c l + (if k ∈ l then 1 else 0)
  | [], _ => by simp [cntL]
  | j :: l, hn => by
    obtain ⟨h1, h2⟩ := List.nodup_cons.1 hn
    have ih := cntL_upd_zero h l h2
    unfold cntL at ih ⊢
    by_cases hj : j = k
    · subst hj
      rw [List.filter_cons_of_pos (by simp [upd]), List.filter_cons_of_neg (by simp [h]), List.length_cons, ih]
      simp [h1]
    · have hk : (k ∈ j :: l) ↔ k ∈ l := by simp [List.mem_cons, show ¬ k = j from fun e => hj e.symm]
      simp only [hk]
      by_cases hp : 0 < c j
      · rw [List.filter_cons_of_pos (by simp [upd, hj, hp]), List.filter_cons_of_pos (by simp [hp]), List.length_cons, List.length_cons, ih]; omega
      · rw [List.filter_cons_of_neg (by simp [upd, hj]; omega), List.filter_cons_of_neg (by simpa using hp), ih]
theorem cnt_upd_zero {n k : Nat} {c : Nat → Nat} (hk : k < n) (h : c k = 0) : cnt n (upd c k) = cnt n c + 1 := by
  unfold cnt
  rw [cntL_upd_zero h _ List.nodup_range, if_pos (List.mem_range.2 hk)]
theorem cnt_le (n : Nat) (c : Nat → Nat) : cnt n c ≤ n := by
  have := cntL_le c (List.range n)
  rwa [List.length_range] at this

def idxS (n at' : Nat) : Option Value :=
  if decide ((0 : Int) ≤ (at' : Nat)) && decide (((at' : Nat) : Int) < (n : Nat)) then some (.pointer (some ⟨5006, 0 + ((at' : Nat) : Int).toNat * 1, none⟩)) else none
theorem idxS_eq {n at' : Nat} (h : at' < n) : idxS n at' = some (.pointer (some ⟨5006, at', none⟩)) := by
  have h1 : (decide ((0 : Int) ≤ (at' : Nat)) && decide (((at' : Nat) : Int) < (n : Nat))) = true := by simp; omega
  unfold idxS
  rw [h1]
  simp
noncomputable def storeS (n at' : Nat) (d : Nat → Nat) (h : AH) : Option AH :=
  if Nat.ble (at' + [Value.bool true].length) (saidOf n d).length && Nat.blt 5006 lim && [Value.bool true].all oneCell then some (h.set 5006 (.cells (setAt (saidOf n d) at' [.bool true]) 1)) else none
theorem storeS_eq {n at' : Nat} (h : at' < n) (d : Nat → Nat) (hh : AH) : storeS n at' d hh = some (hh.set 5006 (.cells (saidOf n (upd d at')) 1)) := by
  unfold storeS
  have h1 : (Nat.ble (at' + [Value.bool true].length) (saidOf n d).length && Nat.blt 5006 lim && [Value.bool true].all oneCell) = true := by
    rw [saidOf_length]
    simp [Nat.ble_eq, Nat.blt_eq, lim, oneCell]
    omega
  rw [if_pos h1, saidOf_set]

section
variable (n : Nat) (k : Int) (must : Int) (rd : Bool) (c : Nat → Nat) (xs : List Int) (base : Option Addr) (cap i : Nat)

theorem loopIn (at' : Nat) (h : at' < n) (hn : n ≤ 1000000) (hc : c at' < 9223372036854775807) (y : Nat → Value) {Φ : AExit → PT Value → List Deferred → AH → Prop}
    (next : ∀ y, HCode Tryz.prog (ctxN xs) (Code.at cB [2, 1, 1, 2, 2, 2, 2]) (mkT 141 (spL (nodesV base xs.length cap) n k (cnt n (upd c at') : Nat) i) y) 141 [] none (mkH (objsG n must rd (upd c at') (upd c at')) 5010) Φ) :
    HCode Tryz.prog (ctxN xs) (Code.at cB [2, 1, 1, 2]) (mkT 141 ((16, .int .i64 (at' : Nat)) :: spL (nodesV base xs.length cap) n k (cnt n c : Nat) i) y) 141 [] none (mkH (objsG n must rd c c) 5010) Φ := by
  have hcnt := cnt_le n c
  have hlt : decide (((at' : Nat) : Int) < (n : Nat)) = true := by simp; omega
  refine HCode.seqC (by kernel_rfl) ?_
  refine HCode.region (by kernel_rfl) ?_
  refine HOps.run okT (by kernel_rfl) (by kernel_rfl) 2 (by kernel_rfl) (by kernel_rfl) ?_
  refine HOps.canon ((77, qP) :: (78, .int .i64 (at' : Nat)) :: (16, .int .i64 (at' : Nat)) :: spL (nodesV base xs.length cap) n k (cnt n c : Nat) i) (objsG n must rd c c) 5010 (by kernel_rfl) (by kernel_rfl) (by kernel_rfl) (by kernel_rfl) (by kernel_rfl) fun y => ?_
  refine HOps.call okT (by decide) (by kernel_rfl) (by kernel_rfl) (by kernel_rfl) (f := 6) (args := [qP, .int .i64 (at' : Nat), nilS]) (h1 := mkH (objsG n must rd c c) 5010) (by kernel_rfl) (give_in' n at' must rd c c h hc) (by kernel_rfl) ?_
  rintro e' h2' ⟨rfl, rfl⟩
  refine HOps.run okT (by kernel_rfl) (by kernel_rfl) 1 (by kernel_rfl) (by kernel_rfl) ?_
  refine HOps.canon ((16, .int .i64 (at' : Nat)) :: (17, errI 0) :: spL (nodesV base xs.length cap) n k (cnt n c : Nat) i) (objsG n must rd (upd c at') c) 5010 (by kernel_rfl) (by kernel_rfl) (by kernel_rfl) (by kernel_rfl) (by kernel_rfl) fun y => ?_
  refine HOps.nil (by kernel_rfl) ?_
  -- the answer is as the node is
  refine HCode.seqC (by kernel_rfl) ?_
  refine HCode.seqC (by kernel_rfl) ?_
  refine HCode.region (by kernel_rfl) ?_
  refine HOps.run okT (by kernel_rfl) (by kernel_rfl) 4 (by kernel_rfl) (by kernel_rfl) ?_
  refine HOps.canon ((81, .bool true) :: (82, .int .i64 (at' : Nat)) :: (83, .int .i64 (n : Nat)) :: (16, .int .i64 (at' : Nat)) :: spL (nodesV base xs.length cap) n k (cnt n c : Nat) i) (objsG n must rd (upd c at') c) 5010 (by kernel_rfl) (by kernel_rfl) (by kernel_rfl) (by kernel_rfl) (by kernel_rfl) fun y => ?_
  refine HOps.op okT (by decide) (by kernel_rfl) (by kernel_rfl) (by kernel_rfl) (x := .bool true) (h' := mkH (objsG n must rd (upd c at') c) 5010)
    (Eq.trans (b := .v (.bool (decide (((at' : Nat) : Int) < (n : Nat)))) (mkH (objsG n must rd (upd c at') c) 5010)) (by kernel_rfl) (by rw [hlt])) (by kernel_rfl) ?_
  refine HOps.run okT (by kernel_rfl) (by kernel_rfl) 1 (by kernel_rfl) (by kernel_rfl) ?_
  refine HOps.canon ((85, .bool false) :: (16, .int .i64 (at' : Nat)) :: spL (nodesV base xs.length cap) n k (cnt n c : Nat) i) (objsG n must rd (upd c at') c) 5010 (by kernel_rfl) (by kernel_rfl) (by kernel_rfl) (by kernel_rfl) (by kernel_rfl) fun y => ?_
  refine HOps.nil (by kernel_rfl) ?_
  refine HCode.cond (by kernel_rfl) (by kernel_rfl) (b := false) (by kernel_rfl) (fun h => by cases h) fun _ => ?_
  refine HCode.skip (by kernel_rfl) ?_
  -- has it answered before?
  refine HCode.seqC (by kernel_rfl) ?_
  refine HCode.seqC (by kernel_rfl) ?_
  refine HCode.region (by kernel_rfl) ?_
  refine HOps.run okT (by kernel_rfl) (by kernel_rfl) 2 (by kernel_rfl) (by kernel_rfl) ?_
  refine HOps.canon ((86, .int .i64 (at' : Nat)) :: (87, .int .i64 (n : Nat)) :: (16, .int .i64 (at' : Nat)) :: spL (nodesV base xs.length cap) n k (cnt n c : Nat) i) (objsG n must rd (upd c at') c) 5010 (by kernel_rfl) (by kernel_rfl) (by kernel_rfl) (by kernel_rfl) (by kernel_rfl) fun y => ?_
  refine HOps.op okT (by decide) (by kernel_rfl) (by kernel_rfl) (by kernel_rfl) (x := .bool true) (h' := mkH (objsG n must rd (upd c at') c) 5010)
    (Eq.trans (b := .v (.bool (decide (((at' : Nat) : Int) < (n : Nat)))) (mkH (objsG n must rd (upd c at') c) 5010)) (by kernel_rfl) (by rw [hlt])) (by kernel_rfl) ?_
  refine HOps.run okT (by kernel_rfl) (by kernel_rfl) 3 (by kernel_rfl) (by kernel_rfl) ?_
  refine HOps.canon ((89, .bool true) :: (90, saidV n) :: (91, .int .i64 (at' : Nat)) :: (16, .int .i64 (at' : Nat)) :: spL (nodesV base xs.length cap) n k (cnt n c : Nat) i) (objsG n must rd (upd c at') c) 5010 (by kernel_rfl) (by kernel_rfl) (by kernel_rfl) (by kernel_rfl) (by kernel_rfl) fun y => ?_
  refine HOps.op okT (by decide) (by kernel_rfl) (by kernel_rfl) (by kernel_rfl) (x := .pointer (some ⟨5006, at', none⟩)) (h' := mkH (objsG n must rd (upd c at') c) 5010)
    (Eq.trans (b := R.ofOpt "indexAddr" (mkH (objsG n must rd (upd c at') c) 5010) (idxS n at')) (by kernel_rfl) (by rw [idxS_eq h]; rfl)) (by kernel_rfl) ?_
  refine HOps.op okT (by decide) (by kernel_rfl) (by kernel_rfl) (by kernel_rfl) (x := .bool (decide (0 < c at'))) (h' := mkH (objsG n must rd (upd c at') c) 5010)
    (Eq.trans (b := R.ofOpt "load" (mkH (objsG n must rd (upd c at') c) 5010) ((saidOf n c)[at']?)) (by kernel_rfl) (by rw [saidOf_get h]; rfl)) (by kernel_rfl) ?_
  refine HOps.run okT (by kernel_rfl) (by kernel_rfl) 2 (by kernel_rfl) (by kernel_rfl) ?_
  refine HOps.canon ((95, .bool (!decide (0 < c at'))) :: (16, .int .i64 (at' : Nat)) :: spL (nodesV base xs.length cap) n k (cnt n c : Nat) i) (objsG n must rd (upd c at') c) 5010 (by kernel_rfl) (by kernel_rfl) (by kernel_rfl) (by kernel_rfl) (by kernel_rfl) fun y => ?_
  refine HOps.nil (by kernel_rfl) ?_
  refine HCode.cond (by kernel_rfl) (by kernel_rfl) (b := !decide (0 < c at')) (by kernel_rfl) (fun hb => ?_) fun hb => ?_
  · have hz : c at' = 0 := by simpa using hb
    have hcu := cnt_upd_zero h hz
    refine HCode.seqC (by kernel_rfl) ?_
    refine HCode.region (by kernel_rfl) ?_
    refine HOps.run okT (by kernel_rfl) (by kernel_rfl) 2 (by kernel_rfl) (by kernel_rfl) ?_
    refine HOps.canon ((96, saidV n) :: (97, .int .i64 (at' : Nat)) :: spL (nodesV base xs.length cap) n k (cnt n c : Nat) i) (objsG n must rd (upd c at') c) 5010 (by kernel_rfl) (by kernel_rfl) (by kernel_rfl) (by kernel_rfl) (by kernel_rfl) fun y => ?_
    refine HOps.op okT (by decide) (by kernel_rfl) (by kernel_rfl) (by kernel_rfl) (x := .pointer (some ⟨5006, at', none⟩)) (h' := mkH (objsG n must rd (upd c at') c) 5010)
      (Eq.trans (b := R.ofOpt "indexAddr" (mkH (objsG n must rd (upd c at') c) 5010) (idxS n at')) (by kernel_rfl) (by rw [idxS_eq h]; rfl)) (by kernel_rfl) ?_
    refine HOps.op okT (by decide) (by kernel_rfl) (by kernel_rfl) (by kernel_rfl) (x := undef) (h' := (mkH (objsG n must rd (upd c at') c) 5010).set 5006 (.cells (saidOf n (upd c at')) 1))
      (Eq.trans (b := oStored (storeS n at' c (mkH (objsG n must rd (upd c at') c) 5010))) (by kernel_rfl) (by rw [storeS_eq h]; rfl)) (by kernel_rfl) ?_
    refine HOps.canon (spL (nodesV base xs.length cap) n k (cnt n c : Nat) i) (objsG n must rd (upd c at') (upd c at')) 5010 (by kernel_rfl) (by kernel_rfl) (by kernel_rfl) (by kernel_rfl) (by kernel_rfl) fun y => ?_
    refine HOps.nil (by kernel_rfl) ?_
    refine HCode.region (by kernel_rfl) ?_
    refine HOps.run okT (by kernel_rfl) (by kernel_rfl) 1 (by kernel_rfl) (by kernel_rfl) ?_
    refine HOps.canon ((99, .int .i64 (cnt n c : Nat)) :: spL (nodesV base xs.length cap) n k (cnt n c : Nat) i) (objsG n must rd (upd c at') (upd c at')) 5010 (by kernel_rfl) (by kernel_rfl) (by kernel_rfl) (by kernel_rfl) (by kernel_rfl) fun y => ?_
    refine HOps.op okT (by decide) (by kernel_rfl) (by kernel_rfl) (by kernel_rfl) (x := .int .i64 (cnt n (upd c at') : Nat)) (h' := mkH (objsG n must rd (upd c at') (upd c at')) 5010)
      (Eq.trans (b := .v (.int .i64 (IntKind.i64.wrap ((cnt n c : Nat) + 1 : Int))) (mkH (objsG n must rd (upd c at') (upd c at')) 5010)) (by kernel_rfl) (by rw [wrap_i64_small (by omega) (by omega), hcu]; rfl)) (by kernel_rfl) ?_
    refine HOps.run okT (by kernel_rfl) (by kernel_rfl) 1 (by kernel_rfl) (by kernel_rfl) ?_
    refine HOps.canon (spL (nodesV base xs.length cap) n k (cnt n (upd c at') : Nat) i) (objsG n must rd (upd c at') (upd c at')) 5010 (by kernel_rfl) (by kernel_rfl) (by kernel_rfl) (by kernel_rfl) (by kernel_rfl) fun y => ?_
    exact HOps.nil (by kernel_rfl) (next y)
  · have hp : 0 < c at' := by simpa using hb
    refine HCode.canon (spL (nodesV base xs.length cap) n k (cnt n c : Nat) i) (objsG n must rd (upd c at') c) 5010 (by kernel_rfl) (by kernel_rfl) (by kernel_rfl) (by kernel_rfl) (by kernel_rfl) fun y => ?_
    refine HCode.skip (by kernel_rfl) ?_
    have h1 : cnt n (upd c at') = cnt n c := cntL_upd_pos hp _
    have h2 : objsG n must rd (upd c at') (upd c at') = objsG n must rd (upd c at') c := by unfold objsG; rw [saidOf_upd hp]
    have := next y
    rw [h1, h2] at this
    exact this
end
end Go.Proofs.YtjmnfkeeiegfdaaGreatDoor
namespace Go.Proofs.YtjmnfkeeiegfdaaGreatDoor
open Go Go.AM
section
variable (n : Nat) (k : Int) (must : Int) (rd : Bool) (c : Nat → Nat) (xs : List Int) (base : Option Addr) (cap i : Nat)

theorem loopOut (at' : Nat) (h : ¬ at' < n) (y : Nat → Value) {Φ : AExit → PT Value → List Deferred → AH → Prop}
    (next : ∀ y, HCode Tryz.prog (ctxN xs) (Code.at cB [2, 1, 1, 2, 2, 2, 2]) (mkT 141 (spL (nodesV base xs.length cap) n k (cnt n c : Nat) i) y) 141 [] none (mkH (objsG n must rd c c) 5010) Φ) :
    HCode Tryz.prog (ctxN xs) (Code.at cB [2, 1, 1, 2]) (mkT 141 ((16, .int .i64 (at' : Nat)) :: spL (nodesV base xs.length cap) n k (cnt n c : Nat) i) y) 141 [] none (mkH (objsG n must rd c c) 5010) Φ := by
  have hlt : decide (((at' : Nat) : Int) < (n : Nat)) = false := by simp; omega
  refine HCode.seqC (by kernel_rfl) ?_
  refine HCode.region (by kernel_rfl) ?_
  refine HOps.run okT (by kernel_rfl) (by kernel_rfl) 2 (by kernel_rfl) (by kernel_rfl) ?_
  refine HOps.canon ((77, qP) :: (78, .int .i64 (at' : Nat)) :: (16, .int .i64 (at' : Nat)) :: spL (nodesV base xs.length cap) n k (cnt n c : Nat) i) (objsG n must rd c c) 5010 (by kernel_rfl) (by kernel_rfl) (by kernel_rfl) (by kernel_rfl) (by kernel_rfl) fun y => ?_
  refine HOps.call okT (by decide) (by kernel_rfl) (by kernel_rfl) (by kernel_rfl) (f := 6) (args := [qP, .int .i64 (at' : Nat), nilS]) (h1 := mkH (objsG n must rd c c) 5010) (by kernel_rfl) (give_out' n at' must rd c c h) (by kernel_rfl) ?_
  rintro e' h2' ⟨rfl, rfl⟩
  refine HOps.run okT (by kernel_rfl) (by kernel_rfl) 1 (by kernel_rfl) (by kernel_rfl) ?_
  refine HOps.canon ((16, .int .i64 (at' : Nat)) :: (17, errI 270) :: spL (nodesV base xs.length cap) n k (cnt n c : Nat) i) (objsG n must rd c c) 5010 (by kernel_rfl) (by kernel_rfl) (by kernel_rfl) (by kernel_rfl) (by kernel_rfl) fun y => ?_
  refine HOps.nil (by kernel_rfl) ?_
  refine HCode.seqC (by kernel_rfl) ?_
  refine HCode.seqC (by kernel_rfl) ?_
  refine HCode.region (by kernel_rfl) ?_
  refine HOps.run okT (by kernel_rfl) (by kernel_rfl) 4 (by kernel_rfl) (by kernel_rfl) ?_
  refine HOps.canon ((81, .bool false) :: (82, .int .i64 (at' : Nat)) :: (83, .int .i64 (n : Nat)) :: (16, .int .i64 (at' : Nat)) :: spL (nodesV base xs.length cap) n k (cnt n c : Nat) i) (objsG n must rd c c) 5010 (by kernel_rfl) (by kernel_rfl) (by kernel_rfl) (by kernel_rfl) (by kernel_rfl) fun y => ?_
  refine HOps.op okT (by decide) (by kernel_rfl) (by kernel_rfl) (by kernel_rfl) (x := .bool false) (h' := mkH (objsG n must rd c c) 5010)
    (Eq.trans (b := .v (.bool (decide (((at' : Nat) : Int) < (n : Nat)))) (mkH (objsG n must rd c c) 5010)) (by kernel_rfl) (by rw [hlt])) (by kernel_rfl) ?_
  refine HOps.run okT (by kernel_rfl) (by kernel_rfl) 1 (by kernel_rfl) (by kernel_rfl) ?_
  refine HOps.canon ((85, .bool false) :: (16, .int .i64 (at' : Nat)) :: spL (nodesV base xs.length cap) n k (cnt n c : Nat) i) (objsG n must rd c c) 5010 (by kernel_rfl) (by kernel_rfl) (by kernel_rfl) (by kernel_rfl) (by kernel_rfl) fun y => ?_
  refine HOps.nil (by kernel_rfl) ?_
  refine HCode.cond (by kernel_rfl) (by kernel_rfl) (b := false) (by kernel_rfl) (fun h => by cases h) fun _ => ?_
  refine HCode.skip (by kernel_rfl) ?_
  refine HCode.seqC (by kernel_rfl) ?_
  refine HCode.seqC (by kernel_rfl) ?_
  refine HCode.region (by kernel_rfl) ?_
  refine HOps.run okT (by kernel_rfl) (by kernel_rfl) 2 (by kernel_rfl) (by kernel_rfl) ?_
  refine HOps.canon ((86, .int .i64 (at' : Nat)) :: (87, .int .i64 (n : Nat)) :: (16, .int .i64 (at' : Nat)) :: spL (nodesV base xs.length cap) n k (cnt n c : Nat) i) (objsG n must rd c c) 5010 (by kernel_rfl) (by kernel_rfl) (by kernel_rfl) (by kernel_rfl) (by kernel_rfl) fun y => ?_
  refine HOps.op okT (by decide) (by kernel_rfl) (by kernel_rfl) (by kernel_rfl) (x := .bool false) (h' := mkH (objsG n must rd c c) 5010)
    (Eq.trans (b := .v (.bool (decide (((at' : Nat) : Int) < (n : Nat)))) (mkH (objsG n must rd c c) 5010)) (by kernel_rfl) (by rw [hlt])) (by kernel_rfl) ?_
  refine HOps.run okT (by kernel_rfl) (by kernel_rfl) 7 (by kernel_rfl) (by kernel_rfl) ?_
  refine HOps.canon ((95, .bool false) :: spL (nodesV base xs.length cap) n k (cnt n c : Nat) i) (objsG n must rd c c) 5010 (by kernel_rfl) (by kernel_rfl) (by kernel_rfl) (by kernel_rfl) (by kernel_rfl) fun y => ?_
  refine HOps.nil (by kernel_rfl) ?_
  refine HCode.cond (by kernel_rfl) (by kernel_rfl) (b := false) (by kernel_rfl) (fun h => by cases h) fun _ => ?_
  refine HCode.canon (spL (nodesV base xs.length cap) n k (cnt n c : Nat) i) (objsG n must rd c c) 5010 (by kernel_rfl) (by kernel_rfl) (by kernel_rfl) (by kernel_rfl) (by kernel_rfl) fun y => ?_
  exact HCode.skip (by kernel_rfl) (next y)

/-- regions 22 to 25: Read, Answer, and what they say -/
theorem loopRead (hn : n ≤ 1000000) (g : Int) (rd2 : Bool) (hr : HCall Tryz.prog 7 [qP, ix0] (mkH (objsG n must rd c c) 5010) fun e' h' => e' = .returned (errI g) ∧ h' = mkH (objsG n must rd2 c c) 5010)
    (b : Bool) (hb : decide (((cnt n c : Nat) : Int) ≥ IntKind.i64.wrap ((n : Nat) - IntKind.i64.wrap (Int.tdiv (IntKind.i64.wrap (k - 1)) 2))) = b)
    (hcase : (g = 0 ∧ b = true ∧ rd2 = true) ∨ (g = 271 ∧ b = false ∧ rd2 = false)) (y : Nat → Value) {Φ : AExit → PT Value → List Deferred → AH → Prop}
    (next : ∀ y, Φ .normal (mkT 141 (spL (nodesV base xs.length cap) n k (cnt n c : Nat) i) y) [] (mkH (objsG n must rd2 c c) 5010)) :
    HCode Tryz.prog (ctxN xs) (Code.at cB [2, 1, 1, 2, 2, 2, 2]) (mkT 141 (spL (nodesV base xs.length cap) n k (cnt n c : Nat) i) y) 141 [] none (mkH (objsG n must rd c c) 5010) Φ := by
  refine HCode.seqC (by kernel_rfl) ?_
  refine HCode.region (by kernel_rfl) ?_
  refine HOps.run okT (by kernel_rfl) (by kernel_rfl) 2 (by kernel_rfl) (by kernel_rfl) ?_
  refine HOps.canon ((101, qP) :: (102, ix0) :: spL (nodesV base xs.length cap) n k (cnt n c : Nat) i) (objsG n must rd c c) 5010 (by kernel_rfl) (by kernel_rfl) (by kernel_rfl) (by kernel_rfl) (by kernel_rfl) fun y => ?_
  refine HOps.call okT (by decide) (by kernel_rfl) (by kernel_rfl) (by kernel_rfl) (f := 7) (args := [qP, ix0]) (h1 := mkH (objsG n must rd c c) 5010) (by kernel_rfl) hr (by kernel_rfl) ?_
  rintro e' h2' ⟨rfl, rfl⟩
  refine HOps.run okT (by kernel_rfl) (by kernel_rfl) 1 (by kernel_rfl) (by kernel_rfl) ?_
  refine HOps.canon ((18, errI g) :: spL (nodesV base xs.length cap) n k (cnt n c : Nat) i) (objsG n must rd2 c c) 5010 (by kernel_rfl) (by kernel_rfl) (by kernel_rfl) (by kernel_rfl) (by kernel_rfl) fun y => ?_
  refine HOps.nil (by kernel_rfl) ?_
  refine HCode.seqC (by kernel_rfl) ?_
  refine HCode.region (by kernel_rfl) ?_
  refine HOps.run okT (by kernel_rfl) (by kernel_rfl) 1 (by kernel_rfl) (by kernel_rfl) ?_
  refine HOps.canon ((105, qP) :: (18, errI g) :: spL (nodesV base xs.length cap) n k (cnt n c : Nat) i) (objsG n must rd2 c c) 5010 (by kernel_rfl) (by kernel_rfl) (by kernel_rfl) (by kernel_rfl) (by kernel_rfl) fun y => ?_
  refine HOps.call okT (by decide) (by kernel_rfl) (by kernel_rfl) (by kernel_rfl) (f := 8) (args := [qP]) (h1 := mkH (objsG n must rd2 c c) 5010) (by kernel_rfl) (answer' n must rd2 c c) (by kernel_rfl) ?_
  rintro e' h2' ⟨rfl, rfl⟩
  refine HOps.run okT (by kernel_rfl) (by kernel_rfl) 7 (by kernel_rfl) (by kernel_rfl) ?_
  refine HOps.canon ((18, errI g) :: (21, errI (cond rd2 0 273)) :: spL (nodesV base xs.length cap) n k (cnt n c : Nat) i) (objsG n must rd2 c c) 5010 (by kernel_rfl) (by kernel_rfl) (by kernel_rfl) (by kernel_rfl) (by kernel_rfl) fun y => ?_
  refine HOps.nil (by kernel_rfl) ?_
  refine HCode.seqC (by kernel_rfl) ?_
  refine HCode.region (by kernel_rfl) ?_
  refine HOps.run okT (by kernel_rfl) (by kernel_rfl) 6 (by kernel_rfl) (by kernel_rfl) ?_
  refine HOps.canon ((110, .int .i64 (cnt n c : Nat)) :: (115, .int .i64 (IntKind.i64.wrap ((n : Nat) - IntKind.i64.wrap (Int.tdiv (IntKind.i64.wrap (k - 1)) 2)))) :: (18, errI g) :: (21, errI (cond rd2 0 273)) :: spL (nodesV base xs.length cap) n k (cnt n c : Nat) i) (objsG n must rd2 c c) 5010 (by kernel_rfl) (by kernel_rfl) (by kernel_rfl) (by kernel_rfl) (by kernel_rfl) fun y => ?_
  refine HOps.op okT (by decide) (by kernel_rfl) (by kernel_rfl) (by kernel_rfl) (x := .bool b) (h' := mkH (objsG n must rd2 c c) 5010)
    (Eq.trans (b := .v (.bool (decide (((cnt n c : Nat) : Int) ≥ IntKind.i64.wrap ((n : Nat) - IntKind.i64.wrap (Int.tdiv (IntKind.i64.wrap (k - 1)) 2))))) (mkH (objsG n must rd2 c c) 5010)) (by kernel_rfl) (by rw [hb])) (by kernel_rfl) ?_
  refine HOps.run okT (by kernel_rfl) (by kernel_rfl) 1 (by kernel_rfl) (by kernel_rfl) ?_
  refine HOps.canon ((22, .bool b) :: (18, errI g) :: (21, errI (cond rd2 0 273)) :: spL (nodesV base xs.length cap) n k (cnt n c : Nat) i) (objsG n must rd2 c c) 5010 (by kernel_rfl) (by kernel_rfl) (by kernel_rfl) (by kernel_rfl) (by kernel_rfl) fun y => ?_
  refine HOps.nil (by kernel_rfl) ?_
  rcases hcase with ⟨rfl, rfl, rfl⟩ | ⟨rfl, rfl, rfl⟩
  · refine HCode.seqC (by kernel_rfl) ?_
    refine HCode.region (by kernel_rfl) ?_
    refine HOps.run okT (by kernel_rfl) (by kernel_rfl) 23 (by kernel_rfl) (by kernel_rfl) ?_
    refine HOps.canon ((139, .bool false) :: spL (nodesV base xs.length cap) n k (cnt n c : Nat) i) (objsG n must true c c) 5010 (by kernel_rfl) (by kernel_rfl) (by kernel_rfl) (by kernel_rfl) (by kernel_rfl) fun y => ?_
    refine HOps.nil (by kernel_rfl) ?_
    refine HCode.cond (by kernel_rfl) (by kernel_rfl) (b := false) (by kernel_rfl) (fun h => by cases h) fun _ => ?_
    refine HCode.canon (spL (nodesV base xs.length cap) n k (cnt n c : Nat) i) (objsG n must true c c) 5010 (by kernel_rfl) (by kernel_rfl) (by kernel_rfl) (by kernel_rfl) (by kernel_rfl) fun y => ?_
    exact HCode.skip (by kernel_rfl) (next y)
  · refine HCode.seqC (by kernel_rfl) ?_
    refine HCode.region (by kernel_rfl) ?_
    refine HOps.run okT (by kernel_rfl) (by kernel_rfl) 23 (by kernel_rfl) (by kernel_rfl) ?_
    refine HOps.canon ((139, .bool false) :: spL (nodesV base xs.length cap) n k (cnt n c : Nat) i) (objsG n must false c c) 5010 (by kernel_rfl) (by kernel_rfl) (by kernel_rfl) (by kernel_rfl) (by kernel_rfl) fun y => ?_
    refine HOps.nil (by kernel_rfl) ?_
    refine HCode.cond (by kernel_rfl) (by kernel_rfl) (b := false) (by kernel_rfl) (fun h => by cases h) fun _ => ?_
    refine HCode.canon (spL (nodesV base xs.length cap) n k (cnt n c : Nat) i) (objsG n must false c c) 5010 (by kernel_rfl) (by kernel_rfl) (by kernel_rfl) (by kernel_rfl) (by kernel_rfl) fun y => ?_
    exact HCode.skip (by kernel_rfl) (next y)
end
end Go.Proofs.YtjmnfkeeiegfdaaGreatDoor
namespace Go.Proofs.YtjmnfkeeiegfdaaGreatDoor
open Go Go.AM

theorem wloop (n : Nat) (k D must : Int) (xs : List Int) (base : Option Addr) (cap : Nat) (hn : n ≤ 1000000) (hD : IntKind.i64.wrap ((n : Nat) - IntKind.i64.wrap (Int.tdiv (IntKind.i64.wrap (k - 1)) 2)) = D) (hmust : must = max D 0)
    (hlen : xs.length < 9223372036854775808) (hbase : 0 < xs.length → base = some ⟨7, 0, none⟩) (y : Nat → Value) {Φ : AExit → PT Value → List Deferred → AH → Prop}
    (next : ∀ i rd c y, Φ .normal (mkT 141 (spL (nodesV base xs.length cap) n k (cnt n c : Nat) i) y) [] (mkH (objsG n must rd c c) 5010)) :
    HCode Tryz.prog (ctxN xs) (Code.at c3 [2, 2, 2, 2, 2, 2, 2, 2, 1, 2]) (mkT 141 (spL (nodesV base xs.length cap) n k ((cnt n (fun _ => 0) : Nat) : Int) 0) y) 141 [] none (mkH (objsG n must false (fun _ => 0) (fun _ => 0)) 5010) Φ := by
  refine HCode.block (Ψ := fun e ts df h => e = .exit 2 ∧ Φ .normal ts df h) (by kernel_rfl) ?_ (fun e ts df h ⟨he, hq⟩ => by
    subst he
    have : 2 = Code.id (Code.at c3 [2, 2, 2, 2, 2, 2, 2, 2, 1, 2]) := by kernel_rfl
    simp only
    rw [if_pos this]
    exact hq)
  refine HCode.loop (by kernel_rfl) (fun v ts df h => df = [] ∧ ∃ (i : Nat) (rd : Bool) (c : Nat → Nat) (y : Nat → Value), i ≤ xs.length ∧ v = xs.length - i ∧ (∀ j, c j ≤ i) ∧ (rd = true → must ≤ (cnt n c : Int)) ∧ ts = mkT 141 (spL (nodesV base xs.length cap) n k (cnt n c : Nat) i) y ∧ h = mkH (objsG n must rd c c) 5010) ?_ (v := xs.length) ⟨rfl, 0, false, fun _ => 0, y, by omega, by omega, fun j => Nat.le_refl _, (fun h => by cases h), rfl, rfl⟩
  rintro v ts df h ⟨rfl, i, rd, c, y, hi, hv, hc, hrd, rfl, rfl⟩
  refine HCode.seqC (by kernel_rfl) ?_
  refine HCode.seqN okT 10 (by kernel_rfl) (by kernel_rfl) (by kernel_rfl) (by kernel_rfl) ?_
  refine HCode.canon ((66, .bool (decide ((i : Int) < (xs.length : Nat)))) :: spL (nodesV base xs.length cap) n k (cnt n c : Nat) i) (objsG n must rd c c) 5010 (by kernel_rfl) (by kernel_rfl) (by kernel_rfl) (by kernel_rfl) (by kernel_rfl) fun y => ?_
  refine HCode.cond (by kernel_rfl) (by kernel_rfl) (b := decide ((i : Int) < (xs.length : Nat))) (by kernel_rfl) (fun hb => ?_) fun hb => ?_
  · have hlt : i < xs.length := by simpa using hb
    have hx : xs[i]? = some xs[i] := List.getElem?_eq_getElem hlt
    refine HCode.canon (spL (nodesV base xs.length cap) n k (cnt n c : Nat) i) (objsG n must rd c c) 5010 (by kernel_rfl) (by kernel_rfl) (by kernel_rfl) (by kernel_rfl) (by kernel_rfl) fun y => ?_
    refine HCode.skip (by kernel_rfl) ?_
    refine HCode.seqC (by kernel_rfl) ?_
    -- behind a round
    let Good : AExit → PT Value → List Deferred → AH → Prop := fun e ts df h => e = .normal ∧ df = [] ∧ ∃ (rd2 : Bool) (c2 : Nat → Nat) (y : Nat → Value), (∀ j, c2 j ≤ i + 1) ∧ (rd2 = true → must ≤ (cnt n c2 : Int)) ∧ ts = mkT 141 (spL (nodesV base xs.length cap) n k (cnt n c2 : Nat) i) y ∧ h = mkH (objsG n must rd2 c2 c2) 5010
    refine HCode.block (Ψ := Good) (by kernel_rfl) ?_ ?_
    · refine HCode.seqC (by kernel_rfl) ?_
      refine loop15 n k must rd c xs base cap i xs[i] hn hbase hx y fun y => ?_
      have step : ∀ (c2 : Nat → Nat) (y : Nat → Value), (∀ j, c2 j ≤ i + 1) → (rd = true → must ≤ (cnt n c2 : Int)) →
          HCode Tryz.prog (ctxN xs) (Code.at cB [2, 1, 1, 2, 2, 2, 2]) (mkT 141 (spL (nodesV base xs.length cap) n k (cnt n c2 : Nat) i) y) 141 [] none (mkH (objsG n must rd c2 c2) 5010) Good := by
        intro c2 y h1 h2
        by_cases hm : (cnt n c2 : Int) < must
        · have hrf : rd = false := by
            cases rd with
            | false => rfl
            | true => have := h2 rfl; omega
          subst hrf
          refine loopRead n k must false c2 xs base cap i hn 271 false (read_few n must false c2 c2 hn hm) false (by rw [hD]; simp; omega) (.inr ⟨rfl, rfl, rfl⟩) y fun y => ?_
          exact ⟨rfl, rfl, false, c2, y, h1, (fun h => by cases h), rfl, rfl⟩
        · refine loopRead n k must rd c2 xs base cap i hn 0 true (read_ok n must rd c2 c2 hn hm) true (by rw [hD]; simp; omega) (.inl ⟨rfl, rfl, rfl⟩) y fun y => ?_
          exact ⟨rfl, rfl, true, c2, y, h1, (fun _ => by omega), rfl, rfl⟩
      by_cases hat : nodeAt xs[i] n < n
      · have hce := hc (nodeAt xs[i] n)
        refine loopIn n k must rd c xs base cap i (nodeAt xs[i] n) hat hn (by omega) y fun y => ?_
        refine step (upd c (nodeAt xs[i] n)) y (fun j => ?_) (fun h => ?_)
        · have := hc j
          unfold upd
          split <;> omega
        · have h1 := hrd h
          rcases Nat.eq_zero_or_pos (c (nodeAt xs[i] n)) with h2 | h2
          · have := cnt_upd_zero hat h2; omega
          · have : cnt n (upd c (nodeAt xs[i] n)) = cnt n c := cntL_upd_pos h2 _
            omega
      · refine loopOut n k must rd c xs base cap i (nodeAt xs[i] n) hat y fun y => ?_
        exact step c y (fun j => by have := hc j; omega) hrd
    · rintro e ts df h ⟨rfl, rfl, rd2, c2, y2, h1, h2, rfl, rfl⟩
      show HCode _ _ _ _ _ _ _ _ _
      refine HCode.region (by kernel_rfl) ?_
      refine HOps.run okT (by kernel_rfl) (by kernel_rfl) 1 (by kernel_rfl) (by kernel_rfl) ?_
      refine HOps.canon ((67, .int .i64 (i : Nat)) :: spL (nodesV base xs.length cap) n k (cnt n c2 : Nat) i) (objsG n must rd2 c2 c2) 5010 (by kernel_rfl) (by kernel_rfl) (by kernel_rfl) (by kernel_rfl) (by kernel_rfl) fun y => ?_
      refine HOps.op okT (by decide) (by kernel_rfl) (by kernel_rfl) (by kernel_rfl) (x := .int .i64 ((i + 1 : Nat) : Int)) (h' := mkH (objsG n must rd2 c2 c2) 5010)
        (Eq.trans (b := .v (.int .i64 (IntKind.i64.wrap ((i : Nat) + 1 : Int))) (mkH (objsG n must rd2 c2 c2) 5010)) (by kernel_rfl) (by rw [wrap_i64_small (by omega) (by omega)]; rfl)) (by kernel_rfl) ?_
      refine HOps.run okT (by kernel_rfl) (by kernel_rfl) 1 (by kernel_rfl) (by kernel_rfl) ?_
      refine HOps.canon (spL (nodesV base xs.length cap) n k (cnt n c2 : Nat) (i + 1)) (objsG n must rd2 c2 c2) 5010 (by kernel_rfl) (by kernel_rfl) (by kernel_rfl) (by kernel_rfl) (by kernel_rfl) fun y => ?_
      exact HOps.nil (by kernel_rfl) ⟨xs.length - (i + 1), by omega, rfl, i + 1, rd2, c2, y, by omega, rfl, h1, h2, rfl, rfl⟩
  · refine HCode.canon (spL (nodesV base xs.length cap) n k (cnt n c : Nat) i) (objsG n must rd c c) 5010 (by kernel_rfl) (by kernel_rfl) (by kernel_rfl) (by kernel_rfl) (by kernel_rfl) fun y => ?_
    refine HCode.exit (by kernel_rfl) ?_
    exact ⟨congrArg AExit.exit (by kernel_rfl), next i rd c y⟩

/-- from the loop on -/
theorem wtail (n : Nat) (k D must : Int) (xs : List Int) (base : Option Addr) (cap : Nat) (hn : n ≤ 1000000) (hD : IntKind.i64.wrap ((n : Nat) - IntKind.i64.wrap (Int.tdiv (IntKind.i64.wrap (k - 1)) 2)) = D) (hmust : must = max D 0)
    (hlen : xs.length < 9223372036854775808) (hbase : 0 < xs.length → base = some ⟨7, 0, none⟩) (y : Nat → Value) :
    XCode Tryz.prog (ctxN xs) (Code.at c3 [2, 2, 2, 2, 2, 2, 2, 2]) (mkT 141 [(2, nodesV base xs.length cap), (6, .bool false), (8, .int .i64 (n : Nat)), (9, .int .i64 k), (11, qP), (13, saidV n), (14, .int .i64 0)] y) 141 (mkH (objsG n must false (fun _ => 0) (fun _ => 0)) 5010) 6 (.bool true) := by
  refine XCode.of_code (fun m v' h => by cases h; rfl) ?_
  refine HCode.seqC (by kernel_rfl) ?_
  refine HCode.seqN okT 10 (by kernel_rfl) (by kernel_rfl) (by kernel_rfl) (by kernel_rfl) ?_
  have h0 : (0 : Int) = ((cnt n (fun _ => 0) : Nat) : Int) := by
    have : cnt n (fun _ => 0) = 0 := by unfold cnt cntL; simp
    rw [this]; rfl
  refine HCode.canon ((14, .int .i64 0) :: spL (nodesV base xs.length cap) n k 0 0) (objsG n must false (fun _ => 0) (fun _ => 0)) 5010 (by kernel_rfl) (by kernel_rfl) (by kernel_rfl) (by kernel_rfl) (by kernel_rfl) fun y => ?_
  refine HCode.canon (spL (nodesV base xs.length cap) n k 0 0) (objsG n must false (fun _ => 0) (fun _ => 0)) 5010 (by kernel_rfl) (by kernel_rfl) (by kernel_rfl) (by kernel_rfl) (by kernel_rfl) fun y => ?_
  rw [h0]
  refine wloop n k D must xs base cap hn hD hmust hlen hbase y fun i rd c y => ?_
  show HCode _ _ _ _ _ _ _ _ _
  refine HCode.seqC (by kernel_rfl) ?_
  refine HCode.region (by kernel_rfl) ?_
  refine HOps.call okT (by decide) (by kernel_rfl) (by kernel_rfl) (by kernel_rfl) (f := 9) (args := []) (h1 := mkH (objsG n must rd c c) 5010) (by kernel_rfl)
    (HCall.other awake_ok (show (5010 : Nat) ≤ 100000 by decide) (fun i o e => by cases e)) (by kernel_rfl) ?_
  rintro e' h2' ⟨rfl, rfl⟩
  refine HOps.run okT (by kernel_rfl) (by kernel_rfl) 1 (by kernel_rfl) (by kernel_rfl) ?_
  refine HOps.nil (by kernel_rfl) ?_
  exact HCode.ret (by kernel_rfl) ⟨rfl, rfl, by kernel_rfl⟩
end Go.Proofs.YtjmnfkeeiegfdaaGreatDoor
