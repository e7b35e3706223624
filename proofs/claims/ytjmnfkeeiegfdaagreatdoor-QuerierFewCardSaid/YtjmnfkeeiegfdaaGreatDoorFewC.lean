/-
  QuerierFew: whatever the members, the replication factor and the nodes: true. Own work.
-/
import Derived.Test.YtjmnfkeeiegfdaaGreatDoorFewB
namespace Go.Proofs.YtjmnfkeeiegfdaaGreatDoor
open Go Go.AM

theorem good_all (n r : Nat) (h1 : 1 ≤ n) (h9 : n ≤ 9) (hr : r < 3) (nv : Value) (y : Nat → Value) : ∃ must : Int, GoodA n nv ((2 * r + 1 : Nat) : Int) must y ∧ must = max ((n : Int) - (r : Nat)) 0 := by
  have hn : n = 1 ∨ n = 2 ∨ n = 3 ∨ n = 4 ∨ n = 5 ∨ n = 6 ∨ n = 7 ∨ n = 8 ∨ n = 9 := by omega
  have hr' : r = 0 ∨ r = 1 ∨ r = 2 := by omega
  rcases hn with rfl | rfl | rfl | rfl | rfl | rfl | rfl | rfl | rfl <;> rcases hr' with rfl | rfl | rfl
  · exact ⟨_, good_1_1 nv y, rfl⟩
  · exact ⟨_, good_1_3 nv y, rfl⟩
  · exact ⟨_, good_1_5 nv y, rfl⟩
  · exact ⟨_, good_2_1 nv y, rfl⟩
  · exact ⟨_, good_2_3 nv y, rfl⟩
  · exact ⟨_, good_2_5 nv y, rfl⟩
  · exact ⟨_, good_3_1 nv y, rfl⟩
  · exact ⟨_, good_3_3 nv y, rfl⟩
  · exact ⟨_, good_3_5 nv y, rfl⟩
  · exact ⟨_, good_4_1 nv y, rfl⟩
  · exact ⟨_, good_4_3 nv y, rfl⟩
  · exact ⟨_, good_4_5 nv y, rfl⟩
  · exact ⟨_, good_5_1 nv y, rfl⟩
  · exact ⟨_, good_5_3 nv y, rfl⟩
  · exact ⟨_, good_5_5 nv y, rfl⟩
  · exact ⟨_, good_6_1 nv y, rfl⟩
  · exact ⟨_, good_6_3 nv y, rfl⟩
  · exact ⟨_, good_6_5 nv y, rfl⟩
  · exact ⟨_, good_7_1 nv y, rfl⟩
  · exact ⟨_, good_7_3 nv y, rfl⟩
  · exact ⟨_, good_7_5 nv y, rfl⟩
  · exact ⟨_, good_8_1 nv y, rfl⟩
  · exact ⟨_, good_8_3 nv y, rfl⟩
  · exact ⟨_, good_8_5 nv y, rfl⟩
  · exact ⟨_, good_9_1 nv y, rfl⟩
  · exact ⟨_, good_9_3 nv y, rfl⟩
  · exact ⟨_, good_9_5 nv y, rfl⟩
theorem wrap_few (n r : Nat) (h9 : n ≤ 9) (hr : r < 3) : IntKind.i64.wrap ((n : Nat) - IntKind.i64.wrap (Int.tdiv (IntKind.i64.wrap (((2 * r + 1 : Nat) : Int) - 1)) 2)) = (n : Int) - (r : Nat) := by
  have hr' : r = 0 ∨ r = 1 ∨ r = 2 := by omega
  have e : IntKind.i64.wrap (Int.tdiv (IntKind.i64.wrap (((2 * r + 1 : Nat) : Int) - 1)) 2) = (r : Int) := by
    rcases hr' with rfl | rfl | rfl <;> rfl
  rw [e, IntKind.wrap_i64]
  omega

/-- behind the draw -/
theorem body2 (n r : Nat) (h1 : 1 ≤ n) (h9 : n ≤ 9) (hr : r < 3) (xs : List Int) (base : Option Addr) (cap : Nat) (hlen : xs.length < 9223372036854775808) (hbase : 0 < xs.length → base = some ⟨7, 0, none⟩) (y : Nat → Value) :
    XCode Tryz.prog (ctxN xs) (Code.at c3 [2, 2, 2]) (tsA n (nodesV base xs.length cap) ((2 * r + 1 : Nat) : Int) y) 141 hA 6 (.bool true) := by
  obtain ⟨must, hg, hm⟩ := good_all n r h1 h9 hr (nodesV base xs.length cap) y
  simp only [GoodA, Prod.mk.injEq] at hg
  obtain ⟨g1, g2, g3, g4, g5, g6, g7, g8⟩ := hg
  have g8 := Nat.eq_of_beq_eq_true g8
  refine XCode.seq (by kernel_rfl) (HCode.runN okT (k := 100000) g1 (by kernel_rfl) (by kernel_rfl) ⟨rfl, rfl, ?_⟩)
  refine XCode.seq (by kernel_rfl) (HCode.runN okT (k := 100000) g2 (by kernel_rfl) (by kernel_rfl) ⟨rfl, rfl, ?_⟩)
  refine XCode.seq (by kernel_rfl) (HCode.runN okT (k := 100000) g3 (by kernel_rfl) (by kernel_rfl) ⟨rfl, rfl, ?_⟩)
  refine XCode.seq (by kernel_rfl) (HCode.runN okT (k := 100000) g4 (by kernel_rfl) (by kernel_rfl) ⟨rfl, rfl, ?_⟩)
  refine XCode.seq (by kernel_rfl) (HCode.runN okT (k := 100000) g5 (by kernel_rfl) (by kernel_rfl) ⟨rfl, rfl, ?_⟩)
  have tail := wtail n ((2 * r + 1 : Nat) : Int) ((n : Int) - (r : Nat)) must xs base cap (by omega) (wrap_few n r h9 hr) hm hlen hbase (tget (resTs (o5 n (nodesV base xs.length cap) ((2 * r + 1 : Nat) : Int) y)))
  simp only [spQ, List.map_cons, List.map_nil, List.cons.injEq, and_true] at g6
  obtain ⟨e2, e6, e8, e9, e11, e13, e14⟩ := g6
  show XCode Tryz.prog (ctxN xs) (Code.at c3 [2, 2, 2, 2, 2, 2, 2, 2]) (resTs (o5 n (nodesV base xs.length cap) ((2 * r + 1 : Nat) : Int) y)) 141 (resH (o5 n (nodesV base xs.length cap) ((2 * r + 1 : Nat) : Int) y)) 6 (.bool true)
  refine XCode.alias (sg n) tail ?_ ?_ ?_ (sg_inj h1 h9 must) ?_ ?_
  · show _ ≤ 5010
    rw [g8]; unfold nxA; omega
  · intro i hi
    rw [g8] at hi
    unfold nxA at hi
    unfold sg
    repeat rw [if_neg (by omega)]
  · intro i o e
    obtain ⟨a1, o', a2, a3⟩ := objN n must i o e
    have g := get_of_map (h := resH (o5 n (nodesV base xs.length cap) ((2 * r + 1 : Nat) : Int) y)) g7 (sg n i, o') a2
    dsimp only at g
    exact ⟨a1, o', g, a3⟩
  · intro t ht
    rw [tget_mkT (by decide), if_pos ht]
    refine lk_alias (fun p hp => ?_) t
    simp only [List.mem_cons, List.not_mem_nil, or_false] at hp
    rcases hp with rfl | rfl | rfl | rfl | rfl | rfl | rfl
    · left; dsimp only; exact e2.symm
    · left; dsimp only; exact e6.symm
    · left; dsimp only; exact e8.symm
    · left; dsimp only; exact e9.symm
    · right
      show VR _ qP (tget _ 11)
      rw [e11]; exact ptrAt (by decide) rfl
    · right
      show VR _ (saidV n) (tget _ 13)
      rw [e13]; exact slAt (by decide) rfl
    · left; dsimp only; exact e14.symm
  · intro t ht
    rw [tget_mkT (by decide), if_neg (by omega)]

theorem body (a b : Int) (xs : List Int) (base : Option Addr) (cap : Nat) (hlen : xs.length < 9223372036854775808) (hbase : 0 < xs.length → base = some ⟨7, 0, none⟩) :
    XCode Tryz.prog (ctxN xs) c3 (initTs [.int .i64 a, .int .i64 b, nodesV base xs.length cap]) 141 ⟨.nil, 1000⟩ 6 (.bool true) := by
  obtain ⟨l1, l2⟩ := lowI_bounds a
  obtain ⟨l3, l4⟩ := lowI_bounds b
  obtain ⟨ka, hka⟩ := Int.eq_ofNat_of_zero_le l1
  obtain ⟨kb, hkb⟩ := Int.eq_ofNat_of_zero_le l3
  refine XCode.seq (by kernel_rfl) (HCode.runN okT (k := 10) (by kernel_rfl) (by kernel_rfl) (by kernel_rfl) ⟨rfl, rfl, ?_⟩)
  refine XCode.seq (by kernel_rfl) (HCode.runN okT (k := 10) (by kernel_rfl) (by kernel_rfl) (by kernel_rfl) ⟨rfl, rfl, ?_⟩)
  refine XCode.canon [(0, .int .i64 a), (1, .int .i64 b), (2, nodesV base xs.length cap), (6, .bool false), (7, .pointer (some ⟨1000, 0, none⟩))] [(1000, .cells [.int .u64 0, nilS] 0)] 1001 (by kernel_rfl) (by kernel_rfl) (by kernel_rfl) (by kernel_rfl) (by kernel_rfl) fun y => ?_
  have h8 : IntKind.i64.wrap (1 + (lowI a).tmod 9) = ((1 + ka % 9 : Nat) : Int) := by
    rw [hka]
    have : (ka : Int).tmod 9 = ((ka % 9 : Nat) : Int) := rfl
    rw [this, wrap_i64_small (by omega) (by omega)]; omega
  have h7 : (lowI b).tmod 3 = ((kb % 3 : Nat) : Int) := by rw [hkb]; rfl
  have hr3 : kb % 3 < 3 := Nat.mod_lt _ (by decide)
  have hcase : (kb % 3 = 0 ∧ ((2 * (kb % 3) + 1 : Nat) : Int) = 1) ∨ (kb % 3 = 1 ∧ ((2 * (kb % 3) + 1 : Nat) : Int) = 3) ∨ (kb % 3 = 2 ∧ ((2 * (kb % 3) + 1 : Nat) : Int) = 5) := by omega
  have e := reg2 a b _ _ _ (nodesV base xs.length cap) y h8 h7 hcase
  refine XCode.seq (by kernel_rfl) (HCode.mono (HCode.run okT e (by kernel_rfl) (by decide)) fun e' ts' df' h' hm => ?_)
  rw [List.mem_singleton] at hm
  cases hm
  refine ⟨rfl, rfl, ?_⟩
  generalize hn : 1 + ka % 9 = n
  generalize hrr : kb % 3 = r at hr3 ⊢
  have b1 : 1 ≤ n := by omega
  have b9 : n ≤ 9 := by have := Nat.mod_lt ka (show 0 < 9 by decide); omega
  refine XCode.canon [(2, nodesV base xs.length cap), (6, .bool false), (7, .pointer (some ⟨1000, 0, none⟩)), (8, .int .i64 (n : Nat)), (9, .int .i64 ((2 * r + 1 : Nat) : Int))] [(1000, .cells [.int .u64 0, nilS] 0)] 1002 (by kernel_rfl) (by kernel_rfl) (by kernel_rfl) (by kernel_rfl) (by kernel_rfl) fun y => ?_
  exact body2 n r b1 b9 hr3 xs base cap hlen hbase y

theorem results3 (tmps : Array Value) (w : World) : (results Tryz.f3 tmps).run Tryz.prog w = .ok (tmps.getD 6 undef) w := by
  have h : Tryz.f3.results = #[.tmp 6] := by kernel_rfl
  unfold results
  rw [h]
  simp
end Go.Proofs.YtjmnfkeeiegfdaaGreatDoor
