/-
  QuerierFew: for every input the law returns true, and the input reads as it did; the row and its tied card. Own work.
-/
import Derived.Test.YtjmnfkeeiegfdaaGreatDoorRows
import Derived.Test.YtjmnfkeeiegfdaaGreatDoorFewC
import Derived.ProofKit
import Derived.OpenShut
import Derived.LaidMore
import Derived.Lay
import Derived.Carry
namespace Go.Proofs.YtjmnfkeeiegfdaaGreatDoor
open Go.ChangeShapes Go.WideShapes Go.ChangeAt Go.RowKit

theorem own : ownKnob Tryz.prog.godebug = none := by kernel_rfl
theorem laidOut : laidOutB Tryz.prog = true := by kernel_rfl
theorem cells3 : Tryz.prog.cellsOf 3 = 1 := by kernel_rfl

/-- The call, in any world: nothing that was there turns. -/
theorem call (W : World) (a b : Int) (v : Value) (xs : List Int) (hlen : xs.length < 9223372036854775808)
    (hv : (v = .slice none 0 0 ∧ xs = []) ∨ ∃ (ad : Addr) (cap : Nat), v = .slice (some ad) xs.length cap ∧ ad.spot = none ∧ ∀ i x, xs[i]? = some x → W.cell? (ad.add i) = some (.int .i64 x)) :
    Calls Tryz.prog 3 #[.int .i64 a, .int .i64 b, v] W fun e w' => e = .returned (.bool true) ∧ AM.Fin ⟨fun k => k < W.heap.size, fun _ => False⟩ W w' := by
  rw [← callsIn_wide (n := 0)]
  have rel : ∀ m : AM.M, (∀ i k, m i = some k → i < 1000) → AM.Rel ⟨fun k => k < W.heap.size, fun _ => False⟩ W m ⟨.nil, 1000⟩ W := fun m hm =>
    ⟨hm, fun i o e => (by cases e), fun i j o o' k k' e => (by cases e), fun k hk => ⟨hk, rfl⟩, Nat.le_refl _, fun i hi => hi.elim, ⟨rfl, rfl⟩⟩
  rcases hv with ⟨rfl, rfl⟩ | ⟨ad, cap, rfl, hsp, hcell⟩
  · refine AM.XCode.call (m := fun _ => none) Tryz.func3 b3 (by kernel_rfl) (by kernel_rfl) (by rw [Tryz.ntmps3]; exact body a b [] none 0 (by decide) (fun h => absurd h (Nat.lt_irrefl 0))) (fun h => absurd h (Nat.lt_irrefl 0)) (rel _ (fun i k e => by cases e)) ?_ results3
    exact .cons (.int _ _) (.cons (.int _ _) (.cons .nilsl .nil))
  · obtain ⟨blk, off, spot⟩ := ad
    simp only at hsp
    subst hsp
    let kn : AM.Blk := { b := blk, sh := off, n := xs.length, cn := 0, sz := 0 }
    refine AM.XCode.call (m := fun i => if i = 7 then some kn else none) Tryz.func3 b3 (by kernel_rfl) (by kernel_rfl) (by rw [Tryz.ntmps3]; exact body a b xs (some ⟨7, 0, none⟩) cap hlen (fun _ => rfl)) ?_ (rel _ (fun i k e => by
      split at e
      · omega
      · cases e)) ?_ results3
    · intro hpos
      have h0 := hcell 0 xs[0] (List.getElem?_eq_getElem hpos)
      have hblk : ∃ cs ty fz, W.heap[blk]? = some (.cells cs ty fz) := by
        unfold World.cell? at h0
        split at h0
        · rename_i c t fz hc
          exact ⟨c, t, fz, by simpa [Addr.add] using hc⟩
        · cases h0
      obtain ⟨cs, ty, fz, hb⟩ := hblk
      refine ⟨kn, cs, ty, fz, by simp, ?_, hb, fun i x hx => ?_⟩
      · exact (Array.getElem?_eq_some_iff.1 hb).1
      · have := hcell i x hx
        rw [AM.Addr.add_eq, AM.cell_of_heap hb] at this
        rw [show i + kn.sh = off + i by show i + off = off + i; omega]
        exact this
    · exact .cons (.int _ _) (.cons (.int _ _) (.cons (.sl (k := kn) (by simp) (.inl ⟨by show off = 0 + off; omega, .inl rfl⟩)) .nil))

set_option maxRecDepth 100000 in
theorem lifted (os : Os) (started : os.Started) (H : Type) (enc : TypeId × Value → H) :
    ReturnsInHanded {} Tryz.checked os 3 .any (fun w args => (Rows.querierFewSpec.pre enc Tryz.prog Tryz.f3 Rows.querierFewRow.domain false w args ∧ laidMetH Tryz.prog Rows.querierFewRow.laid w) ∧ sizedMet enc Tryz.prog Tryz.f3 (OpenSpec.ofChange Rows.querierFewSpec) false w args)
      (Rows.querierFewSpec.post enc Tryz.prog Tryz.f3 false true false false) := by
  refine returnsInHanded_of_change_and (C := Tryz.checked) (X := fun w _ => laidMetH Tryz.prog Rows.querierFewRow.laid w) (fun _ _ _ hh h => h.of_heap hh) own started (by kernel_rfl) Tryz.func3
    (ChangeSpec.witness_shaped (enc := enc) (C := Tryz.checked) (os := os) (X := fun w _ => laidMetH Tryz.prog Rows.querierFewRow.laid w) false (World.laidAll Tryz.prog os Rows.querierFewRow.laid) #[.int .i64 0, .int .i64 0, .slice none 0 0] 8 (World.laidAll_os _ _ _)
      (World.shaped_of_ZipB (by kernel_rfl) (by kernel_rfl)) (by kernel_rfl) (by kernel_rfl) (by kernel_rfl)
      (by rw [MakeChecks.laidMetH_plain _ _ _ (by kernel_rfl)]; exact laidMet_laidAll _ (by kernel_rfl) (by kernel_rfl))) ?_
  intro W base args ds gs before hval0 hW hc _ hL _
  have hval : ∀ (j : Nat) t v, Tryz.f3.params[j]? = some t → args[j]? = some v → Value.okWide Tryz.prog W .any base t v := hval0
  have hW' := hW
  obtain ⟨p, q, hA0, hV, rfl, _, _⟩ := hW
  have hA : DataW.TrodAll enc Tryz.prog W 0 (fun _ => true) true Tryz.f3.params.toList args.toList ds p := hA0
  rw [Tryz.params3] at hA hval
  obtain ⟨v0, v1, v2, d0, d1, d2, p0, p1, p2, rfl, rfl, rfl, h0, h1, h2⟩ := trodAll_three hA
  obtain ⟨rfl, rfl⟩ := trodVars_none hV
  obtain ⟨a, rfl, rfl, rfl, wa⟩ := open_int Tryz.underlying3 (hval 0 3 v0 rfl rfl) h0
  obtain ⟨b, rfl, rfl, rfl, wb⟩ := open_int Tryz.underlying3 (hval 1 3 v1 rfl rfl) h1
  have hok2 := hval 2 22 v2 rfl rfl
  obtain ⟨a0, len, cap, rfl⟩ := okWide_slice Tryz.underlying22 hok2
  simp only [List.append_nil, List.nil_append] at hW'
  have hlt : ∀ x ∈ p2, x.block < W.heap.size := fun x hx => by simpa using hW'.lt x hx
  have h2k := h2
  obtain ⟨fuel, hf⟩ := h2
  have walk : Calls Tryz.prog 3 #[.int .i64 a, .int .i64 b, .slice a0 len cap] W fun e w' => e = .returned (.bool true) ∧ AM.Fin ⟨fun k => k < W.heap.size, fun _ => False⟩ W w' := by
    rcases open_ints Tryz.underlying22 Tryz.underlying3 cells3 hf with ⟨hcs, hx⟩ | ⟨ad, len', cap', zs, hcs, _, hl, hm, hz, hx, hcell, hwz⟩
    · simp [Value.cells] at hcs
      obtain ⟨rfl, rfl, rfl⟩ := hcs
      exact call W a b _ [] (by decide) (.inl ⟨rfl, rfl⟩)
    · simp [Value.cells] at hcs
      obtain ⟨rfl, rfl, rfl⟩ := hcs
      simp only [if_true] at hz
      have hspot : ad.spot = none := by
        simp only [Value.okWide, Tryz.underlying22, Cell.okWide, Cell.ok, World.has] at hok2
        exact hok2.2.2.2.1
      have hlz : (zs.take len).length = len := by rw [List.length_take]; omega
      have hmx : maxLen < 9223372036854775808 := by decide
      have := call W a b (.slice (some ad) len cap) (zs.take len) (by omega) (.inr ⟨ad, cap, by rw [hlz], hspot, fun i x hx => ?_⟩)
      · exact this
      · have hi : i < (zs.take len).length := (List.getElem?_eq_some_iff.1 hx).1
        rw [List.getElem?_take, if_pos (by omega)] at hx
        rw [hcell i (by omega), List.getD, hx]; rfl
  refine walk.mono fun e W' ⟨he, hfin⟩ => ?_
  subst he
  obtain ⟨k1, k2, k3, k4⟩ := hfin
  have hblk : ∀ k, k < W.heap.size → W'.heap[k]? = W.heap[k]? := fun k hk => (k1 k hk).2
  have hsame : ∀ x ∈ p2, W.sameAt W' x := fun x hx => by
    have := hlt x hx
    cases x with
    | cell b o => exact World.cell?_of_block (w := W) (hblk b this)
    | map b => exact hblk b this
  refine ⟨_, rfl, _, _, _, [], p2, [], hW', ?_, ?_, rfl, ?_, fun h => by cases h⟩
  · exact trodAll_mk1 (shut_bool Tryz.underlying4 _)
  · exact trodAll_cons_mk (p := []) (shut_int Tryz.underlying3 wa) (trodAll_cons_mk (p := []) (shut_int Tryz.underlying3 wb) (trodAll_mk1 (WideElems.Trod_stays laidOut (by kernel_rfl) (of_decide_eq_true (by kernel_rfl)) h2k hsame (fun x hx => by simpa using hlt x hx))))
  · refine ⟨k3, k4, fun i hi => ?_⟩
    rw [hblk i hi]
    split <;> simp_all

end Go.Proofs.YtjmnfkeeiegfdaaGreatDoor
