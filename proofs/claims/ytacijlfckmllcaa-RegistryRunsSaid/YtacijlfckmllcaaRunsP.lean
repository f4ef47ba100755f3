/- RegistryRuns is true for every input: whatever script is run over a registry, each answer, whether it is frozen behind it, and how often it was, is what the document says. No condition. -/
import Derived.Test.YtacijlfckmllcaaRows
import Derived.Test.YtacijlfckmllcaaLawT
import Derived.Test.YtacijlfckmllcaaLaw3
import Derived.Test.YtacijlfckmllcaaReg11
namespace Go.Proofs.Ytacijlfckmllcaa.runs
open Go.ChangeShapes Go.WideShapes Go.ChangeAt Go.RowKit

theorem own : ownKnob Try.prog.godebug = none := by kernel_rfl
theorem laidOut : laidOutB Try.prog = true := by kernel_rfl
theorem cells : Try.prog.cellsOf 33 = 4 := by kernel_rfl
theorem cellsR : Try.prog.cellsOf 31 = 3 := by kernel_rfl
theorem cells1 : Try.prog.cellsOf 3 = 1 ∧ Try.prog.cellsOf 9 = 1 ∧ Try.prog.cellsOf 5 = 1 ∧ Try.prog.cellsOf 29 = 1 := by refine ⟨?_, ?_, ?_, ?_⟩ <;> kernel_rfl
theorem bytes : Try.prog.bytesOf 33 = 32 := by kernel_rfl

set_option maxRecDepth 100000 in
/-- A row's three cells, as they read. -/
theorem row_cells {H : Type} {enc : TypeId × Value → H} {w : World} {sp : Nat → Bool} {hd : Bool} {n : Nat} {cs : List Value} {y : DataW H × List MemPlace} (h : DataW.trod enc Try.prog w 0 sp hd n 31 cs = some y) :
    ∃ r : Rw, cs = rwc r ∧ r.nm.size ≤ maxLen := by
  obtain ⟨xs, m, _, _, hl, _, hf⟩ := DataW.trod_struct Try.underlying31 h
  rw [cellsR] at hl
  match cs, hl with
  | [c0, c1, c2], _ =>
    have f0 := hf 0 _ rfl
    have f1 := hf 1 _ rfl
    have f2 := hf 2 _ rfl
    obtain ⟨d0, d1, d2, d3⟩ := cells1
    simp [d1, d2, d3] at f0 f1 f2
    have hx : xs.length = 3 := by assumption
    match xs, hx with
    | [x0, x1, x2], _ =>
      simp at f0 f1 f2
      obtain ⟨s, e0, _, hs⟩ := DataW.trod_string Try.underlying9 f0
      obtain ⟨a, e1, _⟩ := DataW.trod_int Try.underlying5 f1
      obtain ⟨b, e2, _⟩ := DataW.trod_int Try.underlying29 f2
      simp at e0 e1 e2
      subst e0 e1 e2
      exact ⟨⟨s, a, b⟩, rfl, hs⟩

set_option maxRecDepth 100000 in
theorem step_cells {H : Type} {enc : TypeId × Value → H} {w : World} {sp : Nat → Bool} {hd : Bool} {n : Nat} {cs : List Value} {y : DataW H × List MemPlace} (h : DataW.trod enc Try.prog w 0 sp hd n 33 cs = some y) :
    ∃ x : Stp, cs = .int .i64 x.k :: rwc x.r ∧ x.r.nm.size ≤ maxLen := by
  obtain ⟨xs, m, _, _, hl, _, hf⟩ := DataW.trod_struct Try.underlying33 h
  rw [cells] at hl
  match cs, hl with
  | [c0, c1, c2, c3], _ =>
    have f0 := hf 0 _ rfl
    have f1 := hf 1 _ rfl
    obtain ⟨d0, d1, d2, d3⟩ := cells1
    simp [d0, cellsR] at f0 f1
    have hx : xs.length = 2 := by assumption
    match xs, hx with
    | [x0, x1], _ =>
      simp at f0 f1
      obtain ⟨k, e0, _⟩ := DataW.trod_int Try.underlying3 f0
      obtain ⟨r, e1, hr⟩ := row_cells f1
      simp at e0
      subst e0
      exact ⟨⟨k, r⟩, by rw [e1], hr⟩

set_option maxRecDepth 100000 in
theorem lifted (os : Os) (started : os.Started) (H : Type) (enc : TypeId × Value → H) (F : Stop.Interp) :
    ReturnsInLeavingWide Rows.registryRunsRow.assume Try.checked os 3 .any (Rows.registryRunsSpec.pre6 enc Try.prog Try.f3 Rows.registryRunsRow.domain false) ((OpenSpec.ofChange Rows.registryRunsSpec).postWith enc Try.prog Try.f3 F (outsideKept [.timePasses]) false true false) := by
  refine lone_time (C := Try.checked) own started (by kernel_rfl) Try.func3
    (ChangeSpec.witness6c (enc := enc) (C := Try.checked) ⟨#[], #[.slice none 0 0], []⟩ 8 (by kernel_rfl) (by kernel_rfl) (by kernel_rfl) (by kernel_rfl)) ?_
  intro W base args ds gs before hval0 hW _ hsz0
  have hsz : (DataW.weightsEach Try.prog (Try.f3.params.toList ++ Rows.registryRunsSpec.plain.varTypes Try.prog) (ds ++ gs)).all (· ≤ reachBytes) = true := hsz0
  clear hsz0
  have hval : ∀ (j : Nat) t v, Try.f3.params[j]? = some t → args[j]? = some v → Value.okWide Try.prog W .any base t v := hval0
  have hW' := hW
  obtain ⟨p, q, hA0, hV, rfl, hfz, hnd⟩ := hW
  have hA : DataW.TrodAll enc Try.prog W 0 (fun _ => true) true Try.f3.params.toList args.toList ds p := hA0
  rw [Try.params3] at hA hval hsz
  obtain ⟨v0, d0, rfl, rfl, h0⟩ := trodAll_one hA
  obtain ⟨rfl, rfl⟩ := trodVars_none hV
  obtain ⟨A, len, cap, rfl, hlc, hcm, hx, es, rest, hd⟩ := open_elems Try.underlying22 cells (by decide) (hval 0 22 v0 rfl rfl) h0
  have hlen : len ≤ 4398046511104 - 64 := by
    rcases hd with ⟨_, h⟩ | ⟨h, hl⟩
    · omega
    · have := sized_slice hsz (j := 0) (t := 22) (e := 33) rfl (by rw [h]; rfl) Try.underlying22
      rw [bytes] at this
      simp only [reachBytes] at this
      omega
  have hx' : ∃ st : Nat → Stp, StpsAt W A len st ∧ ∀ i, i < len → (st i).r.nm.size ≤ maxLen := by
    by_cases hpos : 0 < len
    · obtain ⟨b, off, hA', hb, hc⟩ := hx hpos
      have : ∀ i, ∃ x, i < len → StpAt W b (off + i * 4) x ∧ x.r.nm.size ≤ maxLen := by
        intro i
        by_cases hi : i < len
        · obtain ⟨cs, y, n, hcl, hcc, ht⟩ := hc i hi
          obtain ⟨x, rfl, hxs⟩ := step_cells ht
          exact ⟨x, fun _ => ⟨⟨hcc 0 (by omega), hcc 1 (by omega), hcc 2 (by omega), hcc 3 (by omega)⟩, hxs⟩⟩
        · exact ⟨⟨0, r00⟩, fun h => absurd h hi⟩
      exact ⟨fun i => Classical.choose (this i), fun _ => ⟨b, off, hA', hb, fun i hi => (Classical.choose_spec (this i) hi).1⟩, fun i hi => (Classical.choose_spec (this i) hi).2⟩
    · exact ⟨fun _ => ⟨0, r00⟩, fun h => absurd h hpos, fun i hi => absurd hi (by omega)⟩
  obtain ⟨st, hst, hnm⟩ := hx'
  refine (walk_runs A len cap W st hlen hst hnm).mono fun e W' ⟨he, hb⟩ => ?_
  subst he
  exact ⟨_, rfl, hb.os, law_post laidOut (by kernel_rfl) hW' rfl rfl Try.underlying4 ⟨rfl, rfl, rfl⟩ hb⟩

theorem proved : Rows.RegistryRunsSaid :=
  OpenClaim.holds_of_wide_leaving_time 3 Try.f3 rfl rfl rfl rfl rfl rfl rfl ⟨rfl, rfl, rfl, rfl, rfl⟩ rfl rfl rfl rfl rfl (by kernel_rfl) Try.func3 (by kernel_rfl)
    (of_decide_eq_true (by kernel_rfl)) (by unfold Func.isWrapper; first | (rw [if_pos (by decide +kernel)]; kernel_rfl) | (rw [if_neg (by decide +kernel)]; exact ⟨rfl, rfl⟩))
    (fun os started H enc _ F => lifted os started H enc F)
#print axioms proved
end Go.Proofs.Ytacijlfckmllcaa.runs
