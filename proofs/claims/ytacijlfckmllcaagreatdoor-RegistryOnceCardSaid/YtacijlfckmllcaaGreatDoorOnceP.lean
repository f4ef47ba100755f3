/- RegistryOnce is true for every input: each row that was entered is on the roll or among the refused ones, no two of a roll have one name, and behind a question nothing changes. No condition; the card ties the one variable that its row names. -/
import Derived.Test.YtacijlfckmllcaaGreatDoorRows
import Derived.Test.YtacijlfckmllcaaGreatDoorTie
import Derived.Test.YtacijlfckmllcaaGreatDoorCards
import Derived.SevenTiedAt
import Derived.Test.YtacijlfckmllcaaGreatDoorDoor
import Derived.Test.YtacijlfckmllcaaGreatDoorLaw3
import Derived.Test.YtacijlfckmllcaaGreatDoorOnc2
namespace Go.Proofs.YtacijlfckmllcaaGreatDoor.once
open Go.ChangeShapes Go.WideShapes Go.ChangeAt Go.RowKit

theorem cellsR : Tryz.prog.cellsOf 30 = 3 := by kernel_rfl
theorem cells1 : Tryz.prog.cellsOf 3 = 1 ∧ Tryz.prog.cellsOf 9 = 1 ∧ Tryz.prog.cellsOf 5 = 1 ∧ Tryz.prog.cellsOf 28 = 1 := by refine ⟨?_, ?_, ?_, ?_⟩ <;> kernel_rfl
theorem bytes : Tryz.prog.bytesOf 30 = 24 := by kernel_rfl

set_option maxRecDepth 100000 in
/-- A row's three cells, as they read. -/
theorem row_cells {H : Type} {enc : TypeId × Value → H} {w : World} {sp : Nat → Bool} {hd : Bool} {n : Nat} {cs : List Value} {y : DataW H × List MemPlace} (h : DataW.trod enc Tryz.prog w 0 sp hd n 30 cs = some y) :
    ∃ r : Rw, cs = rwc r ∧ r.nm.size ≤ maxLen := by
  obtain ⟨xs, m, _, _, hl, _, hf⟩ := DataW.trod_struct Tryz.underlying30 h
  rw [cellsR] at hl
  match cs, hl with
  | [c0, c1, c2], _ =>
    have f0 := hf 0 _ rfl
    have f1 := hf 1 _ rfl
    have f2 := hf 2 _ rfl
    obtain ⟨d0, d1, d2, d3⟩ := cells1
    simp [d1, d2, d3] at f0 f1 f2
    have hx : xs.length = 3 := by assumption
    match xs, hx with
    | [x0, x1, x2], _ =>
      simp at f0 f1 f2
      obtain ⟨s, e0, _, hs⟩ := DataW.trod_string Tryz.underlying9 f0
      obtain ⟨a, e1, _⟩ := DataW.trod_int Tryz.underlying5 f1
      obtain ⟨b, e2, _⟩ := DataW.trod_int Tryz.underlying28 f2
      simp at e0 e1 e2
      subst e0 e1 e2
      exact ⟨⟨s, a, b⟩, rfl, hs⟩

theorem rows_of {H : Type} {enc : TypeId × Value → H} {W : World} {A : Option Addr} {len : Nat} {sp : Nat → Bool} {hd : Bool}
    (hx : 0 < len → ∃ b off, A = some ⟨b, off, none⟩ ∧ b < W.heap.size ∧
        ∀ i, i < len → ∃ (cs : List Value) (y : DataW H × List MemPlace) (n : Nat), cs.length = 3 ∧ (∀ j, j < 3 → W.cell? ⟨b, off + (i * 3 + j), none⟩ = cs[j]?) ∧ DataW.trod enc Tryz.prog W 0 sp hd n 30 cs = some y) :
    ∃ st : Nat → Rw, RowsAt W A len st ∧ ∀ i, i < len → (st i).nm.size ≤ maxLen := by
  by_cases hpos : 0 < len
  · obtain ⟨b, off, hA', hb, hc⟩ := hx hpos
    have : ∀ i, ∃ x, i < len → RowAt W b (off + i * 3) x ∧ x.nm.size ≤ maxLen := by
      intro i
      by_cases hi : i < len
      · obtain ⟨cs, y, n, hcl, hcc, ht⟩ := hc i hi
        obtain ⟨x, rfl, hxs⟩ := row_cells ht
        exact ⟨x, fun _ => ⟨⟨hcc 0 (by omega), hcc 1 (by omega), hcc 2 (by omega)⟩, hxs⟩⟩
      · exact ⟨r00, fun h => absurd h hi⟩
    exact ⟨fun i => Classical.choose (this i), fun _ => ⟨b, off, hA', hb, fun i hi => (Classical.choose_spec (this i) hi).1⟩, fun i hi => (Classical.choose_spec (this i) hi).2⟩
  · exact ⟨fun _ => r00, fun h => absurd h hpos, fun i hi => absurd hi (by omega)⟩

set_option maxRecDepth 100000 in
theorem lifted (os : Os) (started : os.Started) (H : Type) (enc : TypeId × Value → H) :
    ReturnsInHanded {} Tryz.checked os 3 .any (fun w args => (Rows.registryOnceSpec.pre enc Tryz.prog Tryz.f3 Rows.registryOnceRow.domain false w args ∧ laidMetH Tryz.prog laidL w) ∧ sizedMet enc Tryz.prog Tryz.f3 (OpenSpec.ofChange Rows.registryOnceSpec) false w args)
      (Rows.registryOnceSpec.post enc Tryz.prog Tryz.f3 false true false false) := by
  refine returnsInHanded_of_change_and (C := Tryz.checked) (X := fun w _ => laidMetH Tryz.prog laidL w) (fun _ _ _ hh h => h.of_heap hh) own started (by kernel_rfl) Tryz.func3
    (ChangeSpec.witness_at (enc := enc) (C := Tryz.checked) (os := os) (X := fun w _ => laidMetH Tryz.prog laidL w) false (laidWorld os) #[.slice none 0 0, .slice none 0 0] 8 rfl (by kernel_rfl) (by kernel_rfl) (by kernel_rfl) (by kernel_rfl) (by kernel_rfl) (laidWorld_met os _)) ?_
  intro W base args ds gs before hval0 hW _ hsz0 hL _
  have hsz : (DataW.weightsEach Tryz.prog (Tryz.f3.params.toList ++ Rows.registryOnceSpec.plain.varTypes Tryz.prog) (ds ++ gs)).all (· ≤ reachBytes) = true := hsz0
  clear hsz0
  have hval : ∀ (j : Nat) t v, Tryz.f3.params[j]? = some t → args[j]? = some v → Value.okWide Tryz.prog W .any base t v := hval0
  have hW' := hW
  obtain ⟨p, q, hA0, hV, rfl, hfz, hnd⟩ := hW
  have hA : DataW.TrodAll enc Tryz.prog W 0 (fun _ => true) true Tryz.f3.params.toList args.toList ds p := hA0
  rw [Tryz.params3] at hA hval hsz
  obtain ⟨v0, v1, d0, d1, p0, p1, rfl, rfl, rfl, h0, h1⟩ := trodAll_two hA
  obtain ⟨rfl, rfl⟩ := trodVars_none hV
  obtain ⟨A, len, cap, rfl, hlc, hcm, hx, es, rest, hd⟩ := open_elems Tryz.underlying22 cellsR (by decide) (hval 0 22 v0 rfl rfl) h0
  obtain ⟨A', len', cap', rfl, hlc', hcm', hx', es', rest', hd'⟩ := open_elems Tryz.underlying22 cellsR (by decide) (hval 1 22 v1 rfl rfl) h1
  have hlen : len ≤ 5864062014640 := by
    rcases hd with ⟨_, h⟩ | ⟨h, hl⟩
    · omega
    · have := sized_slice hsz (j := 0) (t := 22) (e := 30) rfl (by rw [h]; rfl) Tryz.underlying22
      rw [bytes] at this
      simp only [reachBytes] at this
      omega
  have hlen' : len' ≤ 5864062014640 := by
    rcases hd' with ⟨_, h⟩ | ⟨h, hl⟩
    · omega
    · have := sized_slice hsz (j := 1) (t := 22) (e := 30) rfl (by rw [h]; rfl) Tryz.underlying22
      rw [bytes] at this
      simp only [reachBytes] at this
      omega
  obtain ⟨st, hst, hnm⟩ := rows_of hx
  obtain ⟨su, hsu, hnu⟩ := rows_of hx'
  refine (walk_once A A' len cap len' cap' W st su (laid_in (laid_of hL)) hlen hlen' hst hsu hnm hnu).mono fun e W' ⟨he, hb⟩ => ?_
  subst he
  exact ⟨_, rfl, law_post laidOut (by kernel_rfl) hW' rfl rfl Tryz.underlying4 ⟨rfl, rfl, rfl⟩ hb⟩

theorem row : Rows.RegistryOnceSaid :=
  OpenClaim.holds_of_wide 3 Tryz.f3 rfl rfl rfl rfl rfl rfl rfl ⟨rfl, rfl, rfl, rfl, rfl⟩ rfl rfl rfl rfl rfl (by kernel_rfl) Tryz.func3 (by kernel_rfl)
    (of_decide_eq_true (by kernel_rfl)) (by unfold Func.isWrapper; first | (rw [if_pos (by decide +kernel)]; kernel_rfl) | (rw [if_neg (by decide +kernel)]; exact ⟨rfl, rfl⟩))
    (fun os started H enc _ => lifted os started H enc)

theorem noStand : Tryz.pinned.checked.prog.wantsStandIn 22 = false := by kernel_rfl

theorem proved : Rows.RegistryOnceCardSaid :=
  Claim7.holds_tied_plain_at .later [] [.data] true Rows.registryOnceCard.stood.harness true
    row (fun _ h => by cases h) (by kernel_rfl) (fun _ h => by cases h) registryOnce_row_tie rfl ⟨rfl, rfl⟩ (by kernel_rfl) rfl
    (fun f fn hf hfn => by
      obtain rfl : f = 3 := Option.some.inj ((show Tryz.prog.funcNamed "errata/erratalaw17.RegistryOnce" = some 3 by kernel_rfl).symm.trans hf) |>.symm
      obtain rfl : fn = Tryz.f3 := (Option.some.inj (Tryz.func3.symm.trans hfn)).symm
      exact ⟨by kernel_rfl, fun j t ht => by
        rw [Tryz.params3] at ht
        have : t = 22 := by
          match j, ht with
          | 0, h => simpa using h.symm
          | 1, h => simpa using h.symm
        subst this
        exact noStand⟩)
    (by kernel_rfl)
#print axioms proved
end Go.Proofs.YtacijlfckmllcaaGreatDoor.once
