/- BreakerMeters is true for every input: whatever calls are counted and whatever rates asked for, the program's meter and the document's answer alike, bit by bit (NaN as NaN). No condition. -/
import Derived.Test.YthbeednmekajaaaRows
import Derived.Test.YthbeednmekajaaaLaw
import Derived.Test.YthbeednmekajaaaMeter9
namespace Go.Proofs.Ythbeednmekajaaa.meters
open Go.ChangeShapes Go.WideShapes Go.ChangeAt Go.RowKit

theorem own : ownKnob Try.prog.godebug = none := by kernel_rfl
theorem laidOut : laidOutB Try.prog = true := by kernel_rfl
theorem cells : Try.prog.cellsOf 34 = 3 := by kernel_rfl
theorem bytes : Try.prog.bytesOf 34 = 16 := by kernel_rfl

set_option maxRecDepth 100000 in
theorem lifted (os : Os) (started : os.Started) (H : Type) (enc : TypeId × Value → H) :
    ReturnsInHanded {} Try.checked os 3 .any (Rows.breakerMetersSpec.pre6 enc Try.prog Try.f3 Rows.breakerMetersRow.domain false) (Rows.breakerMetersSpec.post enc Try.prog Try.f3 false true false false) := by
  refine returnsInHanded_of_change_sized (C := Try.checked) own started (by kernel_rfl) Try.func3
    (ChangeSpec.witness6 (enc := enc) (C := Try.checked) false ⟨#[], #[.int .i64 0, .int .i64 0, .slice none 0 0, .int .u64 0], []⟩ 8 (by kernel_rfl) (by kernel_rfl) (by kernel_rfl) (by kernel_rfl)) ?_
  intro W base args ds gs before hval0 hW _ hsz0 _
  have hsz : (DataW.weightsEach Try.prog (Try.f3.params.toList ++ Rows.breakerMetersSpec.plain.varTypes Try.prog) (ds ++ gs)).all (· ≤ reachBytes) = true := hsz0
  clear hsz0
  have hval : ∀ (j : Nat) t v, Try.f3.params[j]? = some t → args[j]? = some v → Value.okWide Try.prog W .any base t v := hval0
  have hW' := hW
  obtain ⟨p, q, hA0, hV, rfl, hfz, hnd⟩ := hW
  have hA : DataW.TrodAll enc Try.prog W 0 (fun _ => true) true Try.f3.params.toList args.toList ds p := hA0
  rw [Try.params3] at hA hval hsz
  obtain ⟨v0, v1, v2, v3, d0, d1, d2, d3, p0, p1, p2, p3, rfl, rfl, rfl, h0, h1, h2, h3⟩ := trodAll_four hA
  obtain ⟨rfl, rfl⟩ := trodVars_none hV
  obtain ⟨N, rfl, rfl, rfl, _⟩ := open_int Try.underlying3 (hval 0 3 v0 rfl rfl) h0
  obtain ⟨S, rfl, rfl, rfl, _⟩ := open_int Try.underlying3 (hval 1 3 v1 rfl rfl) h1
  obtain ⟨L, rfl, rfl, rfl, _⟩ := open_int Try.underlying23 (hval 3 23 v3 rfl rfl) h3
  obtain ⟨A, len, cap, rfl, hlc, hcm, hx, es, rest, hd⟩ := open_structs Try.underlying22 Try.underlying34 (by kernel_rfl) cells (by decide) (hval 2 22 v2 rfl rfl) h2
  have hlen : len ≤ 8796093022208 := by
    rcases hd with ⟨_, h⟩ | ⟨h, hl⟩
    · omega
    · have := sized_slice hsz (j := 2) (t := 22) (e := 34) rfl (by rw [h]; rfl) Try.underlying22
      rw [bytes] at this
      simp only [reachBytes] at this
      omega
  have hx' : ∃ xs : Nat → Bool × Bool × Int, 0 < len → ∃ b off, A = some ⟨b, off, none⟩ ∧ b < W.heap.size ∧ ∀ i, i < len → CountAt W b off i (xs i) := by
    by_cases hpos : 0 < len
    · obtain ⟨b, off, hA', hb, hc⟩ := hx hpos
      have : ∀ i, ∃ x, i < len → CountAt W b off i x := by
        intro i
        by_cases hi : i < len
        · obtain ⟨u0, y0, n0, c0, t0⟩ := hc i hi 0 _ rfl
          obtain ⟨u1, y1, n1, c1, t1⟩ := hc i hi 1 _ rfl
          obtain ⟨u2, y2, n2, c2, t2⟩ := hc i hi 2 _ rfl
          obtain ⟨x0, e0, _⟩ := DataW.trod_bool Try.underlying4 t0
          obtain ⟨x1, e1, _⟩ := DataW.trod_bool Try.underlying4 t1
          obtain ⟨x2, e2, _⟩ := DataW.trod_int Try.underlying3 t2
          simp only [List.cons.injEq, and_true] at e0 e1 e2
          subst e0 e1 e2
          exact ⟨(x0, x1, x2), fun _ => ⟨c0, c1, c2⟩⟩
        · exact ⟨(false, false, 0), fun h => absurd h hi⟩
      exact ⟨fun i => Classical.choose (this i), fun _ => ⟨b, off, hA', hb, fun i hi => Classical.choose_spec (this i) hi⟩⟩
    · exact ⟨fun _ => (false, false, 0), fun h => absurd h hpos⟩
  obtain ⟨xs, hxs⟩ := hx'
  refine (walk N S A len cap L W hlen xs hxs).mono fun e W' ⟨he, hb⟩ => ?_
  subst he
  exact ⟨_, rfl, law_post laidOut (by kernel_rfl) hW' rfl rfl Try.underlying4 ⟨rfl, rfl, rfl⟩ hb⟩

theorem proved : Rows.BreakerMetersSaid :=
  OpenClaim.holds_of_wide 3 Try.f3 rfl rfl rfl rfl rfl rfl rfl ⟨rfl, rfl, rfl, rfl, rfl⟩ rfl rfl rfl rfl rfl (by kernel_rfl) Try.func3 (by kernel_rfl)
    (of_decide_eq_true (by kernel_rfl)) (by unfold Func.isWrapper; first | (rw [if_pos (by decide +kernel)]; kernel_rfl) | (rw [if_neg (by decide +kernel)]; exact ⟨rfl, rfl⟩))
    (fun os started H enc _ => lifted os started H enc)
#print axioms proved
end Go.Proofs.Ythbeednmekajaaa.meters
