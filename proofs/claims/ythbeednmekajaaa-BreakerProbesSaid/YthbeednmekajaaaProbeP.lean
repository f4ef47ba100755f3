/- BreakerProbes is true for every input: in each turn in which it is half open one pass is given; what is told of an older pass changes nothing; it is open just behind a call that was told not ok. No condition. -/
import Derived.Test.YthbeednmekajaaaRows
import Derived.Test.YthbeednmekajaaaLaw2
import Derived.Test.YthbeednmekajaaaProbe4
namespace Go.Proofs.Ythbeednmekajaaa.probes
open Go.ChangeShapes Go.WideShapes Go.ChangeAt Go.RowKit

theorem own : ownKnob Try.prog.godebug = none := by kernel_rfl
theorem laidOut : laidOutB Try.prog = true := by kernel_rfl
theorem cells : Try.prog.cellsOf 52 = 6 := by kernel_rfl
theorem cells3 : Try.prog.cellsOf 41 = 3 := by kernel_rfl
theorem bytes : Try.prog.bytesOf 52 = 40 := by kernel_rfl

set_option maxRecDepth 100000 in
theorem lifted (os : Os) (started : os.Started) (H : Type) (enc : TypeId × Value → H) :
    ReturnsInHanded {} Try.checked os 5 .any (Rows.breakerProbesSpec.pre6 enc Try.prog Try.f5 Rows.breakerProbesRow.domain false) (Rows.breakerProbesSpec.post enc Try.prog Try.f5 false true false false) := by
  refine returnsInHanded_of_change_sized (C := Try.checked) own started (by kernel_rfl) Try.func5
    (ChangeSpec.witness6 (enc := enc) (C := Try.checked) false ⟨#[], #[.agg #[.int .i64 0, .int .i64 0, .int .i64 0], .slice none 0 0], []⟩ 8 (by kernel_rfl) (by kernel_rfl) (by kernel_rfl) (by kernel_rfl)) ?_
  intro W base args ds gs before hval0 hW _ hsz0 _
  have hsz : (DataW.weightsEach Try.prog (Try.f5.params.toList ++ Rows.breakerProbesSpec.plain.varTypes Try.prog) (ds ++ gs)).all (· ≤ reachBytes) = true := hsz0
  clear hsz0
  have hval : ∀ (j : Nat) t v, Try.f5.params[j]? = some t → args[j]? = some v → Value.okWide Try.prog W .any base t v := hval0
  have hW' := hW
  obtain ⟨p, q, hA0, hV, rfl, hfz, hnd⟩ := hW
  have hA : DataW.TrodAll enc Try.prog W 0 (fun _ => true) true Try.f5.params.toList args.toList ds p := hA0
  rw [Try.params5] at hA hval hsz
  obtain ⟨v0, v2, d0, d2, p0, p2, rfl, rfl, rfl, h0, h2⟩ := trodAll_two hA
  obtain ⟨rfl, rfl⟩ := trodVars_none hV
  obtain ⟨a0, a1, a2, rfl⟩ := open_ints3 Try.underlying41 Try.underlying3 (by kernel_rfl) cells3 rfl (hval 0 41 v0 rfl rfl) h0
  obtain ⟨A, len, cap, rfl, hlc, hcm, hx, es, rest, hd⟩ := open_structs Try.underlying42 Try.underlying52 (by kernel_rfl) cells (by decide) (hval 1 42 v2 rfl rfl) h2
  have hlen : len ≤ 8796093022208 := by
    rcases hd with ⟨_, h⟩ | ⟨h, hl⟩
    · omega
    · have := sized_slice hsz (j := 1) (t := 42) (e := 52) rfl (by rw [h]; rfl) Try.underlying42
      rw [bytes] at this
      simp only [reachBytes] at this
      omega
  have hx' : ∃ xs : Nat → St, 0 < len → ∃ b off, A = some ⟨b, off, none⟩ ∧ b < W.heap.size ∧ ∀ i, i < len → StAt W b (off + i * 6) (xs i) := by
    by_cases hpos : 0 < len
    · obtain ⟨b, off, hA', hb, hc⟩ := hx hpos
      have : ∀ i, ∃ x, i < len → StAt W b (off + i * 6) x := by
        intro i
        by_cases hi : i < len
        · obtain ⟨u0, y0, n0, c0, t0⟩ := hc i hi 0 _ rfl
          obtain ⟨u1, y1, n1, c1, t1⟩ := hc i hi 1 _ rfl
          obtain ⟨u2, y2, n2, c2, t2⟩ := hc i hi 2 _ rfl
          obtain ⟨u3, y3, n3, c3, t3⟩ := hc i hi 3 _ rfl
          obtain ⟨u4, y4, n4, c4, t4⟩ := hc i hi 4 _ rfl
          obtain ⟨u5, y5, n5, c5, t5⟩ := hc i hi 5 _ rfl
          obtain ⟨x0, e0, _⟩ := DataW.trod_int Try.underlying3 t0
          obtain ⟨x1, e1, _⟩ := DataW.trod_bool Try.underlying4 t1
          obtain ⟨x2, e2, _⟩ := DataW.trod_bool Try.underlying4 t2
          obtain ⟨x3, e3, _⟩ := DataW.trod_int Try.underlying3 t3
          obtain ⟨x4, e4, _⟩ := DataW.trod_bool Try.underlying4 t4
          obtain ⟨x5, e5, _⟩ := DataW.trod_int Try.underlying3 t5
          simp only [List.cons.injEq, and_true] at e0 e1 e2 e3 e4 e5
          subst e0 e1 e2 e3 e4 e5
          exact ⟨⟨x0, x1, x2, x3, x4, x5⟩, fun _ => ⟨c0, c1, c2, c3, c4, c5⟩⟩
        · exact ⟨⟨0, false, false, 0, false, 0⟩, fun h => absurd h hi⟩
      exact ⟨fun i => Classical.choose (this i), fun _ => ⟨b, off, hA', hb, fun i hi => Classical.choose_spec (this i) hi⟩⟩
    · exact ⟨fun _ => ⟨0, false, false, 0, false, 0⟩, fun h => absurd h hpos⟩
  obtain ⟨xs, hxs⟩ := hx'
  refine (probes_walk ⟨a0, a1, a2⟩ A len cap W hlen xs hxs).mono fun e W' ⟨he, hb⟩ => ?_
  subst he
  exact ⟨_, rfl, law_post laidOut (by kernel_rfl) hW' rfl rfl Try.underlying4 ⟨rfl, rfl, rfl⟩ hb⟩

theorem proved : Rows.BreakerProbesSaid :=
  OpenClaim.holds_of_wide 5 Try.f5 rfl rfl rfl rfl rfl rfl rfl ⟨rfl, rfl, rfl, rfl, rfl⟩ rfl rfl rfl rfl rfl (by kernel_rfl) Try.func5 (by kernel_rfl)
    (of_decide_eq_true (by kernel_rfl)) (by unfold Func.isWrapper; first | (rw [if_pos (by decide +kernel)]; kernel_rfl) | (rw [if_neg (by decide +kernel)]; exact ⟨rfl, rfl⟩))
    (fun os started H enc _ => lifted os started H enc)
#print axioms proved
end Go.Proofs.Ythbeednmekajaaa.probes
