/- BreakerOrder is true for every input: what a race comes to under any schedule is what its calls come to one behind the other, in the order in which they were done, on a breaker of its own. No condition. -/
import Derived.Test.YthbeednmekajaaaRows
import Derived.Test.YthbeednmekajaaaLaw2
import Derived.Test.YthbeednmekajaaaOrd7
namespace Go.Proofs.Ythbeednmekajaaa.order
open Go.ChangeShapes Go.WideShapes Go.ChangeAt Go.RowKit

theorem own : ownKnob Try.prog.godebug = none := by kernel_rfl
theorem laidOut : laidOutB Try.prog = true := by kernel_rfl
theorem cells : Try.prog.cellsOf 78 = 4 := by kernel_rfl
theorem cells3 : Try.prog.cellsOf 41 = 3 := by kernel_rfl
theorem bytes : Try.prog.bytesOf 78 = 32 := by kernel_rfl
theorem cells1 : Try.prog.cellsOf 3 = 1 := by kernel_rfl
theorem bytes1 : Try.prog.bytesOf 3 = 8 := by kernel_rfl

set_option maxRecDepth 100000 in
/-- A list of numbers that came in. -/
theorem open_list {H : Type} {enc : TypeId × Value → H} {w : World} {sp : Nat → Bool} {hd : Bool} {v : Value} {d : DataW H} {ps : List MemPlace} {r : Reach} {b0 : Nat} (hv : Value.okWide Try.prog w r b0 50 v) (h : DataW.Trod enc Try.prog w 0 sp hd 50 v d ps) :
    ∃ (A : Option Addr) (len cap : Nat) (xs : Nat → Int), v = .slice A len cap ∧ (A = none → cap = 0) ∧ IntsAt w A len xs ∧ ∃ (es : List (DataW H)) (rest : List (DataW H)), (d = .nil ∧ len = 0 ∨ d = .slice es rest ∧ es.length = len) := by
  obtain ⟨a0, n0, c0, rfl⟩ := okWide_slice Try.underlying50 hv
  obtain ⟨fuel, hf⟩ := h
  rcases open_ints Try.underlying50 Try.underlying3 cells1 hf with ⟨hcs, hx⟩ | ⟨a, len, cap, zs, hcs, hb, hl, hm, hz, hx, hc, hwf⟩
  · have hcs' : [Value.slice a0 n0 c0] = [Value.slice none 0 0] := hcs
    injection hcs' with e1
    injection e1 with e1 e2 e3
    subst e1 e2 e3
    injection hx with hx1 hx2
    exact ⟨none, 0, 0, fun _ => 0, rfl, fun _ => rfl, fun h => absurd h (by omega), [], [], .inl ⟨hx1, rfl⟩⟩
  · have hcs' : [Value.slice a0 n0 c0] = [Value.slice (some a) len cap] := hcs
    injection hcs' with e1
    injection e1 with e1 e2 e3
    subst e1 e2 e3
    injection hx with hx1 hx2
    have hzl : n0 ≤ zs.length := by rw [hz]; split <;> omega
    refine ⟨some a, n0, c0, fun i => zs.getD i 0, rfl, (fun h => nomatch h), fun hp => ?_, _, _, .inr ⟨hx1, ?_⟩⟩
    · have h0 := hc 0 (by omega)
      obtain ⟨_, _, _, _, hs⟩ := World.shape?_of_cell? h0
      obtain ⟨b, off, spot⟩ := a
      have hsp : spot = none := by simpa [Addr.add] using hs
      subst hsp
      have hbl : b < w.heap.size := by have := World.block_lt_of_cell? _ _ h0; simpa [Addr.add] using this
      refine ⟨b, off, rfl, hbl, fun i hi => ?_⟩
      rw [← hc i (by omega)]
      unfold Addr.add
      split
      · rename_i e; simp [e]
      · rfl
    · simp [lits]
      omega

set_option maxRecDepth 100000 in
theorem lifted (os : Os) (started : os.Started) (H : Type) (enc : TypeId × Value → H) :
    ReturnsInHanded {} Try.checked os 8 .any (Rows.breakerOrderSpec.pre6 enc Try.prog Try.f8 Rows.breakerOrderRow.domain false) (Rows.breakerOrderSpec.post enc Try.prog Try.f8 false true false false) := by
  refine returnsInHanded_of_change_sized (C := Try.checked) own started (by kernel_rfl) Try.func8
    (ChangeSpec.witness6 (enc := enc) (C := Try.checked) false ⟨#[], #[.agg #[.int .i64 0, .int .i64 0, .int .i64 0], .slice none 0 0, .slice none 0 0], []⟩ 8 (by kernel_rfl) (by kernel_rfl) (by kernel_rfl) (by kernel_rfl)) ?_
  intro W base args ds gs before hval0 hW _ hsz0 _
  have hsz : (DataW.weightsEach Try.prog (Try.f8.params.toList ++ Rows.breakerOrderSpec.plain.varTypes Try.prog) (ds ++ gs)).all (· ≤ reachBytes) = true := hsz0
  clear hsz0
  have hval : ∀ (j : Nat) t v, Try.f8.params[j]? = some t → args[j]? = some v → Value.okWide Try.prog W .any base t v := hval0
  have hW' := hW
  obtain ⟨p, q, hA0, hV, rfl, hfz, hnd⟩ := hW
  have hA : DataW.TrodAll enc Try.prog W 0 (fun _ => true) true Try.f8.params.toList args.toList ds p := hA0
  rw [Try.params8] at hA hval hsz
  obtain ⟨v0, v1, v2, d0, d1, d2, p0, p1, p2, rfl, rfl, rfl, h0, h1, h2⟩ := trodAll_three hA
  obtain ⟨rfl, rfl⟩ := trodVars_none hV
  obtain ⟨a0, a1, a2, rfl⟩ := open_ints3 Try.underlying41 Try.underlying3 (by kernel_rfl) cells3 rfl (hval 0 41 v0 rfl rfl) h0
  obtain ⟨A, len, cap, rfl, hlc, hcm, hx, es, rest, hd⟩ := open_structs Try.underlying66 Try.underlying78 (by kernel_rfl) cells (by decide) (hval 1 66 v1 rfl rfl) h1
  obtain ⟨B, sl, sc, xs, rfl, -, hxs, es2, rest2, hd2⟩ := open_list (hval 2 50 v2 rfl rfl) h2
  have hlen : len ≤ 4398046511104 := by
    rcases hd with ⟨_, h⟩ | ⟨h, hl⟩
    · omega
    · have := sized_slice hsz (j := 1) (t := 66) (e := 78) rfl (by rw [h]; rfl) Try.underlying66
      rw [bytes] at this
      simp only [reachBytes] at this
      omega
  have hsl : sl ≤ 17592186044416 := by
    rcases hd2 with ⟨_, h⟩ | ⟨h, hl⟩
    · omega
    · have := sized_slice hsz (j := 2) (t := 50) (e := 3) rfl (by rw [h]; rfl) Try.underlying50
      rw [bytes1] at this
      simp only [reachBytes] at this
      omega
  have hx' : ∃ cs : Nat → Cl, ClsAt W A len cs := by
    by_cases hpos : 0 < len
    · obtain ⟨b, off, hA', hb, hc⟩ := hx hpos
      have : ∀ i, ∃ x, i < len → ClAt W b (off + i * 4) x := by
        intro i
        by_cases hi : i < len
        · obtain ⟨u0, y0, n0, c0, t0⟩ := hc i hi 0 _ rfl
          obtain ⟨u1, y1, n1, c1, t1⟩ := hc i hi 1 _ rfl
          obtain ⟨u2, y2, n2, c2, t2⟩ := hc i hi 2 _ rfl
          obtain ⟨u3, y3, n3, c3, t3⟩ := hc i hi 3 _ rfl
          obtain ⟨x0, e0, _⟩ := DataW.trod_bool Try.underlying4 t0
          obtain ⟨x1, e1, _⟩ := DataW.trod_int Try.underlying3 t1
          obtain ⟨x2, e2, _⟩ := DataW.trod_bool Try.underlying4 t2
          obtain ⟨x3, e3, _⟩ := DataW.trod_int Try.underlying3 t3
          simp only [List.cons.injEq, and_true] at e0 e1 e2 e3
          subst e0 e1 e2 e3
          exact ⟨⟨x0, x1, x2, x3⟩, fun _ => ⟨c0, c1, c2, c3⟩⟩
        · exact ⟨⟨false, 0, false, 0⟩, fun h => absurd h hi⟩
      exact ⟨fun i => Classical.choose (this i), fun _ => ⟨b, off, hA', hb, fun i hi => Classical.choose_spec (this i) hi⟩⟩
    · exact ⟨fun _ => ⟨false, 0, false, 0⟩, fun h => absurd h hpos⟩
  obtain ⟨cs, hcs⟩ := hx'
  refine (walk_order ⟨a0, a1, a2⟩ A len cap B sl sc W cs xs hlen hsl hcs hxs).mono fun e W' ⟨he, hb⟩ => ?_
  subst he
  exact ⟨_, rfl, law_post laidOut (by kernel_rfl) hW' rfl rfl Try.underlying4 ⟨rfl, rfl, rfl⟩ hb⟩

theorem proved : Rows.BreakerOrderSaid :=
  OpenClaim.holds_of_wide 8 Try.f8 rfl rfl rfl rfl rfl rfl rfl ⟨rfl, rfl, rfl, rfl, rfl⟩ rfl rfl rfl rfl rfl (by kernel_rfl) Try.func8 (by kernel_rfl)
    (of_decide_eq_true (by kernel_rfl)) (by unfold Func.isWrapper; first | (rw [if_pos (by decide +kernel)]; kernel_rfl) | (rw [if_neg (by decide +kernel)]; exact ⟨rfl, rfl⟩))
    (fun os started H enc _ => lifted os started H enc)
#print axioms proved
end Go.Proofs.Ythbeednmekajaaa.order
