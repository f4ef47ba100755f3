/-
  Arguments that are structs of one-cell fields, by value.
-/
import Derived.Test.YthbeednmekajaaaLaw
namespace Go.Proofs.Ythbeednmekajaaa
open Go.ChangeShapes Go.WideShapes Go.ChangeAt Go.RowKit Go.Deep

section
variable {P : Program} {H : Type} {enc : TypeId × Value → H}

/-- A struct of one-cell fields: its cells, each read by its field's type. -/
theorem open_struct {w : World} {sp : Nat → Bool} {hd : Bool} {t : TypeId} {fs : Array Field} {v : Value} {d : DataW H} {ps : List MemPlace} (ht : P.underlying t = some (.struct fs))
    (hone : oneCellFields P fs = true) (hC : P.cellsOf t = fs.size) {r : Reach} {b0 : Nat} (hv : Value.okWide P w r b0 t v) (h : DataW.Trod enc P w 0 sp hd t v d ps) :
    ∃ cs : Array Value, v = .agg cs ∧ cs.size = fs.size ∧ ∀ (j : Nat) (f : Field), fs[j]? = some f → ∃ (u : Value) (y : DataW H × List MemPlace) (n : Nat), cs[j]? = some u ∧ DataW.trod enc P w 0 sp hd n f.type [u] = some y := by
  obtain ⟨cs, rfl, hsz⟩ := okWide_struct ht hv
  obtain ⟨fuel, hf⟩ := h
  obtain ⟨ys, n', hn', hy, hlen, hyl, hfd⟩ := DataW.trod_struct ht hf
  rw [hC] at hsz
  refine ⟨cs, rfl, hsz, fun j f hj => ?_⟩
  obtain ⟨ho, hk⟩ := hone_of hone j f hj
  have hjl : j < fs.size := (Array.getElem?_eq_some_iff.1 hj).1
  have h1 := hfd j f hj
  rw [ho, hk] at h1
  have hjc : j < cs.toList.length := by simp; omega
  have hone' : ((Value.agg cs).cells.toList.drop j).take 1 = [cs.toList[j]'hjc] := by
    show (cs.toList.drop j).take 1 = _
    rw [List.drop_eq_getElem_cons hjc]
    rfl
  rw [hone'] at h1
  have hys : ys[j]? = some (ys[j]'(by omega)) := List.getElem?_eq_getElem (by omega)
  exact ⟨cs.toList[j]'hjc, ys[j]'(by omega), n', by simp, h1.trans hys⟩

theorem agg_three {cs : Array Value} {a b c : Value} (hs : cs.size = 3) (h0 : cs[0]? = some a) (h1 : cs[1]? = some b) (h2 : cs[2]? = some c) : cs = #[a, b, c] := by
  apply Array.ext'
  rcases cs with ⟨l⟩
  match l, hs with
  | [x, y, z], _ => simp at h0 h1 h2; simp [h0, h1, h2]

/-- A struct of three ints. -/
theorem open_ints3 {w : World} {sp : Nat → Bool} {hd : Bool} {t i : TypeId} {fs : Array Field} {v : Value} {d : DataW H} {ps : List MemPlace} (ht : P.underlying t = some (.struct fs))
    (hi : P.underlying i = some (.int .i64)) (hone : oneCellFields P fs = true) (hC : P.cellsOf t = fs.size) (h3 : fs.toList.map (·.type) = [i, i, i]) {r : Reach} {b0 : Nat} (hv : Value.okWide P w r b0 t v) (h : DataW.Trod enc P w 0 sp hd t v d ps) :
    ∃ a b c : Int, v = .agg #[.int .i64 a, .int .i64 b, .int .i64 c] := by
  obtain ⟨cs, rfl, hs, hx⟩ := open_struct ht hone hC hv h
  obtain ⟨l⟩ := fs
  obtain ⟨f0, f1, f2, rfl⟩ : ∃ f0 f1 f2, l = [f0, f1, f2] := by
    have hl : l.length = 3 := by have := congrArg List.length h3; simpa using this
    rcases l with _ | ⟨f0, _ | ⟨f1, _ | ⟨f2, _ | ⟨f3, l⟩⟩⟩⟩ <;> simp at hl
    exact ⟨f0, f1, f2, rfl⟩
  · simp at h3
    obtain ⟨e0, e1, e2⟩ := h3
    obtain ⟨u0, y0, n0, c0, t0⟩ := hx 0 f0 rfl
    obtain ⟨u1, y1, n1, c1, t1⟩ := hx 1 f1 rfl
    obtain ⟨u2, y2, n2, c2, t2⟩ := hx 2 f2 rfl
    rw [e0] at t0; rw [e1] at t1; rw [e2] at t2
    obtain ⟨x0, k0, _⟩ := DataW.trod_int hi t0
    obtain ⟨x1, k1, _⟩ := DataW.trod_int hi t1
    obtain ⟨x2, k2, _⟩ := DataW.trod_int hi t2
    simp only [List.cons.injEq, and_true] at k0 k1 k2
    subst k0 k1 k2
    exact ⟨x0, x1, x2, by rw [agg_three hs c0 c1 c2]⟩
end
end Go.Proofs.Ythbeednmekajaaa
