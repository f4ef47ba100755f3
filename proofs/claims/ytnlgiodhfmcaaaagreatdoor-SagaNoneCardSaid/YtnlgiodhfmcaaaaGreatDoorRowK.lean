/-
  Whole structs stored into blocks that are known whole; results that lie in a cell.
-/
import Derived.Test.YtnlgiodhfmcaaaaGreatDoorBase
import Derived.Deep.WholeRow
namespace Go.Proofs.YtnlgiodhfmcaaaaGreatDoor
open Go.RowKit

section
variable {w w' : World} {g : Nat} {t : TypeId} {cs : Array Value} {S : List Nat} {a : World}
theorem blk_setRow (h : Blk w g t cs) (c' : Array Value) : Blk (w.setRow g c') g t c' := by
  unfold Blk at *
  simp [World.setRow, Array.getElem?_modify, h]
theorem chg_setRow (h : Chg S a w) (hp : g ∈ S ∨ a.heap.size ≤ g) (c' : Array Value) : Chg S a (w.setRow g c') :=
  ⟨h.os, h.tape, h.output, by simpa [World.setRow] using h.size, fun k hk hn => by
    have hne : g ≠ k := by
      rintro rfl
      rcases hp with hp | hp
      · exact hn hp
      · omega
    have : (w.setRow g c').heap[k]? = w.heap[k]? := by simp [World.setRow, Array.getElem?_modify, hne]
    exact this.trans (h.block k hk hn)⟩
end

/-- A whole struct stored into a block that is known whole. -/
theorem store_blk {P : Program} {ops : Array Oper} {rest : List Oper} {a : Act} {w : World} {Q : Exit → Act → World → Prop} {x y : Nat} {ty t T : TypeId} {pos : String} {after : Array Edge} {old : Array Value} (g : Nat) (cells : Array Value)
    (hx : a.eval (.tmp x) = .pointer (some ⟨g, 0, none⟩)) (hy : a.eval (.tmp y) = .agg cells) (hg : Blk w g t old) (hi : (P.info? ty).map (·.size) = some cells.size) (hold : old.size = cells.size) (h1 : cells.all (·.oneCell') = true)
    (h : wpList P ops Q rest a (w.setRow g cells)) : wpList P ops Q (⟨none, .store ty (.tmp x) (.tmp y), T, pos, after, none⟩ :: rest) a w :=
  wpList_store_row rfl ty (.tmp x) (.tmp y) rfl g cells hx hy t old hg hi hold h1 h

theorem store_new {P : Program} {ops : Array Oper} {rest : List Oper} {a : Act} {w : World} {Q : Exit → Act → World → Prop} {x y : Nat} {ty t T : TypeId} {pos : String} {after : Array Edge} {old : Array Value} (cells : Array Value)
    (hx : a.eval (.tmp x) = .pointer (some ⟨w.heap.size, 0, none⟩)) (hy : a.eval (.tmp y) = .agg cells) (hi : (P.info? ty).map (·.size) = some cells.size) (hold : old.size = cells.size) (h1 : cells.all (·.oneCell') = true)
    (h : wpList P ops Q rest a (w.alloc (.cells cells t))) : wpList P ops Q (⟨none, .store ty (.tmp x) (.tmp y), T, pos, after, none⟩ :: rest) a (w.alloc (.cells old t)) := by
  refine wpList_store_row rfl ty (.tmp x) (.tmp y) rfl w.heap.size cells hx hy t old (heap_alloc_last w _) hi hold h1 ?_
  rw [World.setRow_alloc_new]
  exact h

theorem res_ct {P : Program} {fn : Func} {p q : Tmp} {ty : TypeId} (h : fn.results = #[.cell p ty, .tmp q]) (tmps : Array Value) (w : World) (g : Nat) (t : TypeId) (cs : Array Value) (d : TypeDesc) (v : Value)
    (hp : tmps.getD p undef = .pointer (some ⟨g, 0, none⟩)) (hq : tmps.getD q undef = v) (hg : Blk w g t cs)
    (hu : P.underlying ty = some d) (hd : (match d with | .struct _ | .array _ _ => true | _ => false) = true) (hi : (P.info? ty).map (·.size) = some cs.size) :
    (results fn tmps).run P w = .ok (.tuple #[.agg cs, v]) w := by
  have hp' : tmps[p]?.getD undef = .pointer (some ⟨g, 0, none⟩) := by simpa using hp
  have hq' : tmps[q]?.getD undef = v := by simpa using hq
  simp [results, h, hp', hq', asAddr, run_loadVar_row w g t ty cs (0, 0) d hg hu hd hi]
theorem res_tct {P : Program} {fn : Func} {r p q : Tmp} {ty : TypeId} (h : fn.results = #[.tmp r, .cell p ty, .tmp q]) (tmps : Array Value) (w : World) (g : Nat) (t : TypeId) (cs : Array Value) (d : TypeDesc) (u v : Value)
    (hr : tmps.getD r undef = u) (hp : tmps.getD p undef = .pointer (some ⟨g, 0, none⟩)) (hq : tmps.getD q undef = v) (hg : Blk w g t cs)
    (hu : P.underlying ty = some d) (hd : (match d with | .struct _ | .array _ _ => true | _ => false) = true) (hi : (P.info? ty).map (·.size) = some cs.size) :
    (results fn tmps).run P w = .ok (.tuple #[u, .agg cs, v]) w := by
  have hp' : tmps[p]?.getD undef = .pointer (some ⟨g, 0, none⟩) := by simpa using hp
  have hq' : tmps[q]?.getD undef = v := by simpa using hq
  have hr' : tmps[r]?.getD undef = u := by simpa using hr
  simp [results, h, hp', hq', hr', asAddr, run_loadVar_row w g t ty cs (0, 0) d hg hu hd hi]
theorem forget {P : World → Prop} (w0 : World) (Q : World → Prop) (hQ : Q w0) (h : ∀ w, Q w → P w) : P w0 := h w0 hQ
end Go.Proofs.YtnlgiodhfmcaaaaGreatDoor
