/-
  What matching answers at its ends; the law. (Printed by wip/tools/gen_mat2.py.)
-/
import Derived.Test.YtfdegodfgknfhaaGreatDoorMat1
import Derived.Deep.WholeRow
namespace Go.Proofs.YtfdegodfgknfhaaGreatDoor
open Go.RowKit

section
variable {w w' : World} {g : Nat} {t : TypeId} {cs : Array Value} {S : List Nat} {a : World}
theorem blk_setRow (h : Blk w g t cs) (c' : Array Value) : Blk (w.setRow g c') g t c' := by
  unfold Blk at *
  simp [World.setRow, Array.getElem?_modify, h]
theorem chg_setRow (h : Chg S a w) (hp : g ∈ S ∨ a.heap.size ≤ g) (c' : Array Value) : Chg S a (w.setRow g c') :=
  ⟨h.os, h.tape, h.output, by simpa [World.setRow] using h.size, fun k hk hn => by
    have hne : g ≠ k := by
      rintro rfl
      rcases hp with hp | hp
      · exact hn hp
      · omega
    have : (w.setRow g c').heap[k]? = w.heap[k]? := by simp [World.setRow, Array.getElem?_modify, hne]
    exact this.trans (h.block k hk hn)⟩
end

/-- A whole struct stored into a block that is known whole. -/
theorem store_blk {P : Program} {ops : Array Oper} {rest : List Oper} {a : Act} {w : World} {Q : Exit → Act → World → Prop} {x y : Nat} {ty t T : TypeId} {pos : String} {after : Array Edge} {old : Array Value} (g : Nat) (cells : Array Value)
    (hx : a.eval (.tmp x) = .pointer (some ⟨g, 0, none⟩)) (hy : a.eval (.tmp y) = .agg cells) (hg : Blk w g t old) (hi : (P.info? ty).map (·.size) = some cells.size) (hold : old.size = cells.size) (h1 : cells.all (·.oneCell') = true)
    (h : wpList P ops Q rest a (w.setRow g cells)) : wpList P ops Q (⟨none, .store ty (.tmp x) (.tmp y), T, pos, after, none⟩ :: rest) a w :=
  wpList_store_row rfl ty (.tmp x) (.tmp y) rfl g cells hx hy t old hg hi hold h1 h

theorem store_new {P : Program} {ops : Array Oper} {rest : List Oper} {a : Act} {w : World} {Q : Exit → Act → World → Prop} {x y : Nat} {ty t T : TypeId} {pos : String} {after : Array Edge} {old : Array Value} (cells : Array Value)
    (hx : a.eval (.tmp x) = .pointer (some ⟨w.heap.size, 0, none⟩)) (hy : a.eval (.tmp y) = .agg cells) (hi : (P.info? ty).map (·.size) = some cells.size) (hold : old.size = cells.size) (h1 : cells.all (·.oneCell') = true)
    (h : wpList P ops Q rest a (w.alloc (.cells cells t))) : wpList P ops Q (⟨none, .store ty (.tmp x) (.tmp y), T, pos, after, none⟩ :: rest) a (w.alloc (.cells old t)) := by
  refine wpList_store_row rfl ty (.tmp x) (.tmp y) rfl w.heap.size cells hx hy t old (heap_alloc_last w _) hi hold h1 ?_
  rw [World.setRow_alloc_new]
  exact h

theorem res_ct {P : Program} {fn : Func} {p q : Tmp} {ty : TypeId} (h : fn.results = #[.cell p ty, .tmp q]) (tmps : Array Value) (w : World) (g : Nat) (t : TypeId) (cs : Array Value) (d : TypeDesc) (v : Value)
    (hp : tmps.getD p undef = .pointer (some ⟨g, 0, none⟩)) (hq : tmps.getD q undef = v) (hg : Blk w g t cs)
    (hu : P.underlying ty = some d) (hd : (match d with | .struct _ | .array _ _ => true | _ => false) = true) (hi : (P.info? ty).map (·.size) = some cs.size) :
    (results fn tmps).run P w = .ok (.tuple #[.agg cs, v]) w := by
  have hp' : tmps[p]?.getD undef = .pointer (some ⟨g, 0, none⟩) := by simpa using hp
  have hq' : tmps[q]?.getD undef = v := by simpa using hq
  simp [results, h, hp', hq', asAddr, run_loadVar_row w g t ty cs (0, 0) d hg hu hd hi]
theorem res_tct {P : Program} {fn : Func} {r p q : Tmp} {ty : TypeId} (h : fn.results = #[.tmp r, .cell p ty, .tmp q]) (tmps : Array Value) (w : World) (g : Nat) (t : TypeId) (cs : Array Value) (d : TypeDesc) (u v : Value)
    (hr : tmps.getD r undef = u) (hp : tmps.getD p undef = .pointer (some ⟨g, 0, none⟩)) (hq : tmps.getD q undef = v) (hg : Blk w g t cs)
    (hu : P.underlying ty = some d) (hd : (match d with | .struct _ | .array _ _ => true | _ => false) = true) (hi : (P.info? ty).map (·.size) = some cs.size) :
    (results fn tmps).run P w = .ok (.tuple #[u, .agg cs, v]) w := by
  have hp' : tmps[p]?.getD undef = .pointer (some ⟨g, 0, none⟩) := by simpa using hp
  have hq' : tmps[q]?.getD undef = v := by simpa using hq
  have hr' : tmps[r]?.getD undef = u := by simpa using hr
  simp [results, h, hp', hq', hr', asAddr, run_loadVar_row w g t ty cs (0, 0) d hg hu hd hi]

set_option maxRecDepth 100000 in
set_option maxHeartbeats 1000000 in
theorem as_nil (w : World) : Calls Tryz.prog 5 #[.pointer none, .int .i64 9, .int .u8 1, .int .u8 1] w fun e w' => e = .returned (.tuple #[.agg (ansC 0), .int .i64 2]) ∧ Chg [] w w' := by
  go_enter Tryz.func5, Tryz.ntmps5
  go_wp2_with fail
  have hb : Blk (w.alloc (.cells (ansC 0) 33)) w.heap.size 33 (ansC 0) := Blk.new _ _ _
  have hc : Chg [] w (w.alloc (.cells (ansC 0) 33)) := (Chg.refl [] w).alloc _
  have HB := Lib.hid hb; have HC := Lib.hid hc
  clear hb hc
  refine (one_nil _).mono ?_
  rintro e w4 ⟨rfl, hd⟩
  have HB4 := Lib.hid ((HB.out.chg hd (by simp)).alloc (.cells #[.nilFunc] 70)); have HC4 := Lib.hid ((HC.out.trans hd).alloc (.cells #[.nilFunc] 70))
  clear hd
  have hsf := fun (w : World) (a : Addr) m => (run_store Tryz.prog w a (.nilFunc) m rfl : (store a (.nilFunc) m).run Tryz.prog w = stored Tryz.prog w a (.nilFunc) m)
  go_wp2_with (with_reducible refine store_blk (ty := 33) w.heap.size (ansC 0) ?_ ?_ HB4.out ?_ ?_ ?_ ?_)
  · go_simp
  · go_simp; try rfl
  · kernel_rfl
  · kernel_rfl
  · kernel_rfl
  clear hsf
  go_wp2_with fail
  refine bodyPost_ret (v := .tuple #[.agg (ansC 0), .int .i64 2]) (res_ct Tryz.results5 _ _ w.heap.size 33 (ansC 0) _ _ rfl rfl (blk_setRow HB4.out _) Tryz.underlying33 rfl (by kernel_rfl)) rfl ?_
  exact ⟨rfl, chg_setRow HC4.out (.inr (Nat.le_refl _)) _⟩
set_option maxRecDepth 100000 in
set_option maxHeartbeats 1000000 in
theorem as_900 (x : Nat) (w : World) (hx : w.cell? ⟨x, 0, none⟩ = some (.slice none 0 0)) (hxl : x < w.heap.size) : Calls Tryz.prog 5 #[.pointer (some ⟨x, 0, none⟩), .int .i64 9, .int .u8 0, .int .u8 0] w fun e w' => e = .returned (.tuple #[.agg (ansC 0), .int .i64 50]) ∧ Chg [] w w' := by
  have HX := Lib.hid hx
  clear hx
  go_enter Tryz.func5, Tryz.ntmps5
  go_wp2_with fail
  have hb : Blk (w.alloc (.cells (ansC 0) 33)) w.heap.size 33 (ansC 0) := Blk.new _ _ _
  have hc : Chg [] w (w.alloc (.cells (ansC 0) 33)) := (Chg.refl [] w).alloc _
  have HB := Lib.hid hb; have HC := Lib.hid hc
  clear hb hc
  refine (one_b900 x _ ((HC.out.cell (p := ⟨x, 0, none⟩) hxl (by simp)).trans HX.out) (Nat.lt_of_lt_of_le hxl HC.out.size)).mono ?_
  rintro e w4 ⟨rfl, hd⟩
  have HB4 := Lib.hid ((HB.out.chg hd (by simp)).alloc (.cells #[.nilFunc] 70)); have HC4 := Lib.hid ((HC.out.trans hd).alloc (.cells #[.nilFunc] 70))
  clear hd
  have hsf := fun (w : World) (a : Addr) m => (run_store Tryz.prog w a (.nilFunc) m rfl : (store a (.nilFunc) m).run Tryz.prog w = stored Tryz.prog w a (.nilFunc) m)
  go_wp2_with (with_reducible refine store_blk (ty := 33) w.heap.size (ansC 0) ?_ ?_ HB4.out ?_ ?_ ?_ ?_)
  · go_simp
  · go_simp; try rfl
  · kernel_rfl
  · kernel_rfl
  · kernel_rfl
  clear hsf
  go_wp2_with fail
  refine bodyPost_ret (v := .tuple #[.agg (ansC 0), .int .i64 50]) (res_ct Tryz.results5 _ _ w.heap.size 33 (ansC 0) _ _ rfl rfl (blk_setRow HB4.out _) Tryz.underlying33 rfl (by kernel_rfl)) rfl ?_
  exact ⟨rfl, chg_setRow HC4.out (.inr (Nat.le_refl _)) _⟩
set_option maxRecDepth 100000 in
set_option maxHeartbeats 1000000 in
theorem as_000 (x : Nat) (w : World) : Calls Tryz.prog 5 #[.pointer (some ⟨x, 0, none⟩), .int .i64 0, .int .u8 0, .int .u8 0] w fun e w' => e = .returned (.tuple #[.agg (ansC 0), .int .i64 1]) ∧ Chg [] w w' := by
  go_enter Tryz.func5, Tryz.ntmps5
  go_wp2_with fail
  have hb : Blk (w.alloc (.cells (ansC 0) 33)) w.heap.size 33 (ansC 0) := Blk.new _ _ _
  have hc : Chg [] w (w.alloc (.cells (ansC 0) 33)) := (Chg.refl [] w).alloc _
  have HB := Lib.hid hb; have HC := Lib.hid hc
  clear hb hc
  refine (one_b000 x _).mono ?_
  rintro e w4 ⟨rfl, hd⟩
  have HB4 := Lib.hid ((HB.out.chg hd (by simp)).alloc (.cells #[.nilFunc] 70)); have HC4 := Lib.hid ((HC.out.trans hd).alloc (.cells #[.nilFunc] 70))
  clear hd
  have hsf := fun (w : World) (a : Addr) m => (run_store Tryz.prog w a (.nilFunc) m rfl : (store a (.nilFunc) m).run Tryz.prog w = stored Tryz.prog w a (.nilFunc) m)
  go_wp2_with (with_reducible refine store_blk (ty := 33) w.heap.size (ansC 0) ?_ ?_ HB4.out ?_ ?_ ?_ ?_)
  · go_simp
  · go_simp; try rfl
  · kernel_rfl
  · kernel_rfl
  · kernel_rfl
  clear hsf
  go_wp2_with fail
  refine bodyPost_ret (v := .tuple #[.agg (ansC 0), .int .i64 1]) (res_ct Tryz.results5 _ _ w.heap.size 33 (ansC 0) _ _ rfl rfl (blk_setRow HB4.out _) Tryz.underlying33 rfl (by kernel_rfl)) rfl ?_
  exact ⟨rfl, chg_setRow HC4.out (.inr (Nat.le_refl _)) _⟩
set_option maxRecDepth 100000 in
set_option maxHeartbeats 1000000 in
theorem as_0271 (x : Nat) (w : World) : Calls Tryz.prog 5 #[.pointer (some ⟨x, 0, none⟩), .int .i64 0, .int .u8 27, .int .u8 1] w fun e w' => e = .returned (.tuple #[.agg (ansC 0), .int .i64 1]) ∧ Chg [] w w' := by
  go_enter Tryz.func5, Tryz.ntmps5
  go_wp2_with fail
  have hb : Blk (w.alloc (.cells (ansC 0) 33)) w.heap.size 33 (ansC 0) := Blk.new _ _ _
  have hc : Chg [] w (w.alloc (.cells (ansC 0) 33)) := (Chg.refl [] w).alloc _
  have HB := Lib.hid hb; have HC := Lib.hid hc
  clear hb hc
  refine (one_b0271 x _).mono ?_
  rintro e w4 ⟨rfl, hd⟩
  have HB4 := Lib.hid ((HB.out.chg hd (by simp)).alloc (.cells #[.nilFunc] 70)); have HC4 := Lib.hid ((HC.out.trans hd).alloc (.cells #[.nilFunc] 70))
  clear hd
  have hsf := fun (w : World) (a : Addr) m => (run_store Tryz.prog w a (.nilFunc) m rfl : (store a (.nilFunc) m).run Tryz.prog w = stored Tryz.prog w a (.nilFunc) m)
  go_wp2_with (with_reducible refine store_blk (ty := 33) w.heap.size (ansC 0) ?_ ?_ HB4.out ?_ ?_ ?_ ?_)
  · go_simp
  · go_simp; try rfl
  · kernel_rfl
  · kernel_rfl
  · kernel_rfl
  clear hsf
  go_wp2_with fail
  refine bodyPost_ret (v := .tuple #[.agg (ansC 0), .int .i64 1]) (res_ct Tryz.results5 _ _ w.heap.size 33 (ansC 0) _ _ rfl rfl (blk_setRow HB4.out _) Tryz.underlying33 rfl (by kernel_rfl)) rfl ?_
  exact ⟨rfl, chg_setRow HC4.out (.inr (Nat.le_refl _)) _⟩
set_option maxRecDepth 100000 in
set_option maxHeartbeats 1000000 in
theorem as_0270 (x : Nat) (w : World) : Calls Tryz.prog 5 #[.pointer (some ⟨x, 0, none⟩), .int .i64 0, .int .u8 27, .int .u8 0] w fun e w' => e = .returned (.tuple #[.agg (ansC 0), .int .i64 40]) ∧ Chg [] w w' := by
  go_enter Tryz.func5, Tryz.ntmps5
  go_wp2_with fail
  have hb : Blk (w.alloc (.cells (ansC 0) 33)) w.heap.size 33 (ansC 0) := Blk.new _ _ _
  have hc : Chg [] w (w.alloc (.cells (ansC 0) 33)) := (Chg.refl [] w).alloc _
  have HB := Lib.hid hb; have HC := Lib.hid hc
  clear hb hc
  refine (one_b0270 x _).mono ?_
  rintro e w4 ⟨rfl, hd⟩
  have HB4 := Lib.hid ((HB.out.chg hd (by simp)).alloc (.cells #[.nilFunc] 70)); have HC4 := Lib.hid ((HC.out.trans hd).alloc (.cells #[.nilFunc] 70))
  clear hd
  have hsf := fun (w : World) (a : Addr) m => (run_store Tryz.prog w a (.nilFunc) m rfl : (store a (.nilFunc) m).run Tryz.prog w = stored Tryz.prog w a (.nilFunc) m)
  go_wp2_with (with_reducible refine store_blk (ty := 33) w.heap.size (ansC 0) ?_ ?_ HB4.out ?_ ?_ ?_ ?_)
  · go_simp
  · go_simp; try rfl
  · kernel_rfl
  · kernel_rfl
  · kernel_rfl
  clear hsf
  go_wp2_with fail
  refine bodyPost_ret (v := .tuple #[.agg (ansC 0), .int .i64 40]) (res_ct Tryz.results5 _ _ w.heap.size 33 (ansC 0) _ _ rfl rfl (blk_setRow HB4.out _) Tryz.underlying33 rfl (by kernel_rfl)) rfl ?_
  exact ⟨rfl, chg_setRow HC4.out (.inr (Nat.le_refl _)) _⟩
set_option maxRecDepth 100000 in
set_option maxHeartbeats 1000000 in
theorem as_0020 (x : Nat) (w : World) : Calls Tryz.prog 5 #[.pointer (some ⟨x, 0, none⟩), .int .i64 0, .int .u8 0, .int .u8 20] w fun e w' => e = .returned (.tuple #[.agg (ansC 0), .int .i64 60]) ∧ Chg [] w w' := by
  go_enter Tryz.func5, Tryz.ntmps5
  go_wp2_with fail
  have hb : Blk (w.alloc (.cells (ansC 0) 33)) w.heap.size 33 (ansC 0) := Blk.new _ _ _
  have hc : Chg [] w (w.alloc (.cells (ansC 0) 33)) := (Chg.refl [] w).alloc _
  have HB := Lib.hid hb; have HC := Lib.hid hc
  clear hb hc
  refine (one_b0020 x _).mono ?_
  rintro e w4 ⟨rfl, hd⟩
  have HB4 := Lib.hid ((HB.out.chg hd (by simp)).alloc (.cells #[.nilFunc] 70)); have HC4 := Lib.hid ((HC.out.trans hd).alloc (.cells #[.nilFunc] 70))
  clear hd
  have hsf := fun (w : World) (a : Addr) m => (run_store Tryz.prog w a (.nilFunc) m rfl : (store a (.nilFunc) m).run Tryz.prog w = stored Tryz.prog w a (.nilFunc) m)
  go_wp2_with (with_reducible refine store_blk (ty := 33) w.heap.size (ansC 0) ?_ ?_ HB4.out ?_ ?_ ?_ ?_)
  · go_simp
  · go_simp; try rfl
  · kernel_rfl
  · kernel_rfl
  · kernel_rfl
  clear hsf
  go_wp2_with fail
  refine bodyPost_ret (v := .tuple #[.agg (ansC 0), .int .i64 60]) (res_ct Tryz.results5 _ _ w.heap.size 33 (ansC 0) _ _ rfl rfl (blk_setRow HB4.out _) Tryz.underlying33 rfl (by kernel_rfl)) rfl ?_
  exact ⟨rfl, chg_setRow HC4.out (.inr (Nat.le_refl _)) _⟩
set_option maxRecDepth 100000 in
set_option maxHeartbeats 1000000 in
theorem as_0019 (x : Nat) (w : World) : Calls Tryz.prog 5 #[.pointer (some ⟨x, 0, none⟩), .int .i64 0, .int .u8 0, .int .u8 19] w fun e w' => e = .returned (.tuple #[.agg (ansC 2), .int .i64 0]) ∧ Chg [] w w' := by
  go_enter Tryz.func5, Tryz.ntmps5
  go_wp2_with fail
  have hb : Blk (w.alloc (.cells (ansC 0) 33)) w.heap.size 33 (ansC 0) := Blk.new _ _ _
  have hc : Chg [] w (w.alloc (.cells (ansC 0) 33)) := (Chg.refl [] w).alloc _
  have HB := Lib.hid hb; have HC := Lib.hid hc
  clear hb hc
  refine (one_b0019 x _).mono ?_
  rintro e w4 ⟨fn, fi, ca, rfl, hd⟩
  have HB4 := Lib.hid ((HB.out.chg hd (by simp)).alloc (.cells #[.func fn fi ca] 70)); have HC4 := Lib.hid ((HC.out.trans hd).alloc (.cells #[.func fn fi ca] 70))
  clear hd
  have hsf := fun (w : World) (a : Addr) m => (run_store Tryz.prog w a (.func fn fi ca) m rfl : (store a (.func fn fi ca) m).run Tryz.prog w = stored Tryz.prog w a (.func fn fi ca) m)
  go_wp2_with (with_reducible refine store_blk (ty := 33) w.heap.size (ansC 2) ?_ ?_ HB4.out ?_ ?_ ?_ ?_)
  · go_simp
  · go_simp; try rfl
  · kernel_rfl
  · kernel_rfl
  · kernel_rfl
  clear hsf
  go_wp2_with fail
  refine bodyPost_ret (v := .tuple #[.agg (ansC 2), .int .i64 0]) (res_ct Tryz.results5 _ _ w.heap.size 33 (ansC 2) _ _ rfl rfl (blk_setRow HB4.out _) Tryz.underlying33 rfl (by kernel_rfl)) rfl ?_
  exact ⟨rfl, chg_setRow HC4.out (.inr (Nat.le_refl _)) _⟩
set_option maxRecDepth 100000 in
set_option maxHeartbeats 1000000 in
theorem every_nil (w : World) : Calls Tryz.prog 6 #[.pointer none, .int .i64 9, .int .u8 1, .int .u8 1] w fun e w' => e = .returned (.tuple #[.slice none 0 0, .int .i64 2]) ∧ Chg [] w w' := by
  go_enter Tryz.func6, Tryz.ntmps6
  go_wp2_with fail
  refine (one_nil _).mono ?_
  rintro e w4 ⟨rfl, hd⟩
  have HC := Lib.hid (hd.alloc (.cells #[.nilFunc] 70))
  clear hd
  have hsf := fun (w : World) (a : Addr) m => (run_store Tryz.prog w a (.nilFunc) m rfl : (store a (.nilFunc) m).run Tryz.prog w = stored Tryz.prog w a (.nilFunc) m)
  go_wp2_with fail
  go_ret2
  exact ⟨rfl, HC.out⟩
theorem forget {P : World → Prop} (w0 : World) (Q : World → Prop) (hQ : Q w0) (h : ∀ w, Q w → P w) : P w0 := h w0 hQ

set_option maxRecDepth 100000 in
set_option maxHeartbeats 1000000 in
theorem is_nil (w : World) : Calls Tryz.prog 4 #[.pointer none, .int .i64 9, .int .i64 9] w fun e w' => e = .returned (.tuple #[.agg (ansC 0), .int .i64 2]) ∧ Chg [] w w' := by
  go_enter Tryz.func4, Tryz.ntmps4
  go_wp2_with fail
  refine forget (P := fun W => Calls _ _ _ W _) _ (fun W => Blk W (w.heap.size + 1) 3 #[.int .i64 9] ∧ Blk W (w.heap.size + 1 + 1) 33 (ansC 0) ∧ Blk W (w.heap.size + 1 + 1 + 1) 3 #[.int .i64 9, .int .i64 9] ∧ Chg [] w W) ?_ ?_
  · exact ⟨((Blk.new' _ _ _ _ (by simp)).alloc _).alloc _, (Blk.new' _ _ (ansC 0) _ (by simp)).alloc _, Blk.new' _ _ _ _ (by simp), ((((Chg.refl [] w).alloc _).alloc _).alloc _).alloc _⟩
  rintro w3 ⟨h1, h2, h3, hc⟩
  have H1 := Lib.hid h1; have H2 := Lib.hid h2; have H3 := Lib.hid h3; have HC := Lib.hid hc
  clear h1 h2 h3 hc
  refine (known_nil _ w3).mono ?_
  rintro e w4 ⟨rfl, hd⟩
  have c1 : w4.cell? ⟨w.heap.size + 1, 0, none⟩ = some (.int .i64 9) := (H1.out.chg hd (by simp)).cell 0
  have HB4 := Lib.hid (H2.out.chg hd (by simp)); have HC4 := Lib.hid (HC.out.trans hd)
  clear hd
  go_wp2_with (with_reducible refine store_blk (ty := 33) (w.heap.size + 1 + 1) (ansC 0) ?_ ?_ HB4.out ?_ ?_ ?_ ?_)
  · go_simp
  · go_simp; try rfl
  · kernel_rfl
  · kernel_rfl
  · kernel_rfl
  go_wp2_with fail
  refine bodyPost_ret (v := .tuple #[.agg (ansC 0), .int .i64 2]) (res_ct Tryz.results4 _ _ (w.heap.size + 1 + 1) 33 (ansC 0) _ _ rfl rfl (blk_setRow HB4.out _) Tryz.underlying33 rfl (by kernel_rfl)) rfl ?_
  exact ⟨rfl, chg_setRow HC4.out (.inr (by omega)) _⟩
set_option maxRecDepth 100000 in
set_option maxHeartbeats 1000000 in
theorem is_00 (x : Nat) (w : World) : Calls Tryz.prog 4 #[.pointer (some ⟨x, 0, none⟩), .int .i64 0, .int .i64 0] w fun e w' => e = .returned (.tuple #[.agg (ansC 1), .int .i64 0]) ∧ Chg [] w w' := by
  go_enter Tryz.func4, Tryz.ntmps4
  go_wp2_with fail
  refine forget (P := fun W => Calls _ _ _ W _) _ (fun W => Blk W (w.heap.size + 1) 3 #[.int .i64 0] ∧ Blk W (w.heap.size + 1 + 1) 33 (ansC 0) ∧ Blk W (w.heap.size + 1 + 1 + 1) 3 #[.int .i64 0, .int .i64 0] ∧ Chg [] w W) ?_ ?_
  · exact ⟨((Blk.new' _ _ _ _ (by simp)).alloc _).alloc _, (Blk.new' _ _ (ansC 0) _ (by simp)).alloc _, Blk.new' _ _ _ _ (by simp), ((((Chg.refl [] w).alloc _).alloc _).alloc _).alloc _⟩
  rintro w3 ⟨h1, h2, h3, hc⟩
  have H1 := Lib.hid h1; have H2 := Lib.hid h2; have H3 := Lib.hid h3; have HC := Lib.hid hc
  clear h1 h2 h3 hc
  refine (known_ok x (w.heap.size + 1 + 1 + 1) 2 2 w3 H3.out.lt (fun i hi => by rcases (by omega : i = 0 ∨ i = 1) with rfl | rfl; exact H3.out.cell 0; exact H3.out.cell 1) (by omega)).mono ?_
  rintro e w4 ⟨rfl, hd⟩
  have c1 : w4.cell? ⟨w.heap.size + 1, 0, none⟩ = some (.int .i64 0) := (H1.out.chg hd (by simp)).cell 0
  have HB4 := Lib.hid (H2.out.chg hd (by simp)); have HC4 := Lib.hid (HC.out.trans hd)
  clear hd
  go_wp2_with (with_reducible refine store_blk (ty := 33) (w.heap.size + 1 + 1) (ansC 1) ?_ ?_ HB4.out ?_ ?_ ?_ ?_)
  · go_simp
  · go_simp; try rfl
  · kernel_rfl
  · kernel_rfl
  · kernel_rfl
  go_wp2_with fail
  refine bodyPost_ret (v := .tuple #[.agg (ansC 1), .int .i64 0]) (res_ct Tryz.results4 _ _ (w.heap.size + 1 + 1) 33 (ansC 1) _ _ rfl rfl (blk_setRow HB4.out _) Tryz.underlying33 rfl (by kernel_rfl)) rfl ?_
  exact ⟨rfl, chg_setRow HC4.out (.inr (by omega)) _⟩
set_option maxRecDepth 100000 in
set_option maxHeartbeats 1000000 in
theorem is_01 (x : Nat) (w : World) (hx : w.cell? ⟨x, 0, none⟩ = some (.slice none 0 0)) (hxl : x < w.heap.size) : Calls Tryz.prog 4 #[.pointer (some ⟨x, 0, none⟩), .int .i64 0, .int .i64 1] w fun e w' => e = .returned (.tuple #[.agg (ansC 0), .int .i64 50]) ∧ Chg [] w w' := by
  have HX := Lib.hid hx
  clear hx
  go_enter Tryz.func4, Tryz.ntmps4
  go_wp2_with fail
  refine forget (P := fun W => Calls _ _ _ W _) _ (fun W => Blk W (w.heap.size + 1) 3 #[.int .i64 1] ∧ Blk W (w.heap.size + 1 + 1) 33 (ansC 0) ∧ Blk W (w.heap.size + 1 + 1 + 1) 3 #[.int .i64 0, .int .i64 1] ∧ Chg [] w W) ?_ ?_
  · exact ⟨((Blk.new' _ _ _ _ (by simp)).alloc _).alloc _, (Blk.new' _ _ (ansC 0) _ (by simp)).alloc _, Blk.new' _ _ _ _ (by simp), ((((Chg.refl [] w).alloc _).alloc _).alloc _).alloc _⟩
  rintro w3 ⟨h1, h2, h3, hc⟩
  have H1 := Lib.hid h1; have H2 := Lib.hid h2; have H3 := Lib.hid h3; have HC := Lib.hid hc
  have HX3 := Lib.hid ((hc.cell (p := ⟨x, 0, none⟩) hxl (by simp)).trans HX.out)
  have hxl3 : x < w3.heap.size := Nat.lt_of_lt_of_le hxl hc.size
  clear h1 h2 h3 hc
  refine (known_bad x (w.heap.size + 1 + 1 + 1) 2 2 1 1 w3 HX3.out hxl3 H3.out.lt (fun i hi => by obtain rfl : i = 0 := (by omega); exact H3.out.cell 0) (H3.out.cell 1) (by omega) (by omega) (by omega)).mono ?_
  rintro e w4 ⟨rfl, hd⟩
  have c1 : w4.cell? ⟨w.heap.size + 1, 0, none⟩ = some (.int .i64 1) := (H1.out.chg hd (by simp)).cell 0
  have HB4 := Lib.hid (H2.out.chg hd (by simp)); have HC4 := Lib.hid (HC.out.trans hd)
  clear hd
  go_wp2_with (with_reducible refine store_blk (ty := 33) (w.heap.size + 1 + 1) (ansC 0) ?_ ?_ HB4.out ?_ ?_ ?_ ?_)
  · go_simp
  · go_simp; try rfl
  · kernel_rfl
  · kernel_rfl
  · kernel_rfl
  go_wp2_with fail
  refine bodyPost_ret (v := .tuple #[.agg (ansC 0), .int .i64 50]) (res_ct Tryz.results4 _ _ (w.heap.size + 1 + 1) 33 (ansC 0) _ _ rfl rfl (blk_setRow HB4.out _) Tryz.underlying33 rfl (by kernel_rfl)) rfl ?_
  exact ⟨rfl, chg_setRow HC4.out (.inr (by omega)) _⟩
set_option maxRecDepth 100000 in
set_option maxHeartbeats 1000000 in
theorem any_nil (v : Value) (w : World) : Calls Tryz.prog 7 #[.pointer none, .int .i64 9, v] w fun e w' => e = .returned (.tuple #[.int .i64 0, .agg (ansC 0), .int .i64 2]) ∧ Chg [] w w' := by
  go_enter Tryz.func7, Tryz.ntmps7
  go_wp2_with fail
  refine forget (P := fun W => Calls _ _ _ W _) _ (fun W => Blk W w.heap.size 33 (ansC 0) ∧ Chg [] w W) ?_ ?_
  · exact ⟨(Blk.new _ _ (ansC 0)).alloc _, ((Chg.refl [] w).alloc _).alloc _⟩
  rintro w3 ⟨h2, hc⟩
  have H2 := Lib.hid h2; have HC := Lib.hid hc
  clear h2 hc
  refine (known_nil _ w3).mono ?_
  rintro e w4 ⟨rfl, hd⟩
  have HB4 := Lib.hid (H2.out.chg hd (by simp)); have HC4 := Lib.hid (HC.out.trans hd)
  clear hd
  go_wp2_with (with_reducible refine store_blk (ty := 33) w.heap.size (ansC 0) ?_ ?_ HB4.out ?_ ?_ ?_ ?_)
  · go_simp
  · go_simp; try rfl
  · kernel_rfl
  · kernel_rfl
  · kernel_rfl
  go_wp2_with fail
  refine bodyPost_ret (v := .tuple #[.int .i64 0, .agg (ansC 0), .int .i64 2]) (res_tct Tryz.results7 _ _ w.heap.size 33 (ansC 0) _ _ _ rfl rfl rfl (blk_setRow HB4.out _) Tryz.underlying33 rfl (by kernel_rfl)) rfl ?_
  exact ⟨rfl, chg_setRow HC4.out (.inr (Nat.le_refl _)) _⟩
set_option maxRecDepth 100000 in
set_option maxHeartbeats 1000000 in
theorem chain_nil (w : World) : Calls Tryz.prog 8 #[.pointer none, .int .i64 9] w fun e w' => e = .returned (.tuple #[.slice none 0 0, .agg (ansC 0), .int .i64 2]) ∧ Chg [] w w' := by
  go_enter Tryz.func8, Tryz.ntmps8
  go_wp2_with fail
  refine forget (P := fun W => Calls _ _ _ W _) _ (fun W => Blk W w.heap.size 33 (ansC 0) ∧ Chg [] w W) ?_ ?_
  · exact ⟨(Blk.new _ _ (ansC 0)).alloc _, ((Chg.refl [] w).alloc _).alloc _⟩
  rintro w3 ⟨h2, hc⟩
  have H2 := Lib.hid h2; have HC := Lib.hid hc
  clear h2 hc
  refine (known_nil _ w3).mono ?_
  rintro e w4 ⟨rfl, hd⟩
  have HB4 := Lib.hid (H2.out.chg hd (by simp)); have HC4 := Lib.hid (HC.out.trans hd)
  clear hd
  go_wp2_with (with_reducible refine store_blk (ty := 33) w.heap.size (ansC 0) ?_ ?_ HB4.out ?_ ?_ ?_ ?_)
  · go_simp
  · go_simp; try rfl
  · kernel_rfl
  · kernel_rfl
  · kernel_rfl
  go_wp2_with fail
  refine bodyPost_ret (v := .tuple #[.slice none 0 0, .agg (ansC 0), .int .i64 2]) (res_tct Tryz.results8 _ _ w.heap.size 33 (ansC 0) _ _ _ rfl rfl rfl (blk_setRow HB4.out _) Tryz.underlying33 rfl (by kernel_rfl)) rfl ?_
  exact ⟨rfl, chg_setRow HC4.out (.inr (Nat.le_refl _)) _⟩
set_option maxRecDepth 100000 in
set_option maxHeartbeats 1000000 in
theorem matrix_nil (v : Value) (w : World) : Calls Tryz.prog 9 #[.pointer none, v, .slice none 0 0] w fun e w' => e = .returned (.tuple #[.slice none 0 0, .int .i64 2]) ∧ Chg [] w w' := by
  go_enter Tryz.func9, Tryz.ntmps9
  go_wp2_with fail
  refine (known_nil _ _).mono ?_
  rintro e w4 ⟨rfl, hd⟩
  have HC := Lib.hid hd
  clear hd
  go_wp2_with fail
  go_ret2
  exact ⟨rfl, HC.out⟩

theorem new_book (w : World) : Calls Tryz.prog 10 #[] w fun e w' => e = .returned (.pointer (some ⟨w.heap.size, 0, none⟩)) ∧ Blk w' w.heap.size 86 #[.slice none 0 0] ∧ Chg [] w w' := by
  go_enter Tryz.func10, Tryz.ntmps10
  go_wp2_with fail
  go_ret
  exact ⟨rfl, Blk.new _ _ _, (Chg.refl _ _).alloc _⟩
end Go.Proofs.YtfdegodfgknfhaaGreatDoor
