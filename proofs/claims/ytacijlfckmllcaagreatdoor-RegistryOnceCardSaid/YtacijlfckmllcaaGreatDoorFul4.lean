/-
  The full roll's rows, plainly; the one listed variable in memory; the names' array. (Its list of names is printed by wip/tools/gen_ful4.py.)
-/
import Derived.Test.YtacijlfckmllcaaGreatDoorFul3
import Derived.Test.YtacijlfckmllcaaGreatDoorReg12
import Derived.Test.YtacijlfckmllcaaGreatDoorDoor
import Derived.Deep.WholeRow
import Derived.OpenShut
namespace Go.Proofs.YtacijlfckmllcaaGreatDoor
open Go.RowKit Go.WideMaps Go.Maps

def fulN : List ByteArray := [⟨#[110, 111, 116, 101]⟩,
  ⟨#[99, 111, 100, 101]⟩,
  ⟨#[108, 101, 118, 101, 108]⟩,
  ⟨#[99, 111, 100, 101, 100]⟩,
  ⟨#[116, 119, 105, 110]⟩,
  ⟨#[112, 108, 97, 105, 110]⟩,
  ⟨#[113, 117, 105, 101, 116]⟩,
  ⟨#[119, 114, 97, 112]⟩,
  ⟨#[106, 111, 105, 110]⟩,
  ⟨#[101, 99, 104, 111]⟩,
  ⟨#[103, 117, 105, 115, 101]⟩,
  ⟨#[115, 108, 111, 119]⟩,
  ⟨#[111, 112, 97, 113, 117, 101]⟩,
  ⟨#[110, 111, 116, 101]⟩,
  ⟨#[115, 119, 97, 121]⟩,
  ⟨#[109, 97, 114, 107]⟩,
  ⟨#[116, 97, 103, 115]⟩,
  ⟨#[108, 97, 122, 121]⟩,
  ⟨#[108, 105, 110, 101]⟩,
  ⟨#[98, 97, 103]⟩,
  ⟨#[104, 111, 108, 100]⟩,
  ⟨#[111, 118, 101, 114]⟩,
  ⟨#[116, 105, 109, 101, 100]⟩,
  ⟨#[112, 108, 97, 99, 101, 100]⟩,
  ⟨#[118, 101, 105, 108]⟩,
  ⟨#[98, 111, 120]⟩,
  ⟨#[102, 117, 108, 108]⟩,
  ⟨#[116, 101, 120, 116]⟩,
  ⟨#[110, 117, 109, 98, 101, 114]⟩,
  ⟨#[119, 114, 97, 112]⟩,
  ⟨#[99, 111, 100, 101]⟩]
def fulNames : Array Value := (fulN.map fun s => (.string s : Value)).toArray
theorem fulN_len : fulN.length = 31 := rfl
theorem enteredK_len : enteredK.length = 31 := rfl

def nmA (i : Nat) : ByteArray := fulN.getD i ⟨#[]⟩
def kdA (i : Nat) : Nat := (enteredK.getD i 0).toNat
def fcA (i : Nat) : Int := faceM.getD (kdA i) 0
def rowA (i : Nat) : Rw := ⟨nmA i, kdA i, fcA i⟩

def rowsOk : Bool := (List.range 31).all fun i => decide (1 ≤ kdA i) && decide (kdA i ≤ 26) && decide ((nmA i).size ≤ 10) && decide (enteredK.getD i 0 = (kdA i : Int))
theorem rowsOk_yes : rowsOk = true := by kernel_rfl
theorem rows_ok (i : Nat) (h : i < 31) : 1 ≤ kdA i ∧ kdA i ≤ 26 ∧ (nmA i).size ≤ 10 ∧ enteredK.getD i 0 = (kdA i : Int) := by
  have := List.all_eq_true.1 rowsOk_yes i (List.mem_range.2 h)
  simp only [Bool.and_eq_true, decide_eq_true_eq] at this
  exact ⟨this.1.1.1, this.1.1.2, this.1.2, this.2⟩

def stA : Nat → St
  | 0 => ⟨[], [], false⟩
  | i + 1 => (enterS (stA i) (rowA i)).1
theorem stA_len : ∀ i, (stA i).rows.length + (stA i).taken.length ≤ i
  | 0 => by simp [stA]
  | i + 1 => by have := enterS_len (stA i) (rowA i); have := stA_len i; simp only [stA]; omega
def stF : St := { stA 31 with fz := true }
theorem stF_rows : stF.rows.length = 28 := by kernel_rfl
theorem stF_taken : stF.taken.length = 3 := by kernel_rfl
theorem stA_fz : (stA 31).fz = false := by kernel_rfl

theorem names_cell (i : Nat) (h : i < 31) : fulNames[i]? = some (.string (nmA i)) := by
  have : i < fulN.length := h
  simp [fulNames, nmA, List.getElem?_eq_getElem this, List.getD_eq_getElem?_getD]
theorem kinds_cell (i : Nat) (h : i < 31) : enteredC[i]? = some (.int .u8 (kdA i)) := by
  have hl : i < enteredK.length := h
  have := (rows_ok i h).2.2.2
  simp only [List.getD_eq_getElem?_getD, List.getElem?_eq_getElem hl, Option.getD_some] at this
  simp [enteredC, List.getElem?_eq_getElem hl, this]

/-- The listed variable lies in its block as it did. -/
def Laid (w : World) : Prop := ∃ t fr, w.heap[0]? = some (.cells enteredC t fr)
theorem Laid.lt {w : World} (h : Laid w) : 0 < w.heap.size := by
  obtain ⟨t, fr, h⟩ := h
  rcases Nat.lt_or_ge 0 w.heap.size with hlt | hge
  · exact hlt
  · rw [Array.getElem?_eq_none hge] at h; cases h
theorem Laid.chg {S : List Nat} {w w' : World} (h : Laid w) (hc : Chg S w w') (hS : 0 ∉ S) : Laid w' := by
  have hlt := h.lt
  obtain ⟨t, fr, h⟩ := h
  exact ⟨t, fr, (hc.block 0 hlt hS).trans h⟩

theorem mapM_at {α β : Type} (f : α → Option β) : ∀ (l : List α) (xs : List β), l.mapM f = some xs → ∀ (j : Nat) (a : α), l[j]? = some a → ∃ b, f a = some b ∧ xs[j]? = some b
  | [], _, _, j, a, hj => by simp at hj
  | c :: l, xs, h, j, a, hj => by
    simp only [List.mapM_cons, Option.pure_def, Option.bind_eq_bind, Option.bind_eq_some_iff, Option.some.injEq] at h
    obtain ⟨b, hb, ys, hys, rfl⟩ := h
    cases j with
    | zero => simp at hj; subst hj; exact ⟨b, hb, by simp⟩
    | succ j => simp at hj; simpa using mapM_at f l ys hys j a hj

theorem int_of_trod1 {H : Type} {enc : TypeId × Value → H} {P : Program} {w : World} {base : Nat} {sp : Nat → Bool} {held : Bool} {fuel : Nat} {t : TypeId} {k : IntKind} {c : Value} {y : DataW H × List MemPlace}
    (ht : P.underlying t = some (.int k)) (h : DataW.trod enc P w base sp held fuel t [c] = some y) : ∃ n, c = .int k n ∧ y = (.lit (.int k n), []) := by
  cases fuel with
  | zero => simp [DataW.trod] at h
  | succ fuel =>
    cases c <;> simp [DataW.trod, ht] at h
    rename_i k' n
    obtain ⟨⟨rfl, _⟩, rfl⟩ := h
    exact ⟨n, rfl, rfl⟩

theorem lits31 (j : Nat) (h : j < 31) : ∃ xs : List (DataW Unit), (Rows.laid_errata_registry_entered : DataW Unit) = .agg xs ∧ xs.length = 31 ∧ xs[j]? = some (.lit (.int .u8 (enteredK.getD j 0))) := by
  refine ⟨enteredK.map fun k => .lit (.int .u8 k), rfl, rfl, ?_⟩
  have hl : j < enteredK.length := h
  simp [List.getElem?_eq_getElem hl, List.getD_eq_getElem?_getD]

theorem laid_in {W : World} (h : laidMet Tryz.prog laidL W) : Laid W := by
  obtain ⟨ps, ⟨g, t, cs, fuel, p, q, hg, ht, hvar, hd, _, _⟩, _⟩ := h
  obtain rfl : g = 0 := Option.some.inj (hg.symm.trans (by kernel_rfl))
  obtain rfl : t = 67 := Option.some.inj (ht.symm.trans (by kernel_rfl))
  have hcs : cs = enteredC := by
    obtain ⟨l⟩ := cs
    cases fuel with
    | zero => simp [DataW.trod] at hd
    | succ fuel =>
      have c1 : Tryz.prog.cellsOf 5 = 1 := by kernel_rfl
      have c31 : Tryz.prog.cellsOf 67 = 31 := by kernel_rfl
      simp only [DataW.trod, Tryz.underlying67, c1, c31] at hd
      split at hd
      · rename_i hl
        simp only [Option.map_eq_some_iff] at hd
        obtain ⟨xs, hm, hx⟩ := hd
        have hl' : l.length = 31 := hl
        show (⟨l⟩ : Array Value) = (enteredK.map fun k => (.int .u8 k : Value)).toArray
        refine congrArg Array.mk (List.ext_getElem? fun j => ?_)
        by_cases hj : j < 31
        · obtain ⟨b, hb, hxj⟩ := mapM_at _ _ _ hm j j (by simp [hj])
          have hlj : j < l.length := by omega
          have e1 : ((l.drop (j * 1)).take 1) = [l[j]] := by
            rw [Nat.mul_one, List.drop_eq_getElem_cons hlj]
            rfl
          simp only [e1] at hb
          obtain ⟨n, hn, rfl⟩ := int_of_trod1 Tryz.underlying5 hb
          obtain ⟨ys, hy1, hy2, hy3⟩ := lits31 j hj
          have hx1 : DataW.agg (xs.map (·.1)) = .agg ys := (congrArg Prod.fst hx).trans hy1
          have hx1 := DataW.agg.inj hx1
          have : (xs.map (·.1))[j]? = some (.lit (.int .u8 n)) := by simp [hxj]
          rw [hx1, hy3] at this
          have this := Lit.int.inj (DataW.lit.inj (Option.some.inj this)) |>.2
          have hl2 : j < enteredK.length := hj
          rw [List.getElem?_eq_getElem hlj, hn]
          simp only [List.getD_eq_getElem?_getD, List.getElem?_eq_getElem hl2, Option.getD_some] at this
          simp [List.getElem?_eq_getElem hl2, this]
        · rw [List.getElem?_eq_none (by omega), List.getElem?_eq_none (by simp [enteredK_len]; omega)]
      · cases hd
  subst hcs
  unfold World.var? at hvar
  rw [hg] at hvar
  simp only [Option.bind_some] at hvar
  split at hvar
  · rename_i cs t fr he
    injection hvar with hvar
    subst hvar
    exact ⟨t, fr, he⟩
  · cases hvar

/-- A whole array stored into the block that was made last. -/
theorem store_new {P : Program} {ops : Array Oper} {rest : List Oper} {a : Act} {w : World} {Q : Exit → Act → World → Prop} {x y : Nat} {ty t T : TypeId} {pos : String} {after : Array Edge} {old : Array Value} (cells : Array Value)
    (hx : a.eval (.tmp x) = .pointer (some ⟨w.heap.size, 0, none⟩)) (hy : a.eval (.tmp y) = .agg cells) (hi : (P.info? ty).map (·.size) = some cells.size) (hold : old.size = cells.size) (h1 : cells.all (·.oneCell') = true)
    (h : wpList P ops Q rest a (w.alloc (.cells cells t))) : wpList P ops Q (⟨none, .store ty (.tmp x) (.tmp y), T, pos, after, none⟩ :: rest) a (w.alloc (.cells old t)) := by
  refine wpList_store_row rfl ty (.tmp x) (.tmp y) rfl w.heap.size cells hx hy t old (heap_alloc_last w _) hi hold h1 ?_
  rw [World.setRow_alloc_new]
  exact h

set_option maxRecDepth 100000 in
theorem names31_any (w : World) : Calls Tryz.prog 28 #[] w fun e w' => e = .returned (.agg fulNames) ∧ Chg [] w w' := by
  go_enter Tryz.func28, Tryz.ntmps28
  go_wp2_with (with_reducible refine store_new fulNames ?_ ?_ ?_ ?_ ?_ ?_)
  · go_simp
  · go_simp; rfl
  · kernel_rfl
  · kernel_rfl
  · kernel_rfl
  go_wp2_with fail
  refine bodyPost_ret (v := .agg fulNames) (results_cell_row rfl _ _ w.heap.size 65 fulNames (0, 0) _ rfl (heap_alloc_last w _) Tryz.underlying65 rfl (by kernel_rfl)) rfl ?_
  exact ⟨rfl, (Chg.refl _ _).alloc _⟩
end Go.Proofs.YtacijlfckmllcaaGreatDoor
