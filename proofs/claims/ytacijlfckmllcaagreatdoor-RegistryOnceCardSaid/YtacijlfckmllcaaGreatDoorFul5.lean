/-
  The full registry.
-/
import Derived.Test.YtacijlfckmllcaaGreatDoorFul4
namespace Go.Proofs.YtacijlfckmllcaaGreatDoor
open Go.RowKit Go.WideMaps Go.Maps

def FullPost (w : World) (e : Ending) (w' : World) : Prop := ∃ g F, e = .returned (.pointer (some ⟨g, 0, none⟩)) ∧ RegS w' F g stF ∧ (∀ b ∈ F, w.heap.size ≤ b) ∧ Chg [] w w'

set_option maxRecDepth 100000 in
set_option maxHeartbeats 1000000 in
theorem full_any (w : World) (hL : Laid w) : Calls Tryz.prog 16 #[] w (FullPost w) := by
  have HL := Lib.hid hL
  clear hL
  go_enter Tryz.func16, Tryz.ntmps16
  go_wp2_with fail
  refine (new_any w).mono ?_
  rintro e w1 ⟨g, F0, rfl, hr0, hF0, hc⟩
  obtain ⟨F, hr, hf1, hf2⟩ := hr0.trim
  have hF : ∀ b ∈ F, w.heap.size ≤ b ∧ b < w1.heap.size := fun b hb => ⟨hF0 b (hf1 b hb), hf2 b hb⟩
  clear hr0 hF0 hf1 hf2
  have HR := Lib.hid hr; have HF := Lib.hid hF; have HC := Lib.hid hc
  clear hr hF hc
  go_wp2_with fail
  refine (names31_any w1).mono ?_
  rintro e w2 ⟨rfl, hc2⟩
  have HC2 := Lib.hid hc2
  have HL2 := Lib.hid ((HL.out.chg HC.out (by simp)).chg hc2 (by simp))
  clear hc2
  obtain ⟨N, hN⟩ : ∃ N, N = fulNames := ⟨_, rfl⟩
  rw [← hN]
  have HN := Lib.hid hN
  clear hN
  obtain ⟨t0, fr0, hl0⟩ := HL2.out
  have HX0 := Lib.hid hl0
  clear hl0
  obtain ⟨EC, hEC⟩ : ∃ EC, EC = enteredC := ⟨_, rfl⟩
  have HEC := Lib.hid hEC
  have hx0 : (w2.alloc (.cells N 65)).heap[0]? = some (.cells EC t0 fr0) := by
    rw [HEC.out]; exact (Below.heap_alloc _ _ _ HL2.out.lt).trans HX0.out
  have HX1 := Lib.hid hx0
  clear hEC hx0
  go_wp2_with (first
    | (with_reducible refine store_new N ?_ ?_ ?_ ?_ ?_ ?_; (case refine_1 => go_simp); (case refine_2 => go_simp); (case refine_3 => rw [HN.out]; kernel_rfl); (case refine_4 => rw [HN.out]; kernel_rfl); (case refine_5 => rw [HN.out]; kernel_rfl))
    | refine wpList_load_row rfl 67 (.global 0) rfl 0 (by go_simp) t0 EC fr0 _ HX1.out Tryz.underlying67 rfl (by rw [HEC.out]; kernel_rfl) ?_)
  have hb3 : Blk (w2.alloc (.cells N 65)) w2.heap.size 65 N := Blk.new _ _ _
  have hw2 : w.heap.size ≤ w2.heap.size := Nat.le_trans HC.out.size HC2.out.size
  have hr3 : RegS (w2.alloc (.cells N 65)) F g (stA 0) := (HR.out.chg HC2.out (by simp)).chg ((Chg.refl [] w2).alloc _) (by simp)
  have hc3 : Chg [] w (w2.alloc (.cells N 65)) := (HC.out.trans HC2.out).alloc _
  have hf3 : ∀ b ∈ F, w.heap.size ≤ b ∧ b ≠ w2.heap.size := fun b hb => ⟨(HF.out b hb).1, fun e => by
    have h1 := (HF.out b hb).2; have h2 := HC2.out.size; omega⟩
  generalize w2.alloc (.cells N 65) = w3 at *
  generalize w2.heap.size = bn at *
  have HB3 := Lib.hid hb3; have HR3 := Lib.hid hr3; have HC3 := Lib.hid hc3; have HF3 := Lib.hid hf3
  have hix : ∀ (i : Nat), i < 31 → ∀ w, (Instr.index 67 (.agg EC) (.int .i64 (i : Int))).run Tryz.prog w = .ok (.int .u8 (kdA i : Int)) w := fun i hi w => run_index_cells _ 5 31 _ _ _ _ _ Tryz.underlying67 (by kernel_rfl) (by kernel_rfl) hi (by rw [HEC.out]; exact kinds_cell i hi)
  have HIX := Lib.hid hix
  clear hb3 hr3 hc3 hf3 hix hw2
  go_loopg [8] 31 (fun gk i wr => ∃ (k : Nat) (F : List Nat), k + gk = 31 ∧ i = .int .i64 (k : Int) ∧ RegS wr F g (stA k) ∧ (∀ b ∈ F, w.heap.size ≤ b ∧ b ≠ bn) ∧ Blk wr bn 65 N ∧ Chg [] w wr)
  case atStart => exact ⟨0, F, rfl, rfl, HR3.out, HF3.out, HB3.out, HC3.out⟩
  case round =>
    obtain ⟨k, F, hk, rfl, hr, hf, hb, hc⟩ := hrel
    have HK := Lib.hid hk
    clear hk
    by_cases hlt : k < 31
    · have hltI : (k : Int) < 31 := by omega
      obtain ⟨q1, q2, q3, q4⟩ := rows_ok k hlt
      obtain ⟨zv, hz, hh⟩ := zh (kdA k) q1 q2
      have hi0 := HIX.out k hlt wr
      have hcell : wr.cell? ⟨bn, k, none⟩ = some (.string (nmA k)) := by rw [hb.cell k, HN.out]; exact names_cell k hlt
      have HQ := Lib.hid (And.intro q1 (And.intro q2 (And.intro q3 q4)))
      have HZ := Lib.hid hz; have HH := Lib.hid hh; have HR := Lib.hid hr; have HF := Lib.hid hf; have HB := Lib.hid hb; have HC := Lib.hid hc
      clear q1 q2 q3 q4 hz hh hr hf hb hc
      go_upto_region 6 with fail
      refine wp_region_pick [] [0, 1, 2, 3, 4, 5, 6, 7, 8] 9 (by kernel_rfl) (by kernel_rfl) ?_
      simp only [List.nil_append, pickOps, List.getElem?_cons_succ, List.getElem?_cons_zero, List.drop_succ_cons, List.drop_zero]
      still_step
      still_step
      still_step
      still_step
      still_step
      still_step
      still_call (HZ.out _)
      still_call (HH.out _)
      still_step
      refine wpStill_nil ?_
      go_wp2_with fail
      refine (enter_any _ F g (stA k) (rowA k) HR.out.drew (by have := HQ.out.2.2.1; show (nmA k).size ≤ _; unfold maxLen; omega) (by have := stA_len k; omega)).mono ?_
      rintro e w5 ⟨rfl, F', hr5, hc5, hn5⟩
      have hf5 : ∀ b ∈ F', w.heap.size ≤ b ∧ b ≠ bn := fun b hb => (hn5 b hb).elim (fun h => HF.out b h) (fun h => by
        have h : wr.heap.size ≤ b := h
        have h1 := HC.out.size; have h2 := HB.out.lt; exact ⟨by omega, by omega⟩)
      have hb5 : Blk w5 bn 65 N := HB.out.drew.chg hc5 (fun hm => (HF.out _ hm).2 rfl)
      have hc6 : Chg [] w w5 := HC.out.drew.onto hc5 (fun b hb => (HF.out b hb).1)
      have HR5 := Lib.hid hr5; have HF5 := Lib.hid hf5; have HB5 := Lib.hid hb5; have HC5 := Lib.hid hc6
      clear hr5 hc5 hn5 hf5 hb5 hc6
      go_wp2_with fail
      refine NoPanic.normal ?_
      go_wp2_with fail
      go_roundg (gk - 1)
      case rel => exact ⟨k + 1, F', by have := HK.out; omega, by go_num, HR5.out, HF5.out, HB5.out, HC5.out⟩
      case measure => have := HK.out; omega
    · have hkn : k = 31 := by have := HK.out; omega
      subst hkn
      obtain ⟨rv, tv, mb, D, hR, hS⟩ := hr
      have HF := Lib.hid hf; have HC := Lib.hid hc; have HR := Lib.hid hR; have HS := Lib.hid hS
      clear hf hc hR hS hb
      go_wp2_with fail
      refine (freezeS_any wr F g _ rv tv mb D HR.out HS.out).mono ?_
      rintro e w5 ⟨rfl, hr5, hs5, hc5⟩
      have HR5 := Lib.hid hr5; have HS5 := Lib.hid hs5; have HC5 := Lib.hid hc5
      clear hr5 hs5 hc5
      go_wp2_with fail
      go_ret
      exact ⟨g, F, rfl, ⟨rv, tv, mb, D, HR5.out, HS5.out⟩, fun b hb => (HF.out b hb).1, HC.out.onto (HS.out.g1 HC5.out) (fun b hb => (HF.out b hb).1)⟩
end Go.Proofs.YtacijlfckmllcaaGreatDoor
