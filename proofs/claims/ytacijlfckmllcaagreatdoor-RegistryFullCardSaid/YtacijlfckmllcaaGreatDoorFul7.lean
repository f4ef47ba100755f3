/-
  The document's full roll.
-/
import Derived.Test.YtacijlfckmllcaaGreatDoorFul6
namespace Go.Proofs.YtacijlfckmllcaaGreatDoor
open Go.RowKit Go.WideMaps Go.Maps

def StartPost (w : World) (e : Ending) (w' : World) : Prop := ∃ m F, e = .returned (.pointer (some ⟨m, 0, none⟩)) ∧ RefS w' F m stF ∧ (∀ b ∈ F, w.heap.size ≤ b) ∧ Chg [] w w'

theorem forget {P : World → Prop} (w0 : World) (Q : World → Prop) (hQ : Q w0) (h : ∀ w, Q w → P w) : P w0 := h w0 hQ

set_option maxRecDepth 100000 in
set_option maxHeartbeats 1000000 in
theorem start_any (w : World) : Calls Tryz.prog 15 #[] w (StartPost w) := by
  go_enter Tryz.func15, Tryz.ntmps15
  go_wp2_with fail
  refine forget (P := fun W => Code.wp _ _ _ _ W) _ (fun W => RefS W [w.heap.size] w.heap.size (stA 0) ∧ Blk W (w.heap.size + 1) 9 fulNames ∧ Blk W (w.heap.size + 1 + 1) 5 enteredC ∧ Chg [] w W) ?_ ?_
  · refine ⟨⟨.slice none 0 0, .slice none 0 0, ((Blk.new _ _ _).alloc _).alloc _, World.ownsRow_nil _ _ _ _, World.ownsRow_nil _ _ _ _, .inl rfl, by simp, by simp [Value.ownBlock], by simp [Value.ownBlock]⟩, ?_, ?_, (((Chg.refl [] w).alloc _).alloc _).alloc _⟩
    · exact (Blk.new' _ _ fulNames _ (by simp)).alloc _
    · exact Blk.new' _ _ enteredC _ (by simp)
  rintro w3 ⟨hr3, hn3, hk3, hc3⟩
  have HR3 := Lib.hid hr3; have HN3 := Lib.hid hn3; have HK3 := Lib.hid hk3; have HC3 := Lib.hid hc3
  clear hr3 hn3 hk3 hc3
  go_loopg [4] 31 (fun gk i wr => ∃ (k : Nat) (F : List Nat), k + gk = 31 ∧ i = .int .i64 (k : Int) ∧ RefS wr F w.heap.size (stA k) ∧ (∀ b ∈ F, w.heap.size ≤ b ∧ b ≠ w.heap.size + 1 ∧ b ≠ w.heap.size + 1 + 1) ∧ Blk wr (w.heap.size + 1) 9 fulNames ∧ Blk wr (w.heap.size + 1 + 1) 5 enteredC ∧ Chg [] w wr)
  case atStart => exact ⟨0, [w.heap.size], rfl, rfl, HR3.out, fun b hb => by simp at hb; omega, HN3.out, HK3.out, HC3.out⟩
  case round =>
    obtain ⟨k, F, hk, rfl, hr, hf, hbn, hbk, hc⟩ := hrel
    have HK := Lib.hid hk
    clear hk
    by_cases hlt : k < 31
    · have hltI : (k : Int) < 31 := by omega
      obtain ⟨q1, q2, q3, q4⟩ := rows_ok k hlt
      have hf0 : ∀ W, Calls Tryz.prog 27 #[.int .u8 (kdA k : Int)] W fun e w' => e = .returned (.int .u32 (fcA k)) ∧ w' = W := fun W => rfaces_any (kdA k) q1 q2 W
      have hcn : wr.cell? ⟨w.heap.size + 1, k, none⟩ = some (.string (nmA k)) := by rw [hbn.cell k]; exact names_cell k hlt
      have hck : wr.cell? ⟨w.heap.size + 1 + 1, k, none⟩ = some (.int .u8 (kdA k : Int)) := by rw [hbk.cell k]; exact kinds_cell k hlt
      have HQ := Lib.hid (And.intro q1 (And.intro q2 (And.intro q3 q4)))
      have HH := Lib.hid hf0; have HR := Lib.hid hr; have HF := Lib.hid hf; have HB := Lib.hid hbn; have HBK := Lib.hid hbk; have HC := Lib.hid hc
      clear q1 q2 q3 q4 hf0 hr hf hbn hbk hc
      go_upto_region 7 with fail
      refine wp_region_pick [] [0, 1, 2, 3, 4, 5, 6, 7, 8, 9, 10, 11, 12, 13, 14] 15 (by kernel_rfl) (by kernel_rfl) ?_
      simp only [List.nil_append, pickOps, List.getElem?_cons_succ, List.getElem?_cons_zero, List.drop_succ_cons, List.drop_zero]
      iterate 13 still_step
      still_call (HH.out _)
      still_step
      refine wpStill_nil ?_
      go_wp2_with fail
      refine (renter_any _ F w.heap.size (stA k) (rowA k) (HR.out.chg (Chg.refl [] wr).drew (by simp)) (by have := stA_len k; omega)).mono ?_
      rintro e w5 ⟨rfl, F', hr5, hc5, hn5⟩
      have hs1 := HC.out.size; have hs2 := HB.out.lt; have hs3 := HBK.out.lt
      have hf5 : ∀ b ∈ F', w.heap.size ≤ b ∧ b ≠ w.heap.size + 1 ∧ b ≠ w.heap.size + 1 + 1 := fun b hb => (hn5 b hb).elim (fun h => HF.out b h) (fun h => by
        have h : wr.heap.size ≤ b := h
        exact ⟨by omega, by omega, by omega⟩)
      have hb5 : Blk w5 (w.heap.size + 1) 9 fulNames := HB.out.drew.chg hc5 (fun hm => (HF.out _ hm).2.1 rfl)
      have hb6 : Blk w5 (w.heap.size + 1 + 1) 5 enteredC := HBK.out.drew.chg hc5 (fun hm => (HF.out _ hm).2.2 rfl)
      have hc6 : Chg [] w w5 := HC.out.drew.onto hc5 (fun b hb => (HF.out b hb).1)
      have HR5 := Lib.hid hr5; have HF5 := Lib.hid hf5; have HB5 := Lib.hid hb5; have HB6 := Lib.hid hb6; have HC5 := Lib.hid hc6
      clear hr5 hc5 hn5 hf5 hb5 hb6 hc6 hs1 hs2 hs3
      go_wp2_with fail
      refine NoPanic.normal ?_
      go_wp2_with fail
      go_roundg (gk - 1)
      case rel => exact ⟨k + 1, F', by have := HK.out; omega, by go_num, HR5.out, HF5.out, HB5.out, HB6.out, HC5.out⟩
      case measure => have := HK.out; omega
    · have hkn : k = 31 := by have := HK.out; omega
      subst hkn
      obtain ⟨rv, tv, hR⟩ := hr
      obtain ⟨⟨m0, m1, m2⟩, ⟨f0, f1, f2⟩⟩ := hR.b.three
      have HF := Lib.hid hf; have HC := Lib.hid hc; have HR := Lib.hid hR
      clear hf hc hR hbn hbk hlt
      go_wp2_with fail
      go_ret
      exact ⟨w.heap.size, F, rfl, ⟨rv, tv, HR.out.freeze⟩, fun b hb => (HF.out b hb).1, HC.out.setCell (.inr (Nat.le_refl _)) _⟩
end Go.Proofs.YtacijlfckmllcaaGreatDoor
