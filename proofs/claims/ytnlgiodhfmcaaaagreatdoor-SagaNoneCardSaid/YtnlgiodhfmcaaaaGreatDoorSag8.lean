/-
  A supervisor is stopped; once more.
-/
import Derived.Test.YtnlgiodhfmcaaaaGreatDoorSag6
namespace Go.Proofs.YtnlgiodhfmcaaaaGreatDoor
open Go.RowKit

section
variable {w : World} {B g cb cc ne nr : Nat} {up : Bool} {life now : Int} {rs evs : List Value} {told ended : Bool} {rsV outV : Value}

set_option maxRecDepth 100000 in
theorem stop_sup (hne : ne ≤ 99) (h : Sup w B g cb cc true life rs evs ne now told false rsV outV nr) :
    Calls Tryz.prog 7 #[.pointer (some ⟨g, 0, none⟩)] w fun e w' =>
      (∃ A c, e = .returned (.tuple #[.slice A (ne + 1 + 1) c, .int .i64 0])) ∧ Sup w' B g cb cc false life rs [] 0 now told true rsV (.slice none 0 0) nr ∧ Below B w w' := by
  have g9 : w.cell? ⟨g, 9, none⟩ = some (.bool false) := h.b.cell 9
  have H := Lib.hid h
  clear h
  go_enter Tryz.func7, Tryz.ntmps7
  go_wp2_with fail
  refine (ends_up H.out hne).mono ?_
  rintro e w1 ⟨rfl, ⟨outV1, hs⟩, hb⟩
  have HS := Lib.hid hs; have HB := Lib.hid hb
  clear hs hb
  go_wp2_with fail
  refine (events_any HS.out).mono ?_
  rintro e w2 ⟨⟨A, c, rfl⟩, hs2, hb2, _⟩
  have HS2 := Lib.hid hs2; have HB2 := Lib.hid (HB.out.trans hb2)
  clear hs2 hb2
  go_wp2_with fail
  go_ret2
  exact ⟨⟨A, c, rfl⟩, HS2.out, HB2.out⟩

set_option maxRecDepth 100000 in
theorem stop_twice (h : Sup w B g cb cc up life rs evs ne now told true rsV outV nr) :
    Calls Tryz.prog 7 #[.pointer (some ⟨g, 0, none⟩)] w fun e w' => e = .returned (.tuple #[.slice none 0 0, .int .i64 5]) ∧ w' = w := by
  have g9 : w.cell? ⟨g, 9, none⟩ = some (.bool true) := h.b.cell 9
  clear h
  go_enter Tryz.func7, Tryz.ntmps7
  go_wp2_with fail
  go_ret2
  exact ⟨rfl, rfl⟩
end

set_option maxRecDepth 100000 in
theorem new_none (w : World) : Calls Tryz.prog 12 #[.agg #[.int .u8 2, .slice none 0 0, .int .i64 0, .int .i64 1, .int .u8 0]] w fun e w' => e = .returned (.tuple #[.pointer none, .slice none 0 0, .int .i64 270]) ∧ Chg [] w w' := by
  go_enter Tryz.func12, Tryz.ntmps12
  go_wp2_with fail
  refine (may_none _).mono ?_
  rintro e w1 ⟨rfl, hd⟩
  have HC := Lib.hid (((Chg.refl [] w).alloc (.cells #[.int .u8 2, .slice none 0 0, .int .i64 0, .int .i64 1, .int .u8 0] 44)).trans hd)
  clear hd
  go_wp2_with fail
  refine bodyPost_ret (v := .tuple #[.pointer none, .slice none 0 0, .int .i64 270]) (by simp only [results, Tryz.results12]; go_simp) rfl ?_
  exact ⟨rfl, HC.out⟩
end Go.Proofs.YtnlgiodhfmcaaaaGreatDoor
