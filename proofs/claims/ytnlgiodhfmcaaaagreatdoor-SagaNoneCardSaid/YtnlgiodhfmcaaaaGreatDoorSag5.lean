/-
  A supervisor starts its child again.
-/
import Derived.Test.YtnlgiodhfmcaaaaGreatDoorSag4
namespace Go.Proofs.YtnlgiodhfmcaaaaGreatDoor
open Go.RowKit

set_option maxRecDepth 100000 in
set_option maxHeartbeats 1000000 in
theorem again_all {w : World} {B g cb cc : Nat} {life : Int} {rs evs : List Value} {ne : Nat} {now : Int} {told ended : Bool} {rsV outV : Value} {nr : Nat} (h : Sup w B g cb cc false life rs evs ne now told ended rsV outV nr) (hl : 0 ≤ life ∧ life ≤ 100) (hne : ne ≤ 100) :
    Calls Tryz.prog 21 #[.pointer (some ⟨g, 0, none⟩), .int .i64 0] w (StartPost w B g cb cc life rs evs ne now told ended rsV nr) := by
  have g0 : w.cell? ⟨g, 0, none⟩ = some (.int .u8 2) := h.b.cell 0
  have g5 : w.cell? ⟨g, 5, none⟩ = some (.slice (some ⟨cb, 0, none⟩) 1 cc) := h.b.cell 5
  have hgl := h.b.lt
  have hBw : B ≤ w.heap.size := Nat.le_trans h.gB (Nat.le_of_lt h.b.lt)
  have H := Lib.hid (h.fresh ((Chg.refl [] w).alloc (.cells #[.int .i64 0] 3)))
  clear h
  go_enter Tryz.func21, Tryz.ntmps21
  go_wp2_with fail
  refine (stop_down H.out).mono ?_
  rintro e w1 ⟨rfl, rfl⟩
  go_wp2_with fail
  refine (sort_one _ _ _).mono ?_
  rintro e w2 ⟨rfl, rfl⟩
  have hl0 : Blk (w.alloc (.cells #[.int .i64 0] 3)) w.heap.size 3 #[.int .i64 0] := Blk.new _ _ _
  have hc1 : Chg [] w (w.alloc (.cells #[.int .i64 0] 3)) := (Chg.refl [] w).alloc _
  clear g0 g5
  generalize w.alloc (.cells #[.int .i64 0] 3) = w3 at *
  have HL0 := Lib.hid hl0; have HC1 := Lib.hid hc1
  clear hl0 hc1
  go_wp2_with fail
  go_loopg [35] 1 (fun gk i wr => (gk = 1 ∧ i = .int .i64 0 ∧ wr = w3) ∨ (gk = 0 ∧ i = .int .i64 1 ∧ (∃ outV, Sup wr B g cb cc true (life + 1) rs (evs ++ evC 1 0 (life + 1)) (ne + 1) now told ended rsV outV nr) ∧ Below B w3 wr))
  case atStart => exact .inl ⟨rfl, rfl, rfl⟩
  case round =>
    rcases hrel with ⟨hk, rfl, rfl⟩ | ⟨hk, rfl, hs, hb⟩
    · have HK := Lib.hid hk
      clear hk
      have q0 : wr.cell? ⟨w.heap.size, 0, none⟩ = some (.int .i64 0) := HL0.out.cell 0
      have hql := HL0.out.lt
      go_wp2_with fail
      refine (start_any wr B g cb cc false life rs evs ne now told ended rsV outV nr H.out hl hne).mono ?_
      rintro e w5 ⟨rfl, ⟨outV5, hs⟩, hb⟩
      have HSX := Lib.hid hs; have HBX := Lib.hid hb
      clear hs hb
      go_wp2_with fail
      go_roundg (gk - 1)
      case rel => exact .inr ⟨by have := HK.out; omega, rfl, ⟨_, HSX.out⟩, HBX.out⟩
      case measure => have := HK.out; omega
    · have HSX := Lib.hid hs; have HBX := Lib.hid hb
      clear hs hb
      go_wp2_with fail
      go_end0
      exact ⟨rfl, HSX.out, (HC1.out.below hBw (by simp)).trans HBX.out⟩

/-! ### Exits, and stopping -/
section
variable {w : World} {B g cb cc ne nr : Nat} {up : Bool} {life now : Int} {rs evs : List Value} {told ended : Bool} {rsV outV : Value}

set_option maxRecDepth 100000 in
/-- Of no such child. -/
theorem exit_arg (p : Value) (h : Sup w B g cb cc up life rs evs ne now told false rsV outV nr) :
    Calls Tryz.prog 6 #[.pointer (some ⟨g, 0, none⟩), p, .int .i64 1, .int .i64 0, .int .i64 0] w fun e w' => e = .returned (.tuple #[.slice none 0 0, .int .i64 1]) ∧ w' = w := by
  have g9 : w.cell? ⟨g, 9, none⟩ = some (.bool false) := h.b.cell 9
  have H := Lib.hid h
  clear h
  go_enter Tryz.func6, Tryz.ntmps6
  go_wp2_with fail
  refine (there_no H.out).mono ?_
  rintro e w' ⟨rfl, rfl⟩
  go_wp2_with fail
  go_ret2
  exact ⟨rfl, rfl⟩

set_option maxRecDepth 100000 in
/-- Of no book. -/
theorem exit_nil (h : Sup w B g cb cc up life rs evs ne now told false rsV outV nr) :
    Calls Tryz.prog 6 #[.pointer (some ⟨g, 0, none⟩), .pointer none, .int .i64 0, .int .i64 0, .int .i64 0] w fun e w' => e = .returned (.tuple #[.slice none 0 0, .int .i64 2]) ∧ Chg [] w w' := by
  have g9 : w.cell? ⟨g, 9, none⟩ = some (.bool false) := h.b.cell 9
  have H := Lib.hid h
  clear h
  go_enter Tryz.func6, Tryz.ntmps6
  go_wp2_with fail
  refine (there_yes H.out).mono ?_
  rintro e w' ⟨rfl, rfl⟩
  go_wp2_with fail
  refine (error_of (at_nil 0 _)).mono ?_
  rintro e w2 ⟨rfl, hd⟩
  have HD := Lib.hid hd
  clear hd
  go_wp2_with fail
  go_ret2
  exact ⟨rfl, HD.out⟩
end
end Go.Proofs.YtnlgiodhfmcaaaaGreatDoor
