/-
  Matching where there is no book, and in a book without errors. (Printed by wip/tools/gen_mat.py.)
-/
import Derived.Test.YtfdegodfgknfhaaGreatDoorNone1
namespace Go.Proofs.YtfdegodfgknfhaaGreatDoor
open Go.RowKit

set_option maxHeartbeats 1000000 in
theorem at_bad (x : Nat) (h : Int) (w : World) (h1 : 0 < h) (hx : w.cell? ⟨x, 0, none⟩ = some (.slice none 0 0)) : Calls Tryz.prog 27 #[.pointer (some ⟨x, 0, none⟩), .int .i64 h] w (AtPost w 50) := by
  have e0 : (h == 0) = false := by simp; omega
  have e1 : ¬ h < 0 := by omega
  go_enter Tryz.func27, Tryz.ntmps27
  go_wp2_with fail
  refine bodyPost_ret (v := .tuple #[.pointer (some ⟨w.heap.size, 0, none⟩), .int .i64 50]) (by simp only [results, Tryz.results27]; go_simp) rfl ?_
  exact ⟨_, rfl, (Blk.new w _ _).cell 0, (Chg.refl _ _).alloc _⟩

theorem err0 (x : Nat) (w : World) : Calls Tryz.prog 12 #[.pointer (some ⟨x, 0, none⟩), .int .i64 0] w fun e w' => e = .returned (.tuple #[.nilIface, .int .i64 0]) ∧ Chg [] w w' := error_of (at_zero x w)
theorem err50 (x : Nat) (h : Int) (w : World) (h1 : 0 < h) (hx : w.cell? ⟨x, 0, none⟩ = some (.slice none 0 0)) : Calls Tryz.prog 12 #[.pointer (some ⟨x, 0, none⟩), .int .i64 h] w fun e w' => e = .returned (.tuple #[.nilIface, .int .i64 50]) ∧ Chg [] w w' := error_of (at_bad x h w h1 hx)

theorem known_nil (v : Value) (w : World) : Calls Tryz.prog 11 #[.pointer none, v] w fun e w' => e = .returned (.int .i64 2) ∧ Chg [] w w' := by
  go_enter Tryz.func11, Tryz.ntmps11
  go_wp2_with fail
  go_ret
  exact ⟨rfl, Chg.refl _ _⟩

set_option maxRecDepth 100000 in
/-- All of them 0: of no error. -/
theorem known_ok (x a n c : Nat) (w : World) (ha : a < w.heap.size) (hc : ∀ i, i < n → w.cell? ⟨a, i, none⟩ = some (.int .i64 0)) (hn : n ≤ 1000) :
    Calls Tryz.prog 11 #[.pointer (some ⟨x, 0, none⟩), .slice (some ⟨a, 0, none⟩) n c] w fun e w' => e = .returned (.int .i64 0) ∧ Chg [] w w' := by
  have HC := Lib.hid hc
  clear hc
  go_enter Tryz.func11, Tryz.ntmps11
  go_wp2_with fail
  go_loopg [13] n (fun gk i wr => ∃ k : Nat, k + gk = n ∧ i = .int .i64 (k : Int) ∧ Chg [] w wr)
  case atStart => exact ⟨0, by omega, rfl, Chg.refl _ _⟩
  case round =>
    obtain ⟨k, hk, rfl, hC⟩ := hrel
    have HK := Lib.hid hk; have HW := Lib.hid hC
    clear hk
    by_cases hlt : k < n
    · have hkI : (k : Int) < (n : Int) := by omega
      have hcell : wr.cell? ⟨a, k, none⟩ = some (.int .i64 0) := (hC.cell (p := ⟨a, k, none⟩) ha (by simp)).trans (HC.out k hlt)
      have ha' : a < wr.heap.size := Nat.lt_of_lt_of_le ha hC.size
      clear hC
      go_wp2_with fail
      refine (err0 x wr).mono ?_
      rintro e w1 ⟨rfl, hd⟩
      have HD := Lib.hid (HW.out.trans hd)
      clear hd
      go_wp2_with fail
      go_roundg (gk - 1)
      case rel => exact ⟨k + 1, by have := HK.out; omega, by go_num, HD.out⟩
      case measure => have := HK.out; omega
    · have hkI : ¬ (k : Int) < (n : Int) := by omega
      clear hC
      go_wp2_with fail
      go_ret
      exact ⟨rfl, HW.out⟩

set_option maxRecDepth 100000 in
/-- The first k of them 0, the next one names none. -/
theorem known_bad (x a n c m : Nat) (h : Int) (w : World) (hx : w.cell? ⟨x, 0, none⟩ = some (.slice none 0 0)) (hxl : x < w.heap.size) (ha : a < w.heap.size) (hc : ∀ i, i < m → w.cell? ⟨a, i, none⟩ = some (.int .i64 0)) (hm : w.cell? ⟨a, m, none⟩ = some (.int .i64 h)) (h1 : 0 < h) (hmn : m < n) (hn : n ≤ 1000) :
    Calls Tryz.prog 11 #[.pointer (some ⟨x, 0, none⟩), .slice (some ⟨a, 0, none⟩) n c] w fun e w' => e = .returned (.int .i64 50) ∧ Chg [] w w' := by
  have HC := Lib.hid hc; have HM := Lib.hid hm; have HX := Lib.hid hx
  clear hc hm hx
  go_enter Tryz.func11, Tryz.ntmps11
  go_wp2_with fail
  go_loopg [13] m (fun gk i wr => ∃ k : Nat, k + gk = m ∧ i = .int .i64 (k : Int) ∧ Chg [] w wr)
  case atStart => exact ⟨0, by omega, rfl, Chg.refl _ _⟩
  case round =>
    obtain ⟨k, hk, rfl, hC⟩ := hrel
    have HK := Lib.hid hk; have HW := Lib.hid hC
    clear hk
    have ha' : a < wr.heap.size := Nat.lt_of_lt_of_le ha hC.size
    by_cases hlt : k < m
    · have hkI : (k : Int) < (n : Int) := by omega
      have hcell : wr.cell? ⟨a, k, none⟩ = some (.int .i64 0) := (hC.cell (p := ⟨a, k, none⟩) ha (by simp)).trans (HC.out k hlt)
      clear hC
      go_wp2_with fail
      refine (err0 x wr).mono ?_
      rintro e w1 ⟨rfl, hd⟩
      have HD := Lib.hid (HW.out.trans hd)
      clear hd
      go_wp2_with fail
      go_roundg (gk - 1)
      case rel => exact ⟨k + 1, by have := HK.out; omega, by go_num, HD.out⟩
      case measure => have := HK.out; omega
    · have hkm : k = m := by have := HK.out; omega
      subst hkm
      have hkI : (k : Int) < (n : Int) := by omega
      have hcell : wr.cell? ⟨a, k, none⟩ = some (.int .i64 h) := (hC.cell (p := ⟨a, k, none⟩) ha (by simp)).trans HM.out
      have hx' : wr.cell? ⟨x, 0, none⟩ = some (.slice none 0 0) := (hC.cell (p := ⟨x, 0, none⟩) hxl (by simp)).trans HX.out
      have HX' := Lib.hid hx'
      clear hC hx'
      go_wp2_with fail
      refine (err50 x h wr h1 HX'.out).mono ?_
      rintro e w1 ⟨rfl, hd⟩
      have HD := Lib.hid (HW.out.trans hd)
      clear hd
      go_wp2_with fail
      go_ret
      exact ⟨rfl, HD.out⟩

def ansC (v : Int) : Array Value := #[.int .i8 v, .int .u8 0, .int .i64 0, .string ⟨#[]⟩, .int .u8 0, .bool false, .string ⟨#[]⟩, .int .i16 0, .int .i8 0, .float .f64 0, .float .f64 0, .bool false, .int .u32 0, .slice none 0 0, .slice none 0 0, .int .i64 0, .string ⟨#[]⟩, .int .i64 0, .int .i64 0]

set_option maxRecDepth 100000 in
theorem one_nil (w : World) : Calls Tryz.prog 19 #[.pointer none, .int .i64 9, .int .u8 1, .int .u8 1] w fun e w' => e = .returned (.tuple #[.nilFunc, .int .i64 2]) ∧ Chg [] w w' := by
  go_enter Tryz.func19, Tryz.ntmps19
  go_wp2_with fail
  have hc3 : Chg [] w (((w.alloc (.cells #[.pointer none] 48)).alloc (.cells #[.int .u8 1] 5)).alloc (.cells #[.int .i64 9] 3)) := (((Chg.refl [] w).alloc _).alloc _).alloc _
  have hb7 : Blk (((w.alloc (.cells #[.pointer none] 48)).alloc (.cells #[.int .u8 1] 5)).alloc (.cells #[.int .i64 9] 3)) (w.heap.size + 1) 5 #[.int .u8 1] := (Blk.new' _ _ _ _ (by simp)).alloc _
  have hb8 : Blk (((w.alloc (.cells #[.pointer none] 48)).alloc (.cells #[.int .u8 1] 5)).alloc (.cells #[.int .i64 9] 3)) (w.heap.size + 1 + 1) 3 #[.int .i64 9] := Blk.new' _ _ _ _ (by simp)
  generalize (((w.alloc (.cells #[.pointer none] 48)).alloc (.cells #[.int .u8 1] 5)).alloc (.cells #[.int .i64 9] 3)) = w3 at *
  have HC3 := Lib.hid hc3; have HB7 := Lib.hid hb7; have HB8 := Lib.hid hb8
  clear hc3 hb7 hb8
  refine (known_nil _ w3).mono ?_
  rintro e w4 ⟨rfl, hd⟩
  have c7 : w4.cell? ⟨w.heap.size + 1, 0, none⟩ = some (.int .u8 1) := (HB7.out.chg hd (by simp)).cell 0
  have HC := Lib.hid (HC3.out.trans hd)
  clear hd
  go_wp2_with fail
  go_ret2
  exact ⟨rfl, HC.out⟩
set_option maxRecDepth 100000 in
theorem one_b900 (x : Nat) (w : World) (hx : w.cell? ⟨x, 0, none⟩ = some (.slice none 0 0)) (hxl : x < w.heap.size) : Calls Tryz.prog 19 #[.pointer (some ⟨x, 0, none⟩), .int .i64 9, .int .u8 0, .int .u8 0] w fun e w' => e = .returned (.tuple #[.nilFunc, .int .i64 50]) ∧ Chg [] w w' := by
  have HX := Lib.hid hx
  clear hx
  go_enter Tryz.func19, Tryz.ntmps19
  go_wp2_with fail
  have hc3 : Chg [] w (((w.alloc (.cells #[.pointer (some ⟨x, 0, none⟩)] 48)).alloc (.cells #[.int .u8 0] 5)).alloc (.cells #[.int .i64 9] 3)) := (((Chg.refl [] w).alloc _).alloc _).alloc _
  have hb7 : Blk (((w.alloc (.cells #[.pointer (some ⟨x, 0, none⟩)] 48)).alloc (.cells #[.int .u8 0] 5)).alloc (.cells #[.int .i64 9] 3)) (w.heap.size + 1) 5 #[.int .u8 0] := (Blk.new' _ _ _ _ (by simp)).alloc _
  have hb8 : Blk (((w.alloc (.cells #[.pointer (some ⟨x, 0, none⟩)] 48)).alloc (.cells #[.int .u8 0] 5)).alloc (.cells #[.int .i64 9] 3)) (w.heap.size + 1 + 1) 3 #[.int .i64 9] := Blk.new' _ _ _ _ (by simp)
  have hx3 : (((w.alloc (.cells #[.pointer (some ⟨x, 0, none⟩)] 48)).alloc (.cells #[.int .u8 0] 5)).alloc (.cells #[.int .i64 9] 3)).cell? ⟨x, 0, none⟩ = some (.slice none 0 0) := (hc3.cell (p := ⟨x, 0, none⟩) hxl (by simp)).trans HX.out
  have hxl3 : x < (((w.alloc (.cells #[.pointer (some ⟨x, 0, none⟩)] 48)).alloc (.cells #[.int .u8 0] 5)).alloc (.cells #[.int .i64 9] 3)).heap.size := Nat.lt_of_lt_of_le hxl hc3.size
  generalize (((w.alloc (.cells #[.pointer (some ⟨x, 0, none⟩)] 48)).alloc (.cells #[.int .u8 0] 5)).alloc (.cells #[.int .i64 9] 3)) = w3 at *
  have HC3 := Lib.hid hc3; have HB7 := Lib.hid hb7; have HB8 := Lib.hid hb8
  have HX3 := Lib.hid hx3
  clear hx3
  clear hc3 hb7 hb8
  refine (known_bad x (w.heap.size + 1 + 1) 1 1 0 9 w3 HX3.out hxl3 HB8.out.lt (fun i hi => by omega) (HB8.out.cell 0) (by omega) (by omega) (by omega)).mono ?_
  rintro e w4 ⟨rfl, hd⟩
  have c7 : w4.cell? ⟨w.heap.size + 1, 0, none⟩ = some (.int .u8 0) := (HB7.out.chg hd (by simp)).cell 0
  have HC := Lib.hid (HC3.out.trans hd)
  clear hd
  go_wp2_with fail
  go_ret2
  exact ⟨rfl, HC.out⟩
set_option maxRecDepth 100000 in
theorem one_b000 (x : Nat) (w : World) : Calls Tryz.prog 19 #[.pointer (some ⟨x, 0, none⟩), .int .i64 0, .int .u8 0, .int .u8 0] w fun e w' => e = .returned (.tuple #[.nilFunc, .int .i64 1]) ∧ Chg [] w w' := by
  go_enter Tryz.func19, Tryz.ntmps19
  go_wp2_with fail
  have hc3 : Chg [] w (((w.alloc (.cells #[.pointer (some ⟨x, 0, none⟩)] 48)).alloc (.cells #[.int .u8 0] 5)).alloc (.cells #[.int .i64 0] 3)) := (((Chg.refl [] w).alloc _).alloc _).alloc _
  have hb7 : Blk (((w.alloc (.cells #[.pointer (some ⟨x, 0, none⟩)] 48)).alloc (.cells #[.int .u8 0] 5)).alloc (.cells #[.int .i64 0] 3)) (w.heap.size + 1) 5 #[.int .u8 0] := (Blk.new' _ _ _ _ (by simp)).alloc _
  have hb8 : Blk (((w.alloc (.cells #[.pointer (some ⟨x, 0, none⟩)] 48)).alloc (.cells #[.int .u8 0] 5)).alloc (.cells #[.int .i64 0] 3)) (w.heap.size + 1 + 1) 3 #[.int .i64 0] := Blk.new' _ _ _ _ (by simp)
  generalize (((w.alloc (.cells #[.pointer (some ⟨x, 0, none⟩)] 48)).alloc (.cells #[.int .u8 0] 5)).alloc (.cells #[.int .i64 0] 3)) = w3 at *
  have HC3 := Lib.hid hc3; have HB7 := Lib.hid hb7; have HB8 := Lib.hid hb8
  clear hc3 hb7 hb8
  refine (known_ok x (w.heap.size + 1 + 1) 1 1 w3 HB8.out.lt (fun i hi => by obtain rfl : i = 0 := (by omega); exact HB8.out.cell 0) (by omega)).mono ?_
  rintro e w4 ⟨rfl, hd⟩
  have c7 : w4.cell? ⟨w.heap.size + 1, 0, none⟩ = some (.int .u8 0) := (HB7.out.chg hd (by simp)).cell 0
  have HC := Lib.hid (HC3.out.trans hd)
  clear hd
  go_wp2_with fail
  go_ret2
  exact ⟨rfl, HC.out⟩
set_option maxRecDepth 100000 in
theorem one_b0271 (x : Nat) (w : World) : Calls Tryz.prog 19 #[.pointer (some ⟨x, 0, none⟩), .int .i64 0, .int .u8 27, .int .u8 1] w fun e w' => e = .returned (.tuple #[.nilFunc, .int .i64 1]) ∧ Chg [] w w' := by
  go_enter Tryz.func19, Tryz.ntmps19
  go_wp2_with fail
  have hc3 : Chg [] w (((w.alloc (.cells #[.pointer (some ⟨x, 0, none⟩)] 48)).alloc (.cells #[.int .u8 1] 5)).alloc (.cells #[.int .i64 0] 3)) := (((Chg.refl [] w).alloc _).alloc _).alloc _
  have hb7 : Blk (((w.alloc (.cells #[.pointer (some ⟨x, 0, none⟩)] 48)).alloc (.cells #[.int .u8 1] 5)).alloc (.cells #[.int .i64 0] 3)) (w.heap.size + 1) 5 #[.int .u8 1] := (Blk.new' _ _ _ _ (by simp)).alloc _
  have hb8 : Blk (((w.alloc (.cells #[.pointer (some ⟨x, 0, none⟩)] 48)).alloc (.cells #[.int .u8 1] 5)).alloc (.cells #[.int .i64 0] 3)) (w.heap.size + 1 + 1) 3 #[.int .i64 0] := Blk.new' _ _ _ _ (by simp)
  generalize (((w.alloc (.cells #[.pointer (some ⟨x, 0, none⟩)] 48)).alloc (.cells #[.int .u8 1] 5)).alloc (.cells #[.int .i64 0] 3)) = w3 at *
  have HC3 := Lib.hid hc3; have HB7 := Lib.hid hb7; have HB8 := Lib.hid hb8
  clear hc3 hb7 hb8
  refine (known_ok x (w.heap.size + 1 + 1) 1 1 w3 HB8.out.lt (fun i hi => by obtain rfl : i = 0 := (by omega); exact HB8.out.cell 0) (by omega)).mono ?_
  rintro e w4 ⟨rfl, hd⟩
  have c7 : w4.cell? ⟨w.heap.size + 1, 0, none⟩ = some (.int .u8 1) := (HB7.out.chg hd (by simp)).cell 0
  have HC := Lib.hid (HC3.out.trans hd)
  clear hd
  go_wp2_with fail
  go_ret2
  exact ⟨rfl, HC.out⟩
set_option maxRecDepth 100000 in
theorem one_b0270 (x : Nat) (w : World) : Calls Tryz.prog 19 #[.pointer (some ⟨x, 0, none⟩), .int .i64 0, .int .u8 27, .int .u8 0] w fun e w' => e = .returned (.tuple #[.nilFunc, .int .i64 40]) ∧ Chg [] w w' := by
  go_enter Tryz.func19, Tryz.ntmps19
  go_wp2_with fail
  have hc3 : Chg [] w (((w.alloc (.cells #[.pointer (some ⟨x, 0, none⟩)] 48)).alloc (.cells #[.int .u8 0] 5)).alloc (.cells #[.int .i64 0] 3)) := (((Chg.refl [] w).alloc _).alloc _).alloc _
  have hb7 : Blk (((w.alloc (.cells #[.pointer (some ⟨x, 0, none⟩)] 48)).alloc (.cells #[.int .u8 0] 5)).alloc (.cells #[.int .i64 0] 3)) (w.heap.size + 1) 5 #[.int .u8 0] := (Blk.new' _ _ _ _ (by simp)).alloc _
  have hb8 : Blk (((w.alloc (.cells #[.pointer (some ⟨x, 0, none⟩)] 48)).alloc (.cells #[.int .u8 0] 5)).alloc (.cells #[.int .i64 0] 3)) (w.heap.size + 1 + 1) 3 #[.int .i64 0] := Blk.new' _ _ _ _ (by simp)
  generalize (((w.alloc (.cells #[.pointer (some ⟨x, 0, none⟩)] 48)).alloc (.cells #[.int .u8 0] 5)).alloc (.cells #[.int .i64 0] 3)) = w3 at *
  have HC3 := Lib.hid hc3; have HB7 := Lib.hid hb7; have HB8 := Lib.hid hb8
  clear hc3 hb7 hb8
  refine (known_ok x (w.heap.size + 1 + 1) 1 1 w3 HB8.out.lt (fun i hi => by obtain rfl : i = 0 := (by omega); exact HB8.out.cell 0) (by omega)).mono ?_
  rintro e w4 ⟨rfl, hd⟩
  have c7 : w4.cell? ⟨w.heap.size + 1, 0, none⟩ = some (.int .u8 0) := (HB7.out.chg hd (by simp)).cell 0
  have HC := Lib.hid (HC3.out.trans hd)
  clear hd
  go_wp2_with fail
  go_ret2
  exact ⟨rfl, HC.out⟩
set_option maxRecDepth 100000 in
theorem one_b0020 (x : Nat) (w : World) : Calls Tryz.prog 19 #[.pointer (some ⟨x, 0, none⟩), .int .i64 0, .int .u8 0, .int .u8 20] w fun e w' => e = .returned (.tuple #[.nilFunc, .int .i64 60]) ∧ Chg [] w w' := by
  go_enter Tryz.func19, Tryz.ntmps19
  go_wp2_with fail
  have hc3 : Chg [] w (((w.alloc (.cells #[.pointer (some ⟨x, 0, none⟩)] 48)).alloc (.cells #[.int .u8 20] 5)).alloc (.cells #[.int .i64 0] 3)) := (((Chg.refl [] w).alloc _).alloc _).alloc _
  have hb7 : Blk (((w.alloc (.cells #[.pointer (some ⟨x, 0, none⟩)] 48)).alloc (.cells #[.int .u8 20] 5)).alloc (.cells #[.int .i64 0] 3)) (w.heap.size + 1) 5 #[.int .u8 20] := (Blk.new' _ _ _ _ (by simp)).alloc _
  have hb8 : Blk (((w.alloc (.cells #[.pointer (some ⟨x, 0, none⟩)] 48)).alloc (.cells #[.int .u8 20] 5)).alloc (.cells #[.int .i64 0] 3)) (w.heap.size + 1 + 1) 3 #[.int .i64 0] := Blk.new' _ _ _ _ (by simp)
  generalize (((w.alloc (.cells #[.pointer (some ⟨x, 0, none⟩)] 48)).alloc (.cells #[.int .u8 20] 5)).alloc (.cells #[.int .i64 0] 3)) = w3 at *
  have HC3 := Lib.hid hc3; have HB7 := Lib.hid hb7; have HB8 := Lib.hid hb8
  clear hc3 hb7 hb8
  refine (known_ok x (w.heap.size + 1 + 1) 1 1 w3 HB8.out.lt (fun i hi => by obtain rfl : i = 0 := (by omega); exact HB8.out.cell 0) (by omega)).mono ?_
  rintro e w4 ⟨rfl, hd⟩
  have c7 : w4.cell? ⟨w.heap.size + 1, 0, none⟩ = some (.int .u8 20) := (HB7.out.chg hd (by simp)).cell 0
  have HC := Lib.hid (HC3.out.trans hd)
  clear hd
  go_wp2_with fail
  go_ret2
  exact ⟨rfl, HC.out⟩
set_option maxRecDepth 100000 in
theorem one_b0019 (x : Nat) (w : World) : Calls Tryz.prog 19 #[.pointer (some ⟨x, 0, none⟩), .int .i64 0, .int .u8 0, .int .u8 19] w fun e w' => ∃ fn fi ca, e = .returned (.tuple #[.func fn fi ca, .int .i64 0]) ∧ Chg [] w w' := by
  go_enter Tryz.func19, Tryz.ntmps19
  go_wp2_with fail
  have hc3 : Chg [] w (((w.alloc (.cells #[.pointer (some ⟨x, 0, none⟩)] 48)).alloc (.cells #[.int .u8 19] 5)).alloc (.cells #[.int .i64 0] 3)) := (((Chg.refl [] w).alloc _).alloc _).alloc _
  have hb7 : Blk (((w.alloc (.cells #[.pointer (some ⟨x, 0, none⟩)] 48)).alloc (.cells #[.int .u8 19] 5)).alloc (.cells #[.int .i64 0] 3)) (w.heap.size + 1) 5 #[.int .u8 19] := (Blk.new' _ _ _ _ (by simp)).alloc _
  have hb8 : Blk (((w.alloc (.cells #[.pointer (some ⟨x, 0, none⟩)] 48)).alloc (.cells #[.int .u8 19] 5)).alloc (.cells #[.int .i64 0] 3)) (w.heap.size + 1 + 1) 3 #[.int .i64 0] := Blk.new' _ _ _ _ (by simp)
  generalize (((w.alloc (.cells #[.pointer (some ⟨x, 0, none⟩)] 48)).alloc (.cells #[.int .u8 19] 5)).alloc (.cells #[.int .i64 0] 3)) = w3 at *
  have HC3 := Lib.hid hc3; have HB7 := Lib.hid hb7; have HB8 := Lib.hid hb8
  clear hc3 hb7 hb8
  refine (known_ok x (w.heap.size + 1 + 1) 1 1 w3 HB8.out.lt (fun i hi => by obtain rfl : i = 0 := (by omega); exact HB8.out.cell 0) (by omega)).mono ?_
  rintro e w4 ⟨rfl, hd⟩
  have c7 : w4.cell? ⟨w.heap.size + 1, 0, none⟩ = some (.int .u8 19) := (HB7.out.chg hd (by simp)).cell 0
  have HC := Lib.hid (HC3.out.trans hd)
  clear hd
  go_wp2_with fail
  go_ret2
  exact ⟨_, _, _, rfl, HC.out⟩
end Go.Proofs.YtfdegodfgknfhaaGreatDoor
