import Derived.Test.YtmdokhndnimolaaNone3
import Derived.Deep.WholeRow
namespace Go.Proofs.Ytmdokhndnimolaa
open Go.RowKit

theorem road_bad (x a c : Nat) (w : World) (ha : a < w.heap.size) (hz : w.cell? ⟨a, 0, none⟩ = some (.int .u8 0)) : Calls Try.prog 7 #[.pointer (some ⟨x, 0, none⟩), .int .i64 0, .slice (some ⟨a, 0, none⟩) 64 c] w fun e w' => e = .returned (.tuple #[.int .i64 0, .int .i64 60]) ∧ Chg [] w w' := by
  have HZ := Lib.hid hz; clear hz
  go_enter Try.func7, Try.ntmps7
  go_wp2_with fail
  refine (value_of (at_zero x _)).mono ?_
  rintro e w' ⟨rfl, hc⟩
  have hz : w'.cell? ⟨a, 0, none⟩ = some (.int .u8 0) := (hc.cell (p := ⟨a, 0, none⟩) ha (by simp)).trans HZ.out
  have HC := Lib.hid hc; clear hc
  go_wp2_with fail
  go_loopg [31] 1 (fun _ i wr => i = .int .i64 0 ∧ wr = w')
  case atStart => exact ⟨rfl, rfl⟩
  case round =>
    obtain ⟨rfl, rfl⟩ := hrel
    go_wp2_with fail
    refine (right_zero _).mono ?_
    rintro e w' ⟨rfl, rfl⟩
    go_wp2_with fail
    refine bodyPost_ret (v := .tuple #[.int .i64 0, .int .i64 60]) (by simp only [results, Try.results7]; go_simp) rfl ?_
    exact ⟨rfl, HC.out⟩

def faceNames : Array Value := #[.string ⟨#[]⟩, .string ⟨#[101, 114, 114, 111, 114]⟩, .string ⟨#[71, 114, 97, 100, 101, 114]⟩, .string ⟨#[67, 111, 100, 101, 114]⟩, .string ⟨#[87, 101, 105, 103, 104, 101, 114]⟩,
  .string ⟨#[80, 104, 97, 115, 101, 114]⟩, .string ⟨#[84, 105, 109, 101, 114]⟩, .string ⟨#[76, 105, 110, 101, 114]⟩, .string ⟨#[68, 101, 116, 97, 105, 108, 101, 114]⟩, .string ⟨#[79, 110, 101]⟩, .string ⟨#[77, 97, 110, 121]⟩,
  .string ⟨#[74, 117, 100, 103, 101]⟩, .string ⟨#[76, 101, 110, 100, 101, 114]⟩, .string ⟨#[75, 105, 110, 100, 101, 114]⟩, .string ⟨#[83, 105, 122, 101, 114]⟩, .string ⟨#[84, 105, 109, 101, 100, 69, 114, 114, 111, 114]⟩,
  .string ⟨#[67, 111, 100, 101, 100, 67, 97, 117, 115, 101]⟩, .string ⟨#[87, 104, 111, 108, 101]⟩, .string ⟨#[78, 111, 98, 111, 100, 121]⟩, .string ⟨#[97, 110, 121]⟩]

/-- A whole array stored into the block that was made last. -/
theorem store_new {P : Program} {ops : Array Oper} {rest : List Oper} {a : Act} {w : World} {Q : Exit → Act → World → Prop} {x y : Nat} {ty t T : TypeId} {pos : String} {after : Array Edge} {old : Array Value} (cells : Array Value)
    (hx : a.eval (.tmp x) = .pointer (some ⟨w.heap.size, 0, none⟩)) (hy : a.eval (.tmp y) = .agg cells) (hi : (P.info? ty).map (·.size) = some cells.size) (hold : old.size = cells.size) (h1 : cells.all (·.oneCell') = true)
    (h : wpList P ops Q rest a (w.alloc (.cells cells t))) : wpList P ops Q (⟨none, .store ty (.tmp x) (.tmp y), T, pos, after, none⟩ :: rest) a (w.alloc (.cells old t)) := by
  refine wpList_store_row rfl ty (.tmp x) (.tmp y) rfl w.heap.size cells hx hy t old (heap_alloc_last w _) hi hold h1 ?_
  rw [World.setRow_alloc_new]
  exact h

theorem names_any (w : World) : Calls Try.prog 17 #[] w fun e w' => e = .returned (.agg faceNames) ∧ Chg [] w w' := by
  go_enter Try.func17, Try.ntmps17
  go_wp2_with (with_reducible refine store_new faceNames ?_ ?_ ?_ ?_ ?_ ?_)
  · go_simp
  · go_simp; rfl
  · kernel_rfl
  · kernel_rfl
  · kernel_rfl
  go_wp2_with fail
  refine bodyPost_ret (v := .agg faceNames) (results_cell_row rfl _ _ w.heap.size 54 faceNames (0, 0) _ rfl (heap_alloc_last w _) Try.underlying54 rfl (by kernel_rfl)) rfl ?_
  exact ⟨rfl, (Chg.refl _ _).alloc _⟩
def nameOk (k : Nat) : Bool := match faceNames[k]? with
  | some (.string s) => (k == 0) == s.toList.isEmpty
  | _ => false

theorem nameOk_all : (List.range 20).all nameOk = true := by kernel_rfl

theorem run_index_string {P : Program} (t e : TypeId) (n : Nat) (cs : Array Value) (i : Nat) (s : ByteArray) (w : World) (h : P.underlying t = some (.array n e)) (ha : (isAgg e).run P w = .ok false w) (hz : (sizeOf e).run P w = .ok 1 w) (hi : i < n) (hc : cs[i]? = some (.string s)) :
    (Instr.index t (.agg cs) (.int .i64 i)).run P w = .ok (.string s) w := by
  have h1 : (0 : Int) ≤ i ∧ (i : Int) < n := ⟨by omega, by omega⟩
  simp [Instr.index, run_underlying h, asIntOf, h1, go_sem, part, ha, hz, hc]
  intro h; omega

theorem idx_name (k : Nat) (hk : k < 20) : ∃ s : ByteArray, (s.toList.isEmpty = (k == 0)) ∧ ∀ w : World, (Instr.index 54 (.agg faceNames) (.int .i64 k)).run Try.prog w = .ok (.string s) w := by
  have h := List.all_eq_true.1 nameOk_all k (List.mem_range.2 hk)
  unfold nameOk at h
  split at h
  · rename_i s hs
    refine ⟨s, by simpa using (Eq.symm (by simpa using h)), fun w => ?_⟩
    exact run_index_string 54 _ 20 _ k s w Try.underlying54 (by kernel_rfl) (by kernel_rfl) hk hs
  · cases h
set_option maxRecDepth 100000 in
theorem named_empty (w : World) : Calls Try.prog 10 #[.string ⟨#[]⟩] w fun e w' => e = .returned (.tuple #[.int .u8 0, .bool false]) ∧ Chg [] w w' := by
  go_enter Try.func10, Try.ntmps10
  go_wp2_with fail
  refine (names_any _).mono ?_
  rintro e w' ⟨rfl, hc⟩
  have HC := Lib.hid hc; clear hc
  have HI := Lib.hid idx_name
  revert HI
  generalize faceNames = F
  intro HI
  go_wp2_with fail
  go_loopg [7] 20 (fun g i wr => ∃ k : Nat, k + g = 20 ∧ i = .int .i64 k ∧ wr = w')
  case atStart => exact ⟨0, rfl, rfl, rfl⟩
  case round =>
    obtain ⟨k, hk, rfl, rfl⟩ := hrel
    have HK := Lib.hid hk; clear hk
    by_cases hlt : k < 20
    · obtain ⟨s, hs, hi⟩ := HI.out k hlt
      by_cases hz : k = 0
      · subst hz
        have hi0 : (Instr.index 54 (.agg F) (.int .i64 0)).run Try.prog wr = .ok (.string s) wr := hi wr
        clear hi
        clear hs hlt
        go_wp2_with fail
        go_roundg (gk - 1)
        case rel => exact ⟨1, by have := HK.out; omega, rfl, rfl⟩
        case measure => have := HK.out; omega
      · have hb : (s.toList.isEmpty) = false := by rw [hs]; simp [hz]
        have hp : 0 < k := by omega
        clear hs
        have hi0 := hi wr
        clear hi
        go_wp2_with fail
        go_roundg (gk - 1)
        case rel => exact ⟨k + 1, by have := HK.out; omega, by go_num, rfl⟩
        case measure => have := HK.out; omega
    · go_wp2_with fail
      refine bodyPost_ret (v := .tuple #[.int .u8 0, .bool false]) (by simp only [results, Try.results10]; go_simp) rfl ?_
      exact ⟨rfl, HC.out⟩
end Go.Proofs.Ytmdokhndnimolaa
