/-
  One element of an array that lies in a temporary, at a number that is not written out; the values of each kind's type.
-/
import Derived.Test.YtacijlfckmllcaaGreatDoorFul2
import Derived.Laws.Rows
namespace Go.Proofs.YtacijlfckmllcaaGreatDoor
open Go.RowKit

theorem run_index_cells {P : Program} (t e : TypeId) (n : Nat) (cs : Array Value) (k : IntKind) (i : Nat) (v : Value) (w : World) (h : P.underlying t = some (.array n e)) (ha : (isAgg e).run P w = .ok false w) (hz : (sizeOf e).run P w = .ok 1 w) (hi : i < n) (hc : cs[i]? = some v) :
    (Instr.index t (.agg cs) (.int k i)).run P w = .ok v w := by
  have h1 : (0 : Int) ≤ i ∧ (i : Int) < n := ⟨by omega, by omega⟩
  simp [Instr.index, run_underlying h, asIntOf, h1, go_sem, part, ha, hz, hc]
  intro h; omega

theorem wpList_index_cells {P : Program} {ops : Array Oper} {rest : List Oper} {a : Act} {w : World} {Q : Exit → Act → World → Prop} {x y : Nat} {t T : TypeId} {d : Option Tmp} {pos : String} {after : Array Edge} {cs : Array Value} {k : IntKind} (i : Nat) (v : Value)
    (hx : a.eval (.tmp x) = .agg cs) (hy : a.eval (.tmp y) = .int k i) (hr : (Instr.index t (.agg cs) (.int k i)).run P w = .ok v w)
    (h : wpList P ops Q rest (a.put d v) w) : wpList P ops Q (⟨d, .index t (.tmp x) (.tmp y), T, pos, after, none⟩ :: rest) a w :=
  wpList_plain rfl fun _ hK => by
    unfold Oper.wp execOp
    simp only [hx, hy, hr, Sem.run_bind, Sem.run_pure, Result.andThen_ok]
    exact hK _ _ h

abbrev zarr : Array Value := #[Value.nilIface, Value.iface 123 (Value.int IntKind.i16 0),
  Value.iface 124 (Value.string { data := #[] }),
  Value.iface 125 (Value.float FloatKind.f64 0),
  Value.iface 127 (Value.complex FloatKind.f64 0 0),
  Value.iface 129 (Value.agg #[Value.int IntKind.u8 0, Value.int IntKind.u8 0, Value.int IntKind.u8 0, Value.int IntKind.u8 0]),
  Value.iface 132 (Value.agg #[Value.map none]),
  Value.iface 134 Value.nilFunc, Value.iface 136 (Value.chan none),
  Value.iface 137 (Value.pointer none),
  Value.iface 138 (Value.pointer none),
  Value.iface 140 (Value.agg #[Value.int IntKind.i16 0, Value.string { data := #[] }]),
  Value.iface 142 (Value.agg #[Value.string { data := #[] }, Value.slice none 0 0]),
  Value.iface 144 (Value.agg #[Value.string { data := #[] }, Value.nilIface]),
  Value.iface 145 (Value.pointer none),
  Value.iface 147 (Value.agg #[Value.string { data := #[] }, Value.nilIface]),
  Value.iface 148 (Value.pointer none),
  Value.iface 150 (Value.agg #[Value.nilIface, Value.bool false]),
  Value.iface 152 (Value.agg #[Value.pointer none, Value.int IntKind.i16 0]),
  Value.iface 154 (Value.agg #[Value.int IntKind.i16 0, Value.float FloatKind.f64 0]),
  Value.iface 156 (Value.agg #[Value.nilIface]),
  Value.iface 157 (Value.pointer none),
  Value.iface 158 (Value.pointer none),
  Value.iface 160 (Value.agg #[Value.int IntKind.i8 0]),
  Value.iface 161 (Value.pointer none),
  Value.iface 163 (Value.agg #[Value.pointer none, Value.int IntKind.i16 0, Value.string { data := #[] }]),Value.iface 83 (Value.pointer none)]

set_option maxRecDepth 100000 in
theorem zero_any (k : Nat) (v : Value) (hk : k < 27) (hv : zarr[k]? = some v) (w : World) : Calls Tryz.prog 30 #[.int .u8 (k : Int)] w fun e w' => e = .returned v ∧ w' = w := by
  have hix : ∀ w, (Instr.index 164 (.agg #[Value.nilIface, Value.iface 123 (Value.int IntKind.i16 0),
  Value.iface 124 (Value.string { data := #[] }),
  Value.iface 125 (Value.float FloatKind.f64 0),
  Value.iface 127 (Value.complex FloatKind.f64 0 0),
  Value.iface 129 (Value.agg #[Value.int IntKind.u8 0, Value.int IntKind.u8 0, Value.int IntKind.u8 0, Value.int IntKind.u8 0]),
  Value.iface 132 (Value.agg #[Value.map none]),
  Value.iface 134 Value.nilFunc, Value.iface 136 (Value.chan none),
  Value.iface 137 (Value.pointer none),
  Value.iface 138 (Value.pointer none),
  Value.iface 140 (Value.agg #[Value.int IntKind.i16 0, Value.string { data := #[] }]),
  Value.iface 142 (Value.agg #[Value.string { data := #[] }, Value.slice none 0 0]),
  Value.iface 144 (Value.agg #[Value.string { data := #[] }, Value.nilIface]),
  Value.iface 145 (Value.pointer none),
  Value.iface 147 (Value.agg #[Value.string { data := #[] }, Value.nilIface]),
  Value.iface 148 (Value.pointer none),
  Value.iface 150 (Value.agg #[Value.nilIface, Value.bool false]),
  Value.iface 152 (Value.agg #[Value.pointer none, Value.int IntKind.i16 0]),
  Value.iface 154 (Value.agg #[Value.int IntKind.i16 0, Value.float FloatKind.f64 0]),
  Value.iface 156 (Value.agg #[Value.nilIface]),
  Value.iface 157 (Value.pointer none),
  Value.iface 158 (Value.pointer none),
  Value.iface 160 (Value.agg #[Value.int IntKind.i8 0]),
  Value.iface 161 (Value.pointer none),
  Value.iface 163 (Value.agg #[Value.pointer none, Value.int IntKind.i16 0, Value.string { data := #[] }]),Value.iface 83 (Value.pointer none)]) (.int .u8 (k : Int))).run Tryz.prog w = .ok v w := fun w => run_index_cells _ 70 27 _ _ _ _ _ Tryz.underlying164 (by kernel_rfl) (by kernel_rfl) hk hv
  clear hv
  go_enter Tryz.func30, Tryz.ntmps30
  go_wp2_with fail
  go_ret
  exact ⟨rfl, rfl⟩

/-- The faces of each kind's type, as a set. -/
def faceM : List Int := [0, 532486, 532482, 532498, 524322, 524290, 540674, 524290, 524290, 524290, 557122, 524302, 524546, 524290, 524802, 524802, 525314, 557122, 524418, 524310, 524290, 526338, 528386, 524290, 524290, 590350, 525314]

theorem zh (k : Nat) (h1 : 1 ≤ k) (h2 : k ≤ 26) : ∃ v, (∀ w, Calls Tryz.prog 30 #[.int .u8 (k : Int)] w fun e w' => e = .returned v ∧ w' = w) ∧ ∀ w, Calls Tryz.prog 29 #[v] w fun e w' => e = .returned (.int .u32 (faceM.getD k 0)) ∧ w' = w := by
  match k, h1, h2 with
  | 1, _, _ => exact ⟨_, zero_any 1 _ (by omega) rfl, fun w => (held1 _ w).mono fun _ _ h => ⟨h.1, h.2.symm⟩⟩
  | 2, _, _ => exact ⟨_, zero_any 2 _ (by omega) rfl, fun w => (held2 _ w).mono fun _ _ h => ⟨h.1, h.2.symm⟩⟩
  | 3, _, _ => exact ⟨_, zero_any 3 _ (by omega) rfl, fun w => (held3 _ w).mono fun _ _ h => ⟨h.1, h.2.symm⟩⟩
  | 4, _, _ => exact ⟨_, zero_any 4 _ (by omega) rfl, fun w => (held4 _ w).mono fun _ _ h => ⟨h.1, h.2.symm⟩⟩
  | 5, _, _ => exact ⟨_, zero_any 5 _ (by omega) rfl, fun w => (held5 _ w).mono fun _ _ h => ⟨h.1, h.2.symm⟩⟩
  | 6, _, _ => exact ⟨_, zero_any 6 _ (by omega) rfl, fun w => (held6 _ w).mono fun _ _ h => ⟨h.1, h.2.symm⟩⟩
  | 7, _, _ => exact ⟨_, zero_any 7 _ (by omega) rfl, fun w => (held7 _ w).mono fun _ _ h => ⟨h.1, h.2.symm⟩⟩
  | 8, _, _ => exact ⟨_, zero_any 8 _ (by omega) rfl, fun w => (held8 _ w).mono fun _ _ h => ⟨h.1, h.2.symm⟩⟩
  | 9, _, _ => exact ⟨_, zero_any 9 _ (by omega) rfl, fun w => (held9 _ w).mono fun _ _ h => ⟨h.1, h.2.symm⟩⟩
  | 10, _, _ => exact ⟨_, zero_any 10 _ (by omega) rfl, fun w => (held10 _ w).mono fun _ _ h => ⟨h.1, h.2.symm⟩⟩
  | 11, _, _ => exact ⟨_, zero_any 11 _ (by omega) rfl, fun w => (held11 _ w).mono fun _ _ h => ⟨h.1, h.2.symm⟩⟩
  | 12, _, _ => exact ⟨_, zero_any 12 _ (by omega) rfl, fun w => (held12 _ w).mono fun _ _ h => ⟨h.1, h.2.symm⟩⟩
  | 13, _, _ => exact ⟨_, zero_any 13 _ (by omega) rfl, fun w => (held13 _ w).mono fun _ _ h => ⟨h.1, h.2.symm⟩⟩
  | 14, _, _ => exact ⟨_, zero_any 14 _ (by omega) rfl, fun w => (held14 _ w).mono fun _ _ h => ⟨h.1, h.2.symm⟩⟩
  | 15, _, _ => exact ⟨_, zero_any 15 _ (by omega) rfl, fun w => (held15 _ w).mono fun _ _ h => ⟨h.1, h.2.symm⟩⟩
  | 16, _, _ => exact ⟨_, zero_any 16 _ (by omega) rfl, fun w => (held16 _ w).mono fun _ _ h => ⟨h.1, h.2.symm⟩⟩
  | 17, _, _ => exact ⟨_, zero_any 17 _ (by omega) rfl, fun w => (held17 _ w).mono fun _ _ h => ⟨h.1, h.2.symm⟩⟩
  | 18, _, _ => exact ⟨_, zero_any 18 _ (by omega) rfl, fun w => (held18 _ w).mono fun _ _ h => ⟨h.1, h.2.symm⟩⟩
  | 19, _, _ => exact ⟨_, zero_any 19 _ (by omega) rfl, fun w => (held19 _ w).mono fun _ _ h => ⟨h.1, h.2.symm⟩⟩
  | 20, _, _ => exact ⟨_, zero_any 20 _ (by omega) rfl, fun w => (held20 _ w).mono fun _ _ h => ⟨h.1, h.2.symm⟩⟩
  | 21, _, _ => exact ⟨_, zero_any 21 _ (by omega) rfl, fun w => (held21 _ w).mono fun _ _ h => ⟨h.1, h.2.symm⟩⟩
  | 22, _, _ => exact ⟨_, zero_any 22 _ (by omega) rfl, fun w => (held22 _ w).mono fun _ _ h => ⟨h.1, h.2.symm⟩⟩
  | 23, _, _ => exact ⟨_, zero_any 23 _ (by omega) rfl, fun w => (held23 _ w).mono fun _ _ h => ⟨h.1, h.2.symm⟩⟩
  | 24, _, _ => exact ⟨_, zero_any 24 _ (by omega) rfl, fun w => (held24 _ w).mono fun _ _ h => ⟨h.1, h.2.symm⟩⟩
  | 25, _, _ => exact ⟨_, zero_any 25 _ (by omega) rfl, fun w => (held25 _ w).mono fun _ _ h => ⟨h.1, h.2.symm⟩⟩
  | 26, _, _ => exact ⟨_, zero_any 26 _ (by omega) rfl, fun w => (held26 _ w).mono fun _ _ h => ⟨h.1, h.2.symm⟩⟩
  | n + 27, _, h => omega
end Go.Proofs.YtacijlfckmllcaaGreatDoor
