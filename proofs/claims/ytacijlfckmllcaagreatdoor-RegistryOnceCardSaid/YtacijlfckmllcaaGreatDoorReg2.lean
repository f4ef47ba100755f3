/-
  The registry in memory, and its freezing.
-/
import Derived.Test.YtacijlfckmllcaaGreatDoorReg1
import Derived.WalkLawsBesides
import Derived.WalkSpells
import Derived.LoopTactic
import Derived.BigQuiet
import Derived.Deep.QuietTactic
import Derived.Deep.LoopGhost
import Derived.Deep.RegionHeld3
import Derived.Laws.MakeOwn
import Derived.Laws.Entries
namespace Go.Proofs.YtacijlfckmllcaaGreatDoor
open Go.RowKit

/-- A registry's cells: its lock, its once (done, the lock of it), the roll, the names, the refused ones, how often it was frozen. -/
def gcells (lk done m : Int) (rows names taken : Value) (fr : Int) : Array Value :=
  #[.int .i32 lk, .int .u32 0, .int .u32 done, .int .i32 m, .int .u32 0, rows, names, taken, .int .i64 fr]

def Reg (w : World) (g : Nat) (lk done m : Int) (rows names taken : Value) (fr : Int) : Prop := Blk w g 59 (gcells lk done m rows names taken fr)

section
variable {w w' : World} {g : Nat} {lk done m : Int} {rows names taken : Value} {fr : Int}
theorem Reg.lock (h : Reg w g lk done m rows names taken fr) (x : Int) : Reg (w.setCell ⟨g, 0, none⟩ (.int .i32 x)) g x done m rows names taken fr := Blk.set_ h 0 _
theorem Reg.done_ (h : Reg w g lk done m rows names taken fr) (x : Int) : Reg (w.setCell ⟨g, 2, none⟩ (.int .u32 x)) g lk x m rows names taken fr := Blk.set_ h 2 _
theorem Reg.mu (h : Reg w g lk done m rows names taken fr) (x : Int) : Reg (w.setCell ⟨g, 3, none⟩ (.int .i32 x)) g lk done x rows names taken fr := Blk.set_ h 3 _
theorem Reg.rows_ (h : Reg w g lk done m rows names taken fr) (x : Value) : Reg (w.setCell ⟨g, 5, none⟩ x) g lk done m x names taken fr := Blk.set_ h 5 _
theorem Reg.taken_ (h : Reg w g lk done m rows names taken fr) (x : Value) : Reg (w.setCell ⟨g, 7, none⟩ x) g lk done m rows names x fr := Blk.set_ h 7 _
theorem Reg.fr_ (h : Reg w g lk done m rows names taken fr) (x : Int) : Reg (w.setCell ⟨g, 8, none⟩ (.int .i64 x)) g lk done m rows names taken x := Blk.set_ h 8 _
theorem Reg.chg {S : List Nat} (h : Reg w g lk done m rows names taken fr) (hc : Chg S w w') (hg : g ∉ S) : Reg w' g lk done m rows names taken fr := Blk.chg h hc hg
theorem Reg.drew (h : Reg w g lk done m rows names taken fr) : Reg w.drew g lk done m rows names taken fr := h
theorem Reg.alloc (h : Reg w g lk done m rows names taken fr) (o : Obj) : Reg (w.alloc o) g lk done m rows names taken fr := Blk.alloc h o
theorem Reg.lt (h : Reg w g lk done m rows names taken fr) : g < w.heap.size := Blk.lt h
theorem Reg.c0 (h : Reg w g lk done m rows names taken fr) : w.cell? ⟨g, 0, none⟩ = some (.int .i32 lk) := Blk.cell h 0
theorem Reg.c2 (h : Reg w g lk done m rows names taken fr) : w.cell? ⟨g, 2, none⟩ = some (.int .u32 done) := Blk.cell h 2
theorem Reg.c3 (h : Reg w g lk done m rows names taken fr) : w.cell? ⟨g, 3, none⟩ = some (.int .i32 m) := Blk.cell h 3
theorem Reg.c5 (h : Reg w g lk done m rows names taken fr) : w.cell? ⟨g, 5, none⟩ = some rows := Blk.cell h 5
theorem Reg.c6 (h : Reg w g lk done m rows names taken fr) : w.cell? ⟨g, 6, none⟩ = some names := Blk.cell h 6
theorem Reg.c7 (h : Reg w g lk done m rows names taken fr) : w.cell? ⟨g, 7, none⟩ = some taken := Blk.cell h 7
theorem Reg.c8 (h : Reg w g lk done m rows names taken fr) : w.cell? ⟨g, 8, none⟩ = some (.int .i64 fr) := Blk.cell h 8
theorem Reg.fz (h : Reg w g lk done m rows names taken fr) (i : Nat) : w.frozen? ⟨g, i, none⟩ = false := Blk.frozen h i
end

/-- '(*sync/atomic.Bool).Load'. -/
theorem loadB_any (a : Addr) (x : Int) (w : World) (hc : w.cell? a = some (.int .u32 x)) :
    Calls Tryz.prog 68 #[.pointer (some a)] w fun e w' => e = .returned (.bool (x != 0)) ∧ w' = w := by
  have hl := run_call_load (P := Tryz.prog) Tryz.func79 (by kernel_rfl) (by kernel_rfl) (by kernel_rfl) .u32 (by kernel_rfl) hc
  go_enter Tryz.func68, Tryz.ntmps68
  go_wp2
  go_ret
  exact ⟨rfl, rfl⟩

set_option maxRecDepth 100000 in
set_option maxHeartbeats 1000000 in
/-- The function that freezing hands to the once: frozens goes up by one, under the lock. -/
theorem frz_any (w : World) (g p : Nat) (done m : Int) (rows names taken : Value) (fr : Int) (hB : Reg w g 0 done m rows names taken fr) (hp : w.cell? ⟨p, 0, none⟩ = some (.pointer (some ⟨g, 0, none⟩))) (hpg : ¬ p = g) (h0 : 0 ≤ fr) (h1 : fr ≤ 4611686018427387904) :
    Calls Tryz.prog 36 #[.pointer (some ⟨p, 0, none⟩)] w fun e w' => e = .returned (.tuple #[]) ∧ Reg w' g 0 done m rows names taken (fr + 1) ∧ Chg [g] w w' := by
  have HB := Lib.hid hB; have HP := Lib.hid hp
  clear hB
  go_enter_defers Tryz.func36, Tryz.ntmps36
  go_wp2_with fail
  refine (lock_free ⟨g, 0, none⟩ _ HB.out.c0 (HB.out.fz 0)).mono ?_
  rintro e w' ⟨rfl, rfl⟩
  have hb := HB.out.lock 1
  have HB1 := Lib.hid hb
  have c8 := hb.c8; have f8 := hb.fz 8
  have hp1 : (w.setCell ⟨g, 0, none⟩ (.int .i32 1)).cell? ⟨p, 0, none⟩ = some (.pointer (some ⟨g, 0, none⟩)) := (World.cell?_setCell_other w ⟨g, 0, none⟩ ⟨p, 0, none⟩ _ (by intro e; injection e with e; exact hpg e.symm)).trans HP.out
  clear hb hp
  go_wp2_with fail
  have hb2 := HB1.out.fr_ (fr + 1)
  refine leaves_cons (f := 23) (args := #[.pointer (some ⟨g, 0, none⟩)]) (by simp) (by simp [go_sem]) ?_
  refine (unlock_deferred ⟨g, 0, none⟩ .returning _ hb2.c0 (hb2.fz 0)).mono ?_
  rintro e u' w'' ⟨rfl, rfl, rfl⟩
  exact ⟨_, results_none rfl _ _ _, rfl, hb2.lock 0, (((Chg.refl [g] w).setCell (.inl (by simp)) _).setCell (.inl (by simp)) _).setCell (.inl (by simp)) _⟩

set_option maxRecDepth 100000 in
set_option maxHeartbeats 1000000 in
/-- '(*sync.Once).doSlow', not yet done. -/
theorem slow_any (w : World) (g p : Nat) (rows names taken : Value) (fr : Int) (hB : Reg w g 0 0 0 rows names taken fr) (hp : w.cell? ⟨p, 0, none⟩ = some (.pointer (some ⟨g, 0, none⟩))) (hpg : ¬ p = g) (h0 : 0 ≤ fr) (h1 : fr ≤ 4611686018427387904) :
    Calls Tryz.prog 69 #[.pointer (some ⟨g, 2, none⟩), .func (.func 36) #[] #[.pointer (some ⟨p, 0, none⟩)]] w fun e w' =>
      e = .returned (.tuple #[]) ∧ Reg w' g 0 1 0 rows names taken (fr + 1) ∧ Chg [g] w w' := by
  have hnot : ∀ (x : Bool) (w : World), (Op.unary .not (.bool x)).run Tryz.prog w = .ok (.bool (!x)) w := fun _ _ => rfl
  have HB := Lib.hid hB
  clear hB
  go_enter_defers Tryz.func69, Tryz.ntmps69
  go_wp2_with fail
  refine (lock_free ⟨g, 3, none⟩ _ HB.out.c3 (HB.out.fz 3)).mono ?_
  rintro e w' ⟨rfl, rfl⟩
  have HB1 := Lib.hid (HB.out.mu 1)
  have hp1 : (w.setCell ⟨g, 3, none⟩ (.int .i32 1)).cell? ⟨p, 0, none⟩ = some (.pointer (some ⟨g, 0, none⟩)) := (World.cell?_setCell_other w ⟨g, 3, none⟩ ⟨p, 0, none⟩ _ (by intro e; injection e with e; exact hpg e.symm)).trans hp
  have HP1 := Lib.hid hp1
  clear hp hp1
  go_wp2_with fail
  refine (loadB_any ⟨g, 2, none⟩ 0 _ HB1.out.c2).mono ?_
  rintro e w' ⟨rfl, rfl⟩
  go_wp2_with fail
  refine (frz_any _ g p 0 1 rows names taken fr HB1.out HP1.out hpg h0 h1).mono ?_
  rintro e w1 ⟨rfl, hB1, hc1⟩
  have HB2 := Lib.hid hB1; have HC1 := Lib.hid (((Chg.refl [g] w).setCell (p := ⟨g, 3, none⟩) (.inl (by simp)) (.int .i32 1)).trans hc1)
  clear hB1 hc1
  go_wp2_with fail
  have hb3 := HB2.out.drew.done_ 1
  refine leaves_cons (f := 80) (args := #[.pointer (some ⟨g, 2, none⟩), .bool true]) (by simp) (by simp [go_sem]) ?_
  refine (store_deferred ⟨g, 2, none⟩ (.int .u32 0) .returning _ HB2.out.c2 (HB2.out.fz 2)).mono ?_
  rintro e u' w'' ⟨rfl, rfl, rfl⟩
  refine leaves_cons (f := 23) (args := #[.pointer (some ⟨g, 3, none⟩)]) (by simp [settle]) (by simp [go_sem]) ?_
  refine (unlock_deferred ⟨g, 3, none⟩ _ _ hb3.c3 (hb3.fz 3)).mono ?_
  rintro e u' w'' ⟨rfl, rfl, rfl⟩
  have hend : Reg (((w1.drew).setCell ⟨g, 2, none⟩ (.int .u32 1)).setCell ⟨g, 3, none⟩ (.int .i32 0)) g 0 1 0 rows names taken (fr + 1) := hb3.mu 0
  have hce : Chg [g] w (((w1.drew).setCell ⟨g, 2, none⟩ (.int .u32 1)).setCell ⟨g, 3, none⟩ (.int .i32 0)) := ((HC1.out.drew).setCell (.inl (by simp)) _).setCell (.inl (by simp)) _
  have HE := Lib.hid hend; have HCE := Lib.hid hce
  clear hend hce hb3
  simp [Leaves, settle, results, Tryz.results69]
  exact ⟨HE.out, HCE.out⟩

set_option maxRecDepth 100000 in
set_option maxHeartbeats 1000000 in
theorem do_first (w : World) (g p : Nat) (rows names taken : Value) (fr : Int) (hB : Reg w g 0 0 0 rows names taken fr) (hp : w.cell? ⟨p, 0, none⟩ = some (.pointer (some ⟨g, 0, none⟩))) (hpg : ¬ p = g) (h0 : 0 ≤ fr) (h1 : fr ≤ 4611686018427387904) :
    Calls Tryz.prog 35 #[.pointer (some ⟨g, 2, none⟩), .func (.func 36) #[] #[.pointer (some ⟨p, 0, none⟩)]] w fun e w' =>
      e = .returned (.tuple #[]) ∧ Reg w' g 0 1 0 rows names taken (fr + 1) ∧ Chg [g] w w' := by
  have hnot : ∀ (x : Bool) (w : World), (Op.unary .not (.bool x)).run Tryz.prog w = .ok (.bool (!x)) w := fun _ _ => rfl
  have HB := Lib.hid hB; have HP := Lib.hid hp
  clear hB hp
  go_enter Tryz.func35, Tryz.ntmps35
  go_wp2_with fail
  refine (loadB_any ⟨g, 2, none⟩ 0 _ HB.out.c2).mono ?_
  rintro e w' ⟨rfl, rfl⟩
  go_wp2_with fail
  refine (slow_any _ g p rows names taken fr HB.out HP.out hpg h0 h1).mono ?_
  rintro e w1 ⟨rfl, hB1, hc1⟩
  have HB1 := Lib.hid hB1; have HC1 := Lib.hid hc1
  clear hB1 hc1
  go_wp2_with fail
  go_end0
  exact ⟨rfl, HB1.out, HC1.out⟩

theorem do_done (w : World) (g m : Nat) (lk : Int) (fv rows names taken : Value) (fr : Int) (hB : Reg w g lk 1 m rows names taken fr) :
    Calls Tryz.prog 35 #[.pointer (some ⟨g, 2, none⟩), fv] w fun e w' => e = .returned (.tuple #[]) ∧ w' = w := by
  have hnot : ∀ (x : Bool) (w : World), (Op.unary .not (.bool x)).run Tryz.prog w = .ok (.bool (!x)) w := fun _ _ => rfl
  have HB := Lib.hid hB
  clear hB
  go_enter Tryz.func35, Tryz.ntmps35
  go_wp2_with fail
  refine (loadB_any ⟨g, 2, none⟩ 1 _ HB.out.c2).mono ?_
  rintro e w' ⟨rfl, rfl⟩
  go_wp2_with fail
  go_end0
  exact ⟨rfl, rfl⟩

/-- How often it was frozen, once it is frozen. -/
def fzn (z : Bool) : Int := if z then 1 else 0

set_option maxRecDepth 100000 in
set_option maxHeartbeats 1000000 in
/-- Freezing: whatever it was, it is frozen, once. -/
theorem freeze_any (w : World) (g : Nat) (z : Bool) (rows names taken : Value) (hB : Reg w g 0 (fzn z) 0 rows names taken (fzn z)) :
    Calls Tryz.prog 24 #[.pointer (some ⟨g, 0, none⟩)] w fun e w' => e = .returned (.tuple #[]) ∧ Reg w' g 0 1 0 rows names taken 1 ∧ Chg [g] w w' := by
  have hmf : ∀ (fn : Fn) (first cap : Array Value) (w : World), (Instr.makeFunc fn first cap).run Tryz.prog w = .ok (.func fn first cap) w := fun _ _ _ _ => rfl
  have hbl := hB.lt
  have HB := Lib.hid hB
  clear hB
  go_enter Tryz.func24, Tryz.ntmps24
  go_wp2_with fail
  cases z
  · have hb := HB.out.alloc (.cells #[.pointer (some ⟨g, 0, none⟩)] 24)
    refine (do_first _ g w.heap.size rows names taken 0 hb (by simp) (by omega) (by omega) (by omega)).mono ?_
    rintro e w1 ⟨rfl, hB1, hc1⟩
    have HB1 := Lib.hid hB1; have HC1 := Lib.hid hc1
    clear hB1 hc1 hb
    go_wp2_with fail
    go_end0
    exact ⟨rfl, HB1.out, ((Chg.refl [g] w).alloc _).trans HC1.out⟩
  · have hb := HB.out.alloc (.cells #[.pointer (some ⟨g, 0, none⟩)] 24)
    refine (do_done _ g 0 0 _ rows names taken 1 hb).mono ?_
    rintro e w1 ⟨rfl, rfl⟩
    have HB1 := Lib.hid hb
    clear hb
    go_wp2_with fail
    go_end0
    exact ⟨rfl, HB1.out, (Chg.refl [g] w).alloc _⟩
end Go.Proofs.YtacijlfckmllcaaGreatDoor
