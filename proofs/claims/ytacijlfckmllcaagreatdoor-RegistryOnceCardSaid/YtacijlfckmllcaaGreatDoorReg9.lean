/-
  What the document's registry is asked.
-/
import Derived.Test.YtacijlfckmllcaaGreatDoorReg8
namespace Go.Proofs.YtacijlfckmllcaaGreatDoor
open Go.RowKit Go.WideMaps Go.Maps

theorem named_hit (l : List Rw) (nm : ByteArray) (k : Nat) (r : Rw) (hk : l[k]? = some r) (hr : r.nm = nm) (hno : ∀ j r', j < k → l[j]? = some r' → r'.nm ≠ nm) : namedL l nm = (r, 0) := by
  have : l.find? (fun r => decide (r.nm = nm)) = some r := by
    induction l generalizing k with
    | nil => simp at hk
    | cons a l ih =>
      rw [List.find?_cons]
      cases k with
      | zero =>
        simp at hk
        subst hk
        simp [hr]
      | succ k =>
        have ha : a.nm ≠ nm := hno 0 a (by omega) rfl
        simp only [decide_eq_false ha]
        exact ih k (by simpa using hk) (fun j r' hj h => hno (j + 1) r' (by omega) (by simpa using h))
  unfold namedL
  rw [this]

theorem named_miss (l : List Rw) (nm : ByteArray) (hno : ∀ (j : Nat) r', l[j]? = some r' → r'.nm ≠ nm) : namedL l nm = (r00, 170) := by
  have : l.find? (fun r => decide (r.nm = nm)) = none := by
    rw [List.find?_eq_none]
    intro r hr
    obtain ⟨j, hj⟩ := List.getElem?_of_mem hr
    simpa using hno j r hj
  unfold namedL
  rw [this]

def RAskPost (w : World) (F : List Nat) (m : Nat) (s : St) (r : Rw × Int) (e : Ending) (w' : World) : Prop :=
  e = .returned (.tuple #[rval r.1, .int .i64 r.2]) ∧ RefS w' F m { s with fz := true } ∧ Chg F w w'

/-- The world behind a question: the document's registry is frozen, the rest is new. -/
theorem rask_end {w wr W : World} {F : List Nat} {m : Nat} {s : St} {rv tv : Value} {r : Rw × Int} {x : Rw} {c : Int} (he : r = (x, c)) (hR : RefR wr F m { s with fz := true } rv tv) (hS : RefR w F m s rv tv) (hc : Chg [m] w wr) (hW : Chg [w.heap.size] wr W) :
    RAskPost w F m s r (.returned (.tuple #[rval x, .int .i64 c])) W := by
  subst he
  have hm := hS.b.lt
  refine ⟨rfl, ⟨rv, tv, hR.chg hW (by simp; omega) ?_ ?_⟩, (hc.mono (fun i hi => by obtain rfl : i = m := (by simpa using hi); exact hS.mF)).trans' hW (fun i hi => .inr (by simp at hi; omega))⟩
  · intro b hb hm
    obtain rfl : b = w.heap.size := by simpa using hm
    have := (hS.rows.lt _ hb).2
    omega
  · intro b hb hm
    obtain rfl : b = w.heap.size := by simpa using hm
    have := (hS.taken.lt _ hb).2
    omega

set_option maxRecDepth 100000 in
set_option maxHeartbeats 1000000 in
theorem rof_any (w : World) (F : List Nat) (m : Nat) (s : St) (kd : Int) (h : RefS w F m s) (hl : s.rows.length ≤ 5864062014640) :
    Calls Tryz.prog 17 #[.pointer (some ⟨m, 0, none⟩), .int .u8 kd] w (RAskPost w F m s (ofL s.rows kd)) := by
  obtain ⟨rv, tv, hR⟩ := h
  have hbl := hR.b.lt
  obtain ⟨A, cap, hA⟩ := own_slice hR.rows
  subst hA
  obtain ⟨⟨c0, c1, c2⟩, ⟨f0, f1, f2⟩⟩ := hR.b.three
  have HR := Lib.hid hR
  have hfr := hR.freeze.fresh ((Chg.refl [] (w.setCell ⟨m, 2, none⟩ (.bool true))).alloc (.cells #[.string ⟨#[]⟩, .int .u8 0, .int .u32 0] 30))
  have HFR := Lib.hid hfr
  clear hR hfr
  go_enter Tryz.func17, Tryz.ntmps17
  go_wp2_with fail
  go_loopg [6] s.rows.length (fun gk i wr => ∃ k : Nat, k + gk = s.rows.length ∧ i = .int .i64 k ∧ Chg [] ((w.setCell ⟨m, 2, none⟩ (.bool true)).alloc (.cells #[.string ⟨#[]⟩, .int .u8 0, .int .u32 0] 30)) wr ∧ ∀ (j : Nat) r', j < k → s.rows[j]? = some r' → r'.kd ≠ kd)
  case atStart => exact ⟨0, by omega, rfl, Chg.refl _ _, fun j r' hj => absurd hj (by omega)⟩
  case round =>
    obtain ⟨k, hk, rfl, hC, hno⟩ := hrel
    have HK := Lib.hid hk; have HC := Lib.hid hC; have HNO := Lib.hid hno
    clear hk hC hno
    have hzr : Blk wr w.heap.size 30 #[.string ⟨#[]⟩, .int .u8 0, .int .u32 0] := (Blk.new' (w.setCell ⟨m, 2, none⟩ (.bool true)) 30 #[.string ⟨#[]⟩, .int .u8 0, .int .u32 0] w.heap.size (by simp)).chg HC.out (by simp)
    obtain ⟨⟨z0, z1, z2⟩, ⟨y0, y1, y2⟩⟩ := hzr.three
    have hRr := HFR.out.fresh HC.out
    obtain ⟨⟨c0, c1, c2⟩, ⟨f0, f1, f2⟩⟩ := hRr.b.three
    have hwr : w.heap.size < wr.heap.size := hzr.lt
    have HRr := Lib.hid hRr
    have HCW : Hid (Chg [m] w wr) := ((((Chg.refl [m] w).setCell (.inl (by simp)) _).alloc _).trans (HC.out.mono (by simp)))
    clear hzr hRr
    by_cases hlt : k < s.rows.length
    · have hi : s.rows[k]? = some (s.rows[k]'hlt) := List.getElem?_eq_getElem hlt
      generalize s.rows[k]'hlt = r at hi
      have HI := Lib.hid hi
      obtain ⟨_, b, rfl, hb, q0, q1, q2⟩ := row_at HRr.out.rows hi
      have hkI : (k : Int) < (s.rows.length : Int) := by omega
      clear hi
      by_cases hkd : r.kd = kd
      · have HKD := Lib.hid hkd
        have hkb : (r.kd == kd) = true := by simp [hkd]
        clear hkd
        go_wp2_with fail
        refine bodyPost_ret (v := .tuple #[rval r, .int .i64 0]) (by simp only [results, Tryz.results17, rval]; go_simp) rfl ?_
        exact rask_end (of_hit _ _ k r HI.out HKD.out HNO.out) HRr.out HR.out HCW.out (set3 _ _ _ _ _)
      · have HKD := Lib.hid hkd
        have hkb : (r.kd == kd) = false := by simp [hkd]
        clear hkd
        go_wp2_with fail
        go_roundg (gk - 1)
        case rel =>
          refine ⟨k + 1, by have := HK.out; omega, by go_num, HC.out, fun j r' hj hr' => ?_⟩
          by_cases hjk : j = k
          · subst hjk
            have := HI.out.symm.trans hr'
            injection this with this
            subst this
            exact HKD.out
          · exact HNO.out j r' (by omega) hr'
        case measure => have := HK.out; omega
    · have hkn : k = s.rows.length := by have := HK.out; omega
      have hkI : ¬ (k : Int) < (s.rows.length : Int) := by omega
      have HKN := Lib.hid hkn
      clear hlt hkn
      go_wp2_with fail
      refine bodyPost_ret (v := .tuple #[rval r00, .int .i64 40]) (by simp only [results, Tryz.results17, rval, r00]; go_simp) rfl ?_
      exact rask_end (of_miss _ _ (fun j r' hr' => HNO.out j r' (by have := (List.getElem?_eq_some_iff.1 hr').1; have := HKN.out; omega) hr')) HRr.out HR.out HCW.out (set3 _ _ _ _ _)
end Go.Proofs.YtacijlfckmllcaaGreatDoor
