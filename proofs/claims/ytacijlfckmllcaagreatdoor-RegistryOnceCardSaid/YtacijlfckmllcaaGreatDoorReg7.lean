/-
  What a registry is asked: a kind.
-/
import Derived.Test.YtacijlfckmllcaaGreatDoorReg6
namespace Go.Proofs.YtacijlfckmllcaaGreatDoor
open Go.RowKit Go.WideMaps Go.Maps

theorem of_hit (l : List Rw) (kd : Int) (k : Nat) (r : Rw) (hk : l[k]? = some r) (hr : r.kd = kd) (hno : ∀ j r', j < k → l[j]? = some r' → r'.kd ≠ kd) : ofL l kd = (r, 0) := by
  have : l.find? (fun r => decide (r.kd = kd)) = some r := by
    induction l generalizing k with
    | nil => simp at hk
    | cons a l ih =>
      rw [List.find?_cons]
      cases k with
      | zero =>
        simp at hk
        subst hk
        simp [hr]
      | succ k =>
        have ha : a.kd ≠ kd := hno 0 a (by omega) rfl
        simp only [decide_eq_false ha]
        exact ih k (by simpa using hk) (fun j r' hj h => hno (j + 1) r' (by omega) (by simpa using h))
  unfold ofL
  rw [this]

theorem of_miss (l : List Rw) (kd : Int) (hno : ∀ (j : Nat) r', l[j]? = some r' → r'.kd ≠ kd) : ofL l kd = (r00, 40) := by
  have : l.find? (fun r => decide (r.kd = kd)) = none := by
    rw [List.find?_eq_none]
    intro r hr
    obtain ⟨j, hj⟩ := List.getElem?_of_mem hr
    simpa using hno j r hj
  unfold ofL
  rw [this]

set_option maxRecDepth 100000 in
set_option maxHeartbeats 1000000 in
theorem of_any (w : World) (F : List Nat) (g : Nat) (s : St) (kd : Int) (h : RegS w F g s) (hl : s.rows.length ≤ 5864062014640) :
    Calls Tryz.prog 18 #[.pointer (some ⟨g, 0, none⟩), .int .u8 kd] w (AskPost w F g s (ofL s.rows kd)) := by
  obtain ⟨rv, tv, mb, D, hR, hS⟩ := h
  have HR := Lib.hid hR; have HS := Lib.hid hS
  have hbl := hR.lt
  clear hR hS
  go_enter Tryz.func18, Tryz.ntmps18
  go_wp2_with fail
  refine (freezeS_any _ F g s rv tv mb D (HR.out.alloc _) (HS.out.fresh ((Chg.refl [] w).alloc _))).mono ?_
  rintro e w1 ⟨rfl, hb1, hs1, hc1⟩
  have c5 := hb1.c5
  have hz : Blk w1 w.heap.size 30 #[.string ⟨#[]⟩, .int .u8 0, .int .u32 0] := (Blk.new w 30 #[.string ⟨#[]⟩, .int .u8 0, .int .u32 0]).chg hc1 (by simp; omega)
  obtain ⟨A, cap, hA⟩ := own_slice hs1.rows
  subst hA
  have hw1 : w.heap.size < w1.heap.size := hz.lt
  have HB1 := Lib.hid hb1; have HS1 := Lib.hid hs1; have HC1 := Lib.hid hc1; have HZ := Lib.hid hz
  clear hb1 hs1 hc1 hz
  go_wp2_with fail
  go_loopg [18, 7] s.rows.length (fun gk i v wr => ∃ k : Nat, k + gk = s.rows.length ∧ i = .int .i64 k ∧ Chg [] w1 wr ∧ ∀ j r', j < k → s.rows[j]? = some r' → r'.kd ≠ kd)
  case atStart => exact ⟨0, by omega, rfl, Chg.refl _ _, fun j r' hj => absurd hj (by omega)⟩
  case round =>
    obtain ⟨k, hk, rfl, hC, hno⟩ := hrel
    have HK := Lib.hid hk; have HC := Lib.hid hC; have HNO := Lib.hid hno
    clear hk hC hno
    have hzr := HZ.out.chg HC.out (by simp)
    obtain ⟨⟨z0, z1, z2⟩, ⟨f0, f1, f2⟩⟩ := hzr.three
    have hwr : w1.heap.size ≤ wr.heap.size := HC.out.size
    clear hzr
    by_cases hlt : k < s.rows.length
    · have hi : s.rows[k]? = some (s.rows[k]'hlt) := List.getElem?_eq_getElem hlt
      generalize s.rows[k]'hlt = r at hi
      have HI := Lib.hid hi
      obtain ⟨_, b, rfl, hb, q0, q1, q2⟩ := row_at (HS1.out.fresh HC.out).rows hi
      have hkI : (k : Int) < (s.rows.length : Int) := by omega
      have hzz : w.heap.size < wr.heap.size := by omega
      have hbw : ¬ b = w.heap.size := by
        have := (HS.out.rows.lt b rfl).2
        omega
      clear hi
      by_cases hkd : r.kd = kd
      · have HKD := Lib.hid hkd
        have hkb : (r.kd == kd) = true := by simp [hkd]
        clear hkd
        go_wp2_with fail
        refine bodyPost_ret (v := .tuple #[rval r, .int .i64 0]) (by simp only [results, Tryz.results18, rval]; go_simp) rfl ?_
        have hW : Chg [w.heap.size] w1 (((wr.setCell ⟨w.heap.size, 0, none⟩ (.string r.nm)).setCell ⟨w.heap.size, 1, none⟩ (.int .u8 r.kd)).setCell ⟨w.heap.size, 2, none⟩ (.int .u32 r.fc)) := (HC.out.mono (by simp)).trans (set3 _ _ _ _ _)
        exact askPost_mk (of_hit _ _ k r HI.out HKD.out HNO.out) (ask_end HB1.out HS1.out HS.out HC1.out (hW.alloc _) hbl)
      · have HKD := Lib.hid hkd
        have hkb : (r.kd == kd) = false := by simp [hkd]
        clear hkd
        go_wp2_with fail
        go_roundg (gk - 1)
        case rel =>
          refine ⟨k + 1, by have := HK.out; omega, by go_num, HC.out.alloc _, fun j r' hj hr' => ?_⟩
          by_cases hjk : j = k
          · subst hjk
            have := HI.out.symm.trans hr'
            injection this with this
            subst this
            exact HKD.out
          · exact HNO.out j r' (by omega) hr'
        case measure => have := HK.out; omega
    · have hkn : k = s.rows.length := by have := HK.out; omega
      have hkI : ¬ (k : Int) < (s.rows.length : Int) := by omega
      clear hlt
      go_wp2_with fail
      refine bodyPost_ret (v := .tuple #[rval r00, .int .i64 40]) (by simp only [results, Tryz.results18, rval, r00]; go_simp) rfl ?_
      have hW : Chg [w.heap.size] w1 (((wr.setCell ⟨w.heap.size, 0, none⟩ (.string ⟨#[]⟩)).setCell ⟨w.heap.size, 1, none⟩ (.int .u8 0)).setCell ⟨w.heap.size, 2, none⟩ (.int .u32 0)) := (HC.out.mono (by simp)).trans (set3 _ _ _ _ _)
      exact askPost_mk (of_miss _ _ (fun j r' hr' => HNO.out j r' (by have := (List.getElem?_eq_some_iff.1 hr').1; omega) hr')) (ask_end HB1.out HS1.out HS.out HC1.out hW hbl)
end Go.Proofs.YtacijlfckmllcaaGreatDoor
