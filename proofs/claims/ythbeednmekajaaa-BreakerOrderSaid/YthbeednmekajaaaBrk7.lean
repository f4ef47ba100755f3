import Derived.Test.YthbeednmekajaaaBrk6
namespace Go.Proofs.Ythbeednmekajaaa
open Go.RowKit

/-- What a call makes of a view: the view, the pass noted, the code. -/
def callR (t : T) (v : V) (r : R) : V × Int × Int :=
  if r.done then ((doneV t v r.pass r.ok r.now).1, r.rp, (doneV t v r.pass r.ok r.now).2) else allowV t v r.now

def stepR (t : T) (v : V) (r : R) : V × R :=
  if r.read then
    if r.old = v then (r.next, { r with read := false, rt := r.rt + 1, over := true }) else (v, { r with read := false, rt := r.rt + 1, over := false })
  else (v, { r with old := v, next := (callR t v r).1, rp := (callR t v r).2.1, rc := (callR t v r).2.2, read := decide (¬ (callR t v r).1 = v), over := !decide (¬ (callR t v r).1 = v) })

theorem step_any (w : World) (bb g o : Nat) (t : T) (v : V) (r : R) (hB : Brk w bb t v) (hR : RunAt w g o r) (hne : bb ≠ g) (h0 : 0 ≤ r.rt) (h1 : r.rt ≤ 4611686018427387904) :
    Calls Try.prog 59 #[.pointer (some ⟨bb, 0, none⟩), .pointer (some ⟨g, o, none⟩)] w (StepPost w bb g o t (stepR t v r).1 (stepR t v r).2) := by
  obtain ⟨done, of_, ok, now, pass, rp, rc, rt, read, ov, nv, over⟩ := r
  cases read
  · cases done
    · exact step_rallow w bb g o t v _ _ _ of_ ok now pass rp rc rt ov nv over hB hR hne rfl _ rfl
    · exact step_rdone w bb g o t v _ _ of_ ok now pass rp rc rt ov nv over hB hR hne rfl _ rfl
  · by_cases hv : ov = v
    · have := step_hit w bb g o t v _ hB hR hne rfl hv h0 h1
      simp only [stepR, hv, if_true]
      subst hv
      exact this
    · have := step_miss w bb g o t v _ hB hR hne rfl hv h0 h1
      simp only [stepR, hv, if_true, if_false]
      exact this

def v0 : V := ⟨0, 0, 0, 0⟩
theorem v0_ok : VOk v0 := ⟨by decide, by decide, by decide, by decide, by decide, by decide, by decide, by decide⟩
theorem encV_v0 : encV v0 = 0 := by decide

/-- A call about to begin. -/
def r0 (done : Bool) (of_ : Int) (ok : Bool) (now pass : Int) : R := ⟨done, of_, ok, now, pass, 0, 0, 0, false, v0, v0, false⟩

def changed (t : T) (v : V) (r : R) : Bool := decide (¬ (callR t v r).1 = v)

/-- How a call that is alone stands, by the number of its steps. -/
def alone (t : T) (v : V) (r : R) : Nat → V × R
  | 0 => (v, r)
  | n + 1 => stepR t (alone t v r n).1 (alone t v r n).2

def doneBy (t : T) (v : V) (r : R) : Nat := if changed t v r then 2 else 1

theorem alone_over (t : T) (v : V) (done : Bool) (of_ : Int) (ok : Bool) (now pass : Int) : (alone t v (r0 done of_ ok now pass) (doneBy t v (r0 done of_ ok now pass))).2.over = true ∧
    (alone t v (r0 done of_ ok now pass) (doneBy t v (r0 done of_ ok now pass))).1 = (callR t v (r0 done of_ ok now pass)).1 ∧
    (alone t v (r0 done of_ ok now pass) (doneBy t v (r0 done of_ ok now pass))).2.rp = (callR t v (r0 done of_ ok now pass)).2.1 ∧
    (alone t v (r0 done of_ ok now pass) (doneBy t v (r0 done of_ ok now pass))).2.rc = (callR t v (r0 done of_ ok now pass)).2.2 ∧
    (∀ n, n < doneBy t v (r0 done of_ ok now pass) → (alone t v (r0 done of_ ok now pass) n).2.over = false ∧ 0 ≤ (alone t v (r0 done of_ ok now pass) n).2.rt ∧ (alone t v (r0 done of_ ok now pass) n).2.rt ≤ 1) ∧
    (∀ n, n ≤ doneBy t v (r0 done of_ ok now pass) → (alone t v (r0 done of_ ok now pass) n).2.now = now) := by
  generalize hr : r0 done of_ ok now pass = r
  have hread : r.read = false := by rw [← hr]; rfl
  have hover : r.over = false := by rw [← hr]; rfl
  have hrt : r.rt = 0 := by rw [← hr]; rfl
  have hnow : r.now = now := by rw [← hr]; rfl
  by_cases hc : (callR t v r).1 = v
  · have hd : doneBy t v r = 1 := by simp [doneBy, changed, hc]
    rw [hd]
    refine ⟨by simp [alone, stepR, hread, hc], by simp [alone, stepR, hread, hc], by simp [alone, stepR, hread], by simp [alone, stepR, hread], fun n hn => ?_, fun n hn => ?_⟩
    · obtain rfl : n = 0 := by omega
      simp [alone, hover, hrt]
    · have : n = 0 ∨ n = 1 := by omega
      rcases this with rfl | rfl <;> simp [alone, stepR, hread, hnow]
  · have hd : doneBy t v r = 2 := by simp [doneBy, changed, hc]
    rw [hd]
    refine ⟨by simp [alone, stepR, hread, hc], by simp [alone, stepR, hread, hc], by simp [alone, stepR, hread, hc], by simp [alone, stepR, hread, hc], fun n hn => ?_, fun n hn => ?_⟩
    · have : n = 0 ∨ n = 1 := by omega
      rcases this with rfl | rfl <;> simp [alone, stepR, hread, hover, hrt, hc]
    · have : n = 0 ∨ n = 1 ∨ n = 2 := by omega
      rcases this with rfl | rfl | rfl <;> simp [alone, stepR, hread, hnow, hc]

set_option maxRecDepth 100000 in
set_option maxHeartbeats 1000000 in
theorem finish_any (w : World) (bb g : Nat) (t : T) (v : V) (done : Bool) (of_ : Int) (ok : Bool) (now pass : Int) (hB : Brk w bb t v) (hR : RunAt w g 0 (r0 done of_ ok now pass)) (hne : bb ≠ g) :
    Calls Try.prog 46 #[.pointer (some ⟨bb, 0, none⟩), .pointer (some ⟨g, 0, none⟩)] w fun e w' =>
      ∃ rt, e = .returned (.agg #[.int .i64 (callR t v (r0 done of_ ok now pass)).2.1, .int .i64 (callR t v (r0 done of_ ok now pass)).2.2, .int .i64 rt]) ∧ Brk w' bb t (callR t v (r0 done of_ ok now pass)).1 ∧ Chg [bb, g] w w' := by
  obtain ⟨a1, a2, a3, a4, a5, a6⟩ := alone_over t v done of_ ok now pass
  generalize hr : r0 done of_ ok now pass = r at *
  have hgl := hR.lt
  have hbl := hB.b.lt
  have HB := Lib.hid hB; have HR := Lib.hid hR
  have A1 := Lib.hid a1; have A2 := Lib.hid a2; have A3 := Lib.hid a3; have A4 := Lib.hid a4; have A5 := Lib.hid a5; have A6 := Lib.hid a6
  clear hB hR a1 a2 a3 a4 a5 a6 hr
  go_enter Try.func46, Try.ntmps46
  go_wp2_with fail
  go_loopg [] (doneBy t v r) (fun k wr => ∃ n, n + k = doneBy t v r ∧ Brk wr bb t (alone t v r n).1 ∧ RunAt wr g 0 (alone t v r n).2 ∧ Blk wr w.heap.size 80 #[.int .i64 0, .int .i64 0, .int .i64 0] ∧ Chg [bb, g] w wr)
  case atStart =>
    exact ⟨0, by omega, HB.out.alloc _, HR.out.alloc _, Blk.new w _ _, (Chg.refl _ _).alloc _⟩
  case round =>
    obtain ⟨n, hn, hB, hR, hz, hc⟩ := hrel
    obtain ⟨⟨c0, c1, c2, c3, c4⟩, ⟨c5, c6, c7⟩, c8, c9, c10, c11⟩ := hR.cells
    have HB := Lib.hid hB; have HR := Lib.hid hR; have HZ := Lib.hid hz; have HC := Lib.hid hc
    have A7 := Lib.hid hn
    by_cases hlt : n < doneBy t v r
    · obtain ⟨ho, ht0, ht1⟩ := A5.out n hlt
      rw [ho] at c11
      have T0 := Lib.hid ht0; have T1 := Lib.hid ht1; have HL := Lib.hid hlt
      clear hB hR hz hc hn hlt ho ht0 ht1
      go_wp2_with fail
      refine (step_any _ bb g 0 t _ _ HB.out HR.out hne T0.out (by have := T1.out; omega)).mono ?_
      rintro e w1 ⟨rfl, hB1, hR1, hc1, -⟩
      have hb' : bb < wr.heap.size := Nat.lt_of_lt_of_le hbl HC.out.size
      have hg' : g < wr.heap.size := Nat.lt_of_lt_of_le hgl HC.out.size
      have HB1 := Lib.hid hB1; have HR1 := Lib.hid hR1; have HC1 := Lib.hid hc1
      clear hB1 hR1 hc1
      go_wp2_with fail
      go_roundg (gk - 1)
      case measure => have := A7.out; have := HL.out; omega
      case rel => exact ⟨n + 1, by have := A7.out; have := HL.out; omega, HB1.out, HR1.out, HZ.out.chg HC1.out (by simp; omega), HC.out.trans' HC1.out (by simp)⟩
    · obtain rfl : n = doneBy t v r := by omega
      rw [A1.out] at c11
      rw [A3.out] at c5
      rw [A4.out] at c6
      have z0 := hz.cell 0; have z1 := hz.cell 1; have z2 := hz.cell 2
      simp at z0 z1 z2
      have f0 := hz.frozen 0; have f1 := hz.frozen 1; have f2 := hz.frozen 2
      clear hB hR hz hc hn hlt
      go_wp2_with fail
      refine bodyPost_ret (v := .agg #[.int .i64 (callR t v r).2.1, .int .i64 (callR t v r).2.2, .int .i64 (alone t v r (doneBy t v r)).2.rt]) (by simp only [results, Try.results46]; go_simp) rfl ?_
      refine ⟨_, rfl, ?_, ?_⟩
      · rw [← A2.out]
        repeat (with_reducible first | exact HB.out | refine Brk.drew ?_ | refine Brk.far ?_ (Nat.ne_of_lt hbl) _)
      · repeat (with_reducible first | exact HC.out | refine Chg.drew ?_ | refine Chg.setCell ?_ (.inr (Nat.le_refl _)) _)
end Go.Proofs.Ythbeednmekajaaa
