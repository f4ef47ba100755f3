import Derived.Test.YthbeednmekajaaaProbe1
namespace Go.Proofs.Ythbeednmekajaaa
open Go.RowKit

def tw : T := ⟨2, 10, 100⟩

set_option maxRecDepth 100000 in
set_option maxHeartbeats 1000000 in
theorem works_any (w : World) : Calls Try.prog 25 #[] w fun e w' => e = .returned (.bool true) ∧ Chg [] w w' := by
  have ok : TOk tw = true := by decide
  have r1 : allowR tw v0 0 = (v0, 1, 0) := by decide
  have r2 : doneR tw v0 1 false 0 = (⟨0, 0, 1, 0⟩, 0) := by decide
  have r3 : doneR tw ⟨0, 0, 1, 0⟩ 1 false 5 = (⟨1, 1, 0, 5⟩, 0) := by decide
  have r4 : allowR tw ⟨1, 1, 0, 5⟩ 14 = (⟨1, 1, 0, 5⟩, 0, 250) := by decide
  have r5 : allowR tw ⟨1, 1, 0, 5⟩ 15 = (⟨2, 2, 0, 0⟩, 3, 0) := by decide
  have r6 : allowR tw ⟨2, 2, 0, 0⟩ 15 = (⟨2, 2, 0, 0⟩, 0, 250) := by decide
  go_enter Try.func25, Try.ntmps25
  go_wp2_with fail
  refine (new_yes tw _ ok).mono ?_
  rintro e w1 ⟨bb, hb, rfl, hB1, hc1⟩
  have HB1 := Lib.hid hB1; have HC1 := Lib.hid hc1
  clear hB1 hc1
  go_wp2_with fail
  refine (Allow_any _ bb tw v0 0 HB1.out).mono ?_
  rw [r1]
  rintro e w2 ⟨rfl, hB, hc⟩
  have HB2 := Lib.hid hB; have HC2 : Hid (Chg [] w w2) := HC1.out.trans' hc (fun i hi => .inr (by simp at hi; omega))
  clear hB hc HB1
  go_wp2_with fail
  refine (Done_any _ bb tw v0 1 false 0 HB2.out).mono ?_
  rw [r2]
  rintro e w3 ⟨rfl, hB, hc⟩
  have HB3 := Lib.hid hB; have HC3 : Hid (Chg [] w w3) := HC2.out.trans' hc (fun i hi => .inr (by simp at hi; omega))
  clear hB hc
  go_wp2_with fail
  refine (Done_any _ bb tw _ 1 false 5 HB3.out).mono ?_
  rw [r3]
  rintro e w4 ⟨rfl, hB, hc⟩
  have HB4 := Lib.hid hB; have HC4 : Hid (Chg [] w w4) := HC3.out.trans' hc (fun i hi => .inr (by simp at hi; omega))
  clear hB hc
  go_wp2_with fail
  refine (Allow_any _ bb tw _ 14 HB4.out).mono ?_
  rw [r4]
  rintro e w5 ⟨rfl, hB, hc⟩
  have HB5 := Lib.hid hB; have HC5 : Hid (Chg [] w w5) := HC4.out.trans' hc (fun i hi => .inr (by simp at hi; omega))
  clear hB hc
  go_wp2_with fail
  refine (Allow_any _ bb tw _ 15 HB5.out).mono ?_
  rw [r5]
  rintro e w6 ⟨rfl, hB, hc⟩
  have HB6 := Lib.hid hB; have HC6 : Hid (Chg [] w w6) := HC5.out.trans' hc (fun i hi => .inr (by simp at hi; omega))
  clear hB hc
  go_wp2_with fail
  refine (Allow_any _ bb tw _ 15 HB6.out).mono ?_
  rw [r6]
  rintro e w7 ⟨rfl, hB, hc⟩
  have HB7 := Lib.hid hB; have HC7 : Hid (Chg [] w w7) := HC6.out.trans' hc (fun i hi => .inr (by simp at hi; omega))
  clear hB hc
  go_wp2_with fail
  refine (view_any _ bb tw _ HB7.out).mono ?_
  rintro e w8 ⟨rfl, hc⟩
  simp only [av]
  go_wp2_with fail
  go_ret
  exact ⟨rfl, HC7.out.trans hc⟩
end Go.Proofs.Ythbeednmekajaaa
