/-
  The faces of a kind, as the document tells them. (Printed by wip/tools/gen_ful6.py.)
-/
import Derived.Test.YtacijlfckmllcaaGreatDoorFul4
import Derived.Deep.LoopGhost
namespace Go.Proofs.YtacijlfckmllcaaGreatDoor
open Go.RowKit

def kindsOf (f : Nat) : List Nat := ([[], [], [1, 11, 19, 25], [11, 25], [3, 19], [4], [10, 17], [18], [12], [14, 15, 25], [16, 26], [21], [22], [1, 2, 3], [6], [10, 17], [25], [], [], []] : List (List Nat)).getD f []
def holdsB (k f : Nat) : Bool := f == 1 || f == 19 || (kindsOf f).contains k
def upto (k : Nat) : Nat → Int
  | 0 => 0
  | j + 1 => upto k j + if holdsB k (j + 1) then 2 ^ (j + 1) else 0
theorem upto_lt (k : Nat) : ∀ j, 0 ≤ upto k j ∧ upto k j < 2 ^ (j + 1)
  | 0 => by simp [upto]
  | j + 1 => by
    have h := upto_lt k j
    have e : (2 : Int) ^ (j + 1 + 1) = 2 ^ (j + 1) + 2 ^ (j + 1) := by rw [Int.pow_succ]; omega
    have : (0 : Int) < 2 ^ (j + 1) := Int.pow_pos (by decide)
    simp only [upto]
    split <;> omega
def uptoOk : Bool := (List.range 27).all fun k => k == 0 || decide (upto k 19 = faceM.getD k 0)
theorem uptoOk_yes : uptoOk = true := by kernel_rfl
theorem upto_all (k : Nat) (h1 : 1 ≤ k) (h2 : k ≤ 26) : upto k 19 = faceM.getD k 0 := by
  have := List.all_eq_true.1 uptoOk_yes k (List.mem_range.2 (by omega))
  simp only [Bool.or_eq_true, decide_eq_true_eq, beq_iff_eq] at this
  rcases this with h | h
  · omega
  · exact h
theorem ne_beq {a b : Int} (h : a ≠ b) : (a == b) = false := by simp [h]

theorem holds1 (k : Nat) (h1 : 1 ≤ k) (h2 : k ≤ 26) (w : World) : Calls Tryz.prog 37 #[.int .u8 (k : Int), .int .u8 1] w fun e w' => e = .returned (.bool (holdsB k 1)) ∧ w' = w := by
  have e0 : ((k : Int) == 0) = false := ne_beq (by omega)
  have hh : holdsB k 1 = true := by simp [holdsB, kindsOf]
  have HH := Lib.hid hh
  clear hh h1 h2
  go_enter Tryz.func37, Tryz.ntmps37
  go_wp2_with fail
  go_ret
  exact ⟨by rw [HH.out]; rfl, rfl⟩
theorem holds2 (k : Nat) (h1 : 1 ≤ k) (h2 : k ≤ 26) (w : World) : Calls Tryz.prog 37 #[.int .u8 (k : Int), .int .u8 2] w fun e w' => e = .returned (.bool (holdsB k 2)) ∧ w' = w := by
  by_cases n1 : k = 1
  · subst n1
    go_enter Tryz.func37, Tryz.ntmps37
    go_wp2_with fail
    go_ret
    exact ⟨rfl, rfl⟩
  by_cases n11 : k = 11
  · subst n11
    go_enter Tryz.func37, Tryz.ntmps37
    go_wp2_with fail
    go_ret
    exact ⟨rfl, rfl⟩
  by_cases n19 : k = 19
  · subst n19
    go_enter Tryz.func37, Tryz.ntmps37
    go_wp2_with fail
    go_ret
    exact ⟨rfl, rfl⟩
  by_cases n25 : k = 25
  · subst n25
    go_enter Tryz.func37, Tryz.ntmps37
    go_wp2_with fail
    go_ret
    exact ⟨rfl, rfl⟩
  have e0 : ((k : Int) == 0) = false := ne_beq (by omega)
  have e1 : ((k : Int) == 1) = false := ne_beq (by omega)
  have e11 : ((k : Int) == 11) = false := ne_beq (by omega)
  have e19 : ((k : Int) == 19) = false := ne_beq (by omega)
  have e25 : ((k : Int) == 25) = false := ne_beq (by omega)
  have hh : holdsB k 2 = false := by simp [holdsB, kindsOf, n1, n11, n19, n25]
  have HH := Lib.hid hh
  clear hh h1 h2 n1 n11 n19 n25
  go_enter Tryz.func37, Tryz.ntmps37
  go_wp2_with fail
  go_ret
  exact ⟨by rw [HH.out]; rfl, rfl⟩
theorem holds3 (k : Nat) (h1 : 1 ≤ k) (h2 : k ≤ 26) (w : World) : Calls Tryz.prog 37 #[.int .u8 (k : Int), .int .u8 3] w fun e w' => e = .returned (.bool (holdsB k 3)) ∧ w' = w := by
  by_cases n11 : k = 11
  · subst n11
    go_enter Tryz.func37, Tryz.ntmps37
    go_wp2_with fail
    go_ret
    exact ⟨rfl, rfl⟩
  by_cases n25 : k = 25
  · subst n25
    go_enter Tryz.func37, Tryz.ntmps37
    go_wp2_with fail
    go_ret
    exact ⟨rfl, rfl⟩
  have e0 : ((k : Int) == 0) = false := ne_beq (by omega)
  have e11 : ((k : Int) == 11) = false := ne_beq (by omega)
  have e25 : ((k : Int) == 25) = false := ne_beq (by omega)
  have hh : holdsB k 3 = false := by simp [holdsB, kindsOf, n11, n25]
  have HH := Lib.hid hh
  clear hh h1 h2 n11 n25
  go_enter Tryz.func37, Tryz.ntmps37
  go_wp2_with fail
  go_ret
  exact ⟨by rw [HH.out]; rfl, rfl⟩
theorem holds4 (k : Nat) (h1 : 1 ≤ k) (h2 : k ≤ 26) (w : World) : Calls Tryz.prog 37 #[.int .u8 (k : Int), .int .u8 4] w fun e w' => e = .returned (.bool (holdsB k 4)) ∧ w' = w := by
  by_cases n3 : k = 3
  · subst n3
    go_enter Tryz.func37, Tryz.ntmps37
    go_wp2_with fail
    go_ret
    exact ⟨rfl, rfl⟩
  by_cases n19 : k = 19
  · subst n19
    go_enter Tryz.func37, Tryz.ntmps37
    go_wp2_with fail
    go_ret
    exact ⟨rfl, rfl⟩
  have e0 : ((k : Int) == 0) = false := ne_beq (by omega)
  have e3 : ((k : Int) == 3) = false := ne_beq (by omega)
  have e19 : ((k : Int) == 19) = false := ne_beq (by omega)
  have hh : holdsB k 4 = false := by simp [holdsB, kindsOf, n3, n19]
  have HH := Lib.hid hh
  clear hh h1 h2 n3 n19
  go_enter Tryz.func37, Tryz.ntmps37
  go_wp2_with fail
  go_ret
  exact ⟨by rw [HH.out]; rfl, rfl⟩
theorem holds5 (k : Nat) (h1 : 1 ≤ k) (h2 : k ≤ 26) (w : World) : Calls Tryz.prog 37 #[.int .u8 (k : Int), .int .u8 5] w fun e w' => e = .returned (.bool (holdsB k 5)) ∧ w' = w := by
  by_cases n4 : k = 4
  · subst n4
    go_enter Tryz.func37, Tryz.ntmps37
    go_wp2_with fail
    go_ret
    exact ⟨rfl, rfl⟩
  have e0 : ((k : Int) == 0) = false := ne_beq (by omega)
  have e4 : ((k : Int) == 4) = false := ne_beq (by omega)
  have hh : holdsB k 5 = false := by simp [holdsB, kindsOf, n4]
  have HH := Lib.hid hh
  clear hh h1 h2 n4
  go_enter Tryz.func37, Tryz.ntmps37
  go_wp2_with fail
  go_ret
  exact ⟨by rw [HH.out]; rfl, rfl⟩
theorem holds6 (k : Nat) (h1 : 1 ≤ k) (h2 : k ≤ 26) (w : World) : Calls Tryz.prog 37 #[.int .u8 (k : Int), .int .u8 6] w fun e w' => e = .returned (.bool (holdsB k 6)) ∧ w' = w := by
  by_cases n10 : k = 10
  · subst n10
    go_enter Tryz.func37, Tryz.ntmps37
    go_wp2_with fail
    go_ret
    exact ⟨rfl, rfl⟩
  by_cases n17 : k = 17
  · subst n17
    go_enter Tryz.func37, Tryz.ntmps37
    go_wp2_with fail
    go_ret
    exact ⟨rfl, rfl⟩
  have e0 : ((k : Int) == 0) = false := ne_beq (by omega)
  have e10 : ((k : Int) == 10) = false := ne_beq (by omega)
  have e17 : ((k : Int) == 17) = false := ne_beq (by omega)
  have hh : holdsB k 6 = false := by simp [holdsB, kindsOf, n10, n17]
  have HH := Lib.hid hh
  clear hh h1 h2 n10 n17
  go_enter Tryz.func37, Tryz.ntmps37
  go_wp2_with fail
  go_ret
  exact ⟨by rw [HH.out]; rfl, rfl⟩
theorem holds7 (k : Nat) (h1 : 1 ≤ k) (h2 : k ≤ 26) (w : World) : Calls Tryz.prog 37 #[.int .u8 (k : Int), .int .u8 7] w fun e w' => e = .returned (.bool (holdsB k 7)) ∧ w' = w := by
  by_cases n18 : k = 18
  · subst n18
    go_enter Tryz.func37, Tryz.ntmps37
    go_wp2_with fail
    go_ret
    exact ⟨rfl, rfl⟩
  have e0 : ((k : Int) == 0) = false := ne_beq (by omega)
  have e18 : ((k : Int) == 18) = false := ne_beq (by omega)
  have hh : holdsB k 7 = false := by simp [holdsB, kindsOf, n18]
  have HH := Lib.hid hh
  clear hh h1 h2 n18
  go_enter Tryz.func37, Tryz.ntmps37
  go_wp2_with fail
  go_ret
  exact ⟨by rw [HH.out]; rfl, rfl⟩
theorem holds8 (k : Nat) (h1 : 1 ≤ k) (h2 : k ≤ 26) (w : World) : Calls Tryz.prog 37 #[.int .u8 (k : Int), .int .u8 8] w fun e w' => e = .returned (.bool (holdsB k 8)) ∧ w' = w := by
  by_cases n12 : k = 12
  · subst n12
    go_enter Tryz.func37, Tryz.ntmps37
    go_wp2_with fail
    go_ret
    exact ⟨rfl, rfl⟩
  have e0 : ((k : Int) == 0) = false := ne_beq (by omega)
  have e12 : ((k : Int) == 12) = false := ne_beq (by omega)
  have hh : holdsB k 8 = false := by simp [holdsB, kindsOf, n12]
  have HH := Lib.hid hh
  clear hh h1 h2 n12
  go_enter Tryz.func37, Tryz.ntmps37
  go_wp2_with fail
  go_ret
  exact ⟨by rw [HH.out]; rfl, rfl⟩
theorem holds9 (k : Nat) (h1 : 1 ≤ k) (h2 : k ≤ 26) (w : World) : Calls Tryz.prog 37 #[.int .u8 (k : Int), .int .u8 9] w fun e w' => e = .returned (.bool (holdsB k 9)) ∧ w' = w := by
  by_cases n14 : k = 14
  · subst n14
    go_enter Tryz.func37, Tryz.ntmps37
    go_wp2_with fail
    go_ret
    exact ⟨rfl, rfl⟩
  by_cases n15 : k = 15
  · subst n15
    go_enter Tryz.func37, Tryz.ntmps37
    go_wp2_with fail
    go_ret
    exact ⟨rfl, rfl⟩
  by_cases n25 : k = 25
  · subst n25
    go_enter Tryz.func37, Tryz.ntmps37
    go_wp2_with fail
    go_ret
    exact ⟨rfl, rfl⟩
  have e0 : ((k : Int) == 0) = false := ne_beq (by omega)
  have e14 : ((k : Int) == 14) = false := ne_beq (by omega)
  have e15 : ((k : Int) == 15) = false := ne_beq (by omega)
  have e25 : ((k : Int) == 25) = false := ne_beq (by omega)
  have hh : holdsB k 9 = false := by simp [holdsB, kindsOf, n14, n15, n25]
  have HH := Lib.hid hh
  clear hh h1 h2 n14 n15 n25
  go_enter Tryz.func37, Tryz.ntmps37
  go_wp2_with fail
  go_ret
  exact ⟨by rw [HH.out]; rfl, rfl⟩
theorem holds10 (k : Nat) (h1 : 1 ≤ k) (h2 : k ≤ 26) (w : World) : Calls Tryz.prog 37 #[.int .u8 (k : Int), .int .u8 10] w fun e w' => e = .returned (.bool (holdsB k 10)) ∧ w' = w := by
  by_cases n16 : k = 16
  · subst n16
    go_enter Tryz.func37, Tryz.ntmps37
    go_wp2_with fail
    go_ret
    exact ⟨rfl, rfl⟩
  by_cases n26 : k = 26
  · subst n26
    go_enter Tryz.func37, Tryz.ntmps37
    go_wp2_with fail
    go_ret
    exact ⟨rfl, rfl⟩
  have e0 : ((k : Int) == 0) = false := ne_beq (by omega)
  have e16 : ((k : Int) == 16) = false := ne_beq (by omega)
  have e26 : ((k : Int) == 26) = false := ne_beq (by omega)
  have hh : holdsB k 10 = false := by simp [holdsB, kindsOf, n16, n26]
  have HH := Lib.hid hh
  clear hh h1 h2 n16 n26
  go_enter Tryz.func37, Tryz.ntmps37
  go_wp2_with fail
  go_ret
  exact ⟨by rw [HH.out]; rfl, rfl⟩
theorem holds11 (k : Nat) (h1 : 1 ≤ k) (h2 : k ≤ 26) (w : World) : Calls Tryz.prog 37 #[.int .u8 (k : Int), .int .u8 11] w fun e w' => e = .returned (.bool (holdsB k 11)) ∧ w' = w := by
  by_cases n21 : k = 21
  · subst n21
    go_enter Tryz.func37, Tryz.ntmps37
    go_wp2_with fail
    go_ret
    exact ⟨rfl, rfl⟩
  have e0 : ((k : Int) == 0) = false := ne_beq (by omega)
  have e21 : ((k : Int) == 21) = false := ne_beq (by omega)
  have hh : holdsB k 11 = false := by simp [holdsB, kindsOf, n21]
  have HH := Lib.hid hh
  clear hh h1 h2 n21
  go_enter Tryz.func37, Tryz.ntmps37
  go_wp2_with fail
  go_ret
  exact ⟨by rw [HH.out]; rfl, rfl⟩
theorem holds12 (k : Nat) (h1 : 1 ≤ k) (h2 : k ≤ 26) (w : World) : Calls Tryz.prog 37 #[.int .u8 (k : Int), .int .u8 12] w fun e w' => e = .returned (.bool (holdsB k 12)) ∧ w' = w := by
  by_cases n22 : k = 22
  · subst n22
    go_enter Tryz.func37, Tryz.ntmps37
    go_wp2_with fail
    go_ret
    exact ⟨rfl, rfl⟩
  have e0 : ((k : Int) == 0) = false := ne_beq (by omega)
  have e22 : ((k : Int) == 22) = false := ne_beq (by omega)
  have hh : holdsB k 12 = false := by simp [holdsB, kindsOf, n22]
  have HH := Lib.hid hh
  clear hh h1 h2 n22
  go_enter Tryz.func37, Tryz.ntmps37
  go_wp2_with fail
  go_ret
  exact ⟨by rw [HH.out]; rfl, rfl⟩
theorem holds13 (k : Nat) (h1 : 1 ≤ k) (h2 : k ≤ 26) (w : World) : Calls Tryz.prog 37 #[.int .u8 (k : Int), .int .u8 13] w fun e w' => e = .returned (.bool (holdsB k 13)) ∧ w' = w := by
  by_cases n1 : k = 1
  · subst n1
    go_enter Tryz.func37, Tryz.ntmps37
    go_wp2_with fail
    go_ret
    exact ⟨rfl, rfl⟩
  by_cases n2 : k = 2
  · subst n2
    go_enter Tryz.func37, Tryz.ntmps37
    go_wp2_with fail
    go_ret
    exact ⟨rfl, rfl⟩
  by_cases n3 : k = 3
  · subst n3
    go_enter Tryz.func37, Tryz.ntmps37
    go_wp2_with fail
    go_ret
    exact ⟨rfl, rfl⟩
  have e0 : ((k : Int) == 0) = false := ne_beq (by omega)
  have e1 : ((k : Int) == 1) = false := ne_beq (by omega)
  have e2 : ((k : Int) == 2) = false := ne_beq (by omega)
  have e3 : ((k : Int) == 3) = false := ne_beq (by omega)
  have g1 : (1 : Int) ≤ (k : Int) := by omega
  have g2 : ¬ (k : Int) ≤ 3 := by omega
  have hh : holdsB k 13 = false := by simp [holdsB, kindsOf, n1, n2, n3]
  have HH := Lib.hid hh
  clear hh h1 h2 n1 n2 n3
  go_enter Tryz.func37, Tryz.ntmps37
  go_wp2_with fail
  go_ret
  exact ⟨by rw [HH.out]; rfl, rfl⟩
theorem holds14 (k : Nat) (h1 : 1 ≤ k) (h2 : k ≤ 26) (w : World) : Calls Tryz.prog 37 #[.int .u8 (k : Int), .int .u8 14] w fun e w' => e = .returned (.bool (holdsB k 14)) ∧ w' = w := by
  by_cases n6 : k = 6
  · subst n6
    go_enter Tryz.func37, Tryz.ntmps37
    go_wp2_with fail
    go_ret
    exact ⟨rfl, rfl⟩
  have e0 : ((k : Int) == 0) = false := ne_beq (by omega)
  have e6 : ((k : Int) == 6) = false := ne_beq (by omega)
  have hh : holdsB k 14 = false := by simp [holdsB, kindsOf, n6]
  have HH := Lib.hid hh
  clear hh h1 h2 n6
  go_enter Tryz.func37, Tryz.ntmps37
  go_wp2_with fail
  go_ret
  exact ⟨by rw [HH.out]; rfl, rfl⟩
theorem holds15 (k : Nat) (h1 : 1 ≤ k) (h2 : k ≤ 26) (w : World) : Calls Tryz.prog 37 #[.int .u8 (k : Int), .int .u8 15] w fun e w' => e = .returned (.bool (holdsB k 15)) ∧ w' = w := by
  by_cases n10 : k = 10
  · subst n10
    go_enter Tryz.func37, Tryz.ntmps37
    go_wp2_with fail
    go_ret
    exact ⟨rfl, rfl⟩
  by_cases n17 : k = 17
  · subst n17
    go_enter Tryz.func37, Tryz.ntmps37
    go_wp2_with fail
    go_ret
    exact ⟨rfl, rfl⟩
  have e0 : ((k : Int) == 0) = false := ne_beq (by omega)
  have e10 : ((k : Int) == 10) = false := ne_beq (by omega)
  have e17 : ((k : Int) == 17) = false := ne_beq (by omega)
  have hh : holdsB k 15 = false := by simp [holdsB, kindsOf, n10, n17]
  have HH := Lib.hid hh
  clear hh h1 h2 n10 n17
  go_enter Tryz.func37, Tryz.ntmps37
  go_wp2_with fail
  go_ret
  exact ⟨by rw [HH.out]; rfl, rfl⟩
theorem holds16 (k : Nat) (h1 : 1 ≤ k) (h2 : k ≤ 26) (w : World) : Calls Tryz.prog 37 #[.int .u8 (k : Int), .int .u8 16] w fun e w' => e = .returned (.bool (holdsB k 16)) ∧ w' = w := by
  by_cases n25 : k = 25
  · subst n25
    go_enter Tryz.func37, Tryz.ntmps37
    go_wp2_with fail
    go_ret
    exact ⟨rfl, rfl⟩
  have e0 : ((k : Int) == 0) = false := ne_beq (by omega)
  have e25 : ((k : Int) == 25) = false := ne_beq (by omega)
  have hh : holdsB k 16 = false := by simp [holdsB, kindsOf, n25]
  have HH := Lib.hid hh
  clear hh h1 h2 n25
  go_enter Tryz.func37, Tryz.ntmps37
  go_wp2_with fail
  go_ret
  exact ⟨by rw [HH.out]; rfl, rfl⟩
theorem holds17 (k : Nat) (h1 : 1 ≤ k) (h2 : k ≤ 26) (w : World) : Calls Tryz.prog 37 #[.int .u8 (k : Int), .int .u8 17] w fun e w' => e = .returned (.bool (holdsB k 17)) ∧ w' = w := by
  have e0 : ((k : Int) == 0) = false := ne_beq (by omega)
  have hh : holdsB k 17 = false := by simp [holdsB, kindsOf]
  have HH := Lib.hid hh
  clear hh h1 h2
  go_enter Tryz.func37, Tryz.ntmps37
  go_wp2_with fail
  go_ret
  exact ⟨by rw [HH.out]; rfl, rfl⟩
theorem holds18 (k : Nat) (h1 : 1 ≤ k) (h2 : k ≤ 26) (w : World) : Calls Tryz.prog 37 #[.int .u8 (k : Int), .int .u8 18] w fun e w' => e = .returned (.bool (holdsB k 18)) ∧ w' = w := by
  have e0 : ((k : Int) == 0) = false := ne_beq (by omega)
  have hh : holdsB k 18 = false := by simp [holdsB, kindsOf]
  have HH := Lib.hid hh
  clear hh h1 h2
  go_enter Tryz.func37, Tryz.ntmps37
  go_wp2_with fail
  go_ret
  exact ⟨by rw [HH.out]; rfl, rfl⟩
theorem holds19 (k : Nat) (h1 : 1 ≤ k) (h2 : k ≤ 26) (w : World) : Calls Tryz.prog 37 #[.int .u8 (k : Int), .int .u8 19] w fun e w' => e = .returned (.bool (holdsB k 19)) ∧ w' = w := by
  have e0 : ((k : Int) == 0) = false := ne_beq (by omega)
  have hh : holdsB k 19 = true := by simp [holdsB, kindsOf]
  have HH := Lib.hid hh
  clear hh h1 h2
  go_enter Tryz.func37, Tryz.ntmps37
  go_wp2_with fail
  go_ret
  exact ⟨by rw [HH.out]; rfl, rfl⟩

theorem holds_any (k f : Nat) (h1 : 1 ≤ k) (h2 : k ≤ 26) (g1 : 1 ≤ f) (g2 : f ≤ 19) (w : World) : Calls Tryz.prog 37 #[.int .u8 (k : Int), .int .u8 (f : Int)] w fun e w' => e = .returned (.bool (holdsB k f)) ∧ w' = w := by
  match f, g1, g2 with
  | 1, _, _ => exact holds1 k h1 h2 w
  | 2, _, _ => exact holds2 k h1 h2 w
  | 3, _, _ => exact holds3 k h1 h2 w
  | 4, _, _ => exact holds4 k h1 h2 w
  | 5, _, _ => exact holds5 k h1 h2 w
  | 6, _, _ => exact holds6 k h1 h2 w
  | 7, _, _ => exact holds7 k h1 h2 w
  | 8, _, _ => exact holds8 k h1 h2 w
  | 9, _, _ => exact holds9 k h1 h2 w
  | 10, _, _ => exact holds10 k h1 h2 w
  | 11, _, _ => exact holds11 k h1 h2 w
  | 12, _, _ => exact holds12 k h1 h2 w
  | 13, _, _ => exact holds13 k h1 h2 w
  | 14, _, _ => exact holds14 k h1 h2 w
  | 15, _, _ => exact holds15 k h1 h2 w
  | 16, _, _ => exact holds16 k h1 h2 w
  | 17, _, _ => exact holds17 k h1 h2 w
  | 18, _, _ => exact holds18 k h1 h2 w
  | 19, _, _ => exact holds19 k h1 h2 w
  | n + 20, _, h => omega

set_option maxRecDepth 100000 in
set_option maxHeartbeats 1000000 in
theorem rfaces_any (k : Nat) (h1 : 1 ≤ k) (h2 : k ≤ 26) (w : World) : Calls Tryz.prog 27 #[.int .u8 (k : Int)] w fun e w' => e = .returned (.int .u32 (faceM.getD k 0)) ∧ w' = w := by
  rw [← upto_all k h1 h2]
  have HO : Hid (∀ f : Nat, 1 ≤ f → f ≤ 19 → ∀ w, Calls Tryz.prog 37 #[.int .u8 (k : Int), .int .u8 (f : Int)] w fun e w' => e = .returned (.bool (holdsB k f)) ∧ w' = w) := Lib.hid fun f a b w => holds_any k f h1 h2 a b w
  clear h1 h2
  go_enter Tryz.func27, Tryz.ntmps27
  go_wp2_with fail
  go_loopg [3, 4] 20 (fun gk nv i wr => ∃ (j : Nat) (n iv : Int), j + gk = 20 ∧ j ≤ 19 ∧ nv = .int .u32 n ∧ n = upto k j ∧ iv = (j : Int) + 1 ∧ i = .int .u8 iv ∧ wr = w)
  case atStart => exact ⟨0, 0, 1, rfl, by omega, rfl, rfl, rfl, rfl, rfl⟩
  case round =>
    obtain ⟨j, n, iv, hk, hj, rfl, hn, hiv, rfl, rfl⟩ := hrel
    have HK := Lib.hid hk; have HN := Lib.hid hn
    clear hk
    by_cases hlt : j < 19
    · have hor : j = 0 ∨ j = 1 ∨ j = 2 ∨ j = 3 ∨ j = 4 ∨ j = 5 ∨ j = 6 ∨ j = 7 ∨ j = 8 ∨ j = 9 ∨ j = 10 ∨ j = 11 ∨ j = 12 ∨ j = 13 ∨ j = 14 ∨ j = 15 ∨ j = 16 ∨ j = 17 ∨ j = 18 := by omega
      clear hj hlt
      rcases hor with rfl | rfl | rfl | rfl | rfl | rfl | rfl | rfl | rfl | rfl | rfl | rfl | rfl | rfl | rfl | rfl | rfl | rfl | rfl
      · obtain rfl : iv = 1 := by omega
        have hb : 0 ≤ n ∧ n < 2 := by rw [hn]; exact upto_lt k 0
        obtain ⟨hb1, hb2⟩ := hb
        clear hiv hn
        go_wp2_with fail
        refine (HO.out 1 (by omega) (by omega) _).mono ?_
        rintro e w' ⟨rfl, rfl⟩
        cases hh : holdsB k 1
        · go_wp2_with fail
          go_roundg (gk - 1)
          case rel => exact ⟨1, n, 2, by have := HK.out; omega, by omega, rfl, by rw [HN.out]; simp [upto, hh], rfl, by go_num, rfl⟩
          case measure => have := HK.out; omega
        · go_wp2_with fail
          go_roundg (gk - 1)
          case rel => exact ⟨1, n + 2, 2, by have := HK.out; omega, by omega, by go_num, by rw [HN.out]; simp [upto, hh], rfl, by go_num, rfl⟩
          case measure => have := HK.out; omega
      · obtain rfl : iv = 2 := by omega
        have hb : 0 ≤ n ∧ n < 4 := by rw [hn]; exact upto_lt k 1
        obtain ⟨hb1, hb2⟩ := hb
        clear hiv hn
        go_wp2_with fail
        refine (HO.out 2 (by omega) (by omega) _).mono ?_
        rintro e w' ⟨rfl, rfl⟩
        cases hh : holdsB k 2
        · go_wp2_with fail
          go_roundg (gk - 1)
          case rel => exact ⟨2, n, 3, by have := HK.out; omega, by omega, rfl, by rw [HN.out]; simp [upto, hh], rfl, by go_num, rfl⟩
          case measure => have := HK.out; omega
        · go_wp2_with fail
          go_roundg (gk - 1)
          case rel => exact ⟨2, n + 4, 3, by have := HK.out; omega, by omega, by go_num, by rw [HN.out]; simp [upto, hh], rfl, by go_num, rfl⟩
          case measure => have := HK.out; omega
      · obtain rfl : iv = 3 := by omega
        have hb : 0 ≤ n ∧ n < 8 := by rw [hn]; exact upto_lt k 2
        obtain ⟨hb1, hb2⟩ := hb
        clear hiv hn
        go_wp2_with fail
        refine (HO.out 3 (by omega) (by omega) _).mono ?_
        rintro e w' ⟨rfl, rfl⟩
        cases hh : holdsB k 3
        · go_wp2_with fail
          go_roundg (gk - 1)
          case rel => exact ⟨3, n, 4, by have := HK.out; omega, by omega, rfl, by rw [HN.out]; simp [upto, hh], rfl, by go_num, rfl⟩
          case measure => have := HK.out; omega
        · go_wp2_with fail
          go_roundg (gk - 1)
          case rel => exact ⟨3, n + 8, 4, by have := HK.out; omega, by omega, by go_num, by rw [HN.out]; simp [upto, hh], rfl, by go_num, rfl⟩
          case measure => have := HK.out; omega
      · obtain rfl : iv = 4 := by omega
        have hb : 0 ≤ n ∧ n < 16 := by rw [hn]; exact upto_lt k 3
        obtain ⟨hb1, hb2⟩ := hb
        clear hiv hn
        go_wp2_with fail
        refine (HO.out 4 (by omega) (by omega) _).mono ?_
        rintro e w' ⟨rfl, rfl⟩
        cases hh : holdsB k 4
        · go_wp2_with fail
          go_roundg (gk - 1)
          case rel => exact ⟨4, n, 5, by have := HK.out; omega, by omega, rfl, by rw [HN.out]; simp [upto, hh], rfl, by go_num, rfl⟩
          case measure => have := HK.out; omega
        · go_wp2_with fail
          go_roundg (gk - 1)
          case rel => exact ⟨4, n + 16, 5, by have := HK.out; omega, by omega, by go_num, by rw [HN.out]; simp [upto, hh], rfl, by go_num, rfl⟩
          case measure => have := HK.out; omega
      · obtain rfl : iv = 5 := by omega
        have hb : 0 ≤ n ∧ n < 32 := by rw [hn]; exact upto_lt k 4
        obtain ⟨hb1, hb2⟩ := hb
        clear hiv hn
        go_wp2_with fail
        refine (HO.out 5 (by omega) (by omega) _).mono ?_
        rintro e w' ⟨rfl, rfl⟩
        cases hh : holdsB k 5
        · go_wp2_with fail
          go_roundg (gk - 1)
          case rel => exact ⟨5, n, 6, by have := HK.out; omega, by omega, rfl, by rw [HN.out]; simp [upto, hh], rfl, by go_num, rfl⟩
          case measure => have := HK.out; omega
        · go_wp2_with fail
          go_roundg (gk - 1)
          case rel => exact ⟨5, n + 32, 6, by have := HK.out; omega, by omega, by go_num, by rw [HN.out]; simp [upto, hh], rfl, by go_num, rfl⟩
          case measure => have := HK.out; omega
      · obtain rfl : iv = 6 := by omega
        have hb : 0 ≤ n ∧ n < 64 := by rw [hn]; exact upto_lt k 5
        obtain ⟨hb1, hb2⟩ := hb
        clear hiv hn
        go_wp2_with fail
        refine (HO.out 6 (by omega) (by omega) _).mono ?_
        rintro e w' ⟨rfl, rfl⟩
        cases hh : holdsB k 6
        · go_wp2_with fail
          go_roundg (gk - 1)
          case rel => exact ⟨6, n, 7, by have := HK.out; omega, by omega, rfl, by rw [HN.out]; simp [upto, hh], rfl, by go_num, rfl⟩
          case measure => have := HK.out; omega
        · go_wp2_with fail
          go_roundg (gk - 1)
          case rel => exact ⟨6, n + 64, 7, by have := HK.out; omega, by omega, by go_num, by rw [HN.out]; simp [upto, hh], rfl, by go_num, rfl⟩
          case measure => have := HK.out; omega
      · obtain rfl : iv = 7 := by omega
        have hb : 0 ≤ n ∧ n < 128 := by rw [hn]; exact upto_lt k 6
        obtain ⟨hb1, hb2⟩ := hb
        clear hiv hn
        go_wp2_with fail
        refine (HO.out 7 (by omega) (by omega) _).mono ?_
        rintro e w' ⟨rfl, rfl⟩
        cases hh : holdsB k 7
        · go_wp2_with fail
          go_roundg (gk - 1)
          case rel => exact ⟨7, n, 8, by have := HK.out; omega, by omega, rfl, by rw [HN.out]; simp [upto, hh], rfl, by go_num, rfl⟩
          case measure => have := HK.out; omega
        · go_wp2_with fail
          go_roundg (gk - 1)
          case rel => exact ⟨7, n + 128, 8, by have := HK.out; omega, by omega, by go_num, by rw [HN.out]; simp [upto, hh], rfl, by go_num, rfl⟩
          case measure => have := HK.out; omega
      · obtain rfl : iv = 8 := by omega
        have hb : 0 ≤ n ∧ n < 256 := by rw [hn]; exact upto_lt k 7
        obtain ⟨hb1, hb2⟩ := hb
        clear hiv hn
        go_wp2_with fail
        refine (HO.out 8 (by omega) (by omega) _).mono ?_
        rintro e w' ⟨rfl, rfl⟩
        cases hh : holdsB k 8
        · go_wp2_with fail
          go_roundg (gk - 1)
          case rel => exact ⟨8, n, 9, by have := HK.out; omega, by omega, rfl, by rw [HN.out]; simp [upto, hh], rfl, by go_num, rfl⟩
          case measure => have := HK.out; omega
        · go_wp2_with fail
          go_roundg (gk - 1)
          case rel => exact ⟨8, n + 256, 9, by have := HK.out; omega, by omega, by go_num, by rw [HN.out]; simp [upto, hh], rfl, by go_num, rfl⟩
          case measure => have := HK.out; omega
      · obtain rfl : iv = 9 := by omega
        have hb : 0 ≤ n ∧ n < 512 := by rw [hn]; exact upto_lt k 8
        obtain ⟨hb1, hb2⟩ := hb
        clear hiv hn
        go_wp2_with fail
        refine (HO.out 9 (by omega) (by omega) _).mono ?_
        rintro e w' ⟨rfl, rfl⟩
        cases hh : holdsB k 9
        · go_wp2_with fail
          go_roundg (gk - 1)
          case rel => exact ⟨9, n, 10, by have := HK.out; omega, by omega, rfl, by rw [HN.out]; simp [upto, hh], rfl, by go_num, rfl⟩
          case measure => have := HK.out; omega
        · go_wp2_with fail
          go_roundg (gk - 1)
          case rel => exact ⟨9, n + 512, 10, by have := HK.out; omega, by omega, by go_num, by rw [HN.out]; simp [upto, hh], rfl, by go_num, rfl⟩
          case measure => have := HK.out; omega
      · obtain rfl : iv = 10 := by omega
        have hb : 0 ≤ n ∧ n < 1024 := by rw [hn]; exact upto_lt k 9
        obtain ⟨hb1, hb2⟩ := hb
        clear hiv hn
        go_wp2_with fail
        refine (HO.out 10 (by omega) (by omega) _).mono ?_
        rintro e w' ⟨rfl, rfl⟩
        cases hh : holdsB k 10
        · go_wp2_with fail
          go_roundg (gk - 1)
          case rel => exact ⟨10, n, 11, by have := HK.out; omega, by omega, rfl, by rw [HN.out]; simp [upto, hh], rfl, by go_num, rfl⟩
          case measure => have := HK.out; omega
        · go_wp2_with fail
          go_roundg (gk - 1)
          case rel => exact ⟨10, n + 1024, 11, by have := HK.out; omega, by omega, by go_num, by rw [HN.out]; simp [upto, hh], rfl, by go_num, rfl⟩
          case measure => have := HK.out; omega
      · obtain rfl : iv = 11 := by omega
        have hb : 0 ≤ n ∧ n < 2048 := by rw [hn]; exact upto_lt k 10
        obtain ⟨hb1, hb2⟩ := hb
        clear hiv hn
        go_wp2_with fail
        refine (HO.out 11 (by omega) (by omega) _).mono ?_
        rintro e w' ⟨rfl, rfl⟩
        cases hh : holdsB k 11
        · go_wp2_with fail
          go_roundg (gk - 1)
          case rel => exact ⟨11, n, 12, by have := HK.out; omega, by omega, rfl, by rw [HN.out]; simp [upto, hh], rfl, by go_num, rfl⟩
          case measure => have := HK.out; omega
        · go_wp2_with fail
          go_roundg (gk - 1)
          case rel => exact ⟨11, n + 2048, 12, by have := HK.out; omega, by omega, by go_num, by rw [HN.out]; simp [upto, hh], rfl, by go_num, rfl⟩
          case measure => have := HK.out; omega
      · obtain rfl : iv = 12 := by omega
        have hb : 0 ≤ n ∧ n < 4096 := by rw [hn]; exact upto_lt k 11
        obtain ⟨hb1, hb2⟩ := hb
        clear hiv hn
        go_wp2_with fail
        refine (HO.out 12 (by omega) (by omega) _).mono ?_
        rintro e w' ⟨rfl, rfl⟩
        cases hh : holdsB k 12
        · go_wp2_with fail
          go_roundg (gk - 1)
          case rel => exact ⟨12, n, 13, by have := HK.out; omega, by omega, rfl, by rw [HN.out]; simp [upto, hh], rfl, by go_num, rfl⟩
          case measure => have := HK.out; omega
        · go_wp2_with fail
          go_roundg (gk - 1)
          case rel => exact ⟨12, n + 4096, 13, by have := HK.out; omega, by omega, by go_num, by rw [HN.out]; simp [upto, hh], rfl, by go_num, rfl⟩
          case measure => have := HK.out; omega
      · obtain rfl : iv = 13 := by omega
        have hb : 0 ≤ n ∧ n < 8192 := by rw [hn]; exact upto_lt k 12
        obtain ⟨hb1, hb2⟩ := hb
        clear hiv hn
        go_wp2_with fail
        refine (HO.out 13 (by omega) (by omega) _).mono ?_
        rintro e w' ⟨rfl, rfl⟩
        cases hh : holdsB k 13
        · go_wp2_with fail
          go_roundg (gk - 1)
          case rel => exact ⟨13, n, 14, by have := HK.out; omega, by omega, rfl, by rw [HN.out]; simp [upto, hh], rfl, by go_num, rfl⟩
          case measure => have := HK.out; omega
        · go_wp2_with fail
          go_roundg (gk - 1)
          case rel => exact ⟨13, n + 8192, 14, by have := HK.out; omega, by omega, by go_num, by rw [HN.out]; simp [upto, hh], rfl, by go_num, rfl⟩
          case measure => have := HK.out; omega
      · obtain rfl : iv = 14 := by omega
        have hb : 0 ≤ n ∧ n < 16384 := by rw [hn]; exact upto_lt k 13
        obtain ⟨hb1, hb2⟩ := hb
        clear hiv hn
        go_wp2_with fail
        refine (HO.out 14 (by omega) (by omega) _).mono ?_
        rintro e w' ⟨rfl, rfl⟩
        cases hh : holdsB k 14
        · go_wp2_with fail
          go_roundg (gk - 1)
          case rel => exact ⟨14, n, 15, by have := HK.out; omega, by omega, rfl, by rw [HN.out]; simp [upto, hh], rfl, by go_num, rfl⟩
          case measure => have := HK.out; omega
        · go_wp2_with fail
          go_roundg (gk - 1)
          case rel => exact ⟨14, n + 16384, 15, by have := HK.out; omega, by omega, by go_num, by rw [HN.out]; simp [upto, hh], rfl, by go_num, rfl⟩
          case measure => have := HK.out; omega
      · obtain rfl : iv = 15 := by omega
        have hb : 0 ≤ n ∧ n < 32768 := by rw [hn]; exact upto_lt k 14
        obtain ⟨hb1, hb2⟩ := hb
        clear hiv hn
        go_wp2_with fail
        refine (HO.out 15 (by omega) (by omega) _).mono ?_
        rintro e w' ⟨rfl, rfl⟩
        cases hh : holdsB k 15
        · go_wp2_with fail
          go_roundg (gk - 1)
          case rel => exact ⟨15, n, 16, by have := HK.out; omega, by omega, rfl, by rw [HN.out]; simp [upto, hh], rfl, by go_num, rfl⟩
          case measure => have := HK.out; omega
        · go_wp2_with fail
          go_roundg (gk - 1)
          case rel => exact ⟨15, n + 32768, 16, by have := HK.out; omega, by omega, by go_num, by rw [HN.out]; simp [upto, hh], rfl, by go_num, rfl⟩
          case measure => have := HK.out; omega
      · obtain rfl : iv = 16 := by omega
        have hb : 0 ≤ n ∧ n < 65536 := by rw [hn]; exact upto_lt k 15
        obtain ⟨hb1, hb2⟩ := hb
        clear hiv hn
        go_wp2_with fail
        refine (HO.out 16 (by omega) (by omega) _).mono ?_
        rintro e w' ⟨rfl, rfl⟩
        cases hh : holdsB k 16
        · go_wp2_with fail
          go_roundg (gk - 1)
          case rel => exact ⟨16, n, 17, by have := HK.out; omega, by omega, rfl, by rw [HN.out]; simp [upto, hh], rfl, by go_num, rfl⟩
          case measure => have := HK.out; omega
        · go_wp2_with fail
          go_roundg (gk - 1)
          case rel => exact ⟨16, n + 65536, 17, by have := HK.out; omega, by omega, by go_num, by rw [HN.out]; simp [upto, hh], rfl, by go_num, rfl⟩
          case measure => have := HK.out; omega
      · obtain rfl : iv = 17 := by omega
        have hb : 0 ≤ n ∧ n < 131072 := by rw [hn]; exact upto_lt k 16
        obtain ⟨hb1, hb2⟩ := hb
        clear hiv hn
        go_wp2_with fail
        refine (HO.out 17 (by omega) (by omega) _).mono ?_
        rintro e w' ⟨rfl, rfl⟩
        cases hh : holdsB k 17
        · go_wp2_with fail
          go_roundg (gk - 1)
          case rel => exact ⟨17, n, 18, by have := HK.out; omega, by omega, rfl, by rw [HN.out]; simp [upto, hh], rfl, by go_num, rfl⟩
          case measure => have := HK.out; omega
        · go_wp2_with fail
          go_roundg (gk - 1)
          case rel => exact ⟨17, n + 131072, 18, by have := HK.out; omega, by omega, by go_num, by rw [HN.out]; simp [upto, hh], rfl, by go_num, rfl⟩
          case measure => have := HK.out; omega
      · obtain rfl : iv = 18 := by omega
        have hb : 0 ≤ n ∧ n < 262144 := by rw [hn]; exact upto_lt k 17
        obtain ⟨hb1, hb2⟩ := hb
        clear hiv hn
        go_wp2_with fail
        refine (HO.out 18 (by omega) (by omega) _).mono ?_
        rintro e w' ⟨rfl, rfl⟩
        cases hh : holdsB k 18
        · go_wp2_with fail
          go_roundg (gk - 1)
          case rel => exact ⟨18, n, 19, by have := HK.out; omega, by omega, rfl, by rw [HN.out]; simp [upto, hh], rfl, by go_num, rfl⟩
          case measure => have := HK.out; omega
        · go_wp2_with fail
          go_roundg (gk - 1)
          case rel => exact ⟨18, n + 262144, 19, by have := HK.out; omega, by omega, by go_num, by rw [HN.out]; simp [upto, hh], rfl, by go_num, rfl⟩
          case measure => have := HK.out; omega
      · obtain rfl : iv = 19 := by omega
        have hb : 0 ≤ n ∧ n < 524288 := by rw [hn]; exact upto_lt k 18
        obtain ⟨hb1, hb2⟩ := hb
        clear hiv hn
        go_wp2_with fail
        refine (HO.out 19 (by omega) (by omega) _).mono ?_
        rintro e w' ⟨rfl, rfl⟩
        cases hh : holdsB k 19
        · go_wp2_with fail
          go_roundg (gk - 1)
          case rel => exact ⟨19, n, 20, by have := HK.out; omega, by omega, rfl, by rw [HN.out]; simp [upto, hh], rfl, by go_num, rfl⟩
          case measure => have := HK.out; omega
        · go_wp2_with fail
          go_roundg (gk - 1)
          case rel => exact ⟨19, n + 524288, 20, by have := HK.out; omega, by omega, by go_num, by rw [HN.out]; simp [upto, hh], rfl, by go_num, rfl⟩
          case measure => have := HK.out; omega
    · have hj9 : j = 19 := by omega
      subst hj9
      clear hlt hj
      obtain rfl : iv = 20 := by omega
      go_wp2_with fail
      go_ret
      exact ⟨by rw [HN.out]; rfl, rfl⟩
end Go.Proofs.YtacijlfckmllcaaGreatDoor
