import Derived.Test.YthbeednmekajaaaMeter1
namespace Go.Proofs.Ythbeednmekajaaa
open Go.RowKit

/-- How a breaker stands. -/
structure V where
  st : Int
  turn : Int
  fails : Int
  at_ : Int
  deriving DecidableEq

/-- Terms. -/
structure T where
  F : Int
  W : Int
  S : Int

def TOk (t : T) : Bool := decide (1 ≤ t.F ∧ t.F ≤ 1000 ∧ 1 ≤ t.W ∧ t.W ≤ 2147483647 ∧ 1 ≤ t.S ∧ t.S ≤ 2147483647)
structure VOk (v : V) : Prop where
  s0 : 0 ≤ v.st
  s1 : v.st ≤ 2
  t0 : 0 ≤ v.turn
  t1 : v.turn ≤ 1048575
  f0 : 0 ≤ v.fails
  f1 : v.fails ≤ 1000
  a0 : 0 ≤ v.at_
  a1 : v.at_ ≤ 2147483647

def turnedV (v : V) (st at_ : Int) : V := if v.turn < 1048575 then ⟨st, v.turn + 1, 0, at_⟩ else v
def allowV (t : T) (v : V) (now : Int) : V × Int × Int :=
  if v.st = 0 then (v, v.turn + 1, 0)
  else if v.st = 1 ∧ v.at_ + t.W ≤ now ∧ v.turn < 1048575 then (⟨2, v.turn + 1, 0, 0⟩, v.turn + 2, 0)
  else (v, 0, 250)
def doneV (t : T) (v : V) (pass : Int) (ok : Bool) (now : Int) : V × Int :=
  if ¬ pass = v.turn + 1 ∨ v.st = 1 then (v, 251)
  else if v.st = 2 then (if ok then turnedV v 0 (now / t.S) else turnedV v 1 now, 0)
  else if ok = true ∨ now / t.S < v.at_ then (v, 0)
  else if t.F ≤ (if v.at_ < now / t.S then 0 else v.fails) + 1 then (turnedV v 1 now, 0)
  else (⟨v.st, v.turn, (if v.at_ < now / t.S then 0 else v.fails) + 1, if v.at_ < now / t.S then now / t.S else v.at_⟩, 0)

def encV (v : V) : Int := v.st + v.turn * 4 + v.fails * 4194304 + v.at_ * 4294967296

theorem encV_inj {v v' : V} (h : VOk v) (h' : VOk v') (e : encV v = encV v') : v = v' := by
  obtain ⟨a1, a2, a3, a4, a5, a6, a7, a8⟩ := h
  obtain ⟨b1, b2, b3, b4, b5, b6, b7, b8⟩ := h'
  obtain ⟨s, t, f, a⟩ := v
  obtain ⟨s', t', f', a'⟩ := v'
  simp only [encV] at *
  have h1 : a = a' := by omega
  have h2 : f = f' := by omega
  have h3 : t = t' := by omega
  have h4 : s = s' := by omega
  simp [h1, h2, h3, h4]

theorem and_mask (n : Int) (k : Nat) (h0 : 0 ≤ n) (h1 : n < 18446744073709551616) (hk : 2 ^ k < 18446744073709551616) : bits .and .u64 n ((2 ^ k - 1 : Nat) : Int) = n % ((2 ^ k : Nat) : Int) := by
  have hp : 0 < 2 ^ k := Nat.two_pow_pos k
  obtain ⟨N, rfl⟩ := Int.eq_ofNat_of_zero_le h0
  rw [u64_and_nat N _ (by omega) (by omega), Nat.and_two_pow_sub_one_eq_mod]
  rfl

theorem or_low (a b : Int) (k : Nat) (ha : 0 ≤ a) (hb : 0 ≤ b) (hak : a < ((2 ^ k : Nat) : Int)) (hs : b * ((2 ^ k : Nat) : Int) + a < 18446744073709551616) : bits .or .u64 a (b * ((2 ^ k : Nat) : Int)) = b * ((2 ^ k : Nat) : Int) + a := by
  obtain ⟨A, rfl⟩ := Int.eq_ofNat_of_zero_le ha
  obtain ⟨B, rfl⟩ := Int.eq_ofNat_of_zero_le hb
  have h1 : ((B : Int) * ((2 ^ k : Nat) : Int)) = ((B * 2 ^ k : Nat) : Int) := by simp
  rw [h1] at hs ⊢
  rw [u64_or_nat A (B * 2 ^ k) (by omega) (by omega)]
  have h2 := Nat.two_pow_add_eq_or_of_lt (i := k) (b := A) (by omega) B
  rw [Nat.or_comm, Nat.mul_comm B, ← h2]
  omega

theorem encV_bd {v : V} (h : VOk v) : 0 ≤ encV v ∧ encV v < 9223372036854775808 := by
  obtain ⟨b1, b2, b3, b4, b5, b6, b7, b8⟩ := h
  simp only [encV]
  omega

theorem word_any (v : V) (w : World) (h : VOk v) : Calls Try.prog 81 #[.agg #[.int .u8 v.st, .int .i64 v.turn, .int .i64 v.fails, .int .i64 v.at_]] w fun e w' => e = .returned (.int .u64 (encV v)) ∧ Chg [] w w' := by
  obtain ⟨b1, b2, b3, b4, b5, b6, b7, b8⟩ := h
  have e1 := or_low v.st v.turn 2 b1 b3 (by simp; omega) (by simp; omega)
  have e2 := or_low (v.turn * 4 + v.st) v.fails 22 (by omega) b5 (by simp; omega) (by simp; omega)
  have e3 := or_low (v.fails * 4194304 + (v.turn * 4 + v.st)) v.at_ 32 (by omega) b7 (by simp; omega) (by simp; omega)
  simp only [Nat.reducePow, Int.cast_ofNat_Int] at e1 e2 e3
  go_enter Try.func81, Try.ntmps81
  go_wp2
  go_ret
  refine ⟨?_, (Chg.refl _ _).alloc _⟩
  have : v.at_ * 4294967296 + (v.fails * 4194304 + (v.turn * 4 + v.st)) = encV v := by simp only [encV]; omega
  exact congrArg (fun x => Ending.returned (.int .u64 x)) this

theorem unword_any (v : V) (w : World) (h : VOk v) : Calls Try.prog 44 #[.int .u64 (encV v)] w fun e w' => e = .returned (.agg #[.int .u8 v.st, .int .i64 v.turn, .int .i64 v.fails, .int .i64 v.at_]) ∧ Chg [] w w' := by
  have hbd := encV_bd h
  obtain ⟨b1, b2, b3, b4, b5, b6, b7, b8⟩ := h
  have e1 := and_mask (encV v) 2 hbd.1 (by omega) (by decide)
  have e2 := and_mask (encV v / 4) 20 (by omega) (by omega) (by decide)
  have e3 := and_mask (encV v / 4194304) 10 (by omega) (by omega) (by decide)
  simp only [Nat.reducePow, Nat.reduceSub, Int.cast_ofNat_Int] at e1 e2 e3
  have f1 : encV v % 4 = v.st := by simp only [encV]; omega
  have f2 : encV v / 4 % 1048576 = v.turn := by simp only [encV]; omega
  have f3 : encV v / 4194304 % 1024 = v.fails := by simp only [encV]; omega
  have f4 : encV v / 4294967296 = v.at_ := by simp only [encV]; omega
  have f5 : v.st % 256 = v.st := by omega
  rw [f1] at e1; rw [f2] at e2; rw [f3] at e3
  clear f1 f2 f3
  generalize encV v = n at *
  obtain ⟨n0, n1⟩ := hbd
  go_enter Try.func44, Try.ntmps44
  go_wp2
  exact bodyPost_ret (v := .agg #[.int .u8 v.st, .int .i64 v.turn, .int .i64 v.fails, .int .i64 v.at_]) (by simp [results, Try.results44, go_sem]) rfl ⟨rfl, (Chg.refl _ _).alloc _⟩

theorem turned_any (v : V) (st at_ : Int) (w : World) (h : VOk v) : Calls Try.prog 86 #[.agg #[.int .u8 v.st, .int .i64 v.turn, .int .i64 v.fails, .int .i64 v.at_], .int .u8 st, .int .i64 at_] w fun e w' =>
    e = .returned (.agg #[.int .u8 (turnedV v st at_).st, .int .i64 (turnedV v st at_).turn, .int .i64 (turnedV v st at_).fails, .int .i64 (turnedV v st at_).at_]) ∧ Chg [] w w' := by
  obtain ⟨b1, b2, b3, b4, b5, b6, b7, b8⟩ := h
  by_cases hlt : v.turn < 1048575
  · have e : turnedV v st at_ = ⟨st, v.turn + 1, 0, at_⟩ := by unfold turnedV; rw [if_pos hlt]
    rw [e]
    clear e
    go_enter Try.func86, Try.ntmps86
    go_wp2
    exact bodyPost_ret (v := .agg #[.int .u8 st, .int .i64 (v.turn + 1), .int .i64 0, .int .i64 at_]) (by simp [results, Try.results86, go_sem]) rfl ⟨rfl, ((Chg.refl _ _).alloc _).alloc _⟩
  · have e : turnedV v st at_ = v := by unfold turnedV; rw [if_neg hlt]
    rw [e]
    clear e
    go_enter Try.func86, Try.ntmps86
    go_wp2
    exact bodyPost_ret (v := .agg #[.int .u8 v.st, .int .i64 v.turn, .int .i64 v.fails, .int .i64 v.at_]) (by simp [results, Try.results86, go_sem]) rfl ⟨rfl, ((Chg.refl _ _).alloc _).alloc _⟩

theorem turned_lt (v : V) (st at_ : Int) (w : World) (h : VOk v) (hlt : v.turn < 1048575) : Calls Try.prog 86 #[.agg #[.int .u8 v.st, .int .i64 v.turn, .int .i64 v.fails, .int .i64 v.at_], .int .u8 st, .int .i64 at_] w fun e w' =>
    e = .returned (.agg #[.int .u8 st, .int .i64 (v.turn + 1), .int .i64 0, .int .i64 at_]) ∧ Chg [] w w' := by
  have := turned_any v st at_ w h
  unfold turnedV at this
  rw [if_pos hlt] at this
  exact this

theorem moved_any (v : V) (st at_ : Int) (w : World) (h : VOk v) : Calls Try.prog 57 #[.agg #[.int .u8 v.st, .int .i64 v.turn, .int .i64 v.fails, .int .i64 v.at_], .int .u8 st, .int .i64 at_] w fun e w' =>
    e = .returned (.agg #[.int .u8 (turnedV v st at_).st, .int .i64 (turnedV v st at_).turn, .int .i64 (turnedV v st at_).fails, .int .i64 (turnedV v st at_).at_]) ∧ Chg [] w w' := by
  obtain ⟨b1, b2, b3, b4, b5, b6, b7, b8⟩ := h
  by_cases hlt : v.turn < 1048575
  · have e : turnedV v st at_ = ⟨st, v.turn + 1, 0, at_⟩ := by unfold turnedV; rw [if_pos hlt]
    rw [e]
    clear e
    have d : (v.turn == 1048575) = false := by rw [beq_eq_false_iff_ne]; omega
    go_enter Try.func57, Try.ntmps57
    go_wp2
    exact bodyPost_ret (v := .agg #[.int .u8 st, .int .i64 (v.turn + 1), .int .i64 0, .int .i64 at_]) (by simp [results, Try.results57, go_sem]) rfl ⟨rfl, ((Chg.refl _ _).alloc _).alloc _⟩
  · have e : turnedV v st at_ = v := by unfold turnedV; rw [if_neg hlt]
    rw [e]
    clear e
    have d : (v.turn == 1048575) = true := by rw [beq_iff_eq]; omega
    go_enter Try.func57, Try.ntmps57
    go_wp2
    exact bodyPost_ret (v := .agg #[.int .u8 v.st, .int .i64 v.turn, .int .i64 v.fails, .int .i64 v.at_]) (by simp [results, Try.results57, go_sem]) rfl ⟨rfl, ((Chg.refl _ _).alloc _).alloc _⟩

theorem moved_lt (v : V) (st at_ : Int) (w : World) (h : VOk v) (hlt : v.turn < 1048575) : Calls Try.prog 57 #[.agg #[.int .u8 v.st, .int .i64 v.turn, .int .i64 v.fails, .int .i64 v.at_], .int .u8 st, .int .i64 at_] w fun e w' =>
    e = .returned (.agg #[.int .u8 st, .int .i64 (v.turn + 1), .int .i64 0, .int .i64 at_]) ∧ Chg [] w w' := by
  have := moved_any v st at_ w h
  unfold turnedV at this
  rw [if_pos hlt] at this
  exact this
end Go.Proofs.Ythbeednmekajaaa
