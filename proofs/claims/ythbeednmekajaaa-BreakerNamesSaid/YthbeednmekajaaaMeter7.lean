import Derived.Test.YthbeednmekajaaaMeter6
namespace Go.Proofs.Ythbeednmekajaaa
open Go.RowKit

theorem run_frombits (n : Int) (w : World) : (callFunc 13 #[.int .u64 n]).run Try.prog w = .ok (.value (.float .f64 n.toNat)) w := by
  rw [run_callFunc_extern Try.func13 (by kernel_rfl) (by kernel_rfl) (by kernel_rfl) (e := Extern.MathFloatBits.float64frombits) (by kernel_rfl)]
  rfl
theorem run_bits (b : Nat) (w : World) : (callFunc 18 #[.float .f64 b]).run Try.prog w = .ok (.value (.int .u64 b)) w := by
  rw [run_callFunc_extern Try.func18 (by kernel_rfl) (by kernel_rfl) (by kernel_rfl) (e := Extern.MathFloatBits.float64bits) (by kernel_rfl)]
  rfl

theorem nan_any (w : World) : Calls Try.prog 34 #[] w fun e w' => e = .returned (.float .f64 9221120237041090561) ∧ w = w' := by
  have hf := run_frombits 9221120237041090561 w
  go_enter Try.func34, Try.ntmps34
  go_wp2
  go_ret
  exact ⟨rfl, rfl⟩

theorem nan_is : IsNaN 9221120237041090561 := ⟨_, _, rfl⟩

set_option maxHeartbeats 400000 in
theorem rate_no (now : Int) (w : World) {bm : Nat} (ht : tickB now = false) :
    Calls Try.prog 16 #[.pointer (some ⟨bm, 0, none⟩), .int .i64 now] w fun e w' => e = .returned (.float .f64 9221120237041090561) ∧ w = w' := by
  have H4 := Lib.hid ht; clear ht
  go_enter Try.func16, Try.ntmps16
  go_wp2_with (first
    | (go_at_call 39; refine (tick_no _ _ H4.out).mono ?_; rintro e w' ⟨rfl, rfl⟩)
    | (go_at_call 34; refine (nan_any _).mono ?_; rintro e w' ⟨rfl, rfl⟩))
  go_ret
  exact ⟨rfl, rfl⟩

set_option maxHeartbeats 400000 in
theorem rrate_no (now : Int) (w : World) {bm : Nat} (ht : tickB now = false) :
    Calls Try.prog 17 #[.pointer (some ⟨bm, 0, none⟩), .int .i64 now] w fun e w' => e = .returned (.float .f64 9221120237041090561) ∧ w = w' := by
  have H4 := Lib.hid ht; clear ht
  go_enter Try.func17, Try.ntmps17
  go_wp2_with (first
    | (go_at_call 40; refine (Tick_no _ _ H4.out).mono ?_; rintro e w' ⟨rfl, rfl⟩)
    | (go_at_call 34; refine (nan_any _).mono ?_; rintro e w' ⟨rfl, rfl⟩))
  go_ret
  exact ⟨rfl, rfl⟩

def geqB (a b : Nat) : Bool := FloatKind.f64.format.order a b == some .gt || FloatKind.f64.format.order a b == some .eq

theorem trips_any (a b : Nat) (w : World) : Calls Try.prog 19 #[.float .f64 a, .float .f64 b] w fun e w' => e = .returned (.bool (geqB a b)) ∧ w = w' := by
  go_enter Try.func19, Try.ntmps19
  go_wp2
  go_ret
  exact ⟨rfl, rfl⟩

set_option maxHeartbeats 400000 in
theorem rnew_no (n s : Int) (w : World) (h : meterB n s = false) : Calls Try.prog 12 #[.int .i64 n, .int .i64 s] w fun e w' => e = .returned (.tuple #[.pointer none, .int .i64 1]) ∧ w = w' := by
  simp only [meterB, decide_eq_false_iff_not] at h
  by_cases h1 : n < 1
  · clear h
    go_enter Try.func12, Try.ntmps12
    go_wp2
    go_ret2
    exact ⟨rfl, rfl⟩
  by_cases h2 : n > 1000
  · clear h
    go_enter Try.func12, Try.ntmps12
    go_wp2
    go_ret2
    exact ⟨rfl, rfl⟩
  by_cases h3 : s < 1
  · clear h
    go_enter Try.func12, Try.ntmps12
    go_wp2
    go_ret2
    exact ⟨rfl, rfl⟩
  have h4 : tickB s = false := by simp only [tickB, decide_eq_false_iff_not]; omega
  clear h
  have H4 := Lib.hid h4; clear h4
  go_enter Try.func12, Try.ntmps12
  go_wp2_with (go_at_call 40; refine (Tick_no _ _ H4.out).mono ?_; rintro e w' ⟨rfl, rfl⟩)
  go_ret2
  exact ⟨rfl, rfl⟩

set_option maxHeartbeats 400000 in
theorem rnew_yes (n : Nat) (s : Int) (w : World) (h : meterB n s = true) :
    Calls Try.prog 12 #[.int .i64 n, .int .i64 s] w fun e w' => e = .returned (.tuple #[.pointer (some ⟨w.heap.size, 0, none⟩), .int .i64 0]) ∧
      w' = w.alloc (.cells #[.int .i64 n, .int .i64 s, .slice none 0 0, .slice none 0 0] 96) := by
  simp only [meterB, decide_eq_true_eq] at h
  obtain ⟨h1, h2, h3, h4⟩ := h
  have h4 : tickB s = true := by simp only [tickB, decide_eq_true_eq]; omega
  have H4 := Lib.hid h4; clear h4
  go_enter Try.func12, Try.ntmps12
  go_wp2_with (go_at_call 40; refine (Tick_yes _ _ H4.out).mono ?_; rintro e w' ⟨rfl, rfl⟩)
  go_ret2
  exact ⟨rfl, rfl⟩

/-! One contract a call, for whatever tick. -/

/-- Is a call counted? -/
def good (now span last : Int) (n : Nat) : Bool := tickB now && decide (last - n < now / span)

def codeOf (now span last : Int) (n : Nat) : Int := if good now span last n then 0 else 1

def nextP (now span last : Int) (n : Nat) (rv : Nat → Nat → Int) (ok : Bool) : Int × (Nat → Nat → Int) :=
  if good now span last n then (max last (now / span), addR rv n (now / span).toNat ok) else (last, rv)
def nextR (now span last : Int) (n : Nat) (ks : List Int) (bs : List Bool) (ok : Bool) : List Int × List Bool :=
  if good now span last n then (ks ++ [now / span], bs ++ [!ok]) else (ks, bs)

theorem PM.chg0 {w w' : World} {bm br n : Nat} {span last : Int} {rv : Nat → Nat → Int} (h : PM w bm br n span last rv) (hc : Chg [] w w') : PM w' bm br n span last rv := h.chg hc (by simp) (by simp)

theorem add_any (now : Int) (ok : Bool) (w : World) {bm br n : Nat} {span last : Int} {rv : Nat → Nat → Int} (hm : PM w bm br n span last rv) (h1 : 1 ≤ n) (h2 : n ≤ 1000) (h3 : 1 ≤ span) (h3' : span ≤ 2147483647)
    (h4 : 0 ≤ last) (h5 : last ≤ 2147483647) (hb : ∀ i, i < n → 0 ≤ rv i 1 ∧ rv i 1 ≤ 4611686018427387904 ∧ 0 ≤ rv i 2 ∧ rv i 2 ≤ 4611686018427387904) :
    Calls Try.prog 14 #[.pointer (some ⟨bm, 0, none⟩), .int .i64 now, .bool ok] w fun e w' => e = .returned (.int .i64 (codeOf now span last n)) ∧
      Chg [bm, br] w w' ∧ PM w' bm br n span (nextP now span last n rv ok).1 (nextP now span last n rv ok).2 := by
  cases ht : tickB now
  · have hg : good now span last n = false := by simp [good, ht]
    simp only [codeOf, nextP, hg]
    exact (add_arg now ok w hm ht).mono fun e w' ⟨he, hc⟩ => ⟨he, hc.mono (by simp), hm.chg0 hc⟩
  · by_cases hd : now / span ≤ last - n
    · have hg : good now span last n = false := by simp only [good, ht, Bool.true_and, decide_eq_false_iff_not]; omega
      simp only [codeOf, nextP, hg]
      exact (add_gone now ok w hm ht h1 h2 h3 h3' h4 h5 hd).mono fun e w' ⟨he, hc⟩ => ⟨he, hc.mono (by simp), hm.chg0 hc⟩
    · have hg : good now span last n = true := by simp only [good, ht, Bool.true_and, decide_eq_true_eq]; omega
      simp only [codeOf, nextP, hg]
      exact add_good now ok w hm ht h1 h2 h3 h3' h4 h5 hd hb

theorem goneB_last (ks : List Int) (k : Int) (n : Nat) (hk : 0 ≤ k) (hn : 1 ≤ n) : goneB ks k n = decide (k ≤ lastOf ks - n) := by
  have key : ∀ (l : List Int) (a : Int), (l.any fun x => decide (k ≤ x - n)) = true ∨ k ≤ a - n ↔ k ≤ l.foldl max a - n := by
    intro l
    induction l with
    | nil => intro a; simp
    | cons x l ih =>
      intro a
      rw [List.foldl_cons, ← ih (max a x)]
      simp only [List.any_cons, Bool.or_eq_true, decide_eq_true_eq]
      have : k ≤ max a x - n ↔ k ≤ a - n ∨ k ≤ x - n := by omega
      rw [this]
      constructor
      · rintro ((h | h) | h)
        · exact .inr (.inr h)
        · exact .inl h
        · exact .inr (.inl h)
      · rintro (h | h | h)
        · exact .inl (.inr h)
        · exact .inr h
        · exact .inl (.inl h)
  have h := key ks 0
  have h0 : ¬ k ≤ 0 - (n : Int) := by omega
  simp only [h0, or_false] at h
  rw [Bool.eq_iff_iff, decide_eq_true_eq]
  exact h

theorem radd_any (now : Int) (ok : Bool) (w : World) {base bm n : Nat} {span : Int} {ks : List Int} {bs : List Bool} {vA vB : Value} (hm : RM w base bm n span ks bs vA vB) (h1 : 1 ≤ n) (h2 : n ≤ 1000) (h3 : 1 ≤ span) (h3' : span ≤ 2147483647)
    (hk : ∀ x ∈ ks, 0 ≤ x ∧ x ≤ 2147483647) (hlen : ks.length ≤ 8796093022208) (hbase : base ≤ w.heap.size) :
    Calls Try.prog 15 #[.pointer (some ⟨bm, 0, none⟩), .int .i64 now, .bool ok] w fun e w' => e = .returned (.int .i64 (codeOf now span (lastOf ks) n)) ∧
      RAdded w base bm n span (nextR now span (lastOf ks) n ks bs ok).1 (nextR now span (lastOf ks) n ks bs ok).2 vA vB w' := by
  have same : ∀ w', Chg [] w w' → RAdded w base bm n span ks bs vA vB w' := fun w' hc => ⟨vA, vB, hm.chg hc (by simp), hc.mono (by simp)⟩
  cases ht : tickB now
  · have hg : good now span (lastOf ks) n = false := by simp [good, ht]
    simp only [codeOf, nextR, hg]
    exact (radd_arg now ok _ w ht).mono fun e w' ⟨he, hc⟩ => ⟨he, same _ hc⟩
  · refine (radd_tick now ok w hm ht h1 h2 h3 h3' hk hlen hbase).mono fun e w' ⟨hg1, hg2⟩ => ?_
    have t0 : 0 ≤ now := by simp only [tickB, decide_eq_true_eq] at ht; exact ht.1
    have hgl := goneB_last ks (now / span) n (Int.ediv_nonneg t0 (by omega)) h1
    by_cases hd : now / span ≤ lastOf ks - n
    · have hg : good now span (lastOf ks) n = false := by simp only [good, ht, Bool.true_and, decide_eq_false_iff_not]; omega
      simp only [codeOf, nextR, hg]
      obtain ⟨he, hc⟩ := hg1 (by rw [hgl]; simpa using hd)
      exact ⟨he, same _ hc⟩
    · have hg : good now span (lastOf ks) n = true := by simp only [good, ht, Bool.true_and, decide_eq_true_eq]; omega
      simp only [codeOf, nextR, hg]
      exact hg2 (by rw [hgl]; simpa using hd)
end Go.Proofs.Ythbeednmekajaaa
