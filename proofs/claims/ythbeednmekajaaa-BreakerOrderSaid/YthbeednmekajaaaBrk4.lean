import Derived.Test.YthbeednmekajaaaBrk3
import Derived.Laws.LoneSync
namespace Go.Proofs.Ythbeednmekajaaa
open Go.RowKit

def av (v : V) : Value := .agg #[.int .u8 v.st, .int .i64 v.turn, .int .i64 v.fails, .int .i64 v.at_]

theorem turnedV_ok {v : V} (h : VOk v) {st at_ : Int} (s0 : 0 ≤ st) (s1 : st ≤ 2) (a0 : 0 ≤ at_) (a1 : at_ ≤ 2147483647) : VOk (turnedV v st at_) := by
  unfold turnedV
  split
  · exact ⟨s0, s1, by have := h.t0; show 0 ≤ v.turn + 1; omega, by show v.turn + 1 ≤ 1048575; omega, by dsimp only; omega, by dsimp only; omega, a0, a1⟩
  · exact h

theorem tick_bd {n : Int} (h : tickB n = true) : 0 ≤ n ∧ n ≤ 2147483647 := by simpa only [tickB, decide_eq_true_eq] using h

theorem div_bd {n s : Int} (h : tickB n = true) (hs : 1 ≤ s) : 0 ≤ n / s ∧ n / s ≤ 2147483647 :=
  ⟨Int.ediv_nonneg (tick_bd h).1 (by omega), Int.le_trans (Int.ediv_le_self _ (tick_bd h).1) (tick_bd h).2⟩

theorem TOk.bd {t : T} (h : TOk t = true) : 1 ≤ t.F ∧ t.F ≤ 1000 ∧ 1 ≤ t.W ∧ t.W ≤ 2147483647 ∧ 1 ≤ t.S ∧ t.S ≤ 2147483647 := by simpa only [TOk, decide_eq_true_eq] using h

theorem allowV_ok {t : T} {v : V} (h : VOk v) (now : Int) : VOk (allowV t v now).1 := by
  unfold allowV
  split
  · exact h
  · split
    · rename_i hc
      exact ⟨by dsimp only; omega, by dsimp only; omega, by have := h.t0; show 0 ≤ v.turn + 1; omega, by show v.turn + 1 ≤ 1048575; omega, by dsimp only; omega, by dsimp only; omega, by dsimp only; omega, by dsimp only; omega⟩
    · exact h

theorem doneV_ok {t : T} {v : V} (ht : TOk t = true) (h : VOk v) (pass : Int) (ok : Bool) {now : Int} (hn : tickB now = true) : VOk (doneV t v pass ok now).1 := by
  have hb := TOk.bd ht
  have hd := div_bd hn hb.2.2.2.2.1
  have hnb := tick_bd hn
  have key : ∀ f a : Int, 0 ≤ f → 0 ≤ a → a ≤ 2147483647 → VOk (if ¬ pass = v.turn + 1 ∨ v.st = 1 then (v, (251 : Int)) else if v.st = 2 then (if ok then turnedV v 0 (now / t.S) else turnedV v 1 now, 0)
      else if ok = true ∨ now / t.S < v.at_ then (v, 0) else if t.F ≤ f + 1 then (turnedV v 1 now, 0) else (⟨v.st, v.turn, f + 1, a⟩, 0)).1 := by
    intro f a hf ha ha'
    split
    · exact h
    · split
      · show VOk (if ok = true then turnedV v 0 (now / t.S) else turnedV v 1 now)
        split
        · exact turnedV_ok h (by omega) (by omega) hd.1 hd.2
        · exact turnedV_ok h (by omega) (by omega) hnb.1 hnb.2
      · split
        · exact h
        · split
          · exact turnedV_ok h (by omega) (by omega) hnb.1 hnb.2
          · rename_i hF
            exact ⟨h.s0, h.s1, h.t0, h.t1, by dsimp only; omega, by dsimp only; omega, ha, ha'⟩
  unfold doneV
  by_cases hlt : v.at_ < now / t.S
  · simp only [if_pos hlt]
    exact key 0 (now / t.S) (by omega) hd.1 hd.2
  · simp only [if_neg hlt]
    exact key v.fails v.at_ h.f0 h.a0 h.a1

/-- A breaker at block bb. -/
structure Brk (w : World) (bb : Nat) (t : T) (v : V) : Prop where
  b : Blk w bb 107 #[.int .i64 t.F, .int .i64 t.W, .int .i64 t.S, .int .u64 (encV v)]
  t : TOk t = true
  v : VOk v

theorem Brk.chg {w w' : World} {S : List Nat} {bb : Nat} {t : T} {v : V} (h : Brk w bb t v) (hc : Chg S w w') (hn : bb ∉ S) : Brk w' bb t v := ⟨h.b.chg hc hn, h.t, h.v⟩

theorem load_any (bb : Nat) (x : Int) (w : World) (hc : w.cell? ⟨bb, 3, none⟩ = some (.int .u64 x)) :
    Calls Try.prog 45 #[.pointer (some ⟨bb, 3, none⟩)] w fun e w' => e = .returned (.int .u64 x) ∧ w = w' := by
  have hl := run_call_load (P := Try.prog) Try.func58 (by kernel_rfl) (by kernel_rfl) (by kernel_rfl) .u64 (by kernel_rfl) hc
  go_enter Try.func45, Try.ntmps45
  go_wp2
  go_ret
  exact ⟨rfl, rfl⟩

theorem cas_hit (bb : Nat) (x y : Int) (w : World) (hc : w.cell? ⟨bb, 3, none⟩ = some (.int .u64 x)) (hf : w.frozen? ⟨bb, 3, none⟩ = false) :
    Calls Try.prog 76 #[.pointer (some ⟨bb, 3, none⟩), .int .u64 x, .int .u64 y] w fun e w' => e = .returned (.bool true) ∧ w' = w.setCell ⟨bb, 3, none⟩ (.int .u64 y) := by
  have hl := run_call_cas_hit (P := Try.prog) Try.func85 (by kernel_rfl) (by kernel_rfl) (by kernel_rfl) .u64 (by kernel_rfl) (y := y) hc hf
  go_enter Try.func76, Try.ntmps76
  go_wp2
  go_ret
  exact ⟨rfl, rfl⟩

theorem cas_miss (bb : Nat) (x o y : Int) (w : World) (hc : w.cell? ⟨bb, 3, none⟩ = some (.int .u64 x)) (hf : w.frozen? ⟨bb, 3, none⟩ = false) (hne : ¬ x = o) :
    Calls Try.prog 76 #[.pointer (some ⟨bb, 3, none⟩), .int .u64 o, .int .u64 y] w fun e w' => e = .returned (.bool false) ∧ w = w' := by
  have hl := run_call_cas_miss (P := Try.prog) Try.func85 (by kernel_rfl) (by kernel_rfl) (by kernel_rfl) .u64 (by kernel_rfl) (y := y) hc hf hne
  clear hne
  go_enter Try.func76, Try.ntmps76
  go_wp2
  go_ret
  exact ⟨rfl, rfl⟩

set_option maxHeartbeats 1000000 in
theorem check_any (t : T) (w : World) : Calls Try.prog 41 #[.agg #[.int .i64 t.F, .int .i64 t.W, .int .i64 t.S]] w fun e w' => e = .returned (.bool (TOk t)) ∧ Chg [] w w' := by
  have HT : ∀ b, Hid (TOk t = b) → (Calls Try.prog 41 #[.agg #[.int .i64 t.F, .int .i64 t.W, .int .i64 t.S]] w fun e w' => e = .returned (.bool b) ∧ Chg [] w w') → (Calls Try.prog 41 #[.agg #[.int .i64 t.F, .int .i64 t.W, .int .i64 t.S]] w fun e w' => e = .returned (.bool (TOk t)) ∧ Chg [] w w') := by
    intro b hb h
    rw [hb.out]; exact h
  by_cases h1 : 1 ≤ t.F
  · by_cases h2 : t.F ≤ 1000
    · by_cases h3 : 1 ≤ t.W
      · cases h4 : tickB t.W
        · refine HT false ?_ ?_
          · show _ = _; simp only [tickB, decide_eq_false_iff_not] at h4; simp only [TOk, decide_eq_false_iff_not]; omega
          · have H4 := Lib.hid h4; clear h4
            go_enter Try.func41, Try.ntmps41
            go_wp2_with (go_at_call_of 39 (Value.int .i64 t.W); refine (tick_no _ _ H4.out).mono ?_; rintro e w' ⟨rfl, rfl⟩)
            go_ret
            exact ⟨rfl, (Chg.refl _ _).alloc _⟩
        · by_cases h5 : 1 ≤ t.S
          · cases h6 : tickB t.S
            · refine HT false ?_ ?_
              · show _ = _; simp only [tickB, decide_eq_false_iff_not] at h6; simp only [TOk, decide_eq_false_iff_not]; omega
              · have H4 := Lib.hid h4; clear h4
                have H6 := Lib.hid h6; clear h6
                go_enter Try.func41, Try.ntmps41
                go_wp2_with fail
                refine (tick_yes _ _ H4.out).mono ?_
                rintro e w' ⟨rfl, rfl⟩
                go_wp2_with fail
                refine (tick_no _ _ H6.out).mono ?_
                rintro e w' ⟨rfl, rfl⟩
                go_wp2_with fail
                go_ret
                exact ⟨rfl, (Chg.refl _ _).alloc _⟩
            · refine HT true ?_ ?_
              · show _ = _; have := tick_bd h6; have := tick_bd h4; simp only [TOk, decide_eq_true_eq]; omega
              · have H4 := Lib.hid h4; clear h4
                have H6 := Lib.hid h6; clear h6
                go_enter Try.func41, Try.ntmps41
                go_wp2_with fail
                refine (tick_yes _ _ H4.out).mono ?_
                rintro e w' ⟨rfl, rfl⟩
                go_wp2_with fail
                refine (tick_yes _ _ H6.out).mono ?_
                rintro e w' ⟨rfl, rfl⟩
                go_wp2_with fail
                go_ret
                exact ⟨rfl, (Chg.refl _ _).alloc _⟩
          · refine HT false ?_ ?_
            · show _ = _; simp only [TOk, decide_eq_false_iff_not]; omega
            · have H4 := Lib.hid h4; clear h4
              go_enter Try.func41, Try.ntmps41
              go_wp2_with (go_at_call_of 39 (Value.int .i64 t.W); refine (tick_yes _ _ H4.out).mono ?_; rintro e w' ⟨rfl, rfl⟩)
              go_ret
              exact ⟨rfl, (Chg.refl _ _).alloc _⟩
      · refine HT false ?_ ?_
        · show _ = _; simp only [TOk, decide_eq_false_iff_not]; omega
        · go_enter Try.func41, Try.ntmps41
          go_wp2_with fail
          go_ret
          exact ⟨rfl, (Chg.refl _ _).alloc _⟩
    · refine HT false ?_ ?_
      · show _ = _; simp only [TOk, decide_eq_false_iff_not]; omega
      · go_enter Try.func41, Try.ntmps41
        go_wp2_with fail
        go_ret
        exact ⟨rfl, (Chg.refl _ _).alloc _⟩
  · refine HT false ?_ ?_
    · show _ = _; simp only [TOk, decide_eq_false_iff_not]; omega
    · go_enter Try.func41, Try.ntmps41
      go_wp2_with fail
      go_ret
      exact ⟨rfl, (Chg.refl _ _).alloc _⟩

set_option maxHeartbeats 1000000 in
theorem may_any (t : T) (w : World) : Calls Try.prog 21 #[.agg #[.int .i64 t.F, .int .i64 t.W, .int .i64 t.S]] w fun e w' => e = .returned (.bool (TOk t)) ∧ Chg [] w w' := by
  have HT : ∀ b, Hid (TOk t = b) → (Calls Try.prog 21 #[.agg #[.int .i64 t.F, .int .i64 t.W, .int .i64 t.S]] w fun e w' => e = .returned (.bool b) ∧ Chg [] w w') → (Calls Try.prog 21 #[.agg #[.int .i64 t.F, .int .i64 t.W, .int .i64 t.S]] w fun e w' => e = .returned (.bool (TOk t)) ∧ Chg [] w w') := by
    intro b hb h
    rw [hb.out]; exact h
  by_cases h1 : 1 ≤ t.F
  · by_cases h2 : t.F ≤ 1000
    · by_cases h3 : 1 ≤ t.W
      · cases h4 : tickB t.W
        · refine HT false ?_ ?_
          · show _ = _; simp only [tickB, decide_eq_false_iff_not] at h4; simp only [TOk, decide_eq_false_iff_not]; omega
          · have H4 := Lib.hid h4; clear h4
            go_enter Try.func21, Try.ntmps21
            go_wp2_with (go_at_call_of 40 (Value.int .i64 t.W); refine (Tick_no _ _ H4.out).mono ?_; rintro e w' ⟨rfl, rfl⟩)
            go_ret
            exact ⟨rfl, (Chg.refl _ _).alloc _⟩
        · by_cases h5 : 1 ≤ t.S
          · cases h6 : tickB t.S
            · refine HT false ?_ ?_
              · show _ = _; simp only [tickB, decide_eq_false_iff_not] at h6; simp only [TOk, decide_eq_false_iff_not]; omega
              · have H4 := Lib.hid h4; clear h4
                have H6 := Lib.hid h6; clear h6
                go_enter Try.func21, Try.ntmps21
                go_wp2_with fail
                refine (Tick_yes _ _ H4.out).mono ?_
                rintro e w' ⟨rfl, rfl⟩
                go_wp2_with fail
                refine (Tick_no _ _ H6.out).mono ?_
                rintro e w' ⟨rfl, rfl⟩
                go_wp2_with fail
                go_ret
                exact ⟨rfl, (Chg.refl _ _).alloc _⟩
            · refine HT true ?_ ?_
              · show _ = _; have := tick_bd h6; have := tick_bd h4; simp only [TOk, decide_eq_true_eq]; omega
              · have H4 := Lib.hid h4; clear h4
                have H6 := Lib.hid h6; clear h6
                go_enter Try.func21, Try.ntmps21
                go_wp2_with fail
                refine (Tick_yes _ _ H4.out).mono ?_
                rintro e w' ⟨rfl, rfl⟩
                go_wp2_with fail
                refine (Tick_yes _ _ H6.out).mono ?_
                rintro e w' ⟨rfl, rfl⟩
                go_wp2_with fail
                go_ret
                exact ⟨rfl, (Chg.refl _ _).alloc _⟩
          · refine HT false ?_ ?_
            · show _ = _; simp only [TOk, decide_eq_false_iff_not]; omega
            · have H4 := Lib.hid h4; clear h4
              go_enter Try.func21, Try.ntmps21
              go_wp2_with (go_at_call_of 40 (Value.int .i64 t.W); refine (Tick_yes _ _ H4.out).mono ?_; rintro e w' ⟨rfl, rfl⟩)
              go_ret
              exact ⟨rfl, (Chg.refl _ _).alloc _⟩
      · refine HT false ?_ ?_
        · show _ = _; simp only [TOk, decide_eq_false_iff_not]; omega
        · go_enter Try.func21, Try.ntmps21
          go_wp2_with fail
          go_ret
          exact ⟨rfl, (Chg.refl _ _).alloc _⟩
    · refine HT false ?_ ?_
      · show _ = _; simp only [TOk, decide_eq_false_iff_not]; omega
      · go_enter Try.func21, Try.ntmps21
        go_wp2_with fail
        go_ret
        exact ⟨rfl, (Chg.refl _ _).alloc _⟩
  · refine HT false ?_ ?_
    · show _ = _; simp only [TOk, decide_eq_false_iff_not]; omega
    · go_enter Try.func21, Try.ntmps21
      go_wp2_with fail
      go_ret
      exact ⟨rfl, (Chg.refl _ _).alloc _⟩
end Go.Proofs.Ythbeednmekajaaa
