import Derived.Test.YthbeednmekajaaaMeter1
namespace Go.Proofs.Ythbeednmekajaaa
open Go.RowKit

theorem quiet_left {P : Program} {f : FuncId} {args : Array Value} {w : World} {n : Nat} {v : Value}
    (h : Calls P f args (w.drewN n) fun e w' => e = .returned v ∧ w.drewN n = w') : Calls P f args (w.drewN n) fun e w' => e = .returned v ∧ ∃ m, w' = w.drewN m :=
  h.mono fun _ _ ⟨he, hm⟩ => ⟨he, n, hm.symm⟩

/-- The program's meter at block bm, its ring at block br: n buckets of three numbers. -/
structure PM (w : World) (bm br n : Nat) (span last : Int) (rv : Nat → Nat → Int) : Prop where
  m : Blk w bm 94 #[.slice (some ⟨br, 0, none⟩) n n, .int .i64 span, .int .i64 last]
  r : ∀ i, i < n → ∀ j, j < 3 → w.cell? ⟨br, i * 3 + j, none⟩ = some (.int .i64 (rv i j))
  f : ∀ i, w.frozen? ⟨br, i, none⟩ = false
  ne : bm ≠ br
  b : ∃ cs, Blk w br 99 cs

theorem PM.lt {w : World} {bm br n : Nat} {span last : Int} {rv : Nat → Nat → Int} (h : PM w bm br n span last rv) : br < w.heap.size := by
  obtain ⟨cs, hcs⟩ := h.b
  exact hcs.lt

theorem PM.chg {w w' : World} {S : List Nat} {bm br n : Nat} {span last : Int} {rv : Nat → Nat → Int} (h : PM w bm br n span last rv) (hc : Chg S w w') (h1 : bm ∉ S) (h2 : br ∉ S) : PM w' bm br n span last rv :=
  ⟨h.m.chg hc h1, fun i hi j hj => (hc.cell (p := ⟨br, i * 3 + j, none⟩) h.lt h2).trans (h.r i hi j hj), fun i => (hc.frozen (p := ⟨br, i, none⟩) h.lt h2).trans (h.f i), h.ne, by obtain ⟨cs, hcs⟩ := h.b; exact ⟨cs, hcs.chg hc h2⟩⟩

set_option maxHeartbeats 400000 in
theorem add_arg (now : Int) (ok : Bool) (w : World) {bm br n : Nat} {span last : Int} {rv : Nat → Nat → Int} (_hm : PM w bm br n span last rv) (ht : tickB now = false) :
    Calls Try.prog 14 #[.pointer (some ⟨bm, 0, none⟩), .int .i64 now, .bool ok] w fun e w' => e = .returned (.int .i64 1) ∧ Chg [] w w' := by
  have H4 := Lib.hid ht; clear ht
  go_enter Try.func14, Try.ntmps14
  go_wp2_with fail
  go_quiet ((go_at_call 39; exact quiet_left (tick_no _ _ H4.out)))
  go_wp2_with fail
  go_ret
  exact ⟨rfl, (Chg.refl _ _).drewN _⟩
  
set_option maxHeartbeats 400000 in
theorem add_gone (now : Int) (ok : Bool) (w : World) {bm br n : Nat} {span last : Int} {rv : Nat → Nat → Int} (hm : PM w bm br n span last rv) (ht : tickB now = true) (h1 : 1 ≤ n) (h2 : n ≤ 1000) (h3 : 1 ≤ span) (h3' : span ≤ 2147483647)
    (h4 : 0 ≤ last) (h5 : last ≤ 2147483647) (hg : now / span ≤ last - n) :
    Calls Try.prog 14 #[.pointer (some ⟨bm, 0, none⟩), .int .i64 now, .bool ok] w fun e w' => e = .returned (.int .i64 1) ∧ Chg [] w w' := by
  have H4 := Lib.hid ht; 
  simp only [tickB, decide_eq_true_eq] at ht
  obtain ⟨t0, t1⟩ := ht
  have c0 := hm.m.cell 0
  have c1 := hm.m.cell 1
  have c2 := hm.m.cell 2
  simp at c0 c1 c2
  have q0 : 0 ≤ now / span := Int.ediv_nonneg t0 (by omega)
  have q1 : now / span ≤ 2147483647 := Int.le_trans (Int.ediv_le_self _ t0) t1
  have hd : decide (now / span ≤ last - n) = true := by simpa using hg
  clear hm
  go_enter Try.func14, Try.ntmps14
  go_wp2_with fail
  go_quiet ((go_at_call 39; exact quiet_left (tick_yes _ _ H4.out)))
  go_wp2_with fail
  go_ret
  exact ⟨rfl, (Chg.refl _ _).drewN _⟩


def upd (rv : Nat → Nat → Int) (i j : Nat) (v : Int) : Nat → Nat → Int := fun a b => if a = i ∧ b = j then v else rv a b

theorem PM.drewN {w : World} {bm br n : Nat} {span last : Int} {rv : Nat → Nat → Int} (h : PM w bm br n span last rv) (q : Nat) : PM (w.drewN q) bm br n span last rv := ⟨h.m, h.r, h.f, h.ne, h.b⟩
theorem PM.setLast {w : World} {bm br n : Nat} {span last : Int} {rv : Nat → Nat → Int} (h : PM w bm br n span last rv) (v : Int) : PM (w.setCell ⟨bm, 2, none⟩ (.int .i64 v)) bm br n span v rv :=
  ⟨by have := h.m.set_ 2 (.int .i64 v); simpa using this, fun i hi j hj => by rw [World.cell?_setCell_other _ _ _ _ (by intro e; injection e with e1; exact h.ne e1)]; exact h.r i hi j hj,
    fun i => by rw [World.frozen?_setCell]; exact h.f i, h.ne, by obtain ⟨cs, hcs⟩ := h.b; exact ⟨cs, hcs.far (p := ⟨bm, 2, none⟩) (fun e => h.ne e.symm) _⟩⟩
theorem PM.setRing {w : World} {bm br n : Nat} {span last : Int} {rv : Nat → Nat → Int} (h : PM w bm br n span last rv) (i j : Nat) (hi : i < n) (hj : j < 3) (v : Int) :
    PM (w.setCell ⟨br, i * 3 + j, none⟩ (.int .i64 v)) bm br n span last (upd rv i j v) :=
  ⟨h.m.far (p := ⟨br, i * 3 + j, none⟩) h.ne _, fun a ha b hb => by
    unfold upd
    by_cases e : a = i ∧ b = j
    · obtain ⟨rfl, rfl⟩ := e
      rw [if_pos ⟨rfl, rfl⟩]
      exact World.cell?_setCell_same _ _ _ (h.r a ha b hb)
    · rw [if_neg e, World.cell?_setCell_other _ _ _ _ (by intro e1; injection e1 with _ e2; exact e (by omega))]
      exact h.r a ha b hb,
    fun i => by rw [World.frozen?_setCell]; exact h.f i, h.ne, by obtain ⟨cs, hcs⟩ := h.b; exact ⟨_, hcs.set_ (i * 3 + j) _⟩⟩
theorem PM.setRing0 {w : World} {bm br n : Nat} {span last : Int} {rv : Nat → Nat → Int} (h : PM w bm br n span last rv) (i : Nat) (hi : i < n) (v : Int) :
    PM (w.setCell ⟨br, i * 3, none⟩ (.int .i64 v)) bm br n span last (upd rv i 0 v) := h.setRing i 0 hi (by omega) v
theorem PM.congr {w : World} {bm br n : Nat} {span last last' : Int} {rv rv' : Nat → Nat → Int} (h : PM w bm br n span last rv) (hl : last = last') (e : ∀ i, i < n → ∀ j, j < 3 → rv i j = rv' i j) : PM w bm br n span last' rv' :=
  ⟨hl ▸ h.m, fun i hi j hj => by rw [← e i hi j hj]; exact h.r i hi j hj, h.f, h.ne, h.b⟩

/-- The ring behind a call that is counted. -/
def addR (rv : Nat → Nat → Int) (n k : Nat) (ok : Bool) : Nat → Nat → Int := fun i j =>
  if i = k % n then
    match j with
    | 0 => k
    | 1 => (if rv i 0 = k then rv i 1 else 0) + 1
    | _ => (if rv i 0 = k then rv i 2 else 0) + (if ok then 0 else 1)
  else rv i j

theorem three {j : Nat} (h : j < 3) : j = 0 ∨ j = 1 ∨ j = 2 := by omega

section
variable {w : World} {bm br n k : Nat} {span last L : Int} {rv : Nat → Nat → Int} {ok : Bool}
theorem close_new (hm : PM w bm br n span last rv) (a b : Nat) (b1 : k % n < n) (hL : L = max last k) (e : (rv (k % n) 0 != (k : Int)) = true) (o : (!ok) = false) :
    Chg [bm, br] w (((((((w.drewN a).setCell ⟨bm, 2, none⟩ (.int .i64 L)).drewN b).setCell ⟨br, k % n * 3, none⟩ (.int .i64 k)).setCell ⟨br, k % n * 3 + 1, none⟩ (.int .i64 0)).setCell ⟨br, k % n * 3 + 2, none⟩ (.int .i64 0)).setCell ⟨br, k % n * 3 + 1, none⟩ (.int .i64 1)) ∧
    PM (((((((w.drewN a).setCell ⟨bm, 2, none⟩ (.int .i64 L)).drewN b).setCell ⟨br, k % n * 3, none⟩ (.int .i64 k)).setCell ⟨br, k % n * 3 + 1, none⟩ (.int .i64 0)).setCell ⟨br, k % n * 3 + 2, none⟩ (.int .i64 0)).setCell ⟨br, k % n * 3 + 1, none⟩ (.int .i64 1)) bm br n span (max last k) (addR rv n k ok) := by
  refine ⟨?_, (((((((hm.drewN a).setLast L).drewN b).setRing0 _ b1 k).setRing _ 1 b1 (by omega) 0).setRing _ 2 b1 (by omega) 0).setRing _ 1 b1 (by omega) 1).congr hL ?_⟩
  · repeat (with_reducible first | exact Chg.refl _ _ | refine Chg.drewN ?_ _ | refine Chg.setCell ?_ (Or.inl (by simp)) _)
  · have o' : ok = true := by simpa using o
    have e' : ¬ rv (k % n) 0 = k := by simpa using e
    subst o'
    intro i hi j hj
    by_cases hi' : i = k % n
    · subst hi'
      rcases three hj with rfl | rfl | rfl <;> simp [upd, addR, e']
    · simp [upd, addR, hi']
theorem close_new_bad (hm : PM w bm br n span last rv) (a b : Nat) (b1 : k % n < n) (hL : L = max last k) (e : (rv (k % n) 0 != (k : Int)) = true) (o : (!ok) = true) :
    Chg [bm, br] w ((((((((w.drewN a).setCell ⟨bm, 2, none⟩ (.int .i64 L)).drewN b).setCell ⟨br, k % n * 3, none⟩ (.int .i64 k)).setCell ⟨br, k % n * 3 + 1, none⟩ (.int .i64 0)).setCell ⟨br, k % n * 3 + 2, none⟩ (.int .i64 0)).setCell ⟨br, k % n * 3 + 1, none⟩ (.int .i64 1)).setCell ⟨br, k % n * 3 + 2, none⟩ (.int .i64 1)) ∧
    PM ((((((((w.drewN a).setCell ⟨bm, 2, none⟩ (.int .i64 L)).drewN b).setCell ⟨br, k % n * 3, none⟩ (.int .i64 k)).setCell ⟨br, k % n * 3 + 1, none⟩ (.int .i64 0)).setCell ⟨br, k % n * 3 + 2, none⟩ (.int .i64 0)).setCell ⟨br, k % n * 3 + 1, none⟩ (.int .i64 1)).setCell ⟨br, k % n * 3 + 2, none⟩ (.int .i64 1)) bm br n span (max last k) (addR rv n k ok) := by
  refine ⟨?_, ((((((((hm.drewN a).setLast L).drewN b).setRing0 _ b1 k).setRing _ 1 b1 (by omega) 0).setRing _ 2 b1 (by omega) 0).setRing _ 1 b1 (by omega) 1).setRing _ 2 b1 (by omega) 1).congr hL ?_⟩
  · repeat (with_reducible first | exact Chg.refl _ _ | refine Chg.drewN ?_ _ | refine Chg.setCell ?_ (Or.inl (by simp)) _)
  · have o' : ok = false := by simpa using o
    have e' : ¬ rv (k % n) 0 = k := by simpa using e
    subst o'
    intro i hi j hj
    by_cases hi' : i = k % n
    · subst hi'
      rcases three hj with rfl | rfl | rfl <;> simp [upd, addR, e']
    · simp [upd, addR, hi']
theorem close_old (hm : PM w bm br n span last rv) (a b : Nat) (b1 : k % n < n) (hL : L = max last k) (e : (rv (k % n) 0 != (k : Int)) = false) (o : (!ok) = false) :
    Chg [bm, br] w ((((w.drewN a).setCell ⟨bm, 2, none⟩ (.int .i64 L)).drewN b).setCell ⟨br, k % n * 3 + 1, none⟩ (.int .i64 (rv (k % n) 1 + 1))) ∧
    PM ((((w.drewN a).setCell ⟨bm, 2, none⟩ (.int .i64 L)).drewN b).setCell ⟨br, k % n * 3 + 1, none⟩ (.int .i64 (rv (k % n) 1 + 1))) bm br n span (max last k) (addR rv n k ok) := by
  refine ⟨?_, ((((hm.drewN a).setLast L).drewN b).setRing _ 1 b1 (by omega) _).congr hL ?_⟩
  · repeat (with_reducible first | exact Chg.refl _ _ | refine Chg.drewN ?_ _ | refine Chg.setCell ?_ (Or.inl (by simp)) _)
  · have o' : ok = true := by simpa using o
    have e' : rv (k % n) 0 = k := by simpa using e
    subst o'
    intro i hi j hj
    by_cases hi' : i = k % n
    · subst hi'
      rcases three hj with rfl | rfl | rfl <;> simp [upd, addR, e']
    · simp [upd, addR, hi']
theorem close_old_bad (hm : PM w bm br n span last rv) (a b : Nat) (b1 : k % n < n) (hL : L = max last k) (e : (rv (k % n) 0 != (k : Int)) = false) (o : (!ok) = true) :
    Chg [bm, br] w (((((w.drewN a).setCell ⟨bm, 2, none⟩ (.int .i64 L)).drewN b).setCell ⟨br, k % n * 3 + 1, none⟩ (.int .i64 (rv (k % n) 1 + 1))).setCell ⟨br, k % n * 3 + 2, none⟩ (.int .i64 (rv (k % n) 2 + 1))) ∧
    PM (((((w.drewN a).setCell ⟨bm, 2, none⟩ (.int .i64 L)).drewN b).setCell ⟨br, k % n * 3 + 1, none⟩ (.int .i64 (rv (k % n) 1 + 1))).setCell ⟨br, k % n * 3 + 2, none⟩ (.int .i64 (rv (k % n) 2 + 1))) bm br n span (max last k) (addR rv n k ok) := by
  refine ⟨?_, (((((hm.drewN a).setLast L).drewN b).setRing _ 1 b1 (by omega) _).setRing _ 2 b1 (by omega) _).congr hL ?_⟩
  · repeat (with_reducible first | exact Chg.refl _ _ | refine Chg.drewN ?_ _ | refine Chg.setCell ?_ (Or.inl (by simp)) _)
  · have o' : ok = false := by simpa using o
    have e' : rv (k % n) 0 = k := by simpa using e
    subst o'
    intro i hi j hj
    by_cases hi' : i = k % n
    · subst hi'
      rcases three hj with rfl | rfl | rfl <;> simp [upd, addR, e']
    · simp [upd, addR, hi']
end

set_option maxHeartbeats 800000 in
theorem add_good (now : Int) (ok : Bool) (w : World) {bm br n : Nat} {span last : Int} {rv : Nat → Nat → Int} (hm : PM w bm br n span last rv) (ht : tickB now = true) (h1 : 1 ≤ n) (h2 : n ≤ 1000) (h3 : 1 ≤ span) (h3' : span ≤ 2147483647)
    (h4 : 0 ≤ last) (h5 : last ≤ 2147483647) (hg : ¬ now / span ≤ last - n) (hb : ∀ i, i < n → 0 ≤ rv i 1 ∧ rv i 1 ≤ 4611686018427387904 ∧ 0 ≤ rv i 2 ∧ rv i 2 ≤ 4611686018427387904) :
    Calls Try.prog 14 #[.pointer (some ⟨bm, 0, none⟩), .int .i64 now, .bool ok] w fun e w' => e = .returned (.int .i64 0) ∧
      Chg [bm, br] w w' ∧ PM w' bm br n span (max last (now / span)) (addR rv n (now / span).toNat ok) := by
  have H4 := Lib.hid ht
  simp only [tickB, decide_eq_true_eq] at ht
  obtain ⟨t0, t1⟩ := ht
  have c0 := hm.m.cell 0
  have c1 := hm.m.cell 1
  have c2 := hm.m.cell 2
  have f0 := hm.m.frozen 2
  have fr := hm.f
  simp at c0 c1 c2
  have q0 : 0 ≤ now / span := Int.ediv_nonneg t0 (by omega)
  have q1 : now / span ≤ 2147483647 := Int.le_trans (Int.ediv_le_self _ t0) t1
  have hne := hm.ne
  obtain ⟨k, hk⟩ : ∃ k : Nat, now / span = k := ⟨(now / span).toNat, by omega⟩
  rw [hk] at q0 q1 hg ⊢
  rw [Int.toNat_natCast]
  have hd : decide ((k : Int) ≤ last - n) = false := by simpa using hg
  clear hg
  have b0 : 0 ≤ k % n := Nat.zero_le _
  have b1 : k % n < n := Nat.mod_lt _ (by omega)
  have b2 : (k : Int) % (n : Int) < n := by omega
  have b3 : 0 ≤ (k : Int) % (n : Int) := by omega
  have r0 := hm.r (k % n) b1 0 (by omega)
  have r1 := hm.r (k % n) b1 1 (by omega)
  have r2 := hm.r (k % n) b1 2 (by omega)
  simp only [Nat.add_zero] at r0
  obtain ⟨p1, p2, p3, p4⟩ := hb (k % n) b1
  clear hb
  have HM := Lib.hid hm; clear hm
  have hlt := HM.out.lt
  have hlm := HM.out.m.lt
  go_enter Try.func14, Try.ntmps14
  go_wp2_with fail
  go_quiet ((go_at_call 39; exact quiet_left (tick_yes _ _ H4.out)))
  go_wp2_with fail
  all_goals (go_quiet (fail); go_wp2_with fail)
  all_goals go_ret
  all_goals refine ⟨rfl, ?_⟩
  all_goals first
    | ((with_reducible refine close_new HM.out _ _ b1 ?_ ?_ ?_) <;> first | assumption | omega)
    | ((with_reducible refine close_new_bad HM.out _ _ b1 ?_ ?_ ?_) <;> first | assumption | omega)
    | ((with_reducible refine close_old HM.out _ _ b1 ?_ ?_ ?_) <;> first | assumption | omega)
    | ((with_reducible refine close_old_bad HM.out _ _ b1 ?_ ?_ ?_) <;> first | assumption | omega)
end Go.Proofs.Ythbeednmekajaaa
