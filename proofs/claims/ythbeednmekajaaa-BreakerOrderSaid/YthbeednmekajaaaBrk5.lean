import Derived.Test.YthbeednmekajaaaBrk4
namespace Go.Proofs.Ythbeednmekajaaa
open Go.RowKit

/-- A call under way; what it read and what it would put there, as views. -/
structure R where
  done : Bool
  of_ : Int
  ok : Bool
  now : Int
  pass : Int
  rp : Int
  rc : Int
  rt : Int
  read : Bool
  old : V
  next : V
  over : Bool

def rcells (r : R) : List Value := [.bool r.done, .int .i64 r.of_, .bool r.ok, .int .i64 r.now, .int .i64 r.pass, .int .i64 r.rp, .int .i64 r.rc, .int .i64 r.rt, .bool r.read, .int .u64 (encV r.old), .int .u64 (encV r.next), .bool r.over]

/-- The run r lies at g from o on. -/
structure RunAt (w : World) (g o : Nat) (r : R) : Prop where
  c : ∀ k u, (rcells r)[k]? = some u → w.cell? ⟨g, o + k, none⟩ = some u
  f : ∀ k, w.frozen? ⟨g, k, none⟩ = false
  old : VOk r.old
  next : VOk r.next
  now : tickB r.now = true

theorem RunAt.cells {w : World} {g o : Nat} {r : R} (h : RunAt w g o r) :
    (w.cell? ⟨g, o, none⟩ = some (.bool r.done) ∧ w.cell? ⟨g, o + 1, none⟩ = some (.int .i64 r.of_) ∧ w.cell? ⟨g, o + 2, none⟩ = some (.bool r.ok) ∧ w.cell? ⟨g, o + 3, none⟩ = some (.int .i64 r.now) ∧ w.cell? ⟨g, o + 4, none⟩ = some (.int .i64 r.pass)) ∧
    (w.cell? ⟨g, o + 5, none⟩ = some (.int .i64 r.rp) ∧ w.cell? ⟨g, o + 6, none⟩ = some (.int .i64 r.rc) ∧ w.cell? ⟨g, o + 7, none⟩ = some (.int .i64 r.rt)) ∧
    (w.cell? ⟨g, o + 8, none⟩ = some (.bool r.read) ∧ w.cell? ⟨g, o + 9, none⟩ = some (.int .u64 (encV r.old)) ∧ w.cell? ⟨g, o + 10, none⟩ = some (.int .u64 (encV r.next)) ∧ w.cell? ⟨g, o + 11, none⟩ = some (.bool r.over)) :=
  ⟨⟨h.c 0 _ rfl, h.c 1 _ rfl, h.c 2 _ rfl, h.c 3 _ rfl, h.c 4 _ rfl⟩, ⟨h.c 5 _ rfl, h.c 6 _ rfl, h.c 7 _ rfl⟩, h.c 8 _ rfl, h.c 9 _ rfl, h.c 10 _ rfl, h.c 11 _ rfl⟩

theorem RunAt.lt {w : World} {g o : Nat} {r : R} (h : RunAt w g o r) : g < w.heap.size := World.block_lt_of_cell? w ⟨g, o, none⟩ (h.c 0 _ rfl)

theorem RunAt.set {w : World} {g o : Nat} {r r' : R} (h : RunAt w g o r) (k : Nat) (u : Value) (hk : k < 12) (e : rcells r' = (rcells r).set k u) (ho : VOk r'.old) (hn : VOk r'.next) (ht : tickB r'.now = true) : RunAt (w.setCell ⟨g, o + k, none⟩ u) g o r' :=
  ⟨fun j x hx => by
    rw [e] at hx
    by_cases hj : k = j
    · subst hj
      rw [List.getElem?_set_self (by simp [rcells]; omega)] at hx
      injection hx with hx
      subst hx
      obtain ⟨y, hy⟩ : ∃ y, (rcells r)[k]? = some y := ⟨_, List.getElem?_eq_getElem (by simp [rcells]; omega)⟩
      exact World.cell?_setCell_same _ _ _ (h.c k y hy)
    · rw [List.getElem?_set_ne hj] at hx
      rw [World.cell?_setCell_other _ _ _ _ (by intro e1; injection e1 with _ e2; omega)]
      exact h.c j x hx,
    fun j => by rw [World.frozen?_setCell]; exact h.f j, ho, hn, ht⟩

theorem RunAt.far {w : World} {g o : Nat} {r : R} (h : RunAt w g o r) {p : Addr} (hp : g ≠ p.block) (u : Value) : RunAt (w.setCell p u) g o r :=
  ⟨fun j x hx => by rw [World.cell?_setCell_other _ _ _ _ (by rintro rfl; exact hp rfl)]; exact h.c j x hx, fun j => by rw [World.frozen?_setCell]; exact h.f j, h.old, h.next, h.now⟩
theorem RunAt.chg {w w' : World} {S : List Nat} {g o : Nat} {r : R} (h : RunAt w g o r) (hc : Chg S w w') (hn : g ∉ S) : RunAt w' g o r :=
  ⟨fun j x hx => (hc.cell (p := ⟨g, o + j, none⟩) h.lt hn).trans (h.c j x hx), fun j => (hc.frozen (p := ⟨g, j, none⟩) h.lt hn).trans (h.f j), h.old, h.next, h.now⟩

theorem Brk.far {w : World} {bb : Nat} {t : T} {v : V} (h : Brk w bb t v) {p : Addr} (hp : bb ≠ p.block) (u : Value) : Brk (w.setCell p u) bb t v := ⟨h.b.far hp u, h.t, h.v⟩


/-- What a step leaves. -/
def StepPost (w : World) (bb g o : Nat) (t : T) (v' : V) (r' : R) (e : Ending) (w' : World) : Prop :=
  e = .returned (.tuple #[]) ∧ Brk w' bb t v' ∧ RunAt w' g o r' ∧ Chg [bb, g] w w' ∧ ∀ k, (k < o ∨ o + 12 ≤ k) → w'.cell? ⟨g, k, none⟩ = w.cell? ⟨g, k, none⟩

/-- Only the cells of g from o on, and block bb. -/
structure Only (bb g o : Nat) (w w' : World) : Prop where
  c : Chg [bb, g] w w'
  k : ∀ k, (k < o ∨ o + 12 ≤ k) → w'.cell? ⟨g, k, none⟩ = w.cell? ⟨g, k, none⟩
theorem Only.refl (bb g o : Nat) (w : World) : Only bb g o w w := ⟨Chg.refl _ _, fun _ _ => rfl⟩
theorem Only.drew {bb g o : Nat} {w w' : World} (h : Only bb g o w w') : Only bb g o w w'.drew := ⟨h.c.drew, h.k⟩
theorem Only.drewN {bb g o : Nat} {w w' : World} (h : Only bb g o w w') (n : Nat) : Only bb g o w (w'.drewN n) := ⟨h.c.drewN n, h.k⟩
theorem Only.run {bb g o : Nat} {w w' : World} (h : Only bb g o w w') (j : Nat) (hj : j < 12) (u : Value) : Only bb g o w (w'.setCell ⟨g, o + j, none⟩ u) :=
  ⟨h.c.setCell (.inl (by simp)) u, fun k hk => by rw [World.cell?_setCell_other _ _ _ _ (by intro e; injection e with _ e2; omega)]; exact h.k k hk⟩
theorem Only.far {bb g o : Nat} {w w' : World} (h : Only bb g o w w') {p : Addr} (hp : p.block = bb ∨ w.heap.size ≤ p.block) (hg : p.block ≠ g) (u : Value) : Only bb g o w (w'.setCell p u) :=
  ⟨h.c.setCell (hp.imp (fun e => by simp [e]) id) u, fun k hk => by rw [World.cell?_setCell_other _ _ _ _ (by rintro rfl; exact hg rfl)]; exact h.k k hk⟩
theorem Only.alloc {bb g o : Nat} {w w' : World} (h : Only bb g o w w') (hg : g < w.heap.size) (ob : Obj) : Only bb g o w (w'.alloc ob) :=
  ⟨h.c.alloc ob, fun k hk => by rw [World.cell?_alloc_lt _ _ _ (Nat.lt_of_lt_of_le hg h.c.size)]; exact h.k k hk⟩
theorem Only.later {bb g o : Nat} {w w' w'' : World} (h : Only bb g o w w') (hg : g < w.heap.size) (hc : Chg [] w' w'') : Only bb g o w w'' :=
  ⟨h.c.trans (hc.mono (by simp)), fun k hk => (hc.cell (p := ⟨g, k, none⟩) (Nat.lt_of_lt_of_le hg h.c.size) (by simp)).trans (h.k k hk)⟩

theorem StepPost.drew {w : World} {bb g o : Nat} {t : T} {v' : V} {r' : R} {e : Ending} {w' : World} (h : StepPost w bb g o t v' r' e w') : StepPost w bb g o t v' r' e w'.drew := by
  obtain ⟨h1, h2, h3, h4, h5⟩ := h
  exact ⟨h1, ⟨h2.b, h2.t, h2.v⟩, ⟨h3.c, h3.f, h3.old, h3.next, h3.now⟩, h4.drew, h5⟩

theorem hit_close {w : World} {bb g o : Nat} {t : T} {v : V} {r : R} (hB : Brk w bb t v) (hR : RunAt w g o r) (hne : bb ≠ g) :
    StepPost w bb g o t r.next { r with read := false, rt := r.rt + 1, over := true } (.returned (.tuple #[]))
      (((((w.setCell ⟨g, o + 8, none⟩ (.bool false)).setCell ⟨g, o + 5 + 2, none⟩ (.int .i64 (r.rt + 1))).setCell ⟨bb, 3, none⟩ (.int .u64 (encV r.next))).setCell ⟨g, o + 11, none⟩ (.bool true)).drew) := by
  refine StepPost.drew ⟨rfl, ⟨?_, hB.t, hR.next⟩, ?_, ?_, ?_⟩
  · have h1 := (hB.b.far (p := ⟨g, o + 8, none⟩) hne (.bool false)).far (p := ⟨g, o + 5 + 2, none⟩) hne (.int .i64 (r.rt + 1))
    exact (h1.set_ 3 (.int .u64 (encV r.next))).far (p := ⟨g, o + 11, none⟩) hne _
  · have h1 := hR.set (r' := { r with read := false }) 8 (.bool false) (by omega) rfl hR.old hR.next hR.now
    have h2 := h1.set (r' := { r with read := false, rt := r.rt + 1 }) 7 (.int .i64 (r.rt + 1)) (by omega) rfl hR.old hR.next hR.now
    have h3 := h2.far (p := ⟨bb, 3, none⟩) (fun e => hne e.symm) (.int .u64 (encV r.next))
    exact h3.set (r' := { r with read := false, rt := r.rt + 1, over := true }) 11 (.bool true) (by omega) rfl hR.old hR.next hR.now
  · exact (Only.run (o := o) (Only.far (((Only.refl bb g o w).run 8 (by omega) (.bool false)).run 7 (by omega) (.int .i64 (r.rt + 1))) (p := ⟨bb, 3, none⟩) (.inl rfl) hne (.int .u64 (encV r.next))) 11 (by omega) (.bool true)).c
  · exact (Only.run (o := o) (Only.far (((Only.refl bb g o w).run 8 (by omega) (.bool false)).run 7 (by omega) (.int .i64 (r.rt + 1))) (p := ⟨bb, 3, none⟩) (.inl rfl) hne (.int .u64 (encV r.next))) 11 (by omega) (.bool true)).k

theorem miss_close {w : World} {bb g o : Nat} {t : T} {v : V} {r : R} (hB : Brk w bb t v) (hR : RunAt w g o r) (hne : bb ≠ g) :
    StepPost w bb g o t v { r with read := false, rt := r.rt + 1, over := false } (.returned (.tuple #[]))
      ((((w.setCell ⟨g, o + 8, none⟩ (.bool false)).setCell ⟨g, o + 5 + 2, none⟩ (.int .i64 (r.rt + 1))).setCell ⟨g, o + 11, none⟩ (.bool false)).drew) := by
  refine StepPost.drew ⟨rfl, ⟨?_, hB.t, hB.v⟩, ?_, ?_, ?_⟩
  · have h1 := (hB.b.far (p := ⟨g, o + 8, none⟩) hne (.bool false)).far (p := ⟨g, o + 5 + 2, none⟩) hne (.int .i64 (r.rt + 1))
    exact h1.far (p := ⟨g, o + 11, none⟩) hne _
  · have h1 := hR.set (r' := { r with read := false }) 8 (.bool false) (by omega) rfl hR.old hR.next hR.now
    have h2 := h1.set (r' := { r with read := false, rt := r.rt + 1 }) 7 (.int .i64 (r.rt + 1)) (by omega) rfl hR.old hR.next hR.now
    exact h2.set (r' := { r with read := false, rt := r.rt + 1, over := false }) 11 (.bool false) (by omega) rfl hR.old hR.next hR.now
  · exact (Only.run (o := o) (((Only.refl bb g o w).run 8 (by omega) (.bool false)).run 7 (by omega) (.int .i64 (r.rt + 1))) 11 (by omega) (.bool false)).c
  · exact (Only.run (o := o) (((Only.refl bb g o w).run 8 (by omega) (.bool false)).run 7 (by omega) (.int .i64 (r.rt + 1))) 11 (by omega) (.bool false)).k

set_option maxRecDepth 100000 in
set_option maxHeartbeats 1000000 in
theorem step_hit (w : World) (bb g o : Nat) (t : T) (v : V) (r : R) (hB : Brk w bb t v) (hR : RunAt w g o r) (hne : bb ≠ g) (hr : r.read = true) (hv : r.old = v) (h0 : 0 ≤ r.rt) (h1 : r.rt ≤ 4611686018427387904) :
    Calls Try.prog 59 #[.pointer (some ⟨bb, 0, none⟩), .pointer (some ⟨g, o, none⟩)] w (StepPost w bb g o t r.next { r with read := false, rt := r.rt + 1, over := true }) := by
  obtain ⟨⟨c0, c1, c2, c3, c4⟩, ⟨c5, c6, c7⟩, c8, c9, c10, c11⟩ := hR.cells
  have f7 := hR.f (o + 7)
  have f8 := hR.f (o + 8)
  have f11 := hR.f (o + 11)
  have b3 := hB.b.cell 3
  simp at b3
  have g3 := hB.b.frozen 3
  rw [hr] at c8
  rw [hv] at c9
  have hne' : g ≠ bb := fun e => hne e.symm
  have HB := Lib.hid hB; have HR := Lib.hid hR
  clear hr hv hB hR
  go_enter Try.func59, Try.ntmps59
  go_wp2_with fail
  go_region_with ((go_at_call 76; refine (cas_hit bb _ _ _ ?_ ?_).mono ?_; (focus go_simp); (focus go_simp); rintro e w' ⟨rfl, rfl⟩))
  all_goals go_wp2_with fail
  all_goals refine bodyPost_ret (results_none rfl _ _ _) rfl ?_
  all_goals (with_reducible exact hit_close HB.out HR.out hne)

set_option maxRecDepth 100000 in
set_option maxHeartbeats 1000000 in
theorem step_miss (w : World) (bb g o : Nat) (t : T) (v : V) (r : R) (hB : Brk w bb t v) (hR : RunAt w g o r) (hne : bb ≠ g) (hr : r.read = true) (hv : ¬ r.old = v) (h0 : 0 ≤ r.rt) (h1 : r.rt ≤ 4611686018427387904) :
    Calls Try.prog 59 #[.pointer (some ⟨bb, 0, none⟩), .pointer (some ⟨g, o, none⟩)] w (StepPost w bb g o t v { r with read := false, rt := r.rt + 1, over := false }) := by
  obtain ⟨⟨c0, c1, c2, c3, c4⟩, ⟨c5, c6, c7⟩, c8, c9, c10, c11⟩ := hR.cells
  have f7 := hR.f (o + 7)
  have f8 := hR.f (o + 8)
  have f11 := hR.f (o + 11)
  have b3 := hB.b.cell 3
  simp at b3
  have g3 := hB.b.frozen 3
  rw [hr] at c8
  have hev : Hid (¬ encV v = encV r.old) := fun e => hv (encV_inj hB.v hR.old e).symm
  have hne' : g ≠ bb := fun e => hne e.symm
  have HB := Lib.hid hB; have HR := Lib.hid hR
  clear hr hv hB hR
  go_enter Try.func59, Try.ntmps59
  go_wp2_with fail
  go_region_with ((go_at_call 76; refine (cas_miss bb _ _ _ _ ?_ ?_ hev.out).mono ?_; (focus go_simp); (focus go_simp); rintro e w' ⟨rfl, rfl⟩))
  all_goals go_wp2_with fail
  all_goals refine bodyPost_ret (results_none rfl _ _ _) rfl ?_
  all_goals (with_reducible exact miss_close HB.out HR.out hne)
end Go.Proofs.Ythbeednmekajaaa
