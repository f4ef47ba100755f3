import Derived.Test.YthbeednmekajaaaRace1
namespace Go.Proofs.Ythbeednmekajaaa
open Go.RowKit

/-- The calls under way lie at g. -/
structure Runs (w : World) (g : Nat) (rs : List R) : Prop where
  lt : g < w.heap.size
  at_ : ∀ (i : Nat) (r : R), rs[i]? = some r → RunAt w g (i * 12) r

theorem Runs.chg {w w' : World} {S : List Nat} {g : Nat} {rs : List R} (h : Runs w g rs) (hc : Chg S w w') (hn : g ∉ S) : Runs w' g rs :=
  ⟨Nat.lt_of_lt_of_le h.lt hc.size, fun i r hr => (h.at_ i r hr).chg hc hn⟩

/-- One run has turned, no other cell of its block. -/
theorem Runs.turn {w w' : World} {bb g : Nat} {rs : List R} (h : Runs w g rs) {i : Nat} {r' : R} (hi : i < rs.length) (ho : Only bb g (i * 12) w w') (hr : RunAt w' g (i * 12) r') : Runs w' g (rs.set i r') := by
  refine ⟨Nat.lt_of_lt_of_le h.lt ho.c.size, fun k x hx => ?_⟩
  by_cases hk : i = k
  · subst hk
    rw [List.getElem?_set_self hi] at hx
    injection hx with hx
    subst hx
    exact hr
  · rw [List.getElem?_set_ne hk] at hx
    have hx := h.at_ k x hx
    exact ⟨fun j u hj => by
      have hlt : j < 12 := by
        have := (List.getElem?_eq_some_iff.1 hj).1
        simpa [rcells] using this
      rw [ho.k (k * 12 + j) (by omega)]
      exact hx.c j u hj, hr.f, hx.old, hx.next, hx.now⟩

/-- What a race's calls keep: the call that one is the end of stands ahead of it; how many times it tried. -/
def RsOk (n : Int) (rs : List R) : Prop := ∀ (i : Nat) (r : R), rs[i]? = some r → (r.done = true → 0 ≤ r.of_ ∧ r.of_ < i) ∧ 0 ≤ r.rt ∧ r.rt ≤ n

def TakePost (w : World) (bb g : Nat) (t : T) (s : V × List R) (e : Ending) (w' : World) : Prop :=
  e = .returned (.tuple #[]) ∧ Brk w' bb t s.1 ∧ Runs w' g s.2 ∧ Chg [bb, g] w w'

theorem take_over (w : World) (bb g : Nat) (t : T) (v : V) (rs : List R) (i : Nat) (r : R) (cap : Nat) (hB : Brk w bb t v) (hR : Runs w g rs) (hi : rs[i]? = some r) (_hcap : rs.length ≤ 1000) (hov : r.over = true) :
    Calls Try.prog 48 #[.pointer (some ⟨bb, 0, none⟩), .slice (some ⟨g, 0, none⟩) rs.length cap, .int .i64 i] w (TakePost w bb g t (v, rs)) := by
  have hlt : i < rs.length := (List.getElem?_eq_some_iff.1 hi).1
  have hA := hR.at_ i r hi
  have c11 := hA.c 11 _ rfl
  rw [hov] at c11
  have HB := Lib.hid hB; have HR := Lib.hid hR
  clear hB hR hi hA hov
  go_enter Try.func48, Try.ntmps48
  go_wp2_with fail
  refine bodyPost_ret (results_none rfl _ _ _) rfl ?_
  exact ⟨rfl, HB.out, HR.out, Chg.refl _ _⟩

theorem take_first (w : World) (bb g : Nat) (t : T) (v : V) (rs : List R) (i : Nat) (r : R) (cap : Nat) (hB : Brk w bb t v) (hR : Runs w g rs) (hi : rs[i]? = some r) (_hcap : rs.length ≤ 1000) (hne : bb ≠ g)
    (hov : r.over = false) (hd : r.done = false) (h0 : 0 ≤ r.rt) (h1 : r.rt ≤ 4611686018427387904) :
    Calls Try.prog 48 #[.pointer (some ⟨bb, 0, none⟩), .slice (some ⟨g, 0, none⟩) rs.length cap, .int .i64 i] w (TakePost w bb g t ((stepR t v r).1, rs.set i (stepR t v r).2)) := by
  have hlt : i < rs.length := (List.getElem?_eq_some_iff.1 hi).1
  have hA := hR.at_ i r hi
  have c11 := hA.c 11 _ rfl
  have c0 := hA.c 0 _ rfl
  rw [hov] at c11
  rw [hd] at c0
  simp only [Nat.add_zero] at c0
  have HB := Lib.hid hB; have HR := Lib.hid hR; have HA := Lib.hid hA; have H0 := Lib.hid h0; have H1 := Lib.hid h1
  clear hB hR hi hA hov hd h0 h1
  go_enter Try.func48, Try.ntmps48
  go_wp2_with fail
  refine (step_any _ bb g (i * 12) t v r HB.out HA.out hne H0.out H1.out).mono ?_
  rintro e w' ⟨rfl, hb, hr, hc, hk⟩
  have HP : Hid (TakePost w bb g t ((stepR t v r).1, rs.set i (stepR t v r).2) (.returned (.tuple #[])) w') := ⟨rfl, hb, HR.out.turn (bb := bb) hlt ⟨hc, hk⟩ hr, hc⟩
  clear hb hr hc hk
  go_wp2_with fail
  refine bodyPost_ret (results_none rfl _ _ _) rfl ?_
  exact HP.out

theorem take_wait (w : World) (bb g : Nat) (t : T) (v : V) (rs : List R) (i : Nat) (r o : R) (k : Nat) (cap : Nat) (hB : Brk w bb t v) (hR : Runs w g rs) (hi : rs[i]? = some r) (_hcap : rs.length ≤ 1000)
    (hov : r.over = false) (hd : r.done = true) (hof : r.of_ = k) (ho : rs[k]? = some o) (hoo : o.over = false) :
    Calls Try.prog 48 #[.pointer (some ⟨bb, 0, none⟩), .slice (some ⟨g, 0, none⟩) rs.length cap, .int .i64 i] w (TakePost w bb g t (v, rs)) := by
  have hlt : i < rs.length := (List.getElem?_eq_some_iff.1 hi).1
  have hlk : k < rs.length := (List.getElem?_eq_some_iff.1 ho).1
  have hA := hR.at_ i r hi
  have hO := hR.at_ k o ho
  have c11 := hA.c 11 _ rfl
  have c0 := hA.c 0 _ rfl
  have c1 := hA.c 1 _ rfl
  have d11 := hO.c 11 _ rfl
  rw [hov] at c11
  rw [hd] at c0
  rw [hof] at c1
  rw [hoo] at d11
  simp only [Nat.add_zero] at c0
  have HB := Lib.hid hB; have HR := Lib.hid hR
  clear hB hR hi hA hov hd hof ho hO hoo
  go_enter Try.func48, Try.ntmps48
  go_wp2_with fail
  refine bodyPost_ret (results_none rfl _ _ _) rfl ?_
  exact ⟨rfl, HB.out, HR.out, Chg.refl _ _⟩

theorem Runs.frozen {w : World} {g : Nat} {rs : List R} (h : Runs w g rs) {i : Nat} {r : R} (hr : rs[i]? = some r) (k : Nat) : w.frozen? ⟨g, k, none⟩ = false := (h.at_ i r hr).f k

set_option maxHeartbeats 1000000 in
theorem take_cut (w : World) (bb g : Nat) (t : T) (v : V) (rs : List R) (i : Nat) (r o : R) (k : Nat) (cap : Nat) (hB : Brk w bb t v) (hR : Runs w g rs) (hi : rs[i]? = some r) (_hcap : rs.length ≤ 1000) (hne : bb ≠ g)
    (hov : r.over = false) (hd : r.done = true) (hof : r.of_ = k) (ho : rs[k]? = some o) (hoo : o.over = true) (hrc : (o.rc != 0) = true) :
    Calls Try.prog 48 #[.pointer (some ⟨bb, 0, none⟩), .slice (some ⟨g, 0, none⟩) rs.length cap, .int .i64 i] w (TakePost w bb g t (v, rs.set i { r with rc := 250, over := true })) := by
  have hlt : i < rs.length := (List.getElem?_eq_some_iff.1 hi).1
  have hlk : k < rs.length := (List.getElem?_eq_some_iff.1 ho).1
  have hA := hR.at_ i r hi
  have hO := hR.at_ k o ho
  have c11 := hA.c 11 _ rfl
  have c6 := hA.c 6 _ rfl
  have c0 := hA.c 0 _ rfl
  have c1 := hA.c 1 _ rfl
  have d11 := hO.c 11 _ rfl
  have d6 := hO.c 6 _ rfl
  rw [hov] at c11
  rw [hd] at c0
  rw [hof] at c1
  rw [hoo] at d11
  simp only [Nat.add_zero] at c0
  have f6 := hA.f (i * 12 + 6)
  have f11 := hA.f (i * 12 + 11)
  have hE : Hid (TakePost w bb g t (v, rs.set i { r with rc := 250, over := true }) (.returned (.tuple #[])) ((w.setCell ⟨g, i * 12 + 5 + 1, none⟩ (.int .i64 250)).setCell ⟨g, i * 12 + 11, none⟩ (.bool true))) := by
    have o1 : Only bb g (i * 12) w ((w.setCell ⟨g, i * 12 + 5 + 1, none⟩ (.int .i64 250)).setCell ⟨g, i * 12 + 11, none⟩ (.bool true)) :=
      ((Only.refl bb g (i * 12) w).run 6 (by omega) (.int .i64 250)).run 11 (by omega) (.bool true)
    have r1 := hA.set (r' := { r with rc := 250 }) 6 (.int .i64 250) (by omega) rfl hA.old hA.next hA.now
    have r2 := r1.set (r' := { r with rc := 250, over := true }) 11 (.bool true) (by omega) rfl hA.old hA.next hA.now
    exact ⟨rfl, (hB.far (p := ⟨g, i * 12 + 5 + 1, none⟩) hne _).far (p := ⟨g, i * 12 + 11, none⟩) hne _, hR.turn (bb := bb) hlt o1 r2, o1.c⟩
  clear hB hR hi hA hov hd hof ho hO hoo
  go_enter Try.func48, Try.ntmps48
  go_wp2_with fail
  refine bodyPost_ret (results_none rfl _ _ _) rfl ?_
  exact hE.out

set_option maxHeartbeats 1000000 in
theorem take_end (w : World) (bb g : Nat) (t : T) (v : V) (rs : List R) (i : Nat) (r o : R) (k : Nat) (cap : Nat) (hB : Brk w bb t v) (hR : Runs w g rs) (hi : rs[i]? = some r) (_hcap : rs.length ≤ 1000) (hne : bb ≠ g)
    (hov : r.over = false) (hd : r.done = true) (hof : r.of_ = k) (ho : rs[k]? = some o) (hoo : o.over = true) (hrc : o.rc = 0) (h0 : 0 ≤ r.rt) (h1 : r.rt ≤ 4611686018427387904) :
    Calls Try.prog 48 #[.pointer (some ⟨bb, 0, none⟩), .slice (some ⟨g, 0, none⟩) rs.length cap, .int .i64 i] w (TakePost w bb g t ((stepR t v { r with pass := o.rp }).1, rs.set i (stepR t v { r with pass := o.rp }).2)) := by
  have hlt : i < rs.length := (List.getElem?_eq_some_iff.1 hi).1
  have hlk : k < rs.length := (List.getElem?_eq_some_iff.1 ho).1
  have hA := hR.at_ i r hi
  have hO := hR.at_ k o ho
  have c11 := hA.c 11 _ rfl
  have c4 := hA.c 4 _ rfl
  have c0 := hA.c 0 _ rfl
  have c1 := hA.c 1 _ rfl
  have d11 := hO.c 11 _ rfl
  have d6 := hO.c 6 _ rfl
  have d5 := hO.c 5 _ rfl
  rw [hov] at c11
  rw [hd] at c0
  rw [hof] at c1
  rw [hoo] at d11
  rw [hrc] at d6
  simp only [Nat.add_zero] at c0
  have f4 := hA.f (i * 12 + 4)
  have hA1 := hA.set (r' := { r with pass := o.rp }) 4 (.int .i64 o.rp) (by omega) rfl hA.old hA.next hA.now
  have o1 : Only bb g (i * 12) w (w.setCell ⟨g, i * 12 + 4, none⟩ (.int .i64 o.rp)) := (Only.refl bb g (i * 12) w).run 4 (by omega) (.int .i64 o.rp)
  have hb1 := hB.far (p := ⟨g, i * 12 + 4, none⟩) hne (.int .i64 o.rp)
  have HB := Lib.hid hb1; have HR := Lib.hid hR; have HA := Lib.hid hA1; have H0 := Lib.hid h0; have H1 := Lib.hid h1; have HO := Lib.hid o1
  clear hB hR hi hA hov hd h0 h1 hof ho hO hoo hrc hA1 hb1 o1
  go_enter Try.func48, Try.ntmps48
  go_wp2_with fail
  refine (step_any _ bb g (i * 12) t v _ HB.out HA.out hne H0.out H1.out).mono ?_
  rintro e w' ⟨rfl, hb, hr, hc, hk⟩
  have HP : Hid (TakePost w bb g t ((stepR t v { r with pass := o.rp }).1, rs.set i (stepR t v { r with pass := o.rp }).2) (.returned (.tuple #[])) w') :=
    ⟨rfl, hb, HR.out.turn (bb := bb) hlt ⟨HO.out.c.trans hc, fun j hj => (hk j hj).trans (HO.out.k j hj)⟩ hr, HO.out.c.trans hc⟩
  clear hb hr hc hk
  go_wp2_with fail
  refine bodyPost_ret (results_none rfl _ _ _) rfl ?_
  exact HP.out

/-- A RACE'S STEP, whatever the call. -/
theorem take_any (w : World) (bb g : Nat) (t : T) (v : V) (rs : List R) (i : Nat) (cap : Nat) (n : Int) (hB : Brk w bb t v) (hR : Runs w g rs) (hi : i < rs.length) (hcap : rs.length ≤ 1000) (hne : bb ≠ g) (hok : RsOk n rs) (hn : n ≤ 4611686018427387904) :
    Calls Try.prog 48 #[.pointer (some ⟨bb, 0, none⟩), .slice (some ⟨g, 0, none⟩) rs.length cap, .int .i64 i] w (TakePost w bb g t (takeR t (v, rs) i)) := by
  have hr : rs[i]? = some rs[i] := List.getElem?_eq_getElem hi
  obtain ⟨h1, h2, h3⟩ := hok i _ hr
  unfold takeR
  simp only [hr]
  generalize rs[i] = r at *
  by_cases hov : r.over = true
  · rw [if_pos hov]
    exact take_over w bb g t v rs i r cap hB hR hr hcap hov
  · rw [if_neg hov]
    have hov : r.over = false := by simpa using hov
    by_cases hd : r.done = true
    · rw [if_pos hd]
      obtain ⟨ha, hb⟩ := h1 hd
      obtain ⟨k, hk⟩ := Int.eq_ofNat_of_zero_le ha
      have hkl : k < rs.length := by omega
      have ho : rs[k]? = some rs[k] := List.getElem?_eq_getElem hkl
      have hkk : r.of_.toNat = k := by omega
      rw [hkk]
      simp only [ho]
      generalize rs[k] = o at *
      by_cases hoo : o.over = true
      · rw [if_pos hoo]
        by_cases hz : o.rc = 0
        · rw [if_pos hz]
          exact take_end w bb g t v rs i r o k cap hB hR hr hcap hne hov hd hk ho hoo hz h2 (by omega)
        · rw [if_neg hz]
          exact take_cut w bb g t v rs i r o k cap hB hR hr hcap hne hov hd hk ho hoo (by simp [hz])
      · rw [if_neg hoo]
        exact take_wait w bb g t v rs i r o k cap hB hR hr hcap hov hd hk ho (by simpa using hoo)
    · rw [if_neg hd]
      exact take_first w bb g t v rs i r cap hB hR hr hcap hne hov (by simpa using hd) h2 (by omega)

theorem take_len (w : World) (bb g : Nat) (t : T) (v : V) (rs : List R) (i len cap : Nat) (n : Int) (hB : Brk w bb t v) (hR : Runs w g rs) (hl : rs.length = len) (hi : i < len) (hcap : len ≤ 1000) (hne : bb ≠ g) (hok : RsOk n rs) (hn : n ≤ 4611686018427387904) :
    Calls Try.prog 48 #[.pointer (some ⟨bb, 0, none⟩), .slice (some ⟨g, 0, none⟩) len cap, .int .i64 i] w (TakePost w bb g t (takeR t (v, rs) i)) := by
  subst hl
  exact take_any w bb g t v rs i cap n hB hR hi hcap hne hok hn
end Go.Proofs.Ythbeednmekajaaa
