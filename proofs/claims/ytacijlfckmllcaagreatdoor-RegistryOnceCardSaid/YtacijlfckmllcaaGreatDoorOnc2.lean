/-
  The law of a registry that is entered, asked, and entered again.
-/
import Derived.Test.YtacijlfckmllcaaGreatDoorOnc1
namespace Go.Proofs.YtacijlfckmllcaaGreatDoor
open Go.RowKit Go.WideMaps Go.Maps

/-- A registry that is frozen, and its two lists as they were told once. -/
structure Onc (w : World) (B : Nat) (F : List Nat) (g : Nat) (s : St) (v x : Value) : Prop where
  reg : RegS w F g s
  l : w.ownsRow B 30 3 v s.rows.length (rwsC s.rows)
  t : w.ownsRow B 30 3 x s.taken.length (rwsC s.taken)
  n1 : ∀ b, v.ownBlock = some b → b ∉ F
  n2 : ∀ b, x.ownBlock = some b → b ∉ F
  fl : ∀ b, b ∈ F → b < w.heap.size
  fb : ∀ b, b ∈ F → B ≤ b

section
variable {w w' : World} {F S : List Nat} {g B : Nat} {s : St} {v x : Value}
theorem Onc.same (h : Onc w B F g s v x) (hr : RegS w' F g s) (hc : Chg F w w') : Onc w' B F g s v x :=
  ⟨hr, ownsRow_chg h.l hc h.n1, ownsRow_chg h.t hc h.n2, h.n1, h.n2, fun b hb => Nat.lt_of_lt_of_le (h.fl b hb) hc.size, h.fb⟩
theorem Onc.fresh (h : Onc w B F g s v x) (hc : Chg [] w w') : Onc w' B F g s v x :=
  h.same (h.reg.chg hc (by simp)) (hc.mono (by simp))
theorem Onc.on {F' : List Nat} (h : Onc w B F g s v x) (hB : B ≤ w.heap.size) (hr : RegS w' F' g s) (hc : Chg F w w') (hn : ∀ b, b ∈ F' → b ∈ F ∨ w.heap.size ≤ b) : ∃ F'', Onc w' B F'' g s v x := by
  obtain ⟨F'', h1, h2, h3⟩ := hr.trim
  refine ⟨F'', h1, ownsRow_chg h.l hc h.n1, ownsRow_chg h.t hc h.n2, fun b hb hf => ?_, fun b hb hf => ?_, h3, fun b hb => ?_⟩
  · rcases hn b (h2 b hf) with h4 | h4
    · exact h.n1 b hb h4
    · have := (h.l.lt b hb).2; omega
  · rcases hn b (h2 b hf) with h4 | h4
    · exact h.n2 b hb h4
    · have := (h.t.lt b hb).2; omega
  · rcases hn b (h2 b hb) with h4 | h4
    · exact h.fb b h4
    · omega
end

theorem fz_same {s : St} (h : s.fz = true) : ({ s with fz := true } : St) = s := by
  cases s
  simp at h
  subst h
  rfl
theorem enter_late {s : St} (h : s.fz = true) (x : Rw) : enterS s x = (s, 5) := if_pos h

def RowAt (w : World) (b o : Nat) (x : Rw) : Prop := w.cell? ⟨b, o, none⟩ = some (.string x.nm) ∧ w.cell? ⟨b, o + 1, none⟩ = some (.int .u8 x.kd) ∧ w.cell? ⟨b, o + 2, none⟩ = some (.int .u32 x.fc)
def RowsAt (w : World) (A : Option Addr) (len : Nat) (st : Nat → Rw) : Prop := 0 < len → ∃ b off, A = some ⟨b, off, none⟩ ∧ b < w.heap.size ∧ ∀ i, i < len → RowAt w b (off + i * 3) (st i)
theorem RowAt.chg {S : List Nat} {w w' : World} {b o : Nat} {x : Rw} (h : RowAt w b o x) (hc : Chg S w w') (hb : b < w.heap.size) (hn : b ∉ S) : RowAt w' b o x := by
  obtain ⟨h1, h2, h3⟩ := h
  exact ⟨(hc.cell (p := ⟨b, o, none⟩) hb hn).trans h1, (hc.cell (p := ⟨b, o + 1, none⟩) hb hn).trans h2, (hc.cell (p := ⟨b, o + 2, none⟩) hb hn).trans h3⟩

set_option maxRecDepth 100000 in
set_option maxHeartbeats 4000000 in
theorem walk_once (A C : Option Addr) (n1 c1 n2 c2 : Nat) (w : World) (st su : Nat → Rw) (hL : Laid w) (hl1 : n1 ≤ 5864062014640) (hl2 : n2 ≤ 5864062014640) (hs1 : RowsAt w A n1 st) (hs2 : RowsAt w C n2 su)
    (hm1 : ∀ i, i < n1 → (st i).nm.size ≤ maxLen) (hm2 : ∀ i, i < n2 → (su i).nm.size ≤ maxLen) :
    Calls Tryz.prog 3 #[.slice A n1 c1, .slice C n2 c2] w fun e w' => e = .returned (.bool true) ∧ Below w.heap.size w w' := by
  have HS1 := Lib.hid hs1; have HS2 := Lib.hid hs2; have HM1 := Lib.hid hm1; have HM2 := Lib.hid hm2; have HL := Lib.hid hL
  clear hs1 hs2 hm1 hm2 hL
  go_enter Tryz.func3, Tryz.ntmps3
  go_wp2_with fail
  refine (awake_any w HL.out).mono ?_
  rintro e w1 ⟨rfl, hc1⟩
  have HC1 := Lib.hid hc1
  clear hc1
  go_wp2_with fail
  refine (new_any w1).mono ?_
  rintro e w2 ⟨g, F0, rfl, hr0, hf0, hc2⟩
  obtain ⟨F, hr1, ha, hb⟩ := hr0.trim
  have hg : ∀ b, b ∈ F → w.heap.size ≤ b ∧ b < w2.heap.size := fun b h => ⟨Nat.le_trans HC1.out.size (hf0 b (ha b h)), hb b h⟩
  have HR := Lib.hid hr1; have HF := Lib.hid hg; have HC := Lib.hid (HC1.out.trans hc2)
  clear hr0 hf0 hc2 hr1 ha hb hg HC1 HL
  go_wp2_with fail
  go_loopg [6, 7] n1 (fun gk nv i wr => ∃ (k : Nat) (n : Int) (s : St) (F : List Nat), k + gk = n1 ∧ nv = .int .i64 n ∧ n = (cnt s : Int) ∧ cnt s ≤ k ∧ i = .int .i64 (k : Int) ∧ Good s ∧ s.fz = false ∧ RegS wr F g s ∧ (∀ b ∈ F, w.heap.size ≤ b ∧ b < wr.heap.size) ∧ Chg [] w wr)
  case atStart => exact ⟨0, 0, ⟨[], [], false⟩, F, by omega, rfl, rfl, by simp [cnt], rfl, ⟨fun i j a b h => by simp at h, fun r h => by simp at h, fun r h => by simp at h, fun r h => by simp at h⟩, rfl, HR.out, HF.out, HC.out⟩
  case round =>
    clear HR HF HC
    obtain ⟨k, n, s, F, hk, rfl, hn, hnk, rfl, hG, hz, hR, hF, hC⟩ := hrel
    have HK := Lib.hid hk; have HN := Lib.hid hn; have HG := Lib.hid hG; have HZ := Lib.hid hz; have HR := Lib.hid hR; have HF := Lib.hid hF; have HC := Lib.hid hC
    have HNK := Lib.hid hnk
    have hn0 : 0 ≤ n := by omega
    have hnb : n ≤ 5864062014640 := by omega
    clear hk hn hG hz hR hF hC hnk
    by_cases hlt : k < n1
    · obtain ⟨b, off, rfl, hb, hcl⟩ := HS1.out (by omega)
      obtain ⟨x1, x2, x3⟩ := (hcl k hlt).chg HC.out hb (by simp)
      have hkI : (k : Int) < (n1 : Int) := by omega
      have hsz := HC.out.size
      have hb' : b < wr.heap.size := by omega
      have hnk := HM1.out k hlt
      generalize st k = x at x1 x2 x3 hnk
      clear hcl hsz
      go_wp2_with fail
      refine (enter_any wr F g s x HR.out hnk (by have h1 := HNK.out; unfold cnt at h1; omega)).mono ?_
      rintro e w3 ⟨rfl, F2, hr3, hc3, hn3⟩
      obtain ⟨hg2, hz2, hcnt⟩ := HG.out.enter HZ.out x
      obtain ⟨s', c, hp⟩ : ∃ s' c, enterS s x = (s', c) := ⟨_, _, rfl⟩
      rw [hp] at hr3 hg2 hz2 hcnt ⊢
      simp only at hr3 hg2 hz2 hcnt ⊢
      obtain ⟨F3, hr4, ha, hb2⟩ := hr3.trim
      have hf4 : ∀ b ∈ F3, w.heap.size ≤ b ∧ b < w3.heap.size := fun b hb => ⟨(hn3 b (ha b hb)).elim (fun h => (HF.out b h).1) (fun h => Nat.le_trans HC.out.size h), hb2 b hb⟩
      have HR4 := Lib.hid hr4; have HF4 := Lib.hid hf4; have HC4 := Lib.hid (HC.out.onto hc3 (fun b hb => (HF.out b hb).1)); have HG4 := Lib.hid hg2; have HZ4 := Lib.hid hz2
      have HP := Lib.hid hcnt
      clear hr3 hc3 hn3 hg2 hz2 hcnt hp hr4 ha hb2 hf4 x1 x2 x3 hb'
      by_cases q0 : c = 0
      · have HP2 : Hid (cnt s' = cnt s + 1) := by
          have := HP.out
          show cnt s' = cnt s + 1
          omega
        clear HP
        subst q0
        go_wp2_with fail
        refine (frozen_any w3 F3 g s' HR4.out).mono ?_
        rintro e w4 ⟨rfl, hr5, hc5⟩
        rw [HZ4.out]
        have HR5 := Lib.hid hr5; have HF5 := Lib.hid (fun b hb => ⟨(HF4.out b hb).1, Nat.lt_of_lt_of_le (HF4.out b hb).2 hc5.size⟩ : ∀ b ∈ F3, w.heap.size ≤ b ∧ b < w4.heap.size); have HC5 := Lib.hid (HC4.out.onto hc5 (fun b hb => (HF4.out b hb).1))
        clear hr5 hc5
        go_wp2_with fail
        go_roundg (gk - 1)
        case rel => exact ⟨k + 1, n + 1, s', F3, by have := HK.out; omega, by go_num, by have := HP2.out; have := HN.out; omega, by have := HP2.out; have := HNK.out; omega, by go_num, HG4.out, HZ4.out, HR5.out, HF5.out, HC5.out⟩
        case measure => have := HK.out; omega
      · have e0 : (c == 0) = false := by simp [q0]
        by_cases q1 : c = 171
        · have HP2 : Hid (cnt s' = cnt s + 1) := by
            have := HP.out
            show cnt s' = cnt s + 1
            omega
          clear HP
          subst q1
          clear q0 e0
          go_wp2_with fail
          refine (frozen_any w3 F3 g s' HR4.out).mono ?_
          rintro e w4 ⟨rfl, hr5, hc5⟩
          rw [HZ4.out]
          have HR5 := Lib.hid hr5; have HF5 := Lib.hid (fun b hb => ⟨(HF4.out b hb).1, Nat.lt_of_lt_of_le (HF4.out b hb).2 hc5.size⟩ : ∀ b ∈ F3, w.heap.size ≤ b ∧ b < w4.heap.size); have HC5 := Lib.hid (HC4.out.onto hc5 (fun b hb => (HF4.out b hb).1))
          clear hr5 hc5
          go_wp2_with fail
          go_roundg (gk - 1)
          case rel => exact ⟨k + 1, n + 1, s', F3, by have := HK.out; omega, by go_num, by have := HP2.out; have := HN.out; omega, by have := HP2.out; have := HNK.out; omega, by go_num, HG4.out, HZ4.out, HR5.out, HF5.out, HC5.out⟩
          case measure => have := HK.out; omega
        · have e1 : (c == 171) = false := by simp [q1]
          have HP2 : Hid (cnt s' = cnt s) := by
            have := HP.out
            show cnt s' = cnt s
            omega
          clear q0 q1 HP
          go_wp2_with fail
          refine (frozen_any w3 F3 g s' HR4.out).mono ?_
          rintro e w4 ⟨rfl, hr5, hc5⟩
          rw [HZ4.out]
          have HR5 := Lib.hid hr5; have HF5 := Lib.hid (fun b hb => ⟨(HF4.out b hb).1, Nat.lt_of_lt_of_le (HF4.out b hb).2 hc5.size⟩ : ∀ b ∈ F3, w.heap.size ≤ b ∧ b < w4.heap.size); have HC5 := Lib.hid (HC4.out.onto hc5 (fun b hb => (HF4.out b hb).1))
          clear hr5 hc5
          go_wp2_with fail
          go_roundg (gk - 1)
          case rel => exact ⟨k + 1, n, s', F3, by have := HK.out; omega, rfl, by have := HP2.out; have := HN.out; omega, by have := HP2.out; have := HNK.out; omega, by go_num, HG4.out, HZ4.out, HR5.out, HF5.out, HC5.out⟩
          case measure => have := HK.out; omega
    · have hkn : k = n1 := by have := HK.out; omega
      subst hkn
      have hkI : ¬ (k : Int) < (k : Int) := by omega
      have hsr : s.rows.length + s.taken.length ≤ 5864062014640 := by have h1 := HNK.out; unfold cnt at h1; omega
      clear hlt
      go_wp2_with fail
      refine (roll_any wr F g s HR.out (by omega)).mono ?_
      rintro e w3 ⟨v3, rfl, ho3, hr3, hc3⟩
      obtain ⟨q, hq⟩ : ∃ q : St, q = { s with fz := true } := ⟨_, rfl⟩
      have hqr : s.rows = q.rows := by rw [hq]
      have hqt : s.taken = q.taken := by rw [hq]
      have hqz : q.fz = true := by rw [hq]
      have hqg : Good q := by rw [hq]; exact ⟨HG.out.dis, HG.out.tk, HG.out.sr, HG.out.st⟩
      rw [← hq] at hr3
      have hqn : n = (q.rows.length : Int) + (q.taken.length : Int) := by
        have := HN.out
        unfold cnt at this
        rw [hqr, hqt] at this
        omega
      rw [hqr] at ho3
      rw [hqr, hqt] at hsr
      clear hq hqr hqt HN HNK HG HZ HR
      have hfx : ∀ b, v3.ownBlock = some b → b ∉ F := own_out (w := wr) ho3 (Nat.le_refl _) (fun b hb => (HF.out b hb).2)
      have HR3 := Lib.hid hr3; have HO3 := Lib.hid ho3; have HC3 := Lib.hid (HC.out.onto hc3 (fun b hb => (HF.out b hb).1)); have HX3 := Lib.hid hfx; have HQZ := Lib.hid hqz; have HQG := Lib.hid hqg
      have HS3 : Hid (wr.heap.size ≤ w3.heap.size) := hc3.size
      obtain ⟨A3, k3, rfl⟩ := own_slice ho3
      clear hr3 ho3 hc3 hfx hqz hqg
      go_wp2_with fail
      refine (refused_any w3 F g q HR3.out (by omega)).mono ?_
      rintro e w4 ⟨v4, rfl, ho4, hr4, hc4⟩
      rw [fz_same HQZ.out] at hr4
      obtain ⟨A4, k4, rfl⟩ := own_slice ho4
      have hsw := HC.out.size
      have hO : Onc w4 w.heap.size F g q (.slice A3 q.rows.length k3) (.slice A4 q.taken.length k4) :=
        ⟨hr4, own_base (ownsRow_chg HO3.out hc4 HX3.out) hsw, own_base ho4 (Nat.le_trans hsw HS3.out), HX3.out, own_out (w := w3) ho4 (Nat.le_refl _) (fun b hb => Nat.lt_of_lt_of_le (HF.out b hb).2 HS3.out), fun b hb => Nat.lt_of_lt_of_le (HF.out b hb).2 (Nat.le_trans HS3.out hc4.size), fun b hb => (HF.out b hb).1⟩
      have HO := Lib.hid hO; have HC4 := Lib.hid (HC3.out.onto hc4 (fun b hb => (HF.out b hb).1))
      clear hO ho4 hr4 hc4 hsw HR3 HO3 HC3 HX3 HS3 HF HC
      have hb1 : (q.rows.length : Int) ≤ 5864062014640 := by omega
      have hb2 : (q.taken.length : Int) ≤ 5864062014640 := by omega
      go_wp2_with fail
      refine (frozen_any w4 F g q HO.out.reg).mono ?_
      rintro e w5 ⟨rfl, hr5, hc5⟩
      rw [HQZ.out]
      have HO5 := Lib.hid (HO.out.same hr5 hc5); have HC5 := Lib.hid (HC4.out.onto hc5 HO.out.fb)
      clear hr5 hc5 HO HC4
      go_wp2_with fail
      go_loopg [11] q.rows.length (fun gk i wr => ∃ j : Nat, j + gk = q.rows.length ∧ i = .int .i64 (j : Int) ∧ Onc wr w.heap.size F g q (.slice A3 q.rows.length k3) (.slice A4 q.taken.length k4) ∧ Chg [] w wr)
      case atStart => exact ⟨0, by omega, rfl, HO5.out, HC5.out⟩
      case round =>
        clear HO5 HC5
        obtain ⟨j, hk, rfl, hO, hC⟩ := hrel
        have HK := Lib.hid hk; have HO := Lib.hid hO; have HC := Lib.hid hC
        clear hk hO hC
        by_cases hin : j < q.rows.length ∧ j < 300
        · obtain ⟨hl, h3⟩ := hin
          have hkI : (j : Int) < (q.rows.length : Int) := by omega
          have h3I : (j : Int) < 300 := by omega
          have hi : q.rows[j]? = some (q.rows[j]'hl) := List.getElem?_eq_getElem hl
          generalize q.rows[j]'hl = r at hi
          have HI := Lib.hid hi
          clear hi
          go_wp2_with fail
          obtain ⟨go, hgo⟩ : ∃ go, go = gk := ⟨_, rfl⟩
          rw [← hgo] at HK
          go_loopg [12] j (fun gi iv wi => ∃ p : Nat, p + gi = j ∧ iv = .int .i64 (p : Int) ∧ Onc wi w.heap.size F g q (.slice A3 q.rows.length k3) (.slice A4 q.taken.length k4) ∧ Chg [] w wi)
          case atStart => exact ⟨0, by omega, rfl, HO.out, HC.out⟩
          case round =>
            clear HO HC
            obtain ⟨p, hk, rfl, hO, hC⟩ := hrel
            have HKI := Lib.hid hk; have HO := Lib.hid hO; have HC := Lib.hid hC
            clear hk hO hC
            obtain ⟨_, b, rfl, hb, q0, q1, q2⟩ := row_at HO.out.l HI.out
            by_cases hpl : p < j
            · have hpI : (p : Int) < (j : Int) := by omega
              have hpL : (p : Int) < (q.rows.length : Int) := by omega
              have hpl' : p < q.rows.length := by omega
              have hi2 : q.rows[p]? = some (q.rows[p]'hpl') := List.getElem?_eq_getElem hpl'
              generalize q.rows[p]'hpl' = r2 at hi2
              obtain ⟨_, b2, hb2, _, p0, _, _⟩ := row_at HO.out.l hi2
              obtain rfl : b = b2 := by injection hb2 with hb2; injection hb2
              have hne : r.nm ≠ r2.nm := fun e => absurd (HQG.out.dis j p r r2 HI.out hi2 e) (by omega)
              obtain ⟨e1, e2⟩ := nm_no hne
              clear hi2 hb2 hne
              go_wp2_with fail
              go_quiet (fail)
              go_wp2_with fail
              go_roundg (gk - 1)
              case rel => exact ⟨p + 1, by have := HKI.out; omega, by go_num, HO.out.fresh ((Chg.refl [] wr).drewN _), HC.out.drewN _⟩
              case measure => have := HKI.out; omega
            · have hpj : p = j := by have := HKI.out; omega
              subst hpj
              have hpI : ¬ (p : Int) < (p : Int) := by omega
              have hsz := HQG.out.sr r (List.mem_of_getElem? HI.out)
              clear hpl
              go_wp2_with fail
              refine (named_any wr F g q r.nm HO.out.reg (by omega) (by unfold maxLen; omega)).mono ?_
              rintro e w6 ⟨rfl, hr6, hc6⟩
              rw [fz_same HQZ.out] at hr6
              rw [namedL_at HQG.out HI.out]
              simp only [rval]
              have hbF := HO.out.n1 b rfl
              have z0 := (hc6.cell (p := ⟨b, p * 3, none⟩) hb hbF).trans q0
              have z1 := (hc6.cell (p := ⟨b, p * 3 + 1, none⟩) hb hbF).trans q1
              have z2 := (hc6.cell (p := ⟨b, p * 3 + 2, none⟩) hb hbF).trans q2
              have hb6 : b < w6.heap.size := Nat.lt_of_lt_of_le hb hc6.size
              obtain ⟨e1, e2⟩ := nm_yes (rfl : r.nm = r.nm)
              have HO6 := Lib.hid ((HO.out.same hr6 hc6).fresh ((Chg.refl [] w6).alloc (.cells #[.string r.nm, .int .u8 r.kd, .int .u32 r.fc] 30))); have HC6 := Lib.hid ((HC.out.onto hc6 HO.out.fb).alloc (.cells #[.string r.nm, .int .u8 r.kd, .int .u32 r.fc] 30))
              clear hr6 hc6 q0 q1 q2 hb hbF
              go_wp2_with fail
              go_quiet (fail)
              go_wp2_with fail
              go_roundg (go - 1)
              case rel => exact ⟨p + 1, by have := HK.out; omega, by go_num, HO6.out.fresh ((Chg.refl [] _).drewN _), HC6.out.drewN _⟩
              case measure => have := HK.out; have := hgo; omega
        · have hor : ¬ (j : Int) < (q.rows.length : Int) ∨ ((j : Int) < (q.rows.length : Int) ∧ ¬ (j : Int) < 300) := by omega
          clear hin
          rcases hor with hkI | ⟨hkI, h3I⟩
          all_goals
            go_wp2_with fail
            clear hkI
            go_loopg [15] q.taken.length (fun gk i wr => ∃ j : Nat, j + gk = q.taken.length ∧ i = .int .i64 (j : Int) ∧ Onc wr w.heap.size F g q (.slice A3 q.rows.length k3) (.slice A4 q.taken.length k4) ∧ Chg [] w wr)
            case atStart => exact ⟨0, by omega, rfl, HO.out, HC.out⟩
            case round =>
              clear HO HC
              obtain ⟨j, hk, rfl, hO, hC⟩ := hrel
              have HK := Lib.hid hk; have HO := Lib.hid hO; have HC := Lib.hid hC
              clear hk hO hC
              by_cases hin : j < q.taken.length ∧ j < 300
              · obtain ⟨hl, h3⟩ := hin
                have hkI : (j : Int) < (q.taken.length : Int) := by omega
                have h3I : (j : Int) < 300 := by omega
                have hi : q.taken[j]? = some (q.taken[j]'hl) := List.getElem?_eq_getElem hl
                generalize q.taken[j]'hl = r at hi
                obtain ⟨_, b, rfl, hb, q0, q1, q2⟩ := row_at HO.out.t hi
                have hmem := List.mem_of_getElem? hi
                have hsz := HQG.out.st r hmem
                have hp2 := named_has (HQG.out.tk r hmem)
                clear hi hmem
                go_wp2_with fail
                refine (named_any wr F g q r.nm HO.out.reg (by omega) (by unfold maxLen; omega)).mono ?_
                rintro e w6 ⟨rfl, hr6, hc6⟩
                rw [fz_same HQZ.out] at hr6
                obtain ⟨p, hp⟩ : ∃ p, p = namedL q.rows r.nm := ⟨_, rfl⟩
                rw [← hp] at hp2 ⊢
                clear hp
                obtain ⟨r9, q9⟩ := p
                simp only [rval] at hp2 ⊢
                subst hp2
                have HO6 := Lib.hid ((HO.out.same hr6 hc6).fresh ((Chg.refl [] w6).alloc (.cells #[.string r9.nm, .int .u8 r9.kd, .int .u32 r9.fc] 30))); have HC6 := Lib.hid ((HC.out.onto hc6 HO.out.fb).alloc (.cells #[.string r9.nm, .int .u8 r9.kd, .int .u32 r9.fc] 30))
                clear hr6 hc6
                go_wp2_with fail
                go_roundg (gk - 1)
                case rel => exact ⟨j + 1, by have := HK.out; omega, by go_num, HO6.out, HC6.out⟩
                case measure => have := HK.out; omega
              · have hor : ¬ (j : Int) < (q.taken.length : Int) ∨ ((j : Int) < (q.taken.length : Int) ∧ ¬ (j : Int) < 300) := by omega
                clear hin
                rcases hor with hkI | ⟨hkI, h3I⟩
                all_goals
                  go_wp2_with fail
                  clear hkI
                  go_loopg [18] n2 (fun gk i wr => ∃ (j : Nat) (F : List Nat), j + gk = n2 ∧ i = .int .i64 (j : Int) ∧ Onc wr w.heap.size F g q (.slice A3 q.rows.length k3) (.slice A4 q.taken.length k4) ∧ Chg [] w wr)
                  case atStart => exact ⟨0, F, by omega, rfl, HO.out, HC.out⟩
                  case round =>
                    clear HO HC
                    obtain ⟨j, F, hk, rfl, hO, hC⟩ := hrel
                    have HK := Lib.hid hk; have HO := Lib.hid hO; have HC := Lib.hid hC
                    clear hk hO hC
                    by_cases hlt : j < n2
                    · obtain ⟨b, off, rfl, hb, hcl⟩ := HS2.out (by omega)
                      obtain ⟨x1, x2, x3⟩ := (hcl j hlt).chg HC.out hb (by simp)
                      have hkI : (j : Int) < (n2 : Int) := by omega
                      have hsz := HC.out.size
                      have hb' : b < wr.heap.size := by omega
                      have hnk := HM2.out j hlt
                      generalize su j = x at x1 x2 x3 hnk
                      clear hcl
                      go_wp2_with fail
                      refine (enter_any wr F g q x HO.out.reg hnk (by omega)).mono ?_
                      rintro e w9 ⟨rfl, F2, hr3, hc3, hn3⟩
                      rw [enter_late HQZ.out] at hr3
                      rw [enter_late HQZ.out]
                      simp only at hr3 ⊢
                      obtain ⟨F3, hO3⟩ := HO.out.on hsz hr3 hc3 hn3
                      have HO3 := Lib.hid hO3; have HC3 := Lib.hid (HC.out.onto hc3 HO.out.fb)
                      clear hr3 hc3 hn3 hO3 x1 x2 x3
                      go_wp2_with fail
                      go_roundg (gk - 1)
                      case rel => exact ⟨j + 1, F3, by have := HK.out; omega, by go_num, HO3.out, HC3.out⟩
                      case measure => have := HK.out; omega
                    · have hkI : ¬ (j : Int) < (n2 : Int) := by omega
                      go_wp2_with fail
                      refine (roll_any wr F g q HO.out.reg (by omega)).mono ?_
                      rintro e w11 ⟨v11, rfl, ho11, hr11, hc11⟩
                      rw [fz_same HQZ.out] at hr11
                      have HO11 := Lib.hid (HO.out.same hr11 hc11); have HC11 := Lib.hid (HC.out.onto hc11 HO.out.fb); have HW11 := Lib.hid ho11
                      clear hr11 hc11 ho11
                      go_wp2_with fail
                      refine (same_any w11 _ _ v11 _ q.rows HW11.out HO11.out.l (by omega)).mono ?_
                      rintro e w12 ⟨rfl, hc12⟩
                      have HO12 := Lib.hid (HO11.out.fresh hc12); have HC12 := Lib.hid (HC11.out.trans hc12)
                      clear hc12
                      go_wp2_with fail
                      refine (refused_any w12 F g q HO12.out.reg (by omega)).mono ?_
                      rintro e w13 ⟨v13, rfl, ho13, hr13, hc13⟩
                      rw [fz_same HQZ.out] at hr13
                      have HO13 := Lib.hid (HO12.out.same hr13 hc13); have HC13 := Lib.hid (HC12.out.onto hc13 HO.out.fb); have HW13 := Lib.hid ho13
                      clear hr13 hc13 ho13
                      go_wp2_with fail
                      refine (same_any w13 _ _ v13 _ q.taken HW13.out HO13.out.t (by omega)).mono ?_
                      rintro e w14 ⟨rfl, hc14⟩
                      have HO14 := Lib.hid (HO13.out.fresh hc14); have HC14 := Lib.hid (HC13.out.trans hc14)
                      clear hc14
                      go_wp2_with fail
                      refine (frozens_any w14 F g q HO14.out.reg).mono ?_
                      rintro e w15 ⟨rfl, hr15, hc15⟩
                      rw [HQZ.out, fzn_true]
                      have HC15 := Lib.hid (HC14.out.onto hc15 HO.out.fb)
                      clear hr15 hc15
                      go_wp2_with fail
                      go_ret
                      exact ⟨rfl, HC15.out.below (Nat.le_refl _) (by simp)⟩
end Go.Proofs.YtacijlfckmllcaaGreatDoor
