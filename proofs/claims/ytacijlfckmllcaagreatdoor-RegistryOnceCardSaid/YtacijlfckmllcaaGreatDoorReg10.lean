/-
  Lists of rows that are the same; lists that are told twice.
-/
import Derived.Test.YtacijlfckmllcaaGreatDoorReg9
namespace Go.Proofs.YtacijlfckmllcaaGreatDoor
open Go.RowKit Go.WideMaps Go.Maps

def BoolPost (S : List Nat) (w : World) (x : Bool) (e : Ending) (w' : World) : Prop := e = .returned (.bool x) ∧ Chg S w w'

set_option maxRecDepth 100000 in
set_option maxHeartbeats 1000000 in
theorem same_any (w : World) (b1 b2 : Nat) (v1 v2 : Value) (l : List Rw) (h1 : w.ownsRow b1 30 3 v1 l.length (rwsC l)) (h2 : w.ownsRow b2 30 3 v2 l.length (rwsC l)) (hl : l.length ≤ 5864062014640) :
    Calls Tryz.prog 13 #[v1, v2] w (BoolPost [] w true) := by
  obtain ⟨A1, c1, hA1⟩ := own_slice h1
  obtain ⟨A2, c2, hA2⟩ := own_slice h2
  subst hA1 hA2
  have H1 := Lib.hid h1; have H2 := Lib.hid h2
  clear h1 h2
  go_enter Tryz.func13, Tryz.ntmps13
  go_wp2_with fail
  go_loopg [5] l.length (fun gk i wr => ∃ k : Nat, k + gk = l.length ∧ i = .int .i64 k ∧ Chg [] w wr)
  case atStart => exact ⟨0, by omega, rfl, Chg.refl _ _⟩
  case round =>
    obtain ⟨k, hk, rfl, hC⟩ := hrel
    have HK := Lib.hid hk; have HC := Lib.hid hC
    clear hk hC
    by_cases hlt : k < l.length
    · have hi : l[k]? = some (l[k]'hlt) := List.getElem?_eq_getElem hlt
      generalize l[k]'hlt = r at hi
      obtain ⟨_, a, rfl, ha, q0, q1, q2⟩ := row_at (ownsRow_chg H1.out HC.out (by simp)) hi
      obtain ⟨_, b, rfl, hb, p0, p1, p2⟩ := row_at (ownsRow_chg H2.out HC.out (by simp)) hi
      have hkI : (k : Int) < (l.length : Int) := by omega
      obtain ⟨e1, e2⟩ := nm_yes (rfl : r.nm = r.nm)
      clear hi
      go_wp2_with fail
      go_quiet (fail)
      go_wp2_with fail
      go_roundg (gk - 1)
      case rel => exact ⟨k + 1, by have := HK.out; omega, by go_num, HC.out.drewN _⟩
      case measure => have := HK.out; omega
    · have hkn : k = l.length := by have := HK.out; omega
      subst hkn
      have hkI : ¬ (l.length : Int) < (l.length : Int) := by omega
      clear hlt
      go_wp2_with fail
      go_ret
      exact ⟨rfl, HC.out⟩

theorem own_frozen {w : World} {base : Nat} {e : TypeId} {size n cap g : Nat} {xs : List Value} (h : w.ownsRow base e size (.slice (some ⟨g, 0, none⟩) n cap) n xs) (_hn : 0 < n) (i : Nat) : w.frozen? ⟨g, i, none⟩ = false := by
  rcases h.2 with ⟨h', _⟩ | ⟨g', cap', cur, h', _, hh, _⟩
  · cases h'
  · injection h' with e1
    injection e1 with e1
    injection e1 with e1
    subst e1
    exact Blk.frozen hh i

def spoilt : Rw := ⟨⟨#[115, 112, 111, 105, 108, 116]⟩, 0, 0⟩
def behind : Rw := ⟨⟨#[98, 101, 104, 105, 110, 100]⟩, 0, 0⟩

set_option maxRecDepth 100000 in
set_option maxHeartbeats 1000000 in
theorem fresh_any (w : World) (b1 b2 b3 : Nat) (v1 v2 v3 : Value) (l : List Rw) (h1 : w.ownsRow b1 30 3 v1 l.length (rwsC l)) (h2 : w.ownsRow b2 30 3 v2 l.length (rwsC l)) (h3 : w.ownsRow b3 30 3 v3 l.length (rwsC l))
    (n12 : v1.ownBlock = none ∨ v1.ownBlock ≠ v2.ownBlock) (n13 : v1.ownBlock = none ∨ v1.ownBlock ≠ v3.ownBlock) (hl : l.length ≤ 5864062014640) :
    Calls Tryz.prog 19 #[v1, v2, v3] w (BoolPost v1.ownBlock.toList w true) := by
  obtain ⟨A1, c1, hA1⟩ := own_slice h1
  obtain ⟨A2, c2, hA2⟩ := own_slice h2
  obtain ⟨A3, c3, hA3⟩ := own_slice h3
  subst hA1 hA2 hA3
  have H1 := Lib.hid h1; have H2 := Lib.hid h2; have H3 := Lib.hid h3; have N12 := Lib.hid n12; have N13 := Lib.hid n13
  obtain ⟨i0, hi0, hz0, hz1, hz2⟩ := info_parts row_info
  have I0 := Lib.hid hi0
  have Z0 := Lib.hid hz0; have Z1 := Lib.hid hz1; have Z2 := Lib.hid hz2
  clear hi0 hz0 hz1 hz2 h1 h2 h3 n12 n13
  go_enter Tryz.func19, Tryz.ntmps19
  go_wp2_with fail
  refine (same_any w _ _ _ _ l H1.out H3.out hl).mono ?_
  rintro e w1 ⟨rfl, hc1⟩
  have HC1 := Lib.hid hc1
  clear hc1
  go_wp2_with fail
  refine (same_any w1 _ _ _ _ l (ownsRow_chg H2.out HC1.out (by simp)) (ownsRow_chg H3.out HC1.out (by simp)) hl).mono ?_
  rintro e w2 ⟨rfl, hc2⟩
  have HC2 : Hid (Chg [] w w2) := HC1.out.trans hc2
  clear hc2 HC1
  go_wp2_with fail
  go_loopg [7] l.length (fun gk i wr => ∃ (k : Nat) (xs : List Value), k + gk = l.length ∧ i = .int .i64 k ∧ Chg (Value.slice A1 l.length c1).ownBlock.toList w wr ∧ wr.ownsRow b1 30 3 (.slice A1 l.length c1) l.length xs)
  case atStart => exact ⟨0, rwsC l, by omega, rfl, HC2.out.mono (by simp), ownsRow_chg H1.out HC2.out (by simp)⟩
  case round =>
    obtain ⟨k, xs, hk, rfl, hC, hO⟩ := hrel
    have HK := Lib.hid hk; have HC := Lib.hid hC; have HO := Lib.hid hO
    clear hk hC hO
    by_cases hlt : k < l.length
    · have hkI : (k : Int) < (l.length : Int) := by omega
      obtain ⟨g, cg, hAg, _, hgl⟩ := HO.out.form (by omega)
      injection hAg with e1 _ e3
      subst e1 e3
      have hxl : xs.length = l.length * 3 := HO.out.1
      have q0 : wr.cell? ⟨g, k * 3, none⟩ = some (xs[k * 3]'(by omega)) := by rw [HO.out.cellAt (k * 3) (by omega)]; exact List.getElem?_eq_getElem _
      have q1 : wr.cell? ⟨g, k * 3 + 1, none⟩ = some (xs[k * 3 + 1]'(by omega)) := by rw [HO.out.cellAt (k * 3 + 1) (by omega)]; exact List.getElem?_eq_getElem _
      have q2 : wr.cell? ⟨g, k * 3 + 2, none⟩ = some (xs[k * 3 + 2]'(by omega)) := by rw [HO.out.cellAt (k * 3 + 2) (by omega)]; exact List.getElem?_eq_getElem _
      generalize xs[k * 3]'(by omega) = y0 at q0
      generalize xs[k * 3 + 1]'(by omega) = y1 at q1
      generalize xs[k * 3 + 2]'(by omega) = y2 at q2
      have f0 := own_frozen HO.out (by omega) (k * 3)
      have f1 := own_frozen HO.out (by omega) (k * 3 + 1)
      have f2 := own_frozen HO.out (by omega) (k * 3 + 2)
      clear hxl
      go_wp2_with fail
      go_roundg (gk - 1)
      case rel =>
        have s1 := HO.out.stored (k * 3) (.string spoilt.nm)
        have s2 := s1.1.stored (k * 3 + 1) (.int .u8 0)
        have s3 := s2.1.stored (k * 3 + 2) (.int .u32 0)
        exact ⟨k + 1, _, by have := HK.out; omega, by go_num, ((HC.out.setCell (.inl (by simp [Value.ownBlock])) _).setCell (.inl (by simp [Value.ownBlock])) _).setCell (.inl (by simp [Value.ownBlock])) _, s3.1⟩
      case measure => have := HK.out; omega
    · have hkn : k = l.length := by have := HK.out; omega
      have hkI : ¬ (k : Int) < (l.length : Int) := by omega
      clear hlt hkn HK
      obtain ⟨wo, rfl⟩ : ∃ wo : World, wo = wr := ⟨_, rfl⟩
      have HCo := Lib.hid HC.out; have HOo := Lib.hid HO.out
      clear HC HO
      go_wp2_with fail
      go_loopg [8, 0] 20 (fun gk i v wr => ∃ (k : Nat) (xs : List Value), k + gk = 20 ∧ i = .int .i64 k ∧ Chg (Value.slice A1 l.length c1).ownBlock.toList w wr ∧ wr.ownsRow 0 30 3 v (l.length + k) xs ∧ ∀ b, v.ownBlock = some b → (Value.slice A1 l.length c1).ownBlock = some b ∨ w.heap.size ≤ b)
      case atStart => exact ⟨0, _, by omega, rfl, HCo.out, own_base HOo.out (Nat.zero_le _), fun b hb => .inl hb⟩
      case round =>
        obtain ⟨k, ys, hk, rfl, hC, hO, hB⟩ := hrel
        have HK := Lib.hid hk; have HC := Lib.hid hC; have HO := Lib.hid hO; have HB := Lib.hid hB
        clear hk hC hO hB
        by_cases hlt : k < 20
        · have hkI : (k : Int) < 20 := by omega
          clear hlt
          go_wp2_with (at_builtin; refine wpList_append_own_at _ rfl (.tmp 33) (.tmp 35) _ rfl 0 30 i0 _ 3 24 Tryz.underlying22 I0.out Z0.out Z1.out Z2.out rfl (by omega) u0 (l.length + k) ys rfl (HO.out.alloc _) ⟨wr.heap.size, 0, none⟩ 1 1 (rwc behind) rfl rfl (cells_new_at _ _ _ _ rfl) (by simp [rwc, Value.oneCell']) (by simp only [maxLen]; omega) (by omega) (by simp) ?_; intro v1 w7 hown hgrow hnil hat; have HO7 := Lib.hid hown; have HG7 := Lib.hid hgrow; have HA7 := Lib.hid hat; clear hown hgrow hnil hat)
          go_roundg (gk - 1)
          case rel =>
            have hc7 : Chg u0.ownBlock.toList wr w7 := ((Chg.refl _ wr).alloc _).grown HG7.out (fun b hb => .inl (by simp [hb]))
            refine ⟨k + 1, _, by have := HK.out; omega, by go_num, HC.out.trans' hc7 (fun b hb => ?_), HO7.out, fun b hb => ?_⟩
            · rcases HB.out b (by simpa using hb) with h | h
              · exact .inl (by simp [h])
              · exact .inr h
            · rcases HA7.out with h | h
              · exact HB.out b (h ▸ hb)
              · refine .inr ?_
                have hs := HC.out.size
                rw [h] at hb
                simp at hb
                omega
          case measure => have := HK.out; omega
        · have hkn : k = 20 := by have := HK.out; omega
          subst hkn
          have hkI : ¬ ((20 : Nat) : Int) < 20 := by omega
          clear hlt
          obtain ⟨A9, c9, hA9⟩ := own_slice HO.out
          subst hA9
          go_wp2_with fail
          refine (same_any wr _ _ _ _ l (ownsRow_chg H2.out HC.out ?_) (ownsRow_chg H3.out HC.out ?_) hl).mono ?_
          · intro b hb hm
            have hm : (Value.slice A1 l.length c1).ownBlock = some b := by simpa using hm
            rcases N12.out with h | h
            · rw [h] at hm; cases hm
            · exact h (hm.trans hb.symm)
          · intro b hb hm
            have hm : (Value.slice A1 l.length c1).ownBlock = some b := by simpa using hm
            rcases N13.out with h | h
            · rw [h] at hm; cases hm
            · exact h (hm.trans hb.symm)
          rintro e w9 ⟨rfl, hc9⟩
          have HC9 := Lib.hid hc9
          clear hc9
          go_wp2_with fail
          go_ret
          exact ⟨by simp, HC.out.trans (HC9.out.mono (by simp))⟩
end Go.Proofs.YtacijlfckmllcaaGreatDoor
