/-
  The document's registry: entering.
-/
import Derived.Test.YtacijlfckmllcaaGreatDoorReg7
namespace Go.Proofs.YtacijlfckmllcaaGreatDoor
open Go.RowKit Go.WideMaps Go.Maps

structure RefR (w : World) (F : List Nat) (m : Nat) (s : St) (rv tv : Value) : Prop where
  b : Blk w m 41 #[rv, tv, .bool s.fz]
  rows : w.ownsRow 0 30 3 rv s.rows.length (rwsC s.rows)
  taken : w.ownsRow 0 30 3 tv s.taken.length (rwsC s.taken)
  apart : rv.ownBlock = none ∨ rv.ownBlock ≠ tv.ownBlock
  mF : m ∈ F
  rF : ∀ b, rv.ownBlock = some b → b ∈ F
  tF : ∀ b, tv.ownBlock = some b → b ∈ F

def RefS (w : World) (F : List Nat) (m : Nat) (s : St) : Prop := ∃ rv tv, RefR w F m s rv tv

section
variable {w w' : World} {F : List Nat} {m : Nat} {s : St} {rv tv : Value}
theorem RefR.chg {S : List Nat} (h : RefR w F m s rv tv) (hc : Chg S w w') (hm : m ∉ S) (hr : ∀ b, rv.ownBlock = some b → b ∉ S) (ht : ∀ b, tv.ownBlock = some b → b ∉ S) : RefR w' F m s rv tv :=
  ⟨h.b.chg hc hm, ownsRow_chg h.rows hc hr, ownsRow_chg h.taken hc ht, h.apart, h.mF, h.rF, h.tF⟩
theorem RefR.fresh (h : RefR w F m s rv tv) (hc : Chg [] w w') : RefR w' F m s rv tv := h.chg hc (by simp) (by simp) (by simp)
theorem RefR.ne (h : RefR w F m s rv tv) : rv.ownBlock ≠ some m ∧ tv.ownBlock ≠ some m := ⟨own_blk_ne h.rows h.b (by decide), own_blk_ne h.taken h.b (by decide)⟩
theorem RefR.freeze (h : RefR w F m s rv tv) : RefR (w.setCell ⟨m, 2, none⟩ (.bool true)) F m { s with fz := true } rv tv := by
  have hc : Chg [m] w (w.setCell ⟨m, 2, none⟩ (.bool true)) := (Chg.refl [m] w).setCell (.inl (by simp)) _
  exact ⟨Blk.set_ h.b 2 _, ownsRow_chg h.rows hc (fun b hb hm => by obtain rfl : b = m := (by simpa using hm); exact h.ne.1 hb), ownsRow_chg h.taken hc (fun b hb hm => by obtain rfl : b = m := (by simpa using hm); exact h.ne.2 hb), h.apart, h.mF, h.rF, h.tF⟩
theorem RefR.tookT {w5 : World} {gn cg : Nat} {x : Rw} (h : RefR w F m s rv tv) (hc : Chg tv.ownBlock.toList w w5) (ho : w5.ownsRow 0 30 3 (.slice (some ⟨gn, 0, none⟩) (s.taken.length + 1) cg) (s.taken.length + 1) (rwsC s.taken ++ rwc x))
    (hat : tv.ownBlock = some gn ∨ w.heap.size ≤ gn) : RefR (w5.setCell ⟨m, 1, none⟩ (.slice (some ⟨gn, 0, none⟩) (s.taken.length + 1) cg)) (gn :: F) m { s with taken := s.taken ++ [x] } rv (.slice (some ⟨gn, 0, none⟩) (s.taken.length + 1) cg) := by
  have hb5 : Blk w5 m 41 #[rv, tv, .bool s.fz] := h.b.chg hc (fun hm => h.ne.2 (by simpa using hm))
  have hset : Chg [m] w5 (w5.setCell ⟨m, 1, none⟩ (.slice (some ⟨gn, 0, none⟩) (s.taken.length + 1) cg)) := (Chg.refl [m] w5).setCell (.inl (by simp)) _
  have hr5 := ownsRow_chg h.rows hc (fun b hb hm => by
    have ht : tv.ownBlock = some b := by simpa using hm
    rcases h.apart with h1 | h1
    · rw [h1] at hb; cases hb
    · exact h1 (hb.trans ht.symm))
  have hgm : gn ≠ m := fun e => own_blk_ne ho hb5 (by decide) (by simp [Value.ownBlock, e])
  refine ⟨Blk.set_ hb5 1 _, ownsRow_chg hr5 hset (fun b hb hm => by obtain rfl : b = m := (by simpa using hm); exact h.ne.1 hb), ?_, ?_, List.mem_cons_of_mem _ h.mF, fun b hb => List.mem_cons_of_mem _ (h.rF b hb), fun b hb => ?_⟩
  · rw [show (s.taken ++ [x]).length = s.taken.length + 1 by simp, rwsC_snoc]
    exact ownsRow_chg ho hset (fun b hb hm => by
      obtain rfl : b = m := by simpa using hm
      exact hgm (by simpa [Value.ownBlock] using hb))
  · by_cases hr : rv.ownBlock = none
    · exact .inl hr
    · refine .inr fun e => ?_
      have e : rv.ownBlock = some gn := e
      rcases hat with h1 | h1
      · rcases h.apart with h2 | h2
        · exact hr h2
        · exact h2 (e.trans h1.symm)
      · have := (h.rows.lt gn e).2; omega
  · have : gn = b := by simpa [Value.ownBlock] using hb
    subst this
    exact List.mem_cons_self
theorem RefR.tookR {w5 : World} {gn cg : Nat} {x : Rw} (h : RefR w F m s rv tv) (hc : Chg rv.ownBlock.toList w w5) (ho : w5.ownsRow 0 30 3 (.slice (some ⟨gn, 0, none⟩) (s.rows.length + 1) cg) (s.rows.length + 1) (rwsC s.rows ++ rwc x))
    (hat : rv.ownBlock = some gn ∨ w.heap.size ≤ gn) : RefR (w5.setCell ⟨m, 0, none⟩ (.slice (some ⟨gn, 0, none⟩) (s.rows.length + 1) cg)) (gn :: F) m { s with rows := s.rows ++ [x] } (.slice (some ⟨gn, 0, none⟩) (s.rows.length + 1) cg) tv := by
  have hb5 : Blk w5 m 41 #[rv, tv, .bool s.fz] := h.b.chg hc (fun hm => h.ne.1 (by simpa using hm))
  have hset : Chg [m] w5 (w5.setCell ⟨m, 0, none⟩ (.slice (some ⟨gn, 0, none⟩) (s.rows.length + 1) cg)) := (Chg.refl [m] w5).setCell (.inl (by simp)) _
  have ht5 := ownsRow_chg h.taken hc (fun b hb hm => by
    have ht : rv.ownBlock = some b := by simpa using hm
    rcases h.apart with h1 | h1
    · rw [h1] at ht; cases ht
    · exact h1 (ht.trans hb.symm))
  have hgm : gn ≠ m := fun e => own_blk_ne ho hb5 (by decide) (by simp [Value.ownBlock, e])
  refine ⟨Blk.set_ hb5 0 _, ?_, ownsRow_chg ht5 hset (fun b hb hm => by obtain rfl : b = m := (by simpa using hm); exact h.ne.2 hb), ?_, List.mem_cons_of_mem _ h.mF, fun b hb => ?_, fun b hb => List.mem_cons_of_mem _ (h.tF b hb)⟩
  · rw [show (s.rows ++ [x]).length = s.rows.length + 1 by simp, rwsC_snoc]
    exact ownsRow_chg ho hset (fun b hb hm => by
      obtain rfl : b = m := by simpa using hm
      exact hgm (by simpa [Value.ownBlock] using hb))
  · refine .inr fun e => ?_
    have e : tv.ownBlock = some gn := by simpa [Value.ownBlock] using e.symm
    rcases hat with h1 | h1
    · rcases h.apart with h2 | h2
      · rw [h2] at h1; cases h1
      · exact h2 (h1.trans e.symm)
    · have := (h.taken.lt gn e).2; omega
  · have : gn = b := by simpa [Value.ownBlock] using hb
    subst this
    exact List.mem_cons_self
end

def REnterPost (w : World) (F : List Nat) (m : Nat) (s : St) (x : Rw) (e : Ending) (w' : World) : Prop :=
  e = .returned (.int .i64 (enterS s x).2) ∧ ∃ F', RefS w' F' m (enterS s x).1 ∧ Chg F w w' ∧ ∀ b, b ∈ F' → b ∈ F ∨ w.heap.size ≤ b

theorem renter_end {w w' : World} {F F' : List Nat} {m : Nat} {s s' : St} {x : Rw} {c : Int} (he : enterS s x = (s', c)) (hR : RefS w' F' m s') (hc : Chg F w w') (hF : ∀ b, b ∈ F' → b ∈ F ∨ w.heap.size ≤ b) : REnterPost w F m s x (.returned (.int .i64 c)) w' := by
  unfold REnterPost
  rw [he]
  exact ⟨rfl, F', hR, hc, hF⟩

theorem no_nm {l : List Rw} {nm : ByteArray} (h : ∀ (j : Nat) r', l[j]? = some r' → r'.nm ≠ nm) : hasNm l nm = false := by
  unfold hasNm
  rw [List.any_eq_false]
  intro r hr
  obtain ⟨j, hj⟩ := List.getElem?_of_mem hr
  simpa using h j r hj
theorem yes_nm {l : List Rw} {nm : ByteArray} {k : Nat} {r : Rw} (h : l[k]? = some r) (hr : r.nm = nm) : hasNm l nm = true := by
  unfold hasNm
  rw [List.any_eq_true]
  exact ⟨r, List.mem_of_getElem? h, by simpa using hr⟩

theorem nm_yes {a b : ByteArray} (h : a = b) : (a == b) = true ∧ (a.toList == b.toList) = true := by
  subst h
  rw [beq_toListBytes]
  simp
theorem nm_no {a b : ByteArray} (h : a ≠ b) : (a == b) = false ∧ (a.toList == b.toList) = false := by
  rw [beq_toListBytes]
  have : (a.toList == b.toList) = false := by
    rw [beq_eq_false_iff_ne, Lib.toList_data, Lib.toList_data]
    exact fun e => h (bytes_ext e)
  exact ⟨this, this⟩

set_option maxRecDepth 100000 in
set_option maxHeartbeats 1000000 in
theorem renter_any (w : World) (F : List Nat) (m : Nat) (s : St) (x : Rw) (h : RefS w F m s) (hl : s.rows.length + s.taken.length ≤ 5864062014640) :
    Calls Tryz.prog 26 #[.pointer (some ⟨m, 0, none⟩), .agg #[.string x.nm, .int .u8 x.kd, .int .u32 x.fc]] w (REnterPost w F m s x) := by
  obtain ⟨rv, tv, hR⟩ := h
  have hbl := hR.b.lt
  obtain ⟨A, cap, hA⟩ := own_slice hR.rows
  subst hA
  obtain ⟨⟨c0, c1, c2⟩, ⟨f0, f1, f2⟩⟩ := hR.b.three
  have HR := Lib.hid hR
  have hemp : x.nm.toList.isEmpty = decide (x.nm.size = 0) := empty_of x.nm
  have HE := Lib.hid hemp
  obtain ⟨i0, hi0, hz0, hz1, hz2⟩ := info_parts row_info
  have I0 := Lib.hid hi0
  have Z0 := Lib.hid hz0; have Z1 := Lib.hid hz1; have Z2 := Lib.hid hz2
  clear hi0 hz0 hz1 hz2
  clear hemp hR
  cases hz : s.fz
  · rw [hz] at c2
    have HZ := Lib.hid hz
    clear hz
    by_cases h1 : x.nm.size = 0 ∨ 4096 < x.nm.size
    · have HEN : Hid (enterS s x = (s, 170)) := by show _ = _; unfold enterS; rw [HZ.out, if_neg (by simp), if_pos h1]
      rcases Nat.eq_zero_or_pos x.nm.size with h0 | h0
      · have he := HE.out
        rw [decide_eq_true h0] at he
        clear h0 h1
        go_enter Tryz.func26, Tryz.ntmps26
        go_wp2_with fail
        go_ret
        exact renter_end HEN.out ⟨_, tv, HR.out.fresh ((Chg.refl [] w).alloc _)⟩ ((Chg.refl F w).alloc _) (fun b hb => .inl hb)
      · have he := HE.out
        rw [decide_eq_false (by omega)] at he
        have h4 : (4096 : Int) < (x.nm.size : Int) := by omega
        clear h0 h1
        go_enter Tryz.func26, Tryz.ntmps26
        go_wp2_with fail
        go_ret
        exact renter_end HEN.out ⟨_, tv, HR.out.fresh ((Chg.refl [] w).alloc _)⟩ ((Chg.refl F w).alloc _) (fun b hb => .inl hb)
    · have HN1 := Lib.hid h1
      have he := HE.out
      rw [decide_eq_false (by omega)] at he
      have h4 : ¬ (4096 : Int) < (x.nm.size : Int) := by omega
      clear h1
      by_cases h2 : x.kd < 1 ∨ 26 < x.kd
      · have HEN : Hid (enterS s x = (s, 40)) := by show _ = _; unfold enterS; rw [HZ.out, if_neg (by simp), if_neg HN1.out, if_pos h2]
        have hk : x.kd < 1 ∨ (¬ x.kd < 1 ∧ 26 < x.kd) := by omega
        clear h2
        rcases hk with hk | ⟨hk, hk2⟩
        all_goals
          go_enter Tryz.func26, Tryz.ntmps26
          go_wp2_with fail
          go_ret
          exact renter_end HEN.out ⟨_, tv, HR.out.fresh ((Chg.refl [] w).alloc _)⟩ ((Chg.refl F w).alloc _) (fun b hb => .inl hb)
      · have HN2 := Lib.hid h2
        have hk : ¬ x.kd < 1 := by omega
        have hk2 : ¬ 26 < x.kd := by omega
        clear h2
        go_enter Tryz.func26, Tryz.ntmps26
        go_wp2_with fail
        go_loopg [5] s.rows.length (fun gk i wr => ∃ k : Nat, k + gk = s.rows.length ∧ i = .int .i64 k ∧ Chg [] (w.alloc (.cells #[.string x.nm, .int .u8 x.kd, .int .u32 x.fc] 30)) wr ∧ ∀ (j : Nat) r', j < k → s.rows[j]? = some r' → r'.nm ≠ x.nm)
        case atStart => exact ⟨0, by omega, rfl, Chg.refl _ _, fun j r' hj => absurd hj (by omega)⟩
        case round =>
          obtain ⟨k, hkk, rfl, hC, hno⟩ := hrel
          have HK := Lib.hid hkk; have HC := Lib.hid hC; have HNO := Lib.hid hno
          clear hkk hC hno
          have hxr := (Blk.new w 30 #[.string x.nm, .int .u8 x.kd, .int .u32 x.fc]).chg HC.out (by simp)
          obtain ⟨⟨x0, x1, x2⟩, -⟩ := hxr.three
          have hRr := HR.out.fresh (((Chg.refl [] w).alloc _).trans HC.out)
          obtain ⟨⟨c0, c1, c2⟩, ⟨f0, f1, f2⟩⟩ := hRr.b.three
          have hwr : w.heap.size < wr.heap.size := hxr.lt
          have HRr := Lib.hid hRr; have HXr := Lib.hid hxr
          have hml : m < wr.heap.size := hRr.b.lt
          clear hxr hRr
          by_cases hlt : k < s.rows.length
          · have hi : s.rows[k]? = some (s.rows[k]'hlt) := List.getElem?_eq_getElem hlt
            generalize s.rows[k]'hlt = r at hi
            have HI := Lib.hid hi
            obtain ⟨_, b, rfl, hb, q0, q1, q2⟩ := row_at HRr.out.rows hi
            have hkI : (k : Int) < (s.rows.length : Int) := by omega
            clear hi
            by_cases hkd : r.nm = x.nm
            · have HKD := Lib.hid hkd
              obtain ⟨e1, e2⟩ := nm_yes hkd
              clear hkd
              have HEN : Hid (enterS s x = ({ s with taken := s.taken ++ [x] }, 171)) := by show _ = _; unfold enterS; rw [HZ.out, if_neg (by simp), if_neg HN1.out, if_neg HN2.out, yes_nm HI.out HKD.out, if_pos rfl]
              go_wp2_with fail
              go_quiet (fail)
              go_wp2_with fail
              have hR2 := HRr.out.fresh ((Chg.refl [] wr).drewN nq)
              have hC2 := (((Chg.refl [] w).alloc _).trans HC.out).drewN nq
              have hx2 := HXr.out.drewN nq
              clear x0 x1 x2 c0 c1 c2 f0 f1 f2 q0 q1 q2 HRr HXr HC
              generalize wr.drewN nq = w2 at *
              obtain ⟨⟨x0, x1, x2⟩, -⟩ := hx2.three
              obtain ⟨⟨c0, c1, c2⟩, ⟨f0, f1, f2⟩⟩ := hR2.b.three
              have hml2 : m < w2.heap.size := hR2.b.lt
              have hwl2 : w.heap.size < w2.heap.size := hx2.lt
              have n2 := hR2.ne.2
              have N2 := Lib.hid n2
              have HR2 := Lib.hid hR2; have HC2 := Lib.hid hC2
              clear hR2 hC2 hx2 n2 e1 e2
              go_region_law (refine step_append_lies _ rfl (.tmp 54) (.tmp 56) _ rfl 0 30 i0 _ 3 24 Tryz.underlying22 I0.out Z0.out Z1.out Z2.out rfl (by omega) tv s.taken.length (rwsC s.taken) rfl (own_drew (HR2.out.taken.alloc _)) ⟨w2.heap.size, 0, none⟩ 1 1 (rwc x) rfl rfl (news_drew_at w2 _ _ _ rfl) (by simp [rwc, Value.oneCell']) (by omega) (by simp only [maxLen]; omega) (by omega) (by simp) _ rfl ?_; intro gn cg w5 hown hgrow hat hlt'; have hb5 := Blk.grown (Blk.alloc HR2.out.b _).drew hgrow (fun e => N2.out e.symm); have c15 := hb5.cell 1; have f15 := hb5.frozen 1; simp at c15; have HG5 := Lib.hid hgrow; have HO5 := Lib.hid hown; have HA5 := Lib.hid hat; clear hb5 hgrow hown hat)
              all_goals
                go_wp2_with fail
                go_ret
                have hc5 : Chg tv.ownBlock.toList w2 w5 := (((Chg.refl _ w2).alloc _).drew).grown HG5.out (fun b hb => .inl (by simp [hb]))
                have hat5 : tv.ownBlock = some gn ∨ w2.heap.size ≤ gn := HA5.out.imp id (fun e => by simp at e; omega)
                refine renter_end HEN.out ⟨_, _, HR2.out.tookT hc5 HO5.out hat5⟩ (((HC2.out.mono (by simp)).trans (hc5.mono (fun b hb => HR2.out.tF b (by simpa using hb)))).setCell (.inl HR2.out.mF) _) (fun b hb => ?_)
                rcases List.mem_cons.1 hb with rfl | hb
                · rcases hat5 with h | h
                  · exact .inl (HR2.out.tF _ h)
                  · exact .inr (by omega)
                · exact .inl hb
            · have HKD := Lib.hid hkd
              obtain ⟨e1, e2⟩ := nm_no hkd
              clear hkd
              go_wp2_with fail
              go_quiet (fail)
              go_wp2_with fail
              go_roundg (gk - 1)
              case rel =>
                refine ⟨k + 1, by have := HK.out; omega, by go_num, HC.out.drewN _, fun j r' hj hr' => ?_⟩
                by_cases hjk : j = k
                · subst hjk
                  have := HI.out.symm.trans hr'
                  injection this with this
                  subst this
                  exact HKD.out
                · exact HNO.out j r' (by omega) hr'
              case measure => have := HK.out; omega
          · have hkn : k = s.rows.length := by have := HK.out; omega
            have hkI : ¬ (k : Int) < (s.rows.length : Int) := by omega
            have HHN : Hid (hasNm s.rows x.nm = false) := no_nm (fun j r' hr' => HNO.out j r' (by have := (List.getElem?_eq_some_iff.1 hr').1; omega) hr')
            have HEN : Hid (enterS s x = ({ s with rows := s.rows ++ [x] }, 0)) := by show _ = _; unfold enterS; rw [HZ.out, if_neg (by simp), if_neg HN1.out, if_neg HN2.out, HHN.out]; rfl
            have n1 := HRr.out.ne.1
            have N1 := Lib.hid n1
            have HC2 := Lib.hid (((Chg.refl [] w).alloc _).trans HC.out)
            clear hlt n1 hkn
            go_wp2_with fail
            go_region_law (refine step_append_lies _ rfl (.tmp 64) (.tmp 66) _ rfl 0 30 i0 _ 3 24 Tryz.underlying22 I0.out Z0.out Z1.out Z2.out rfl (by omega) (.slice A s.rows.length cap) s.rows.length (rwsC s.rows) rfl (own_drew (HRr.out.rows.alloc _)) ⟨wr.heap.size, 0, none⟩ 1 1 (rwc x) rfl rfl (news_drew_at wr _ _ _ rfl) (by simp [rwc, Value.oneCell']) (by omega) (by simp only [maxLen]; omega) (by omega) (by simp) _ rfl ?_; intro gn cg w5 hown hgrow hat hlt'; have hb5 := Blk.grown (Blk.alloc HRr.out.b _).drew hgrow (fun e => N1.out e.symm); have c05 := hb5.cell 0; have f05 := hb5.frozen 0; simp at c05; have HG5 := Lib.hid hgrow; have HO5 := Lib.hid hown; have HA5 := Lib.hid hat; clear hb5 hgrow hown hat)
            all_goals
              go_wp2_with fail
              go_ret
              have hc5 : Chg (Value.slice A s.rows.length cap).ownBlock.toList wr w5 := (((Chg.refl _ wr).alloc _).drew).grown HG5.out (fun b hb => .inl (by simp [hb]))
              have hat5 : (Value.slice A s.rows.length cap).ownBlock = some gn ∨ wr.heap.size ≤ gn := HA5.out.imp id (fun e => by simp at e; omega)
              refine renter_end HEN.out ⟨_, _, HRr.out.tookR hc5 HO5.out hat5⟩ (((HC2.out.mono (by simp)).trans (hc5.mono (fun b hb => HRr.out.rF b (by simpa using hb)))).setCell (.inl HRr.out.mF) _) (fun b hb => ?_)
              rcases List.mem_cons.1 hb with rfl | hb
              · rcases hat5 with h | h
                · exact .inl (HRr.out.rF _ h)
                · exact .inr (by omega)
              · exact .inl hb
  · have HZ := Lib.hid hz
    rw [hz] at c2
    clear hz
    go_enter Tryz.func26, Tryz.ntmps26
    go_wp2_with fail
    go_ret
    exact renter_end (by unfold enterS; rw [HZ.out, if_pos rfl]) ⟨_, tv, HR.out.fresh ((Chg.refl [] w).alloc _)⟩ ((Chg.refl F w).alloc _) (fun b hb => .inl hb)
end Go.Proofs.YtacijlfckmllcaaGreatDoor
