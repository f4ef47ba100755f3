/-
  Entering a row.
-/
import Derived.Test.YtacijlfckmllcaaGreatDoorReg3
import Derived.Test.YtacijlfckmllcaaGreatDoorSer2
import Derived.Lib.Bytes
import Derived.Deep.RegionLaw
import Derived.Deep.CutBlock
namespace Go.Proofs.YtacijlfckmllcaaGreatDoor
open Go.RowKit Go.WideMaps Go.Maps

theorem law_names : Keyed Tryz.prog 9 := string_keyed Tryz.underlying9
theorem zero_int (w : World) : (zeroValue 3).run Tryz.prog w = .ok (.int .i64 0) w := by kernel_rfl
theorem row_info : (Tryz.prog.info? 30).map (fun i => (i.zero, i.size, i.bytes)) = some (some (.agg (rwc ⟨⟨#[]⟩, 0, 0⟩).toArray), 3, 24) := by kernel_rfl

/-- The rest of a registry in memory, beside its own block g; F are its blocks. -/
structure Rest (w : World) (F : List Nat) (g : Nat) (s : St) (rv tv : Value) (mb : Nat) (D : DataW Unit) : Prop where
  rows : w.ownsRow 0 30 3 rv s.rows.length (rwsC s.rows)
  taken : w.ownsRow 0 30 3 tv s.taken.length (rwsC s.taken)
  apart : rv.ownBlock = none ∨ rv.ownBlock ≠ tv.ownBlock
  map : w.ownsMap Tryz.prog 9 (plainElem (H := Unit) Tryz.prog 3) mb s.rows.length D
  names : NamesOk D s.rows
  gF : g ∈ F
  mF : mb ∈ F
  rF : ∀ b, rv.ownBlock = some b → b ∈ F
  tF : ∀ b, tv.ownBlock = some b → b ∈ F
  r0 : s.rows = [] → rv = .slice none 0 0
  t0 : s.taken = [] → tv = .slice none 0 0

def RegS (w : World) (F : List Nat) (g : Nat) (s : St) : Prop :=
  ∃ rv tv mb D, Reg w g 0 (fzn s.fz) 0 rv (.map (some mb)) tv (fzn s.fz) ∧ Rest w F g s rv tv mb D

theorem map_chg {w w' : World} {S : List Nat} {k : TypeId} {R : Value → Option (DataW Unit × List MemPlace)} {b n : Nat} {D : DataW Unit} (h : w.ownsMap Tryz.prog k R b n D) (hc : Chg S w w') (hn : b ∉ S) : w'.ownsMap Tryz.prog k R b n D := by
  have hlt := h.lt
  obtain ⟨es, clock, hb, F, hs, hD⟩ := h
  exact ⟨es, clock, (hc.block b hlt hn).trans hb, F, hs, hD⟩
theorem map_blk {w : World} {k : TypeId} {R : Value → Option (DataW Unit × List MemPlace)} {b n g : Nat} {D : DataW Unit} {t : TypeId} {cs : Array Value} (h : w.ownsMap Tryz.prog k R b n D) (hb : Blk w g t cs) : b ≠ g := by
  rintro rfl
  obtain ⟨es, clock, h1, _⟩ := h
  unfold Blk at hb
  rw [h1] at hb
  cases hb
theorem map_row {w : World} {k : TypeId} {R : Value → Option (DataW Unit × List MemPlace)} {b n : Nat} {D : DataW Unit} {base : Nat} {e : TypeId} {size n' : Nat} {v : Value} {xs : List Value} (h : w.ownsMap Tryz.prog k R b n D) (hr : w.ownsRow base e size v n' xs) : v.ownBlock ≠ some b := by
  intro hv
  rcases hr.2 with ⟨rfl, _⟩ | ⟨g', cap, cur, rfl, _, hh, _⟩
  · simp [Value.ownBlock] at hv
  · have : g' = b := by simpa [Value.ownBlock] using hv
    subst this
    exact map_blk h hh rfl

section
variable {w w' : World} {F : List Nat} {g : Nat} {s : St} {rv tv : Value} {mb : Nat} {D : DataW Unit}
theorem Rest.chg {S : List Nat} (h : Rest w F g s rv tv mb D) (hc : Chg S w w') (hr : ∀ b, rv.ownBlock = some b → b ∉ S) (ht : ∀ b, tv.ownBlock = some b → b ∉ S) (hm : mb ∉ S) : Rest w' F g s rv tv mb D :=
  ⟨ownsRow_chg h.rows hc hr, ownsRow_chg h.taken hc ht, h.apart, map_chg h.map hc hm, h.names, h.gF, h.mF, h.rF, h.tF, h.r0, h.t0⟩
theorem Rest.drew (h : Rest w F g s rv tv mb D) : Rest w.drew F g s rv tv mb D := ⟨h.rows, h.taken, h.apart, h.map, h.names, h.gF, h.mF, h.rF, h.tF, h.r0, h.t0⟩
theorem Rest.fresh (h : Rest w F g s rv tv mb D) (hc : Chg [] w w') : Rest w' F g s rv tv mb D := h.chg hc (by simp) (by simp) (by simp)
/-- Where only the registry's own block turned. -/
theorem Rest.own {cs : Array Value} (h : Rest w F g s rv tv mb D) (hb : Blk w g 59 cs) (hc : Chg [g] w w') : Rest w' F g s rv tv mb D :=
  h.chg hc (fun b hb' hm => by obtain rfl : b = g := (by simpa using hm); exact own_blk_ne h.rows hb (by decide) hb')
    (fun b hb' hm => by obtain rfl : b = g := (by simpa using hm); exact own_blk_ne h.taken hb (by decide) hb')
    (fun hm => by obtain rfl : mb = g := (by simpa using hm); exact map_blk h.map hb rfl)
theorem Rest.blocks {cs : Array Value} (h : Rest w F g s rv tv mb D) (hb : Blk w g 59 cs) : rv.ownBlock ≠ some g ∧ tv.ownBlock ≠ some g ∧ mb ≠ g ∧ rv.ownBlock ≠ some mb ∧ tv.ownBlock ≠ some mb :=
  ⟨own_blk_ne h.rows hb (by decide), own_blk_ne h.taken hb (by decide), map_blk h.map hb, map_row h.map h.rows, map_row h.map h.taken⟩
theorem Rest.g1 (h : Rest w F g s rv tv mb D) {a b : World} (hc : Chg [g] a b) : Chg F a b := hc.mono fun i hi => by
  obtain rfl : i = g := by simpa using hi
  exact h.gF
end

section
variable {w w' : World} {F : List Nat} {g : Nat} {s : St} {rv tv : Value} {mb : Nat} {D : DataW Unit}
/-- A row more among the refused ones. -/
theorem Rest.tookT {gn cg : Nat} {x : Rw} (h : Rest w F g s rv tv mb D) (hc : Chg tv.ownBlock.toList w w') (ho : w'.ownsRow 0 30 3 (.slice (some ⟨gn, 0, none⟩) (s.taken.length + 1) cg) (s.taken.length + 1) (rwsC s.taken ++ rwc x))
    (hat : tv.ownBlock = some gn ∨ w.heap.size ≤ gn) : Rest w' (gn :: F) g { s with taken := s.taken ++ [x] } rv (.slice (some ⟨gn, 0, none⟩) (s.taken.length + 1) cg) mb D := by
  have hrl : ∀ b, rv.ownBlock = some b → b < w.heap.size := fun b hb => (h.rows.lt b hb).2
  refine ⟨ownsRow_chg h.rows hc ?_, ?_, ?_, map_chg h.map hc ?_, h.names, List.mem_cons_of_mem _ h.gF, List.mem_cons_of_mem _ h.mF, fun b hb => List.mem_cons_of_mem _ (h.rF b hb), fun b hb => ?_, h.r0, fun e => by simp at e⟩
  · intro b hb hm
    have ht : tv.ownBlock = some b := by simpa using hm
    rcases h.apart with h1 | h1
    · rw [h1] at hb; cases hb
    · exact h1 (hb.trans ht.symm)
  · have := ho
    rw [show (s.taken ++ [x]).length = s.taken.length + 1 by simp, rwsC_snoc]
    exact this
  · by_cases hr : rv.ownBlock = none
    · exact .inl hr
    · refine .inr fun e => ?_
      have e : rv.ownBlock = some gn := e
      rcases hat with h1 | h1
      · rcases h.apart with h2 | h2
        · exact hr h2
        · exact h2 (e.trans h1.symm)
      · have := hrl gn e; omega
  · intro hm
    exact map_row h.map h.taken (by simpa using hm)
  · have : gn = b := by simpa [Value.ownBlock] using hb
    subst this
    exact List.mem_cons_self
/-- A row more on the roll, whose name the map has got. -/
theorem Rest.tookR {w3 : World} {gn cg : Nat} {x : Rw} (h : Rest w F g s rv tv mb D) (hn : hasNm s.rows x.nm = false) (hg : w.grownBy w3 (some mb)) (hm3 : w3.ownsMap Tryz.prog 9 (plainElem (H := Unit) Tryz.prog 3) mb (s.rows.length + 1) (D.put (.string x.nm.data.toList) (.lit (.int .i64 (s.rows.length : Int)))))
    (hc : Chg rv.ownBlock.toList w3 w') (ho : w'.ownsRow 0 30 3 (.slice (some ⟨gn, 0, none⟩) (s.rows.length + 1) cg) (s.rows.length + 1) (rwsC s.rows ++ rwc x))
    (hat : rv.ownBlock = some gn ∨ w3.heap.size ≤ gn) : Rest w' (gn :: F) g { s with rows := s.rows ++ [x] } (.slice (some ⟨gn, 0, none⟩) (s.rows.length + 1) cg) tv mb (D.put (.string x.nm.data.toList) (.lit (.int .i64 (s.rows.length : Int)))) := by
  have htl : ∀ b, tv.ownBlock = some b → b < w.heap.size := fun b hb => (h.taken.lt b hb).2
  have hc3 : Chg [mb] w w3 := (Chg.refl [mb] w).grown hg (fun k hk => .inl (by simp at hk; simp [hk]))
  refine ⟨?_, ownsRow_chg (ownsRow_chg h.taken hc3 ?_) hc ?_, ?_, ?_, h.names.snoc x hn, List.mem_cons_of_mem _ h.gF, List.mem_cons_of_mem _ h.mF, fun b hb => ?_, fun b hb => List.mem_cons_of_mem _ (h.tF b hb), fun e => by simp at e, h.t0⟩
  · rw [show (s.rows ++ [x]).length = s.rows.length + 1 by simp, rwsC_snoc]
    exact ho
  · intro b hb hm
    obtain rfl : b = mb := by simpa using hm
    exact map_row h.map h.taken hb
  · intro b hb hm
    have ht : rv.ownBlock = some b := by simpa using hm
    rcases h.apart with h1 | h1
    · rw [h1] at ht; cases ht
    · exact h1 (ht.trans hb.symm)
  · refine .inr fun e => ?_
    have e : tv.ownBlock = some gn := by simpa [Value.ownBlock] using e.symm
    rcases hat with h1 | h1
    · rcases h.apart with h2 | h2
      · rw [h2] at h1; cases h1
      · exact h2 (h1.trans e.symm)
    · have := htl gn e; have := hc3.size; omega
  · rw [show (s.rows ++ [x]).length = s.rows.length + 1 by simp]
    exact map_chg hm3 hc (fun hm => map_row h.map h.rows (by simpa using hm))
  · have : gn = b := by simpa [Value.ownBlock] using hb
    subst this
    exact List.mem_cons_self
end

theorem empty_of (b : ByteArray) : b.toList.isEmpty = decide (b.size = 0) := by
  rw [Lib.toList_data]
  have e : b.size = b.data.toList.length := by cases b; simp [ByteArray.size]
  rw [e]
  cases b.data.toList <;> simp

def EnterPost (w : World) (F : List Nat) (g : Nat) (s : St) (x : Rw) (e : Ending) (w' : World) : Prop :=
  e = .returned (.int .i64 (enterS s x).2) ∧ ∃ F', RegS w' F' g (enterS s x).1 ∧ Chg F w w' ∧ ∀ b, b ∈ F' → b ∈ F ∨ w.heap.size ≤ b

theorem lock_reg (w : World) (g : Nat) (done m : Int) (rows names taken : Value) (fr : Int) (h : Reg w g 0 done m rows names taken fr) :
    Calls Tryz.prog 22 #[.pointer (some ⟨g, 0, none⟩)] w fun e w' => e = .returned (.tuple #[]) ∧ Reg w' g 1 done m rows names taken fr ∧ Chg [g] w w' :=
  (lock_free ⟨g, 0, none⟩ w h.c0 (h.fz 0)).mono fun _ _ ⟨he, hw⟩ => by subst hw; exact ⟨he, h.lock 1, (Chg.refl [g] w).setCell (.inl (by simp)) _⟩

theorem unlock_reg (w : World) (u : FrameMode) (g : Nat) (done m : Int) (rows names taken : Value) (fr : Int) (h : Reg w g 1 done m rows names taken fr) :
    CallsD Tryz.prog 23 #[.pointer (some ⟨g, 0, none⟩)] u w fun e u' w' => u' = u ∧ (e = .returned (.tuple #[]) ∧ Reg w' g 0 done m rows names taken fr ∧ Chg [g] w w') :=
  (unlock_deferred ⟨g, 0, none⟩ u w h.c0 (h.fz 0)).mono fun _ _ _ ⟨hu, he, hw⟩ => by subst hw; exact ⟨hu, he, h.lock 0, (Chg.refl [g] w).setCell (.inl (by simp)) _⟩

theorem enter_end {w w' : World} {F F' : List Nat} {g : Nat} {s s' : St} {x : Rw} {c : Int} (he : enterS s x = (s', c)) (hR : RegS w' F' g s') (hc : Chg F w w') (hF : ∀ b, b ∈ F' → b ∈ F ∨ w.heap.size ≤ b) : EnterPost w F g s x (.returned (.int .i64 c)) w' := by
  unfold EnterPost
  rw [he]
  exact ⟨rfl, F', hR, hc, hF⟩

set_option maxRecDepth 100000 in
set_option maxHeartbeats 1000000 in
theorem enter_any (w : World) (F : List Nat) (g : Nat) (s : St) (x : Rw) (h : RegS w F g s) (hx : x.nm.size ≤ maxLen) (hl : s.rows.length + s.taken.length ≤ 5864062014640) :
    Calls Tryz.prog 8 #[.pointer (some ⟨g, 0, none⟩), .agg #[.string x.nm, .int .u8 x.kd, .int .u32 x.fc]] w (EnterPost w F g s x) := by
  obtain ⟨rv, tv, mb, D, hR, hS⟩ := h
  have hbl := hR.lt
  have HS := Lib.hid (hS.own hR (((Chg.refl [g] w).alloc (.cells #[.string x.nm, .int .u8 x.kd, .int .u32 x.fc] 30))))
  have hF := hS.g1 (((Chg.refl [g] w).alloc (.cells #[.string x.nm, .int .u8 x.kd, .int .u32 x.fc] 30)))
  have HF := Lib.hid hF
  clear hF
  cases hz : s.fz
  · rw [hz] at hR
    have HR := Lib.hid hR; have HZ := Lib.hid hz
    clear hR hz hS
    have hemp : x.nm.toList.isEmpty = decide (x.nm.size = 0) := empty_of x.nm
    have HE := Lib.hid hemp
    clear hemp
    go_enter_defers Tryz.func8, Tryz.ntmps8
    go_wp2_with fail
    have hb := HR.out.alloc (.cells #[.string x.nm, .int .u8 x.kd, .int .u32 x.fc] 30)
    refine (lock_reg _ g _ _ _ _ _ _ hb).mono ?_
    rintro e w1 ⟨rfl, hb1, hc1⟩
    have c8 := hb1.c8
    simp [fzn] at c8
    have hbx : Blk w1 w.heap.size 30 #[.string x.nm, .int .u8 x.kd, .int .u32 x.fc] := (Blk.new w 30 #[.string x.nm, .int .u8 x.kd, .int .u32 x.fc]).chg hc1 (by simp; omega)
    obtain ⟨⟨x0, x1, x2⟩, -⟩ := hbx.three
    have HBX := Lib.hid hbx
    have HB1 := Lib.hid hb1; have HC1 := Lib.hid hc1
    have hs1 := HS.out.own hb hc1
    have HS1 := Lib.hid hs1
    clear hb hb1 hc1 hbx hs1
    by_cases h1 : x.nm.size = 0 ∨ 4096 < x.nm.size
    · have HEN : Hid (enterS s x = (s, 170)) := by show _ = _; unfold enterS; rw [HZ.out, if_neg (by simp), if_pos h1]
      rcases Nat.eq_zero_or_pos x.nm.size with h0 | h0
      · have he := HE.out
        rw [decide_eq_true h0] at he
        clear h0 h1
        go_wp2_with fail
        refine leaves_cons (f := 23) (args := #[.pointer (some ⟨g, 0, none⟩)]) (by simp) (by simp [go_sem]) ?_
        refine (unlock_reg _ .returning g _ _ _ _ _ _ HB1.out).mono ?_
        rintro e u' w2 ⟨rfl, rfl, hb2, hc2⟩
        exact ⟨(.int .i64 170 : Value), (by simp only [results, Tryz.results8]; go_simp), enter_end HEN.out ⟨rv, tv, mb, D, by rw [HZ.out]; exact hb2, HS1.out.own HB1.out hc2⟩ (HF.out.trans (HS.out.g1 (HC1.out.trans hc2))) (fun b hb => .inl hb)⟩
      · have he := HE.out
        rw [decide_eq_false (by omega)] at he
        have h4 : (4096 : Int) < (x.nm.size : Int) := by omega
        clear h0 h1
        go_wp2_with fail
        refine leaves_cons (f := 23) (args := #[.pointer (some ⟨g, 0, none⟩)]) (by simp) (by simp [go_sem]) ?_
        refine (unlock_reg _ .returning g _ _ _ _ _ _ HB1.out).mono ?_
        rintro e u' w2 ⟨rfl, rfl, hb2, hc2⟩
        exact ⟨(.int .i64 170 : Value), (by simp only [results, Tryz.results8]; go_simp), enter_end HEN.out ⟨rv, tv, mb, D, by rw [HZ.out]; exact hb2, HS1.out.own HB1.out hc2⟩ (HF.out.trans (HS.out.g1 (HC1.out.trans hc2))) (fun b hb => .inl hb)⟩
    · have HN1 := Lib.hid h1
      have he := HE.out
      rw [decide_eq_false (by omega)] at he
      have h4 : ¬ (4096 : Int) < (x.nm.size : Int) := by omega
      have hsz : x.nm.size ≤ 4096 := by omega
      clear h1
      by_cases h2 : x.kd < 1 ∨ 26 < x.kd
      · have HEN : Hid (enterS s x = (s, 40)) := by show _ = _; unfold enterS; rw [HZ.out, if_neg (by simp), if_neg HN1.out, if_pos h2]
        have hk : x.kd < 1 ∨ (¬ x.kd < 1 ∧ 26 < x.kd) := by omega
        clear h2
        rcases hk with hk | ⟨hk, hk2⟩
        all_goals
          go_wp2_with fail
          refine leaves_cons (f := 23) (args := #[.pointer (some ⟨g, 0, none⟩)]) (by simp) (by simp [go_sem]) ?_
          refine (unlock_reg _ .returning g _ _ _ _ _ _ HB1.out).mono ?_
          rintro e u' w2 ⟨rfl, rfl, hb2, hc2⟩
          exact ⟨(.int .i64 40 : Value), (by simp only [results, Tryz.results8]; go_simp), enter_end HEN.out ⟨rv, tv, mb, D, by rw [HZ.out]; exact hb2, HS1.out.own HB1.out hc2⟩ (HF.out.trans (HS.out.g1 (HC1.out.trans hc2))) (fun b hb => .inl hb)⟩
      · have HN2 := Lib.hid h2
        have hk : ¬ x.kd < 1 := by omega
        have hk2 : ¬ 26 < x.kd := by omega
        have c6 := HB1.out.c6
        clear h2
        have hkey := keyOf_string_mk (P := Tryz.prog) (k := 9) Tryz.underlying9 hx
        have HK := Lib.hid hkey
        have hlr : s.rows.length ≤ 5864062014640 := by omega
        have hml : s.rows.length ≤ maxLen := by unfold maxLen; omega
        clear hkey
        go_upto_region 11 with fail
        refine wp_region_pick [] [0, 1, 2, 3, 4, 5] 6 (by kernel_rfl) (by kernel_rfl) ?_
        simp only [List.nil_append, pickOps, List.getElem?_cons_succ, List.getElem?_cons_zero, List.drop_succ_cons, List.drop_zero]
        repeat still_step
        refine wpStill_nil ?_
        go_wp2_with (at_lookup; refine wpList_lookup_own_ok_int _ rfl (.tmp 45) (.tmp 47) 46 rfl 9 3 .i64 law_names Tryz.underlying46 Tryz.underlying3 (zero_int _) mb s.rows.length D rfl HS1.out.map.drew _ _ rfl HK.out ?_; intro c hat hwc)
        have hh := HS1.out.names.has_ x.nm
        refine NoPanic.normal ?_
        have hb2 := HB1.out.drew; have hs2 := HS1.out.fresh ((Chg.refl [] w1).drew); have hc2 := HC1.out.drew; have hx2 := HBX.out.drew
        clear c8 c6 x0 x1 x2 hat hwc HB1 HS1 HC1 HBX he h4 hk hk2
        generalize w1.drew = w2 at *
        have HB2 := Lib.hid hb2; have HS2 := Lib.hid hs2; have HC2 := Lib.hid hc2; have HX2 := Lib.hid hx2
        obtain ⟨⟨x0, x1, x2⟩, -⟩ := hx2.three
        have hw2 : w.heap.size < w2.heap.size := hx2.lt
        have hbl2 : g < w2.heap.size := hb2.lt
        have c5 := hb2.c5; have c6 := hb2.c6; have c7 := hb2.c7
        obtain ⟨i0, hi0, hz0, hz1, hz2⟩ := info_parts row_info
        have I0 := Lib.hid hi0
        have Z0 := Lib.hid hz0; have Z1 := Lib.hid hz1; have Z2 := Lib.hid hz2
        obtain ⟨n1, n2, n3, n4, n5⟩ := hs2.blocks hb2
        have N1 := Lib.hid n1; have N2 := Lib.hid n2; have N3 := Lib.hid n3; have N4 := Lib.hid n4; have N5 := Lib.hid n5
        clear hb2 hs2 hc2 hx2 hi0 hz0 hz1 hz2 n1 n2 n3 n4 n5
        cases hn : hasNm s.rows x.nm
        · rw [hn] at hh
          rw [hh]
          have HEN : Hid (enterS s x = ({ s with rows := s.rows ++ [x] }, 0)) := by show _ = _; unfold enterS; rw [HZ.out, if_neg (by simp), if_neg HN1.out, if_neg HN2.out, hn]; rfl
          have HHN := Lib.hid hn
          obtain ⟨A, cap, hA⟩ := own_slice HS2.out.rows
          subst hA
          clear hh hn
          go_upto_region 15 with fail
          refine wp_region_pick [] [0, 1, 2, 3, 4, 5, 6, 7, 8, 9, 10] 11 (by kernel_rfl) (by kernel_rfl) ?_
          simp only [List.nil_append, pickOps, List.getElem?_cons_succ, List.getElem?_cons_zero, List.drop_succ_cons, List.drop_zero]
          repeat still_step
          refine wpStill_nil ?_
          go_wp2_with (at_mapUpdate; refine wpList_mapUpdate_own _ rfl (.tmp 65) (.tmp 67) (.tmp 72) 46 rfl 9 3 law_names Tryz.underlying46 _ mb s.rows.length D rfl HS2.out.map.drew (by unfold maxLen; omega) _ _ _ rfl rfl HK.out (.lit (.int .i64 (s.rows.length : Int))) [] (plainElem_int Tryz.underlying3 (WalkArith.wf_i64 (by omega))) ?_; intro w3 hown3 hgrow3; have HM3 := Lib.hid hown3; have HG3 := Lib.hid hgrow3; clear hown3 hgrow3)
          refine NoPanic.normal ?_
          have hc3 : Chg [mb] w2 w3 := ((Chg.refl [mb] w2).drew).grown HG3.out (fun k hk => .inl (by simp at hk; simp [hk]))
          have hb3 : Reg w3 g 1 _ _ _ _ _ _ := Blk.chg HB2.out hc3 (by simpa using Ne.symm N3.out)
          have hx3 := Blk.chg HX2.out hc3 (by simpa using Ne.symm (map_blk HS2.out.map HX2.out))
          have hr3 := ownsRow_chg HS2.out.rows hc3 (fun b hb hm => by obtain rfl : b = mb := (by simpa using hm); exact N4.out hb)
          have hw3 : w2.heap.size ≤ w3.heap.size := hc3.size
          have HC3 := Lib.hid hc3; have HB3 := Lib.hid hb3; have HR3 := Lib.hid hr3
          have c5 := hb3.c5
          obtain ⟨⟨x0, x1, x2⟩, -⟩ := hx3.three
          have hbl3 : g < w3.heap.size := by omega
          have hww3 : w.heap.size < w3.heap.size := by omega
          clear hc3 hb3 hr3 hx3 c6 c7
          go_upto_region 16 with fail
          refine wp_region_noPanic ?_
          go_region_law (refine step_append_lies _ rfl (.tmp 77) (.tmp 79) _ rfl 0 30 i0 _ 3 24 Tryz.underlying22 I0.out Z0.out Z1.out Z2.out rfl (by omega) (.slice A s.rows.length cap) s.rows.length (rwsC s.rows) rfl (own_drew (HR3.out.alloc _)) ⟨w3.heap.size, 0, none⟩ 1 1 (rwc x) rfl rfl (news_drew_at w3 _ _ _ rfl) (by simp [rwc, Value.oneCell']) (by omega) (by simp only [maxLen]; omega) (by omega) (by simp) _ rfl ?_; intro gn cg w5 hown hgrow hat hlt'; have hb5 : Reg w5 g 1 _ _ _ _ _ _ := Blk.grown (Reg.alloc HB3.out _).drew hgrow (fun e => N1.out e.symm); have c75 := hb5.c5; have f75 := hb5.fz 5; have HG5 := Lib.hid hgrow; have HO5 := Lib.hid hown; have HB5 := Lib.hid hb5; have HA5 := Lib.hid hat; clear hb5 hgrow hown hat)
          all_goals
            refine NoPanic.normal ?_
            go_wp2_with fail
            have hc5 : Chg (Value.slice A s.rows.length cap).ownBlock.toList w3 w5 := (((Chg.refl _ w3).alloc _).drew).grown HG5.out (fun b hb => .inl (by simp [hb]))
            have hat5 : (Value.slice A s.rows.length cap).ownBlock = some gn ∨ w3.heap.size ≤ gn := HA5.out.imp id (fun e => by simp at e; omega)
            have hs6 := (HS2.out.drew.tookR HHN.out HG3.out HM3.out hc5 HO5.out hat5).own HB5.out ((Chg.refl [g] w5).setCell (p := ⟨g, 5, none⟩) (.inl (by simp)) (.slice (some ⟨gn, 0, none⟩) (s.rows.length + 1) cg))
            have hb6 := HB5.out.rows_ (.slice (some ⟨gn, 0, none⟩) (s.rows.length + 1) cg)
            have hcF : Chg F w2 w5 := (HC3.out.mono (fun b hb => by obtain rfl : b = mb := (by simpa using hb); exact HS2.out.mF)).trans (hc5.mono (fun b hb => HS2.out.rF b (by simpa using hb)))
            have hcE := ((HF.out.trans (HS.out.g1 HC2.out)).trans hcF).setCell (p := ⟨g, 5, none⟩) (.inl HS.out.gF) (.slice (some ⟨gn, 0, none⟩) (s.rows.length + 1) cg)
            have HS6 := Lib.hid hs6; have HB6 := Lib.hid hb6; have HCE := Lib.hid hcE
            have hnew : ∀ b, b ∈ gn :: F → b ∈ F ∨ w.heap.size ≤ b := fun b hb => by
              rcases List.mem_cons.1 hb with rfl | hb
              · rcases hat5 with h | h
                · exact .inl (HS2.out.rF _ h)
                · exact .inr (by omega)
              · exact .inl hb
            have HNW := Lib.hid hnew
            clear hs6 hb6 hcE hcF hc5 hat5 hnew
            refine leaves_cons (f := 23) (args := #[.pointer (some ⟨g, 0, none⟩)]) (by simp) (by simp [go_sem]) ?_
            refine (unlock_reg _ .returning g _ _ _ _ _ _ HB6.out).mono ?_
            rintro e u' w7 ⟨rfl, rfl, hb7, hc7⟩
            exact ⟨(.int .i64 0 : Value), (by simp only [results, Tryz.results8]; go_simp), enter_end HEN.out ⟨_, tv, mb, _, by show Reg w7 g 0 (fzn s.fz) 0 _ _ _ (fzn s.fz); rw [HZ.out]; exact hb7, HS6.out.own HB6.out hc7⟩ (HCE.out.trans (HS.out.g1 hc7)) HNW.out⟩
        · rw [hn] at hh
          rw [hh]
          have HEN : Hid (enterS s x = ({ s with taken := s.taken ++ [x] }, 171)) := by show _ = _; unfold enterS; rw [HZ.out, if_neg (by simp), if_neg HN1.out, if_neg HN2.out, hn, if_pos rfl]
          clear hh hn
          go_upto_region 13 with fail
          refine wp_region_noPanic ?_
          go_region_law (refine step_append_lies _ rfl (.tmp 56) (.tmp 58) _ rfl 0 30 i0 _ 3 24 Tryz.underlying22 I0.out Z0.out Z1.out Z2.out rfl (by omega) tv s.taken.length (rwsC s.taken) rfl (own_drew (HS2.out.taken.alloc _)) ⟨w2.heap.size, 0, none⟩ 1 1 (rwc x) rfl rfl (news_drew_at w2 _ _ _ rfl) (by simp [rwc, Value.oneCell']) (by omega) (by simp only [maxLen]; omega) (by omega) (by simp) _ rfl ?_; intro gn cg w5 hown hgrow hat hlt'; have hb5 : Reg w5 g 1 _ _ _ _ _ _ := Blk.grown (Reg.alloc HB2.out _).drew hgrow (fun e => N2.out e.symm); have c75 := hb5.c7; have f75 := hb5.fz 7; have HG5 := Lib.hid hgrow; have HO5 := Lib.hid hown; have HB5 := Lib.hid hb5; have HA5 := Lib.hid hat; clear hb5 hgrow hown hat)
          all_goals
            refine NoPanic.normal ?_
            go_wp2_with fail
            have hc5 : Chg tv.ownBlock.toList w2 w5 := (((Chg.refl _ w2).alloc _).drew).grown HG5.out (fun b hb => .inl (by simp [hb]))
            have hat5 : tv.ownBlock = some gn ∨ w2.heap.size ≤ gn := HA5.out.imp id (fun e => by simp at e; omega)
            have hs6 := (HS2.out.tookT hc5 HO5.out hat5).own HB5.out ((Chg.refl [g] w5).setCell (p := ⟨g, 7, none⟩) (.inl (by simp)) (.slice (some ⟨gn, 0, none⟩) (s.taken.length + 1) cg))
            have hb6 := HB5.out.taken_ (.slice (some ⟨gn, 0, none⟩) (s.taken.length + 1) cg)
            have hcF : Chg F w2 w5 := hc5.mono (fun b hb => HS2.out.tF b (by simpa using hb))
            have hcE := ((HF.out.trans (HS.out.g1 HC2.out)).trans hcF).setCell (p := ⟨g, 7, none⟩) (.inl HS.out.gF) (.slice (some ⟨gn, 0, none⟩) (s.taken.length + 1) cg)
            have HS6 := Lib.hid hs6; have HB6 := Lib.hid hb6; have HCE := Lib.hid hcE
            have hnew : ∀ b, b ∈ gn :: F → b ∈ F ∨ w.heap.size ≤ b := fun b hb => by
              rcases List.mem_cons.1 hb with rfl | hb
              · rcases hat5 with h | h
                · exact .inl (HS2.out.tF _ h)
                · exact .inr (by omega)
              · exact .inl hb
            have HNW := Lib.hid hnew
            clear hs6 hb6 hcE hcF hc5 hat5 hnew
            refine leaves_cons (f := 23) (args := #[.pointer (some ⟨g, 0, none⟩)]) (by simp) (by simp [go_sem]) ?_
            refine (unlock_reg _ .returning g _ _ _ _ _ _ HB6.out).mono ?_
            rintro e u' w7 ⟨rfl, rfl, hb7, hc7⟩
            exact ⟨(.int .i64 171 : Value), (by simp only [results, Tryz.results8]; go_simp), enter_end HEN.out ⟨rv, _, mb, D, by show Reg w7 g 0 (fzn s.fz) 0 rv _ _ (fzn s.fz); rw [HZ.out]; exact hb7, HS6.out.own HB6.out hc7⟩ (HCE.out.trans (HS.out.g1 hc7)) HNW.out⟩
  · rw [hz] at hR
    have HR := Lib.hid hR; have HZ := Lib.hid hz
    clear hR hz hS
    go_enter_defers Tryz.func8, Tryz.ntmps8
    go_wp2_with fail
    have hb := HR.out.alloc (.cells #[.string x.nm, .int .u8 x.kd, .int .u32 x.fc] 30)
    refine (lock_reg _ g _ _ _ _ _ _ hb).mono ?_
    rintro e w1 ⟨rfl, hb1, hc1⟩
    have c8 := hb1.c8
    simp only [fzn, if_true] at c8
    have HB1 := Lib.hid hb1; have HC1 := Lib.hid hc1
    clear hb hb1 hc1
    go_wp2_with fail
    refine leaves_cons (f := 23) (args := #[.pointer (some ⟨g, 0, none⟩)]) (by simp) (by simp [go_sem]) ?_
    refine (unlock_reg _ .returning g _ _ _ _ _ _ HB1.out).mono ?_
    rintro e u' w2 ⟨rfl, rfl, hb2, hc2⟩
    exact ⟨(.int .i64 5 : Value), (by simp only [results, Tryz.results8]; go_simp), enter_end (by unfold enterS; rw [HZ.out, if_pos rfl]) ⟨rv, tv, mb, D, by rw [HZ.out]; exact hb2, HS.out.own (HR.out.alloc _) (HC1.out.trans hc2)⟩ (HF.out.trans (HS.out.g1 (HC1.out.trans hc2))) (fun b hb => .inl hb)⟩
end Go.Proofs.YtacijlfckmllcaaGreatDoor
