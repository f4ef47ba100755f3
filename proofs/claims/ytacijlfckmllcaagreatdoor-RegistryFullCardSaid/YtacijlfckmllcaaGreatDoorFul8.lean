/-
  The law of the full registry.
-/
import Derived.Test.YtacijlfckmllcaaGreatDoorFul5
import Derived.Test.YtacijlfckmllcaaGreatDoorFul7
import Derived.LaidEqlPtr
namespace Go.Proofs.YtacijlfckmllcaaGreatDoor
open Go.RowKit Go.WideMaps Go.Maps

/-- Two full registries and the document's, apart from each other; B: where the law's own memory begins. -/
structure Tri (w : World) (B : Nat) (F K G : List Nat) (g h m : Nat) (mr mt : Value) : Prop where
  r : RegS w F g stF
  s : RegS w K h stF
  m : RefR w G m stF mr mt
  d1 : ∀ b, b ∈ F → b ∉ K
  d2 : ∀ b, b ∈ F → b ∉ G
  d3 : ∀ b, b ∈ K → b ∉ G
  l1 : ∀ b, b ∈ F → b < w.heap.size
  l2 : ∀ b, b ∈ K → b < w.heap.size
  l3 : ∀ b, b ∈ G → b < w.heap.size
  b1 : ∀ b, b ∈ F → B ≤ b
  b2 : ∀ b, b ∈ K → B ≤ b
  b3 : ∀ b, b ∈ G → B ≤ b

section
variable {w w' : World} {F K G S : List Nat} {g h m B : Nat} {mr mt : Value}
theorem RefR.off {s : St} (t : RefR w G m s mr mt) (hc : Chg S w w') (hd : ∀ b, b ∈ G → b ∉ S) : RefR w' G m s mr mt := t.chg hc (hd _ t.mF) (fun b hb => hd _ (t.rF b hb)) (fun b hb => hd _ (t.tF b hb))
theorem Tri.off (t : Tri w B F K G g h m mr mt) (hc : Chg S w w') (h1 : ∀ b, b ∈ F → b ∉ S) (h2 : ∀ b, b ∈ K → b ∉ S) (h3 : ∀ b, b ∈ G → b ∉ S) : Tri w' B F K G g h m mr mt :=
  ⟨t.r.chg hc h1, t.s.chg hc h2, t.m.off hc h3, t.d1, t.d2, t.d3, fun b hb => Nat.lt_of_lt_of_le (t.l1 b hb) hc.size, fun b hb => Nat.lt_of_lt_of_le (t.l2 b hb) hc.size, fun b hb => Nat.lt_of_lt_of_le (t.l3 b hb) hc.size, t.b1, t.b2, t.b3⟩
theorem Tri.fresh (t : Tri w B F K G g h m mr mt) (hc : Chg [] w w') : Tri w' B F K G g h m mr mt := t.off hc (by simp) (by simp) (by simp)
/-- A call of the first one that keeps its blocks' list. -/
theorem Tri.onR (t : Tri w B F K G g h m mr mt) (hr : RegS w' F g stF) (hc : Chg F w w') : Tri w' B F K G g h m mr mt :=
  ⟨hr, t.s.chg hc (fun b hb hf => t.d1 b hf hb), t.m.off hc (fun b hb hf => t.d2 b hf hb), t.d1, t.d2, t.d3, fun b hb => Nat.lt_of_lt_of_le (t.l1 b hb) hc.size, fun b hb => Nat.lt_of_lt_of_le (t.l2 b hb) hc.size, fun b hb => Nat.lt_of_lt_of_le (t.l3 b hb) hc.size, t.b1, t.b2, t.b3⟩
theorem Tri.onS (t : Tri w B F K G g h m mr mt) (hr : RegS w' K h stF) (hc : Chg K w w') : Tri w' B F K G g h m mr mt :=
  ⟨t.r.chg hc t.d1, hr, t.m.off hc (fun b hb hf => t.d3 b hf hb), t.d1, t.d2, t.d3, fun b hb => Nat.lt_of_lt_of_le (t.l1 b hb) hc.size, fun b hb => Nat.lt_of_lt_of_le (t.l2 b hb) hc.size, fun b hb => Nat.lt_of_lt_of_le (t.l3 b hb) hc.size, t.b1, t.b2, t.b3⟩
theorem Tri.onR' {F' : List Nat} (t : Tri w B F K G g h m mr mt) (hB : B ≤ w.heap.size) (hr : RegS w' F' g stF) (hc : Chg F w w') (hn : ∀ b, b ∈ F' → b ∈ F ∨ w.heap.size ≤ b) : ∃ F'', Tri w' B F'' K G g h m mr mt := by
  obtain ⟨F'', h1, h2, h3⟩ := hr.trim
  refine ⟨F'', h1, t.s.chg hc (fun b hb hf => t.d1 b hf hb), t.m.off hc (fun b hb hf => t.d2 b hf hb), fun b hb hk => ?_, fun b hb hk => ?_, t.d3, h3, fun b hb => Nat.lt_of_lt_of_le (t.l2 b hb) hc.size, fun b hb => Nat.lt_of_lt_of_le (t.l3 b hb) hc.size, fun b hb => ?_, t.b2, t.b3⟩
  · rcases hn b (h2 b hb) with h4 | h4
    · exact t.d1 b h4 hk
    · have := t.l2 b hk; omega
  · rcases hn b (h2 b hb) with h4 | h4
    · exact t.d2 b h4 hk
    · have := t.l3 b hk; omega
  · rcases hn b (h2 b hb) with h4 | h4
    · exact t.b1 b h4
    · omega
theorem Tri.onM (t : Tri w B F K G g h m mr mt) (hr : RefS w' G m stF) (hc : Chg G w w') : ∃ mr mt, Tri w' B F K G g h m mr mt := by
  obtain ⟨mr, mt, hr⟩ := hr
  exact ⟨mr, mt, t.r.chg hc t.d2, t.s.chg hc t.d3, hr, t.d1, t.d2, t.d3, fun b hb => Nat.lt_of_lt_of_le (t.l1 b hb) hc.size, fun b hb => Nat.lt_of_lt_of_le (t.l2 b hb) hc.size, fun b hb => Nat.lt_of_lt_of_le (t.l3 b hb) hc.size, t.b1, t.b2, t.b3⟩
end

theorem stF_again : ({ stF with fz := true } : St) = stF := rfl
theorem enter_full (x : Rw) : enterS stF x = (stF, 5) := if_pos rfl
theorem fz_full : stF.fz = true := rfl
def rNew : Rw := ⟨⟨#[110, 101, 119]⟩, 1, 0⟩

set_option maxRecDepth 100000 in
set_option maxHeartbeats 4000000 in
theorem walk_full (w : World) (hL : Laid w) : Calls Tryz.prog 4 #[] w fun e w' => e = .returned (.bool true) ∧ Below w.heap.size w w' := by
  have HL := Lib.hid hL
  clear hL
  go_enter Tryz.func4, Tryz.ntmps4
  go_wp2_with fail
  refine (start_any w).mono ?_
  rintro e w1 ⟨m, G0, rfl, hr0, hf0, hc1⟩
  obtain ⟨G, hr1, ha, hb⟩ := hr0.trim
  have hg : ∀ b, b ∈ G → w.heap.size ≤ b ∧ b < w1.heap.size := fun b h => ⟨hf0 b (ha b h), hb b h⟩
  have HM := Lib.hid hr1; have HG := Lib.hid hg; have HC1 := Lib.hid hc1
  have HL1 := Lib.hid (HL.out.chg hc1 (by simp))
  clear hr0 hf0 hc1 hr1 ha hb hg
  go_wp2_with fail
  refine (full_any w1 HL1.out).mono ?_
  rintro e w2 ⟨g, F0, rfl, hr0, hf0, hc2⟩
  obtain ⟨F, hr1, ha, hb⟩ := hr0.trim
  have hg : ∀ b, b ∈ F → w1.heap.size ≤ b ∧ b < w2.heap.size := fun b h => ⟨hf0 b (ha b h), hb b h⟩
  have HR := Lib.hid hr1; have HF := Lib.hid hg; have HC2 := Lib.hid hc2
  have HL2 := Lib.hid (HL1.out.chg hc2 (by simp))
  clear hr0 hf0 hc2 hr1 ha hb hg
  go_wp2_with fail
  refine (full_any w2 HL2.out).mono ?_
  rintro e w3 ⟨h, K0, rfl, hr0, hf0, hc3⟩
  obtain ⟨K, hr1, ha, hb⟩ := hr0.trim
  have hg : ∀ b, b ∈ K → w2.heap.size ≤ b ∧ b < w3.heap.size := fun b h => ⟨hf0 b (ha b h), hb b h⟩
  obtain ⟨mr, mt, hm⟩ := (HM.out.chg HC2.out (by simp)).chg hc3 (by simp)
  have hT : Tri w3 w.heap.size F K G g h m mr mt := by
    have s1 := HC1.out.size; have s2 := HC2.out.size; have s3 := hc3.size
    refine ⟨HR.out.chg hc3 (by simp), hr1, hm, fun b hb hk => ?_, fun b hb hk => ?_, fun b hb hk => ?_, fun b hb => ?_, fun b hb => ?_, fun b hb => ?_, fun b hb => ?_, fun b hb => ?_, fun b hb => ?_⟩
    · have := HF.out b hb; have := hg b hk; omega
    · have := HF.out b hb; have := HG.out b hk; omega
    · have := hg b hb; have := HG.out b hk; omega
    · have := HF.out b hb; omega
    · have := hg b hb; omega
    · have := HG.out b hb; omega
    · have := HF.out b hb; omega
    · have := hg b hb; omega
    · have := HG.out b hb; omega
  have hC : Chg [] w w3 := (HC1.out.trans HC2.out).trans hc3
  have hgh : ¬ g = h := by
    obtain ⟨_, _, _, _, _, q1⟩ := hT.r
    obtain ⟨_, _, _, _, _, q2⟩ := hT.s
    intro e
    exact hT.d1 g q1.gF (e ▸ q2.gF)
  have hpe : (binOp .eql 24 (.pointer (some ⟨g, 0, none⟩)) (.pointer (some ⟨h, 0, none⟩))).run Tryz.prog w3 = .ok (.bool false) w3 := by
    obtain ⟨_, _, _, _, hq1, _⟩ := hT.r
    obtain ⟨_, _, _, _, hq2, _⟩ := hT.s
    have hi : (Tryz.prog.info? 59).map (·.size) = some 9 := by kernel_rfl
    obtain ⟨j, hj, hs⟩ := Option.map_eq_some_iff.1 hi
    exact run_eql_ptr_other w3 Tryz.underlying24 hj (by rw [hs]; decide) (fun e => hgh (by injection e)) hq1 hq2
  have HT := Lib.hid hT; have HC := Lib.hid hC
  clear hr0 hf0 hc3 hr1 ha hb hg hm hT hC HM HG HR HF HC1 HC2 HL1 HL2 HL
  go_wp2_with fail
  refine (frozen_any w3 F g stF HT.out.r).mono ?_
  rintro e w4 ⟨rfl, hr4, hc4⟩
  have HT4 := Lib.hid (HT.out.onR hr4 hc4); have HC4 := Lib.hid (HC.out.onto hc4 HT.out.b1)
  rw [fz_full]
  clear hr4 hc4
  go_wp2_with fail
  refine (frozens_any w4 F g stF HT4.out.r).mono ?_
  rintro e w5 ⟨rfl, hr5, hc5⟩
  have HT5 := Lib.hid (HT4.out.onR hr5 hc5); have HC5 := Lib.hid (HC4.out.onto hc5 HT4.out.b1)
  rw [fz_full, show fzn true = 1 from rfl]
  clear hr5 hc5
  go_wp2_with fail
  refine (enter_any w5 F g stF rNew HT5.out.r (by show 3 ≤ maxLen; unfold maxLen; omega) (by have h1 := stF_rows; have h2 := stF_taken; omega)).mono ?_
  rintro e w6 ⟨rfl, F6, hr6, hc6, hn6⟩
  rw [enter_full] at *
  obtain ⟨F7, hT7⟩ := HT5.out.onR' HC5.out.size hr6 hc6 hn6
  have HT7 := Lib.hid hT7; have HC7 := Lib.hid (HC5.out.onto hc6 HT5.out.b1)
  clear hr6 hc6 hn6 hT7 HT HC HT4 HC4 HT5 HC5
  go_wp2_with fail
  go_loopg [4] 28 (fun gk i wr => ∃ (k : Nat) (mr mt : Value), k + gk = 28 ∧ i = .int .u8 (k : Int) ∧ Tri wr w.heap.size F7 K G g h m mr mt ∧ Chg [] w wr)
  case atStart => exact ⟨0, mr, mt, rfl, rfl, HT7.out, HC7.out⟩
  case round =>
    clear HT7 HC7 hpe mr mt
    obtain ⟨k, mr, mt, hk, rfl, hT, hC⟩ := hrel
    have HK := Lib.hid hk; have HT := Lib.hid hT; have HC := Lib.hid hC
    have hsr : stF.rows.length ≤ 4398046511104 := by have := stF_rows; omega
    have hst : stF.taken.length ≤ 4398046511104 := by have := stF_taken; omega
    have HSR := Lib.hid hsr; have HST := Lib.hid hst
    clear hk hT hC hsr hst
    by_cases hlt : k < 28
    · have hltI : (k : Int) ≤ 27 := by omega
      go_wp2_with fail
      refine (rof_any wr G m stF (k : Int) ⟨mr, mt, HT.out.m⟩ HSR.out).mono ?_
      rintro e w2 ⟨rfl, hr2, hc2⟩
      rw [stF_again] at hr2
      obtain ⟨p, hp⟩ : ∃ p, p = ofL stF.rows (k : Int) := ⟨_, rfl⟩
      have HP := Lib.hid hp
      rw [← hp]
      obtain ⟨r9, q9⟩ := p
      simp only [rval]
      clear hp
      obtain ⟨nr, nt, hT2⟩ := HT.out.onM hr2 hc2
      have HT2 := Lib.hid hT2; have HC2 := Lib.hid (HC.out.onto hc2 HT.out.b3)
      clear hr2 hc2 hT2
      go_wp2_with fail
      refine (of_any _ F7 g stF (k : Int) (HT2.out.fresh ((Chg.refl [] w2).alloc (.cells #[.string r9.nm, .int .u8 r9.kd, .int .u32 r9.fc] 30))).r HSR.out).mono ?_
      rintro e w3 ⟨rfl, hr3, hc3⟩
      rw [stF_again] at hr3
      rw [← HP.out]
      simp only [rval]
      have hT3 := (HT2.out.fresh ((Chg.refl [] w2).alloc (.cells #[.string r9.nm, .int .u8 r9.kd, .int .u32 r9.fc] 30))).onR hr3 hc3
      have hq3 := (Blk.new w2 30 #[.string r9.nm, .int .u8 r9.kd, .int .u32 r9.fc]).chg hc3 (fun hm => by have := HT2.out.l1 _ hm; omega)
      obtain ⟨⟨y0, y1, y2⟩, -⟩ := hq3.three
      have hq3l : w2.heap.size < w3.heap.size := hq3.lt
      obtain ⟨n1, n2⟩ := nm_yes (rfl : r9.nm = r9.nm)
      have HT3 := Lib.hid hT3; have HC3 := Lib.hid ((HC2.out.alloc _).onto hc3 HT2.out.b1)
      clear hr3 hc3 hT3 hq3
      go_wp2_with fail
      go_roundg (gk - 1)
      case rel => exact ⟨k + 1, nr, nt, by have := HK.out; omega, by go_num, HT3.out.fresh ((Chg.refl [] w3).alloc _), HC3.out.alloc _⟩
      case measure => have := HK.out; omega
    · have hkn : k = 28 := by have := HK.out; omega
      subst hkn
      clear hlt
      obtain ⟨⟨m0, m1, m2⟩, -⟩ := HT.out.m.b.three
      clear m2
      go_wp2_with fail
      go_region_held3 (fun w' => w'.cell? ⟨m, 0, none⟩ = some mr ∧ w'.cell? ⟨m, 1, none⟩ = some mt)
        (first
          | go_keep
          | exact ⟨hT3.m.b.three.1.1, hT3.m.b.three.1.2.1⟩
          | exact ⟨hT4.m.b.three.1.1, hT4.m.b.three.1.2.1⟩
          | exact ⟨hT5.m.b.three.1.1, hT5.m.b.three.1.2.1⟩
          | exact ⟨hT6.m.b.three.1.1, hT6.m.b.three.1.2.1⟩
          | exact ⟨hT7.m.b.three.1.1, hT7.m.b.three.1.2.1⟩
          | exact ⟨hT8.m.b.three.1.1, hT8.m.b.three.1.2.1⟩
          | exact ⟨hT9.m.b.three.1.1, hT9.m.b.three.1.2.1⟩
          | exact ⟨hT10.m.b.three.1.1, hT10.m.b.three.1.2.1⟩
          | exact ⟨hT11.m.b.three.1.1, hT11.m.b.three.1.2.1⟩)
        (first
          | (go_at_call 10; (with_reducible show Calls _ _ #[.pointer (some ⟨g, 0, none⟩)] wr.drew _); refine (roll_any _ F7 g stF HT.out.r.drew HSR.out).mono ?_; rintro e w3 ⟨v3, rfl, ho3, hr3, hd3⟩; have hT3 := (HT.out.fresh (Chg.refl [] wr).drew).onR hr3 hd3; have hc3 := HC.out.drew.onto hd3 HT.out.b1)
          | (go_at_call 10; (with_reducible show Calls _ _ #[.pointer (some ⟨h, 0, none⟩)] w3 _); refine (roll_any w3 K h stF hT3.s HSR.out).mono ?_; rintro e w4 ⟨v4, rfl, ho4, hr4, hd4⟩; have hT4 := hT3.onS hr4 hd4; have hc4 := hc3.onto hd4 HT.out.b2; have hk3 := ownsRow_chg ho3 hd4 (own_out (w := wr) ho3 (Nat.le_refl _) HT.out.l2))
          | (go_at_call 19; (with_reducible show Calls _ _ #[v3, v4, mr] _ _); refine (fresh_any w4 _ _ _ v3 v4 mr stF.rows hk3 ho4 hT4.m.rows (own_sep ho3 ho4 (Nat.le_refl _)) (own_sep' HT.out.m.rows ho3 (Nat.le_refl _)) HSR.out).mono ?_; rintro e w5 ⟨rfl, hd5⟩; have hT5 := hT4.off hd5 (fun b hb hm => own_out (w := wr) ho3 (Nat.le_refl _) HT.out.l1 b (by simpa using hm) hb) (fun b hb hm => own_out (w := wr) ho3 (Nat.le_refl _) HT.out.l2 b (by simpa using hm) hb) (fun b hb hm => own_out (w := wr) ho3 (Nat.le_refl _) HT.out.l3 b (by simpa using hm) hb); have hc5 := hc4.trans' hd5 (fun b hb => .inr (Nat.le_trans HC.out.size (ho3.lt b (by simpa using hb)).1)))
          | (go_at_call 11; (with_reducible show Calls _ _ #[.pointer (some ⟨g, 0, none⟩)] w5 _); refine (refused_any w5 F7 g stF hT5.r HST.out).mono ?_; rintro e w6 ⟨v6, rfl, ho6, hr6, hd6⟩; have hT6 := hT5.onR hr6 hd6; have hc6 := hc5.onto hd6 HT.out.b1)
          | (go_at_call 11; (with_reducible show Calls _ _ #[.pointer (some ⟨h, 0, none⟩)] w6 _); refine (refused_any w6 K h stF hT6.s HST.out).mono ?_; rintro e w7 ⟨v7, rfl, ho7, hr7, hd7⟩; have hT7 := hT6.onS hr7 hd7; have hc7 := hc6.onto hd7 HT.out.b2; have hk6 := ownsRow_chg ho6 hd7 (own_out (w := w5) ho6 (Nat.le_refl _) hT5.l2))
          | (go_at_call 19; (with_reducible show Calls _ _ #[v6, v7, mt] _ _); refine (fresh_any w7 _ _ _ v6 v7 mt stF.taken hk6 ho7 hT7.m.taken (own_sep ho6 ho7 (Nat.le_refl _)) (own_sep' hT5.m.taken ho6 (Nat.le_refl _)) HST.out).mono ?_; rintro e w8 ⟨rfl, hd8⟩; have hT8 := hT7.off hd8 (fun b hb hm => own_out (w := w5) ho6 (Nat.le_refl _) hT5.l1 b (by simpa using hm) hb) (fun b hb hm => own_out (w := w5) ho6 (Nat.le_refl _) hT5.l2 b (by simpa using hm) hb) (fun b hb hm => own_out (w := w5) ho6 (Nat.le_refl _) hT5.l3 b (by simpa using hm) hb); have hc8 := hc7.trans' hd8 (fun b hb => .inr (Nat.le_trans hc5.size (ho6.lt b (by simpa using hb)).1)))
          | (go_at_call 10; (with_reducible show Calls _ _ #[.pointer (some ⟨g, 0, none⟩)] w8 _); refine (roll_any w8 F7 g stF hT8.r HSR.out).mono ?_; rintro e w9 ⟨v9, rfl, ho9, hr9, hd9⟩; have hT9 := hT8.onR hr9 hd9; have hc9 := hc8.onto hd9 HT.out.b1; rw [stF_rows] at ho9; obtain ⟨A9, c9, rfl⟩ := own_slice ho9)
          | (go_at_call 11; (with_reducible show Calls _ _ #[.pointer (some ⟨g, 0, none⟩)] w9 _); refine (refused_any w9 F7 g stF hT9.r HST.out).mono ?_; rintro e w10 ⟨v10, rfl, ho10, hr10, hd10⟩; have hT10 := hT9.onR hr10 hd10; have hc10 := hc9.onto hd10 HT.out.b1; rw [stF_taken] at ho10; obtain ⟨A10, c10, rfl⟩ := own_slice ho10)
          | (go_at_call 14; refine (frozens_any w10 F7 g stF hT10.r).mono ?_; rintro e w11 ⟨rfl, hr11, hd11⟩; simp only [fz_full, fzn_true]; have hT11 := hT10.onR hr11 hd11; have hc11 := hc10.onto hd11 HT.out.b1))
      go_wp2_with fail
      go_ret
      exact ⟨rfl, hc11.below (Nat.le_refl _) (by simp)⟩
end Go.Proofs.YtacijlfckmllcaaGreatDoor
