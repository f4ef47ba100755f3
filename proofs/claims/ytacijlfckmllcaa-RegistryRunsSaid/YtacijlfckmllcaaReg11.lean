/-
  The law of scripts over a registry.
-/
import Derived.Test.YtacijlfckmllcaaReg10
namespace Go.Proofs.Ytacijlfckmllcaa
open Go.RowKit Go.WideMaps Go.Maps

section
variable {w w' : World} {F G : List Nat} {g m B : Nat} {s t : St}
theorem RegS.chg {S : List Nat} (h : RegS w F g s) (hc : Chg S w w') (hd : ∀ b, b ∈ F → b ∉ S) : RegS w' F g s := by
  obtain ⟨rv, tv, mb, D, hR, hS⟩ := h
  exact ⟨rv, tv, mb, D, hR.chg hc (hd _ hS.gF), hS.chg hc (fun b hb => hd _ (hS.rF b hb)) (fun b hb => hd _ (hS.tF b hb)) (hd _ hS.mF)⟩
theorem RegS.drew (h : RegS w F g s) : RegS w.drew F g s := h.chg ((Chg.refl [] w).drew) (by simp)
theorem RefS.chg {S : List Nat} (h : RefS w G m t) (hc : Chg S w w') (hd : ∀ b, b ∈ G → b ∉ S) : RefS w' G m t := by
  obtain ⟨rv, tv, hR⟩ := h
  exact ⟨rv, tv, hR.chg hc (hd _ hR.mF) (fun b hb => hd _ (hR.rF b hb)) (fun b hb => hd _ (hR.tF b hb))⟩
theorem RegS.trim (h : RegS w F g s) : ∃ F', RegS w F' g s ∧ (∀ b, b ∈ F' → b ∈ F) ∧ ∀ b, b ∈ F' → b < w.heap.size := by
  obtain ⟨rv, tv, mb, D, hR, hS⟩ := h
  refine ⟨g :: mb :: (rv.ownBlock.toList ++ tv.ownBlock.toList), ⟨rv, tv, mb, D, hR, ⟨hS.rows, hS.taken, hS.apart, hS.map, hS.names, by simp, by simp, fun b hb => by simp [hb], fun b hb => by simp [hb], hS.r0, hS.t0⟩⟩, fun b hb => ?_, fun b hb => ?_⟩
  · simp at hb
    rcases hb with rfl | rfl | hb | hb
    · exact hS.gF
    · exact hS.mF
    · exact hS.rF b hb
    · exact hS.tF b hb
  · simp at hb
    rcases hb with rfl | rfl | hb | hb
    · exact hR.lt
    · exact hS.map.lt
    · exact (hS.rows.lt b hb).2
    · exact (hS.taken.lt b hb).2
theorem RefS.trim (h : RefS w G m t) : ∃ G', RefS w G' m t ∧ (∀ b, b ∈ G' → b ∈ G) ∧ ∀ b, b ∈ G' → b < w.heap.size := by
  obtain ⟨rv, tv, hR⟩ := h
  refine ⟨m :: (rv.ownBlock.toList ++ tv.ownBlock.toList), ⟨rv, tv, ⟨hR.b, hR.rows, hR.taken, hR.apart, by simp, fun b hb => by simp [hb], fun b hb => by simp [hb]⟩⟩, fun b hb => ?_, fun b hb => ?_⟩
  · simp at hb
    rcases hb with rfl | hb | hb
    · exact hR.mF
    · exact hR.rF b hb
    · exact hR.tF b hb
  · simp at hb
    rcases hb with rfl | hb | hb
    · exact hR.b.lt
    · exact (hR.rows.lt b hb).2
    · exact (hR.taken.lt b hb).2

/-- The program's registry and the document's, side by side; B: where the law's own memory begins. -/
structure Both (w : World) (B : Nat) (F G : List Nat) (g m : Nat) (s t : St) : Prop where
  reg : RegS w F g s
  ref : RefS w G m t
  dis : ∀ b, b ∈ F → b ∉ G
  fl : ∀ b, b ∈ F → b < w.heap.size
  gl : ∀ b, b ∈ G → b < w.heap.size
  fb : ∀ b, b ∈ F → B ≤ b
  gb : ∀ b, b ∈ G → B ≤ b

theorem Both.dis' (h : Both w B F G g m s t) : ∀ b, b ∈ G → b ∉ F := fun b hb hf => h.dis b hf hb
theorem Both.fresh (h : Both w B F G g m s t) (hc : Chg [] w w') : Both w' B F G g m s t :=
  ⟨h.reg.chg hc (by simp), h.ref.chg hc (by simp), h.dis, fun b hb => Nat.lt_of_lt_of_le (h.fl b hb) hc.size, fun b hb => Nat.lt_of_lt_of_le (h.gl b hb) hc.size, h.fb, h.gb⟩
/-- A call of the document's registry. -/
theorem Both.onRef {G' : List Nat} {t' : St} (h : Both w B F G g m s t) (hB : B ≤ w.heap.size) (hr : RefS w' G' m t') (hc : Chg G w w') (hn : ∀ b, b ∈ G' → b ∈ G ∨ w.heap.size ≤ b) : ∃ G'', Both w' B F G'' g m s t' := by
  obtain ⟨G'', h1, h2, h3⟩ := hr.trim
  refine ⟨G'', h.reg.chg hc h.dis, h1, fun b hb hg => ?_, fun b hb => Nat.lt_of_lt_of_le (h.fl b hb) hc.size, h3, h.fb, fun b hb => ?_⟩
  · rcases hn b (h2 b hg) with h4 | h4
    · exact h.dis b hb h4
    · have := h.fl b hb; omega
  · rcases hn b (h2 b hb) with h4 | h4
    · exact h.gb b h4
    · omega
/-- A call of the program's. -/
theorem Both.onReg {F' : List Nat} {s' : St} (h : Both w B F G g m s t) (hB : B ≤ w.heap.size) (hr : RegS w' F' g s') (hc : Chg F w w') (hn : ∀ b, b ∈ F' → b ∈ F ∨ w.heap.size ≤ b) : ∃ F'', Both w' B F'' G g m s' t := by
  obtain ⟨F'', h1, h2, h3⟩ := hr.trim
  refine ⟨F'', h1, h.ref.chg hc h.dis', fun b hb hg => ?_, h3, fun b hb => Nat.lt_of_lt_of_le (h.gl b hb) hc.size, fun b hb => ?_, h.gb⟩
  · rcases hn b (h2 b hb) with h4 | h4
    · exact h.dis b h4 hg
    · have := h.gl b hg; omega
  · rcases hn b (h2 b hb) with h4 | h4
    · exact h.fb b h4
    · omega
end

theorem fzn_true : fzn true = 1 := rfl
theorem fzn_false : fzn false = 0 := rfl

structure Stp where
  k : Int
  r : Rw

def StpAt (w : World) (b o : Nat) (x : Stp) : Prop :=
  w.cell? ⟨b, o, none⟩ = some (.int .i64 x.k) ∧ w.cell? ⟨b, o + 1, none⟩ = some (.string x.r.nm) ∧ w.cell? ⟨b, o + 2, none⟩ = some (.int .u8 x.r.kd) ∧ w.cell? ⟨b, o + 3, none⟩ = some (.int .u32 x.r.fc)
def StpsAt (w : World) (A : Option Addr) (len : Nat) (st : Nat → Stp) : Prop := 0 < len → ∃ b off, A = some ⟨b, off, none⟩ ∧ b < w.heap.size ∧ ∀ i, i < len → StpAt w b (off + i * 4) (st i)

theorem StpAt.chg {S : List Nat} {w w' : World} {b o : Nat} {x : Stp} (h : StpAt w b o x) (hc : Chg S w w') (hb : b < w.heap.size) (hn : b ∉ S) : StpAt w' b o x := by
  obtain ⟨h0, h1, h2, h3⟩ := h
  exact ⟨(hc.cell (p := ⟨b, o, none⟩) hb hn).trans h0, (hc.cell (p := ⟨b, o + 1, none⟩) hb hn).trans h1, (hc.cell (p := ⟨b, o + 2, none⟩) hb hn).trans h2, (hc.cell (p := ⟨b, o + 3, none⟩) hb hn).trans h3⟩

theorem enterS_len (s : St) (x : Rw) : (enterS s x).1.rows.length + (enterS s x).1.taken.length ≤ s.rows.length + s.taken.length + 1 := by
  unfold enterS
  split
  · simp
  · split
    · simp
    · split
      · simp
      · split
        · simp; omega
        · simp; omega

theorem own_sep {w w' : World} {b b' : Nat} {e e' : TypeId} {z z' n n' : Nat} {v v' : Value} {xs xs' : List Value} (h : w.ownsRow b e z v n xs) (h' : w'.ownsRow b' e' z' v' n' xs') (hb : w.heap.size ≤ b') : v.ownBlock = none ∨ v.ownBlock ≠ v'.ownBlock := by
  by_cases hv : v.ownBlock = none
  · exact .inl hv
  · obtain ⟨k, hk⟩ := Option.ne_none_iff_exists'.1 hv
    refine .inr fun e => ?_
    have h1 := (h.lt k hk).2
    have h2 := (h'.lt k (e ▸ hk)).1
    omega
theorem own_sep' {w w' : World} {b b' : Nat} {e e' : TypeId} {z z' n n' : Nat} {v v' : Value} {xs xs' : List Value} (h : w.ownsRow b e z v n xs) (h' : w'.ownsRow b' e' z' v' n' xs') (hb : w.heap.size ≤ b') : v'.ownBlock = none ∨ v'.ownBlock ≠ v.ownBlock := by
  by_cases hv : v'.ownBlock = none
  · exact .inl hv
  · obtain ⟨k, hk⟩ := Option.ne_none_iff_exists'.1 hv
    refine .inr fun e => ?_
    have h1 := (h'.lt k hk).1
    have h2 := (h.lt k (e ▸ hk)).2
    omega
theorem own_out {w w' : World} {b' : Nat} {e' : TypeId} {z' n' : Nat} {v' : Value} {xs' : List Value} {S : List Nat} (h' : w'.ownsRow b' e' z' v' n' xs') (hb : w.heap.size ≤ b') (hS : ∀ b, b ∈ S → b < w.heap.size) : ∀ b, v'.ownBlock = some b → b ∉ S := fun b hk hm => by
  have h1 := (h'.lt b hk).1
  have := hS b hm
  omega

/-- Behind a call that turned the blocks of S alone, all of the law's own: the rest stays. -/
theorem Chg.onto {w w1 w2 : World} {S : List Nat} (h : Chg [] w w1) (hc : Chg S w1 w2) (hs : ∀ b, b ∈ S → w.heap.size ≤ b) : Chg [] w w2 := h.trans' hc (fun b hb => .inr (hs b hb))

set_option maxRecDepth 100000 in
set_option maxHeartbeats 4000000 in
theorem walk_runs (A : Option Addr) (len cap : Nat) (w : World) (st : Nat → Stp) (hlen : len ≤ 4398046511104 - 64) (hst : StpsAt w A len st) (hnm : ∀ i, i < len → (st i).r.nm.size ≤ maxLen) :
    Calls Try.prog 3 #[.slice A len cap] w fun e w' => e = .returned (.bool true) ∧ Below w.heap.size w w' := by
  have HST := Lib.hid hst; have HNM := Lib.hid hnm
  clear hst hnm
  go_enter Try.func3, Try.ntmps3
  go_wp2_with fail
  refine (new_any _).mono ?_
  rintro e w1 ⟨g, F, rfl, hR1, hF1, hc1⟩
  have HR1 := Lib.hid hR1; have HF1 := Lib.hid hF1; have HC1 := Lib.hid hc1
  clear hR1 hF1 hc1
  go_wp2_with fail
  obtain ⟨m, hm⟩ : ∃ m, m = w1.heap.size := ⟨_, rfl⟩
  rw [← hm]
  have hbo : ∃ F', Both (w1.alloc (.cells #[.slice none 0 0, .slice none 0 0, .bool false] 28)) w.heap.size F' [m] g m ⟨[], [], false⟩ ⟨[], [], false⟩ := by
    obtain ⟨F', h1, h2, h3⟩ := HR1.out.trim
    subst hm
    refine ⟨F', h1.chg ((Chg.refl [] w1).alloc _) (by simp), ⟨_, _, ⟨Blk.new _ _ _, World.ownsRow_nil _ _ _ _, World.ownsRow_nil _ _ _ _, .inl rfl, by simp, by simp [Value.ownBlock], by simp [Value.ownBlock]⟩⟩, fun b hb => by have := h3 b hb; simp; omega, fun b hb => by have := h3 b hb; simp; omega, by simp, fun b hb => HF1.out b (h2 b hb), by simp; exact HC1.out.size⟩
  obtain ⟨F', hbo⟩ := hbo
  have HBO := Lib.hid hbo
  have HM := Lib.hid hm
  clear hbo hm
  go_loopg [5] len (fun gk i wr => ∃ (k : Nat) (s : St) (F G : List Nat), k + gk = len ∧ i = .int .i64 k ∧ Both wr w.heap.size F G g m s s ∧ s.rows.length + s.taken.length ≤ k ∧ Chg [] w wr)
  case atStart => exact ⟨0, ⟨[], [], false⟩, _, _, by omega, rfl, HBO.out, by simp, HC1.out.alloc _⟩
  case round =>
    obtain ⟨k, s, F, G, hk, rfl, hB, hn, hC⟩ := hrel
    have HK := Lib.hid hk; have HB := Lib.hid hB; have HC := Lib.hid hC
    clear hk hB hC
    have hsz : w.heap.size ≤ wr.heap.size := HC.out.size
    by_cases hlt : k < len
    · obtain ⟨b, off, rfl, hb, hcl⟩ := HST.out (by omega)
      have hb' : b < wr.heap.size := by omega
      obtain ⟨x0, x1, x2, x3⟩ := (hcl k hlt).chg HC.out hb (by simp)
      have hkI : (k : Int) < (len : Int) := by omega
      have hnk := HNM.out k hlt
      generalize st k = x at x0 x1 x2 x3 hnk
      clear hcl
      go_upto_block 2 with fail
      have hBx := HB.out.fresh ((Chg.refl [] wr).alloc (.cells #[.string x.r.nm, .int .u8 x.r.kd, .int .u32 x.r.fc] 31))
      have hCx := HC.out.alloc (.cells #[.string x.r.nm, .int .u8 x.r.kd, .int .u32 x.r.fc] 31)
      have hXx := Blk.new wr 31 #[.string x.r.nm, .int .u8 x.r.kd, .int .u32 x.r.fc]
      have hgx : ∀ b, b ∈ G → b < wr.heap.size := HB.out.gl
      have hfx : ∀ b, b ∈ F → b < wr.heap.size := HB.out.fl
      have HGX := Lib.hid hgx; have HFX := Lib.hid hfx
      have hwx : wr.heap.size < (wr.alloc (.cells #[.string x.r.nm, .int .u8 x.r.kd, .int .u32 x.r.fc] 31)).heap.size := by simp
      obtain ⟨bx, hbx⟩ : ∃ bx, bx = wr.heap.size := ⟨_, rfl⟩
      rw [← hbx] at hXx HGX HFX hwx ⊢
      clear hgx hfx x0 x1 x2 x3 hb' HB HC hbx
      generalize wr.alloc (.cells #[.string x.r.nm, .int .u8 x.r.kd, .int .u32 x.r.fc] 31) = wa at *
      have HB := Lib.hid hBx; have HC := Lib.hid hCx; have HX := Lib.hid hXx
      obtain ⟨⟨x0, x1, x2⟩, -⟩ := hXx.three
      have hsa : w.heap.size ≤ wa.heap.size := hCx.size
      clear hBx hCx hXx
      go_cut [7, 8, 9, 10, 11, 12, 13, 14, 15] from 38 to 125 (fun _ _ _ _ _ _ _ _ _ wc => ∃ (s' : St) (F' G' : List Nat), Both wc w.heap.size F' G' g m s' s' ∧ s'.rows.length + s'.taken.length ≤ k + 1 ∧ Chg [] w wc)
      case first =>
        by_cases k1 : x.k = 1
        · have e1 : (x.k == 1) = true := by simp [k1]
          clear k1
          go_wp2_with fail
          refine (renter_any wa G m s x.r HB.out.ref (by omega)).mono ?_
          rintro e w2 ⟨rfl, G2, hr2, hc2, hn2⟩
          obtain ⟨G3, hB2⟩ := HB.out.onRef hsa hr2 hc2 hn2
          have hX2 := HX.out.chg hc2 (fun hm => by have := HGX.out _ hm; omega)
          obtain ⟨⟨x0, x1, x2⟩, -⟩ := hX2.three
          have hs2 : wa.heap.size ≤ w2.heap.size := hc2.size
          have HB2 := Lib.hid hB2; have HC2 := Lib.hid (HC.out.onto hc2 HB.out.gb)
          clear hr2 hc2 hn2 hB2 hX2
          go_wp2_with fail
          refine (enter_any w2 F g s x.r HB2.out.reg hnk (by omega)).mono ?_
          rintro e w3 ⟨rfl, F2, hr3, hc3, hn3⟩
          obtain ⟨F3, hB3⟩ := HB2.out.onReg (by omega) hr3 hc3 hn3
          have HB3 := Lib.hid hB3; have HC3 := Lib.hid (HC2.out.onto hc3 HB2.out.fb)
          clear hr3 hc3 hn3 hB3
          go_wp2_with fail
          go_meet
          exact ⟨_, F3, G3, HB3.out, by have := enterS_len s x.r; omega, HC3.out⟩
        · have e1 : (x.k == 1) = false := by simp [k1]
          clear k1
          by_cases k2 : x.k = 2
          · have e2 : (x.k == 2) = true := by simp [k2]
            clear k2
            obtain ⟨mr, mt, hRm⟩ := HB.out.ref
            obtain ⟨⟨m0, m1, m2⟩, ⟨f0, f1, f2⟩⟩ := hRm.b.three
            have hfz := hRm.freeze
            have hcz : Chg G wa (wa.setCell ⟨m, 2, none⟩ (.bool true)) := (Chg.refl G wa).setCell (.inl hRm.mF) _
            obtain ⟨G3, hB2⟩ := HB.out.onRef hsa ⟨mr, mt, hfz⟩ hcz (fun b hb => .inl hb)
            have HFZ := Lib.hid hfz; have HB2 := Lib.hid hB2; have HC2 := Lib.hid (HC.out.onto hcz HB.out.gb)
            have HML : Hid (m < wa.heap.size) := hRm.b.lt
            clear hfz hcz hB2 hRm x0 x1 x2
            go_upto_region 16 with fail
            have hs2 : wa.heap.size ≤ (wa.setCell ⟨m, 2, none⟩ (.bool true)).heap.size := by simp
            clear m0 m1 m2 f0 f1 f2
            generalize wa.setCell ⟨m, 2, none⟩ (.bool true) = wb at *
            obtain ⟨mr, mt, hRm⟩ := HB2.out.ref
            obtain ⟨⟨m0, m1, m2⟩, -⟩ := hRm.b.three
            have HRM := Lib.hid hRm
            have HMF : Hid (m ∉ F) := fun hm => HB2.out.dis m hm hRm.mF
            have hml : m < wb.heap.size := hRm.b.lt
            have HDF : Hid (∀ b, mr.ownBlock = some b → b ∉ F) := fun b hb hf => HB2.out.dis b hf (hRm.rF b hb)
            clear hRm
            go_region_held3 (fun w' => w'.cell? ⟨m, 0, none⟩ = some mr)
              (first
                | go_keep
                | exact (hc3.cell (by simpa using hml) HMF.out).trans (by simpa using m0)
                | exact ((hc3.trans hc4).cell (by simpa using hml) HMF.out).trans (by simpa using m0)
                | exact (hc5.cell (by have h3 := hc3.size; have h4 := hc4.size; simp at h3; show m < _; omega) (fun hm => by have h3 := (ho3.lt m (by simpa using hm)).1; simp at h3; omega)).trans (((hc3.trans hc4).cell (by simpa using hml) HMF.out).trans (by simpa using m0)))
              (first
                | (go_at_call 9; refine (roll_any _ F g s HB2.out.reg.drew (by omega)).mono ?_; rintro e w3 ⟨v3, rfl, ho3, hr3, hc3⟩)
                | (go_at_call 9; refine (roll_any w3 F g { s with fz := true } hr3 (by show s.rows.length ≤ _; omega)).mono ?_; rintro e w4 ⟨v4, rfl, ho4, hr4, hc4⟩)
                | (go_at_call 8; refine (fresh_any w4 _ _ _ v3 v4 mr s.rows (ownsRow_chg ho3 hc4 (own_out (w := wb) ho3 (Nat.le_refl _) HB2.out.fl)) ho4 (ownsRow_chg HRM.out.rows (((Chg.refl F wb).drew.trans hc3).trans hc4) HDF.out) (own_sep ho3 ho4 (Nat.le_refl _)) (own_sep' HRM.out.rows ho3 (Nat.le_refl _)) (by omega)).mono ?_; rintro e w5 ⟨rfl, hc5⟩))
            have HRe : Hid (RegS w5 F g { s with fz := true }) := hr4.chg hc5 (fun b hb hm => by have h3 := (ho3.lt b (by simpa using hm)).1; have h4 := HB2.out.fl b hb; simp at h3; omega)
            have HCe : Hid (Chg F wb w5) := (((Chg.refl F wb).drew.trans hc3).trans hc4).trans' hc5 (fun b hb => .inr (by have h3 := (ho3.lt b (by simpa using hb)).1; simp at h3; omega))
            obtain ⟨F3, hB3⟩ := HB2.out.onReg (by omega) HRe.out HCe.out (fun b hb => .inl hb)
            have HB3 := Lib.hid hB3; have HC3 := Lib.hid (HC2.out.onto HCe.out HB2.out.fb)
            clear hB3 ho3 hr3 hc3 ho4 hr4 hc4 hc5 HRe HCe
            go_wp2_with fail
            go_meet
            exact ⟨_, F3, G3, HB3.out, by show s.rows.length + s.taken.length ≤ _; omega, HC3.out⟩
          · have e2 : (x.k == 2) = false := by simp [k2]
            clear k2
            by_cases k3 : x.k = 3
            · have e3 : (x.k == 3) = true := by simp [k3]
              clear k3
              obtain ⟨mr, mt, hRm⟩ := HB.out.ref
              obtain ⟨⟨m0, m1, m2⟩, ⟨f0, f1, f2⟩⟩ := hRm.b.three
              have hfz := hRm.freeze
              have hcz : Chg G wa (wa.setCell ⟨m, 2, none⟩ (.bool true)) := (Chg.refl G wa).setCell (.inl hRm.mF) _
              obtain ⟨G3, hB2⟩ := HB.out.onRef hsa ⟨mr, mt, hfz⟩ hcz (fun b hb => .inl hb)
              have HFZ := Lib.hid hfz; have HB2 := Lib.hid hB2; have HC2 := Lib.hid (HC.out.onto hcz HB.out.gb)
              have HML : Hid (m < wa.heap.size) := hRm.b.lt
              clear hfz hcz hB2 hRm x0 x1 x2
              go_upto_region 20 with fail
              have hs2 : wa.heap.size ≤ (wa.setCell ⟨m, 2, none⟩ (.bool true)).heap.size := by simp
              clear m0 m1 m2 f0 f1 f2
              generalize wa.setCell ⟨m, 2, none⟩ (.bool true) = wb at *
              obtain ⟨mr, mt, hRm⟩ := HB2.out.ref
              obtain ⟨⟨m0, m1, m2⟩, -⟩ := hRm.b.three
              have HRM := Lib.hid hRm
              have HMF : Hid (m ∉ F) := fun hm => HB2.out.dis m hm hRm.mF
              have hml : m < wb.heap.size := hRm.b.lt
              have HDF : Hid (∀ b, mt.ownBlock = some b → b ∉ F) := fun b hb hf => HB2.out.dis b hf (hRm.tF b hb)
              clear hRm
              go_region_held3 (fun w' => w'.cell? ⟨m, 1, none⟩ = some mt)
                (first
                  | go_keep
                  | exact (hc3.cell (by simpa using hml) HMF.out).trans (by simpa using m1)
                  | exact ((hc3.trans hc4).cell (by simpa using hml) HMF.out).trans (by simpa using m1)
                  | exact (hc5.cell (by have h3 := hc3.size; have h4 := hc4.size; simp at h3; show m < _; omega) (fun hm => by have h3 := (ho3.lt m (by simpa using hm)).1; simp at h3; omega)).trans (((hc3.trans hc4).cell (by simpa using hml) HMF.out).trans (by simpa using m1)))
                (first
                  | (go_at_call 10; refine (refused_any _ F g s HB2.out.reg.drew (by omega)).mono ?_; rintro e w3 ⟨v3, rfl, ho3, hr3, hc3⟩)
                  | (go_at_call 10; refine (refused_any w3 F g { s with fz := true } hr3 (by show s.taken.length ≤ _; omega)).mono ?_; rintro e w4 ⟨v4, rfl, ho4, hr4, hc4⟩)
                  | (go_at_call 8; refine (fresh_any w4 _ _ _ v3 v4 mt s.taken (ownsRow_chg ho3 hc4 (own_out (w := wb) ho3 (Nat.le_refl _) HB2.out.fl)) ho4 (ownsRow_chg HRM.out.taken (((Chg.refl F wb).drew.trans hc3).trans hc4) HDF.out) (own_sep ho3 ho4 (Nat.le_refl _)) (own_sep' HRM.out.taken ho3 (Nat.le_refl _)) (by omega)).mono ?_; rintro e w5 ⟨rfl, hc5⟩))
              have HRe : Hid (RegS w5 F g { s with fz := true }) := hr4.chg hc5 (fun b hb hm => by have h3 := (ho3.lt b (by simpa using hm)).1; have h4 := HB2.out.fl b hb; simp at h3; omega)
              have HCe : Hid (Chg F wb w5) := (((Chg.refl F wb).drew.trans hc3).trans hc4).trans' hc5 (fun b hb => .inr (by have h3 := (ho3.lt b (by simpa using hb)).1; simp at h3; omega))
              obtain ⟨F3, hB3⟩ := HB2.out.onReg (by omega) HRe.out HCe.out (fun b hb => .inl hb)
              have HB3 := Lib.hid hB3; have HC3 := Lib.hid (HC2.out.onto HCe.out HB2.out.fb)
              clear hB3 ho3 hr3 hc3 ho4 hr4 hc4 hc5 HRe HCe
              go_wp2_with fail
              go_meet
              exact ⟨_, F3, G3, HB3.out, by show s.rows.length + s.taken.length ≤ _; omega, HC3.out⟩
            · have e3 : (x.k == 3) = false := by simp [k3]
              clear k3
              by_cases k4 : x.k = 4
              · have e4 : (x.k == 4) = true := by simp [k4]
                clear k4
                go_wp2_with fail
                refine (rnamed_any wa G m s x.r.nm HB.out.ref (by omega)).mono ?_
                rintro e w2 ⟨rfl, hr2, hc2⟩
                obtain ⟨p, hp⟩ : ∃ p, p = namedL s.rows x.r.nm := ⟨_, rfl⟩
                have HP := Lib.hid hp
                rw [← hp]
                obtain ⟨r9, q9⟩ := p
                simp only [rval]
                clear hp
                obtain ⟨G3, hB2⟩ := HB.out.onRef hsa hr2 hc2 (fun b hb => .inl hb)
                have hX2 := HX.out.chg hc2 (fun hm => by have := HGX.out _ hm; omega)
                obtain ⟨⟨x0, x1, x2⟩, -⟩ := hX2.three
                have hs2 : wa.heap.size ≤ w2.heap.size := hc2.size
                have hbx2 : bx < w2.heap.size := by omega
                have HB2 := Lib.hid hB2; have HC2 := Lib.hid (HC.out.onto hc2 HB.out.gb)
                clear hr2 hc2 hB2 hX2
                go_wp2_with fail
                refine (named_any _ F g s x.r.nm (HB2.out.fresh ((Chg.refl [] w2).alloc (.cells #[.string r9.nm, .int .u8 r9.kd, .int .u32 r9.fc] 31))).reg (by omega) hnk).mono ?_
                rintro e w3 ⟨rfl, hr3, hc3⟩
                rw [← HP.out]
                simp only [rval]
                obtain ⟨F3, hB3⟩ := (HB2.out.fresh ((Chg.refl [] w2).alloc (.cells #[.string r9.nm, .int .u8 r9.kd, .int .u32 r9.fc] 31))).onReg (by simp; omega) hr3 hc3 (fun b hb => .inl hb)
                have hq3 := (Blk.new w2 31 #[.string r9.nm, .int .u8 r9.kd, .int .u32 r9.fc]).chg hc3 (fun hm => by have := HB2.out.fl _ hm; omega)
                obtain ⟨⟨y0, y1, y2⟩, -⟩ := hq3.three
                have hq3l : w2.heap.size < w3.heap.size := hq3.lt
                obtain ⟨n1, n2⟩ := nm_yes (rfl : r9.nm = r9.nm)
                have HB3 := Lib.hid hB3; have HC3 := Lib.hid ((HC2.out.alloc _).onto hc3 HB2.out.fb)
                clear hr3 hc3 hB3 hq3 x0 x1 x2
                go_wp2_with fail
                go_meet
                exact ⟨_, F3, G3, HB3.out.fresh ((Chg.refl [] w3).alloc _), by show s.rows.length + s.taken.length ≤ _; omega, HC3.out.alloc _⟩
              · have e4 : (x.k == 4) = false := by simp [k4]
                clear k4
                by_cases k5 : x.k = 5
                · have e5 : (x.k == 5) = true := by simp [k5]
                  clear k5
                  go_wp2_with fail
                  refine (rof_any wa G m s x.r.kd HB.out.ref (by omega)).mono ?_
                  rintro e w2 ⟨rfl, hr2, hc2⟩
                  obtain ⟨p, hp⟩ : ∃ p, p = ofL s.rows x.r.kd := ⟨_, rfl⟩
                  have HP := Lib.hid hp
                  rw [← hp]
                  obtain ⟨r9, q9⟩ := p
                  simp only [rval]
                  clear hp
                  obtain ⟨G3, hB2⟩ := HB.out.onRef hsa hr2 hc2 (fun b hb => .inl hb)
                  have hX2 := HX.out.chg hc2 (fun hm => by have := HGX.out _ hm; omega)
                  obtain ⟨⟨x0, x1, x2⟩, -⟩ := hX2.three
                  have hs2 : wa.heap.size ≤ w2.heap.size := hc2.size
                  have hbx2 : bx < w2.heap.size := by omega
                  have HB2 := Lib.hid hB2; have HC2 := Lib.hid (HC.out.onto hc2 HB.out.gb)
                  clear hr2 hc2 hB2 hX2
                  go_wp2_with fail
                  refine (of_any _ F g s x.r.kd (HB2.out.fresh ((Chg.refl [] w2).alloc (.cells #[.string r9.nm, .int .u8 r9.kd, .int .u32 r9.fc] 31))).reg (by omega)).mono ?_
                  rintro e w3 ⟨rfl, hr3, hc3⟩
                  rw [← HP.out]
                  simp only [rval]
                  obtain ⟨F3, hB3⟩ := (HB2.out.fresh ((Chg.refl [] w2).alloc (.cells #[.string r9.nm, .int .u8 r9.kd, .int .u32 r9.fc] 31))).onReg (by simp; omega) hr3 hc3 (fun b hb => .inl hb)
                  have hq3 := (Blk.new w2 31 #[.string r9.nm, .int .u8 r9.kd, .int .u32 r9.fc]).chg hc3 (fun hm => by have := HB2.out.fl _ hm; omega)
                  obtain ⟨⟨y0, y1, y2⟩, -⟩ := hq3.three
                  have hq3l : w2.heap.size < w3.heap.size := hq3.lt
                  obtain ⟨n1, n2⟩ := nm_yes (rfl : r9.nm = r9.nm)
                  have HB3 := Lib.hid hB3; have HC3 := Lib.hid ((HC2.out.alloc _).onto hc3 HB2.out.fb)
                  clear hr3 hc3 hB3 hq3 x0 x1 x2
                  go_wp2_with fail
                  go_meet
                  exact ⟨_, F3, G3, HB3.out.fresh ((Chg.refl [] w3).alloc _), by show s.rows.length + s.taken.length ≤ _; omega, HC3.out.alloc _⟩
                · have e5 : (x.k == 5) = false := by simp [k5]
                  clear k5
                  go_wp2_with fail
                  go_meet
                  exact ⟨s, F, G, HB.out, by omega, HC.out⟩
      case rest =>
        obtain ⟨s', F', G', hB', hn', hC'⟩ := hcut
        have HB' := Lib.hid hB'; have HC' := Lib.hid hC'
        obtain ⟨mr, mt, hRm⟩ := hB'.ref
        obtain ⟨⟨m0, m1, m2⟩, -⟩ := hRm.b.three
        have hml : m < wc.heap.size := hRm.b.lt
        have HMF : Hid (m ∉ F') := fun hm => HB'.out.dis m hm hRm.mF
        clear hB' hC' hRm m0 m1 HB HC HX x0 x1 x2
        obtain ⟨zb, hz⟩ : ∃ zb, s'.fz = zb := ⟨_, rfl⟩
        cases zb
        · rw [hz] at m2
          have HZ := Lib.hid hz
          clear hz
          go_upto_region 35 with fail
          go_region_held3 (fun w' => w'.cell? ⟨m, 2, none⟩ = some (.bool false))
            (first
              | go_keep
              | exact (hc3.cell (by simpa using hml) HMF.out).trans (by simpa using m2)
              | exact ((hc3.trans hc4).cell (by simpa using hml) HMF.out).trans (by simpa using m2))
            (first
              | (go_at_call 15; refine (frozen_any _ F' g s' HB'.out.reg.drew).mono ?_; rintro e w3 ⟨rfl, hr3, hc3⟩; simp only [HZ.out])
              | (go_at_call 16; refine (frozens_any w3 F' g s' hr3).mono ?_; rintro e w4 ⟨rfl, hr4, hc4⟩; simp only [HZ.out, fzn_false]))
          obtain ⟨F3, hB3⟩ := HB'.out.onReg HC'.out.size hr4 (((Chg.refl F' wc).drew.trans hc3).trans hc4) (fun b hb => .inl hb)
          have HB3 := Lib.hid hB3; have HC3 := Lib.hid (HC'.out.onto (((Chg.refl F' wc).drew.trans hc3).trans hc4) HB'.out.fb)
          clear hB3 hr3 hc3 hr4 hc4
          go_wp2_with fail
          go_roundg (gk - 1)
          case rel => exact ⟨k + 1, s', F3, G', by have := HK.out; omega, by go_num, HB3.out, hn', HC3.out⟩
          case measure => have := HK.out; omega
        · rw [hz] at m2
          have HZ := Lib.hid hz
          clear hz
          go_upto_region 35 with fail
          go_region_held3 (fun w' => w'.cell? ⟨m, 2, none⟩ = some (.bool true))
            (first
              | go_keep
              | exact (hc3.cell (by simpa using hml) HMF.out).trans (by simpa using m2)
              | exact ((hc3.trans hc4).cell (by simpa using hml) HMF.out).trans (by simpa using m2))
            (first
              | (go_at_call 15; refine (frozen_any _ F' g s' HB'.out.reg.drew).mono ?_; rintro e w3 ⟨rfl, hr3, hc3⟩; simp only [HZ.out])
              | (go_at_call 16; refine (frozens_any w3 F' g s' hr3).mono ?_; rintro e w4 ⟨rfl, hr4, hc4⟩; simp only [HZ.out, fzn_true]))
          obtain ⟨F3, hB3⟩ := HB'.out.onReg HC'.out.size hr4 (((Chg.refl F' wc).drew.trans hc3).trans hc4) (fun b hb => .inl hb)
          have HB3 := Lib.hid hB3; have HC3 := Lib.hid (HC'.out.onto (((Chg.refl F' wc).drew.trans hc3).trans hc4) HB'.out.fb)
          clear hB3 hr3 hc3 hr4 hc4
          go_wp2_with fail
          go_roundg (gk - 1)
          case rel => exact ⟨k + 1, s', F3, G', by have := HK.out; omega, by go_num, HB3.out, hn', HC3.out⟩
          case measure => have := HK.out; omega
    · have hkn : k = len := by have := HK.out; omega
      have hkI : ¬ (k : Int) < (len : Int) := by omega
      obtain ⟨mr, mt, hRm⟩ := HB.out.ref
      obtain ⟨⟨m0, m1, m2⟩, -⟩ := hRm.b.three
      have HRM := Lib.hid hRm
      have hml : m < wr.heap.size := hRm.b.lt
      have HMF : Hid (m ∉ F) := fun hm => HB.out.dis m hm hRm.mF
      have HRF : Hid (∀ b, mr.ownBlock = some b → b ∉ F) := fun b hb hf => HB.out.dis b hf (hRm.rF b hb)
      have HTF : Hid (∀ b, mt.ownBlock = some b → b ∉ F) := fun b hb hf => HB.out.dis b hf (hRm.tF b hb)
      clear hRm m2 hlt
      go_wp2_with fail
      go_region_held3 (fun w' => w'.cell? ⟨m, 0, none⟩ = some mr ∧ w'.cell? ⟨m, 1, none⟩ = some mt)
        (first
          | go_keep
          | exact ⟨(hc3.cell (by simpa using hml) HMF.out).trans (by simpa using m0), (hc3.cell (by simpa using hml) HMF.out).trans (by simpa using m1)⟩
          | exact ⟨(hc4.cell (by simpa using hml) HMF.out).trans (by simpa using m0), (hc4.cell (by simpa using hml) HMF.out).trans (by simpa using m1)⟩
          | exact ⟨(hc5.cell (by simpa using hml) HMF.out).trans (by simpa using m0), (hc5.cell (by simpa using hml) HMF.out).trans (by simpa using m1)⟩
          | exact ⟨(hc6.cell (by simpa using hml) HMF.out).trans (by simpa using m0), (hc6.cell (by simpa using hml) HMF.out).trans (by simpa using m1)⟩
          | exact ⟨(hc7.cell (by simpa using hml) HMF.out).trans (by simpa using m0), (hc7.cell (by simpa using hml) HMF.out).trans (by simpa using m1)⟩)
        (first
          | (go_at_call 9; refine (roll_any _ F g s HB.out.reg.drew (by omega)).mono ?_; rintro e w3 ⟨v3, rfl, ho3, hr3, hd3⟩; have hc3 : Chg F wr w3 := (Chg.refl F wr).drew.trans hd3)
          | (go_at_call 17; (with_reducible show Calls _ _ #[v3, mr] _ _); refine (same_any w3 _ _ v3 mr s.rows ho3 (ownsRow_chg HRM.out.rows hc3 HRF.out) (by omega)).mono ?_; rintro e w4 ⟨rfl, hd4⟩; have hc4 : Chg F wr w4 := hc3.trans (hd4.mono (by simp)))
          | (go_at_call 10; refine (refused_any w4 F g { s with fz := true } (hr3.chg hd4 (by simp)) (by show s.taken.length ≤ _; omega)).mono ?_; rintro e w5 ⟨v5, rfl, ho5, hr5, hd5⟩; have hc5 : Chg F wr w5 := hc4.trans hd5)
          | (go_at_call 17; (with_reducible show Calls _ _ #[v5, mt] _ _); refine (same_any w5 _ _ v5 mt s.taken ho5 (ownsRow_chg HRM.out.taken hc5 HTF.out) (by omega)).mono ?_; rintro e w6 ⟨rfl, hd6⟩; have hc6 : Chg F wr w6 := hc5.trans (hd6.mono (by simp)))
          | (go_at_call 16; refine (frozens_any w6 F g { s with fz := true } (hr5.chg hd6 (by simp))).mono ?_; rintro e w7 ⟨rfl, hr7, hd7⟩; simp only [fzn_true]; have hc7 : Chg F wr w7 := hc6.trans hd7))
      go_wp2_with fail
      go_ret
      exact ⟨rfl, (HC.out.onto hc7 HB.out.fb).below (Nat.le_refl _) (by simp)⟩
end Go.Proofs.Ytacijlfckmllcaa
