/-
  A supervisor in memory, with one child: starting it, what is told.
-/
import Derived.Test.YtnlgiodhfmcaaaaGreatDoorSag1
import Derived.Deep.RegionLaw
import Derived.Deep.AppendLies
import Derived.Maps.AppendAt
import Derived.Deep.DeepCutAuto
import Derived.Deep.RegionHeld3
import Derived.Deep.CutBlock
import Derived.Laws.Entries
namespace Go.Proofs.YtnlgiodhfmcaaaaGreatDoor
open Go.RowKit

theorem own_set {w : World} {base : Nat} {e : TypeId} {size n cap g : Nat} {xs : List Value} (h : w.ownsRow base e size (.slice (some ⟨g, 0, none⟩) n cap) n xs) (i : Nat) (_hi : i < n * size) (u : Value) :
    (w.setCell ⟨g, i, none⟩ u).ownsRow base e size (.slice (some ⟨g, 0, none⟩) n cap) n (xs.set i u) := by
  obtain ⟨h1, h2⟩ := h
  refine ⟨by simpa using h1, .inr ?_⟩
  rcases h2 with ⟨h2, _⟩ | ⟨g', cap', cur, hv, hb, hh, hn, hm, hs, ht⟩
  · cases h2
  · injection hv with e1 e2 e3
    injection e1 with e1
    injection e1 with e1
    subst e1 e3
    refine ⟨g, cap, cur.setIfInBounds i u, rfl, hb, ?_, hn, hm, by simpa using hs, ?_⟩
    · have : Blk w g e cur := hh
      exact this.set_ i u
    · rw [← ht]
      simp [List.take_set]

theorem cells_new_at (w : World) (l : List Value) (t : TypeId) (g : Nat) (h : g = w.heap.size) : ∀ j u, l[j]? = some u → (w.alloc (.cells l.toArray t)).cell? ((⟨g, 0, none⟩ : Addr).add j) = some u := by
  subst h
  intro j u hj
  have hadd : (⟨w.heap.size, 0, none⟩ : Addr).add j = ⟨w.heap.size, j, none⟩ := by unfold Addr.add; split <;> simp_all
  rw [hadd, (Blk.new w t l.toArray).cell j]
  simpa using hj
theorem own_drew {w : World} {base : Nat} {e : TypeId} {size n : Nat} {v : Value} {xs : List Value} (h : w.ownsRow base e size v n xs) : w.drew.ownsRow base e size v n xs := h
theorem news_drew_at (w : World) (l : List Value) (t : TypeId) (g : Nat) (h : g = w.heap.size) : ∀ j u, l[j]? = some u → ((w.alloc (.cells l.toArray t)).drew).cell? ((⟨g, 0, none⟩ : Addr).add j) = some u := cells_new_at w l t g h

theorem own_frozen {w : World} {base : Nat} {e : TypeId} {size n cap g : Nat} {xs : List Value} (h : w.ownsRow base e size (.slice (some ⟨g, 0, none⟩) n cap) n xs) (_hn : 0 < n) (i : Nat) : w.frozen? ⟨g, i, none⟩ = false := by
  rcases h.2 with ⟨h', _⟩ | ⟨g', cap', cur, h', _, hh, _⟩
  · cases h'
  · injection h' with e1
    injection e1 with e1
    injection e1 with e1
    subst e1
    exact Blk.frozen hh i

/-- A child's cells: when it is restarted, whether it is up, in which life. -/
def chC (up : Bool) (life : Int) : List Value := [.int .u8 1, .bool up, .int .i64 life]
def evC (k c l : Int) : List Value := [.int .u8 k, .int .i64 c, .int .i64 l]
def supC (chV rsV outV : Value) (now : Int) (told ended : Bool) : Array Value :=
  #[.int .u8 2, .slice none 0 0, .int .i64 1, .int .i64 4611686018427387904, .int .u8 0, chV, rsV, .int .i64 now, .bool told, .bool ended, outV]

theorem child_info : (Tryz.prog.info? 65).map (fun i => (i.zero, i.size, i.bytes)) = some (some (.agg #[.int .u8 0, .bool false, .int .i64 0]), 3, 16) := by kernel_rfl
theorem event_info : (Tryz.prog.info? 102).map (fun i => (i.zero, i.size, i.bytes)) = some (some (.agg #[.int .u8 0, .int .i64 0, .int .i64 0]), 3, 24) := by kernel_rfl
theorem i64_info : (Tryz.prog.info? 2).map (fun i => (i.zero, i.size, i.bytes)) = some (some (.int .i64 0), 1, 8) := by kernel_rfl

/-- The supervisor at g: its one child, its restarts, its events that were not told yet; every block at B or behind. -/
structure Sup (w : World) (B g cb cc : Nat) (up : Bool) (life : Int) (rs : List Value) (evs : List Value) (ne : Nat) (now : Int) (told ended : Bool) (rsV outV : Value) (nr : Nat) : Prop where
  b : Blk w g 58 (supC (.slice (some ⟨cb, 0, none⟩) 1 cc) rsV outV now told ended)
  ch : w.ownsRow B 65 3 (.slice (some ⟨cb, 0, none⟩) 1 cc) 1 (chC up life)
  rs : w.ownsRow B 2 1 rsV nr rs
  ev : w.ownsRow B 102 3 outV ne evs
  gB : B ≤ g

theorem may_odd (w : World) : Calls Tryz.prog 36 #[.int .u8 1] w fun e w' => e = .returned (.bool false) ∧ w' = w := by
  go_enter Tryz.func36, Tryz.ntmps36
  go_wp2_with fail
  go_ret
  exact ⟨rfl, rfl⟩

set_option maxRecDepth 100000 in
theorem may_none (w : World) : Calls Tryz.prog 22 #[.agg #[.int .u8 2, .slice none 0 0, .int .i64 0, .int .i64 1, .int .u8 0]] w fun e w' => e = .returned (.bool false) ∧ Chg [] w w' := by
  go_enter Tryz.func22, Tryz.ntmps22
  go_wp2_with fail
  go_ret
  exact ⟨rfl, (Chg.refl _ _).alloc _⟩

set_option maxRecDepth 100000 in
theorem index_odd (a c : Nat) (fn : Value) (w : World) (ha : a < w.heap.size) (hc : w.cell? ⟨a, 0, none⟩ = some (.int .u8 1)) (hf : fn = .func (.func 36) #[] #[]) : Calls Tryz.prog 95 #[.slice (some ⟨a, 0, none⟩) 1 c, fn] w fun e w' => e = .returned (.int .i64 (-1)) ∧ w' = w := by
  subst hf
  have HC := Lib.hid hc
  go_enter Tryz.func95, Tryz.ntmps95
  go_wp2_with fail
  go_loopg [8] 1 (fun gk i wr => ∃ k : Nat, k + gk = 1 ∧ i = .int .i64 (k : Int) ∧ wr = w)
  case atStart => exact ⟨0, rfl, rfl, rfl⟩
  case round =>
    obtain ⟨k, hk, rfl, rfl⟩ := hrel
    have HK := Lib.hid hk
    clear hk
    by_cases hlt : k < 1
    · obtain rfl : k = 0 := by omega
      go_wp2_with fail
      refine (may_odd wr).mono ?_
      rintro e w1 ⟨rfl, rfl⟩
      go_wp2_with fail
      go_roundg (gk - 1)
      case rel => exact ⟨1, by have := HK.out; omega, by go_num, rfl⟩
      case measure => have := HK.out; omega
    · obtain rfl : k = 1 := by have := HK.out; omega
      go_wp2_with fail
      go_ret
      exact ⟨rfl, rfl⟩

theorem contains_odd (a c : Nat) (w : World) (ha : a < w.heap.size) (hc : w.cell? ⟨a, 0, none⟩ = some (.int .u8 1)) : Calls Tryz.prog 37 #[.slice (some ⟨a, 0, none⟩) 1 c, .func (.func 36) #[] #[]] w fun e w' => e = .returned (.bool false) ∧ w' = w := by
  have HC := Lib.hid hc
  clear hc
  go_enter Tryz.func37, Tryz.ntmps37
  go_wp2_with fail
  refine (index_odd a c _ w ha HC.out rfl).mono ?_
  rintro e w' ⟨rfl, rfl⟩
  go_wp2_with fail
  go_ret
  exact ⟨rfl, rfl⟩

set_option maxRecDepth 100000 in
set_option maxHeartbeats 1000000 in
theorem may_ok (a c : Nat) (w : World) (ha : a < w.heap.size) (hc : w.cell? ⟨a, 0, none⟩ = some (.int .u8 1)) : Calls Tryz.prog 22 #[.agg #[.int .u8 2, .slice (some ⟨a, 0, none⟩) 1 c, .int .i64 1, .int .i64 4611686018427387904, .int .u8 0]] w fun e w' => e = .returned (.bool true) ∧ Chg [] w w' := by
  have HC := Lib.hid hc
  clear hc
  go_enter Tryz.func22, Tryz.ntmps22
  go_wp2_with fail
  refine (contains_odd a c _ (by simp; omega) ((((Chg.refl [] w).alloc _).cell (p := ⟨a, 0, none⟩) ha (by simp)).trans HC.out)).mono ?_
  rintro e w' ⟨rfl, rfl⟩
  go_wp2_with fail
  go_ret
  exact ⟨rfl, (Chg.refl _ _).alloc _⟩

section
variable {w w' : World} {B g cb cc ne nr : Nat} {up : Bool} {life now : Int} {rs evs : List Value} {told ended : Bool} {rsV outV : Value}
theorem Sup.apart (h : Sup w B g cb cc up life rs evs ne now told ended rsV outV nr) : cb ≠ g ∧ (∀ b, rsV.ownBlock = some b → b ≠ cb ∧ b ≠ g) ∧ (∀ b, outV.ownBlock = some b → b ≠ cb ∧ b ≠ g) ∧ (∀ b, rsV.ownBlock = some b → outV.ownBlock ≠ some b) ∧ B ≤ cb := by
  have h1 := own_blk_ne h.ch h.b (by decide)
  have h2 := own_blk_ne h.rs h.b (by decide)
  have h3 := own_blk_ne h.ev h.b (by decide)
  have h4 := own_own_ne h.rs h.ch (by decide)
  have h5 := own_own_ne h.ev h.ch (by decide)
  have h6 := own_own_ne h.rs h.ev (by decide)
  refine ⟨fun e => h1 (by simp [Value.ownBlock, e]), fun b hb => ⟨fun e => ?_, fun e => h2 (by rw [hb, e])⟩, fun b hb => ⟨fun e => ?_, fun e => h3 (by rw [hb, e])⟩, fun b hb hc => ?_, (h.ch.lt cb rfl).1⟩
  · rcases h4 with h4 | h4
    · rw [h4] at hb; cases hb
    · exact h4 (by rw [hb, e]; rfl)
  · rcases h5 with h5 | h5
    · rw [h5] at hb; cases hb
    · exact h5 (by rw [hb, e]; rfl)
  · rcases h6 with h6 | h6
    · rw [h6] at hb; cases hb
    · exact h6 (hb.trans hc.symm)
theorem Sup.chg {S : List Nat} (h : Sup w B g cb cc up life rs evs ne now told ended rsV outV nr) (hc : Chg S w w') (hg : g ∉ S) (hcb : cb ∉ S) (hr : ∀ b, rsV.ownBlock = some b → b ∉ S) (ho : ∀ b, outV.ownBlock = some b → b ∉ S) : Sup w' B g cb cc up life rs evs ne now told ended rsV outV nr :=
  ⟨h.b.chg hc hg, ownsRow_chg h.ch hc (fun b hb => by obtain rfl : cb = b := (by simpa [Value.ownBlock] using hb); exact hcb), ownsRow_chg h.rs hc hr, ownsRow_chg h.ev hc ho, h.gB⟩
theorem Sup.fresh (h : Sup w B g cb cc up life rs evs ne now told ended rsV outV nr) (hc : Chg [] w w') : Sup w' B g cb cc up life rs evs ne now told ended rsV outV nr := h.chg hc (by simp) (by simp) (by simp) (by simp)
/-- A cell of the child turned. -/
theorem Sup.child (h : Sup w B g cb cc up life rs evs ne now told ended rsV outV nr) (i : Nat) (hi : i < 3) (u : Value) (up' : Bool) (life' : Int) (he : (chC up life).set i u = chC up' life') : Sup (w.setCell ⟨cb, i, none⟩ u) B g cb cc up' life' rs evs ne now told ended rsV outV nr := by
  obtain ⟨a1, a2, a3, a4, a5⟩ := h.apart
  have hc : Chg [cb] w (w.setCell ⟨cb, i, none⟩ u) := (Chg.refl [cb] w).setCell (.inl (by simp)) u
  refine ⟨h.b.far (fun e => a1 e.symm) u, ?_, ownsRow_chg h.rs hc (fun b hb hm => (a2 b hb).1 (by simpa using hm)), ownsRow_chg h.ev hc (fun b hb hm => (a3 b hb).1 (by simpa using hm)), h.gB⟩
  rw [← he]
  exact own_set h.ch i (by omega) u
/-- One event more. -/
theorem Sup.event {w5 : World} {gn cg : Nat} {ev : List Value} (h : Sup w B g cb cc up life rs evs ne now told ended rsV outV nr) (hc : Chg outV.ownBlock.toList w w5) (ho : w5.ownsRow B 102 3 (.slice (some ⟨gn, 0, none⟩) (ne + 1) cg) (ne + 1) (evs ++ ev)) (hat : outV.ownBlock = some gn ∨ w.heap.size ≤ gn) :
    Sup (w5.setCell ⟨g, 10, none⟩ (.slice (some ⟨gn, 0, none⟩) (ne + 1) cg)) B g cb cc up life rs (evs ++ ev) (ne + 1) now told ended rsV (.slice (some ⟨gn, 0, none⟩) (ne + 1) cg) nr := by
  obtain ⟨a1, a2, a3, a4, a5⟩ := h.apart
  have hgl := h.b.lt
  have hset : Chg [g] w5 (w5.setCell ⟨g, 10, none⟩ (.slice (some ⟨gn, 0, none⟩) (ne + 1) cg)) := (Chg.refl [g] w5).setCell (.inl (by simp)) _
  have hgn : gn ≠ g := by
    rcases hat with h1 | h1
    · exact (a3 gn h1).2
    · omega
  have hb5 := h.b.chg hc (fun hm => (a3 g (by simpa using hm)).2 rfl)
  refine ⟨Blk.set_ hb5 10 _, ownsRow_chg (ownsRow_chg h.ch hc (fun b hb hm => ?_)) hset (fun b hb hm => ?_), ownsRow_chg (ownsRow_chg h.rs hc (fun b hb hm => a4 b hb (by simpa using hm))) hset (fun b hb hm => (a2 b hb).2 (by simpa using hm)), ownsRow_chg ho hset (fun b hb hm => ?_), h.gB⟩
  · obtain rfl : cb = b := by simpa [Value.ownBlock] using hb
    exact (a3 cb (by simpa using hm)).1 rfl
  · obtain rfl : cb = b := by simpa [Value.ownBlock] using hb
    exact a1 (by simpa using hm)
  · obtain rfl : gn = b := by simpa [Value.ownBlock] using hb
    exact hgn (by simpa using hm)
end

def StartPost (w : World) (B g cb cc : Nat) (life : Int) (rs evs : List Value) (ne : Nat) (now : Int) (told ended : Bool) (rsV : Value) (nr : Nat) (e : Ending) (w' : World) : Prop :=
  e = .returned (.tuple #[]) ∧ (∃ outV, Sup w' B g cb cc true (life + 1) rs (evs ++ evC 1 0 (life + 1)) (ne + 1) now told ended rsV outV nr) ∧ Below B w w'

set_option maxRecDepth 100000 in
set_option maxHeartbeats 1000000 in
theorem start_any (w : World) (B g cb cc : Nat) (up : Bool) (life : Int) (rs evs : List Value) (ne : Nat) (now : Int) (told ended : Bool) (rsV outV : Value) (nr : Nat) (h : Sup w B g cb cc up life rs evs ne now told ended rsV outV nr) (hl : 0 ≤ life ∧ life ≤ 100) (hne : ne ≤ 100) :
    Calls Tryz.prog 23 #[.pointer (some ⟨g, 0, none⟩), .int .i64 0] w (StartPost w B g cb cc life rs evs ne now told ended rsV nr) := by
  obtain ⟨a1, a2, a3, a4, a5⟩ := h.apart
  have g5 : w.cell? ⟨g, 5, none⟩ = some (.slice (some ⟨cb, 0, none⟩) 1 cc) := h.b.cell 5
  have k1 : w.cell? ⟨cb, 1, none⟩ = some (.bool up) := h.ch.cellAt 1 (by omega)
  have k2 : w.cell? ⟨cb, 2, none⟩ = some (.int .i64 life) := h.ch.cellAt 2 (by omega)
  have f1 := own_frozen h.ch (by omega) 1
  have f2 := own_frozen h.ch (by omega) 2
  have s1 := h.child 1 (by omega) (.bool true) true life rfl
  have s2 := s1.child 2 (by omega) (.int .i64 (life + 1)) true (life + 1) rfl
  have hBw : B ≤ w.heap.size := Nat.le_trans h.gB (Nat.le_of_lt h.b.lt)
  have hc : Chg [cb] w ((w.setCell ⟨cb, 1, none⟩ (.bool true)).setCell ⟨cb, 2, none⟩ (.int .i64 (life + 1))) := ((Chg.refl [cb] w).setCell (.inl (by simp)) _).setCell (.inl (by simp)) _
  have HS := Lib.hid s2; have HC := Lib.hid hc
  obtain ⟨hl0, hl1⟩ := hl
  clear h s1 s2 a2 a3 a4 hc
  go_enter Tryz.func23, Tryz.ntmps23
  go_upto_region 3 with fail
  clear g5 k1 k2 f1 f2
  generalize (w.setCell ⟨cb, 1, none⟩ (.bool true)).setCell ⟨cb, 2, none⟩ (.int .i64 (life + 1)) = w2 at *
  obtain ⟨b1, b2, b3, b4, b5⟩ := HS.out.apart
  have g10 : w2.cell? ⟨g, 10, none⟩ = some outV := HS.out.b.cell 10
  have k2 : w2.cell? ⟨cb, 2, none⟩ = some (.int .i64 (life + 1)) := HS.out.ch.cellAt 2 (by omega)
  have hgl := HS.out.b.lt
  have hcl : cb < w2.heap.size := (HS.out.ch.lt cb rfl).2
  have hBw2 : B ≤ w2.heap.size := Nat.le_trans hBw HC.out.size
  have HB3 := Lib.hid b3; have HB2 := Lib.hid b2; have HB4 := Lib.hid b4
  obtain ⟨i0, hi0, hz0, hz1, hz2⟩ := info_parts event_info
  have I0 := Lib.hid hi0
  have Z0 := Lib.hid hz0; have Z1 := Lib.hid hz1; have Z2 := Lib.hid hz2
  obtain ⟨A, cap, hA⟩ := own_slice HS.out.ev
  subst hA
  clear hi0 hz0 hz1 hz2 b2 b3 b4
  refine wp_region_noPanic ?_
  go_region_law (refine step_append_lies _ rfl (.tmp 25) (.tmp 32) _ rfl B 102 i0 _ 3 24 Tryz.underlying32 I0.out Z0.out Z1.out Z2.out rfl (by omega) (.slice A ne cap) ne evs rfl (own_drew (HS.out.ev.alloc _)) ⟨w2.heap.size, 0, none⟩ 1 1 (evC 1 0 (life + 1)) rfl rfl (news_drew_at w2 _ _ _ rfl) (by simp [evC, Value.oneCell']) (by omega) (by simp only [maxLen]; omega) (by omega) (by simp; omega) _ rfl ?_; intro gn cg w5 hown hgrow hat hlt'; have hb5 : Blk w5 g 58 _ := Blk.grown (HS.out.b.alloc _).drew hgrow (fun e => (HB3.out g e.symm).2 rfl); have c75 : w5.cell? ⟨g, 10, none⟩ = some (.slice A ne cap) := hb5.cell 10; have f75 := hb5.frozen 10; have HG5 := Lib.hid hgrow; have HO5 := Lib.hid hown; have HB5 := Lib.hid hb5; have HA5 := Lib.hid hat; clear hb5 hgrow hown hat)
  all_goals
    refine NoPanic.normal ?_
    go_wp2_with fail
    have hc5 : Chg (Value.slice A ne cap).ownBlock.toList w2 w5 := (((Chg.refl _ w2).alloc _).drew).grown HG5.out (fun b hb => .inl (by simp [hb]))
    have hat5 : (Value.slice A ne cap).ownBlock = some gn ∨ w2.heap.size ≤ gn := HA5.out.imp id (fun e => by simp at e; omega)
    have hchg : Chg (cb :: g :: (Value.slice A ne cap).ownBlock.toList) w (w5.setCell ⟨g, 10, none⟩ (.slice (some ⟨gn, 0, none⟩) (ne + 1) cg)) := ((HC.out.mono (by simp)).trans (hc5.mono (fun i hi => by simp [hi]))).setCell (.inl (by simp)) _
    have hbl : Below B w (w5.setCell ⟨g, 10, none⟩ (.slice (some ⟨gn, 0, none⟩) (ne + 1) cg)) := hchg.below hBw (fun i hi => by
      simp only [List.mem_cons] at hi
      rcases hi with rfl | rfl | hi
      · exact b5
      · exact HS.out.gB
      · exact (HS.out.ev.lt i (by simpa using hi)).1)
    have hfin := HS.out.event hc5 HO5.out hat5
    go_end0
    exact ⟨rfl, ⟨_, hfin⟩, hbl⟩
end Go.Proofs.YtnlgiodhfmcaaaaGreatDoor
