import Derived.Test.YthbeednmekajaaaOrd3
namespace Go.Proofs.Ythbeednmekajaaa
open Go.RowKit

def BeginPost (w : World) (t : T) (cs : Nat → Cl) (len : Nat) (e : Ending) (w' : World) : Prop :=
  ∃ y x g cap, e = .returned (.pointer (some ⟨y, 0, none⟩)) ∧ Hand w' y x g cap t (v0, initR cs len) ∧ w.heap.size ≤ y ∧ w.heap.size ≤ x ∧ w.heap.size ≤ g ∧ Chg [] w w'

set_option maxRecDepth 100000 in
set_option maxHeartbeats 2000000 in
theorem begin_any (t : T) (A : Option Addr) (len cap : Nat) (w : World) (cs : Nat → Cl) (ht : TOk t = true) (hlen : len ≤ 1000) (hcs : ClsAt w A len cs) (hg : Good cs len) :
    Calls Try.prog 49 #[.agg #[.int .i64 t.F, .int .i64 t.W, .int .i64 t.S], .slice A len cap] w (BeginPost w t cs len) := by
  have HT := Lib.hid ht; have HCS := Lib.hid hcs; have HG := Lib.hid hg
  clear hcs ht hg
  obtain ⟨i0, hi0, hz0, hz1, hz2⟩ := info_parts runner_info
  have I0 := Lib.hid hi0
  have Z0 := Lib.hid hz0; have Z1 := Lib.hid hz1; have Z2 := Lib.hid hz2
  clear hi0 hz0 hz1 hz2
  go_enter Try.func49, Try.ntmps49
  go_wp2_with fail
  obtain ⟨x, hx⟩ : ∃ x, x = w.heap.size + 1 := ⟨_, rfl⟩
  have HX := Lib.hid hx; clear hx
  go_loopg [6] len (fun gk i wr => ∃ (k : Nat) (sv : Value), k + gk = len ∧ i = .int .i64 k ∧ Blk wr (w.heap.size + 1) 120 #[.int .i64 t.F, .int .i64 t.W, .int .i64 t.S, .int .u8 v0.st, .int .i64 v0.turn, .int .i64 v0.fails, .int .i64 v0.at_, sv] ∧ wr.ownsRow (w.heap.size + 1) 123 17 sv k ((initQ cs k).flatMap qcells) ∧ (k = 0 → sv = .slice none 0 0) ∧ Chg [] w wr)
  case atStart =>
    exact ⟨0, .slice none 0 0, by omega, rfl, Blk.new' _ _ _ _ (by simp), World.ownsRow_nil _ _ _ _, fun _ => rfl, ((Chg.refl _ _).alloc _).alloc _⟩
  case round =>
    obtain ⟨k, sv, hk, rfl, hB, hO, hz, hC⟩ := hrel
    have HK := Lib.hid hk; have HB := Lib.hid hB; have HC := Lib.hid hC; have HO := Lib.hid hO; have HZ := Lib.hid hz
    clear hk hB hC hO hz
    by_cases hlt : k < len
    · obtain ⟨b, off, rfl, hb, hcl⟩ := HCS.out (by omega)
      have hb' : b < wr.heap.size := Nat.lt_of_lt_of_le hb HC.out.size
      obtain ⟨x0, x1, x2, x3⟩ := (hcl k hlt).chg HC.out hb (by simp)
      have hkl : (k : Int) < (len : Int) := by omega
      have hxr : w.heap.size + 1 < wr.heap.size := HB.out.lt
      have r7 := HB.out.cell 7
      simp at r7
      have nx := own_blk_ne HO.out HB.out (by decide)
      have NX := Lib.hid nx
      clear nx hcl
      go_upto_region 5 with fail
      go_region_law (refine step_append_lies _ rfl (.tmp 20) (.tmp 26) _ rfl (w.heap.size + 1) 123 i0 _ 17 136 Try.underlying118 I0.out Z0.out Z1.out Z2.out rfl (by omega) sv k ((initQ cs k).flatMap qcells) rfl (own_drew (HO.out.alloc _)) ⟨wr.heap.size, 0, none⟩ 1 1 (qcells (q0 (cs k))) rfl rfl (news_drew_at wr _ _ _ rfl) (by simp [qcells, Value.oneCell']) (by omega) (by simp only [maxLen]; omega) (by omega) (by simp; omega) _ rfl ?_; intro g cg w5 hown hgrow hat hlt'; have hb5 := (((HB.out.alloc _).drew).grown hgrow (fun e => NX.out e.symm)); have r75 := hb5.cell 7; have f75 := hb5.frozen 7; simp at r75; have HG5 := Lib.hid hgrow; have HO5 := Lib.hid hown; have HB5 := Lib.hid hb5; clear hb5 hgrow hown hat)
      all_goals
        go_wp2_with fail
        go_roundg (gk - 1)
        case rel =>
          have hc5 : Chg sv.ownBlock.toList wr w5 := (((Chg.refl _ wr).alloc _).drew).grown HG5.out (fun b hb => .inl (by simp [hb]))
          have hset : Chg [w.heap.size + 1] w5 (w5.setCell ⟨w.heap.size + 1, 7, none⟩ (.slice (some ⟨g, 0, none⟩) (k + 1) cg)) := (Chg.refl _ _).setCell (.inl (by simp)) _
          have hgx := own_blk_ne HO5.out HB5.out (by decide)
          refine ⟨k + 1, .slice (some ⟨g, 0, none⟩) (k + 1) cg, by have := HK.out; omega, by go_num, HB5.out.set_ 7 _, ?_, fun h => absurd h (by omega), ?_⟩
          · have := ownsRow_chg HO5.out hset (fun b hb hm => by
              obtain rfl : b = w.heap.size + 1 := by simpa using hm
              exact hgx hb)
            rw [initQ_succ, List.flatMap_append]
            have e : [q0 (cs k)].flatMap qcells = qcells (q0 (cs k)) := by simp
            rw [e]
            exact this
          · refine (HC.out.trans' hc5 (fun b hb => .inr ?_)).setCell (.inr (by simp)) _
            have := (HO.out.lt b (by simpa using hb)).1
            omega
        case measure => have := HK.out; omega
    · obtain rfl : k = len := by have := HK.out; omega
      clear hlt
      have hkl : ¬ (k : Int) < (k : Int) := by omega
      have hm := race_made HB.out HO.out HZ.out HT.out HG.out w.heap.size (by have := HB.out.lt; omega) (by omega)
      obtain ⟨g, cap', hQ, hg0, hg1⟩ := hm
      have HS : Hid (RaceS wr (w.heap.size + 1) g cap' t (v0, initR cs k)) := ⟨_, hQ, init_sims t cs k⟩
      have HGW : Hid (w.heap.size ≤ g) := by
        show _ ≤ _
        by_cases h : k = 0
        · rw [hg0 h]; omega
        · have := hg1 (by omega); omega
      have HGL : Hid (g < wr.heap.size) := hQ.lt
      have hxr : w.heap.size + 1 < wr.heap.size := HB.out.lt
      clear hQ hg0 hg1
      go_wp2_with fail
      go_ret
      refine ⟨wr.heap.size, w.heap.size + 1, g, cap', rfl, ⟨Blk.new _ _ _, HS.out.chg ((Chg.refl [] _).alloc _) (by simp) (by simp), ?_, ?_⟩, ?_, by omega, HGW.out, HC.out.alloc _⟩
      · have := HGL.out; omega
      · omega
      · omega
end Go.Proofs.Ythbeednmekajaaa
