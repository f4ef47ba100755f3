import Derived.Test.YthbeednmekajaaaRace4
import Derived.Test.YthbeednmekajaaaPlay3
import Derived.Deep.CutRange
import Derived.Laws.MakeOwn
namespace Go.Proofs.Ythbeednmekajaaa
open Go.RowKit

/-- A race's calls as they are handed in. -/
def ClAt (w : World) (b o : Nat) (c : Cl) : Prop :=
  w.cell? ⟨b, o, none⟩ = some (.bool c.done) ∧ w.cell? ⟨b, o + 1, none⟩ = some (.int .i64 c.of_) ∧ w.cell? ⟨b, o + 2, none⟩ = some (.bool c.ok) ∧ w.cell? ⟨b, o + 3, none⟩ = some (.int .i64 c.now)
def ClsAt (w : World) (A : Option Addr) (len : Nat) (cs : Nat → Cl) : Prop := 0 < len → ∃ b off, A = some ⟨b, off, none⟩ ∧ b < w.heap.size ∧ ∀ i, i < len → ClAt w b (off + i * 4) (cs i)
def IntsAt (w : World) (A : Option Addr) (len : Nat) (xs : Nat → Int) : Prop := 0 < len → ∃ b off, A = some ⟨b, off, none⟩ ∧ b < w.heap.size ∧ ∀ i, i < len → w.cell? ⟨b, off + i, none⟩ = some (.int .i64 (xs i))

theorem ClAt.chg {S : List Nat} {w w' : World} {b o : Nat} {c : Cl} (h : ClAt w b o c) (hc : Chg S w w') (hb : b < w.heap.size) (hn : b ∉ S) : ClAt w' b o c := by
  obtain ⟨h0, h1, h2, h3⟩ := h
  exact ⟨(hc.cell (p := ⟨b, o, none⟩) hb hn).trans h0, (hc.cell (p := ⟨b, o + 1, none⟩) hb hn).trans h1, (hc.cell (p := ⟨b, o + 2, none⟩) hb hn).trans h2, (hc.cell (p := ⟨b, o + 3, none⟩) hb hn).trans h3⟩
theorem ClsAt.chg {w w' : World} {A : Option Addr} {len : Nat} {cs : Nat → Cl} (h : ClsAt w A len cs) (hc : Chg [] w w') : ClsAt w' A len cs := fun hp => by
  obtain ⟨b, off, h1, h2, h3⟩ := h hp
  exact ⟨b, off, h1, Nat.lt_of_lt_of_le h2 hc.size, fun i hi => (h3 i hi).chg hc h2 (by simp)⟩
theorem IntsAt.chg {w w' : World} {A : Option Addr} {len : Nat} {xs : Nat → Int} (h : IntsAt w A len xs) (hc : Chg [] w w') : IntsAt w' A len xs := fun hp => by
  obtain ⟨b, off, h1, h2, h3⟩ := h hp
  exact ⟨b, off, h1, Nat.lt_of_lt_of_le h2 hc.size, fun i hi => (hc.cell (p := ⟨b, off + i, none⟩) h2 (by simp)).trans (h3 i hi)⟩

/-- The list while it is being filled. -/
def partR (cs : Nat → Cl) (len k : Nat) : List R := (List.range len).map fun i => if i < k then r0 (cs i).done (cs i).of_ (cs i).ok (cs i).now 0 else r0 false 0 false 0 0

theorem partR_len (cs : Nat → Cl) (len k : Nat) : (partR cs len k).length = len := by simp [partR]
theorem partR_at (cs : Nat → Cl) (len k i : Nat) (hi : i < len) : (partR cs len k)[i]? = some (if i < k then r0 (cs i).done (cs i).of_ (cs i).ok (cs i).now 0 else r0 false 0 false 0 0) := by simp [partR, hi]
theorem partR_all (cs : Nat → Cl) (len : Nat) : partR cs len len = initR cs len := by
  unfold partR initR
  apply List.map_congr_left
  intro i hi
  rw [if_pos (List.mem_range.1 hi)]
theorem partR_set (cs : Nat → Cl) (len k : Nat) (hk : k < len) : (partR cs len k).set k (r0 (cs k).done (cs k).of_ (cs k).ok (cs k).now 0) = partR cs len (k + 1) := by
  apply List.ext_getElem?
  intro i
  by_cases hi : i < len
  · by_cases hik : k = i
    · subst hik
      rw [List.getElem?_set_self (by rw [partR_len]; exact hk), partR_at _ _ _ _ hk, if_pos (by omega)]
    · rw [List.getElem?_set_ne hik, partR_at _ _ _ _ hi, partR_at _ _ _ _ hi]
      by_cases h : i < k
      · rw [if_pos h, if_pos (by omega)]
      · rw [if_neg h, if_neg (by omega)]
  · rw [List.getElem?_eq_none (by simp [partR_len]; omega), List.getElem?_eq_none (by simp [partR_len]; omega)]

/-- n runs of nothing. -/
def runZeros (n : Nat) : Array Value := madeCells (rcells (r0 false 0 false 0 0)).toArray (n * 12)

theorem run_info : (Try.prog.info? 116).map (fun i => (i.zero, i.size, i.bytes)) = some (some (.agg (rcells (r0 false 0 false 0 0)).toArray), 12, 96) := by kernel_rfl

theorem make_runs (n : Nat) (hn : n ≤ 1000) (w : World) : (Instr.makeSlice 124 (.int .i64 n) (.int .i64 n)).run Try.prog w = .ok (.slice (some ⟨w.heap.size, 0, none⟩) n n) (w.alloc (.cells (runZeros n) 116)) := by
  obtain ⟨i, hi, hz0, hz1, hz2⟩ := info_parts run_info
  have := run_make (P := Try.prog) w 124 116 i _ Try.underlying124 hi hz0 .i64 .i64 n n (by omega) (by omega) (by rw [hz2]; omega) (by omega)
  rw [this, hz1]
  simp only [Int.toNat_natCast]
  rfl

theorem made_runs (w : World) (cs : Nat → Cl) (n : Nat) : Runs (w.alloc (.cells (runZeros n) 116)) w.heap.size (partR cs n 0) := by
  have hb := Blk.new w 116 (runZeros n)
  refine ⟨by simp, fun i r hr => ?_⟩
  have hi : i < n := by have := (List.getElem?_eq_some_iff.1 hr).1; rwa [partR_len] at this
  rw [partR_at _ _ _ _ hi, if_neg (by omega)] at hr
  injection hr with hr
  subst hr
  refine ⟨fun k u hk => ?_, hb.frozen, v0_ok, v0_ok, by decide⟩
  rw [hb.cell]
  have h12 : k < 12 := by
    have := (List.getElem?_eq_some_iff.1 hk).1
    simpa [rcells] using this
  have hlt : i * 12 + k < n * 12 := by omega
  have hm : (i * 12 + k) % 12 = k := by omega
  have hsz : (rcells (r0 false 0 false 0 0)).toArray.size = 12 := rfl
  unfold runZeros madeCells
  rw [Array.getElem?_map, Array.getElem?_eq_getElem (by simpa using hlt)]
  simp only [Array.getElem_range, Option.map_some, hsz, hm]
  rw [← hk]
  have hl : k < (rcells (r0 false 0 false 0 0)).length := h12
  rw [List.getElem?_eq_getElem hl]
  simp [hl]

/-- The four cells of one call, stored. -/
theorem Runs.fill {w : World} {g : Nat} {cs : Nat → Cl} {len k : Nat} (h : Runs w g (partR cs len k)) (hk : k < len) (ht : tickB (cs k).now = true) :
    Runs ((((w.setCell ⟨g, k * 12, none⟩ (.bool (cs k).done)).setCell ⟨g, k * 12 + 1, none⟩ (.int .i64 (cs k).of_)).setCell ⟨g, k * 12 + 2, none⟩ (.bool (cs k).ok)).setCell ⟨g, k * 12 + 3, none⟩ (.int .i64 (cs k).now)) g (partR cs len (k + 1)) := by
  have hr : (partR cs len k)[k]? = some (r0 false 0 false 0 0) := by rw [partR_at _ _ _ _ hk, if_neg (by omega)]
  have hA := h.at_ k _ hr
  have h1 := hA.set (r' := r0 (cs k).done 0 false 0 0) 0 (.bool (cs k).done) (by omega) rfl v0_ok v0_ok (show tickB 0 = true by decide)
  have h2 := h1.set (r' := r0 (cs k).done (cs k).of_ false 0 0) 1 (.int .i64 (cs k).of_) (by omega) rfl v0_ok v0_ok (show tickB 0 = true by decide)
  have h3 := h2.set (r' := r0 (cs k).done (cs k).of_ (cs k).ok 0 0) 2 (.bool (cs k).ok) (by omega) rfl v0_ok v0_ok (show tickB 0 = true by decide)
  have h4 := h3.set (r' := r0 (cs k).done (cs k).of_ (cs k).ok (cs k).now 0) 3 (.int .i64 (cs k).now) (by omega) rfl v0_ok v0_ok ht
  have o1 := ((((Only.refl g g (k * 12) w).run 0 (by omega) (.bool (cs k).done)).run 1 (by omega) (.int .i64 (cs k).of_)).run 2 (by omega) (.bool (cs k).ok)).run 3 (by omega) (.int .i64 (cs k).now)
  have := h.turn (bb := g) (i := k) (by rw [partR_len]; exact hk) o1 h4
  rw [partR_set _ _ _ hk] at this
  exact this

/-- New cells, their block's number said otherwise. -/
theorem cells_new_at (w : World) (l : List Value) (t : TypeId) (g : Nat) (h : g = w.heap.size) : ∀ j u, l[j]? = some u → (w.alloc (.cells l.toArray t)).cell? ((⟨g, 0, none⟩ : Addr).add j) = some u := by
  subst h
  intro j u hj
  have hadd : (⟨w.heap.size, 0, none⟩ : Addr).add j = ⟨w.heap.size, j, none⟩ := by unfold Addr.add; split <;> simp_all
  rw [hadd, (Blk.new w t l.toArray).cell j]
  simpa using hj

theorem own_base {w : World} {b b' : Nat} {e : TypeId} {size n : Nat} {v : Value} {xs : List Value} (h : w.ownsRow b e size v n xs) (hb : b' ≤ b) : w.ownsRow b' e size v n xs := by
  refine ⟨h.1, ?_⟩
  rcases h.2 with h | ⟨g, cap, cur, h1, h2, h3⟩
  · exact .inl h
  · exact .inr ⟨g, cap, cur, h1, Nat.le_trans hb h2, h3⟩

def ranZeros (n : Nat) : Array Value := madeCells #[.int .i64 0, .int .i64 0, .int .i64 0] (n * 3)
theorem ran_info : (Try.prog.info? 80).map (fun i => (i.zero, i.size, i.bytes)) = some (some (.agg #[.int .i64 0, .int .i64 0, .int .i64 0]), 3, 24) := by kernel_rfl
theorem make_rans (n : Nat) (hn : n ≤ 1000) (w : World) : (Instr.makeSlice 72 (.int .i64 0) (.int .i64 n)).run Try.prog w = .ok (.slice (some ⟨w.heap.size, 0, none⟩) 0 n) (w.alloc (.cells (ranZeros n) 80)) := by
  obtain ⟨i, hi, hz0, hz1, hz2⟩ := info_parts ran_info
  have := run_make (P := Try.prog) w 72 80 i _ Try.underlying72 hi hz0 .i64 .i64 0 n (by omega) (by omega) (by rw [hz2]; omega) (by omega)
  rw [this, hz1]
  simp only [Int.toNat_natCast]
  rfl
end Go.Proofs.Ythbeednmekajaaa
