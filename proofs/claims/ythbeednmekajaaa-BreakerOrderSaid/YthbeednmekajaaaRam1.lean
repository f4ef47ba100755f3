import Derived.Test.YthbeednmekajaaaRar2
namespace Go.Proofs.Ythbeednmekajaaa
open Go.RowKit

/-- What a race comes to: what came of each call, how the breaker stands, the code. -/
noncomputable def outR (t : T) (cs : Nat → Cl) (len : Nat) (xs : Nat → Int) (n : Nat) : List R × V × Int :=
  open Classical in if TOk t = true ∧ len ≤ 1000 ∧ Good cs len then ((raceR t cs len xs n).2, (raceR t cs len xs n).1, 0) else ([], v0, 1)

def RaceOut (E : TypeId) (w : World) (o : List R × V × Int) (e : Ending) (w' : World) : Prop :=
  ∃ v, e = .returned (.tuple #[v, av o.2.1, .int .i64 o.2.2]) ∧ w'.ownsRow w.heap.size E 3 v o.1.length (ransOf o.1 o.1.length) ∧ Chg [] w w'

theorem raceR_len {t : T} {cs : Nat → Cl} {len : Nat} {xs : Nat → Int} {n : Nat} (hg : Good cs len) : (raceR t cs len xs n).2.length = len := by
  have h := ((initR_inv hg).sched (t := t) (s := (v0, initR cs len)) xs n).fin (t := t) len
  exact h.len

theorem race_any (t : T) (A : Option Addr) (len cap : Nat) (B : Option Addr) (sl sc : Nat) (w : World) (cs : Nat → Cl) (xs : Nat → Int) (hsl : sl ≤ 70368744177664) (hcs : ClsAt w A len cs) (hxs : IntsAt w B sl xs) :
    Calls Try.prog 32 #[.agg #[.int .i64 t.F, .int .i64 t.W, .int .i64 t.S], .slice A len cap, .slice B sl sc] w (RaceOut 80 w (outR t cs len xs sl)) := by
  unfold outR
  by_cases h1 : TOk t = true ∧ len ≤ 1000
  · obtain ⟨ht, hlen⟩ := h1
    refine (race_go t A len cap B sl sc w cs xs ht hlen hsl hcs hxs).mono ?_
    rintro e w' (⟨hg, v, he, ho, hv, hc⟩ | ⟨hg, he, hc⟩)
    · rw [if_pos ⟨ht, hlen, hg⟩]
      refine ⟨v, he, ?_, hc⟩
      rw [raceR_len hg]
      exact ho
    · rw [if_neg (fun h => hg h.2.2)]
      exact ⟨.slice none 0 0, he, World.ownsRow_nil _ _ _ _, hc⟩
  · rw [if_neg (fun h => h1 ⟨h.1, h.2.1⟩)]
    refine (race_terms t A len cap B sl sc w ?_).mono ?_
    · by_cases ht : TOk t = true
      · exact .inr (Nat.lt_of_not_le fun h => h1 ⟨ht, h⟩)
      · exact .inl (by simpa using ht)
    · rintro e w' ⟨he, hc⟩
      exact ⟨.slice none 0 0, he, World.ownsRow_nil _ _ _ _, hc⟩

theorem ref_any (t : T) (A : Option Addr) (len cap : Nat) (B : Option Addr) (sl sc : Nat) (w : World) (cs : Nat → Cl) (xs : Nat → Int) (hsl : sl ≤ 70368744177664) (hcs : ClsAt w A len cs) (hxs : IntsAt w B sl xs) :
    Calls Try.prog 30 #[.agg #[.int .i64 t.F, .int .i64 t.W, .int .i64 t.S], .slice A len cap, .slice B sl sc] w (RaceOut 121 w (outR t cs len xs sl)) := by
  unfold outR
  by_cases h1 : TOk t = true ∧ len ≤ 1000
  · obtain ⟨ht, hlen⟩ := h1
    refine (ref_go t A len cap B sl sc w cs xs ht hlen hsl hcs hxs).mono ?_
    rintro e w' (⟨hg, v, he, ho, hv, hc⟩ | ⟨hg, he, hc⟩)
    · rw [if_pos ⟨ht, hlen, hg⟩]
      refine ⟨v, he, ?_, hc⟩
      rw [raceR_len hg]
      exact ho
    · rw [if_neg (fun h => hg h.2.2)]
      exact ⟨.slice none 0 0, he, World.ownsRow_nil _ _ _ _, hc⟩
  · rw [if_neg (fun h => h1 ⟨h.1, h.2.1⟩)]
    refine (ref_terms t A len cap B sl sc w ?_).mono ?_
    · by_cases ht : TOk t = true
      · exact .inr (Nat.lt_of_not_le fun h => h1 ⟨ht, h⟩)
      · exact .inl (by simpa using ht)
    · rintro e w' ⟨he, hc⟩
      exact ⟨.slice none 0 0, he, World.ownsRow_nil _ _ _ _, hc⟩

theorem outR_len (t : T) (cs : Nat → Cl) (len : Nat) (xs : Nat → Int) (n : Nat) : (outR t cs len xs n).1.length ≤ 1000 := by
  unfold outR
  split
  · rename_i h
    simp only
    rw [raceR_len h.2.2]
    exact h.2.1
  · simp

/-- A call's cells. -/
def ccells (c : Cl) : List Value := [.bool c.done, .int .i64 c.of_, .bool c.ok, .int .i64 c.now]
def crow (cs : Nat → Cl) (k : Nat) : List Value := (List.range k).flatMap fun i => ccells (cs i)

theorem crow_succ (cs : Nat → Cl) (k : Nat) : crow cs (k + 1) = crow cs k ++ ccells (cs k) := by simp [crow, List.range_succ]
theorem crow_at (cs : Nat → Cl) (k i j : Nat) (hi : i < k) (hj : j < 4) : (crow cs k)[i * 4 + j]? = (ccells (cs i))[j]? :=
  flat_at (fun i => ccells (cs i)) 4 (fun _ => rfl) (List.range k) i j i (by simp [hi]) hj

/-- A row of calls, as a callee reads it. -/
theorem crow_cls {w : World} {base : Nat} {e : TypeId} {A : Option Addr} {cap len : Nat} {cs : Nat → Cl} (h : w.ownsRow base e 4 (.slice A len cap) len (crow cs len)) : ClsAt w A len cs := fun hp => by
  obtain ⟨g, cap', he, hb, hg⟩ := h.form hp
  injection he with e1 e2 e3
  subst e1 e3
  refine ⟨g, 0, rfl, hg, fun i hi => ?_⟩
  have at_ : ∀ j, j < 4 → w.cell? ⟨g, 0 + i * 4 + j, none⟩ = (ccells (cs i))[j]? := fun j hj => by
    rw [Nat.zero_add, h.cellAt (i * 4 + j) (by omega), crow_at cs len i j hi hj]
  exact ⟨at_ 0 (by omega), at_ 1 (by omega), at_ 2 (by omega), at_ 3 (by omega)⟩

theorem call_info : (Try.prog.info? 77).map (fun i => (i.zero, i.size, i.bytes)) = some (some (.agg (ccells ⟨false, 0, false, 0⟩).toArray), 4, 32) := by kernel_rfl

set_option maxRecDepth 100000 in
set_option maxHeartbeats 1000000 in
theorem calls_any (A : Option Addr) (len cap : Nat) (w : World) (cs : Nat → Cl) (hlen : len ≤ 4398046511104) (hcs : ClsAt w A len cs) :
    Calls Try.prog 31 #[.slice A len cap] w fun e w' => ∃ v, e = .returned v ∧ w'.ownsRow w.heap.size 77 4 v len (crow cs len) ∧ Chg [] w w' := by
  have HCS := Lib.hid hcs
  obtain ⟨i0, hi0, hz0, hz1, hz2⟩ := info_parts call_info
  have I0 := Lib.hid hi0
  have Z0 := Lib.hid hz0; have Z1 := Lib.hid hz1; have Z2 := Lib.hid hz2
  clear hi0 hz0 hz1 hz2 hcs
  go_enter Try.func31, Try.ntmps31
  go_wp2_with fail
  go_loopg [4, 3] len (fun gk i o wr => ∃ k : Nat, k + gk = len ∧ i = .int .i64 k ∧ wr.ownsRow w.heap.size 77 4 o k (crow cs k) ∧ Chg [] w wr)
  case atStart => exact ⟨0, by omega, rfl, World.ownsRow_nil _ _ _ _, Chg.refl _ _⟩
  case round =>
    obtain ⟨k, hk, rfl, hO, hC⟩ := hrel
    have HK := Lib.hid hk; have HO := Lib.hid hO; have HC := Lib.hid hC
    clear hk hO hC
    by_cases hlt : k < len
    · obtain ⟨b, off, rfl, hb, hcl⟩ := HCS.out (by omega)
      have hb' : b < wr.heap.size := Nat.lt_of_lt_of_le hb HC.out.size
      obtain ⟨x0, x1, x2, x3⟩ := (hcl k hlt).chg HC.out hb (by simp)
      have hkl : (k : Int) < (len : Int) := by omega
      have HOA := Lib.hid (HO.out.alloc (.cells (ccells (cs k)).toArray 77))
      have hqs : w.heap.size ≤ wr.heap.size := HC.out.size
      clear hcl
      go_wp2_with (at_builtin; refine wpList_append_own_at _ rfl (.tmp 11) (.tmp 16) _ rfl w.heap.size 77 i0 _ 4 32 Try.underlying70 I0.out Z0.out Z1.out Z2.out rfl (by omega) u3 k (crow cs k) rfl HOA.out ⟨wr.heap.size, 0, none⟩ 1 1 (ccells (cs k)) rfl rfl (cells_new_at _ _ _ _ rfl) (by simp [ccells, Value.oneCell']) (by simp only [maxLen]; omega) (by omega) (by simp; omega) ?_; intro v1 w7 hown hgrow hnil hat; have HO7 := Lib.hid hown; have HG7 := Lib.hid hgrow; clear hown hgrow hnil hat)
      go_roundg (gk - 1)
      case rel =>
        have hc7 : Chg u3.ownBlock.toList wr w7 := ((Chg.refl _ wr).alloc _).grown HG7.out (fun b hb => .inl (by simp [hb]))
        refine ⟨k + 1, by have := HK.out; omega, by go_num, ?_, HC.out.trans' hc7 (fun b hb => .inr (HO.out.lt b (by simpa using hb)).1)⟩
        rw [crow_succ]
        exact HO7.out
      case measure => have := HK.out; omega
    · obtain rfl : k = len := by have := HK.out; omega
      clear hlt
      have hkl : ¬ (k : Int) < (k : Int) := by omega
      go_wp2_with fail
      go_ret
      exact ⟨_, rfl, HO.out, HC.out⟩

/-- Two lists of what came of calls that are the same. -/
theorem rans_at (rs : List R) (i : Nat) (r : R) (hr : rs[i]? = some r) (j : Nat) (hj : j < 3) : (ransOf rs rs.length)[i * 3 + j]? = (ranCells r)[j]? := by
  unfold ransOf
  rw [List.take_length]
  exact flat_at ranCells 3 (fun _ => rfl) rs i j r hr hj

theorem rans_cells {w : World} {base : Nat} {e : TypeId} {v : Value} {rs : List R} (h : w.ownsRow base e 3 v rs.length (ransOf rs rs.length)) {i : Nat} {r : R} (hr : rs[i]? = some r) :
    ∃ g cap, v = .slice (some ⟨g, 0, none⟩) rs.length cap ∧ g < w.heap.size ∧ w.cell? ⟨g, i * 3, none⟩ = some (.int .i64 r.rp) ∧ w.cell? ⟨g, i * 3 + 1, none⟩ = some (.int .i64 r.rc) ∧ w.cell? ⟨g, i * 3 + 2, none⟩ = some (.int .i64 r.rt) := by
  have hi : i < rs.length := (List.getElem?_eq_some_iff.1 hr).1
  obtain ⟨g, cap, rfl, _, hg⟩ := h.form (by omega)
  have at_ : ∀ j, j < 3 → w.cell? ⟨g, i * 3 + j, none⟩ = (ranCells r)[j]? := fun j hj => by
    rw [h.cellAt (i * 3 + j) (by omega)]
    exact rans_at rs i r hr j hj
  exact ⟨g, cap, rfl, hg, at_ 0 (by omega), at_ 1 (by omega), at_ 2 (by omega)⟩

set_option maxRecDepth 100000 in
set_option maxHeartbeats 1000000 in
theorem same_any (w : World) (b1 b2 : Nat) (v1 v2 : Value) (rs : List R) (hlen : rs.length ≤ 4398046511104) (h1 : w.ownsRow b1 80 3 v1 rs.length (ransOf rs rs.length)) (h2 : w.ownsRow b2 121 3 v2 rs.length (ransOf rs rs.length)) :
    Calls Try.prog 33 #[v1, v2] w fun e w' => e = .returned (.bool true) ∧ ∃ n, w' = w.drewN n := by
  obtain ⟨A1, cap1, rfl⟩ := own_slice h1
  obtain ⟨A2, cap2, rfl⟩ := own_slice h2
  have H1 := Lib.hid h1; have H2 := Lib.hid h2
  clear h1 h2
  go_enter Try.func33, Try.ntmps33
  go_wp2_with fail
  go_loopg [5] rs.length (fun gk i wr => ∃ k n : Nat, k + gk = rs.length ∧ i = .int .i64 k ∧ wr = w.drewN n)
  case atStart => exact ⟨0, 0, by omega, rfl, rfl⟩
  case round =>
    obtain ⟨k, n, hk, rfl, rfl⟩ := hrel
    have HK := Lib.hid hk
    clear hk
    by_cases hlt : k < rs.length
    · have hr : rs[k]? = some rs[k] := List.getElem?_eq_getElem hlt
      obtain ⟨g1, c1, e1, l1, x0, x1, x2⟩ := rans_cells H1.out hr
      obtain ⟨g2, c2, e2, l2, y0, y1, y2⟩ := rans_cells H2.out hr
      injection e1 with e1 _ e1'
      injection e2 with e2 _ e2'
      subst e1 e2 e1' e2'
      generalize rs[k] = r at *
      clear hr
      have hkl : (k : Int) < (rs.length : Int) := by omega
      have q0 : (r.rp != r.rp) = false := by simp
      have q1 : (r.rc != r.rc) = false := by simp
      have q2 : (r.rt != r.rt) = false := by simp
      go_wp2_with fail
      go_quiet (fail)
      go_wp2_with fail
      go_roundg (gk - 1)
      case rel => exact ⟨k + 1, _, by have := HK.out; omega, by go_num, rfl⟩
      case measure => have := HK.out; omega
    · have hkl : ¬ (k : Int) < (rs.length : Int) := by omega
      go_wp2_with fail
      go_ret
      exact ⟨rfl, _, rfl⟩

theorem crow_len (cs : Nat → Cl) (k : Nat) : (crow cs k).length = k * 4 := by
  induction k with
  | zero => rfl
  | succ k ih => rw [crow_succ, List.length_append, ih]; show k * 4 + 4 = (k + 1) * 4; omega

theorem crow_set {f f' : Nat → Cl} {len k j : Nat} {u : Value} (hk : k < len) (hj : j < 4) (hf : ∀ i, i ≠ k → f' i = f i) (hu : ccells (f' k) = (ccells (f k)).set j u) : (crow f len).set (k * 4 + j) u = crow f' len := by
  apply List.ext_getElem?
  intro n
  by_cases hn : n < len * 4
  · have hi : n / 4 < len := by omega
    have hm : n % 4 < 4 := Nat.mod_lt _ (by omega)
    have e : n = n / 4 * 4 + n % 4 := by omega
    by_cases hnk : n = k * 4 + j
    · subst hnk
      rw [List.getElem?_set_self (by rw [crow_len]; exact hn), crow_at f' len k j hk hj, hu, List.getElem?_set_self (by simpa [ccells] using hj)]
    · rw [List.getElem?_set_ne (Ne.symm hnk), e, crow_at f len _ _ hi hm, crow_at f' len _ _ hi hm]
      by_cases hik : n / 4 = k
      · rw [hik, hu, List.getElem?_set_ne (by omega)]
      · rw [hf _ hik]
  · rw [List.getElem?_eq_none (by rw [List.length_set, crow_len]; omega), List.getElem?_eq_none (by rw [crow_len]; omega)]

theorem own_apart {w : World} {base base' : Nat} {e e' : TypeId} {size size' n n' : Nat} {v v' : Value} {xs xs' : List Value} (h : w.ownsRow base e size v n xs) (h' : w.ownsRow base' e' size' v' n' xs') (hne : e ≠ e') : ∀ k, v.ownBlock = some k → k ∉ v'.ownBlock.toList := fun k hk hm => by
  rcases own_own_ne h h' hne with h1 | h1
  · rw [h1] at hk; cases hk
  · exact h1 (by rw [hk]; exact (by simpa using hm : v'.ownBlock = some k).symm)

theorem own_not {w : World} {base : Nat} {e : TypeId} {size n : Nat} {v : Value} {xs : List Value} {g : Nat} {t : TypeId} {cs : Array Value} (h : w.ownsRow base e size v n xs) (hg : Blk w g t cs) (hne : e ≠ t) : g ∉ v.ownBlock.toList := fun hm =>
  own_blk_ne h hg hne (by simpa using hm)

theorem rcall_info : (Try.prog.info? 78).map (fun i => (i.zero, i.size, i.bytes)) = some (some (.agg (ccells ⟨false, 0, false, 0⟩).toArray), 4, 32) := by kernel_rfl
def flip (c : Cl) : Cl := { c with ok := !c.ok }
def part (f g : Nat → Cl) (k : Nat) : Nat → Cl := fun i => if i < k then g i else f i

def stir (xs : Nat → Int) : Nat → Int := fun i => wrap64 (xs i + (i : Int) % 3)
def partI (f g : Nat → Int) (k : Nat) : Nat → Int := fun i => if i < k then g i else f i
end Go.Proofs.Ythbeednmekajaaa
