import Derived.Test.YthbeednmekajaaaRaq8
import Derived.Test.YthbeednmekajaaaRace6
namespace Go.Proofs.Ythbeednmekajaaa
open Go.RowKit

/-- A call of the document's about to begin. -/
def q0 (c : Cl) : Q := ⟨c.done, c.of_, c.ok, c.now, false, v0, v0, 0, 0, 0, false⟩
def initQ (cs : Nat → Cl) (k : Nat) : List Q := (List.range k).map fun i => q0 (cs i)

theorem initQ_len (cs : Nat → Cl) (k : Nat) : (initQ cs k).length = k := by simp [initQ]
theorem initQ_at (cs : Nat → Cl) (k i : Nat) (hi : i < k) : (initQ cs k)[i]? = some (q0 (cs i)) := by simp [initQ, hi]
theorem initQ_succ (cs : Nat → Cl) (k : Nat) : initQ cs (k + 1) = initQ cs k ++ [q0 (cs k)] := by simp [initQ, List.range_succ]

theorem flat_at {α : Type} (f : α → List Value) (m : Nat) (hf : ∀ a, (f a).length = m) : ∀ (l : List α) (i k : Nat) (a : α), l[i]? = some a → k < m → (l.flatMap f)[i * m + k]? = (f a)[k]?
  | [], i, k, a, h, _ => by simp at h
  | x :: l, 0, k, a, h, hk => by
    simp at h
    subst h
    rw [List.flatMap_cons, Nat.zero_mul, Nat.zero_add, List.getElem?_append_left (by rw [hf]; exact hk)]
  | x :: l, i + 1, k, a, h, hk => by
    have h' : l[i]? = some a := by simpa using h
    rw [List.flatMap_cons, List.getElem?_append_right (by rw [hf, Nat.add_mul]; omega), hf]
    have e : (i + 1) * m + k - m = i * m + k := by rw [Nat.add_mul]; omega
    rw [e]
    exact flat_at f m hf l i k a h' hk

theorem init_sims (t : T) (cs : Nat → Cl) (len : Nat) : Sims t (initR cs len) (initQ cs len) := by
  refine ⟨by simp [initR, initQ], fun i r q hr hq => ?_⟩
  have hi : i < len := by have := (List.getElem?_eq_some_iff.1 hr).1; simpa [initR] using this
  rw [initR_at cs len i hi] at hr
  rw [initQ_at cs len i hi] at hq
  injection hr with hr
  injection hq with hq
  subst hr hq
  exact ⟨rfl, rfl, rfl, rfl, rfl, rfl, rfl, (fun h => nomatch h), (fun h => nomatch h), (fun h => nomatch h), fun _ => ⟨rfl, rfl⟩, fun _ => rfl⟩

/-- The rows that were appended, as a race. -/
theorem race_made {w : World} {x base : Nat} {t : T} {cs : Nat → Cl} {len : Nat} {sv : Value} (hb : Blk w x 120 #[.int .i64 t.F, .int .i64 t.W, .int .i64 t.S, .int .u8 v0.st, .int .i64 v0.turn, .int .i64 v0.fails, .int .i64 v0.at_, sv])
    (ho : w.ownsRow base 123 17 sv len ((initQ cs len).flatMap qcells)) (hz : len = 0 → sv = .slice none 0 0) (ht : TOk t = true) (hg : Good cs len) (y : Nat) (hy : y < w.heap.size) (hxy : x ≠ y) :
    ∃ g cap, QRace w x g cap t v0 (initQ cs len) ∧ (len = 0 → g = y) ∧ (0 < len → base ≤ g) := by
  by_cases hl : len = 0
  · subst hl
    rw [hz rfl] at hb
    exact ⟨y, 0, ⟨by simpa [initQ] using hb, hy, hxy, ht, v0_ok, fun i q h => by simp [initQ] at h⟩, fun _ => rfl, fun h => absurd h (by omega)⟩
  · obtain ⟨g, cap, rfl, hbg, hgl⟩ := ho.form (by omega)
    have hne := own_blk_ne ho hb (by decide)
    refine ⟨g, cap, ⟨?_, hgl, fun e => hne (by subst e; rfl), ht, v0_ok, fun i q hq => ?_⟩, fun h => absurd h hl, fun _ => hbg⟩
    · rw [initQ_len, if_neg hl]; exact hb
    · have hi : i < len := by have := (List.getElem?_eq_some_iff.1 hq).1; rwa [initQ_len] at this
      have hq' := hq
      rw [initQ_at cs len i hi] at hq
      injection hq with hq
      subst hq
      refine ⟨fun k u hk => ?_, ho.frozenAt, v0_ok, v0_ok, goodAt_tick (hg i hi)⟩
      have hk17 : k < 17 := by
        have := (List.getElem?_eq_some_iff.1 hk).1
        simpa [qcells] using this
      rw [ho.cellAt (i * 17 + k) (by omega), flat_at qcells 17 (fun _ => rfl) _ i k _ hq' hk17]
      exact hk

/-- What a race shows of a call. -/
theorem RaceS.seen {w : World} {x g cap : Nat} {t : T} {s : V × List R} {cs : Nat → Cl} {len : Nat} {m : Int} (h : RaceS w x g cap t s) (hI : Inv cs len m s.2) {n : Nat} {r : R} (hr : s.2[n]? = some r) :
    w.cell? ⟨x, 7, none⟩ = some (.slice (some ⟨g, 0, none⟩) len cap) ∧ w.cell? ⟨g, n * 17 + 16, none⟩ = some (.bool r.over) ∧ (r.over = true → w.cell? ⟨g, n * 17 + 13, none⟩ = some (.int .i64 r.rp) ∧ w.cell? ⟨g, n * 17 + 14, none⟩ = some (.int .i64 r.rc) ∧ w.cell? ⟨g, n * 17 + 15, none⟩ = some (.int .i64 r.rt)) := by
  obtain ⟨qs, hQ, hS⟩ := h
  have hl : qs.length = len := by rw [← hS.len]; exact hI.len
  have hn : n < qs.length := by have := (List.getElem?_eq_some_iff.1 hr).1; rw [hS.len] at this; exact this
  have hq : qs[n]? = some qs[n] := List.getElem?_eq_getElem hn
  have hs := hS.all n r _ hr hq
  obtain ⟨r7, hA, -, -⟩ := hQ.seen hq
  rw [hl] at r7
  refine ⟨r7, ?_, fun ho => ?_⟩
  · rw [hs.over]; exact hA.c 16 _ rfl
  · obtain ⟨e1, e2⟩ := hs.ov ho
    rw [e1, e2, hs.rt]
    exact ⟨hA.c 13 _ rfl, hA.c 14 _ rfl, hA.c 15 _ rfl⟩

theorem RaceS.chg {w w' : World} {x g cap : Nat} {t : T} {s : V × List R} {S : List Nat} (h : RaceS w x g cap t s) (hc : Chg S w w') (hx : x ∉ S) (hg : g ∉ S) : RaceS w' x g cap t s := by
  obtain ⟨qs, hQ, hS⟩ := h
  exact ⟨qs, hQ.chg hc hx hg, hS⟩

theorem own_drew {w : World} {base : Nat} {e : TypeId} {size n : Nat} {v : Value} {xs : List Value} (h : w.ownsRow base e size v n xs) : w.drew.ownsRow base e size v n xs := h
theorem news_drew_at (w : World) (l : List Value) (t : TypeId) (g : Nat) (h : g = w.heap.size) : ∀ j u, l[j]? = some u → ((w.alloc (.cells l.toArray t)).drew).cell? ((⟨g, 0, none⟩ : Addr).add j) = some u := cells_new_at w l t g h
end Go.Proofs.Ythbeednmekajaaa
