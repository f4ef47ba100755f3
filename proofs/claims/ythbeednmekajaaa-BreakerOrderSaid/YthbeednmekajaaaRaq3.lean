import Derived.Test.YthbeednmekajaaaRaq2
namespace Go.Proofs.Ythbeednmekajaaa
open Go.RowKit

/-- Whom a call waits for, as the document keeps it; p is that one's pass. -/
def QWaits (qs : List Q) (q : Q) (p : Int) : Prop := (q.done = false) ∨ ∃ (k : Nat) (o : Q), q.done = true ∧ q.of_ = k ∧ qs[k]? = some o ∧ p = o.pass

theorem does_any (w : World) (x g cap : Nat) (t : T) (v : V) (c : V) (qs : List Q) (i : Nat) (q : Q) (p : Int) (hQ : QRace w x g cap t v qs) (hi : qs[i]? = some q) (hw : QWaits qs q p) (hc : VOk c) (hcap : qs.length ≤ 8796093022208) :
    Calls Try.prog 60 #[.pointer (some ⟨x, 0, none⟩), .int .i64 i, .agg #[.int .u8 c.st, .int .i64 c.turn, .int .i64 c.fails, .int .i64 c.at_]] w (DoesPost w (doesQ t c q p) q.tries) := by
  rcases hw with hd | ⟨k, o, hd, hof, ho, rfl⟩
  · exact does_allow w x g cap t v c qs i q hQ hi hd hc hcap p
  · exact does_done w x g cap t v c qs i q hQ hi hd k o hof ho hc hcap

/-- What a step of the document's leaves. -/
def QPost (w : World) (x g cap : Nat) (t : T) (s : V × List Q) (e : Ending) (w' : World) : Prop := (∃ b, e = .returned (.bool b)) ∧ QRace w' x g cap t s.1 s.2 ∧ Chg [x, g] w w'

set_option maxRecDepth 100000 in
set_option maxHeartbeats 1000000 in
theorem qstep_out (w : World) (x g cap : Nat) (t : T) (v : V) (qs : List Q) (i : Int) (hQ : QRace w x g cap t v qs) (hi : i < 0 ∨ (qs.length : Int) ≤ i) :
    Calls Try.prog 47 #[.pointer (some ⟨x, 0, none⟩), .int .i64 i] w (QPost w x g cap t (v, qs)) := by
  have hb := hQ.blk
  have HQ := Lib.hid hQ
  clear hQ
  rcases hi with hi | hi
  · clear hb
    go_enter Try.func47, Try.ntmps47
    go_wp2_with fail
    go_ret
    exact ⟨⟨_, rfl⟩, HQ.out, Chg.refl _ _⟩
  · have hi0 : ¬ i < 0 := by omega
    by_cases hz : qs.length = 0
    · rw [if_pos hz] at hb
      have r7 := hb.cell 7
      simp at r7
      clear hb hz
      have hi1 : (0 : Int) ≤ i := by omega
      go_enter Try.func47, Try.ntmps47
      go_wp2_with fail
      go_ret
      exact ⟨⟨_, rfl⟩, HQ.out, Chg.refl _ _⟩
    · rw [if_neg hz] at hb
      have r7 := hb.cell 7
      simp at r7
      clear hb hz
      go_enter Try.func47, Try.ntmps47
      go_wp2_with fail
      go_ret
      exact ⟨⟨_, rfl⟩, HQ.out, Chg.refl _ _⟩

/-- The cells that every step reads. -/
theorem QRace.seen {w : World} {x g cap : Nat} {t : T} {v : V} {qs : List Q} (h : QRace w x g cap t v qs) {i : Nat} {q : Q} (hi : qs[i]? = some q) :
    w.cell? ⟨x, 7, none⟩ = some (.slice (some ⟨g, 0, none⟩) qs.length cap) ∧ QAt w g (i * 17) q ∧ (i : Int) < (qs.length : Int) ∧ i < qs.length := by
  have hlt : i < qs.length := (List.getElem?_eq_some_iff.1 hi).1
  have hb := h.blk
  rw [if_neg (by omega)] at hb
  have r7 := hb.cell 7
  simp at r7
  exact ⟨r7, h.at_ i q hi, by omega, hlt⟩

set_option maxRecDepth 100000 in
set_option maxHeartbeats 1000000 in
theorem qstep_over (w : World) (x g cap : Nat) (t : T) (v : V) (qs : List Q) (i : Nat) (q : Q) (hQ : QRace w x g cap t v qs) (hi : qs[i]? = some q) (hov : q.over = true) :
    Calls Try.prog 47 #[.pointer (some ⟨x, 0, none⟩), .int .i64 i] w (QPost w x g cap t (v, qs)) := by
  obtain ⟨r7, hA, hl, hl'⟩ := hQ.seen hi
  have c16 := hA.c 16 _ rfl
  rw [hov] at c16
  have HQ := Lib.hid hQ
  clear hQ hA hi hov
  go_enter Try.func47, Try.ntmps47
  go_wp2_with fail
  go_ret
  exact ⟨⟨_, rfl⟩, HQ.out, Chg.refl _ _⟩

set_option maxRecDepth 100000 in
set_option maxHeartbeats 1000000 in
theorem qstep_wait (w : World) (x g cap : Nat) (t : T) (v : V) (qs : List Q) (i k : Nat) (q o : Q) (hQ : QRace w x g cap t v qs) (hi : qs[i]? = some q) (hov : q.over = false) (hd : q.done = true) (hof : q.of_ = k) (ho : qs[k]? = some o) (hoo : o.over = false) :
    Calls Try.prog 47 #[.pointer (some ⟨x, 0, none⟩), .int .i64 i] w (QPost w x g cap t (v, qs)) := by
  obtain ⟨r7, hA, hl, hl'⟩ := hQ.seen hi
  obtain ⟨-, hO, hk, hk'⟩ := hQ.seen ho
  have c0 := hA.c 0 _ rfl
  have c1 := hA.c 1 _ rfl
  have c2 := hA.c 2 _ rfl
  have c3 := hA.c 3 _ rfl
  have c16 := hA.c 16 _ rfl
  have o16 := hO.c 16 _ rfl
  rw [hov] at c16
  rw [hd] at c0
  rw [hof] at c1
  rw [hoo] at o16
  simp only [Nat.add_zero] at c0
  have hx := hQ.blk.lt
  have hg := hA.lt
  have hx1 : x < w.heap.size + 1 := by omega
  have hg1 : g < w.heap.size + 1 := by omega
  have HQ := Lib.hid hQ
  clear hQ hA hO hi ho hov hd hof hoo
  go_enter Try.func47, Try.ntmps47
  go_wp2_with fail
  go_region
  all_goals go_wp2_with fail
  all_goals go_ret
  all_goals exact ⟨⟨_, rfl⟩, HQ.out.chg (S := []) (((Chg.refl _ _).alloc _).drew) (by simp) (by simp), ((Chg.refl _ _).alloc _).drew⟩

/-- One call and the race's cell on their way through a step. -/
structure QW (w0 w : World) (x g cap : Nat) (t : T) (v : V) (n i : Nat) (q : Q) : Prop where
  only : OnlyQ x g (i * 17) w0 w
  blk : Blk w x 120 #[.int .i64 t.F, .int .i64 t.W, .int .i64 t.S, .int .u8 v.st, .int .i64 v.turn, .int .i64 v.fails, .int .i64 v.at_, .slice (some ⟨g, 0, none⟩) n cap]
  at_ : QAt w g (i * 17) q
  ne : x ≠ g

namespace QW
variable {w0 w w' : World} {x g cap : Nat} {t : T} {v : V} {n i : Nat} {q q' : Q}
theorem start {qs : List Q} (h : QRace w x g cap t v qs) (hi : qs[i]? = some q) : QW w w x g cap t v qs.length i q := by
  have hb := h.blk
  rw [if_neg (by have := (List.getElem?_eq_some_iff.1 hi).1; omega)] at hb
  exact ⟨OnlyQ.refl _ _ _ _, hb, h.at_ i q hi, h.ne⟩
theorem later (h : QW w0 w x g cap t v n i q) (hg : g < w0.heap.size) (hc : Chg [] w w') : QW w0 w' x g cap t v n i q :=
  ⟨h.only.later hg hc, h.blk.chg hc (by simp), h.at_.chg hc (by simp), h.ne⟩
theorem run (h : QW w0 w x g cap t v n i q) (k : Nat) (u : Value) (hk : k < 17) (e : qcells q' = (qcells q).set k u) (ho : VOk q'.old) (hn : VOk q'.next) (ht : tickB q'.now = true) : QW w0 (w.setCell ⟨g, i * 17 + k, none⟩ u) x g cap t v n i q' :=
  ⟨h.only.run k hk u, h.blk.far (p := ⟨g, i * 17 + k, none⟩) h.ne u, h.at_.set k u hk e ho hn ht, h.ne⟩
theorem cell (h : QW w0 w x g cap t v n i q) (v' : V) : QW w0 ((((w.setCell ⟨x, 3, none⟩ (.int .u8 v'.st)).setCell ⟨x, 4, none⟩ (.int .i64 v'.turn)).setCell ⟨x, 5, none⟩ (.int .i64 v'.fails)).setCell ⟨x, 6, none⟩ (.int .i64 v'.at_)) x g cap t v' n i q := by
  have hc : Chg [x] w ((((w.setCell ⟨x, 3, none⟩ (.int .u8 v'.st)).setCell ⟨x, 4, none⟩ (.int .i64 v'.turn)).setCell ⟨x, 5, none⟩ (.int .i64 v'.fails)).setCell ⟨x, 6, none⟩ (.int .i64 v'.at_)) :=
    ((((Chg.refl _ _).setCell (.inl (by simp)) _).setCell (.inl (by simp)) _).setCell (.inl (by simp)) _).setCell (.inl (by simp)) _
  refine ⟨(((h.only.far (p := ⟨x, 3, none⟩) (.inl rfl) h.ne _).far (p := ⟨x, 4, none⟩) (.inl rfl) h.ne _).far (p := ⟨x, 5, none⟩) (.inl rfl) h.ne _).far (p := ⟨x, 6, none⟩) (.inl rfl) h.ne _, ?_, h.at_.chg hc (by simp; exact fun e => h.ne e.symm), h.ne⟩
  exact (((h.blk.set_ 3 _).set_ 4 _).set_ 5 _).set_ 6 _
/-- Four cells of a call, one behind the other. -/
theorem four (h : QW w0 w x g cap t v n i q) (k : Nat) (a b c d : Value) (hk : k + 3 < 17) (e : qcells q' = ((((qcells q).set k a).set (k + 1) b).set (k + 2) c).set (k + 3) d) (ho : VOk q'.old) (hn : VOk q'.next) (ht : tickB q'.now = true) :
    QW w0 ((((w.setCell ⟨g, i * 17 + k, none⟩ a).setCell ⟨g, i * 17 + k + 1, none⟩ b).setCell ⟨g, i * 17 + k + 2, none⟩ c).setCell ⟨g, i * 17 + k + 3, none⟩ d) x g cap t v n i q' := by
  refine ⟨(((h.only.run k (by omega) a).run (k + 1) (by omega) b).run (k + 2) (by omega) c).run (k + 3) (by omega) d, ?_, ?_, h.ne⟩
  · exact (((h.blk.far (p := ⟨g, i * 17 + k, none⟩) h.ne a).far (p := ⟨g, i * 17 + k + 1, none⟩) h.ne b).far (p := ⟨g, i * 17 + k + 2, none⟩) h.ne c).far (p := ⟨g, i * 17 + k + 3, none⟩) h.ne d
  · have hf : ∀ (w : World) (l : List Value) (j : Nat) (u : Value), l.length = 17 → j < 17 → (∀ k u, l[k]? = some u → w.cell? ⟨g, i * 17 + k, none⟩ = some u) → (∀ k y, (l.set j u)[k]? = some y → (w.setCell ⟨g, i * 17 + j, none⟩ u).cell? ⟨g, i * 17 + k, none⟩ = some y) := by
      intro w l j u hl hj hw k y hy
      by_cases hjk : j = k
      · subst hjk
        rw [List.getElem?_set_self (by omega)] at hy
        injection hy with hy
        subst hy
        obtain ⟨z, hz⟩ : ∃ z, l[j]? = some z := ⟨_, List.getElem?_eq_getElem (by omega)⟩
        exact World.cell?_setCell_same _ _ _ (hw j z hz)
      · rw [List.getElem?_set_ne hjk] at hy
        rw [World.cell?_setCell_other _ _ _ _ (by intro e1; injection e1 with _ e2; omega)]
        exact hw k y hy
    have hl : (qcells q).length = 17 := rfl
    refine ⟨?_, fun j => by rw [World.frozen?_setCell, World.frozen?_setCell, World.frozen?_setCell, World.frozen?_setCell]; exact h.at_.f j, ho, hn, ht⟩
    rw [e]
    exact hf _ _ (k + 3) d (by simp [hl]) (by omega) (hf _ _ (k + 2) c (by simp [hl]) (by omega) (hf _ _ (k + 1) b (by simp [hl]) (by omega) (hf _ _ k a hl (by omega) h.at_.c)))
theorem old (h : QW w0 w x g cap t v n i q) (z : V) (hz : VOk z) : QW w0 ((((w.setCell ⟨g, i * 17 + 5, none⟩ (.int .u8 z.st)).setCell ⟨g, i * 17 + 5 + 1, none⟩ (.int .i64 z.turn)).setCell ⟨g, i * 17 + 5 + 2, none⟩ (.int .i64 z.fails)).setCell ⟨g, i * 17 + 5 + 3, none⟩ (.int .i64 z.at_)) x g cap t v n i { q with old := z } :=
  h.four 5 _ _ _ _ (by omega) rfl hz h.at_.next h.at_.now
theorem nxt (h : QW w0 w x g cap t v n i q) (z : V) (hz : VOk z) : QW w0 ((((w.setCell ⟨g, i * 17 + 9, none⟩ (.int .u8 z.st)).setCell ⟨g, i * 17 + 9 + 1, none⟩ (.int .i64 z.turn)).setCell ⟨g, i * 17 + 9 + 2, none⟩ (.int .i64 z.fails)).setCell ⟨g, i * 17 + 9 + 3, none⟩ (.int .i64 z.at_)) x g cap t v n i { q with next := z } :=
  h.four 9 _ _ _ _ (by omega) rfl h.at_.old hz h.at_.now
theorem close {qs : List Q} {v' : V} (h : QW w0 w x g cap t v' qs.length i q') (h0 : QRace w0 x g cap t v qs) (hi : qs[i]? = some q) (hv : VOk v') : QRace w x g cap t v' (qs.set i q') :=
  h0.turn ((List.getElem?_eq_some_iff.1 hi).1) h.only h.blk hv h.at_
end QW
end Go.Proofs.Ythbeednmekajaaa
