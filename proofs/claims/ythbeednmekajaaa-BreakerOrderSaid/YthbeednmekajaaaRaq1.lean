import Derived.Test.YthbeednmekajaaaRace5
import Derived.Test.YthbeednmekajaaaSer2
import Derived.Deep.RegionWith
import Derived.Deep.RegionHeld3
import Derived.Deep.CutRange
namespace Go.Proofs.Ythbeednmekajaaa
open Go.RowKit

/-- The document's call under way, cell by cell. -/
def qcells (q : Q) : List Value := [.bool q.done, .int .i64 q.of_, .bool q.ok, .int .i64 q.now, .bool q.read,
  .int .u8 q.old.st, .int .i64 q.old.turn, .int .i64 q.old.fails, .int .i64 q.old.at_, .int .u8 q.next.st, .int .i64 q.next.turn, .int .i64 q.next.fails, .int .i64 q.next.at_,
  .int .i64 q.pass, .int .i64 q.code, .int .i64 q.tries, .bool q.over]

structure QAt (w : World) (g o : Nat) (q : Q) : Prop where
  c : ∀ k u, (qcells q)[k]? = some u → w.cell? ⟨g, o + k, none⟩ = some u
  f : ∀ k, w.frozen? ⟨g, k, none⟩ = false
  old : VOk q.old
  next : VOk q.next
  now : tickB q.now = true

theorem QAt.lt {w : World} {g o : Nat} {q : Q} (h : QAt w g o q) : g < w.heap.size := World.block_lt_of_cell? w ⟨g, o, none⟩ (h.c 0 _ rfl)
theorem QAt.chg {w w' : World} {S : List Nat} {g o : Nat} {q : Q} (h : QAt w g o q) (hc : Chg S w w') (hn : g ∉ S) : QAt w' g o q :=
  ⟨fun j x hx => (hc.cell (p := ⟨g, o + j, none⟩) h.lt hn).trans (h.c j x hx), fun j => (hc.frozen (p := ⟨g, j, none⟩) h.lt hn).trans (h.f j), h.old, h.next, h.now⟩

theorem QAt.set {w : World} {g o : Nat} {q q' : Q} (h : QAt w g o q) (k : Nat) (u : Value) (hk : k < 17) (e : qcells q' = (qcells q).set k u) (ho : VOk q'.old) (hn : VOk q'.next) (ht : tickB q'.now = true) : QAt (w.setCell ⟨g, o + k, none⟩ u) g o q' :=
  ⟨fun j x hx => by
    rw [e] at hx
    by_cases hj : k = j
    · subst hj
      rw [List.getElem?_set_self (by simp [qcells]; omega)] at hx
      injection hx with hx
      subst hx
      obtain ⟨y, hy⟩ : ∃ y, (qcells q)[k]? = some y := ⟨_, List.getElem?_eq_getElem (by simp [qcells]; omega)⟩
      exact World.cell?_setCell_same _ _ _ (h.c k y hy)
    · rw [List.getElem?_set_ne hj] at hx
      rw [World.cell?_setCell_other _ _ _ _ (by intro e1; injection e1 with _ e2; omega)]
      exact h.c j x hx,
    fun j => by rw [World.frozen?_setCell]; exact h.f j, ho, hn, ht⟩

/-- The calls of a race, as the document keeps them: at x the race, at g its calls. -/
structure QRace (w : World) (x g cap : Nat) (t : T) (v : V) (qs : List Q) : Prop where
  blk : Blk w x 120 #[.int .i64 t.F, .int .i64 t.W, .int .i64 t.S, .int .u8 v.st, .int .i64 v.turn, .int .i64 v.fails, .int .i64 v.at_, if qs.length = 0 then .slice none 0 0 else .slice (some ⟨g, 0, none⟩) qs.length cap]
  lt : g < w.heap.size
  ne : x ≠ g
  tok : TOk t = true
  vok : VOk v
  at_ : ∀ (i : Nat) (q : Q), qs[i]? = some q → QAt w g (i * 17) q

theorem QRace.chg {w w' : World} {S : List Nat} {x g cap : Nat} {t : T} {v : V} {qs : List Q} (h : QRace w x g cap t v qs) (hc : Chg S w w') (hx : x ∉ S) (hg : g ∉ S) : QRace w' x g cap t v qs :=
  ⟨h.blk.chg hc hx, Nat.lt_of_lt_of_le h.lt hc.size, h.ne, h.tok, h.vok, fun i q hq => (h.at_ i q hq).chg hc hg⟩

/-- Only the cells of g from o on. -/
structure OnlyQ (x g o : Nat) (w w' : World) : Prop where
  c : Chg [x, g] w w'
  k : ∀ k, (k < o ∨ o + 17 ≤ k) → w'.cell? ⟨g, k, none⟩ = w.cell? ⟨g, k, none⟩
theorem OnlyQ.refl (x g o : Nat) (w : World) : OnlyQ x g o w w := ⟨Chg.refl _ _, fun _ _ => rfl⟩
theorem OnlyQ.run {x g o : Nat} {w w' : World} (h : OnlyQ x g o w w') (j : Nat) (hj : j < 17) (u : Value) : OnlyQ x g o w (w'.setCell ⟨g, o + j, none⟩ u) :=
  ⟨h.c.setCell (.inl (by simp)) u, fun k hk => by rw [World.cell?_setCell_other _ _ _ _ (by intro e; injection e with _ e2; omega)]; exact h.k k hk⟩
theorem OnlyQ.far {x g o : Nat} {w w' : World} (h : OnlyQ x g o w w') {p : Addr} (hp : p.block = x ∨ w.heap.size ≤ p.block) (hg : p.block ≠ g) (u : Value) : OnlyQ x g o w (w'.setCell p u) :=
  ⟨h.c.setCell (hp.imp (fun e => by simp [e]) id) u, fun k hk => by rw [World.cell?_setCell_other _ _ _ _ (by rintro rfl; exact hg rfl)]; exact h.k k hk⟩
theorem OnlyQ.later {x g o : Nat} {w w' w'' : World} (h : OnlyQ x g o w w') (hg : g < w.heap.size) (hc : Chg [] w' w'') : OnlyQ x g o w w'' :=
  ⟨h.c.trans (hc.mono (by simp)), fun k hk => (hc.cell (p := ⟨g, k, none⟩) (Nat.lt_of_lt_of_le hg h.c.size) (by simp)).trans (h.k k hk)⟩

theorem QRace.turn {w w' : World} {x g cap : Nat} {t : T} {v v' : V} {qs : List Q} (h : QRace w x g cap t v qs) {i : Nat} {q' : Q} (hi : i < qs.length) (ho : OnlyQ x g (i * 17) w w')
    (hb : Blk w' x 120 #[.int .i64 t.F, .int .i64 t.W, .int .i64 t.S, .int .u8 v'.st, .int .i64 v'.turn, .int .i64 v'.fails, .int .i64 v'.at_, .slice (some ⟨g, 0, none⟩) qs.length cap]) (hv : VOk v') (hr : QAt w' g (i * 17) q') : QRace w' x g cap t v' (qs.set i q') := by
  refine ⟨by rw [List.length_set, if_neg (by omega)]; exact hb, Nat.lt_of_lt_of_le h.lt ho.c.size, h.ne, h.tok, hv, fun k y hy => ?_⟩
  by_cases hk : i = k
  · subst hk
    rw [List.getElem?_set_self hi] at hy
    injection hy with hy
    subst hy
    exact hr
  · rw [List.getElem?_set_ne hk] at hy
    have hy := h.at_ k y hy
    exact ⟨fun j u hj => by
      have hlt : j < 17 := by
        have := (List.getElem?_eq_some_iff.1 hj).1
        simpa [qcells] using this
      rw [ho.k (k * 17 + j) (by omega)]
      exact hy.c j u hj, hr.f, hy.old, hy.next, hy.now⟩

/-- Five new blocks: what lies where. -/
theorem five_new (w : World) (t0 t1 t2 t3 t4 : TypeId) (c0 c1 c2 c3 c4 : Array Value) : ∃ w5, w5 = ((((w.alloc (.cells c0 t0)).alloc (.cells c1 t1)).alloc (.cells c2 t2)).alloc (.cells c3 t3)).alloc (.cells c4 t4) ∧
    Blk w5 w.heap.size t0 c0 ∧ Blk w5 (w.heap.size + 1) t1 c1 ∧ Blk w5 (w.heap.size + 1 + 1) t2 c2 ∧ Blk w5 (w.heap.size + 1 + 1 + 1) t3 c3 ∧ Blk w5 (w.heap.size + 1 + 1 + 1 + 1) t4 c4 ∧ Chg [] w w5 ∧ w5.heap.size = w.heap.size + 1 + 1 + 1 + 1 + 1 := by
  refine ⟨_, rfl, ?_, ?_, ?_, ?_, ?_, ?_, ?_⟩
  · exact ((((Blk.new w _ _).alloc _).alloc _).alloc _).alloc _
  · exact (((Blk.new' _ _ _ _ (by simp)).alloc _).alloc _).alloc _
  · exact ((Blk.new' _ _ _ _ (by simp)).alloc _).alloc _
  · exact (Blk.new' _ _ _ _ (by simp)).alloc _
  · exact Blk.new' _ _ _ _ (by simp)
  · exact (((((Chg.refl _ _).alloc _).alloc _).alloc _).alloc _).alloc _
  · simp

theorem far4 {w : World} {g : Nat} {p : Addr} {a b c d : Value} (h : ¬ p.block = g) : ((((w.setCell ⟨g, 0, none⟩ a).setCell ⟨g, 1, none⟩ b).setCell ⟨g, 2, none⟩ c).setCell ⟨g, 3, none⟩ d).cell? p = w.cell? p := by
  rw [World.cell?_setCell_other _ _ _ _ (by rintro rfl; exact h rfl), World.cell?_setCell_other _ _ _ _ (by rintro rfl; exact h rfl), World.cell?_setCell_other _ _ _ _ (by rintro rfl; exact h rfl), World.cell?_setCell_other _ _ _ _ (by rintro rfl; exact h rfl)]

theorem after_new {w w' : World} {t : TypeId} {cs : Array Value} (h : Chg [] (w.alloc (.cells cs t)).drew w') : Blk w' w.heap.size t cs := ((Blk.new w t cs).drew).chg h (by simp)

/-- What 'does' tells. -/
def DoesPost (w : World) (z : V × Int × Int) (tries : Int) (e : Ending) (w' : World) : Prop :=
  e = .returned (.tuple #[.agg #[.int .u8 z.1.st, .int .i64 z.1.turn, .int .i64 z.1.fails, .int .i64 z.1.at_], .agg #[.int .i64 z.2.1, .int .i64 z.2.2, .int .i64 tries]]) ∧ VOk z.1 ∧ Chg [] w w'

set_option maxRecDepth 100000 in
set_option maxHeartbeats 1000000 in
theorem does_allow (w : World) (x g cap : Nat) (t : T) (v : V) (c : V) (qs : List Q) (i : Nat) (q : Q) (hQ : QRace w x g cap t v qs) (hi : qs[i]? = some q) (hd : q.done = false) (hc : VOk c) (_hcap : qs.length ≤ 8796093022208) (p : Int) :
    Calls Try.prog 60 #[.pointer (some ⟨x, 0, none⟩), .int .i64 i, .agg #[.int .u8 c.st, .int .i64 c.turn, .int .i64 c.fails, .int .i64 c.at_]] w (DoesPost w (doesQ t c q p) q.tries) := by
  have hdq : doesQ t c q p = allowV t c q.now := by unfold doesQ; rw [hd]; rfl
  rw [hdq]
  clear hdq
  have hlt : i < qs.length := (List.getElem?_eq_some_iff.1 hi).1
  have hb := hQ.blk
  rw [if_neg (by omega)] at hb
  have hA := hQ.at_ i q hi
  have r7 := hb.cell 7
  simp at r7
  have c0 := hA.c 0 _ rfl
  have c1 := hA.c 1 _ rfl
  have c2 := hA.c 2 _ rfl
  have c3 := hA.c 3 _ rfl
  have c13 := hA.c 13 _ rfl
  have c14 := hA.c 14 _ rfl
  have c15 := hA.c 15 _ rfl
  rw [hd] at c0
  simp only [Nat.add_zero] at c0
  have hx := hb.lt
  have hg := hA.lt
  have hx1 : x < w.heap.size + 1 := by omega
  have hx2 : x < w.heap.size + 1 + 1 := by omega
  have hx3 : x < w.heap.size + 1 + 1 + 1 := by omega
  have hg1 : g < w.heap.size + 1 := by omega
  have hg2 : g < w.heap.size + 1 + 1 := by omega
  have hg3 : g < w.heap.size + 1 + 1 + 1 := by omega
  have hg4 : g < w.heap.size + 1 + 1 + 1 + 1 := by omega
  have HQ := Lib.hid hQ.tok; have HA := Lib.hid hA.now; have HB := Lib.hid hb; have HD := Lib.hid hd
  clear hQ hA hb hd hi
  go_enter Try.func60, Try.ntmps60
  go_upto_region 7 with fail
  clear r7 c0 c1 c2 c3 c13 c14 c15 hx1 hx2 hx3 hg1 hg2 hg3 hg4
  obtain ⟨w5, hw5, k0, k1, k2, k3, k4, hc5, hs5⟩ := five_new w 49 49 121 78 121 #[.int .u8 c.st, .int .i64 c.turn, .int .i64 c.fails, .int .i64 c.at_] #[.int .u8 0, .int .i64 0, .int .i64 0, .int .i64 0] #[.int .i64 0, .int .i64 0, .int .i64 0] #[.bool false, .int .i64 q.of_, .bool q.ok, .int .i64 q.now] #[.int .i64 q.pass, .int .i64 q.code, .int .i64 q.tries]
  rw [← hw5]
  have hb5 := HB.out.chg hc5 (by simp)
  have r0 := hb5.cell 0
  have r1 := hb5.cell 1
  have r2 := hb5.cell 2
  simp at r0 r1 r2
  obtain ⟨⟨d0, d1, d2, d3⟩, -⟩ := k0.four
  have e3 := k3.cell 3
  simp at e3
  have HC5 := Lib.hid hc5; have HS5 := Lib.hid hs5
  have K1 := Lib.hid k1; have K2 := Lib.hid k2; have K4 := Lib.hid k4
  clear hw5 hc5 hb5 k0 k1 k2 k3 k4 hs5 HB
  have htick := HA.out
  have z1 : x < w5.heap.size := by have := HS5.out; omega
  have n1 : ¬ x = w5.heap.size := by omega
  have n2 : ¬ w.heap.size = w5.heap.size := by have := HS5.out; omega
  have n3 : ¬ w.heap.size + 1 + 1 + 1 = w5.heap.size := by have := HS5.out; omega
  have z3 : w.heap.size < w5.heap.size := by have := HS5.out; omega
  have z4 : w.heap.size + 1 + 1 + 1 < w5.heap.size := by have := HS5.out; omega
  have z2 : w.heap.size + 1 + 1 + 1 + 1 < w5.heap.size := by have := HS5.out; omega
  go_cut [12, 13, 14] from 60 to 71 (fun a b c' wc => ∃ n, a = .pointer (some ⟨n, 0, none⟩) ∧ b = .int .i64 (allowV t c q.now).2.1 ∧ c' = .int .i64 (allowV t c q.now).2.2 ∧ Blk wc n 49 (vcells (allowV t c q.now).1) ∧ w5.heap.size ≤ n ∧ Chg [] w5 wc)
  case first =>
    go_region_held3 (fun w' => w'.cell? ⟨x, 0, none⟩ = some (.int .i64 t.F) ∧ w'.cell? ⟨x, 1, none⟩ = some (.int .i64 t.W) ∧ w'.cell? ⟨x, 2, none⟩ = some (.int .i64 t.S) ∧ w'.cell? ⟨w.heap.size, 0, none⟩ = some (.int .u8 c.st) ∧ w'.cell? ⟨w.heap.size, 1, none⟩ = some (.int .i64 c.turn) ∧ w'.cell? ⟨w.heap.size, 2, none⟩ = some (.int .i64 c.fails) ∧ w'.cell? ⟨w.heap.size, 3, none⟩ = some (.int .i64 c.at_) ∧ w'.cell? ⟨w.heap.size + 1 + 1 + 1, 3, none⟩ = some (.int .i64 q.now))
      (first
        | ((repeat' apply And.intro) <;> first
            | (with_reducible assumption)
            | with_reducible exact (hc6.cell (by simp; omega) (by simp)).trans (by go_simp)
            | with_reducible exact ((hc6.alloc _).cell (by simp; omega) (by simp)).trans (by go_simp)
            | ((with_reducible refine (far4 ?_).trans ((hc6.cell ?_ ?_).trans ?_)) <;> first | (with_reducible assumption) | (simp; done) | (simp; omega) | (go_simp; done))
            | (go_keep; done)))
      (first
        | (go_at_call 42; refine (rallow_any t c q.now _ HQ.out hc htick).mono ?_; rintro e w6 ⟨rfl, hc6⟩; (try ((with_reducible have y9 := after_new hc6); obtain ⟨⟨y0, y1, y2, y3⟩, ⟨q0, q1, q2, q3⟩⟩ := Blk.four y9; clear y9))))
    · go_wp2_with fail
      go_meet
      refine ⟨_, rfl, rfl, rfl, Blk.new _ _ _, hc6.size, ((Chg.refl [] w5).drew.trans hc6).alloc _⟩
    · go_wp2_with fail
      go_meet
      refine ⟨_, rfl, rfl, rfl, ?_, Nat.le_refl _, ?_⟩
      · exact ((((after_new hc6).set_ 0 _).set_ 1 _).set_ 2 _).set_ 3 _
      · refine ((((Chg.setCell ?_ (.inr (Nat.le_refl _)) _).setCell (.inr (Nat.le_refl _)) _).setCell (.inr (Nat.le_refl _)) _).setCell (.inr (Nat.le_refl _)) _)
        exact (((Chg.refl [] w5).alloc _).drew).trans hc6
  case rest =>
    obtain ⟨n, rfl, rfl, rfl, hn, hns, hcc⟩ := hcut
    have k4 := K4.out.chg hcc (by simp)
    have k1 := K1.out.chg hcc (by simp)
    have k2 := K2.out.chg hcc (by simp)
    obtain ⟨⟨b0, b1, b2⟩, ⟨f0, f1, f2⟩⟩ := k4.three
    obtain ⟨⟨a0, a1, a2, a3⟩, ⟨p0, p1, p2, p3⟩⟩ := k1.four
    obtain ⟨⟨m0, m1, m2⟩, ⟨l0, l1, l2⟩⟩ := k2.three
    have hnc := hn
    unfold vcells at hnc
    obtain ⟨⟨v0, v1, v2, v3⟩, -⟩ := hnc.four
    have nn : ¬ n = w.heap.size + 1 + 1 + 1 + 1 := by have := HS5.out; omega
    have nn1 : ¬ n = w.heap.size + 1 := by have := HS5.out; omega
    have nn2 : ¬ n = w.heap.size + 1 + 1 := by have := HS5.out; omega
    have HCC : Hid (Chg [] w wc) := HC5.out.trans hcc
    have hv : VOk (allowV t c q.now).1 := allowV_ok hc _
    have HV := Lib.hid hv
    clear hv hnc hn hns hcc k1 k2 k4 K1 K2 K4
    generalize allowV t c q.now = z at *
    go_wp2_with fail
    go_region
    all_goals go_wp2_with fail
    all_goals refine bodyPost_ret (v := .tuple #[.agg #[.int .u8 z.1.st, .int .i64 z.1.turn, .int .i64 z.1.fails, .int .i64 z.1.at_], .agg #[.int .i64 z.2.1, .int .i64 z.2.2, .int .i64 q.tries]]) (by simp only [results, Try.results60]; go_simp) rfl ?_
    all_goals refine ⟨rfl, HV.out, ?_⟩
    all_goals repeat (with_reducible first | exact HCC.out | refine Chg.drew ?_ | refine Chg.setCell ?_ (.inr (by dsimp only; omega)) _)
end Go.Proofs.Ythbeednmekajaaa
