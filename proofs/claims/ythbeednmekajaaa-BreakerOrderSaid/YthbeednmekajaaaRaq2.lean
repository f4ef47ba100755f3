import Derived.Test.YthbeednmekajaaaRaq1
namespace Go.Proofs.Ythbeednmekajaaa
open Go.RowKit

set_option maxRecDepth 100000 in
set_option maxHeartbeats 1000000 in
theorem does_done (w : World) (x g cap : Nat) (t : T) (v : V) (c : V) (qs : List Q) (i : Nat) (q : Q) (hQ : QRace w x g cap t v qs) (hi : qs[i]? = some q) (hd : q.done = true) (k : Nat) (o : Q) (hof : q.of_ = k) (ho : qs[k]? = some o) (hc : VOk c) (_hcap : qs.length ≤ 8796093022208) :
    Calls Try.prog 60 #[.pointer (some ⟨x, 0, none⟩), .int .i64 i, .agg #[.int .u8 c.st, .int .i64 c.turn, .int .i64 c.fails, .int .i64 c.at_]] w (DoesPost w (doesQ t c q o.pass) q.tries) := by
  have hdq : doesQ t c q o.pass = ((doneV t c o.pass q.ok q.now).1, q.pass, (doneV t c o.pass q.ok q.now).2) := by unfold doesQ; rw [hd]; rfl
  rw [hdq]
  clear hdq
  have hlt : i < qs.length := (List.getElem?_eq_some_iff.1 hi).1
  have hb := hQ.blk
  rw [if_neg (by omega)] at hb
  have hlk : k < qs.length := (List.getElem?_eq_some_iff.1 ho).1
  have hA := hQ.at_ i q hi
  have hO := hQ.at_ k o ho
  have o13 := hO.c 13 _ rfl
  have hkk : (k : Int) < (qs.length : Int) := by omega
  have r7 := hb.cell 7
  simp at r7
  have c0 := hA.c 0 _ rfl
  have c1 := hA.c 1 _ rfl
  have c2 := hA.c 2 _ rfl
  have c3 := hA.c 3 _ rfl
  have c13 := hA.c 13 _ rfl
  have c14 := hA.c 14 _ rfl
  have c15 := hA.c 15 _ rfl
  rw [hd] at c0
  rw [hof] at c1
  simp only [Nat.add_zero] at c0
  have hx := hb.lt
  have hg := hA.lt
  have hx1 : x < w.heap.size + 1 := by omega
  have hx2 : x < w.heap.size + 1 + 1 := by omega
  have hx3 : x < w.heap.size + 1 + 1 + 1 := by omega
  have hg1 : g < w.heap.size + 1 := by omega
  have hg2 : g < w.heap.size + 1 + 1 := by omega
  have hg3 : g < w.heap.size + 1 + 1 + 1 := by omega
  have hg4 : g < w.heap.size + 1 + 1 + 1 + 1 := by omega
  have HQ := Lib.hid hQ.tok; have HA := Lib.hid hA.now; have HB := Lib.hid hb; have HD := Lib.hid hd
  clear hQ hA hb hd hi hof ho hO
  go_enter Try.func60, Try.ntmps60
  go_upto_region 4 with fail
  have o13 := o13
  clear c0 c1 c2 c3 c13 c14 c15 hx1 hx2 hx3 hg1 hg2 hg3 hg4
  obtain ⟨w5, hw5, k0, k1, k2, k3, k4, hc5, hs5⟩ := five_new w 49 49 121 78 121 #[.int .u8 c.st, .int .i64 c.turn, .int .i64 c.fails, .int .i64 c.at_] #[.int .u8 0, .int .i64 0, .int .i64 0, .int .i64 0] #[.int .i64 0, .int .i64 0, .int .i64 0] #[.bool true, .int .i64 k, .bool q.ok, .int .i64 q.now] #[.int .i64 q.pass, .int .i64 q.code, .int .i64 q.tries]
  rw [← hw5]
  have hb5 := HB.out.chg hc5 (by simp)
  have r0 := hb5.cell 0
  have r1 := hb5.cell 1
  have r2 := hb5.cell 2
  have r7' := hb5.cell 7
  simp at r0 r1 r2 r7'
  have o13' := (hc5.cell (p := ⟨g, k * 17 + 13, none⟩) hg (by simp)).trans o13
  clear r7 o13
  obtain ⟨⟨d0, d1, d2, d3⟩, -⟩ := k0.four
  have e1 := k3.cell 1
  have e2 := k3.cell 2
  have e3 := k3.cell 3
  simp at e1 e2 e3
  have HC5 := Lib.hid hc5; have HS5 := Lib.hid hs5
  have K1 := Lib.hid k1; have K2 := Lib.hid k2; have K4 := Lib.hid k4
  clear hw5 hc5 hb5 k0 k1 k2 k3 k4 hs5 HB
  have htick := HA.out
  have z1 : x < w5.heap.size := by have := HS5.out; omega
  have n1 : ¬ x = w5.heap.size := by omega
  have z5 : g < w5.heap.size := by have := HS5.out; omega
  have n4 : ¬ g = w5.heap.size := by omega
  have n2 : ¬ w.heap.size = w5.heap.size := by have := HS5.out; omega
  have n3 : ¬ w.heap.size + 1 + 1 + 1 = w5.heap.size := by have := HS5.out; omega
  have z3 : w.heap.size < w5.heap.size := by have := HS5.out; omega
  have z4 : w.heap.size + 1 + 1 + 1 < w5.heap.size := by have := HS5.out; omega
  have z2 : w.heap.size + 1 + 1 + 1 + 1 < w5.heap.size := by have := HS5.out; omega
  go_cut [10, 11] from 33 to 55 (fun a c' wc => ∃ n, a = .pointer (some ⟨n, 0, none⟩) ∧ c' = .int .i64 (doneV t c o.pass q.ok q.now).2 ∧ Blk wc n 49 (vcells (doneV t c o.pass q.ok q.now).1) ∧ w5.heap.size ≤ n ∧ Chg [] w5 wc)
  case first =>
    go_region_held3 (fun w' => w'.cell? ⟨x, 0, none⟩ = some (.int .i64 t.F) ∧ w'.cell? ⟨x, 1, none⟩ = some (.int .i64 t.W) ∧ w'.cell? ⟨x, 2, none⟩ = some (.int .i64 t.S) ∧ w'.cell? ⟨x, 7, none⟩ = some (.slice (some ⟨g, 0, none⟩) qs.length cap) ∧ w'.cell? ⟨w.heap.size, 0, none⟩ = some (.int .u8 c.st) ∧ w'.cell? ⟨w.heap.size, 1, none⟩ = some (.int .i64 c.turn) ∧ w'.cell? ⟨w.heap.size, 2, none⟩ = some (.int .i64 c.fails) ∧ w'.cell? ⟨w.heap.size, 3, none⟩ = some (.int .i64 c.at_) ∧ w'.cell? ⟨w.heap.size + 1 + 1 + 1, 1, none⟩ = some (.int .i64 k) ∧ w'.cell? ⟨w.heap.size + 1 + 1 + 1, 2, none⟩ = some (.bool q.ok) ∧ w'.cell? ⟨w.heap.size + 1 + 1 + 1, 3, none⟩ = some (.int .i64 q.now) ∧ w'.cell? ⟨g, k * 17 + 13, none⟩ = some (.int .i64 o.pass))
      (first
        | ((repeat' apply And.intro) <;> first
            | (with_reducible assumption)
            | with_reducible exact (hc6.cell (by simp; omega) (by simp)).trans (by go_simp)
            | with_reducible exact ((hc6.alloc _).cell (by simp; omega) (by simp)).trans (by go_simp)
            | ((with_reducible refine (far4 ?_).trans ((hc6.cell ?_ ?_).trans ?_)) <;> first | (with_reducible assumption) | (simp; done) | (simp; omega) | (go_simp; done))
            | (go_keep; done)))
      (first
        | (go_at_call 43; refine (rdone_any t c o.pass q.ok q.now _ HQ.out hc htick).mono ?_; rintro e w6 ⟨rfl, hc6⟩; (try ((with_reducible have y9 := after_new hc6); obtain ⟨⟨y0, y1, y2, y3⟩, ⟨q0, q1, q2, q3⟩⟩ := Blk.four y9; clear y9))))
    · go_wp2_with fail
      go_meet
      refine ⟨_, rfl, rfl, Blk.new _ _ _, hc6.size, ((Chg.refl [] w5).drew.trans hc6).alloc _⟩
    · go_wp2_with fail
      go_meet
      refine ⟨_, rfl, rfl, ?_, Nat.le_refl _, ?_⟩
      · exact ((((after_new hc6).set_ 0 _).set_ 1 _).set_ 2 _).set_ 3 _
      · refine ((((Chg.setCell ?_ (.inr (Nat.le_refl _)) _).setCell (.inr (Nat.le_refl _)) _).setCell (.inr (Nat.le_refl _)) _).setCell (.inr (Nat.le_refl _)) _)
        exact (((Chg.refl [] w5).alloc _).drew).trans hc6
  case rest =>
    obtain ⟨n, rfl, rfl, hn, hns, hcc⟩ := hcut
    have k4 := K4.out.chg hcc (by simp)
    have k1 := K1.out.chg hcc (by simp)
    have k2 := K2.out.chg hcc (by simp)
    obtain ⟨⟨b0, b1, b2⟩, ⟨f0, f1, f2⟩⟩ := k4.three
    obtain ⟨⟨a0, a1, a2, a3⟩, ⟨p0, p1, p2, p3⟩⟩ := k1.four
    obtain ⟨⟨m0, m1, m2⟩, ⟨l0, l1, l2⟩⟩ := k2.three
    have hnc := hn
    unfold vcells at hnc
    obtain ⟨⟨v0, v1, v2, v3⟩, -⟩ := hnc.four
    have nn : ¬ n = w.heap.size + 1 + 1 + 1 + 1 := by have := HS5.out; omega
    have nn1 : ¬ n = w.heap.size + 1 := by have := HS5.out; omega
    have nn2 : ¬ n = w.heap.size + 1 + 1 := by have := HS5.out; omega
    have HCC : Hid (Chg [] w wc) := HC5.out.trans hcc
    have hv : VOk (doneV t c o.pass q.ok q.now).1 := doneV_ok HQ.out hc _ _ htick
    have HV := Lib.hid hv
    clear hv hnc hn hns hcc k1 k2 k4 K1 K2 K4
    generalize doneV t c o.pass q.ok q.now = z at *
    go_wp2_with fail
    go_region
    all_goals go_wp2_with fail
    all_goals refine bodyPost_ret (v := .tuple #[.agg #[.int .u8 z.1.st, .int .i64 z.1.turn, .int .i64 z.1.fails, .int .i64 z.1.at_], .agg #[.int .i64 q.pass, .int .i64 z.2, .int .i64 q.tries]]) (by simp only [results, Try.results60]; go_simp) rfl ?_
    all_goals refine ⟨rfl, HV.out, ?_⟩
    all_goals repeat (with_reducible first | exact HCC.out | refine Chg.drew ?_ | refine Chg.setCell ?_ (.inr (by dsimp only; omega)) _)
end Go.Proofs.Ythbeednmekajaaa
