import Derived.Test.YthbeednmekajaaaRam1
import Derived.Laws.AppendOwnNone
import Derived.Test.YthbeednmekajaaaMeter4
namespace Go.Proofs.Ythbeednmekajaaa
open Go.RowKit

def irow (xs : Nat → Int) (n : Nat) : List Value := (List.range n).map fun i => .int .i64 (xs i)
theorem irow_len (xs : Nat → Int) (n : Nat) : (irow xs n).length = n := by simp [irow]
theorem irow_at (xs : Nat → Int) (n i : Nat) (hi : i < n) : (irow xs n)[i]? = some (.int .i64 (xs i)) := by simp [irow, hi]

theorem irow_set {f f' : Nat → Int} {len k : Nat} {x : Int} (hk : k < len) (hf : ∀ i, i ≠ k → f' i = f i) (hu : f' k = x) : (irow f len).set k (.int .i64 x) = irow f' len := by
  apply List.ext_getElem?
  intro n
  by_cases hn : n < len
  · by_cases hnk : n = k
    · subst hnk
      rw [List.getElem?_set_self (by rw [irow_len]; exact hn), irow_at _ _ _ hn, hu]
    · rw [List.getElem?_set_ne (Ne.symm hnk), irow_at _ _ _ hn, irow_at _ _ _ hn, hf n hnk]
  · rw [List.getElem?_eq_none (by rw [List.length_set, irow_len]; omega), List.getElem?_eq_none (by rw [irow_len]; omega)]

theorem irow_ints {w : World} {base : Nat} {e : TypeId} {A : Option Addr} {cap n : Nat} {xs : Nat → Int} (h : w.ownsRow base e 1 (.slice A n cap) n (irow xs n)) : IntsAt w A n xs := fun hp => by
  obtain ⟨g, cap', he, hb, hg⟩ := h.form hp
  injection he with e1 e2 e3
  subst e1 e3
  refine ⟨g, 0, rfl, hg, fun i hi => ?_⟩
  rw [Nat.zero_add, h.cellAt i (by omega), irow_at _ _ _ hi]

theorem own_drewN {w : World} {base : Nat} {e : TypeId} {size n : Nat} {v : Value} {xs : List Value} (h : w.ownsRow base e size v n xs) (k : Nat) : (w.drewN k).ownsRow base e size v n xs := h

theorem grown_new {w w' : World} {o : Obj} {n c : Nat} (h : (w.alloc o).grownBy w' (Value.slice (some ⟨w.heap.size, 0, none⟩) n c).ownBlock) : Chg [] w w' :=
  ((Chg.refl [] w).alloc o).grown h (fun k e => .inr (by
    have : w.heap.size = k := by simpa [Value.ownBlock] using e
    omega))

theorem grown_new_drew {w w' : World} {o : Obj} {n c : Nat} (h : ((w.alloc o).drew).grownBy w' (Value.slice (some ⟨w.heap.size, 0, none⟩) n c).ownBlock) : Chg [] w w' :=
  (((Chg.refl [] w).alloc o).drew).grown h (fun k e => .inr (by
    have : w.heap.size = k := by simpa [Value.ownBlock] using e
    omega))

/-- A list of numbers appended to nothing. -/
theorem wpList_append_ints {P : Program} {w : World} {ops : Array Oper} {rest : List Oper} {o : Oper} {a : Act} {Q : Exit → Act → World → Prop} (hgd : o.guard = none) (s x : Operand) (t : TypeId)
    (ho : o.op = .call { callee := .builtin .append, args := #[s, x], argTypes := #[t, t] })
    (base : Nat) (e : TypeId) (i : TypeInfo) (z : Value) (bytes : Nat) (ht : P.underlying t = some (.slice e)) (hi : P.info? e = some i) (hz : i.zero = some z)
    (hsize : i.size = 1) (hby : i.bytes = bytes) (hzs : z.cells.size = 1)
    (v : Value) (hs : a.eval s = v) (hown : w.ownsRow base e 1 v 0 [])
    (B : Option Addr) (sl sc : Nat) (xs : Nat → Int) (hx : a.eval x = .slice B sl sc) (hB : IntsAt w B sl xs) (hn : B = none → sc = 0)
    (h63 : sl ≤ maxLen) (hbytes : sl * bytes ≤ 140737488355328) (hbase : base ≤ w.heap.size)
    (h : ∀ v' w', w'.ownsRow base e 1 v' sl (irow xs sl) → w.grownBy w' v.ownBlock → wpList P ops Q rest (a.put o.dst v') w') :
    wpList P ops Q (o :: rest) a w := by
  cases B with
  | none =>
    have h0 : sl = 0 := by
      rcases Nat.eq_zero_or_pos sl with h | h
      · exact h
      · obtain ⟨b, off, hb, _⟩ := hB h
        cases hb
    subst h0
    have hc := hn rfl
    subst hc
    refine wpList_append_own_none hgd s x t ho base e i 1 ht hi v 0 [] hs hown hx ?_
    exact h v w hown (World.grownBy.refl _ _)
  | some ad =>
    refine wpList_append_own_at w hgd s x t ho base e i z 1 bytes ht hi hz hsize hby hzs (by omega) v 0 [] hs hown ad sl sc (irow xs sl) hx (by rw [irow_len, Nat.mul_one]) ?_ ?_ (by omega) (by rw [Nat.zero_add]; exact hbytes) hbase ?_
    · intro j u hj
      have hjl : j < sl := by have := (List.getElem?_eq_some_iff.1 hj).1; rwa [irow_len] at this
      rw [irow_at _ _ _ hjl] at hj
      injection hj with hj
      subst hj
      obtain ⟨b, off, he, hb, hc⟩ := hB (by omega)
      injection he with he
      subst he
      have hadd : (⟨b, off, none⟩ : Addr).add j = ⟨b, off + j, none⟩ := by unfold Addr.add; split <;> simp_all
      rw [hadd]
      exact hc j hjl
    · intro u hu
      obtain ⟨i, _, rfl⟩ := List.mem_map.1 hu
      rfl
    · intro v' w' h1 h2 _ _
      rw [Nat.zero_add, List.nil_append] at h1
      exact h v' w' h1 h2

theorem step_append_ints {P : Program} {w : World} {ops : Array Oper} {o : Oper} {a : Act} {K : Act → World → Prop} {Q : Exit → Act → World → Prop} {E : Prop} (hgd : o.guard = none) (s x : Operand) (t : TypeId)
    (ho : o.op = .call { callee := .builtin .append, args := #[s, x], argTypes := #[t, t] })
    (base : Nat) (e : TypeId) (i : TypeInfo) (z : Value) (bytes : Nat) (ht : P.underlying t = some (.slice e)) (hi : P.info? e = some i) (hz : i.zero = some z)
    (hsize : i.size = 1) (hby : i.bytes = bytes) (hzs : z.cells.size = 1)
    (v : Value) (hs : a.eval s = v) (hown : w.ownsRow base e 1 v 0 [])
    (B : Option Addr) (sl sc : Nat) (xs : Nat → Int) (hx : a.eval x = .slice B sl sc) (hB : IntsAt w B sl xs) (hn : B = none → sc = 0)
    (h63 : sl ≤ maxLen) (hbytes : sl * bytes ≤ 140737488355328) (hbase : base ≤ w.heap.size)
    (h : ∀ v' w', w'.ownsRow base e 1 v' sl (irow xs sl) → w.grownBy w' v.ownBlock → K (a.put o.dst v') w') :
    if Region.wanted o (yielded ops a.tmps) = true then Oper.wp P o a w K Q else E := by
  have hw : Region.wanted o (yielded ops a.tmps) = true := by simp [Region.wanted, hgd]
  rw [if_pos hw]
  have hrun : ∃ v' w', (Builtin.append_ #[t, t] o.type #[v, .slice B sl sc]).run P w = .ok v' w' ∧ w'.ownsRow base e 1 v' sl (irow xs sl) ∧ w.grownBy w' v.ownBlock := by
    cases B with
    | none =>
      have h0 : sl = 0 := by
        rcases Nat.eq_zero_or_pos sl with h | h
        · exact h
        · obtain ⟨b, off, hb, _⟩ := hB h
          cases hb
      subst h0
      have hc := hn rfl
      subst hc
      exact ⟨v, w, run_append_owned_none (P := P) (w := w) base t o.type e i 1 ht hi v 0 [] hown, hown, World.grownBy.refl _ _⟩
    | some ad =>
      obtain ⟨v', w', hr, h2, h3, _, _⟩ := run_append_own_at (P := P) w base t o.type e i z 1 bytes ht hi hz hsize hby hzs (by omega) v 0 [] hown ad sl sc (irow xs sl) (by rw [irow_len, Nat.mul_one]) (fun j u hj => by
        have hjl : j < sl := by have := (List.getElem?_eq_some_iff.1 hj).1; rwa [irow_len] at this
        rw [irow_at _ _ _ hjl] at hj
        injection hj with hj
        subst hj
        obtain ⟨b, off, he, hb, hc⟩ := hB (by omega)
        injection he with he
        subst he
        have hadd : (⟨b, off, none⟩ : Addr).add j = ⟨b, off + j, none⟩ := by unfold Addr.add; split <;> simp_all
        rw [hadd]
        exact hc j hjl) (fun u hu => by
        obtain ⟨i, _, rfl⟩ := List.mem_map.1 hu
        rfl) (by omega) (by rw [Nat.zero_add]; exact hbytes) hbase
      rw [Nat.zero_add, List.nil_append] at h2
      exact ⟨v', w', hr, h2, h3⟩
  obtain ⟨v', w', hr, h2, h3⟩ := hrun
  unfold Oper.wp execOp
  simp only [ho, resolve, invoke, builtin, Sem.run_bind, Sem.run_pure, Result.andThen_ok, List.map_toArray, List.map_cons, List.map_nil, hs, hx, hr]
  exact h v' w' h2 h3

theorem own_nil_cap {w : World} {base : Nat} {e : TypeId} {size n : Nat} {A : Option Addr} {cap : Nat} {xs : List Value} (h : w.ownsRow base e size (.slice A n cap) n xs) : A = none → cap = 0 := fun ha => by
  subst ha
  rcases h.2 with ⟨h1, _⟩ | ⟨g, c, cur, h1, _⟩
  · injection h1
  · injection h1 with h1; cases h1

set_option maxRecDepth 100000 in
set_option maxHeartbeats 4000000 in
theorem walk_races (t : T) (A : Option Addr) (len cap : Nat) (B : Option Addr) (sl sc : Nat) (w : World) (cs : Nat → Cl) (xs : Nat → Int) (hlen : len ≤ 4398046511104) (hsl : sl ≤ 17592186044416) (hcs : ClsAt w A len cs) (hxs : IntsAt w B sl xs) (hn : B = none → sc = 0) :
    Calls Try.prog 6 #[.agg #[.int .i64 t.F, .int .i64 t.W, .int .i64 t.S], .slice A len cap, .slice B sl sc] w fun e w' => e = .returned (.bool true) ∧ Below w.heap.size w w' := by
  have HCS := Lib.hid hcs; have HXS := Lib.hid hxs; have HN := Lib.hid hn
  clear hcs hxs hn
  obtain ⟨o, hoo⟩ : ∃ o, outR t cs len xs sl = o := ⟨_, rfl⟩
  have HOO := Lib.hid hoo
  clear hoo
  obtain ⟨i0, hi0, hz0, hz1, hz2⟩ := info_parts int_info
  have I0 := Lib.hid hi0
  have Z0 := Lib.hid hz0; have Z1 := Lib.hid hz1; have Z2 := Lib.hid hz2
  clear hi0 hz0 hz1 hz2
  go_enter Try.func6, Try.ntmps6
  go_wp2_with fail
  have R1 := ref_any t A len cap B sl sc (w.alloc (.cells #[.int .i64 t.F, .int .i64 t.W, .int .i64 t.S] 41)) cs xs (by omega) (HCS.out.chg ((Chg.refl _ _).alloc _)) (HXS.out.chg ((Chg.refl _ _).alloc _))
  rw [HOO.out] at R1
  refine R1.mono ?_
  clear R1
  rintro e w1 ⟨v1, rfl, ho1, hc1⟩
  have ht1 : Blk w1 w.heap.size 41 #[.int .i64 t.F, .int .i64 t.W, .int .i64 t.S] := (Blk.new w _ _).chg hc1 (by simp)
  have hC1 : Chg [] w w1 := ((Chg.refl _ _).alloc _).trans hc1
  have HT1 := Lib.hid ht1; have HC1 := Lib.hid hC1; have HO1 := Lib.hid ho1
  clear ht1 hC1 hc1 ho1
  unfold av
  go_wp2_with fail
  have KZ := Lib.hid (Blk.new w1 49 (vcells o.2.1))
  refine (calls_any A len cap _ cs hlen (HCS.out.chg (HC1.out.alloc _))).mono ?_
  rintro e w2 ⟨v2, rfl, ho2, hc2⟩
  obtain ⟨A2, cap2, rfl⟩ := own_slice ho2
  have HC2 : Hid (Chg [] w w2) := (HC1.out.alloc _).trans hc2
  have HT2 := Lib.hid ((HT1.out.alloc _).chg hc2 (by simp))
  have HZ2 := Lib.hid (KZ.out.chg hc2 (by simp))
  have HO12 := Lib.hid (ownsRow_chg (HO1.out.alloc _) hc2 (by simp))
  have HO2 := Lib.hid ho2
  have hs12 : w1.heap.size < w2.heap.size := by have := hc2.size; simp at this; omega
  have hsw1 : w.heap.size < w1.heap.size := HT1.out.lt
  clear hc2 ho2
  go_wp2_with (at_builtin; refine wpList_append_ints rfl (.tmp 37) (.tmp 38) _ rfl w2.heap.size 3 i0 _ 8 Try.underlying50 I0.out Z0.out Z1.out Z2.out rfl _ rfl (World.ownsRow_made w2 #[] 0 (Nat.le_refl _) (by simp [maxLen]) rfl) B sl sc xs rfl (HXS.out.chg (HC2.out.alloc _)) HN.out (by simp only [maxLen]; omega) (by omega) (by simp) ?_; intro v3 w3 ho3 hg3; obtain ⟨A3, cap3, rfl⟩ := own_slice ho3; have hc3 := grown_new hg3; have HO3 := Lib.hid ho3; have HC3 := Lib.hid hc3; have ht3 := HT2.out.chg hc3 (by simp); obtain ⟨⟨t0, t1, t2⟩, -⟩ := ht3.three; have HT3 := Lib.hid ht3; clear ho3 hg3 hc3 ht3)
  have HW3 : Hid (Chg [] w w3) := HC2.out.trans HC3.out
  have HZ3 := Lib.hid (HZ2.out.chg HC3.out (by simp))
  have HO13 := Lib.hid (ownsRow_chg HO12.out HC3.out (by simp))
  have HO23 := Lib.hid (ownsRow_chg HO2.out HC3.out (by simp))
  clear HZ2 HO12 HO2 HT2 HC2 KZ HO1 HT1 HC1
  have R1 := race_any t A2 len cap2 A3 sl cap3 w3 cs xs (by omega) (crow_cls HO23.out) (irow_ints HO3.out)
  rw [HOO.out] at R1
  refine R1.mono ?_
  clear R1
  rintro e w4 ⟨v4, rfl, ho4, hc4⟩
  have HW4 : Hid (Chg [] w w4) := HW3.out.trans hc4
  have HZ4 := Lib.hid (HZ3.out.chg hc4 (by simp))
  have HT4 := Lib.hid (HT3.out.chg hc4 (by simp))
  have HO14 := Lib.hid (ownsRow_chg HO13.out hc4 (by simp))
  have HO24 := Lib.hid (ownsRow_chg HO23.out hc4 (by simp))
  have HO34 := Lib.hid (ownsRow_chg HO3.out hc4 (by simp))
  have HO44 := Lib.hid ho4
  have HL4 : Hid (∀ k, v4.ownBlock = some k → k < w4.heap.size) := fun k hk => (ho4.lt k hk).2
  have hs34 : w3.heap.size ≤ w4.heap.size := hc4.size
  have hs23 : w2.heap.size ≤ w3.heap.size := HC3.out.size
  obtain ⟨⟨t0, t1, t2⟩, -⟩ := HT4.out.three
  clear hc4 ho4 HZ3 HT3 HO13 HO23 HO3 HW3 HC3
  unfold av
  have hwt : w.heap.size < w4.heap.size := HT4.out.lt
  go_wp2_with fail
  have KV := Lib.hid (Blk.new w4 56 (vcells o.2.1))
  have hca : Chg [] w4 (w4.alloc (.cells (vcells o.2.1) 56)) := (Chg.refl _ _).alloc _
  have R1 := race_any t A2 len cap2 A3 sl cap3 (w4.alloc (.cells (vcells o.2.1) 56)) cs xs (by omega) (crow_cls (HO24.out.alloc _)) (irow_ints (HO34.out.alloc _))
  rw [HOO.out] at R1
  refine R1.mono ?_
  clear R1 t0 t1 t2
  rintro e w5 ⟨v5, rfl, ho5, hc5⟩
  have hc45 : Chg [] w4 w5 := hca.trans hc5
  have HW5 : Hid (Chg [] w w5) := HW4.out.trans hc45
  have HZ5 := Lib.hid (HZ4.out.chg hc45 (by simp))
  have HT5 := Lib.hid (HT4.out.chg hc45 (by simp))
  have HV5 := Lib.hid (KV.out.chg hc5 (by simp))
  have HO15 := Lib.hid (ownsRow_chg HO14.out hc45 (by simp))
  have HO25 := Lib.hid (ownsRow_chg HO24.out hc45 (by simp))
  have HO35 := Lib.hid (ownsRow_chg HO34.out hc45 (by simp))
  have HO45 := Lib.hid (ownsRow_chg HO44.out hc45 (by simp))
  have HO55 := Lib.hid ho5
  have hs45 : w4.heap.size + 1 ≤ w5.heap.size := by have := hc5.size; simp at this; omega
  clear hc5 hc45 hca ho5 HZ4 HT4 HO14 HO24 HO34 HO44 HW4 KV
  unfold av
  have q0 : (o.2.2 != o.2.2) = false := by simp
  go_wp2_with fail
  have hol : o.1.length ≤ 1000 := by rw [← HOO.out]; exact outR_len _ _ _ _ _
  refine (same_any _ _ _ v4 v1 o.1 (by omega) (HO45.out.alloc _) (HO15.out.alloc _)).mono ?_
  rintro e w' ⟨rfl, n1, rfl⟩
  go_wp2_with fail
  refine (same_any _ _ _ v5 v1 o.1 (by omega) (own_drewN (HO55.out.alloc _) n1) (own_drewN (HO15.out.alloc _) n1)).mono ?_
  rintro e w' ⟨rfl, n2, rfl⟩
  have hv5 := HV5.out
  have hz5 := HZ5.out
  unfold vcells at hv5 hz5
  obtain ⟨⟨a0, a1, a2, a3⟩, -⟩ := hv5.four
  obtain ⟨⟨b0, b1, b2, b3⟩, -⟩ := hz5.four
  have hl1 : w1.heap.size < w5.heap.size := by omega
  have hl4 : w4.heap.size < w5.heap.size := by omega
  clear hv5 hz5
  go_wp2_with fail
  refine (alike_any o.2.1 _).mono ?_
  rintro e w6 ⟨rfl, hc6⟩
  have hc56 : Chg [] w5 w6 := ((((Chg.refl _ _).alloc _).drewN _)).trans hc6
  have hz6 := HZ5.out.chg hc56 (by simp)
  have hv6 : Blk w6 w5.heap.size 56 (vcells o.2.1) := Blk.chg (((Blk.new w5 _ _).drewN _)) hc6 (by simp)
  have HT6 := Lib.hid (HT5.out.chg hc56 (by simp))
  have HW6 := Lib.hid (HW5.out.trans hc56)
  have HO16 := Lib.hid (ownsRow_chg HO15.out hc56 (by simp))
  have HO26 := Lib.hid (ownsRow_chg HO25.out hc56 (by simp))
  have HO36 := Lib.hid (ownsRow_chg HO35.out hc56 (by simp))
  have HO46 := Lib.hid (ownsRow_chg HO45.out hc56 (by simp))
  have HO56 := Lib.hid (ownsRow_chg HO55.out hc56 (by simp))
  have HZ6 := Lib.hid hz6
  unfold vcells at hz6 hv6
  obtain ⟨⟨c0, c1, c2, c3⟩, -⟩ := hv6.four
  obtain ⟨⟨d0, d1, d2, d3⟩, -⟩ := hz6.four
  clear hz6 hv6 hc6 hc56 a0 a1 a2 a3 b0 b1 b2 b3 HZ5 HT5 HO15 HO25 HO35 HO45 HO55 HW5
  go_wp2_with fail
  refine (alike_any o.2.1 _).mono ?_
  rintro e w7 ⟨rfl, hc7⟩
  have HZ7 := Lib.hid (HZ6.out.chg hc7 (by simp))
  have HT7 := Lib.hid (HT6.out.chg hc7 (by simp))
  have HW7 := Lib.hid (HW6.out.trans hc7)
  have HO17 := Lib.hid (ownsRow_chg HO16.out hc7 (by simp))
  have HO27 := Lib.hid (ownsRow_chg HO26.out hc7 (by simp))
  have HO37 := Lib.hid (ownsRow_chg HO36.out hc7 (by simp))
  have HO47 := Lib.hid (ownsRow_chg HO46.out hc7 (by simp))
  have HO57 := Lib.hid (ownsRow_chg HO56.out hc7 (by simp))
  clear hc7 c0 c1 c2 c3 d0 d1 d2 d3 HZ6 HT6 HW6 HO16 HO26 HO36 HO46 HO56 HV5
  go_wp2_with fail
  go_loopg [18] len (fun gk i wr => ∃ k n : Nat, k + gk = len ∧ i = .int .i64 k ∧ wr = w7.drewN n)
  case atStart => exact ⟨0, 0, by omega, rfl, rfl⟩
  case round =>
    obtain ⟨k, n, hk, rfl, rfl⟩ := hrel
    have HK := Lib.hid hk
    clear hk
    by_cases hlt : k < len
    · obtain ⟨b, off, rfl, hb, hcl⟩ := HCS.out (by omega)
      obtain ⟨x0, x1, x2, x3⟩ := (hcl k hlt).chg HW7.out hb (by simp)
      obtain ⟨g2, off2, rfl, hb2, hcl2⟩ := crow_cls HO27.out (by omega)
      obtain ⟨y0, y1, y2, y3⟩ := hcl2 k hlt
      have hkl : (k : Int) < (len : Int) := by omega
      clear hcl hcl2
      have p0 : ((cs k).done == (cs k).done) = true := by simp
      have p1 : ((cs k).of_ == (cs k).of_) = true := by simp
      have p2 : ((cs k).ok == (cs k).ok) = true := by simp
      have p3 : ((cs k).now == (cs k).now) = true := by simp
      go_wp2_with fail
      go_quiet (fail)
      go_wp2_with fail
      go_roundg (gk - 1)
      case rel => exact ⟨k + 1, _, by have := HK.out; omega, by go_num, rfl⟩
      case measure => have := HK.out; omega
    · obtain rfl : k = len := by have := HK.out; omega
      clear hlt
      have hkl : ¬ (k : Int) < (k : Int) := by omega
      have hc8 : Chg [] w7 (w7.drewN n) := (Chg.refl _ _).drewN n
      have HZ8 := Lib.hid (HZ7.out.chg hc8 (by simp))
      have HT8 := Lib.hid (HT7.out.chg hc8 (by simp))
      have HW8 := Lib.hid (HW7.out.trans hc8)
      have HO18 := Lib.hid (ownsRow_chg HO17.out hc8 (by simp))
      have HO28 := Lib.hid (ownsRow_chg HO27.out hc8 (by simp))
      have HO38 := Lib.hid (ownsRow_chg HO37.out hc8 (by simp))
      have HO48 := Lib.hid (ownsRow_chg HO47.out hc8 (by simp))
      have HO58 := Lib.hid (ownsRow_chg HO57.out hc8 (by simp))
      clear hc8 HZ7 HT7 HW7 HO17 HO27 HO37 HO47 HO57 HK
      generalize w7.drewN n = w8 at *
      go_wp2_with fail
      go_loopg [19] sl (fun gk i wr => ∃ j n : Nat, j + gk = sl ∧ i = .int .i64 j ∧ wr = w8.drewN n)
      case atStart => exact ⟨0, 0, by omega, rfl, rfl⟩
      case round =>
        obtain ⟨j, n', hj, rfl, rfl⟩ := hrel
        have HJ := Lib.hid hj
        clear hj
        by_cases hlt : j < sl
        · obtain ⟨b, off, rfl, hb, hcl⟩ := HXS.out (by omega)
          have x0 := (HW8.out.cell (p := ⟨b, off + j, none⟩) hb (by simp)).trans (hcl j hlt)
          obtain ⟨g2, off2, rfl, hb2, hcl2⟩ := irow_ints HO38.out (by omega)
          have y0 := hcl2 j hlt
          have hjl : (j : Int) < (sl : Int) := by omega
          clear hcl hcl2
          have p0 : (xs j != xs j) = false := by simp
          go_wp2_with fail
          go_quiet (fail)
          go_wp2_with fail
          go_roundg (gk - 1)
          case rel => exact ⟨j + 1, _, by have := HJ.out; omega, by go_num, rfl⟩
          case measure => have := HJ.out; omega
        · obtain rfl : j = sl := by have := HJ.out; omega
          clear hlt
          have hjl : ¬ (j : Int) < (j : Int) := by omega
          have hc9 : Chg [] w8 (w8.drewN n') := (Chg.refl _ _).drewN n'
          have HZ9 := Lib.hid (HZ8.out.chg hc9 (by simp))
          have HT9 := Lib.hid (HT8.out.chg hc9 (by simp))
          have HW9 := Lib.hid (HW8.out.trans hc9)
          have HO19 := Lib.hid (ownsRow_chg HO18.out hc9 (by simp))
          have HO29 := Lib.hid (ownsRow_chg HO28.out hc9 (by simp))
          have HO39 := Lib.hid (ownsRow_chg HO38.out hc9 (by simp))
          have HO49 := Lib.hid (ownsRow_chg HO48.out hc9 (by simp))
          have HO59 := Lib.hid (ownsRow_chg HO58.out hc9 (by simp))
          clear hc9 HZ8 HT8 HW8 HO18 HO28 HO38 HO48 HO58 HJ
          generalize w8.drewN n' = w9 at *
          obtain ⟨A4, cap4, rfl⟩ := own_slice HO49.out
          go_wp2_with fail
          go_loopg [20] o.1.length (fun gk i wr => ∃ (m : Nat) (ys : List Value), m + gk = o.1.length ∧ i = .int .i64 m ∧ wr.ownsRow w3.heap.size 80 3 (.slice A4 o.1.length cap4) o.1.length ys ∧ Chg (Value.slice A4 o.1.length cap4).ownBlock.toList w9 wr)
          case atStart => exact ⟨0, _, by omega, rfl, HO49.out, Chg.refl _ _⟩
          case round =>
            obtain ⟨m, ys, hm, rfl, hO, hC⟩ := hrel
            have HM := Lib.hid hm; have HO := Lib.hid hO; have HC := Lib.hid hC
            clear hm hO hC
            by_cases hlt : m < o.1.length
            · have hml : (m : Int) < (o.1.length : Int) := by omega
              obtain ⟨g, cp, he, hbg, hgl⟩ := HO.out.form (by omega)
              injection he with e1 _ e3
              subst e1 e3
              have hys : ys.length = o.1.length * 3 := HO.out.1
              obtain ⟨z0, hz0⟩ : ∃ z, ys[m * 3]? = some z := ⟨_, List.getElem?_eq_getElem (by omega)⟩
              obtain ⟨z1, hz1⟩ : ∃ z, ys[m * 3 + 1]? = some z := ⟨_, List.getElem?_eq_getElem (by omega)⟩
              obtain ⟨z2, hz2⟩ : ∃ z, ys[m * 3 + 2]? = some z := ⟨_, List.getElem?_eq_getElem (by omega)⟩
              have a0 := (HO.out.cellAt (m * 3) (by omega)).trans hz0
              have a1 := (HO.out.cellAt (m * 3 + 1) (by omega)).trans hz1
              have a2 := (HO.out.cellAt (m * 3 + 2) (by omega)).trans hz2
              have f0 := HO.out.frozenAt (m * 3)
              have f1 := HO.out.frozenAt (m * 3 + 1)
              have f2 := HO.out.frozenAt (m * 3 + 2)
              clear hz0 hz1 hz2 hys
              go_wp2_with fail
              go_roundg (gk - 1)
              case rel =>
                have s1 := HO.out.stored (m * 3) (.int .i64 (-1))
                have s2 := s1.1.stored (m * 3 + 1) (.int .i64 0)
                have s3 := s2.1.stored (m * 3 + 2) (.int .i64 0)
                exact ⟨m + 1, _, by have := HM.out; omega, by go_num, s3.1, (((HC.out.setCell (.inl (by simp [Value.ownBlock])) _).setCell (.inl (by simp [Value.ownBlock])) _).setCell (.inl (by simp [Value.ownBlock])) _)⟩
              case measure => have := HM.out; omega
            · have hml : ¬ (m : Int) < (o.1.length : Int) := by omega
              go_wp2_with fail
              have hab : ∀ k, v5.ownBlock = some k → k ∉ (Value.slice A4 o.1.length cap4).ownBlock.toList := fun k hk hm => by
                have h1 := (HO59.out.lt k hk).1
                have h2 := HL4.out k (by simpa using hm)
                simp at h1
                omega
              refine (same_any _ _ _ v5 v1 o.1 (by omega) (ownsRow_chg HO59.out HC.out hab) (ownsRow_chg HO19.out HC.out (own_apart HO19.out HO49.out (by decide)))).mono ?_
              rintro e w' ⟨rfl, n3, rfl⟩
              have hcw : Chg [] w wr := HW9.out.trans' HC.out (fun b hb => .inr (by have := (HO49.out.lt b (by simpa using hb)).1; have := HW9.out.size; omega))
              have HW10 : Hid (Chg [] w (wr.drewN n3)) := hcw.drewN n3
              have hd3 : Chg [] wr (wr.drewN n3) := (Chg.refl _ _).drewN n3
              have HT10 := Lib.hid ((HT9.out.chg HC.out (own_not HO49.out HT9.out (by decide))).chg hd3 (by simp))
              have HZ10 := Lib.hid ((HZ9.out.chg HC.out (own_not HO49.out HZ9.out (by decide))).chg hd3 (by simp))
              have HO210 := Lib.hid (own_base (b' := w.heap.size) (ownsRow_chg (ownsRow_chg HO29.out HC.out (own_apart HO29.out HO49.out (by decide))) hd3 (by simp)) (by simp; omega))
              have HO310 := Lib.hid (own_base (b' := w.heap.size) (ownsRow_chg (ownsRow_chg HO39.out HC.out (own_apart HO39.out HO49.out (by decide))) hd3 (by simp)) (by omega))
              clear hab hcw hd3 HC HO HT9 HZ9 HO19 HO29 HO39 HO49 HO59 HW9
              generalize wr.drewN n3 = wd at *
              obtain ⟨j0, hj0, hy0, hy1, hy2⟩ := info_parts rcall_info
              have J0 := Lib.hid hj0
              have Y0 := Lib.hid hy0; have Y1 := Lib.hid hy1; have Y2 := Lib.hid hy2
              clear hj0 hy0 hy1 hy2
              go_wp2_with fail
              go_loopg [22, 21] k (fun gk i vn wr => ∃ m : Nat, m + gk = k ∧ i = .int .i64 m ∧ wr.ownsRow w.heap.size 77 4 (.slice A2 k cap2) k (crow (part cs (fun i => flip (cs i)) m) k) ∧ wr.ownsRow wd.heap.size 78 4 vn m (crow (fun i => flip (cs i)) m) ∧
                wr.ownsRow w.heap.size 3 1 (.slice A3 j cap3) j (irow xs j) ∧ Blk wr w.heap.size 41 #[.int .i64 t.F, .int .i64 t.W, .int .i64 t.S] ∧ Blk wr w1.heap.size 49 (vcells o.2.1) ∧ Chg [] w wr ∧ wd.heap.size ≤ wr.heap.size)
              case atStart =>
                refine ⟨0, by omega, rfl, ?_, World.ownsRow_nil _ _ _ _, HO310.out, HT10.out, HZ10.out, HW10.out, Nat.le_refl _⟩
                have e : part cs (fun i => flip (cs i)) 0 = cs := by funext i; unfold part; rw [if_neg (by omega)]
                rw [e]
                exact HO210.out
              case round =>
                obtain ⟨m, hm, rfl, hI, hO, hS, hT, hZ, hC, hL⟩ := hrel
                have HM := Lib.hid hm; have HI := Lib.hid hI; have HO := Lib.hid hO; have HS := Lib.hid hS; have HT := Lib.hid hT; have HZ := Lib.hid hZ; have HC := Lib.hid hC; have HL := Lib.hid hL
                clear hm hI hO hS hT hZ hC hL
                by_cases hlt : m < k
                · have hml : (m : Int) < (k : Int) := by omega
                  obtain ⟨g, cp, he, hbg, hgl⟩ := HI.out.form (by omega)
                  injection he with e1 _ e3
                  subst e1 e3
                  have hp : part cs (fun i => flip (cs i)) m m = cs m := by unfold part; rw [if_neg (by omega)]
                  have at_ : ∀ q, q < 4 → wr.cell? ⟨g, m * 4 + q, none⟩ = (ccells (cs m))[q]? := fun q hq => by
                    rw [HI.out.cellAt (m * 4 + q) (by omega), crow_at _ _ _ _ (by omega) hq, hp]
                  have a0 : wr.cell? ⟨g, m * 4, none⟩ = some (.bool (cs m).done) := at_ 0 (by omega)
                  have a1 : wr.cell? ⟨g, m * 4 + 1, none⟩ = some (.int .i64 (cs m).of_) := at_ 1 (by omega)
                  have a2 : wr.cell? ⟨g, m * 4 + 2, none⟩ = some (.bool (cs m).ok) := at_ 2 (by omega)
                  have a3 : wr.cell? ⟨g, m * 4 + 3, none⟩ = some (.int .i64 (cs m).now) := at_ 3 (by omega)
                  have f2 := HI.out.frozenAt (m * 4 + 2)
                  clear at_ hp
                  have hset : Chg [g] wr (wr.setCell ⟨g, m * 4 + 2, none⟩ (.bool (!(cs m).ok))) := (Chg.refl _ _).setCell (.inl (by simp)) _
                  have hgn : ∀ b, u21.ownBlock = some b → b ∉ ([g] : List Nat) := fun b hb hm => own_apart HO.out HI.out (by decide) b hb (by simpa [Value.ownBlock] using hm)
                  have hgs : ∀ b, (Value.slice A3 j cap3).ownBlock = some b → b ∉ ([g] : List Nat) := fun b hb hm => own_apart HS.out HI.out (by decide) b hb (by simpa [Value.ownBlock] using hm)
                  have hgt : w.heap.size ∉ ([g] : List Nat) := fun hm => own_not HI.out HT.out (by decide) (by simpa [Value.ownBlock, eq_comm] using hm)
                  have hgz : w1.heap.size ∉ ([g] : List Nat) := fun hm => own_not HI.out HZ.out (by decide) (by simpa [Value.ownBlock, eq_comm] using hm)
                  have HOS := Lib.hid (ownsRow_chg HO.out hset hgn)
                  have HSS := Lib.hid (ownsRow_chg HS.out hset hgs)
                  have HTS := Lib.hid (HT.out.chg hset hgt)
                  have HZS := Lib.hid (HZ.out.chg hset hgz)
                  have his := (HI.out.stored (m * 4 + 2) (.bool (!(cs m).ok))).1
                  rw [crow_set (f := part cs (fun i => flip (cs i)) m) (f' := part cs (fun i => flip (cs i)) (m + 1)) hlt (by omega) (fun i hi => by unfold part; by_cases h : i < m; (rw [if_pos h, if_pos (by omega)]); (rw [if_neg h, if_neg (by omega)])) (by unfold part; rw [if_pos (by omega), if_neg (by omega)]; rfl)] at his
                  have HIS := Lib.hid his
                  have HOA := Lib.hid (HOS.out.alloc (.cells (ccells (flip (cs m))).toArray 78))
                  have hwl : wd.heap.size ≤ wr.heap.size := HL.out
                  clear hset hgn hgs hgt hgz his
                  go_wp2_with (at_builtin; refine wpList_append_own_at _ rfl (.tmp 148) (.tmp 153) _ rfl wd.heap.size 78 j0 _ 4 32 Try.underlying66 J0.out Y0.out Y1.out Y2.out rfl (by omega) u21 m (crow (fun i => flip (cs i)) m) rfl HOA.out ⟨wr.heap.size, 0, none⟩ 1 1 (ccells (flip (cs m))) rfl rfl (cells_new_at _ _ _ _ (by simp)) (by simp [ccells, Value.oneCell']) (by simp only [maxLen]; omega) (by omega) (by simp; omega) ?_; intro vn w7 hown hgrow hnil hat; have HO7 := Lib.hid hown; have HG7 := Lib.hid hgrow; clear hown hgrow hnil hat)
                  go_roundg (gk - 1)
                  case rel =>
                    have hc7 : Chg u21.ownBlock.toList (wr.setCell ⟨g, m * 4 + 2, none⟩ (.bool (!(cs m).ok))) w7 := ((Chg.refl _ _).alloc _).grown HG7.out (fun b hb => .inl (by simp [hb]))
                    refine ⟨m + 1, by have := HM.out; omega, by go_num, ownsRow_chg HIS.out hc7 (own_apart HIS.out HOS.out (by decide)), ?_, ownsRow_chg HSS.out hc7 (own_apart HSS.out HOS.out (by decide)), HTS.out.chg hc7 (own_not HOS.out HTS.out (by decide)), HZS.out.chg hc7 (own_not HOS.out HZS.out (by decide)), ?_, ?_⟩
                    · rw [crow_succ]; exact HO7.out
                    · refine (HC.out.setCell (.inr hbg) _).trans' hc7 (fun b hb => .inr ?_)
                      have := (HOS.out.lt b (by simpa using hb)).1
                      have := HW10.out.size
                      omega
                    · have := hc7.size
                      simp at this
                      omega
                  case measure => have := HM.out; omega
                · obtain rfl : m = k := by have := HM.out; omega
                  have hml : ¬ (m : Int) < (m : Int) := by omega
                  go_wp2_with fail
                  have hpa : part cs (fun i => flip (cs i)) m = part cs (fun i => flip (cs i)) m := rfl
                  have hI2 := HI.out
                  have hfin : crow (part cs (fun i => flip (cs i)) m) m = crow (fun i => flip (cs i)) m := by
                    apply List.ext_getElem?
                    intro n
                    by_cases hn : n < m * 4
                    · have e : n = n / 4 * 4 + n % 4 := by omega
                      rw [e, crow_at _ _ _ _ (by omega) (Nat.mod_lt _ (by omega)), crow_at _ _ _ _ (by omega) (Nat.mod_lt _ (by omega))]
                      unfold part
                      rw [if_pos (by omega)]
                    · rw [List.getElem?_eq_none (by rw [crow_len]; omega), List.getElem?_eq_none (by rw [crow_len]; omega)]
                  rw [hfin] at hI2
                  have HI2 := Lib.hid hI2
                  have HOn := HO; have HSn := HS; have HTn := HT; have HZn := HZ; have HCn := HC
                  clear hpa hI2 hfin HI HO HS HT HZ HC
                  obtain ⟨we, hwe⟩ : ∃ we : World, we = wr := ⟨_, rfl⟩
                  subst hwe
                  go_loopg [23] j (fun gk i wr => ∃ q : Nat, q + gk = j ∧ i = .int .i64 q ∧ wr.ownsRow w.heap.size 3 1 (.slice A3 j cap3) j (irow (partI xs (stir xs) q) j) ∧ Chg (Value.slice A3 j cap3).ownBlock.toList we wr)
                  case atStart =>
                    refine ⟨0, by omega, rfl, ?_, Chg.refl _ _⟩
                    have e : partI xs (stir xs) 0 = xs := by funext i; unfold partI; rw [if_neg (by omega)]
                    rw [e]
                    exact HSn.out
                  case round =>
                    obtain ⟨q, hq, rfl, hS, hC⟩ := hrel
                    have HQ := Lib.hid hq; have HS := Lib.hid hS; have HC := Lib.hid hC
                    clear hq hS hC
                    by_cases hlt : q < j
                    · have hql : (q : Int) < (j : Int) := by omega
                      obtain ⟨g, cp, he, hbg, hgl⟩ := HS.out.form (by omega)
                      injection he with e1 _ e3
                      subst e1 e3
                      have hp : partI xs (stir xs) q q = xs q := by unfold partI; rw [if_neg (by omega)]
                      have a0 : wr.cell? ⟨g, q, none⟩ = some (.int .i64 (xs q)) := by rw [HS.out.cellAt q (by omega), irow_at _ _ _ hlt, hp]
                      have f0 := HS.out.frozenAt q
                      clear hp
                      go_wp2_with fail
                      go_roundg (gk - 1)
                      case rel =>
                        have s1 := (HS.out.stored q (.int .i64 (stir xs q))).1
                        rw [irow_set (f := partI xs (stir xs) q) (f' := partI xs (stir xs) (q + 1)) hlt (fun i hi => by unfold partI; by_cases h : i < q; (rw [if_pos h, if_pos (by omega)]); (rw [if_neg h, if_neg (by omega)])) (by unfold partI; rw [if_pos (by omega)])] at s1
                        exact ⟨q + 1, by have := HQ.out; omega, by go_num, s1, HC.out.setCell (.inl (by simp [Value.ownBlock])) _⟩
                      case measure => have := HQ.out; omega
                    · obtain rfl : q = j := by have := HQ.out; omega
                      clear hlt
                      have hql : ¬ (q : Int) < (q : Int) := by omega
                      have hsf := HS.out
                      have hfin : irow (partI xs (stir xs) q) q = irow (stir xs) q := by
                        apply List.ext_getElem?
                        intro n
                        by_cases hn : n < q
                        · rw [irow_at _ _ _ hn, irow_at _ _ _ hn]
                          unfold partI
                          rw [if_pos hn]
                        · rw [List.getElem?_eq_none (by rw [irow_len]; omega), List.getElem?_eq_none (by rw [irow_len]; omega)]
                      rw [hfin] at hsf
                      have HSF := Lib.hid hsf
                      have HIF := Lib.hid (ownsRow_chg HI2.out HC.out (own_apart HI2.out HSn.out (by decide)))
                      have HOF := Lib.hid (ownsRow_chg HOn.out HC.out (own_apart HOn.out HSn.out (by decide)))
                      have HTF := Lib.hid (HTn.out.chg HC.out (own_not HSn.out HTn.out (by decide)))
                      have HZF := Lib.hid (HZn.out.chg HC.out (own_not HSn.out HZn.out (by decide)))
                      have HWF : Hid (Chg [] w wr) := HCn.out.trans' HC.out (fun b hb => .inr (HSn.out.lt b (by simpa using hb)).1)
                      obtain ⟨p, hp⟩ : ∃ p, outR t (fun i => flip (cs i)) m (stir xs) q = p := ⟨_, rfl⟩
                      have HP := Lib.hid hp
                      have hpl : p.1.length ≤ 1000 := by rw [← hp]; exact outR_len _ _ _ _ _
                      have hnc := own_nil_cap HSF.out
                      have HNC := Lib.hid hnc
                      clear hsf hfin hp hnc HS HC
                      obtain ⟨A6, cap6, rfl⟩ := own_slice HOF.out
                      obtain ⟨⟨t0, t1, t2⟩, -⟩ := HTF.out.three
                      have hz := HZF.out
                      unfold vcells at hz
                      obtain ⟨⟨z0, z1, z2, z3⟩, y0, y1, y2, y3⟩ := hz.four
                      have htw : w.heap.size < wr.heap.size := HTF.out.lt
                      have hzw : w1.heap.size < wr.heap.size := HZF.out.lt
                      have hzt : ¬ w.heap.size = w1.heap.size := by omega
                      clear hz
                      go_upto_region 34 with fail
                      go_cut [7, 9] from 171 to 180 (fun a b wc => b = .int .i64 p.2.2 ∧ wc.ownsRow wr.heap.size 121 3 a p.1.length (ransOf p.1 p.1.length) ∧ Blk wc w1.heap.size 49 (vcells p.2.1) ∧ Chg [w1.heap.size] wr wc)
                      case first =>
                        go_region_held3 (fun w' => w'.cell? ⟨w.heap.size, 0, none⟩ = some (.int .i64 t.F) ∧ w'.cell? ⟨w.heap.size, 1, none⟩ = some (.int .i64 t.W) ∧ w'.cell? ⟨w.heap.size, 2, none⟩ = some (.int .i64 t.S))
                          (first
                            | ((repeat' apply And.intro) <;> first
                                | (with_reducible assumption)
                                | ((with_reducible refine (far4 ?_).trans ?_) <;> first | (with_reducible assumption) | (simp; omega))
                                | (go_keep; done)))
                          (first
                            | (refine step_append_ints rfl (.tmp 174) (.tmp 175) _ rfl wr.heap.size 3 i0 _ 8 Try.underlying50 I0.out Z0.out Z1.out Z2.out rfl _ rfl (own_drew (World.ownsRow_made wr #[] 0 (Nat.le_refl _) (by simp [maxLen]) rfl)) A3 q cap3 (stir xs) rfl (irow_ints (own_drew (HSF.out.alloc _))) HNC.out (by simp only [maxLen]; omega) (by omega) (by simp) ?_; intro v8 w8x ho8 hg8; obtain ⟨A8, cap8, rfl⟩ := own_slice ho8; have hc8 := grown_new_drew hg8; have ht8 := HTF.out.chg hc8 (by simp); obtain ⟨⟨t80, t81, t82⟩, -⟩ := ht8.three; have HO8 := Lib.hid ho8; have HC8 := Lib.hid hc8; have HT8x := Lib.hid ht8; clear ho8 hg8 hc8 ht8)
                            | (go_at_call 30; have R := ref_any t A6 m cap6 A8 q cap8 w8x (fun i => flip (cs i)) (stir xs) (by omega) (crow_cls (ownsRow_chg HOF.out HC8.out (by simp))) (irow_ints HO8.out); rw [HP.out] at R; refine R.mono ?_; clear R; rintro e w9x ⟨v6, rfl, ho6, hc6⟩; have HC9 := Lib.hid (HC8.out.trans hc6); have ht9 := HTF.out.chg HC9.out (by simp); obtain ⟨⟨t90, t91, t92⟩, -⟩ := ht9.three; have hz9 := HZF.out.chg HC9.out (by simp); unfold vcells at hz9; obtain ⟨⟨z90, z91, z92, z93⟩, y90, y91, y92, y93⟩ := hz9.four; have HO9 := Lib.hid ho6; unfold av; clear ho6 hc6 ht9 hz9))
                        go_wp2_with fail
                        go_meet
                        have hset : Chg [w1.heap.size] w9x ((((w9x.setCell ⟨w1.heap.size, 0, none⟩ (.int .u8 p.2.1.st)).setCell ⟨w1.heap.size, 1, none⟩ (.int .i64 p.2.1.turn)).setCell ⟨w1.heap.size, 2, none⟩ (.int .i64 p.2.1.fails)).setCell ⟨w1.heap.size, 3, none⟩ (.int .i64 p.2.1.at_)) :=
                          ((((Chg.refl _ _).setCell (.inl (by simp)) _).setCell (.inl (by simp)) _).setCell (.inl (by simp)) _).setCell (.inl (by simp)) _
                        have hz9 := HZF.out.chg HC9.out (by simp)
                        refine ⟨rfl, ownsRow_chg (own_base HO9.out HC8.out.size) hset (fun b hb hm => ?_), ((((hz9.set_ 0 _).set_ 1 _).set_ 2 _).set_ 3 _), (HC9.out.mono (by simp)).trans hset⟩
                        obtain rfl : b = w1.heap.size := by simpa using hm
                        exact own_blk_ne HO9.out hz9 (by decide) hb
                      case rest =>
                        obtain ⟨rfl, ho6, hz6, hc6⟩ := hcut
                        obtain ⟨A7, cap7, rfl⟩ := own_slice ho6
                        have hwz : w.heap.size ∉ ([w1.heap.size] : List Nat) := by simp; omega
                        have HTc := Lib.hid (HTF.out.chg hc6 hwz)
                        have HIc := Lib.hid (ownsRow_chg HIF.out hc6 (fun b hb hm => by
                          obtain rfl : b = w1.heap.size := by simpa using hm
                          exact own_blk_ne HIF.out HZF.out (by decide) hb))
                        have HSc := Lib.hid (ownsRow_chg HSF.out hc6 (fun b hb hm => by
                          obtain rfl : b = w1.heap.size := by simpa using hm
                          exact own_blk_ne HSF.out HZF.out (by decide) hb))
                        have HWc : Hid (Chg [] w wc) := HWF.out.trans' hc6 (fun b hb => .inr (by
                          obtain rfl : b = w1.heap.size := by simpa using hb
                          omega))
                        have HO6 := Lib.hid ho6; have HZ6 := Lib.hid hz6
                        obtain ⟨⟨t90, t91, t92⟩, -⟩ := HTc.out.three
                        clear t0 t1 t2 z0 z1 z2 z3 y0 y1 y2 y3 ho6 hz6 hc6
                        go_wp2_with fail
                        have R := race_any t A2 m cap2 A3 q cap3 wc (fun i => flip (cs i)) (stir xs) (by omega) (crow_cls HIc.out) (irow_ints HSc.out)
                        rw [HP.out] at R
                        refine R.mono ?_
                        clear R t90 t91 t92
                        rintro e w9 ⟨v9, rfl, ho9, hc9⟩
                        have HO9 := Lib.hid ho9
                        have HO69 := Lib.hid (ownsRow_chg HO6.out hc9 (by simp))
                        have HZ9 := Lib.hid (HZ6.out.chg hc9 (by simp))
                        have HW9 := Lib.hid (HWc.out.trans hc9)
                        have hz9s : w1.heap.size < w9.heap.size := HZ9.out.lt
                        clear ho9 hc9
                        unfold av
                        have q0 : (p.2.2 == p.2.2) = true := by simp
                        go_wp2_with fail
                        refine (same_any _ _ _ v9 _ p.1 (by omega) (HO9.out.alloc _) (HO69.out.alloc _)).mono ?_
                        rintro e w' ⟨rfl, n9, rfl⟩
                        have hz9 := HZ9.out
                        unfold vcells at hz9
                        obtain ⟨⟨b0, b1, b2, b3⟩, -⟩ := hz9.four
                        clear hz9
                        go_wp2_with fail
                        refine (alike_any p.2.1 _).mono ?_
                        rintro e w10 ⟨rfl, hc10⟩
                        have HC10 : Hid (Chg [] w w10) := ((HW9.out.alloc _).drewN _).trans hc10
                        clear hc10 b0 b1 b2 b3
                        go_wp2_with fail
                        go_ret
                        exact ⟨rfl, HC10.out.below (Nat.le_refl _) (by simp)⟩
end Go.Proofs.Ythbeednmekajaaa
