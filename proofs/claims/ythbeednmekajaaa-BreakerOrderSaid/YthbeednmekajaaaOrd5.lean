import Derived.Test.YthbeednmekajaaaOrd4
namespace Go.Proofs.Ythbeednmekajaaa
open Go.RowKit

theorem Ord.short {t : T} {cs : Nat → Cl} {len : Nat} {s : V × List R} {l : List Nat} (h : Ord t cs len s l) : l.length ≤ len := by
  have hp : (l ++ (List.range len).filter fun i => decide (i ∉ l)).Perm (List.range len) := by
    refine (List.perm_ext_iff_of_nodup ?_ List.nodup_range).2 fun i => ?_
    · rw [List.nodup_append]
      refine ⟨h.nodup, List.Pairwise.filter _ List.nodup_range, fun a ha b hb => ?_⟩
      rintro rfl
      have := (List.mem_filter.1 hb).2
      simp at this
      exact this ha
    · rw [List.mem_append, List.mem_filter, List.mem_range]
      by_cases hi : i ∈ l
      · simp [hi, ((h.mem i).1 hi).1]
      · simp [hi]
  have := hp.length_eq
  rw [List.length_append, List.length_range] at this
  omega

theorem noteI_eq (t : T) (len : Nat) (s : V × List R) (l : List Nat) (i : Int) : noteI t len (s, l) i = (stepAt t s i, if endsAt t len s i = true then l ++ [i.toNat] else l) := by
  unfold noteI stepAt endsAt
  by_cases h0 : 0 ≤ i
  · simp only [if_pos h0, noteAt]
    congr 1
    unfold stepAt
    simp only [if_pos h0]
    by_cases h1 : i < (len : Int)
    · have h1' : i.toNat < len := by omega
      simp [h0, h1, h1']
    · have h1' : ¬ i.toNat < len := by omega
      simp [h1, h1']
  · simp [h0]

theorem noteAt_eq (t : T) (len : Nat) (s : V × List R) (l : List Nat) (i : Nat) : noteAt t len (s, l) i = (stepAt t s (i : Int), if endsAt t len s (i : Int) = true then l ++ [i] else l) := by
  have := noteI_eq t len s l (i : Int)
  unfold noteI at this
  rw [if_pos (by omega), Int.toNat_natCast] at this
  exact this

theorem noteN_fix {t : T} {len : Nat} {x : (V × List R) × List Nat} {i m : Nat} (h : overAt (noteN t len x i m).1.2 i = true) : ∀ n, m ≤ n → noteN t len x i n = noteN t len x i m := by
  intro n hn
  induction n with
  | zero => obtain rfl : m = 0 := by omega
            rfl
  | succ n ih =>
    by_cases he : m = n + 1
    · subst he; rfl
    · have e := ih (by omega)
      rw [noteN, e]
      unfold noteAt
      have hid : takeR t (noteN t len x i m).1 i = (noteN t len x i m).1 := by
        unfold overAt at h
        cases hr : (noteN t len x i m).1.2[i]? with
        | none =>
          unfold takeR
          rw [hr]
        | some r =>
          rw [hr] at h
          exact takeR_over hr h
      rw [hid, if_neg (by rw [h]; simp)]

def nrow (l : List Nat) : List Value := l.map fun (i : Nat) => .int .i64 (i : Int)
theorem nrow_snoc (l : List Nat) (i : Nat) : nrow (l ++ [i]) = nrow l ++ [.int .i64 (i : Int)] := by simp [nrow]
theorem nrow_len (l : List Nat) : (nrow l).length = l.length := by simp [nrow]

def OrderedPost (w : World) (l : List Nat) (e : Ending) (w' : World) : Prop := ∃ v, e = .returned v ∧ w'.ownsRow w.heap.size 3 1 v l.length (nrow l) ∧ Chg [] w w'

set_option maxRecDepth 100000 in
set_option maxHeartbeats 2000000 in
theorem ordered_any (t : T) (A : Option Addr) (len cap : Nat) (B : Option Addr) (sl sc : Nat) (w : World) (cs : Nat → Cl) (xs : Nat → Int) (ht : TOk t = true) (hlen : len ≤ 1000) (hsl : sl ≤ 17592186044416) (hcs : ClsAt w A len cs) (hxs : IntsAt w B sl xs) (hg : Good cs len) :
    Calls Try.prog 36 #[.agg #[.int .i64 t.F, .int .i64 t.W, .int .i64 t.S], .slice A len cap, .slice B sl sc] w (OrderedPost w (orderOf t cs len xs sl)) := by
  have HT := Lib.hid ht; have HCS := Lib.hid hcs; have HG := Lib.hid hg; have HXS := Lib.hid hxs
  clear hcs ht hg hxs
  obtain ⟨i0, hi0, hz0, hz1, hz2⟩ := info_parts rcall_info
  have I0 := Lib.hid hi0
  have Z0 := Lib.hid hz0; have Z1 := Lib.hid hz1; have Z2 := Lib.hid hz2
  obtain ⟨j0, hj0, hy0, hy1, hy2⟩ := info_parts int_info
  have J0 := Lib.hid hj0
  have Y0 := Lib.hid hy0; have Y1 := Lib.hid hy1; have Y2 := Lib.hid hy2
  clear hi0 hz0 hz1 hz2 hj0 hy0 hy1 hy2
  go_enter Try.func36, Try.ntmps36
  go_wp2_with fail
  go_loopg [8, 7] len (fun gk i o wr => ∃ k : Nat, k + gk = len ∧ i = .int .i64 k ∧ wr.ownsRow (w.heap.size + 1) 78 4 o k (crow cs k) ∧ Blk wr w.heap.size 41 #[.int .i64 t.F, .int .i64 t.W, .int .i64 t.S] ∧ Chg [] w wr)
  case atStart => exact ⟨0, by omega, rfl, World.ownsRow_nil _ _ _ _, Blk.new _ _ _, (Chg.refl _ _).alloc _⟩
  case round =>
    obtain ⟨k, hk, rfl, hO, hT, hC⟩ := hrel
    have HK := Lib.hid hk; have HO := Lib.hid hO; have HC := Lib.hid hC; have HTB := Lib.hid hT
    clear hk hO hC hT
    by_cases hlt : k < len
    · obtain ⟨b, off, rfl, hb, hcl⟩ := HCS.out (by omega)
      have hb' : b < wr.heap.size := Nat.lt_of_lt_of_le hb HC.out.size
      obtain ⟨x0, x1, x2, x3⟩ := (hcl k hlt).chg HC.out hb (by simp)
      have hkl : (k : Int) < (len : Int) := by omega
      have HOA := Lib.hid (HO.out.alloc (.cells (ccells (cs k)).toArray 78))
      have hqs : w.heap.size < wr.heap.size := HTB.out.lt
      clear hcl
      go_wp2_with (at_builtin; refine wpList_append_own_at _ rfl (.tmp 19) (.tmp 24) _ rfl (w.heap.size + 1) 78 i0 _ 4 32 Try.underlying66 I0.out Z0.out Z1.out Z2.out rfl (by omega) u7 k (crow cs k) rfl HOA.out ⟨wr.heap.size, 0, none⟩ 1 1 (ccells (cs k)) rfl rfl (cells_new_at _ _ _ _ rfl) (by simp [ccells, Value.oneCell']) (by simp only [maxLen]; omega) (by omega) (by simp; omega) ?_; intro v1 w7 hown hgrow hnil hat; have HO7 := Lib.hid hown; have HG7 := Lib.hid hgrow; clear hown hgrow hnil hat)
      go_roundg (gk - 1)
      case rel =>
        have hc7 : Chg u7.ownBlock.toList wr w7 := ((Chg.refl _ wr).alloc _).grown HG7.out (fun b hb => .inl (by simp [hb]))
        refine ⟨k + 1, by have := HK.out; omega, by go_num, ?_, HTB.out.chg hc7 (own_not HO.out HTB.out (by decide)), HC.out.trans' hc7 (fun b hb => .inr (by have := (HO.out.lt b (by simpa using hb)).1; omega))⟩
        rw [crow_succ]
        exact HO7.out
      case measure => have := HK.out; omega
    · obtain rfl : k = len := by have := HK.out; omega
      clear hlt
      have hkl : ¬ (k : Int) < (k : Int) := by omega
      obtain ⟨A1, cap1, rfl⟩ := own_slice HO.out
      obtain ⟨⟨t0, t1, t2⟩, -⟩ := HTB.out.three
      go_wp2_with fail
      refine (begin_any t A1 k cap1 wr cs HT.out hlen (crow_cls HO.out) HG.out).mono ?_
      clear t0 t1 t2
      rintro e wb ⟨y, x, g, cg, rfl, hH, hy, hx, hgg, hcb⟩
      have HCB : Hid (Chg [] w wb) := HC.out.trans hcb
      have HH := Lib.hid hH
      have hsz : w.heap.size ≤ wr.heap.size := HC.out.size
      have HX : Hid (w.heap.size ≤ x) := Nat.le_trans hsz hx
      have HGX : Hid (w.heap.size ≤ g) := Nat.le_trans hsz hgg
      have hyl : y < wb.heap.size := hH.b.lt
      have HXL : Hid (x < wb.heap.size) := by obtain ⟨qs, h, _⟩ := hH.r; exact h.blk.lt
      have HGL : Hid (g < wb.heap.size) := by obtain ⟨qs, h, _⟩ := hH.r; exact h.lt
      have HIN := Lib.hid (initR_inv HG.out)
      have HOR : Hid (Ord t cs k (v0, initR cs k) []) := ord_init t cs k ⟨_, init_sims t cs k⟩
      clear hH hcb hx hgg
      go_wp2_with fail
      go_loopg [11, 10] sl (fun gk i o wz => ∃ j : Nat, j + gk = sl ∧ i = .int .i64 j ∧ Hand wz y x g cg t (noteSched t k ((v0, initR cs k), []) xs j).1 ∧ wz.ownsRow wb.heap.size 3 1 o (noteSched t k ((v0, initR cs k), []) xs j).2.length (nrow (noteSched t k ((v0, initR cs k), []) xs j).2) ∧ Chg [] w wz ∧ wb.heap.size ≤ wz.heap.size)
      case atStart => exact ⟨0, by omega, rfl, HH.out, World.ownsRow_nil wb wb.heap.size 3 1, HCB.out, Nat.le_refl _⟩
      case round =>
        obtain ⟨j, hj, rfl, hH, hO, hC, hL⟩ := hrel
        have HJ := Lib.hid hj; have HHz := Lib.hid hH; have HOz := Lib.hid hO; have HCz := Lib.hid hC; have HLz := Lib.hid hL
        clear hj hH hO hC hL
        have hor := HOR.out.sched (x := ((v0, initR cs k), [])) xs j
        have hin : Inv cs k (j : Int) (noteSched t k ((v0, initR cs k), []) xs j).1.2 := by
          rw [noteSched_fst]
          have := HIN.out.sched (t := t) (s := (v0, initR cs k)) xs j
          simpa using this
        have HORz := Lib.hid hor; have HINz := Lib.hid hin
        clear hor hin
        by_cases hlt : j < sl
        · obtain ⟨b, off, rfl, hb, hcl⟩ := HXS.out (by omega)
          have x0 := (HCz.out.cell (p := ⟨b, off + j, none⟩) hb (by simp)).trans (hcl j hlt)
          have hjl : (j : Int) < (sl : Int) := by omega
          have hnext : noteSched t k ((v0, initR cs k), []) xs (j + 1) = noteI t k (noteSched t k ((v0, initR cs k), []) xs j) (xs j) := rfl
          rw [← Prod.eta (noteSched t k ((v0, initR cs k), []) xs j), noteI_eq] at hnext
          have HNX := Lib.hid hnext
          have HXSC : Hid (w.cell? ⟨b, off + j, none⟩ = some (.int .i64 (xs j)) ∧ True) := ⟨hcl j hlt, trivial⟩
          clear hcl hnext
          generalize noteSched t k ((v0, initR cs k), []) xs j = st at *
          go_wp2_with fail
          refine (hand_any wr y x g cg t st.1 (xs j) HHz.out HINz.out hlen (by omega)).mono ?_
          rintro e w' ⟨rfl, hH1, hC1⟩
          have HH1 := Lib.hid hH1
          have HC1 : Hid (Chg [] w w') := HCz.out.trans' hC1 (by simp; exact ⟨HX.out, HGX.out⟩)
          have HO1 := Lib.hid (ownsRow_chg HOz.out hC1 (fun b hb => by
            have := (HOz.out.lt b hb).1
            simp
            exact ⟨by have := HXL.out; omega, by have := HGL.out; omega⟩))
          have HL1 : Hid (wb.heap.size ≤ w'.heap.size) := Nat.le_trans HLz.out hC1.size
          clear hH1 hC1
          cases hen : endsAt t k st.1 (xs j)
          · have HEN := Lib.hid hen
            clear hen
            go_wp2_with fail
            go_roundg (gk - 1)
            case rel =>
              refine ⟨j + 1, by have := HJ.out; omega, by go_num, ?_, ?_, HC1.out, HL1.out⟩
              · rw [HNX.out]; exact HH1.out
              · rw [HNX.out]; simp only [HEN.out, Bool.false_eq_true, if_false]; exact HO1.out
            case measure => have := HJ.out; omega
          · have HEN := Lib.hid hen
            have hx0 : 0 ≤ xs j := by
              unfold endsAt at hen
              simp only [Bool.and_eq_true, decide_eq_true_eq] at hen
              exact hen.1.1.1
            have hxj : xs j = ((xs j).toNat : Int) := by omega
            have HXJ := Lib.hid hxj
            have hshort : st.2.length ≤ k := HORz.out.short
            have HOA := Lib.hid (HO1.out.alloc (.cells #[.int .i64 (xs j)] 3))
            have hwl : wb.heap.size ≤ w'.heap.size := HL1.out
            have x1 := (HC1.out.cell (p := ⟨b, off + j, none⟩) hb (by simp)).trans ((HXSC.out).1)
            clear hen hx0 hxj
            go_wp2_with (at_builtin; refine wpList_append_own_at _ rfl (.tmp 41) (.tmp 46) _ rfl wb.heap.size 3 j0 _ 1 8 Try.underlying50 J0.out Y0.out Y1.out Y2.out rfl (by omega) u10 st.2.length (nrow st.2) rfl HOA.out ⟨w'.heap.size, 0, none⟩ 1 1 [.int .i64 (xs j)] rfl rfl (cell_one_new _ _ _) (by simp [Value.oneCell']) (by simp only [maxLen]; omega) (by omega) (by simp; omega) ?_; intro v1 w7 hown hgrow hnil hat; have HO7 := Lib.hid hown; have HG7 := Lib.hid hgrow; clear hown hgrow hnil hat)
            go_roundg (gk - 1)
            case rel =>
              have hc7 : Chg u10.ownBlock.toList w' w7 := ((Chg.refl _ w').alloc _).grown HG7.out (fun b hb => .inl (by simp [hb]))
              have hnot : ∀ b, b < wb.heap.size → b ∉ u10.ownBlock.toList := fun b hb hm => by
                have := (HO1.out.lt b (by simpa using hm)).1
                omega
              refine ⟨j + 1, by have := HJ.out; omega, by go_num, ?_, ?_, HC1.out.trans' hc7 (fun b hb => .inr ?_), Nat.le_trans hwl hc7.size⟩
              · rw [HNX.out]; exact HH1.out.chg hc7 (hnot _ hyl) (hnot _ HXL.out) (hnot _ HGL.out)
              · rw [HNX.out]
                simp only [HEN.out, if_true]
                rw [nrow_snoc, List.length_append, ← HXJ.out]
                exact HO7.out
              · have := (HO1.out.lt b (by simpa using hb)).1
                have := HCB.out.size
                omega
            case measure => have := HJ.out; omega
        · obtain rfl : j = sl := by have := HJ.out; omega
          clear hlt
          have hjl : ¬ (j : Int) < (j : Int) := by omega
          have hfinal : orderOf t cs k xs j = (noteFin t k (noteSched t k ((v0, initR cs k), []) xs j) k).2 := rfl
          have HFINAL := Lib.hid hfinal
          have HHs := HHz; have HOs := HOz; have HCs := HCz; have HLs := HLz; have HOR0 := HORz; have HIN0 := HINz
          clear hfinal HHz HOz HCz HLz HORz HINz
          generalize noteSched t k ((v0, initR cs k), []) xs j = st0 at *
          go_wp2_with fail
          go_loopg [12, 10] k (fun gk i o wz => ∃ n : Nat, n + gk = k ∧ i = .int .i64 n ∧ Hand wz y x g cg t (noteFin t k st0 n).1 ∧ wz.ownsRow wb.heap.size 3 1 o (noteFin t k st0 n).2.length (nrow (noteFin t k st0 n).2) ∧ Chg [] w wz ∧ wb.heap.size ≤ wz.heap.size)
          case atStart => exact ⟨0, by omega, rfl, HHs.out, HOs.out, HCs.out, HLs.out⟩
          case round =>
            obtain ⟨n, hn, rfl, hH, hO, hC, hL⟩ := hrel
            have HN := Lib.hid hn; have HHz := Lib.hid hH; have HOz := Lib.hid hO; have HCz := Lib.hid hC; have HLz := Lib.hid hL
            clear hn hH hO hC hL
            by_cases hlt : n < k
            · have hnk : (n : Int) < (k : Int) := by omega
              go_wp2_with fail
              obtain ⟨wo, hwo⟩ : ∃ wo : World, wo = wr := ⟨_, rfl⟩
              subst hwo
              obtain ⟨gn, hgn⟩ : ∃ x : Nat, x = gk := ⟨_, rfl⟩
              subst hgn
              go_loopg [10] 3 (fun gm o wz => ∃ m : Nat, m + gm = 3 ∧ Hand wz y x g cg t (noteN t k (noteFin t k st0 n) n m).1 ∧ wz.ownsRow wb.heap.size 3 1 o (noteN t k (noteFin t k st0 n) n m).2.length (nrow (noteN t k (noteFin t k st0 n) n m).2) ∧ Chg [] w wz ∧ wb.heap.size ≤ wz.heap.size)
              case atStart => exact ⟨0, rfl, HHz.out, HOz.out, HCz.out, HLz.out⟩
              case round =>
                obtain ⟨m, hm, hH, hO, hC, hL⟩ := hrel
                have HM := Lib.hid hm; have HHm := Lib.hid hH; have HOm := Lib.hid hO; have HCm := Lib.hid hC; have HLm := Lib.hid hL
                clear hm hH hO hC hL
                have horm := (HOR0.out.fin n).noteN n m
                have hinm : Inv cs k ((j : Int) + 3 * n + m) (noteN t k (noteFin t k st0 n) n m).1.2 := by
                  rw [noteN_fst, noteFin_fst]
                  exact (HIN0.out.fin (t := t) n).takeN n m
                have hf3 : overAt (noteN t k (noteFin t k st0 n) n 3).1.2 n = true := by
                  rw [noteN_fst, noteFin_fst]
                  exact fin_waits (t := t) HG.out HIN0.out hlt
                have hnext : noteN t k (noteFin t k st0 n) n (m + 1) = noteAt t k (noteN t k (noteFin t k st0 n) n m) n := rfl
                rw [← Prod.eta (noteN t k (noteFin t k st0 n) n m), noteAt_eq] at hnext
                have hfin : overAt (noteN t k (noteFin t k st0 n) n m).1.2 n = true → noteFin t k st0 (n + 1) = noteN t k (noteFin t k st0 n) n m := fun h => noteN_fix h 3 (by have := HM.out; omega)
                have hm3 : overAt (noteN t k (noteFin t k st0 n) n m).1.2 n = false → m < 3 := fun h => by
                  rcases Nat.lt_or_ge m 3 with h1 | h1
                  · exact h1
                  · obtain rfl : m = 3 := by have := HM.out; omega
                    rw [hf3] at h; cases h
                have HORm := Lib.hid horm; have HINm := Lib.hid hinm; have HNX := Lib.hid hnext; have HFIN := Lib.hid hfin; have HM3 := Lib.hid hm3
                clear horm hinm hf3 hnext hfin hm3
                generalize noteN t k (noteFin t k st0 n) n m = st at *
                go_wp2_with fail
                refine (over_any wr y x g cg t st.1 n HHm.out HINm.out hlt hlen).mono ?_
                rintro e w' ⟨rfl, hc1⟩
                have HH1 := Lib.hid (HHm.out.chg hc1 (by simp) (by simp) (by simp))
                have HO1 := Lib.hid (ownsRow_chg HOm.out hc1 (by simp))
                have HC1 : Hid (Chg [] w w') := HCm.out.trans hc1
                have HL1 : Hid (wb.heap.size ≤ w'.heap.size) := Nat.le_trans HLm.out hc1.size
                clear hc1
                cases hov : overAt st.1.2 n
                · have hm3 := HM3.out hov
                  clear hov
                  go_wp2_with fail
                  refine (hand_any w' y x g cg t st.1 (n : Int) HH1.out HINm.out hlen (by omega)).mono ?_
                  rintro e w2 ⟨rfl, hH2, hC2⟩
                  have HH2 := Lib.hid hH2
                  have HC2 : Hid (Chg [] w w2) := HC1.out.trans' hC2 (by simp; exact ⟨HX.out, HGX.out⟩)
                  have HO2 := Lib.hid (ownsRow_chg HO1.out hC2 (fun b hb => by
                    have := (HO1.out.lt b hb).1
                    simp
                    exact ⟨by have := HXL.out; omega, by have := HGL.out; omega⟩))
                  have HL2 : Hid (wb.heap.size ≤ w2.heap.size) := Nat.le_trans HL1.out hC2.size
                  clear hH2 hC2
                  cases hen : endsAt t k st.1 (n : Int)
                  · have HEN := Lib.hid hen
                    clear hen
                    go_wp2_with fail
                    go_roundg (gk - 1)
                    case rel =>
                      refine ⟨m + 1, by have := HM.out; omega, ?_, ?_, HC2.out, HL2.out⟩
                      · rw [HNX.out]; exact HH2.out
                      · rw [HNX.out]; simp only [HEN.out, Bool.false_eq_true, if_false]; exact HO2.out
                    case measure => have := HM.out; omega
                  · have HEN := Lib.hid hen
                    have hshort : st.2.length ≤ k := HORm.out.short
                    have HOA := Lib.hid (HO2.out.alloc (.cells #[.int .i64 (n : Int)] 3))
                    have hwl : wb.heap.size ≤ w2.heap.size := HL2.out
                    clear hen
                    go_wp2_with (at_builtin; refine wpList_append_own_at _ rfl (.tmp 61) (.tmp 63) _ rfl wb.heap.size 3 j0 _ 1 8 Try.underlying50 J0.out Y0.out Y1.out Y2.out rfl (by omega) u10 st.2.length (nrow st.2) rfl HOA.out ⟨w2.heap.size, 0, none⟩ 1 1 [.int .i64 (n : Int)] rfl rfl (cell_one_new _ _ _) (by simp [Value.oneCell']) (by simp only [maxLen]; omega) (by omega) (by simp; omega) ?_; intro v1 w7 hown hgrow hnil hat; have HO7 := Lib.hid hown; have HG7 := Lib.hid hgrow; clear hown hgrow hnil hat)
                    go_roundg (gk - 1)
                    case rel =>
                      have hc7 : Chg u10.ownBlock.toList w2 w7 := ((Chg.refl _ w2).alloc _).grown HG7.out (fun b hb => .inl (by simp [hb]))
                      have hnot : ∀ b, b < wb.heap.size → b ∉ u10.ownBlock.toList := fun b hb hm => by
                        have := (HO2.out.lt b (by simpa using hm)).1
                        omega
                      refine ⟨m + 1, by have := HM.out; omega, ?_, ?_, HC2.out.trans' hc7 (fun b hb => .inr ?_), Nat.le_trans hwl hc7.size⟩
                      · rw [HNX.out]; exact HH2.out.chg hc7 (hnot _ hyl) (hnot _ HXL.out) (hnot _ HGL.out)
                      · rw [HNX.out]
                        simp only [HEN.out, if_true]
                        rw [nrow_snoc, List.length_append]
                        exact HO7.out
                      · have := (HO2.out.lt b (by simpa using hb)).1
                        have := HCB.out.size
                        omega
                    case measure => have := HM.out; omega
                · have HE := Lib.hid (HFIN.out hov)
                  clear hov
                  go_wp2_with fail
                  go_roundg (gn - 1)
                  case rel =>
                    refine ⟨n + 1, by have := HN.out; omega, by go_num, ?_, ?_, HC1.out, HL1.out⟩
                    · rw [HE.out]; exact HH1.out
                    · rw [HE.out]; exact HO1.out
                  case measure => have := HN.out; omega
            · have HHn := HHz; have HOn := HOz; have HCn := HCz
              obtain rfl : n = k := by have := HN.out; omega
              have hnn : ¬ (n : Int) < (n : Int) := by omega
              rw [← HFINAL.out] at HOn
              have hbs := HCB.out.size
              go_wp2_with fail
              go_ret
              exact ⟨_, rfl, own_base HOn.out hbs, HCn.out⟩
end Go.Proofs.Ythbeednmekajaaa
