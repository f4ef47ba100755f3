/-
  What a registry is asked: its lists, a name, a kind.
-/
import Derived.Test.YtacijlfckmllcaaGreatDoorReg5
namespace Go.Proofs.YtacijlfckmllcaaGreatDoor
open Go.RowKit Go.WideMaps Go.Maps

theorem freezeS_any (w : World) (F : List Nat) (g : Nat) (s : St) (rv tv : Value) (mb : Nat) (D : DataW Unit) (hR : Reg w g 0 (fzn s.fz) 0 rv (.map (some mb)) tv (fzn s.fz)) (hS : Rest w F g s rv tv mb D) :
    Calls Tryz.prog 24 #[.pointer (some ⟨g, 0, none⟩)] w fun e w' => e = .returned (.tuple #[]) ∧ Reg w' g 0 1 0 rv (.map (some mb)) tv 1 ∧ Rest w' F g { s with fz := true } rv tv mb D ∧ Chg [g] w w' :=
  (freeze_any w g s.fz rv _ tv hR).mono fun _ _ ⟨he, h1, h2⟩ => ⟨he, h1, by have := hS.own hR h2; exact ⟨this.rows, this.taken, this.apart, this.map, this.names, this.gF, this.mF, this.rF, this.tF, this.r0, this.t0⟩, h2⟩

def ListPost (w : World) (F : List Nat) (g : Nat) (s : St) (l : List Rw) (e : Ending) (w' : World) : Prop :=
  ∃ v, e = .returned v ∧ w'.ownsRow w.heap.size 30 3 v l.length (rwsC l) ∧ RegS w' F g { s with fz := true } ∧ Chg F w w'

theorem own_base {w : World} {base base' : Nat} {e : TypeId} {size n : Nat} {v : Value} {xs : List Value} (h : w.ownsRow base e size v n xs) (hb : base' ≤ base) : w.ownsRow base' e size v n xs := by
  obtain ⟨h1, h2⟩ := h
  refine ⟨h1, ?_⟩
  rcases h2 with h2 | ⟨g, cap, cur, hv, hg, r⟩
  · exact .inl h2
  · exact .inr ⟨g, cap, cur, hv, Nat.le_trans hb hg, r⟩

set_option maxRecDepth 100000 in
set_option maxHeartbeats 1000000 in
theorem roll_any (w : World) (F : List Nat) (g : Nat) (s : St) (h : RegS w F g s) (hl : s.rows.length ≤ 5864062014640) :
    Calls Tryz.prog 10 #[.pointer (some ⟨g, 0, none⟩)] w (ListPost w F g s s.rows) := by
  obtain ⟨rv, tv, mb, D, hR, hS⟩ := h
  have HR := Lib.hid hR; have HS := Lib.hid hS
  clear hR hS
  go_enter Tryz.func10, Tryz.ntmps10
  go_wp2_with fail
  refine (freezeS_any w F g s rv tv mb D HR.out HS.out).mono ?_
  rintro e w1 ⟨rfl, hb1, hs1, hc1⟩
  have c5 := hb1.c5
  have HB1 := Lib.hid hb1; have HS1 := Lib.hid hs1; have HC1 := Lib.hid hc1
  clear hb1 hs1 hc1
  go_wp2_with fail
  refine (clone_any _ s.rows rv HS1.out.rows HS1.out.r0 hl).mono ?_
  rintro e w2 ⟨v, rfl, ho, hc2⟩
  have HO := Lib.hid ho; have HC2 := Lib.hid hc2
  clear ho hc2
  go_wp2_with fail
  go_ret
  exact ⟨v, rfl, own_base HO.out HC1.out.size, ⟨rv, tv, mb, D, HB1.out.chg HC2.out (by simp), HS1.out.fresh HC2.out⟩, (HS.out.g1 HC1.out).trans (HC2.out.mono (by simp))⟩

set_option maxRecDepth 100000 in
set_option maxHeartbeats 1000000 in
theorem refused_any (w : World) (F : List Nat) (g : Nat) (s : St) (h : RegS w F g s) (hl : s.taken.length ≤ 5864062014640) :
    Calls Tryz.prog 11 #[.pointer (some ⟨g, 0, none⟩)] w (ListPost w F g s s.taken) := by
  obtain ⟨rv, tv, mb, D, hR, hS⟩ := h
  have HR := Lib.hid hR; have HS := Lib.hid hS
  clear hR hS
  go_enter Tryz.func11, Tryz.ntmps11
  go_wp2_with fail
  refine (freezeS_any w F g s rv tv mb D HR.out HS.out).mono ?_
  rintro e w1 ⟨rfl, hb1, hs1, hc1⟩
  have c7 := hb1.c7
  have HB1 := Lib.hid hb1; have HS1 := Lib.hid hs1; have HC1 := Lib.hid hc1
  clear hb1 hs1 hc1
  go_wp2_with fail
  refine (clone_any _ s.taken tv HS1.out.taken HS1.out.t0 hl).mono ?_
  rintro e w2 ⟨v, rfl, ho, hc2⟩
  have HO := Lib.hid ho; have HC2 := Lib.hid hc2
  clear ho hc2
  go_wp2_with fail
  go_ret
  exact ⟨v, rfl, own_base HO.out HC1.out.size, ⟨rv, tv, mb, D, HB1.out.chg HC2.out (by simp), HS1.out.fresh HC2.out⟩, (HS.out.g1 HC1.out).trans (HC2.out.mono (by simp))⟩

def r00 : Rw := ⟨⟨#[]⟩, 0, 0⟩
def rval (r : Rw) : Value := .agg #[.string r.nm, .int .u8 r.kd, .int .u32 r.fc]
def namedL (l : List Rw) (nm : ByteArray) : Rw × Int := match l.find? (fun r => decide (r.nm = nm)) with | some r => (r, 0) | none => (r00, 170)
def ofL (l : List Rw) (kd : Int) : Rw × Int := match l.find? (fun r => decide (r.kd = kd)) with | some r => (r, 0) | none => (r00, 40)

def AskPost (w : World) (F : List Nat) (g : Nat) (s : St) (r : Rw × Int) (e : Ending) (w' : World) : Prop :=
  e = .returned (.tuple #[rval r.1, .int .i64 r.2]) ∧ RegS w' F g { s with fz := true } ∧ Chg F w w'

theorem row_at {w : World} {base : Nat} {e : TypeId} {A : Option Addr} {n cap : Nat} {l : List Rw} (h : w.ownsRow base e 3 (.slice A n cap) l.length (rwsC l)) {i : Nat} {r : Rw} (hi : l[i]? = some r) :
    n = l.length ∧ ∃ b, A = some ⟨b, 0, none⟩ ∧ b < w.heap.size ∧ w.cell? ⟨b, i * 3, none⟩ = some (.string r.nm) ∧ w.cell? ⟨b, i * 3 + 1, none⟩ = some (.int .u8 r.kd) ∧ w.cell? ⟨b, i * 3 + 2, none⟩ = some (.int .u32 r.fc) := by
  have hil : i < l.length := (List.getElem?_eq_some_iff.1 hi).1
  obtain ⟨b, c, he, _, hb⟩ := h.form (by omega)
  injection he with e1 e2 e3
  subst e1 e2 e3
  have at_ : ∀ j, j < 3 → w.cell? ⟨b, i * 3 + j, none⟩ = (rwc r)[j]? := fun j hj => by
    rw [h.cellAt (i * 3 + j) (by omega)]
    exact rwsC_at l i j r hi hj
  exact ⟨rfl, b, rfl, hb, at_ 0 (by omega), at_ 1 (by omega), at_ 2 (by omega)⟩

theorem ask_end {w w1 W : World} {o : Obj} {F : List Nat} {g : Nat} {s : St} {rv tv : Value} {mb : Nat} {D : DataW Unit} (hR : Reg w1 g 0 1 0 rv (.map (some mb)) tv 1) (hS1 : Rest w1 F g { s with fz := true } rv tv mb D) (hS : Rest w F g s rv tv mb D)
    (hc : Chg [g] (w.alloc o) w1) (hW : Chg [w.heap.size] w1 W) (hg : g < w.heap.size) : RegS W F g { s with fz := true } ∧ Chg F w W := by
  refine ⟨⟨rv, tv, mb, D, hR.chg hW (by simp; omega), hS1.chg hW ?_ ?_ ?_⟩, (hS.g1 (((Chg.refl [g] w).alloc o).trans hc)).trans' hW (fun i hi => .inr (by simp at hi; omega))⟩
  · intro b hb hm
    obtain rfl : b = w.heap.size := by simpa using hm
    have := (hS.rows.lt _ hb).2
    omega
  · intro b hb hm
    obtain rfl : b = w.heap.size := by simpa using hm
    have := (hS.taken.lt _ hb).2
    omega
  · intro hm
    have := hS.map.lt
    simp at hm
    omega

theorem set3 (w : World) (b : Nat) (x y z : Value) : Chg [b] w (((w.setCell ⟨b, 0, none⟩ x).setCell ⟨b, 1, none⟩ y).setCell ⟨b, 2, none⟩ z) := (((Chg.refl [b] w).setCell (.inl (by simp)) x).setCell (.inl (by simp)) y).setCell (.inl (by simp)) z

theorem askPost_mk {w W : World} {F : List Nat} {g : Nat} {s : St} {r : Rw × Int} {x : Rw} {c : Int} (hr : r = (x, c)) (h : RegS W F g { s with fz := true } ∧ Chg F w W) : AskPost w F g s r (.returned (.tuple #[rval x, .int .i64 c])) W := by
  subst hr
  exact ⟨rfl, h⟩

set_option maxRecDepth 100000 in
set_option maxHeartbeats 1000000 in
theorem named_any (w : World) (F : List Nat) (g : Nat) (s : St) (nm : ByteArray) (h : RegS w F g s) (_hl : s.rows.length ≤ 5864062014640) (hx : nm.size ≤ maxLen) :
    Calls Tryz.prog 12 #[.pointer (some ⟨g, 0, none⟩), .string nm] w (AskPost w F g s (namedL s.rows nm)) := by
  obtain ⟨rv, tv, mb, D, hR, hS⟩ := h
  have HR := Lib.hid hR; have HS := Lib.hid hS
  have hkey := keyOf_string_mk (P := Tryz.prog) (k := 9) Tryz.underlying9 hx
  have HK := Lib.hid hkey
  have hbl := hR.lt
  clear hR hS hkey
  go_enter Tryz.func12, Tryz.ntmps12
  go_wp2_with fail
  refine (freezeS_any _ F g s rv tv mb D (HR.out.alloc _) (HS.out.fresh ((Chg.refl [] w).alloc _))).mono ?_
  rintro e w1 ⟨rfl, hb1, hs1, hc1⟩
  have c5 := hb1.c5; have c6 := hb1.c6
  have hz := (Blk.new w 30 #[.string ⟨#[]⟩, .int .u8 0, .int .u32 0]).chg hc1 (by simp; omega)
  obtain ⟨⟨z0, z1, z2⟩, ⟨f0, f1, f2⟩⟩ := hz.three
  have HB1 := Lib.hid hb1; have HS1 := Lib.hid hs1; have HC1 := Lib.hid hc1
  have hh := HS1.out.names.has_ nm
  clear hb1 hs1 hc1 hz
  cases hn : hasNm s.rows nm
  · have HE : Hid (namedL s.rows nm = (r00, 170)) := by
      show _ = _
      unfold namedL
      have : s.rows.find? (fun r => decide (r.nm = nm)) = none := by
        rw [List.find?_eq_none]
        intro r hr
        have := List.any_eq_false.1 hn r hr
        simpa using this
      rw [this]
    have hh' : has D (.string nm.data.toList) = false := hh.trans hn
    clear hh hn
    go_wp2_with (at_lookup; refine wpList_lookup_own_ok_int _ rfl (.tmp 17) (.tmp 18) 46 rfl 9 3 .i64 law_names Tryz.underlying46 Tryz.underlying3 (zero_int _) mb s.rows.length D rfl HS1.out.map _ _ rfl HK.out ?_; intro c hat hwc; clear hat hwc)
    refine bodyPost_ret (v := .tuple #[rval r00, .int .i64 170]) (by simp only [results, Tryz.results12, rval, r00]; go_simp) rfl ?_
    exact askPost_mk HE.out (ask_end HB1.out HS1.out HS.out HC1.out (set3 _ _ _ _ _) hbl)
  · obtain ⟨r, hr⟩ : ∃ r, s.rows.find? (fun r => decide (r.nm = nm)) = some r := by
      obtain ⟨r0, hr0, hd⟩ := List.any_eq_true.1 hn
      have : (s.rows.find? (fun r => decide (r.nm = nm))).isSome = true := List.find?_isSome.2 ⟨r0, hr0, hd⟩
      exact Option.isSome_iff_exists.1 this
    have HE : Hid (namedL s.rows nm = (r, 0)) := by
      show _ = _
      unfold namedL
      rw [hr]
    have hrn : r.nm = nm := by simpa using List.find?_some hr
    obtain ⟨i, hi⟩ := List.getElem?_of_mem (List.mem_of_find?_eq_some hr)
    have hik := HS1.out.names.at_ i r hi (.lit (.int .i64 0))
    rw [hrn] at hik
    have HIK := Lib.hid hik
    obtain ⟨A, cap, hA⟩ := own_slice HS1.out.rows
    subst hA
    obtain ⟨hlen, b, rfl, hb, q0, q1, q2⟩ := row_at HS1.out.rows hi
    have hil : i < s.rows.length := (List.getElem?_eq_some_iff.1 hi).1
    have hilI : (i : Int) < (s.rows.length : Int) := by omega
    have hbw : ¬ b = w.heap.size := by
      have := (HS.out.rows.lt b rfl).2
      omega
    have hh' : has D (.string nm.data.toList) = true := hh.trans hn
    clear hh hn hr hi hik hlen
    go_wp2_with (at_lookup; refine wpList_lookup_own_ok_int _ rfl (.tmp 17) (.tmp 18) 46 rfl 9 3 .i64 law_names Tryz.underlying46 Tryz.underlying3 (zero_int _) mb s.rows.length D rfl HS1.out.map _ _ rfl HK.out ?_; intro c hat hwc; obtain rfl : c = (i : Int) := (by have h1 := hat.symm.trans HIK.out; injection h1 with h1; injection h1); clear hat hwc)
    refine bodyPost_ret (v := .tuple #[rval r, .int .i64 0]) (by simp only [results, Tryz.results12, rval]; go_simp) rfl ?_
    exact askPost_mk HE.out (ask_end HB1.out HS1.out HS.out HC1.out (set3 _ _ _ _ _) hbl)
end Go.Proofs.YtacijlfckmllcaaGreatDoor
