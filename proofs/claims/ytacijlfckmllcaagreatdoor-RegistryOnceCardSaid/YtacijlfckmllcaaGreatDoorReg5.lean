/-
  A registry made; how often it was frozen; its lists, copied.
-/
import Derived.Test.YtacijlfckmllcaaGreatDoorReg4
namespace Go.Proofs.YtacijlfckmllcaaGreatDoor
open Go.RowKit Go.WideMaps Go.Maps

def NewPost (w : World) (e : Ending) (w' : World) : Prop := ∃ g F, e = .returned (.pointer (some ⟨g, 0, none⟩)) ∧ RegS w' F g ⟨[], [], false⟩ ∧ (∀ b ∈ F, w.heap.size ≤ b) ∧ Chg [] w w'

set_option maxRecDepth 100000 in
set_option maxHeartbeats 1000000 in
theorem new_any (w : World) : Calls Tryz.prog 7 #[] w (NewPost w) := by
  have hmm := @run_makeMap Tryz.prog
  go_enter Tryz.func7, Tryz.ntmps7
  go_wp2_with fail
  go_ret
  have hm := World.ownsMap_made w Tryz.prog 9 (plainElem (H := Unit) Tryz.prog 3)
  refine ⟨w.heap.size + 1, [w.heap.size, w.heap.size + 1], rfl, ⟨.slice none 0 0, .slice none 0 0, w.heap.size, .map [], Blk.new' _ _ _ _ (by simp), ?_⟩, ?_, ((Chg.refl [] w).alloc _).alloc _⟩
  · exact ⟨World.ownsRow_nil _ _ _ _, World.ownsRow_nil _ _ _ _, .inl rfl, hm.alloc _, NamesOk.nil, by simp, by simp, by simp [Value.ownBlock], by simp [Value.ownBlock], fun _ => rfl, fun _ => rfl⟩
  · intro b hb
    simp at hb
    omega

def FzPost (w : World) (F : List Nat) (g : Nat) (s : St) (v : Value) (e : Ending) (w' : World) : Prop := e = .returned v ∧ RegS w' F g s ∧ Chg F w w'

set_option maxRecDepth 100000 in
set_option maxHeartbeats 1000000 in
theorem frozens_any (w : World) (F : List Nat) (g : Nat) (s : St) (h : RegS w F g s) :
    Calls Tryz.prog 14 #[.pointer (some ⟨g, 0, none⟩)] w (FzPost w F g s (.int .i64 (fzn s.fz))) := by
  obtain ⟨rv, tv, mb, D, hR, hS⟩ := h
  have HR := Lib.hid hR; have HS := Lib.hid hS
  clear hR hS
  go_enter_defers Tryz.func14, Tryz.ntmps14
  go_wp2_with fail
  refine (lock_reg _ g _ _ _ _ _ _ HR.out).mono ?_
  rintro e w1 ⟨rfl, hb1, hc1⟩
  have c8 := hb1.c8
  have HB1 := Lib.hid hb1; have HC1 := Lib.hid hc1
  have HS1 := Lib.hid (HS.out.own HR.out hc1)
  clear hb1 hc1
  go_wp2_with fail
  refine leaves_cons (f := 23) (args := #[.pointer (some ⟨g, 0, none⟩)]) (by simp) (by simp [go_sem]) ?_
  refine (unlock_reg _ .returning g _ _ _ _ _ _ HB1.out).mono ?_
  rintro e u' w7 ⟨rfl, rfl, hb7, hc7⟩
  exact ⟨(.int .i64 (fzn s.fz) : Value), (by simp only [results, Tryz.results14]; go_simp), rfl, ⟨rv, tv, mb, D, hb7, HS1.out.own HB1.out hc7⟩, HS.out.g1 (HC1.out.trans hc7)⟩

set_option maxRecDepth 100000 in
set_option maxHeartbeats 1000000 in
theorem frozen_any (w : World) (F : List Nat) (g : Nat) (s : St) (h : RegS w F g s) :
    Calls Tryz.prog 9 #[.pointer (some ⟨g, 0, none⟩)] w (FzPost w F g s (.bool s.fz)) := by
  have H := Lib.hid h
  clear h
  go_enter Tryz.func9, Tryz.ntmps9
  go_wp2_with fail
  refine (frozens_any w F g s H.out).mono ?_
  rintro e w1 ⟨rfl, hb1, hc1⟩
  have HB1 := Lib.hid hb1; have HC1 := Lib.hid hc1
  clear hb1 hc1
  go_wp2_with fail
  go_ret
  refine ⟨?_, HB1.out, HC1.out⟩
  cases s.fz <;> rfl

def CopyPost (w : World) (l : List Rw) (e : Ending) (w' : World) : Prop := ∃ v, e = .returned v ∧ w'.ownsRow w.heap.size 30 3 v l.length (rwsC l) ∧ Chg [] w w'

set_option maxRecDepth 100000 in
set_option maxHeartbeats 1000000 in
theorem clone_any (w : World) (l : List Rw) (v : Value) (hv : w.ownsRow 0 30 3 v l.length (rwsC l)) (h0 : l = [] → v = .slice none 0 0) (hl : l.length ≤ 5864062014640) :
    Calls Tryz.prog 25 #[v] w (CopyPost w l) := by
  rcases l with _ | ⟨a, l⟩
  · obtain rfl := h0 rfl
    have hnil := @Lib.run_eql_slice_nil Tryz.prog
    go_enter Tryz.func25, Tryz.ntmps25
    go_wp2_with fail
    go_ret
    exact ⟨_, rfl, World.ownsRow_nil _ _ _ _, Chg.refl _ _⟩
  · obtain ⟨g, cap, rfl, hb, hg⟩ := hv.form (by simp)
    have hnil := fun (w : World) (x : Addr) (n c : Nat) => Lib.run_eql_slice_nil (P := Tryz.prog) w 22 30 (some x) n c 0 0 Tryz.underlying22
    obtain ⟨i0, hi0, hz0, hz1, hz2⟩ := info_parts row_info
    have I0 := Lib.hid hi0
    have Z0 := Lib.hid hz0; have Z1 := Lib.hid hz1; have Z2 := Lib.hid hz2
    have hown : (w.alloc (.cells #[] 30)).ownsRow w.heap.size 30 3 (.slice (some ⟨w.heap.size, 0, none⟩) 0 0) 0 [] :=
      ⟨rfl, .inr ⟨w.heap.size, 0, #[], rfl, Nat.le_refl _, heap_alloc_new w _, Nat.le_refl _, Nat.zero_le _, rfl, rfl⟩⟩
    have HO := Lib.hid hown; have HV := Lib.hid hv
    have hat : ∀ j u, (rwsC (a :: l))[j]? = some u → (w.alloc (.cells #[] 30)).cell? ((⟨g, 0, none⟩ : Addr).add j) = some u := by
      intro j u hj
      have hadd : (⟨g, 0, none⟩ : Addr).add j = ⟨g, j, none⟩ := by unfold Addr.add; split <;> simp_all
      have hjl : j < (a :: l).length * 3 := by
        have := (List.getElem?_eq_some_iff.1 hj).1
        rw [rwsC_len] at this
        exact this
      rw [hadd, ((hv.alloc _).cellAt j hjl), hj]
    have HAT := Lib.hid hat
    have hone : ∀ u ∈ rwsC (a :: l), u.oneCell' = true := by
      intro u hu
      simp only [rwsC, List.mem_flatMap] at hu
      obtain ⟨r, _, hr⟩ := hu
      simp [rwc] at hr
      rcases hr with rfl | rfl | rfl <;> rfl
    have HONE := Lib.hid hone
    have hlen := rwsC_len (a :: l)
    have HLEN := Lib.hid hlen
    clear hi0 hz0 hz1 hz2 hown hv hat h0 hone hlen
    go_enter Tryz.func25, Tryz.ntmps25
    go_wp2_with (at_builtin; refine wpList_append_own_at _ rfl (.tmp 5) (.tmp 6) _ rfl w.heap.size 30 i0 _ 3 24 Tryz.underlying22 I0.out Z0.out Z1.out Z2.out rfl (by omega) (.slice (some ⟨w.heap.size, 0, none⟩) 0 0) 0 [] rfl HO.out ⟨g, 0, none⟩ (l.length + 1) cap (rwsC (a :: l)) rfl HLEN.out HAT.out HONE.out (by simp only [maxLen]; simp at hl; omega) (by simp at hl; omega) (by simp) ?_; intro v1 w5 hown hgrow hnl hat)
    go_ret
    refine ⟨v1, rfl, ?_, ?_⟩
    · simpa using hown
    · exact ((Chg.refl [] w).alloc _).grown hgrow (fun k hk => .inr (by simp [Value.ownBlock] at hk; omega))
end Go.Proofs.YtacijlfckmllcaaGreatDoor
