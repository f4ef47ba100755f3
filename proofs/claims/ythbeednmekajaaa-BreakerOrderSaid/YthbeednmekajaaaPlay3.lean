import Derived.Test.YthbeednmekajaaaPlay2
namespace Go.Proofs.Ythbeednmekajaaa
open Go.RowKit

/-- A pointer to a breaker, or none. -/
def pv : Option Nat → Value
  | some b => .pointer (some ⟨b, 0, none⟩)
  | none => .pointer none

def NewIs (B : Nat) (w' : World) (t : T) (o : Option Nat) (ea : Int) : Prop :=
  (TOk t = true ∧ ea = 0 ∧ ∃ bb, o = some bb ∧ B ≤ bb ∧ Brk w' bb t v0) ∨ (TOk t = false ∧ ea = 1 ∧ o = none)

theorem new_any (t : T) (w : World) : Calls Try.prog 20 #[.agg #[.int .i64 t.F, .int .i64 t.W, .int .i64 t.S]] w fun e w' =>
    ∃ o ea, e = .returned (.tuple #[pv o, .int .i64 ea]) ∧ NewIs w.heap.size w' t o ea ∧ Chg [] w w' := by
  cases h : TOk t
  · refine (new_no t w h).mono ?_
    rintro e w' ⟨rfl, hc⟩
    exact ⟨none, 1, rfl, .inr ⟨h, rfl, rfl⟩, hc⟩
  · refine (new_yes t w h).mono ?_
    rintro e w' ⟨bb, hb, rfl, hB, hc⟩
    exact ⟨some bb, 0, rfl, .inl ⟨h, rfl, bb, rfl, hb, hB⟩, hc⟩

theorem NewIs.chg {B : Nat} {w w' : World} {t : T} {o : Option Nat} {ea : Int} (h : NewIs B w t o ea) (hc : Chg [] w w') : NewIs B w' t o ea := by
  rcases h with ⟨h1, h2, bb, h3, h4, h5⟩ | h
  · exact .inl ⟨h1, h2, bb, h3, h4, h5.chg hc (by simp)⟩
  · exact .inr h

set_option maxHeartbeats 1000000 in
theorem alike_any (v : V) (w : World) : Calls Try.prog 23 #[.agg #[.int .u8 v.st, .int .i64 v.turn, .int .i64 v.fails, .int .i64 v.at_], .agg #[.int .u8 v.st, .int .i64 v.turn, .int .i64 v.fails, .int .i64 v.at_]] w fun e w' =>
    e = .returned (.bool true) ∧ Chg [] w w' := by
  have q0 : (v.st == v.st) = true := by simp
  have q1 : (v.turn == v.turn) = true := by simp
  have q2 : (v.fails == v.fails) = true := by simp
  have q3 : (v.at_ == v.at_) = true := by simp
  go_enter Try.func23, Try.ntmps23
  go_wp2_with fail
  go_ret
  exact ⟨rfl, ((Chg.refl _ _).alloc _).alloc _⟩

def vcells (v : V) : Array Value := #[.int .u8 v.st, .int .i64 v.turn, .int .i64 v.fails, .int .i64 v.at_]

/-- THE LOOP's RELATION. -/
structure PRel (w : World) (c d : Nat) (oa ob : Option Nat) (one two : T) (ps : List Int) (va vb : V) (v : Value) (wr : World) : Prop where
  p : wr.ownsRow w.heap.size 3 1 v ps.length (ps.map (.int .i64))
  mc : Blk wr c 49 (vcells va)
  md : Blk wr d 49 (vcells vb)
  a : ∀ bb, oa = some bb → Brk wr bb one va
  b : ∀ bb, ob = some bb → Brk wr bb two vb
  ne : ∀ x y, oa = some x → ob = some y → x ≠ y
  la : ∀ x, oa = some x → w.heap.size ≤ x
  lb : ∀ x, ob = some x → w.heap.size ≤ x
  dne : c ≠ d
  lc : w.heap.size ≤ c
  ld : w.heap.size ≤ d
  t1 : Blk wr w.heap.size 41 #[.int .i64 one.F, .int .i64 one.W, .int .i64 one.S]
  t2 : Blk wr (w.heap.size + 1) 41 #[.int .i64 two.F, .int .i64 two.W, .int .i64 two.S]
  below : Below w.heap.size w wr

variable {w wr w' : World} {c d : Nat} {oa ob : Option Nat} {one two : T} {ps ps' : List Int} {va vb v' : V} {v v'' : Value}

theorem PRel.same (h : PRel w c d oa ob one two ps va vb v wr) (hc : Chg [] wr w') : PRel w c d oa ob one two ps va vb v w' :=
  ⟨ownsRow_chg h.p hc (by simp), h.mc.chg hc (by simp), h.md.chg hc (by simp), fun x e => (h.a x e).chg hc (by simp), fun x e => (h.b x e).chg hc (by simp), h.ne, h.la, h.lb, h.dne, h.lc, h.ld, h.t1.chg hc (by simp), h.t2.chg hc (by simp), h.below.trans (hc.below h.below.size (by simp))⟩

theorem PRel.ownLt (h : PRel w c d oa ob one two ps va vb v wr) : ∀ k, v.ownBlock = some k → w.heap.size ≤ k ∧ k < wr.heap.size := h.p.lt

theorem PRel.turnA (h : PRel w c d oa ob one two ps va vb v wr) {x : Nat} (hx : oa = some x) (hc : Chg (x :: c :: v.ownBlock.toList) wr w') (hb : Brk w' x one v') (hcc : Blk w' c 49 (vcells v'))
    (hp : w'.ownsRow w.heap.size 3 1 v'' ps'.length (ps'.map (.int .i64))) : PRel w c d oa ob one two ps' v' vb v'' w' := by
  have hB := h.a x hx
  have nd : d ∉ (x :: c :: v.ownBlock.toList) := by
    simp only [List.mem_cons, Option.mem_toList, not_or]
    exact ⟨Blk.ne_ h.md hB.b (by decide), fun e => h.dne e.symm, own_blk_ne h.p h.md (by decide)⟩
  have n1 : w.heap.size ∉ (x :: c :: v.ownBlock.toList) := by
    simp only [List.mem_cons, Option.mem_toList, not_or]
    exact ⟨Blk.ne_ h.t1 hB.b (by decide), Blk.ne_ h.t1 h.mc (by decide), own_blk_ne h.p h.t1 (by decide)⟩
  have n2 : w.heap.size + 1 ∉ (x :: c :: v.ownBlock.toList) := by
    simp only [List.mem_cons, Option.mem_toList, not_or]
    exact ⟨Blk.ne_ h.t2 hB.b (by decide), Blk.ne_ h.t2 h.mc (by decide), own_blk_ne h.p h.t2 (by decide)⟩
  refine ⟨hp, hcc, h.md.chg hc nd, fun y e => ?_, fun y e => ?_, h.ne, h.la, h.lb, h.dne, h.lc, h.ld, h.t1.chg hc n1, h.t2.chg hc n2, h.below.trans (hc.below h.below.size ?_)⟩
  · obtain rfl : x = y := by rw [hx] at e; exact Option.some.inj e
    exact hb
  · refine (h.b y e).chg hc ?_
    simp only [List.mem_cons, Option.mem_toList, not_or]
    exact ⟨fun e' => h.ne x y hx e e'.symm, fun e' => by subst e'; exact Blk.ne_ (h.b _ e).b h.mc (by decide) rfl, own_blk_ne h.p (h.b y e).b (by decide)⟩
  · intro i hi
    simp only [List.mem_cons, Option.mem_toList] at hi
    rcases hi with rfl | rfl | hi
    · exact h.la _ hx
    · exact h.lc
    · exact (h.ownLt i hi).1

theorem PRel.turnB (h : PRel w c d oa ob one two ps va vb v wr) {x : Nat} (hx : ob = some x) (hc : Chg (x :: d :: v.ownBlock.toList) wr w') (hb : Brk w' x two v') (hcc : Blk w' d 49 (vcells v'))
    (hp : w'.ownsRow w.heap.size 3 1 v'' ps'.length (ps'.map (.int .i64))) : PRel w c d oa ob one two ps' va v' v'' w' := by
  have hB := h.b x hx
  have nd : c ∉ (x :: d :: v.ownBlock.toList) := by
    simp only [List.mem_cons, Option.mem_toList, not_or]
    exact ⟨Blk.ne_ h.mc hB.b (by decide), h.dne, own_blk_ne h.p h.mc (by decide)⟩
  have n1 : w.heap.size ∉ (x :: d :: v.ownBlock.toList) := by
    simp only [List.mem_cons, Option.mem_toList, not_or]
    exact ⟨Blk.ne_ h.t1 hB.b (by decide), Blk.ne_ h.t1 h.md (by decide), own_blk_ne h.p h.t1 (by decide)⟩
  have n2 : w.heap.size + 1 ∉ (x :: d :: v.ownBlock.toList) := by
    simp only [List.mem_cons, Option.mem_toList, not_or]
    exact ⟨Blk.ne_ h.t2 hB.b (by decide), Blk.ne_ h.t2 h.md (by decide), own_blk_ne h.p h.t2 (by decide)⟩
  refine ⟨hp, h.mc.chg hc nd, hcc, fun y e => ?_, fun y e => ?_, h.ne, h.la, h.lb, h.dne, h.lc, h.ld, h.t1.chg hc n1, h.t2.chg hc n2, h.below.trans (hc.below h.below.size ?_)⟩
  · refine (h.a y e).chg hc ?_
    simp only [List.mem_cons, Option.mem_toList, not_or]
    exact ⟨fun e' => h.ne y x e hx e', fun e' => by subst e'; exact Blk.ne_ (h.a _ e).b h.md (by decide) rfl, own_blk_ne h.p (h.a y e).b (by decide)⟩
  · obtain rfl : x = y := by rw [hx] at e; exact Option.some.inj e
    exact hb
  · intro i hi
    simp only [List.mem_cons, Option.mem_toList] at hi
    rcases hi with rfl | rfl | hi
    · exact h.lb _ hx
    · exact h.ld
    · exact (h.ownLt i hi).1

/-- The passes, as a callee reads them. -/
theorem PRel.passes (h : PRel w c d oa ob one two ps va vb v wr) (hc : Chg [] wr w') : ∃ A cap, v = .slice A ps.length cap ∧ PassesAt w' A ps.length := by
  obtain ⟨A, cap, rfl⟩ := own_slice h.p
  refine ⟨A, cap, rfl, fun j hj => ?_⟩
  obtain ⟨g, cap', e, _, hg, hcell⟩ := own_at h.p (by omega)
  injection e with e1 e2 e3
  refine ⟨g, ps[j], e1, Nat.lt_of_lt_of_le hg hc.size, ?_⟩
  rw [hc.cell (p := ⟨g, j, none⟩) hg (by simp), hcell j hj]
  simp [hj]

/-- A view put into the cells of one block. -/
theorem PRel.endA (h : PRel w c d oa ob one two ps va vb v wr) {x : Nat} {w5 : World} (hx : oa = some x) (hc : Chg (x :: v.ownBlock.toList) wr w5) (hb : Brk w5 x one v')
    (hp : w5.ownsRow w.heap.size 3 1 v'' ps'.length (ps'.map (.int .i64))) :
    PRel w c d oa ob one two ps' v' vb v'' ((((w5.setCell ⟨c, 0, none⟩ (.int .u8 v'.st)).setCell ⟨c, 1, none⟩ (.int .i64 v'.turn)).setCell ⟨c, 2, none⟩ (.int .i64 v'.fails)).setCell ⟨c, 3, none⟩ (.int .i64 v'.at_)) := by
  have kc : Blk w5 c 49 _ := h.mc.chg hc (by
    simp only [List.mem_cons, Option.mem_toList, not_or]
    exact ⟨fun e => by subst e; exact Blk.ne_ (h.a _ hx).b h.mc (by decide) rfl, own_blk_ne h.p h.mc (by decide)⟩)
  have hne : x ≠ c := Blk.ne_ hb.b kc (by decide)
  have hpc : Chg [c] w5 ((((w5.setCell ⟨c, 0, none⟩ (.int .u8 v'.st)).setCell ⟨c, 1, none⟩ (.int .i64 v'.turn)).setCell ⟨c, 2, none⟩ (.int .i64 v'.fails)).setCell ⟨c, 3, none⟩ (.int .i64 v'.at_)) :=
    ((((Chg.refl _ _).setCell (.inl (by simp)) _).setCell (.inl (by simp)) _).setCell (.inl (by simp)) _).setCell (.inl (by simp)) _
  refine h.turnA hx ((hc.mono ?_).trans (hpc.mono ?_)) (hb.chg hpc (by simpa using hne)) ?_ (ownsRow_chg hp hpc ?_)
  · intro i hi
    simp only [List.mem_cons, Option.mem_toList] at hi ⊢
    exact hi.imp id .inr
  · intro i hi
    obtain rfl : i = c := by simpa using hi
    simp
  · exact ((((kc.set_ 0 (.int .u8 v'.st)).set_ 1 (.int .i64 v'.turn)).set_ 2 (.int .i64 v'.fails)).set_ 3 (.int .i64 v'.at_))
  · intro i hi hm
    obtain rfl : i = c := by simpa using hm
    exact own_blk_ne hp kc (by decide) hi

/-- A view put into the cells of one block. -/
theorem PRel.endB (h : PRel w c d oa ob one two ps va vb v wr) {x : Nat} {w5 : World} (hx : ob = some x) (hc : Chg (x :: v.ownBlock.toList) wr w5) (hb : Brk w5 x two v')
    (hp : w5.ownsRow w.heap.size 3 1 v'' ps'.length (ps'.map (.int .i64))) :
    PRel w c d oa ob one two ps' va v' v'' ((((w5.setCell ⟨d, 0, none⟩ (.int .u8 v'.st)).setCell ⟨d, 1, none⟩ (.int .i64 v'.turn)).setCell ⟨d, 2, none⟩ (.int .i64 v'.fails)).setCell ⟨d, 3, none⟩ (.int .i64 v'.at_)) := by
  have kc : Blk w5 d 49 _ := h.md.chg hc (by
    simp only [List.mem_cons, Option.mem_toList, not_or]
    exact ⟨fun e => by subst e; exact Blk.ne_ (h.b _ hx).b h.md (by decide) rfl, own_blk_ne h.p h.md (by decide)⟩)
  have hne : x ≠ d := Blk.ne_ hb.b kc (by decide)
  have hpc : Chg [d] w5 ((((w5.setCell ⟨d, 0, none⟩ (.int .u8 v'.st)).setCell ⟨d, 1, none⟩ (.int .i64 v'.turn)).setCell ⟨d, 2, none⟩ (.int .i64 v'.fails)).setCell ⟨d, 3, none⟩ (.int .i64 v'.at_)) :=
    ((((Chg.refl _ _).setCell (.inl (by simp)) _).setCell (.inl (by simp)) _).setCell (.inl (by simp)) _).setCell (.inl (by simp)) _
  refine h.turnB hx ((hc.mono ?_).trans (hpc.mono ?_)) (hb.chg hpc (by simpa using hne)) ?_ (ownsRow_chg hp hpc ?_)
  · intro i hi
    simp only [List.mem_cons, Option.mem_toList] at hi ⊢
    exact hi.imp id .inr
  · intro i hi
    obtain rfl : i = d := by simpa using hi
    simp
  · exact ((((kc.set_ 0 (.int .u8 v'.st)).set_ 1 (.int .i64 v'.turn)).set_ 2 (.int .i64 v'.fails)).set_ 3 (.int .i64 v'.at_))
  · intro i hi hm
    obtain rfl : i = d := by simpa using hm
    exact own_blk_ne hp kc (by decide) hi
end Go.Proofs.Ythbeednmekajaaa
