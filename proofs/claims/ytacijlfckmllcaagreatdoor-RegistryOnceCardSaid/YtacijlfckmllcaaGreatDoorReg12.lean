/-
  The program's registry and the document's, side by side: lemmas (as in Reg11, which walks the law of scripts).
-/
import Derived.Test.YtacijlfckmllcaaGreatDoorReg10
namespace Go.Proofs.YtacijlfckmllcaaGreatDoor
open Go.RowKit Go.WideMaps Go.Maps

section
variable {w w' : World} {F G : List Nat} {g m B : Nat} {s t : St}
theorem RegS.chg {S : List Nat} (h : RegS w F g s) (hc : Chg S w w') (hd : ∀ b, b ∈ F → b ∉ S) : RegS w' F g s := by
  obtain ⟨rv, tv, mb, D, hR, hS⟩ := h
  exact ⟨rv, tv, mb, D, hR.chg hc (hd _ hS.gF), hS.chg hc (fun b hb => hd _ (hS.rF b hb)) (fun b hb => hd _ (hS.tF b hb)) (hd _ hS.mF)⟩
theorem RegS.drew (h : RegS w F g s) : RegS w.drew F g s := h.chg ((Chg.refl [] w).drew) (by simp)
theorem RefS.chg {S : List Nat} (h : RefS w G m t) (hc : Chg S w w') (hd : ∀ b, b ∈ G → b ∉ S) : RefS w' G m t := by
  obtain ⟨rv, tv, hR⟩ := h
  exact ⟨rv, tv, hR.chg hc (hd _ hR.mF) (fun b hb => hd _ (hR.rF b hb)) (fun b hb => hd _ (hR.tF b hb))⟩
theorem RegS.trim (h : RegS w F g s) : ∃ F', RegS w F' g s ∧ (∀ b, b ∈ F' → b ∈ F) ∧ ∀ b, b ∈ F' → b < w.heap.size := by
  obtain ⟨rv, tv, mb, D, hR, hS⟩ := h
  refine ⟨g :: mb :: (rv.ownBlock.toList ++ tv.ownBlock.toList), ⟨rv, tv, mb, D, hR, ⟨hS.rows, hS.taken, hS.apart, hS.map, hS.names, by simp, by simp, fun b hb => by simp [hb], fun b hb => by simp [hb], hS.r0, hS.t0⟩⟩, fun b hb => ?_, fun b hb => ?_⟩
  · simp at hb
    rcases hb with rfl | rfl | hb | hb
    · exact hS.gF
    · exact hS.mF
    · exact hS.rF b hb
    · exact hS.tF b hb
  · simp at hb
    rcases hb with rfl | rfl | hb | hb
    · exact hR.lt
    · exact hS.map.lt
    · exact (hS.rows.lt b hb).2
    · exact (hS.taken.lt b hb).2
theorem RefS.trim (h : RefS w G m t) : ∃ G', RefS w G' m t ∧ (∀ b, b ∈ G' → b ∈ G) ∧ ∀ b, b ∈ G' → b < w.heap.size := by
  obtain ⟨rv, tv, hR⟩ := h
  refine ⟨m :: (rv.ownBlock.toList ++ tv.ownBlock.toList), ⟨rv, tv, ⟨hR.b, hR.rows, hR.taken, hR.apart, by simp, fun b hb => by simp [hb], fun b hb => by simp [hb]⟩⟩, fun b hb => ?_, fun b hb => ?_⟩
  · simp at hb
    rcases hb with rfl | hb | hb
    · exact hR.mF
    · exact hR.rF b hb
    · exact hR.tF b hb
  · simp at hb
    rcases hb with rfl | hb | hb
    · exact hR.b.lt
    · exact (hR.rows.lt b hb).2
    · exact (hR.taken.lt b hb).2

/-- The program's registry and the document's, side by side; B: where the law's own memory begins. -/
structure Both (w : World) (B : Nat) (F G : List Nat) (g m : Nat) (s t : St) : Prop where
  reg : RegS w F g s
  ref : RefS w G m t
  dis : ∀ b, b ∈ F → b ∉ G
  fl : ∀ b, b ∈ F → b < w.heap.size
  gl : ∀ b, b ∈ G → b < w.heap.size
  fb : ∀ b, b ∈ F → B ≤ b
  gb : ∀ b, b ∈ G → B ≤ b

theorem Both.dis' (h : Both w B F G g m s t) : ∀ b, b ∈ G → b ∉ F := fun b hb hf => h.dis b hf hb
theorem Both.fresh (h : Both w B F G g m s t) (hc : Chg [] w w') : Both w' B F G g m s t :=
  ⟨h.reg.chg hc (by simp), h.ref.chg hc (by simp), h.dis, fun b hb => Nat.lt_of_lt_of_le (h.fl b hb) hc.size, fun b hb => Nat.lt_of_lt_of_le (h.gl b hb) hc.size, h.fb, h.gb⟩
/-- A call of the document's registry. -/
theorem Both.onRef {G' : List Nat} {t' : St} (h : Both w B F G g m s t) (hB : B ≤ w.heap.size) (hr : RefS w' G' m t') (hc : Chg G w w') (hn : ∀ b, b ∈ G' → b ∈ G ∨ w.heap.size ≤ b) : ∃ G'', Both w' B F G'' g m s t' := by
  obtain ⟨G'', h1, h2, h3⟩ := hr.trim
  refine ⟨G'', h.reg.chg hc h.dis, h1, fun b hb hg => ?_, fun b hb => Nat.lt_of_lt_of_le (h.fl b hb) hc.size, h3, h.fb, fun b hb => ?_⟩
  · rcases hn b (h2 b hg) with h4 | h4
    · exact h.dis b hb h4
    · have := h.fl b hb; omega
  · rcases hn b (h2 b hb) with h4 | h4
    · exact h.gb b h4
    · omega
/-- A call of the program's. -/
theorem Both.onReg {F' : List Nat} {s' : St} (h : Both w B F G g m s t) (hB : B ≤ w.heap.size) (hr : RegS w' F' g s') (hc : Chg F w w') (hn : ∀ b, b ∈ F' → b ∈ F ∨ w.heap.size ≤ b) : ∃ F'', Both w' B F'' G g m s' t := by
  obtain ⟨F'', h1, h2, h3⟩ := hr.trim
  refine ⟨F'', h1, h.ref.chg hc h.dis', fun b hb hg => ?_, h3, fun b hb => Nat.lt_of_lt_of_le (h.gl b hb) hc.size, fun b hb => ?_, h.gb⟩
  · rcases hn b (h2 b hb) with h4 | h4
    · exact h.dis b h4 hg
    · have := h.gl b hg; omega
  · rcases hn b (h2 b hb) with h4 | h4
    · exact h.fb b h4
    · omega
end

theorem fzn_true : fzn true = 1 := rfl
theorem fzn_false : fzn false = 0 := rfl

theorem enterS_len (s : St) (x : Rw) : (enterS s x).1.rows.length + (enterS s x).1.taken.length ≤ s.rows.length + s.taken.length + 1 := by
  unfold enterS
  split
  · simp
  · split
    · simp
    · split
      · simp
      · split
        · simp; omega
        · simp; omega

theorem own_sep {w w' : World} {b b' : Nat} {e e' : TypeId} {z z' n n' : Nat} {v v' : Value} {xs xs' : List Value} (h : w.ownsRow b e z v n xs) (h' : w'.ownsRow b' e' z' v' n' xs') (hb : w.heap.size ≤ b') : v.ownBlock = none ∨ v.ownBlock ≠ v'.ownBlock := by
  by_cases hv : v.ownBlock = none
  · exact .inl hv
  · obtain ⟨k, hk⟩ := Option.ne_none_iff_exists'.1 hv
    refine .inr fun e => ?_
    have h1 := (h.lt k hk).2
    have h2 := (h'.lt k (e ▸ hk)).1
    omega
theorem own_sep' {w w' : World} {b b' : Nat} {e e' : TypeId} {z z' n n' : Nat} {v v' : Value} {xs xs' : List Value} (h : w.ownsRow b e z v n xs) (h' : w'.ownsRow b' e' z' v' n' xs') (hb : w.heap.size ≤ b') : v'.ownBlock = none ∨ v'.ownBlock ≠ v.ownBlock := by
  by_cases hv : v'.ownBlock = none
  · exact .inl hv
  · obtain ⟨k, hk⟩ := Option.ne_none_iff_exists'.1 hv
    refine .inr fun e => ?_
    have h1 := (h'.lt k hk).1
    have h2 := (h.lt k (e ▸ hk)).2
    omega
theorem own_out {w w' : World} {b' : Nat} {e' : TypeId} {z' n' : Nat} {v' : Value} {xs' : List Value} {S : List Nat} (h' : w'.ownsRow b' e' z' v' n' xs') (hb : w.heap.size ≤ b') (hS : ∀ b, b ∈ S → b < w.heap.size) : ∀ b, v'.ownBlock = some b → b ∉ S := fun b hk hm => by
  have h1 := (h'.lt b hk).1
  have := hS b hm
  omega

/-- Behind a call that turned the blocks of S alone, all of the law's own: the rest stays. -/
theorem Chg.onto {w w1 w2 : World} {S : List Nat} (h : Chg [] w w1) (hc : Chg S w1 w2) (hs : ∀ b, b ∈ S → w.heap.size ≤ b) : Chg [] w w2 := h.trans' hc (fun b hb => .inr (hs b hb))

end Go.Proofs.YtacijlfckmllcaaGreatDoor
