/- Worlds that have grown; the world behind a sort; one sorted order alone. -/
import Derived.Test.YtbkjlohlfkokpaaWords
import Derived.Test.YtbkjlohlfkokpaaShelf
set_option linter.unusedVariables false
set_option linter.unusedSimpArgs false
namespace Go.Proofs.Ytbkjlohlfkokpaa
open Go.RowKit Go.Sort

/-- w' is w with draws and new blocks alone. -/
structure Grows (w w' : World) : Prop where
  below : Below w.heap.size w w'
  drawn : w.drawn ≤ w'.drawn
theorem Grows.refl (w : World) : Grows w w := ⟨Below.refl _ _, Nat.le_refl _⟩
theorem Grows.drew (w : World) : Grows w w.drew := ⟨below_drewN' (Below.refl _ _) 1, by show w.drawn ≤ w.drawn + 1; omega⟩
section
variable {w a b c : World}
theorem Grows.trans (h : Grows a b) (k : Grows b c) : Grows a c := ⟨below_then h.below k.below, Nat.le_trans h.drawn k.drawn⟩
theorem Grows.alloc (h : Grows w a) (o : Obj) : Grows w (a.alloc o) := ⟨below_new h.below o, h.drawn⟩
theorem Grows.drewN (h : Grows w a) (n : Nat) : Grows w (a.drewN n) := ⟨below_drewN' h.below n, Nat.le_trans h.drawn (by show a.drawn ≤ a.drawn + n; omega)⟩
theorem Grows.set (h : Grows w a) {k : Nat} (hk : w.heap.size ≤ k) (i : Nat) (u : Value) : Grows w (a.setCell ⟨k, i, none⟩ u) :=
  ⟨below_two h.below ((Fr.refl (Two k k) a).set (p := ⟨k, i, none⟩) (.inl (.inl rfl)) u) hk hk, h.drawn⟩
theorem Grows.setRow (h : Grows w a) {k : Nat} (hk : w.heap.size ≤ k) (cs : Array Value) : Grows w (a.setRow k cs) :=
  ⟨below_two h.below ((fr_setRow a k cs).mono (fun x hx => .inl (.inl hx))) hk hk, h.drawn⟩
theorem Grows.cell (h : Grows w a) {p : Addr} {v : Value} (hc : w.cell? p = some v) : a.cell? p = some v := (fr0 h.below).cell hc (fun h => h)
theorem Grows.grow (h : Grows w a) : ∃ q os, a = Go.Sort.grow (w.drewN q) os := by
  refine ⟨a.drawn - w.drawn, a.heap.extract w.heap.size a.heap.size, ?_⟩
  have hh : a.heap = w.heap ++ a.heap.extract w.heap.size a.heap.size := by
    apply Array.ext_getElem?
    intro k
    by_cases hk : k < w.heap.size
    · rw [Array.getElem?_append_left hk]; exact h.below.block k hk
    · rw [Array.getElem?_append_right (by omega), Array.getElem?_extract]
      by_cases hk2 : k < a.heap.size
      · rw [if_pos (by omega)]; congr 1; omega
      · rw [if_neg (by omega), Array.getElem?_eq_none (by omega)]
  have hd : a.drawn = w.drawn + (a.drawn - w.drawn) := by have := h.drawn; omega
  have e : a = { heap := a.heap, tape := w.tape, drawn := a.drawn, os := w.os, output := w.output } := by
    rw [← h.below.os, ← h.below.tape, ← h.below.output]
  show a = { heap := w.heap ++ a.heap.extract w.heap.size a.heap.size, tape := w.tape, drawn := w.drawn + (a.drawn - w.drawn), os := w.os, output := w.output }
  rw [← hh, ← hd]
  exact e
end

/-- Behind a sort all but the row's block is as it was. -/
theorem fr_sortWorld {α : Type} [Inhabited α] (enc : α → Value) (w : World) (blk off m : Nat) (dk : Array α) (os : Array Obj) : Fr (One blk) w (sortWorld enc w blk off m dk os) :=
  ⟨rfl, rfl, rfl, by show w.heap.size ≤ _; unfold sortWorld; rw [Go.Sort.size_grow, Go.Sort.size_putRow]; show w.heap.size ≤ w.heap.size + _; omega, fun k hk hn => by
    have hne : blk ≠ k := fun e => hn e.symm
    show ((w.heap.modify blk _) ++ os)[k]? = w.heap[k]?
    rw [Array.getElem?_append_left (by simpa using hk), Array.getElem?_modify, if_neg hne]⟩
theorem drawn_sortWorld {α : Type} [Inhabited α] (enc : α → Value) (w : World) (blk off m : Nat) (dk : Array α) (os : Array Obj) : w.drawn ≤ (sortWorld enc w blk off m dk os).drawn := by
  show w.drawn ≤ w.drawn + m; omega

theorem perm_of_permIn {α : Type} [Inhabited α] {d d' : Array α} (h : PermIn 0 d.size d d') : d'.toList.Perm d.toList := by
  have h3 := h.2.2
  have e1 : d'.extract 0 d.size = d' := by rw [← h.1]; exact Array.extract_size
  rw [e1, Array.extract_size] at h3
  exact h3
/-- Of what stands apart there is one order alone. -/
theorem one_order {α : Type} (R : α → α → Prop) (has : ∀ x y, R x y → ¬ R y x) : ∀ (l m : List α), l.Perm m → l.Pairwise R → m.Pairwise R → l = m
  | [], m, hp, _, _ => (List.nil_perm.1 hp).symm
  | x :: l, [], hp, _, _ => by have := hp.length_eq; simp at this
  | x :: l, y :: m, hp, hl, hm => by
    obtain ⟨hl1, hl2⟩ := List.pairwise_cons.1 hl
    obtain ⟨hm1, hm2⟩ := List.pairwise_cons.1 hm
    have hxy : x = y := by
      have h1 : x ∈ y :: m := hp.subset (List.mem_cons_self ..)
      have h2 : y ∈ x :: l := hp.symm.subset (List.mem_cons_self ..)
      rcases List.mem_cons.1 h1 with e | h1
      · exact e
      · rcases List.mem_cons.1 h2 with e | h2
        · exact e.symm
        · exact absurd (hl1 y h2) (has _ _ (hm1 x h1))
    subst hxy
    rw [one_order R has l m ((List.perm_cons x).1 hp) hl2 hm2]
end Go.Proofs.Ytbkjlohlfkokpaa
