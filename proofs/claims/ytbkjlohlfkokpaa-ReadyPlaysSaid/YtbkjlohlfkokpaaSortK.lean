/- The sort of a row of things of several cells: what its premises ask of a row that is owned, and what it leaves. No condition. -/
import Derived.Test.YtbkjlohlfkokpaaSrc
import Derived.Test.YtbkjlohlfkokpaaSort
import Derived.Shelf.SlSortCmp.WholeK
set_option linter.unusedVariables false
set_option linter.unusedSimpArgs false
namespace Go.Proofs.Ytbkjlohlfkokpaa
open Go.RowKit Go.Sort

section
variable {α : Type} [Inhabited α] {enc : α → List Value} {k : Nat}
theorem get_bang {β : Type} [Inhabited β] {l : List β} {j : Nat} {x : β} (h : l[j]? = some x) : l[j]! = x := by
  rw [List.getElem!_eq_getElem?_getD, h]; rfl
theorem flatK_get (hk : ∀ x, (enc x).length = k) (d : Array α) {t : Nat} (ht : t < d.size * k) : (flat enc d.toList)[t]? = some (flatK enc k d)[t]! := by
  have k0 : 0 < k := by
    rcases Nat.eq_zero_or_pos k with h | h
    · subst h; simp at ht
    · exact h
  have h1 : t / k < d.size := by rw [Nat.div_lt_iff_lt_mul k0]; exact ht
  have h2 : t % k < k := Nat.mod_lt _ k0
  have e : t / k * k + t % k = t := by rw [Nat.mul_comm]; exact Nat.div_add_mod t k
  have hx : d.toList[t / k]? = some d[t / k]! := by rw [Array.getElem?_toList, getElem!_pos d _ h1, Array.getElem?_eq_getElem h1]
  have hf := flat_get hk d.toList (t / k) (t % k) _ hx h2
  rw [e] at hf
  have hj : (enc d[t / k]!)[t % k]? = some ((enc d[t / k]!)[t % k]'(by rw [hk]; exact h2)) := List.getElem?_eq_getElem _
  rw [get_flatK _ _ _ t ht, get_bang hj, hf, hj]
theorem holdsK_of_own {w : World} {base g cap n : Nat} {e : TypeId} {d : Array α} (hk : ∀ x, (enc x).length = k) (hn : n = d.size) (h : w.ownsRow base e k (.slice (some ⟨g, 0, none⟩) n cap) n (flat enc d.toList)) : HoldsK enc k w g 0 d := fun j hj => by
  refine ⟨?_, own_free h _⟩
  rw [size_flatK] at hj
  rw [Nat.zero_add]
  exact own_cell0 h (flatK_get hk d hj)
theorem own_sortedK {w : World} {base g cap n : Nat} {e : TypeId} {xs : List Value} (hk : ∀ x, (enc x).length = k) (h : w.ownsRow base e k (.slice (some ⟨g, 0, none⟩) n cap) n xs) (h0 : 0 < n) (d' : Array α) (hs : d'.size = n) (q : Nat) (os : Array Obj) :
    (sortWorldK enc k w g 0 q d' os).ownsRow base e k (.slice (some ⟨g, 0, none⟩) n cap) n (flat enc d'.toList) := by
  obtain ⟨g', cap', cur, hve, hb, hg, hnc, hcm, hcs, htk⟩ := own_shape h h0
  injection hve with e1 _ e3
  injection e1 with e1
  injection e1 with e1 _ _
  subst e1 e3
  have hlt := blk_lt hg
  have hg2 : (sortWorldK enc k w g 0 q d' os).heap[g]? = some (.cells (putCells id 0 (flatK enc k d') cur) e (0, 0)) := by
    show ((w.heap.modify g _) ++ os)[g]? = _
    rw [Array.getElem?_append_left (by simpa using hlt), Array.getElem?_modify, if_pos rfl, hg]
    rfl
  have hnk : n * k ≤ cap * k := Nat.mul_le_mul_right _ hnc
  refine ⟨by rw [flat_length hk, Array.length_toList, hs], .inr ⟨g, cap, putCells id 0 (flatK enc k d') cur, rfl, hb, hg2, hnc, hcm, by rw [putCells, Array.size_mapIdx]; exact hcs, ?_⟩⟩
  apply List.ext_getElem?
  intro j
  by_cases hj : j < n * k
  · have hjc : j < cur.size := by omega
    have e1 : (putCells id 0 (flatK enc k d') cur).toList[j]? = some (flatK enc k d')[j]! := by
      rw [Array.getElem?_toList, putCells, Array.getElem?_mapIdx, Array.getElem?_eq_getElem hjc]
      simp only [Option.map_some]
      rw [if_pos (by rw [size_flatK, hs]; omega), Nat.sub_zero]
      rfl
    rw [List.getElem?_take_of_lt hj, e1, flatK_get hk d' (by rw [hs]; exact hj)]
  · rw [List.getElem?_eq_none (by rw [List.length_take]; omega), List.getElem?_eq_none (by rw [flat_length hk, Array.length_toList, hs]; omega)]
theorem fr_sortWorldK (w : World) (g m : Nat) (dk : Array α) (os : Array Obj) : Fr (One g) w (sortWorldK enc k w g 0 m dk os) := fr_sortWorld id w g 0 m (flatK enc k dk) os
end
end Go.Proofs.Ytbkjlohlfkokpaa
