/- Rows of whole numbers in a row of slices ([][]int) that a call made. -/
import Derived.Test.YtcbpbgjngeemoaaLocks3
import Derived.Test.YtcbpbgjngeemoaaRef04
set_option linter.unusedVariables false
set_option linter.unusedSimpArgs false
namespace Go.Proofs.Ytcbpbgjngeemoaa
open Go.RowKit

/-- Block g holds the slices vs, whose rows are Q. -/
structure GridAt (w : World) (base g : Nat) (vs : List Value) (Q : List (List Int)) : Prop where
  hg : w.heap[g]? = some (.cells vs.toArray 22 (0, 0))
  len : vs.length = Q.length
  rows : ∀ (i : Nat) v q, vs[i]? = some v → Q[i]? = some q → w.ownsRow base 3 1 v q.length (intCells q)
  ap : ∀ (i j : Nat) (v u : Value) (k : Nat), vs[i]? = some v → vs[j]? = some u → v.ownBlock = some k → u.ownBlock = some k → i = j
  lo : base ≤ g
def GSet (g : Nat) (vs : List Value) (k : Nat) : Prop := k = g ∨ ∃ v ∈ vs, v.ownBlock = some k
section
variable {w w' w1 : World} {base g : Nat} {vs : List Value} {Q : List (List Int)}
theorem GridAt.row (h : GridAt w base g vs Q) {v : Value} (hv : v ∈ vs) : ∃ q, w.ownsRow base 3 1 v q.length (intCells q) := by
  obtain ⟨i, hi, rfl⟩ := List.getElem_of_mem hv
  have hq : i < Q.length := by have := h.len; omega
  exact ⟨Q[i], h.rows i _ _ (List.getElem?_eq_getElem hi) (List.getElem?_eq_getElem hq)⟩
theorem GridAt.lt (h : GridAt w base g vs Q) : ∀ k, GSet g vs k → base ≤ k ∧ k < w.heap.size := by
  intro k hk
  rcases hk with rfl | ⟨v, hv, hk⟩
  · exact ⟨h.lo, blk_lt h.hg⟩
  · obtain ⟨q, hq⟩ := h.row hv
    exact hq.lt k hk
theorem GridAt.kept {S : Nat → Prop} (h : GridAt w base g vs Q) (k : Fr S w w') (hn : ∀ j, GSet g vs j → ¬ S j) : GridAt w' base g vs Q :=
  ⟨k.blk h.hg (hn g (.inl rfl)), h.len, fun i v q hv hq => own_kept (h.rows i v q hv hq) k (fun j hj => hn j (.inr ⟨v, List.mem_of_getElem? hv, hj⟩)), h.ap, h.lo⟩
theorem GridAt.later (h : GridAt w base g vs Q) (k : Below w.heap.size w w') : GridAt w' base g vs Q := h.kept (fr0 k) (fun _ _ h => h)
theorem GridAt.cell (h : GridAt w base g vs Q) {i : Nat} {v : Value} (hv : vs[i]? = some v) : w.cell? ⟨g, i, none⟩ = some v := by rw [blk_cell h.hg i]; simpa using hv
theorem set_get {α : Type} {l : List α} {r i : Nat} {x q : α} (h : (l.set r x)[i]? = some q) : (i = r ∧ q = x) ∨ (i ≠ r ∧ l[i]? = some q) := by
  by_cases e : i = r
  · subst e
    have hl := (List.getElem?_eq_some_iff.1 h).1
    rw [List.getElem?_set_self (by simpa using hl)] at h
    injection h with h
    exact .inl ⟨rfl, h.symm⟩
  · rw [List.getElem?_set_ne (fun h => e h.symm)] at h
    exact .inr ⟨e, h⟩
/-- Row number i turns. -/
theorem GridAt.turn (h : GridAt w base g vs Q) {i : Nat} {v v' : Value} {q q' : List Int} (hv : vs[i]? = some v) (hq : Q[i]? = some q) (hown : w1.ownsRow base 3 1 v' q'.length (intCells q')) (hF : Fr (fun k => v.ownBlock = some k) w w1)
    (hloc : ∀ k, v'.ownBlock = some k → v.ownBlock = some k ∨ w.heap.size ≤ k) :
    GridAt (w1.setCell ⟨g, i, none⟩ v') base g (vs.set i v') (Q.set i q') ∧ Fr (GSet g vs) w (w1.setCell ⟨g, i, none⟩ v') ∧ ∀ k, GSet g (vs.set i v') k → GSet g vs k ∨ w.heap.size ≤ k := by
  have hvm := List.mem_of_getElem? hv
  have hg1 : w1.heap[g]? = some (.cells vs.toArray 22 (0, 0)) := hF.blk h.hg (fun e => by
    obtain ⟨C, hC⟩ := own_kind (h.rows i v q hv hq) e
    exact blk_ne hC h.hg (cells_ne (by decide)) rfl)
  have hF4 : Fr (One g) w1 (w1.setCell ⟨g, i, none⟩ v') := (Fr.refl (One g) w1).one i v'
  refine ⟨⟨by simpa using blk_set hg1 i v', by simp [h.len], ?_, ?_, h.lo⟩, ?_, ?_⟩
  · intro j u q2 hu hq2
    rcases set_get hu with ⟨rfl, rfl⟩ | ⟨hne, hu⟩
    · rcases set_get hq2 with ⟨_, rfl⟩ | ⟨hne, _⟩
      · exact own_kept hown hF4 (fun k hk e => by
          obtain ⟨C, hC⟩ := own_kind hown hk
          exact blk_ne hC hg1 (cells_ne (by decide)) e)
      · exact absurd rfl hne
    · rcases set_get hq2 with ⟨e, _⟩ | ⟨_, hq2⟩
      · exact absurd e hne
      · have hr := h.rows j u q2 hu hq2
        have hr1 := own_kept hr hF (fun k hk e => hne (h.ap j i u v k hu hv hk e))
        exact own_kept hr1 hF4 (fun k hk e => by
          obtain ⟨C, hC⟩ := own_kind hr1 hk
          exact blk_ne hC hg1 (cells_ne (by decide)) e)
  · intro a b u x k hu hx hku hkx
    rcases set_get hu with ⟨rfl, rfl⟩ | ⟨hne, hu⟩ <;> rcases set_get hx with ⟨hb, hxx⟩ | ⟨hne2, hx⟩
    · exact hb.symm
    · rcases hloc k hku with e | e
      · exact h.ap _ _ _ _ k hv hx e hkx
      · obtain ⟨q2, hq2⟩ := h.row (List.mem_of_getElem? hx)
        have := (hq2.lt k hkx).2
        omega
    · rw [hxx] at hkx
      rcases hloc k hkx with e | e
      · rw [hb]; exact h.ap _ _ _ _ k hu hv hku e
      · obtain ⟨q2, hq2⟩ := h.row (List.mem_of_getElem? hu)
        have := (hq2.lt k hku).2
        omega
    · exact h.ap _ _ _ _ k hu hx hku hkx
  · exact (hF.mono (S' := GSet g vs) (fun k hk => .inl (.inr ⟨v, hvm, hk⟩))).set (p := ⟨g, i, none⟩) (.inl (.inl rfl)) _
  · intro k hk
    rcases hk with rfl | ⟨u, hu, hk⟩
    · exact .inl (.inl rfl)
    · obtain ⟨j, hj, e⟩ := List.getElem_of_mem hu
      rcases set_get (l := vs) (r := i) (x := v') (i := j) (q := u) (by rw [List.getElem?_eq_getElem hj, e]) with ⟨_, rfl⟩ | ⟨_, hj2⟩
      · exact (hloc k hk).imp (fun e => .inr ⟨v, hvm, e⟩) (fun h => h)
      · exact .inl (.inr ⟨u, List.mem_of_getElem? hj2, hk⟩)
end
theorem GridAt.base {w : World} {base base' g : Nat} {vs : List Value} {Q : List (List Int)} (h : GridAt w base g vs Q) (hb : base' ≤ base) : GridAt w base' g vs Q :=
  ⟨h.hg, h.len, fun i v q hv hq => own_mono (h.rows i v q hv hq) hb, h.ap, Nat.le_trans hb h.lo⟩
theorem int_snoc2 (a : List Int) (x : Int) : intCells (a ++ [x]) = intCells a ++ [.int .i64 x] := by simp [intCells]
theorem loc_back {v v' : Value} {m n : Nat} (h : v'.ownBlock = v.ownBlock ∨ v'.ownBlock = some (n + 1)) (hn : m ≤ n) : ∀ k, v'.ownBlock = some k → v.ownBlock = some k ∨ m ≤ k := by
  intro k hk
  rcases h with h | h
  · exact .inl (h ▸ hk)
  · rw [h] at hk; injection hk with hk; exact .inr (by omega)
theorem Try.info_ints : (Try.prog.info? 22).map (fun i => (i.zero, i.size, i.bytes)) = some (some (.slice none 0 0), 1, 24) := by kernel_rfl
theorem made_one (z : Value) (n : Nat) : madeCells #[z] n = (List.replicate n z).toArray := by
  apply Array.ext
  · simp [size_madeCells]
  · intro i h1 h2
    have := madeCells_get #[z] n i (by simpa [size_madeCells] using h1)
    rw [Array.getElem?_eq_getElem h1] at this
    simp at this
    simp [this, Nat.mod_one]
theorem make_grid (n : Nat) (hn : n ≤ 256) (w : World) : (Instr.makeSlice 80 (.int .i64 (n : Int)) (.int .i64 (n : Int))).run Try.prog w = .ok (.slice (some ⟨w.heap.size, 0, none⟩) n n) (w.alloc (.cells (List.replicate n (.slice none 0 0)).toArray 22)) := by
  obtain ⟨i0, hi, hz0, hz1, hz2⟩ := info_parts Try.info_ints
  have := run_make (P := Try.prog) (w := w) 80 22 i0 _ Try.underlying80 hi hz0 .i64 .i64 n n (by omega) (by omega) (by rw [hz2]; omega) (by omega)
  rw [hz1, show (Value.slice none 0 0).cells = #[Value.slice none 0 0] by simp [Value.cells], Nat.mul_one, made_one] at this
  simpa using this
theorem make_ints (n : Nat) (hn : n ≤ 256) (w : World) : (Instr.makeSlice 22 (.int .i64 (n : Int)) (.int .i64 (n : Int))).run Try.prog w = .ok (.slice (some ⟨w.heap.size, 0, none⟩) n n) (w.alloc (.cells (List.replicate n (.int .i64 0)).toArray 3)) := by
  obtain ⟨i0, hi, hz0, hz1, hz2⟩ := info_parts Try.info_int
  have := run_make (P := Try.prog) (w := w) 22 3 i0 _ Try.underlying22 hi hz0 .i64 .i64 n n (by omega) (by omega) (by rw [hz2]; omega) (by omega)
  rw [hz1, show (Value.int .i64 0).cells = #[Value.int .i64 0] by simp [Value.cells], Nat.mul_one, made_one] at this
  simpa using this
theorem rep_val {α : Type} {n i : Nat} {v z : α} (h : (List.replicate n z)[i]? = some v) : v = z := by
  rw [List.getElem?_replicate] at h
  split at h
  · injection h with h; exact h.symm
  · cases h
theorem GridAt.made (w : World) (n : Nat) : GridAt (w.alloc (.cells (List.replicate n (.slice none 0 0)).toArray 22)) w.heap.size w.heap.size (List.replicate n (.slice none 0 0)) (List.replicate n []) :=
  ⟨blk_new _ _, by simp, fun i v q hv hq => by rw [rep_val hv, rep_get hq]; exact World.ownsRow_nil _ _ _ _, fun i j v u k hv hu hk _ => (by rw [rep_val hv] at hk; cases hk), Nat.le_refl _⟩
theorem ints_made (w : World) (n : Nat) (hn : n ≤ maxLen) : (w.alloc (.cells (List.replicate n (.int .i64 0)).toArray 3)).ownsRow w.heap.size 3 1 (.slice (some ⟨w.heap.size, 0, none⟩) n n) n (intCells (List.replicate n 0)) :=
  ⟨by simp [intCells], .inr ⟨w.heap.size, n, _, rfl, Nat.le_refl _, blk_new _ _, Nat.le_refl _, hn, by simp, by simp [intCells]⟩⟩
end Go.Proofs.Ytcbpbgjngeemoaa
