/- Words that speak of no package: rows of whole numbers, blocks of two kinds, what a slice holds (written by wip/mkbase.py out of the texts of the ring and the locks). -/
import Derived.Test.YtbkjlohlfkokpaaDeed
import Derived.Test.YtbkjlohlfkokpaaMap
import Derived.Test.YtbkjlohlfkokpaaProg
import Derived.RegionTactic
import Derived.Deep.QuietTactic
import Derived.Deep.LoopGhost
import Derived.BigQuiet
import Derived.BigRegion
import Derived.Deep.RegionHeld3
import Derived.Deep.RegionLaw
import Derived.Laws.CopyOwn
import Derived.Deep.CutBlock
import Derived.Deep.DeepCutAuto
set_option linter.unusedVariables false
set_option linter.unusedSimpArgs false
namespace Go.Proofs.Ytbkjlohlfkokpaa
open Go.RowKit Go.Maps
theorem Try.info_int : (Try.prog.info? 3).map (fun i => (i.zero, i.size, i.bytes)) = some (some (.int .i64 0), 1, 8) := by kernel_rfl
theorem madeCells_get (z : Array Value) (n j : Nat) (h : j < n) : (madeCells z n)[j]? = some (z[j % z.size]!) := by
  simp [madeCells, h]
/-- Whole numbers as cells. -/
def intCells (l : List Int) : List Value := l.map (Value.int .i64)
theorem int_take {l : List Int} {k : Nat} {x : Int} (h : l[k]? = some x) : intCells (l.take (k + 1)) = intCells (l.take k) ++ [.int .i64 x] := by
  rw [List.take_add_one, h]
  simp [intCells]
/-- A row of whole numbers has been made. -/
def OwnedInts (w : World) (l : List Int) (e : Ending) (w' : World) : Prop :=
  ∃ v, e = .returned v ∧ Below w.heap.size w w' ∧ w'.ownsRow w.heap.size 3 1 v l.length (intCells l) ∧ (l = [] → v = .slice none 0 0)
theorem own_cell {w : World} {base g cap : Nat} {e : TypeId} {size n : Nat} {xs : List Value} (h : w.ownsRow base e size (.slice (some ⟨g, 0, none⟩) n cap) n xs) {j : Nat} {u : Value} (hj : xs[j]? = some u) : w.cell? ⟨g, j, none⟩ = some u := by
  have := h.cells (g := g) rfl j u hj
  have hadd : (⟨g, 0, none⟩ : Addr).add j = ⟨g, j, none⟩ := by unfold Addr.add; split <;> simp_all
  rwa [hadd] at this
theorem add_off (g o j : Nat) : (⟨g, o, none⟩ : Addr).add j = ⟨g, o + j, none⟩ := by
  unfold Addr.add
  split <;> first | rfl | simp_all
/-- Which of n things the raw number c speaks of. -/
def pickN (c n : Int) : Int := if c < 0 then (-(c + 1)) % n else c % n
theorem pickN_bd (c n : Int) (hn : 0 < n) : 0 ≤ pickN c n ∧ pickN c n < n := by
  unfold pickN
  split
  · exact ⟨Int.emod_nonneg _ (by omega), Int.emod_lt_of_pos _ hn⟩
  · exact ⟨Int.emod_nonneg _ (by omega), Int.emod_lt_of_pos _ hn⟩
/-- What a slice holds: whole numbers. -/
def Holds (w : World) (A : Option Addr) (L : List Int) : Prop := ∀ k x, L[k]? = some x → ∃ b o, A = some ⟨b, o, none⟩ ∧ w.cell? ⟨b, o + k, none⟩ = some (.int .i64 x)
theorem Holds.drewN {w : World} {A : Option Addr} {L : List Int} (h : Holds w A L) (q : Nat) : Holds (w.drewN q) A L := h
theorem Holds.kept {w w' : World} {A : Option Addr} {L : List Int} {S : Nat → Prop} (h : Holds w A L) (f : Fr S w w') (hn : ∀ a, A = some a → ¬ S a.block) : Holds w' A L := fun k x hk => by
  obtain ⟨b, o, hA, hc⟩ := h k x hk
  exact ⟨b, o, hA, f.cell hc (show ¬ S b from hn ⟨b, o, none⟩ hA)⟩
theorem own_holds {w : World} {base : Nat} {e : TypeId} {A : Option Addr} {n cap : Nat} {L : List Int} (h : w.ownsRow base e 1 (.slice A n cap) n (intCells L)) : Holds w A L := fun k x hk => by
  have hl := h.1
  have hk' := (List.getElem?_eq_some_iff.1 hk).1
  have hn : 0 < n := by simp [intCells] at hl; omega
  obtain ⟨g, cap', cur, hv, _⟩ := own_shape h hn
  cases hv
  exact ⟨g, 0, rfl, by rw [Nat.zero_add]; exact own_cell h (by simp [intCells, hk])⟩
/-- The rest of a row from k on. -/
theorem own_rest {w : World} {base g : Nat} {e : TypeId} {n cap k : Nat} {L : List Int} (h : w.ownsRow base e 1 (.slice (some ⟨g, 0, none⟩) n cap) n (intCells L)) (hk : k < cap) : Holds w (some ⟨g, k, none⟩) (L.drop k) := fun j x hj => by
  rw [List.getElem?_drop] at hj
  exact ⟨g, k, rfl, own_cell h (by simp [intCells, hj])⟩
theorem holds_nil (w : World) (A : Option Addr) : Holds w A [] := fun k x hk => by simp at hk
theorem blk_ne {w : World} {a c : Nat} {o1 o2 : Obj} (h1 : w.heap[a]? = some o1) (h2 : w.heap[c]? = some o2) (h : o1 ≠ o2) : a ≠ c := by
  intro e
  rw [e, h2] at h1
  injection h1 with h1
  exact h h1.symm
theorem cells_ne {A B : Array Value} {s t : TypeId} {f g : Nat × Nat} (h : s ≠ t) : Obj.cells A s f ≠ Obj.cells B t g := fun e => by injection e with _ e _; exact h e
theorem cells_map {A : Array Value} {s : TypeId} {f : Nat × Nat} {es : Array MapEntry} {c : Nat} : Obj.cells A s f ≠ .map es c := fun e => by cases e
theorem own_kind {w : World} {base : Nat} {e : TypeId} {size n : Nat} {v : Value} {xs : List Value} (h : w.ownsRow base e size v n xs) {k : Nat} (hk : v.ownBlock = some k) : ∃ C, w.heap[k]? = some (.cells C e (0, 0)) := by
  rcases h.2 with ⟨h2, _⟩ | ⟨g, cap, cur, rfl, _, hg, _⟩
  · rw [h2] at hk; cases hk
  · cases hk; exact ⟨cur, hg⟩
theorem MapIs.congr {P : Program} {K E : TypeId} {w : World} {b : Nat} {n : Nat} {f g : Int → Option Int} (h : MapIs P K E w b n f) (e : ∀ t, f t = g t) : MapIs P K E w b n g := by
  rwa [show f = g from funext e] at h
theorem Try.zero_int (w : World) : (zeroValue 3).run Try.prog w = .ok (.int .i64 0) w := by kernel_rfl
theorem MapIs.other {P : Program} {K E : TypeId} {w w' : World} {b n : Nat} {f : Int → Option Int} {S : Nat → Prop} (h : MapIs P K E w b n f) (k : Fr S w w') (hS : ∀ j, S j → ∃ A t f, w.heap[j]? = some (.cells A t f)) : MapIs P K E w' b n f := by
  have hmap : ∃ es cl, w.heap[b]? = some (.map es cl) := by obtain ⟨D, ⟨es, cl, h1, _⟩, _⟩ := h; exact ⟨es, cl, h1⟩
  obtain ⟨es, cl, hm⟩ := hmap
  refine h.kept k (fun e => ?_)
  obtain ⟨A, t, f, hj⟩ := hS _ e
  exact blk_ne hj hm cells_map rfl
theorem set_get {α : Type} {l : List α} {r i : Nat} {x q : α} (h : (l.set r x)[i]? = some q) : (i = r ∧ q = x) ∨ (i ≠ r ∧ l[i]? = some q) := by
  by_cases e : i = r
  · subst e
    have hl := (List.getElem?_eq_some_iff.1 h).1
    rw [List.getElem?_set_self (by simpa using hl)] at h
    injection h with h
    exact .inl ⟨rfl, h.symm⟩
  · rw [List.getElem?_set_ne (fun h => e h.symm)] at h
    exact .inr ⟨e, h⟩
theorem int_snoc2 (a : List Int) (x : Int) : intCells (a ++ [x]) = intCells a ++ [.int .i64 x] := by simp [intCells]
theorem loc_back {v v' : Value} {m n : Nat} (h : v'.ownBlock = v.ownBlock ∨ v'.ownBlock = some (n + 1)) (hn : m ≤ n) : ∀ k, v'.ownBlock = some k → v.ownBlock = some k ∨ m ≤ k := by
  intro k hk
  rcases h with h | h
  · exact .inl (h ▸ hk)
  · rw [h] at hk; injection hk with hk; exact .inr (by omega)
theorem made_one (z : Value) (n : Nat) : madeCells #[z] n = (List.replicate n z).toArray := by
  apply Array.ext
  · simp [size_madeCells]
  · intro i h1 h2
    have := madeCells_get #[z] n i (by simpa [size_madeCells] using h1)
    rw [Array.getElem?_eq_getElem h1] at this
    simp at this
    simp [this, Nat.mod_one]
theorem make_ints (n : Nat) (hn : n ≤ 256) (w : World) : (Instr.makeSlice 34 (.int .i64 (n : Int)) (.int .i64 (n : Int))).run Try.prog w = .ok (.slice (some ⟨w.heap.size, 0, none⟩) n n) (w.alloc (.cells (List.replicate n (.int .i64 0)).toArray 3)) := by
  obtain ⟨i0, hi, hz0, hz1, hz2⟩ := info_parts Try.info_int
  have := run_make (P := Try.prog) (w := w) 34 3 i0 _ Try.underlying34 hi hz0 .i64 .i64 n n (by omega) (by omega) (by rw [hz2]; omega) (by omega)
  rw [hz1, show (Value.int .i64 0).cells = #[Value.int .i64 0] by simp [Value.cells], Nat.mul_one, made_one] at this
  simpa using this
theorem rep_val {α : Type} {n i : Nat} {v z : α} (h : (List.replicate n z)[i]? = some v) : v = z := by
  rw [List.getElem?_replicate] at h
  split at h
  · injection h with h; exact h.symm
  · cases h
theorem ints_made (w : World) (n : Nat) (hn : n ≤ maxLen) : (w.alloc (.cells (List.replicate n (.int .i64 0)).toArray 3)).ownsRow w.heap.size 3 1 (.slice (some ⟨w.heap.size, 0, none⟩) n n) n (intCells (List.replicate n 0)) :=
  ⟨by simp [intCells], .inr ⟨w.heap.size, n, _, rfl, Nat.le_refl _, blk_new _ _, Nat.le_refl _, hn, by simp, by simp [intCells]⟩⟩
/-- Two rows of whole numbers that share no block. -/
structure Rows2 (w : World) (base : Nat) (v6 v7 : Value) (a b : List Int) : Prop where
  a : w.ownsRow base 3 1 v6 a.length (intCells a)
  b : w.ownsRow base 3 1 v7 b.length (intCells b)
  ap : ∀ k, v6.ownBlock = some k → v7.ownBlock ≠ some k
theorem Rows2.nil (w : World) (base : Nat) : Rows2 w base (.slice none 0 0) (.slice none 0 0) [] [] := ⟨World.ownsRow_nil _ _ _ _, World.ownsRow_nil _ _ _ _, fun k h => by cases h⟩
theorem Rows2.kept {w w' : World} {base : Nat} {v6 v7 : Value} {a b : List Int} {S : Nat → Prop} (h : Rows2 w base v6 v7 a b) (f : Fr S w w') (h6 : ∀ k, v6.ownBlock = some k → ¬ S k) (h7 : ∀ k, v7.ownBlock = some k → ¬ S k) : Rows2 w' base v6 v7 a b :=
  ⟨own_kept h.a f h6, own_kept h.b f h7, h.ap⟩
theorem int_snoc (a : List Int) (x : Int) : intCells (a ++ [x]) = intCells a ++ [.int .i64 x] := by simp [intCells]
theorem Rows2.pushA {w w1 : World} {base : Nat} {v6 v7 v6' : Value} {a b : List Int} {x : Int} (h : Rows2 w base v6 v7 a b) (h1 : w1.ownsRow base 3 1 v6' (a.length + 1) (intCells a ++ [.int .i64 x])) (f1 : Fr (fun k => v6.ownBlock = some k) w w1)
    (q1 : v6'.ownBlock = v6.ownBlock ∨ v6'.ownBlock = some (w.heap.size + 1)) : Rows2 w1 base v6' v7 (a ++ [x]) b := by
  refine ⟨by rw [int_snoc, List.length_append]; exact h1, own_kept h.b f1 (fun k hk e => h.ap k e hk), fun k hk hk7 => ?_⟩
  rcases q1 with q1 | q1
  · exact h.ap k (q1 ▸ hk) hk7
  · rw [q1] at hk
    injection hk with hk
    have := (h.b.lt k hk7).2
    omega
theorem Rows2.pushB {w w1 : World} {base : Nat} {v6 v7 v7' : Value} {a b : List Int} {x : Int} (h : Rows2 w base v6 v7 a b) (h1 : w1.ownsRow base 3 1 v7' (b.length + 1) (intCells b ++ [.int .i64 x])) (f1 : Fr (fun k => v7.ownBlock = some k) w w1)
    (q1 : v7'.ownBlock = v7.ownBlock ∨ v7'.ownBlock = some (w.heap.size + 1)) : Rows2 w1 base v6 v7' a (b ++ [x]) := by
  refine ⟨own_kept h.a f1 (fun k hk e => h.ap k hk e), by rw [int_snoc, List.length_append]; exact h1, fun k hk hk7 => ?_⟩
  rcases q1 with q1 | q1
  · exact h.ap k hk (q1 ▸ hk7)
  · rw [q1] at hk7
    injection hk7 with hk7
    have := (h.a.lt k hk).2
    omega
theorem loc_ne {v v' : Value} {x n : Nat} (h : v'.ownBlock = v.ownBlock ∨ v'.ownBlock = some (n + 1)) (hv : ∀ k, v.ownBlock = some k → k ≠ x) (hx : x < n) : ∀ k, v'.ownBlock = some k → k ≠ x := by
  intro k hk
  rcases h with h | h
  · exact hv k (h ▸ hk)
  · rw [h] at hk; injection hk with hk; omega
theorem loc_old {v v' : Value} {m n : Nat} (h : v'.ownBlock = v.ownBlock ∨ v'.ownBlock = some (n + 1)) (hn : m ≤ n) : ∀ k, v'.ownBlock = some k → v.ownBlock = some k ∨ m ≤ k := by
  intro k hk
  rcases h with h | h
  · exact .inl (h ▸ hk)
  · rw [h] at hk; injection hk with hk; exact .inr (by omega)
end Go.Proofs.Ytbkjlohlfkokpaa
