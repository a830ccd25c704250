/- Joined: Base, Src, Rowp, SysPlain, PlanPlain, PlanRight, CmpInt, Ref17Plain. -/
import Derived.Test.YtmhochjpdedlgaaQ02
import Derived.Test.YtmhochjpdedlgaaQ03
import Derived.Test.YtmhochjpdedlgaaProg
import Derived.RegionTactic
import Derived.Deep.QuietTactic
import Derived.Deep.LoopGhost
import Derived.BigQuiet
import Derived.BigRegion
import Derived.Deep.RegionHeld3
import Derived.Deep.RegionLaw
import Derived.Laws.CopyOwn
import Derived.Deep.CutBlock
import Derived.Deep.DeepCutAuto
set_option linter.unusedVariables false
set_option linter.unusedSimpArgs false
/- Words that speak of no package: rows of whole numbers, blocks of two kinds, what a slice holds (written by wip/mkbase.py out of the texts of the ring and the locks). -/
set_option linter.unusedVariables false
set_option linter.unusedSimpArgs false
namespace Go.Proofs.Ytmhochjpdedlgaa
open Go.RowKit Go.Maps
theorem Try.info_int : (Try.prog.info? 3).map (fun i => (i.zero, i.size, i.bytes)) = some (some (.int .i64 0), 1, 8) := by kernel_rfl
theorem madeCells_get (z : Array Value) (n j : Nat) (h : j < n) : (madeCells z n)[j]? = some (z[j % z.size]!) := by
  simp [madeCells, h]
/-- Whole numbers as cells. -/
def intCells (l : List Int) : List Value := l.map (Value.int .i64)
theorem int_take {l : List Int} {k : Nat} {x : Int} (h : l[k]? = some x) : intCells (l.take (k + 1)) = intCells (l.take k) ++ [.int .i64 x] := by
  rw [List.take_add_one, h]
  simp [intCells]
/-- A row of whole numbers has been made. -/
def OwnedInts (w : World) (l : List Int) (e : Ending) (w' : World) : Prop :=
  ∃ v, e = .returned v ∧ Below w.heap.size w w' ∧ w'.ownsRow w.heap.size 3 1 v l.length (intCells l) ∧ (l = [] → v = .slice none 0 0)
theorem own_cell {w : World} {base g cap : Nat} {e : TypeId} {size n : Nat} {xs : List Value} (h : w.ownsRow base e size (.slice (some ⟨g, 0, none⟩) n cap) n xs) {j : Nat} {u : Value} (hj : xs[j]? = some u) : w.cell? ⟨g, j, none⟩ = some u := by
  have := h.cells (g := g) rfl j u hj
  have hadd : (⟨g, 0, none⟩ : Addr).add j = ⟨g, j, none⟩ := by unfold Addr.add; split <;> simp_all
  rwa [hadd] at this
theorem add_off (g o j : Nat) : (⟨g, o, none⟩ : Addr).add j = ⟨g, o + j, none⟩ := by
  unfold Addr.add
  split <;> first | rfl | simp_all
/-- Which of n things the raw number c speaks of. -/
def pickN (c n : Int) : Int := if c < 0 then (-(c + 1)) % n else c % n
theorem pickN_bd (c n : Int) (hn : 0 < n) : 0 ≤ pickN c n ∧ pickN c n < n := by
  unfold pickN
  split
  · exact ⟨Int.emod_nonneg _ (by omega), Int.emod_lt_of_pos _ hn⟩
  · exact ⟨Int.emod_nonneg _ (by omega), Int.emod_lt_of_pos _ hn⟩
/-- What a slice holds: whole numbers. -/
def Holds (w : World) (A : Option Addr) (L : List Int) : Prop := ∀ k x, L[k]? = some x → ∃ b o, A = some ⟨b, o, none⟩ ∧ w.cell? ⟨b, o + k, none⟩ = some (.int .i64 x)
theorem Holds.drewN {w : World} {A : Option Addr} {L : List Int} (h : Holds w A L) (q : Nat) : Holds (w.drewN q) A L := h
theorem Holds.kept {w w' : World} {A : Option Addr} {L : List Int} {S : Nat → Prop} (h : Holds w A L) (f : Fr S w w') (hn : ∀ a, A = some a → ¬ S a.block) : Holds w' A L := fun k x hk => by
  obtain ⟨b, o, hA, hc⟩ := h k x hk
  exact ⟨b, o, hA, f.cell hc (show ¬ S b from hn ⟨b, o, none⟩ hA)⟩
theorem own_holds {w : World} {base : Nat} {e : TypeId} {A : Option Addr} {n cap : Nat} {L : List Int} (h : w.ownsRow base e 1 (.slice A n cap) n (intCells L)) : Holds w A L := fun k x hk => by
  have hl := h.1
  have hk' := (List.getElem?_eq_some_iff.1 hk).1
  have hn : 0 < n := by simp [intCells] at hl; omega
  obtain ⟨g, cap', cur, hv, _⟩ := own_shape h hn
  cases hv
  exact ⟨g, 0, rfl, by rw [Nat.zero_add]; exact own_cell h (by simp [intCells, hk])⟩
/-- The rest of a row from k on. -/
theorem own_rest {w : World} {base g : Nat} {e : TypeId} {n cap k : Nat} {L : List Int} (h : w.ownsRow base e 1 (.slice (some ⟨g, 0, none⟩) n cap) n (intCells L)) (hk : k < cap) : Holds w (some ⟨g, k, none⟩) (L.drop k) := fun j x hj => by
  rw [List.getElem?_drop] at hj
  exact ⟨g, k, rfl, own_cell h (by simp [intCells, hj])⟩
theorem holds_nil (w : World) (A : Option Addr) : Holds w A [] := fun k x hk => by simp at hk
theorem blk_ne {w : World} {a c : Nat} {o1 o2 : Obj} (h1 : w.heap[a]? = some o1) (h2 : w.heap[c]? = some o2) (h : o1 ≠ o2) : a ≠ c := by
  intro e
  rw [e, h2] at h1
  injection h1 with h1
  exact h h1.symm
theorem cells_ne {A B : Array Value} {s t : TypeId} {f g : Nat × Nat} (h : s ≠ t) : Obj.cells A s f ≠ Obj.cells B t g := fun e => by injection e with _ e _; exact h e
theorem cells_map {A : Array Value} {s : TypeId} {f : Nat × Nat} {es : Array MapEntry} {c : Nat} : Obj.cells A s f ≠ .map es c := fun e => by cases e
theorem own_kind {w : World} {base : Nat} {e : TypeId} {size n : Nat} {v : Value} {xs : List Value} (h : w.ownsRow base e size v n xs) {k : Nat} (hk : v.ownBlock = some k) : ∃ C, w.heap[k]? = some (.cells C e (0, 0)) := by
  rcases h.2 with ⟨h2, _⟩ | ⟨g, cap, cur, rfl, _, hg, _⟩
  · rw [h2] at hk; cases hk
  · cases hk; exact ⟨cur, hg⟩
theorem MapIs.congr {P : Program} {K E : TypeId} {w : World} {b : Nat} {n : Nat} {f g : Int → Option Int} (h : MapIs P K E w b n f) (e : ∀ t, f t = g t) : MapIs P K E w b n g := by
  rwa [show f = g from funext e] at h
theorem Try.zero_int (w : World) : (zeroValue 3).run Try.prog w = .ok (.int .i64 0) w := by kernel_rfl
theorem MapIs.other {P : Program} {K E : TypeId} {w w' : World} {b n : Nat} {f : Int → Option Int} {S : Nat → Prop} (h : MapIs P K E w b n f) (k : Fr S w w') (hS : ∀ j, S j → ∃ A t f, w.heap[j]? = some (.cells A t f)) : MapIs P K E w' b n f := by
  have hmap : ∃ es cl, w.heap[b]? = some (.map es cl) := by obtain ⟨D, ⟨es, cl, h1, _⟩, _⟩ := h; exact ⟨es, cl, h1⟩
  obtain ⟨es, cl, hm⟩ := hmap
  refine h.kept k (fun e => ?_)
  obtain ⟨A, t, f, hj⟩ := hS _ e
  exact blk_ne hj hm cells_map rfl
theorem set_get {α : Type} {l : List α} {r i : Nat} {x q : α} (h : (l.set r x)[i]? = some q) : (i = r ∧ q = x) ∨ (i ≠ r ∧ l[i]? = some q) := by
  by_cases e : i = r
  · subst e
    have hl := (List.getElem?_eq_some_iff.1 h).1
    rw [List.getElem?_set_self (by simpa using hl)] at h
    injection h with h
    exact .inl ⟨rfl, h.symm⟩
  · rw [List.getElem?_set_ne (fun h => e h.symm)] at h
    exact .inr ⟨e, h⟩
theorem int_snoc2 (a : List Int) (x : Int) : intCells (a ++ [x]) = intCells a ++ [.int .i64 x] := by simp [intCells]
theorem loc_back {v v' : Value} {m n : Nat} (h : v'.ownBlock = v.ownBlock ∨ v'.ownBlock = some (n + 1)) (hn : m ≤ n) : ∀ k, v'.ownBlock = some k → v.ownBlock = some k ∨ m ≤ k := by
  intro k hk
  rcases h with h | h
  · exact .inl (h ▸ hk)
  · rw [h] at hk; injection hk with hk; exact .inr (by omega)
theorem made_one (z : Value) (n : Nat) : madeCells #[z] n = (List.replicate n z).toArray := by
  apply Array.ext
  · simp [size_madeCells]
  · intro i h1 h2
    have := madeCells_get #[z] n i (by simpa [size_madeCells] using h1)
    rw [Array.getElem?_eq_getElem h1] at this
    simp at this
    simp [this, Nat.mod_one]
theorem make_ints (n : Nat) (hn : n ≤ 256) (w : World) : (Instr.makeSlice 39 (.int .i64 (n : Int)) (.int .i64 (n : Int))).run Try.prog w = .ok (.slice (some ⟨w.heap.size, 0, none⟩) n n) (w.alloc (.cells (List.replicate n (.int .i64 0)).toArray 3)) := by
  obtain ⟨i0, hi, hz0, hz1, hz2⟩ := info_parts Try.info_int
  have := run_make (P := Try.prog) (w := w) 39 3 i0 _ Try.underlying39 hi hz0 .i64 .i64 n n (by omega) (by omega) (by rw [hz2]; omega) (by omega)
  rw [hz1, show (Value.int .i64 0).cells = #[Value.int .i64 0] by simp [Value.cells], Nat.mul_one, made_one] at this
  simpa using this
theorem rep_val {α : Type} {n i : Nat} {v z : α} (h : (List.replicate n z)[i]? = some v) : v = z := by
  rw [List.getElem?_replicate] at h
  split at h
  · injection h with h; exact h.symm
  · cases h
theorem ints_made (w : World) (n : Nat) (hn : n ≤ maxLen) : (w.alloc (.cells (List.replicate n (.int .i64 0)).toArray 3)).ownsRow w.heap.size 3 1 (.slice (some ⟨w.heap.size, 0, none⟩) n n) n (intCells (List.replicate n 0)) :=
  ⟨by simp [intCells], .inr ⟨w.heap.size, n, _, rfl, Nat.le_refl _, blk_new _ _, Nat.le_refl _, hn, by simp, by simp [intCells]⟩⟩
/-- Two rows of whole numbers that share no block. -/
structure Rows2 (w : World) (base : Nat) (v6 v7 : Value) (a b : List Int) : Prop where
  a : w.ownsRow base 3 1 v6 a.length (intCells a)
  b : w.ownsRow base 3 1 v7 b.length (intCells b)
  ap : ∀ k, v6.ownBlock = some k → v7.ownBlock ≠ some k
theorem Rows2.nil (w : World) (base : Nat) : Rows2 w base (.slice none 0 0) (.slice none 0 0) [] [] := ⟨World.ownsRow_nil _ _ _ _, World.ownsRow_nil _ _ _ _, fun k h => by cases h⟩
theorem Rows2.kept {w w' : World} {base : Nat} {v6 v7 : Value} {a b : List Int} {S : Nat → Prop} (h : Rows2 w base v6 v7 a b) (f : Fr S w w') (h6 : ∀ k, v6.ownBlock = some k → ¬ S k) (h7 : ∀ k, v7.ownBlock = some k → ¬ S k) : Rows2 w' base v6 v7 a b :=
  ⟨own_kept h.a f h6, own_kept h.b f h7, h.ap⟩
theorem int_snoc (a : List Int) (x : Int) : intCells (a ++ [x]) = intCells a ++ [.int .i64 x] := by simp [intCells]
theorem Rows2.pushA {w w1 : World} {base : Nat} {v6 v7 v6' : Value} {a b : List Int} {x : Int} (h : Rows2 w base v6 v7 a b) (h1 : w1.ownsRow base 3 1 v6' (a.length + 1) (intCells a ++ [.int .i64 x])) (f1 : Fr (fun k => v6.ownBlock = some k) w w1)
    (q1 : v6'.ownBlock = v6.ownBlock ∨ v6'.ownBlock = some (w.heap.size + 1)) : Rows2 w1 base v6' v7 (a ++ [x]) b := by
  refine ⟨by rw [int_snoc, List.length_append]; exact h1, own_kept h.b f1 (fun k hk e => h.ap k e hk), fun k hk hk7 => ?_⟩
  rcases q1 with q1 | q1
  · exact h.ap k (q1 ▸ hk) hk7
  · rw [q1] at hk
    injection hk with hk
    have := (h.b.lt k hk7).2
    omega
theorem Rows2.pushB {w w1 : World} {base : Nat} {v6 v7 v7' : Value} {a b : List Int} {x : Int} (h : Rows2 w base v6 v7 a b) (h1 : w1.ownsRow base 3 1 v7' (b.length + 1) (intCells b ++ [.int .i64 x])) (f1 : Fr (fun k => v7.ownBlock = some k) w w1)
    (q1 : v7'.ownBlock = v7.ownBlock ∨ v7'.ownBlock = some (w.heap.size + 1)) : Rows2 w1 base v6 v7' a (b ++ [x]) := by
  refine ⟨own_kept h.a f1 (fun k hk e => h.ap k hk e), by rw [int_snoc, List.length_append]; exact h1, fun k hk hk7 => ?_⟩
  rcases q1 with q1 | q1
  · exact h.ap k hk (q1 ▸ hk7)
  · rw [q1] at hk7
    injection hk7 with hk7
    have := (h.a.lt k hk).2
    omega
theorem loc_ne {v v' : Value} {x n : Nat} (h : v'.ownBlock = v.ownBlock ∨ v'.ownBlock = some (n + 1)) (hv : ∀ k, v.ownBlock = some k → k ≠ x) (hx : x < n) : ∀ k, v'.ownBlock = some k → k ≠ x := by
  intro k hk
  rcases h with h | h
  · exact hv k (h ▸ hk)
  · rw [h] at hk; injection hk with hk; omega
theorem loc_old {v v' : Value} {m n : Nat} (h : v'.ownBlock = v.ownBlock ∨ v'.ownBlock = some (n + 1)) (hn : m ≤ n) : ∀ k, v'.ownBlock = some k → v.ownBlock = some k ∨ m ≤ k := by
  intro k hk
  rcases h with h | h
  · exact .inl (h ▸ hk)
  · rw [h] at hk; injection hk with hk; exact .inr (by omega)
end Go.Proofs.Ytmhochjpdedlgaa
/- Rows of things of several cells: what stands at an index; what a slice holds as cells, nil let in; append of a whole slice; cuts. No program; no condition. -/
set_option linter.unusedVariables false
set_option linter.unusedSimpArgs false
namespace Go.Proofs.Ytmhochjpdedlgaa
open Go.RowKit

/-- The cells that a slice holds (nil: none). -/
def Src (w : World) (A : Option Addr) (cs : List Value) : Prop := ∀ j u, cs[j]? = some u → ∃ ad, A = some ad ∧ w.cell? (ad.add j) = some u
section
variable {w w' : World} {A : Option Addr} {cs : List Value} {base n cap size : Nat} {e : TypeId} {xs : List Value}
theorem Src.nil (w : World) (A : Option Addr) : Src w A [] := fun j u h => by simp at h
theorem own_src (h : w.ownsRow base e size (.slice A n cap) n xs) : Src w A xs := fun j u hj => by
  have hlt := (List.getElem?_eq_some_iff.1 hj).1
  have hl := h.1
  have hn : 0 < n := by
    rcases Nat.eq_zero_or_pos n with h0 | h0
    · subst h0; simp at hl; subst hl; simp at hj
    · exact h0
  obtain ⟨g, cap', cur, hv, _⟩ := own_shape h hn
  cases hv
  exact ⟨⟨g, 0, none⟩, rfl, by rw [add_off, Nat.zero_add]; exact own_cell0 h hj⟩
theorem Src.take (h : Src w A cs) (k : Nat) : Src w A (cs.take k) := fun j u hj => by
  rw [List.getElem?_take] at hj
  split at hj
  · exact h j u hj
  · cases hj
theorem add_twice (a : Addr) (i j : Nat) : (a.add i).add j = a.add (i + j) := by
  unfold Addr.add
  by_cases hi : i = 0 <;> by_cases hj : j = 0 <;> simp [hi, hj, Nat.add_assoc]
theorem Src.drop (h : Src w A cs) (k : Nat) : Src w (A.map (·.add k)) (cs.drop k) := fun j u hj => by
  rw [List.getElem?_drop] at hj
  obtain ⟨ad, rfl, hc⟩ := h _ u hj
  exact ⟨ad.add k, rfl, by rw [add_twice]; exact hc⟩
/-- A cut's end, as the model says it. -/
theorem Src.rest (h : Src w A cs) (hl : cs.length = n * size) (hn : n ≤ cap) (k : Nat) : Src w (if cap = k then A else A.map (·.add (k * size))) (cs.drop (k * size)) := by
  by_cases hk : cap = k
  · rw [if_pos hk, List.drop_eq_nil_of_le (by rw [hl]; exact Nat.mul_le_mul_right _ (by omega))]
    exact Src.nil _ _
  · rw [if_neg hk]; exact h.drop _
theorem Src.kept {S : Nat → Prop} (h : Src w A cs) (f : Fr S w w') (hn : ∀ a, A = some a → ¬ S a.block) : Src w' A cs := fun j u hj => by
  obtain ⟨ad, hA, hc⟩ := h j u hj
  have hb : (ad.add j).block = ad.block := by unfold Addr.add; split <;> rfl
  exact ⟨ad, hA, f.cell hc (by rw [hb]; exact hn ad hA)⟩
/-- What stands at an index. -/
theorem row_cell {α : Type} {enc : α → List Value} {l : List α} {k j : Nat} {x : α} {u : Value} (hs : ∀ x, (enc x).length = size) (h : w.ownsRow base e size (.slice A n cap) n (flat enc l)) (hx : l[k]? = some x) (hj : (enc x)[j]? = some u) :
    ∃ g, A = some ⟨g, 0, none⟩ ∧ w.cell? ⟨g, k * size + j, none⟩ = some u := by
  have hj2 : j < size := by rw [← hs x]; exact (List.getElem?_eq_some_iff.1 hj).1
  have hf : (flat enc l)[k * size + j]? = some u := by rw [flat_get hs l k j x hx hj2]; exact hj
  obtain ⟨ad, hA, _⟩ := own_src h _ _ hf
  have hn : 0 < n := by
    rcases Nat.eq_zero_or_pos n with h0 | h0
    · have := h.1; subst h0; simp at this; rw [this] at hf; simp at hf
    · exact h0
  obtain ⟨g, cap', cur, hv, _⟩ := own_shape h hn
  cases hv
  exact ⟨g, rfl, own_cell0 h hf⟩
theorem own_cap (h : w.ownsRow base e size (.slice A n cap) n xs) : n ≤ cap ∧ cap ≤ maxLen := by
  rcases h.2 with ⟨h, h2⟩ | ⟨g, cap', cur, h, _, _, h3, h4, _⟩
  · cases h; exact ⟨Nat.le_refl _, Nat.zero_le _⟩
  · cases h; exact ⟨h3, h4⟩
end
section
variable {P : Program}
theorem run_append_src (w : World) (base : Nat) (t ty e : TypeId) (i : TypeInfo) (z : Value) (size bytes : Nat) (ht : P.underlying t = some (.slice e)) (hi : P.info? e = some i) (hz : i.zero = some z)
    (hsize : i.size = size) (hby : i.bytes = bytes) (hzs : z.cells.size = size) (hsz : 0 < size)
    (v : Value) (n : Nat) (xs : List Value) (hown : w.ownsRow base e size v n xs) (A : Option Addr) (m c : Nat) (news : List Value) (hl : news.length = m * size) (hs : Src w A news) (h1 : ∀ u ∈ news, u.oneCell' = true)
    (h63 : n + m ≤ maxLen) (hbytes : (n + m) * bytes ≤ 140737488355328) (hbase : base ≤ w.heap.size) :
    ∃ v' w', (Builtin.append_ #[t, t] ty #[v, .slice A m c]).run P w = .ok v' w' ∧ w'.ownsRow base e size v' (n + m) (xs ++ news) ∧ Fr (fun k => v.ownBlock = some k) w w' ∧ (v'.ownBlock = v.ownBlock ∨ v'.ownBlock = some w.heap.size) := by
  cases A with
  | none =>
    have hn : news = [] := by
      rcases news with _ | ⟨u, l⟩
      · rfl
      · obtain ⟨ad, h, _⟩ := hs 0 u rfl; cases h
    subst hn
    have hm : m = 0 := by
      rcases Nat.eq_zero_or_pos m with h | h
      · exact h
      · have := Nat.mul_pos h hsz; simp at hl; omega
    subst hm
    refine ⟨v, w, ?_, by simpa using hown, Fr.refl _ _, .inl rfl⟩
    rcases hown.2 with ⟨rfl, rfl⟩ | ⟨g, cap, cur, rfl, _, _, hnc, _⟩
    · simp [Builtin.append_, run_underlying ht, sizeOf, typeInfo, hi, Builtin.lenOf, Builtin.firstCells]
    · simp [Builtin.append_, run_underlying ht, sizeOf, typeInfo, hi, Builtin.lenOf, Builtin.firstCells, hnc, storeCells]
  | some ad =>
    obtain ⟨v', w', hr, h2, h3, _, h5⟩ := run_append_own_at (P := P) w base t ty e i z size bytes ht hi hz hsize hby hzs hsz v n xs hown ad m c news hl (fun j u hj => by
      obtain ⟨ad', he, hc⟩ := hs j u hj
      cases he
      exact hc) h1 h63 hbytes hbase
    exact ⟨v', w', hr, h2, (Fr.refl _ w).grown h3 (fun k hk => .inl hk), h5⟩
variable {w : World} {ops : Array Oper} {rest : List Oper} {o : Oper} {a : Act} {Q : Exit → Act → World → Prop}
/-- 'append(s, x...)'. -/
theorem append_src (hgd : o.guard = none) (s x : Operand) (t : TypeId) (ho : o.op = .call { callee := .builtin .append, args := #[s, x], argTypes := #[t, t] })
    (base : Nat) (e : TypeId) (i : TypeInfo) (z : Value) (size bytes : Nat) (ht : P.underlying t = some (.slice e)) (hi : P.info? e = some i) (hz : i.zero = some z)
    (hsize : i.size = size) (hby : i.bytes = bytes) (hzs : z.cells.size = size) (hsz : 0 < size)
    (v : Value) (n : Nat) (xs : List Value) (hs : a.eval s = v) (hown : w.ownsRow base e size v n xs) (A : Option Addr) (m c : Nat) (news : List Value) (hx : a.eval x = .slice A m c) (hl : news.length = m * size) (hsrc : Src w A news) (h1 : ∀ u ∈ news, u.oneCell' = true)
    (h63 : n + m ≤ maxLen) (hbytes : (n + m) * bytes ≤ 140737488355328) (hbase : base ≤ w.heap.size)
    (h : ∀ v' w', w'.ownsRow base e size v' (n + m) (xs ++ news) → Fr (fun k => v.ownBlock = some k) w w' → (v'.ownBlock = v.ownBlock ∨ v'.ownBlock = some w.heap.size) → wpList P ops Q rest (a.put o.dst v') w') :
    wpList P ops Q (o :: rest) a w := by
  refine wpList_plain hgd fun K hK => ?_
  obtain ⟨v', w', hr, h2, h3, h5⟩ := run_append_src (P := P) w base t o.type e i z size bytes ht hi hz hsize hby hzs hsz v n xs hown A m c news hl hsrc h1 h63 hbytes hbase
  unfold Oper.wp
  simp [execOp, ho, resolve, invoke, builtin, hs, hx, hr, Result.andThen]
  exact hK _ _ (h v' w' h2 h3 h5)
end
section
variable {α : Type} {enc : α → List Value} {sz : Nat}
theorem flat_take (hs : ∀ x, (enc x).length = sz) (l : List α) (k : Nat) : (flat enc l).take (k * sz) = flat enc (l.take k) := by
  induction l generalizing k with
  | nil => simp [flat]
  | cons x l ih =>
    cases k with
    | zero => simp [flat]
    | succ k => rw [flat_cons, List.take_append, hs, List.take_of_length_le (by rw [hs, Nat.add_mul]; omega), show (k + 1) * sz - sz = k * sz by rw [Nat.add_mul]; omega, ih, List.take_succ_cons, flat_cons]
theorem flat_drop (hs : ∀ x, (enc x).length = sz) (l : List α) (k : Nat) : (flat enc l).drop (k * sz) = flat enc (l.drop k) := by
  induction l generalizing k with
  | nil => simp [flat]
  | cons x l ih =>
    cases k with
    | zero => simp
    | succ k => rw [flat_cons, List.drop_append, hs, List.drop_eq_nil_of_le (by rw [hs, Nat.add_mul]; omega), show (k + 1) * sz - sz = k * sz by rw [Nat.add_mul]; omega, ih, List.drop_succ_cons, List.nil_append]
theorem flat_one (h1 : ∀ x, ∀ u ∈ enc x, u.oneCell' = true) (l : List α) : ∀ u ∈ flat enc l, u.oneCell' = true := fun u hu => by
  obtain ⟨x, _, hx⟩ := List.mem_flatMap.1 hu
  exact h1 x u hx
theorem flat_snoc (l : List α) (x : α) : flat enc (l ++ [x]) = flat enc l ++ enc x := by rw [flat_append]; simp [flat]
end
/-- Two rows whose blocks are two. -/
def Apart (v u : Value) : Prop := ∀ k, v.ownBlock = some k → u.ownBlock ≠ some k
theorem Apart.symm {v u : Value} (h : Apart v u) : Apart u v := fun k hk e => h k e hk
theorem Apart.nil (u : Value) : Apart (.slice none 0 0) u := fun k h => by cases h
theorem Apart.grown {v v' u : Value} {w : World} {m : Nat} {base : Nat} {e : TypeId} {size n : Nat} {xs : List Value} (h : Apart v u) (hl : v'.ownBlock = v.ownBlock ∨ v'.ownBlock = some m) (hu : w.ownsRow base e size u n xs) (hm : w.heap.size ≤ m) : Apart v' u := fun k hk e2 => by
  rcases hl with hl | hl
  · exact h k (hl ▸ hk) e2
  · rw [hl] at hk
    injection hk with hk
    have := (hu.lt k e2).2
    omega
theorem kind_ne {w : World} {base x : Nat} {e t : TypeId} {size n : Nat} {v : Value} {xs : List Value} {C : Array Value} {f : Nat × Nat} (h : w.ownsRow base e size v n xs) (hx : w.heap[x]? = some (.cells C t f)) (hne : e ≠ t) : ∀ k, v.ownBlock = some k → k ≠ x := fun k hk => by
  obtain ⟨D, hD⟩ := own_kind h hk
  exact blk_ne hD hx (cells_ne hne)
end Go.Proofs.Ytmhochjpdedlgaa
/- What a slice holds: things of sz cells each, whatever they hold in turn (nested slices let in); kept while what lay ahead is kept. No program; no condition. -/
set_option linter.unusedVariables false
set_option linter.unusedSimpArgs false
namespace Go.Proofs.Ytmhochjpdedlgaa
open Go.RowKit

/-- What a thing's cells say of it in a world. -/
abbrev Reads (α : Type) := World → List Value → α → Prop
/-- A slice value holds the list l, sz cells each. -/
def Rowp {α : Type} (sz : Nat) (R : Reads α) (w : World) (v : Value) (l : List α) : Prop :=
  ∃ A cap, v = .slice A l.length cap ∧ l.length ≤ cap ∧ cap ≤ maxLen ∧ ∀ i x, l[i]? = some x → ∃ b o cs, A = some ⟨b, o, none⟩ ∧ b < w.heap.size ∧ cs.length = sz ∧ (∀ j c, cs[j]? = some c → w.cell? ⟨b, o + i * sz + j, none⟩ = some c) ∧ R w cs x
/-- What is read stays, while what lay ahead is kept. -/
def Stays {α : Type} (R : Reads α) : Prop := ∀ w w' cs x, Below w.heap.size w w' → R w cs x → R w' cs x
section
variable {α β : Type} {sz : Nat} {R : Reads α} {w w' : World} {v : Value} {l : List α} {A : Option Addr} {n cap i : Nat} {x : α}
theorem Rowp.nil (sz : Nat) (R : Reads α) (w : World) : Rowp sz R w (.slice none 0 0) [] := ⟨none, 0, rfl, Nat.le_refl _, Nat.zero_le _, fun i x h => by simp at h⟩
theorem Rowp.later (h : Rowp sz R w v l) (hR : Stays R) (k : Below w.heap.size w w') : Rowp sz R w' v l := by
  obtain ⟨A, cap, hv, h1, h2, h3⟩ := h
  refine ⟨A, cap, hv, h1, h2, fun i x hx => ?_⟩
  obtain ⟨b, o, cs, hA, hb, hl, hc, hr⟩ := h3 i x hx
  exact ⟨b, o, cs, hA, Nat.lt_of_lt_of_le hb k.size, hl, fun j c hj => (k.cell (p := ⟨b, o + i * sz + j, none⟩) hb).trans (hc j c hj), hR _ _ _ _ k hr⟩
theorem Rowp.shape (h : Rowp sz R w v l) : ∃ A cap, v = .slice A l.length cap ∧ l.length ≤ cap ∧ cap ≤ maxLen := let ⟨A, cap, hv, h1, h2, _⟩ := h; ⟨A, cap, hv, h1, h2⟩
theorem Rowp.len (h : Rowp sz R w (.slice A n cap) l) : n = l.length := by
  obtain ⟨A', cap', hv, _⟩ := h
  injection hv
theorem Rowp.room (h : Rowp sz R w (.slice A n cap) l) : n ≤ cap ∧ cap ≤ maxLen := by
  obtain ⟨A', cap', hv, h1, h2, _⟩ := h
  injection hv with _ e1 e2
  omega
/-- What stands at an index. -/
theorem Rowp.at (h : Rowp sz R w (.slice A n cap) l) (hx : l[i]? = some x) : ∃ b o cs, A = some ⟨b, o, none⟩ ∧ b < w.heap.size ∧ cs.length = sz ∧ (∀ j c, cs[j]? = some c → w.cell? ⟨b, o + i * sz + j, none⟩ = some c) ∧ R w cs x := by
  obtain ⟨A', cap', hv, h1, h2, h3⟩ := h
  injection hv with e1
  subst e1
  exact h3 i x hx
theorem Rowp.mono {R' : Reads β} {f : α → β} (h : Rowp sz R w v l) (hR : ∀ cs x, x ∈ l → R w cs x → R' w cs (f x)) : Rowp sz R' w v (l.map f) := by
  obtain ⟨A, cap, hv, h1, h2, h3⟩ := h
  refine ⟨A, cap, by rw [List.length_map]; exact hv, by rw [List.length_map]; exact h1, h2, fun i x hx => ?_⟩
  rw [List.getElem?_map] at hx
  obtain ⟨y, hy, rfl⟩ := Option.map_eq_some_iff.1 hx
  obtain ⟨b, o, cs, hA, hb, hl, hc, hr⟩ := h3 i y hy
  exact ⟨b, o, cs, hA, hb, hl, hc, hR _ _ (List.mem_of_getElem? hy) hr⟩
/-- A row that a call has made. -/
theorem Rowp.of_own {base : Nat} {e : TypeId} {enc : α → List Value} (hs : ∀ x, (enc x).length = sz) (h : w.ownsRow base e sz v n (flat enc l)) (hn : n = l.length) (hz : 0 < sz) (hR : ∀ x ∈ l, R w (enc x) x) : Rowp sz R w v l := by
  subst hn
  obtain ⟨A, cap, rfl⟩ := own_slice h
  have hc := own_cap h
  refine ⟨A, cap, rfl, hc.1, hc.2, fun i x hx => ?_⟩
  have hpos : 0 < l.length := by have := (List.getElem?_eq_some_iff.1 hx).1; omega
  obtain ⟨g, cap', cur, hv, _, hg, _⟩ := own_shape h hpos
  injection hv with e1 _ _
  subst e1
  refine ⟨g, 0, enc x, rfl, blk_lt hg, hs x, fun j c hj => ?_, hR x (List.mem_of_getElem? hx)⟩
  obtain ⟨g', e2, hcell⟩ := row_cell hs h hx hj
  injection e2 with e2
  injection e2 with e2
  subst e2
  rw [Nat.zero_add]
  exact hcell
end
/-- One whole number. -/
def IntR : Reads Int := fun _ cs x => cs = [.int .i64 x]
theorem IntR.stays : Stays IntR := fun _ _ _ _ _ h => h
/-- A slice in a cell. -/
def RowR {α : Type} (sz : Nat) (R : Reads α) : Reads (List α) := fun w cs l => ∃ u, cs = [u] ∧ Rowp sz R w u l
theorem RowR.stays {α : Type} {sz : Nat} {R : Reads α} (h : Stays R) : Stays (RowR sz R) := fun _ _ _ _ k ⟨u, e, hu⟩ => ⟨u, e, hu.later h k⟩
theorem Rowp.holds {w : World} {A : Option Addr} {n cap : Nat} {L : List Int} (h : Rowp 1 IntR w (.slice A n cap) L) : Holds w A L := fun k x hk => by
  obtain ⟨b, o, cs, hA, _, _, hc, hr⟩ := h.at hk
  have hr' : cs = [.int .i64 x] := hr
  subst hr'
  have := hc 0 _ rfl
  exact ⟨b, o, hA, by simpa using this⟩
theorem Rowp.ints {w : World} {base n : Nat} {e : TypeId} {v : Value} {L : List Int} (h : w.ownsRow base e 1 v n (intCells L)) (hn : n = L.length) : Rowp 1 IntR w v L := by
  refine Rowp.of_own (base := base) (e := e) (enc := fun x => [Value.int .i64 x]) (fun _ => rfl) ?_ hn (by omega) (fun x _ => rfl)
  have : flat (fun x => [Value.int .i64 x]) L = intCells L := by
    unfold flat intCells
    clear hn h
    induction L with
    | nil => rfl
    | cons a L ih => rw [List.flatMap_cons, ih, List.map_cons]; rfl
  rw [this]
  exact h
end Go.Proofs.Ytmhochjpdedlgaa
/- Systems and plans, plain: when a system is right (chapter 8). No program in sight. -/
set_option linter.unusedVariables false
set_option linter.unusedSimpArgs false
namespace Go.Proofs.Ytmhochjpdedlgaa
open Go.RowKit

structure Sec where
  at_ : Int
  res : Int
  len : Int
structure Tsk where
  per : Int
  dl : Int
  wc : Int
  secs : List Sec
structure Sy where
  cores : Int
  policy : Int
  prot : Int
  rel : Int
  sw : Int
  fin : Int
  lat : Int
  resn : Int
  tasks : List Tsk
def I64 (x : Int) : Prop := -9223372036854775808 ≤ x ∧ x ≤ 9223372036854775807
structure Sec.Wf (x : Sec) : Prop where
  a : I64 x.at_
  r : I64 x.res
  l : I64 x.len
structure Tsk.Wf (t : Tsk) : Prop where
  p : I64 t.per
  d : I64 t.dl
  w : I64 t.wc
  s : ∀ x ∈ t.secs, x.Wf
structure Sy.Wf (S : Sy) : Prop where
  cores : I64 S.cores
  policy : I64 S.policy
  prot : I64 S.prot
  rel : I64 S.rel
  sw : I64 S.sw
  fin : I64 S.fin
  lat : I64 S.lat
  resn : I64 S.resn
  tasks : ∀ t ∈ S.tasks, t.Wf
/-- Is a number from one to another one? -/
def btw (n a b : Int) : Bool := decide (a ≤ n ∧ n ≤ b)
def wholeB (S : Sy) : Bool := decide ((S.policy = 1 ∨ S.policy = 2) ∧ (S.prot = 1 ∨ (S.prot = 2 ∧ S.policy = 1))) && (btw S.rel 0 50 && btw S.sw 0 50 && btw S.fin 0 50 && btw S.cores 1 8 && btw S.lat 1 50 && btw S.resn 0 8 && btw (S.tasks.length : Int) 1 24)
/-- One section, behind e. -/
def secB (res wc e : Int) (x : Sec) : Bool := decide (e ≤ x.at_ ∧ x.at_ ≤ wc ∧ 0 ≤ x.res ∧ x.res < res ∧ 1 ≤ x.len ∧ x.len ≤ wc - x.at_)
def secsB (res wc : Int) : Int → List Sec → Bool
  | _, [] => true
  | e, x :: l => secB res wc e x && secsB res wc (x.at_ + x.len) l
def tskHeadB (t : Tsk) : Bool := btw t.per 1 1099511627776 && btw t.dl 1 t.per && btw t.wc 1 t.dl && decide (t.secs.length ≤ 4)
def tskB (res : Int) (t : Tsk) : Bool := tskHeadB t && secsB res t.wc 0 t.secs
def rightS (S : Sy) : Bool := wholeB S && S.tasks.all (tskB S.resn)

/-- Where the k-th section must begin at the least. -/
def secEnd : Int → List Sec → Int
  | e, [] => e
  | _, x :: l => secEnd (x.at_ + x.len) l
theorem secEnd_snoc (e : Int) (l : List Sec) (x : Sec) : secEnd e (l ++ [x]) = x.at_ + x.len := by
  induction l generalizing e with
  | nil => rfl
  | cons y l ih => exact ih _
theorem secsB_snoc (res wc e : Int) (l : List Sec) (x : Sec) : secsB res wc e (l ++ [x]) = (secsB res wc e l && secB res wc (secEnd e l) x) := by
  induction l generalizing e with
  | nil => simp [secsB, secEnd]
  | cons y l ih => simp only [List.cons_append, secsB, secEnd, ih, Bool.and_assoc]
theorem secsB_prefix {res wc e : Int} {a b : List Sec} (h : secsB res wc e (a ++ b) = true) : secsB res wc e a = true := by
  induction a generalizing e with
  | nil => rfl
  | cons y a ih =>
    simp only [List.cons_append, secsB, Bool.and_eq_true] at h ⊢
    exact ⟨h.1, ih h.2⟩
theorem secsB_end {res wc e : Int} {l : List Sec} (h : secsB res wc e l = true) (he : 0 ≤ e ∧ e ≤ wc) : 0 ≤ secEnd e l ∧ secEnd e l ≤ wc := by
  induction l generalizing e with
  | nil => exact he
  | cons y l ih =>
    simp only [secsB, Bool.and_eq_true] at h
    have h1 := of_decide_eq_true h.1
    exact ih h.2 ⟨by omega, by omega⟩
/-- What is right of a section. -/
structure SecOk (res wc : Int) (x : Sec) : Prop where
  a0 : 0 ≤ x.at_
  r0 : 0 ≤ x.res
  r1 : x.res < res
  l0 : 1 ≤ x.len
  end_ : x.at_ + x.len ≤ wc
theorem secsB_all {res wc e : Int} {l : List Sec} (h : secsB res wc e l = true) (he : 0 ≤ e) : ∀ x ∈ l, SecOk res wc x := by
  induction l generalizing e with
  | nil => intro x hx; cases hx
  | cons y l ih =>
    simp only [secsB, Bool.and_eq_true] at h
    have h1 := of_decide_eq_true h.1
    intro x hx
    rcases List.mem_cons.1 hx with rfl | hx
    · exact ⟨by omega, by omega, by omega, by omega, by omega⟩
    · exact ih h.2 (by omega) x hx
structure TskOk (res : Int) (t : Tsk) : Prop where
  p0 : 1 ≤ t.per
  p1 : t.per ≤ 1099511627776
  d0 : 1 ≤ t.dl
  d1 : t.dl ≤ t.per
  w0 : 1 ≤ t.wc
  w1 : t.wc ≤ t.dl
  n : t.secs.length ≤ 4
  s : ∀ x ∈ t.secs, SecOk res t.wc x
theorem tskB_ok {res : Int} {t : Tsk} (h : tskB res t = true) : TskOk res t := by
  unfold tskB tskHeadB btw at h
  simp only [Bool.and_eq_true, decide_eq_true_eq] at h
  obtain ⟨⟨⟨⟨h1, h2⟩, h3⟩, h4⟩, h5⟩ := h
  exact ⟨h1.1, h1.2, h2.1, h2.2, h3.1, h3.2, h4, secsB_all h5 (by omega)⟩
structure RightS (S : Sy) : Prop where
  pol : S.policy = 1 ∨ S.policy = 2
  prot : S.prot = 1 ∨ (S.prot = 2 ∧ S.policy = 1)
  rel : 0 ≤ S.rel ∧ S.rel ≤ 50
  sw : 0 ≤ S.sw ∧ S.sw ≤ 50
  fin : 0 ≤ S.fin ∧ S.fin ≤ 50
  cores : 1 ≤ S.cores ∧ S.cores ≤ 8
  lat : 1 ≤ S.lat ∧ S.lat ≤ 50
  resn : 0 ≤ S.resn ∧ S.resn ≤ 8
  len : 1 ≤ S.tasks.length ∧ S.tasks.length ≤ 24
  tasks : ∀ t ∈ S.tasks, TskOk S.resn t
theorem rightS_ok {S : Sy} (h : rightS S = true) : RightS S := by
  unfold rightS wholeB btw at h
  simp only [Bool.and_eq_true, decide_eq_true_eq, List.all_eq_true] at h
  obtain ⟨⟨h1, h2⟩, h3⟩ := h
  obtain ⟨⟨⟨⟨⟨⟨h4, h5⟩, h6⟩, h7⟩, h8⟩, h9⟩, h10⟩ := h2
  exact ⟨h1.1, h1.2, h4, h5, h6, h7, h8, h9, by omega, fun t ht => tskB_ok (h3 t ht)⟩

/-! Values -/
def secR : Reads Sec := fun _ cs x => cs = [.int .i64 x.at_, .int .i64 x.res, .int .i64 x.len]
theorem secR.stays : Stays secR := fun _ _ _ _ _ h => h
def tskR : Reads Tsk := fun w cs t => ∃ u, cs = [.int .i64 t.per, .int .i64 t.dl, .int .i64 t.wc, u] ∧ Rowp 3 secR w u t.secs
theorem tskR.stays : Stays tskR := fun _ _ _ _ k ⟨u, e, hu⟩ => ⟨u, e, hu.later secR.stays k⟩
/-- A system's value: u holds its tasks. -/
def sysV (S : Sy) (u : Value) : Value := .agg #[.int .i64 S.cores, .int .i64 S.policy, .int .i64 S.prot, .int .i64 S.rel, .int .i64 S.sw, .int .i64 S.fin, .int .i64 S.lat, .int .i64 S.resn, u]
structure IsSys (w : World) (u : Value) (S : Sy) : Prop where
  tasks : Rowp 4 tskR w u S.tasks
  wf : S.Wf
theorem IsSys.later {w w' : World} {u : Value} {S : Sy} (h : IsSys w u S) (k : Below w.heap.size w w') : IsSys w' u S := ⟨h.tasks.later tskR.stays k, h.wf⟩
end Go.Proofs.Ytmhochjpdedlgaa
/- Plans, plain: when a plan is right (chapter 17). No program in sight. -/
set_option linter.unusedVariables false
set_option linter.unusedSimpArgs false
namespace Go.Proofs.Ytmhochjpdedlgaa
open Go.RowKit

structure Pc where
  core : Int
  bud : Int
  dl : Int
  prio : Int
  tight : Bool
deriving DecidableEq
structure Pc.Wf (p : Pc) : Prop where
  c : I64 p.core
  b : I64 p.bud
  d : I64 p.dl
  p : I64 p.prio
def pcR : Reads Pc := fun _ cs p => cs = [.int .i64 p.core, .int .i64 p.bud, .int .i64 p.dl, .int .i64 p.prio, .bool p.tight]
theorem pcR.stays : Stays pcR := fun _ _ _ _ _ h => h
abbrev Pl := List (List Pc)
/-- A plan's value. -/
structure IsPlan (w : World) (v : Value) (P : Pl) : Prop where
  rows : Rowp 1 (RowR 5 pcR) w v P
  wf : ∀ l ∈ P, ∀ p ∈ l, Pc.Wf p
theorem IsPlan.later {w w' : World} {v : Value} {P : Pl} (h : IsPlan w v P) (k : Below w.heap.size w w') : IsPlan w' v P := ⟨h.rows.later (RowR.stays pcR.stays) k, h.wf⟩

/-- One piece: rest units and left ticks are left; nosec: its task has no section; last: it is the last one. -/
def pcB (cores : Int) (nosec : Bool) (rest left : Int) (last : Bool) (p : Pc) : Bool :=
  decide (0 ≤ p.core ∧ p.core < cores ∧ 1 ≤ p.bud ∧ p.bud ≤ rest ∧ p.dl = (if p.tight then p.bud else left) ∧ 1 ≤ p.dl) && (if p.tight then nosec && decide (p.bud ≠ rest) else last && decide (p.bud = rest))
def listB (cores late : Int) (nosec : Bool) : Int → Int → List Pc → Bool
  | _, _, [] => true
  | rest, left, p :: l => pcB cores nosec rest left l.isEmpty p && listB cores late nosec (rest - p.bud) (left - (p.bud + late)) l
def restOf (rest : Int) : List Pc → Int
  | [] => rest
  | p :: l => restOf (rest - p.bud) l
def leftOf (late left : Int) : List Pc → Int
  | [] => left
  | p :: l => leftOf late (left - (p.bud + late)) l
theorem restOf_snoc (rest : Int) (l : List Pc) (p : Pc) : restOf rest (l ++ [p]) = restOf rest l - p.bud := by
  induction l generalizing rest with
  | nil => rfl
  | cons q l ih => exact ih _
theorem leftOf_snoc (late left : Int) (l : List Pc) (p : Pc) : leftOf late left (l ++ [p]) = leftOf late left l - (p.bud + late) := by
  induction l generalizing left with
  | nil => rfl
  | cons q l ih => exact ih _
/-- The first k of a list have been found right. -/
def headB (cores late : Int) (nosec : Bool) (rest left : Int) (l : List Pc) (k : Nat) : Prop :=
  ∀ i p, i < k → l[i]? = some p → pcB cores nosec (restOf rest (l.take i)) (leftOf late left (l.take i)) (decide (i + 1 = l.length)) p = true
theorem listB_iff {cores late : Int} {nosec : Bool} {rest left : Int} {l : List Pc} : listB cores late nosec rest left l = true ↔ headB cores late nosec rest left l l.length := by
  induction l generalizing rest left with
  | nil => simp [listB, headB]
  | cons q l ih =>
    simp only [listB, Bool.and_eq_true, ih]
    constructor
    · rintro ⟨h1, h2⟩ i p hi hp
      cases i with
      | zero =>
        simp at hp
        subst hp
        have : decide (0 + 1 = (q :: l).length) = l.isEmpty := by cases l <;> simp
        rw [this]
        exact h1
      | succ i =>
        have := h2 i p (by simpa using hi) (by simpa using hp)
        rw [List.take_succ_cons]
        have e : decide (i + 1 + 1 = (q :: l).length) = decide (i + 1 = l.length) := by simp
        rw [e]
        exact this
    · intro h
      refine ⟨?_, fun i p hi hp => ?_⟩
      · have := h 0 q (by simp) rfl
        have e : decide (0 + 1 = (q :: l).length) = l.isEmpty := by cases l <;> simp
        rw [e] at this
        exact this
      · have := h (i + 1) p (by simpa using hi) (by simpa using hp)
        rw [List.take_succ_cons] at this
        have e : decide (i + 1 + 1 = (q :: l).length) = decide (i + 1 = l.length) := by simp
        rw [e] at this
        exact this
theorem headB_false {cores late : Int} {nosec : Bool} {rest left : Int} {l : List Pc} {k : Nat} {p : Pc} (hp : l[k]? = some p) (h : pcB cores nosec (restOf rest (l.take k)) (leftOf late left (l.take k)) (decide (k + 1 = l.length)) p = false) : listB cores late nosec rest left l = false := by
  cases e : listB cores late nosec rest left l with
  | false => rfl
  | true =>
    have := listB_iff.1 e k p (List.getElem?_eq_some_iff.1 hp).1 hp
    rw [h] at this
    cases this
theorem headB_succ {cores late : Int} {nosec : Bool} {rest left : Int} {l : List Pc} {k : Nat} {p : Pc} (h : headB cores late nosec rest left l k) (hp : l[k]? = some p) (h1 : pcB cores nosec (restOf rest (l.take k)) (leftOf late left (l.take k)) (decide (k + 1 = l.length)) p = true) : headB cores late nosec rest left l (k + 1) := fun i q hi hq => by
  by_cases e : i = k
  · subst e
    rw [hp] at hq
    injection hq with hq
    subst hq
    exact h1
  · exact h i q (by omega) hq
theorem take_next {α : Type} {l : List α} {k : Nat} {x : α} (h : l[k]? = some x) : l.take (k + 1) = l.take k ++ [x] := by
  rw [List.take_add_one, h]
  rfl
/-- What the walk wants to know of the numbers behind k right pieces. -/
theorem headB_num {cores late : Int} {nosec : Bool} {rest left : Int} {l : List Pc} {k : Nat} (hl : 0 ≤ late ∧ late ≤ 49) (h : headB cores late nosec rest left l k) (hk : k ≤ l.length) :
    restOf rest (l.take k) + k ≤ rest ∧ (rest ≤ 1099511627776 → 0 ≤ rest → 0 ≤ restOf rest (l.take k)) ∧ leftOf late left (l.take k) ≤ left ∧ left - (rest - restOf rest (l.take k)) - 49 * (k : Int) ≤ leftOf late left (l.take k) := by
  induction k with
  | zero => simp [restOf, leftOf]
  | succ k ih =>
    obtain ⟨i1, i2, i3, i4⟩ := ih (fun i p hi => h i p (by omega)) (by omega)
    have hp : l[k]? = some l[k] := List.getElem?_eq_getElem (by omega)
    have h1 := h k _ (by omega) hp
    rw [take_next hp, restOf_snoc, leftOf_snoc]
    unfold pcB at h1
    simp only [Bool.and_eq_true, decide_eq_true_eq] at h1
    generalize restOf rest (l.take k) = r at *
    generalize leftOf late left (l.take k) = f at *
    generalize l[k] = p at *
    refine ⟨by omega, fun a b => by have := i2 a b; omega, by omega, by omega⟩
/-- A task's pieces are right, but that two may be on one core. -/
def listOkB (S : Sy) (t : Tsk) (l : List Pc) : Bool := listB S.cores (S.lat - 1) t.secs.isEmpty t.wc t.dl l && decide (l.length ≤ 8)
end Go.Proofs.Ytmhochjpdedlgaa
/- Plans, plain: a whole plan is right; its parts, piece by piece. No program in sight. -/
set_option linter.unusedVariables false
set_option linter.unusedSimpArgs false
namespace Go.Proofs.Ytmhochjpdedlgaa
open Go.RowKit

/-- A piece with its task and which one of it. -/
structure Pt where
  p : Pc
  task : Nat
  k : Nat
def ptsOf (i : Nat) (l : List Pc) : List Pt := l.mapIdx fun k p => ⟨p, i, k⟩
def partsOf (P : Pl) : List Pt := (P.mapIdx ptsOf).flatten
/-- How many Tight pieces, of a core. -/
def tightN (l : List Pt) (c : Int) : Nat := (l.filter fun x => decide (x.p.core = c) && x.p.tight).length
/-- Does a task with sections have a piece on a core? -/
def usersB (S : Sy) (l : List Pt) (c : Int) : Bool := l.any fun x => decide (x.p.core = c) && ((S.tasks[x.task]?.map fun t => !t.secs.isEmpty).getD false)
def hasB (l : List Pt) (i : Nat) (c : Int) : Bool := l.any fun x => decide (x.task = i ∧ x.p.core = c)
/-- No task has two pieces on one core. -/
def distB (P : Pl) : Bool := P.all fun l => decide (l.map Pc.core).Nodup
def coresB (S : Sy) (P : Pl) : Bool := (partsOf P).all fun x => decide (tightN (partsOf P) x.p.core = 0 ∨ (tightN (partsOf P) x.p.core = 1 ∧ usersB S (partsOf P) x.p.core = false))
def listsB (S : Sy) : List Tsk → Pl → Bool
  | t :: T, l :: P => listOkB S t l && listsB S T P
  | _, _ => true
def planB (S : Sy) (P : Pl) : Bool := rightS S && decide (P.length = S.tasks.length) && listsB S S.tasks P && distB P && coresB S P

theorem listsB_iff {S : Sy} {T : List Tsk} {P : Pl} : listsB S T P = true ↔ ∀ (i : Nat) t l, T[i]? = some t → P[i]? = some l → listOkB S t l = true := by
  induction T generalizing P with
  | nil => simp [listsB]
  | cons t T ih =>
    cases P with
    | nil => simp [listsB]
    | cons l P =>
      simp only [listsB, Bool.and_eq_true, ih]
      constructor
      · rintro ⟨h1, h2⟩ i t' l' ht hl
        cases i with
        | zero => simp at ht hl; subst ht; subst hl; exact h1
        | succ i => exact h2 i t' l' (by simpa using ht) (by simpa using hl)
      · intro h
        exact ⟨h 0 t l rfl rfl, fun i t' l' ht hl => h (i + 1) t' l' (by simpa using ht) (by simpa using hl)⟩
/-- What is right of a piece that lies in a right plan. -/
structure PcOk (S : Sy) (t : Tsk) (p : Pc) : Prop where
  c0 : 0 ≤ p.core
  c1 : p.core < S.cores
  b0 : 1 ≤ p.bud
  b1 : p.bud ≤ t.wc
  d0 : 1 ≤ p.dl
  d1 : p.dl ≤ t.dl
structure PlanOk (S : Sy) (P : Pl) : Prop where
  sys : RightS S
  len : P.length = S.tasks.length
  lists : ∀ (i : Nat) t l, S.tasks[i]? = some t → P[i]? = some l → listOkB S t l = true
  dist : ∀ l ∈ P, (l.map Pc.core).Nodup
  cores : ∀ x ∈ partsOf P, tightN (partsOf P) x.p.core = 0 ∨ (tightN (partsOf P) x.p.core = 1 ∧ usersB S (partsOf P) x.p.core = false)
theorem planB_ok {S : Sy} {P : Pl} (h : planB S P = true) : PlanOk S P := by
  unfold planB distB coresB at h
  simp only [Bool.and_eq_true, decide_eq_true_eq, List.all_eq_true] at h
  obtain ⟨⟨⟨⟨h1, h2⟩, h3⟩, h4⟩, h5⟩ := h
  exact ⟨rightS_ok h1, h2, listsB_iff.1 h3, h4, h5⟩
theorem listOk_pcs {S : Sy} {t : Tsk} {l : List Pc} (hs : RightS S) (ht : TskOk S.resn t) (h : listOkB S t l = true) : l.length ≤ 8 ∧ ∀ p ∈ l, PcOk S t p := by
  unfold listOkB at h
  simp only [Bool.and_eq_true, decide_eq_true_eq] at h
  refine ⟨h.2, fun p hp => ?_⟩
  obtain ⟨k, hk⟩ := List.mem_iff_getElem?.1 hp
  have hh := listB_iff.1 h.1
  have hkl := (List.getElem?_eq_some_iff.1 hk).1
  have hn := headB_num (k := k) ⟨by have := hs.lat; omega, by have := hs.lat; omega⟩ (fun i q hi => hh i q (by omega)) (by omega)
  have h1 := hh k p hkl hk
  unfold pcB at h1
  simp only [Bool.and_eq_true, decide_eq_true_eq] at h1
  have := ht.w0
  have := ht.w1
  have hw := hn.2.1
  generalize restOf t.wc (l.take k) = r at *
  generalize leftOf (S.lat - 1) t.dl (l.take k) = f at *
  obtain ⟨⟨c0, c1, b0, b1, d, d0⟩, _⟩ := h1
  refine ⟨c0, c1, b0, by omega, d0, ?_⟩
  split at d <;> omega
theorem mem_parts {P : Pl} {x : Pt} : x ∈ partsOf P ↔ ∃ l, P[x.task]? = some l ∧ l[x.k]? = some x.p := by
  unfold partsOf ptsOf
  simp only [List.mem_flatten, List.mem_mapIdx]
  constructor
  · rintro ⟨m, ⟨i, hi, rfl⟩, hx⟩
    obtain ⟨k, hk, rfl⟩ := List.mem_mapIdx.1 hx
    exact ⟨P[i], List.getElem?_eq_getElem hi, List.getElem?_eq_getElem hk⟩
  · rintro ⟨l, hl, hk⟩
    obtain ⟨hi, rfl⟩ := List.getElem?_eq_some_iff.1 hl
    obtain ⟨hk1, hk2⟩ := List.getElem?_eq_some_iff.1 hk
    exact ⟨_, ⟨x.task, hi, rfl⟩, List.mem_mapIdx.2 ⟨x.k, hk1, by rw [hk2]⟩⟩
/-- Up to task i, and there up to piece k. -/
theorem parts_take_succ {P : Pl} {i : Nat} {l : List Pc} (h : P[i]? = some l) : partsOf (P.take (i + 1)) = partsOf (P.take i) ++ ptsOf i l := by
  rw [take_next h]
  unfold partsOf
  rw [List.mapIdx_append, List.flatten_append]
  have hl : (P.take i).length = i := by
    have := (List.getElem?_eq_some_iff.1 h).1
    simp; omega
  simp [hl, List.mapIdx_cons]
theorem pts_take_succ {i k : Nat} {l : List Pc} {p : Pc} (h : l[k]? = some p) : ptsOf i (l.take (k + 1)) = ptsOf i (l.take k) ++ [⟨p, i, k⟩] := by
  rw [take_next h]
  unfold ptsOf
  rw [List.mapIdx_append]
  have hl : (l.take k).length = k := by
    have := (List.getElem?_eq_some_iff.1 h).1
    simp; omega
  simp [hl]
theorem pts_prefix (i k : Nat) (l : List Pc) : ptsOf i (l.take k) <+: ptsOf i l := by
  unfold ptsOf
  refine ⟨(l.mapIdx fun k p => (⟨p, i, k⟩ : Pt)).drop k, ?_⟩
  have : (l.take k).mapIdx (fun k p => (⟨p, i, k⟩ : Pt)) = (l.mapIdx fun k p => (⟨p, i, k⟩ : Pt)).take k := by
    apply List.ext_getElem?
    intro j
    simp only [List.getElem?_mapIdx, List.getElem?_take]
    split <;> simp
  rw [this, List.take_append_drop]
theorem parts_prefix (i : Nat) (P : Pl) : partsOf (P.take i) <+: partsOf P := by
  have e : P = P.take i ++ P.drop i := (List.take_append_drop i P).symm
  conv => rhs; rw [e]
  unfold partsOf
  rw [List.mapIdx_append, List.flatten_append]
  exact List.prefix_append _ _
theorem pts_length (i : Nat) (l : List Pc) : (ptsOf i l).length = l.length := by simp [ptsOf]
end Go.Proofs.Ytmhochjpdedlgaa
/- cmp.Compare at whole numbers (contract), walked at the seat itself. -/
set_option linter.unusedVariables false
set_option linter.unusedSimpArgs false
namespace Go.Proofs.Ytmhochjpdedlgaa
open Go.RowKit

def cmp3 (x y : Int) : Int := if x < y then -1 else if y < x then 1 else 0
section
variable {w : World}
set_option maxRecDepth 100000 in
theorem isnan_any (x : Int) : Calls Try.prog 92 #[.int .i64 x] w fun e w' => e = .returned (.bool false) ∧ w' = w := by
  have hx : (x != x) = false := by simp
  go_enter Try.func92, Try.ntmps92
  go_wp2_with fail
  go_ret
  exact ⟨rfl, rfl⟩
set_option maxRecDepth 100000 in
theorem compare_any (x y : Int) : Calls Try.prog 61 #[.int .i64 x, .int .i64 y] w fun e w' => e = .returned (.int .i64 (cmp3 x y)) ∧ w' = w := by
  have HI := hid (fun (a : Int) (W : World) => isnan_any (w := W) a)
  by_cases h1 : x < y
  case pos =>
    have d1 : decide (x < y) = true := decide_eq_true h1
    have HC := hid (show cmp3 x y = -1 from if_pos h1)
    go_enter Try.func61, Try.ntmps61
    go_wp2_with (go_at_call 92; refine (HI.out _ _).mono ?_; rintro e w1 ⟨rfl, rfl⟩)
    go_ret
    exact ⟨by rw [HC.out]; rfl, rfl⟩
  case neg =>
    have d1 : decide (x < y) = false := decide_eq_false h1
    by_cases h2 : y < x
    case pos =>
      have d2 : decide (y < x) = true := decide_eq_true h2
      have HC := hid (show cmp3 x y = 1 by unfold cmp3; rw [if_neg h1, if_pos h2])
      go_enter Try.func61, Try.ntmps61
      go_wp2_with (go_at_call 92; refine (HI.out _ _).mono ?_; rintro e w1 ⟨rfl, rfl⟩)
      go_ret
      exact ⟨by rw [HC.out]; rfl, rfl⟩
    case neg =>
      have d2 : decide (y < x) = false := decide_eq_false h2
      have HC := hid (show cmp3 x y = 0 by unfold cmp3; rw [if_neg h1, if_neg h2])
      go_enter Try.func61, Try.ntmps61
      go_wp2_with (go_at_call 92; refine (HI.out _ _).mono ?_; rintro e w1 ⟨rfl, rfl⟩)
      go_ret
      exact ⟨by rw [HC.out]; rfl, rfl⟩
end
end Go.Proofs.Ytmhochjpdedlgaa
/- The document's chapter 17: a task's list of pieces, plain. No program in sight. -/
set_option linter.unusedVariables false
set_option linter.unusedSimpArgs false
namespace Go.Proofs.Ytmhochjpdedlgaa
open Go.RowKit

def sumOf : List Pc → Int
  | [] => 0
  | p :: l => p.bud + sumOf l
theorem sumOf_append (l m : List Pc) : sumOf (l ++ m) = sumOf l + sumOf m := by
  induction l with
  | nil => simp [sumOf]
  | cons p l ih => simp only [List.cons_append, sumOf, ih]; omega
theorem restOf_eq (rest : Int) (l : List Pc) : restOf rest l = rest - sumOf l := by
  induction l generalizing rest with
  | nil => simp [restOf, sumOf]
  | cons p l ih => simp only [restOf, sumOf, ih]; omega
theorem sumOf_ge {l : List Pc} (h : ∀ p ∈ l, 1 ≤ p.bud) : (l.length : Int) ≤ sumOf l := by
  induction l with
  | nil => simp [sumOf]
  | cons p l ih =>
    have h1 := h p List.mem_cons_self
    have h2 := ih (fun q hq => h q (List.mem_cons_of_mem _ hq))
    simp only [sumOf, List.length_cons]
    omega
theorem sumOf_take {l : List Pc} (h : ∀ p ∈ l, 1 ≤ p.bud) {i : Nat} (hi : i ≤ l.length) : sumOf (l.take i) + (l.length - i : Nat) ≤ sumOf l := by
  have h1 : sumOf l = sumOf (l.take i) + sumOf (l.drop i) := by rw [← sumOf_append, List.take_append_drop]
  have h2 := sumOf_ge (l := l.drop i) (fun p hp => h p (List.mem_of_mem_drop hp))
  rw [List.length_drop] at h2
  omega
/-- One piece, as the document asks it (but the sum, and the cores of those ahead). -/
def refP (cores wc : Int) (nosec : Bool) (left : Int) (last : Bool) (p : Pc) : Bool :=
  decide (0 ≤ p.core ∧ p.core < cores ∧ 1 ≤ p.bud ∧ p.bud ≤ wc) && (p.tight || last) && (!p.tight || nosec) && (if p.tight then decide (p.dl = p.bud) else decide (p.dl = left ∧ 1 ≤ left))
def refHead (S : Sy) (t : Tsk) (l : List Pc) (k : Nat) : Prop :=
  ∀ i p, i < k → l[i]? = some p → refP S.cores t.wc t.secs.isEmpty (leftOf (S.lat - 1) t.dl (l.take i)) (decide (i + 1 = l.length)) p = true ∧ ∀ j q, j < i → l[j]? = some q → q.core ≠ p.core
def refEnd (wc : Int) (l : List Pc) : Bool := match l[l.length - 1]? with
  | none => true
  | some p => if p.tight then decide (sumOf l < wc) else decide (sumOf l = wc)
/-- What the document's list answers. -/
def refListB (S : Sy) (t : Tsk) (l : List Pc) : Bool := listOkB S t l && decide ((l.map Pc.core).Nodup)
theorem nodup_cores {l : List Pc} : (l.map Pc.core).Nodup ↔ ∀ (i j : Nat) (p q : Pc), j < i → l[i]? = some p → l[j]? = some q → q.core ≠ p.core := by
  rw [List.Nodup, List.pairwise_map, List.pairwise_iff_getElem]
  constructor
  · intro h i j p q hji hp hq
    obtain ⟨hi, rfl⟩ := List.getElem?_eq_some_iff.1 hp
    obtain ⟨hj, rfl⟩ := List.getElem?_eq_some_iff.1 hq
    exact h j i hj hi hji
  · intro h i j hi hj hij
    exact h j i _ _ hij (List.getElem?_eq_getElem hj) (List.getElem?_eq_getElem hi)
theorem refHead_of {S : Sy} {t : Tsk} {l : List Pc} (hl : 0 ≤ S.lat - 1 ∧ S.lat - 1 ≤ 49) (h : refListB S t l = true) : refHead S t l l.length := by
  unfold refListB listOkB at h
  simp only [Bool.and_eq_true, decide_eq_true_eq] at h
  obtain ⟨⟨h1, h2⟩, h3⟩ := h
  have hb := listB_iff.1 h1
  intro i p hi hp
  refine ⟨?_, fun j q hj hq => nodup_cores.1 h3 i j p q hj hp hq⟩
  have h4 := hb i p hi hp
  have h5 := (headB_num hl (k := i) (fun a b c => hb a b (by omega)) (by omega)).1
  unfold pcB at h4
  unfold refP
  generalize restOf t.wc (l.take i) = r at *
  generalize leftOf (S.lat - 1) t.dl (l.take i) = f at *
  obtain ⟨pc, pb, pd, pp, ti⟩ := p
  cases ti <;> simp only [Bool.and_eq_true, decide_eq_true_eq, Bool.false_eq_true, if_false, if_true, Bool.false_or, Bool.true_or, Bool.not_false, Bool.not_true, true_and, and_true] at h4 ⊢
  · refine ⟨⟨by omega, h4.2.1⟩, by omega, by omega⟩
  · refine ⟨⟨by omega, h4.2.1⟩, by omega⟩
theorem ref_iff {S : Sy} {t : Tsk} {l : List Pc} (h8 : l.length ≤ 8) (h : refHead S t l l.length) : refListB S t l = refEnd t.wc l := by
  have hnd : (l.map Pc.core).Nodup := nodup_cores.2 (fun i j p q hji hp hq => (h i p (List.getElem?_eq_some_iff.1 hp).1 hp).2 j q hji hq)
  have hp1 : ∀ i p, l[i]? = some p → refP S.cores t.wc t.secs.isEmpty (leftOf (S.lat - 1) t.dl (l.take i)) (decide (i + 1 = l.length)) p = true := fun i p hp => (h i p (List.getElem?_eq_some_iff.1 hp).1 hp).1
  have hbud : ∀ p ∈ l, 1 ≤ p.bud := fun p hp => by
    obtain ⟨i, hi⟩ := List.mem_iff_getElem?.1 hp
    have := hp1 i p hi
    unfold refP at this
    simp only [Bool.and_eq_true, decide_eq_true_eq] at this
    omega
  unfold refListB listOkB
  rw [decide_eq_true hnd, decide_eq_true h8, Bool.and_true, Bool.and_true]
  rw [Bool.eq_iff_iff, listB_iff]
  constructor
  · intro hb
    unfold refEnd
    cases e : l[l.length - 1]? with
    | none => rfl
    | some p =>
      have hi := (List.getElem?_eq_some_iff.1 e).1
      have h4 := hb _ p hi e
      unfold pcB at h4
      rw [restOf_eq] at h4
      have h5 : sumOf l = sumOf (l.take (l.length - 1)) + p.bud := by
        have h6 : l = l.take (l.length - 1) ++ [p] := by
          have := take_next e
          rw [← this, show l.length - 1 + 1 = l.length by omega, List.take_length]
        have h7 : sumOf (l.take (l.length - 1) ++ [p]) = sumOf (l.take (l.length - 1)) + p.bud := by rw [sumOf_append]; simp [sumOf]
        rw [← h6] at h7
        exact h7
      generalize sumOf (l.take (l.length - 1)) = r at *
      cases ht : p.tight <;> simp only [ht, Bool.and_eq_true, decide_eq_true_eq, Bool.false_eq_true, if_false, if_true] at h4 ⊢
      · omega
      · omega
  · intro he i p hi hp
    have h4 := hp1 i p hp
    have h5 : sumOf (l.take (i + 1)) = sumOf (l.take i) + p.bud := by rw [take_next hp, sumOf_append]; simp [sumOf]
    have h6 := sumOf_take hbud (i := i + 1) (by omega)
    have h7 : i + 1 = l.length → sumOf (l.take (i + 1)) = sumOf l := fun e => by rw [e, List.take_length]
    unfold refEnd at he
    obtain ⟨q, hq⟩ : ∃ q, l[l.length - 1]? = some q := ⟨_, List.getElem?_eq_getElem (by omega)⟩
    have hqp : i + 1 = l.length → q = p := fun e => by
      rw [show l.length - 1 = i by omega, hp] at hq
      injection hq with hq
      exact hq.symm
    rw [hq] at he
    simp only at he
    unfold refP at h4
    unfold pcB
    rw [restOf_eq]
    generalize sumOf (l.take i) = r at *
    generalize sumOf (l.take (i + 1)) = r1 at *
    generalize leftOf (S.lat - 1) t.dl (l.take i) = f at *
    generalize sumOf l = u at *
    cases hqt : q.tight <;> cases ht : p.tight <;> simp only [hqt, ht, Bool.and_eq_true, decide_eq_true_eq, Bool.false_eq_true, if_false, if_true, Bool.false_or, Bool.true_or, Bool.not_false, Bool.not_true, true_and, and_true] at h4 he ⊢
    · exact ⟨by omega, h4.1.2, by have := h7 h4.1.2; omega⟩
    · have : i + 1 ≠ l.length := fun e => by rw [hqp e, ht] at hqt; cases hqt
      exact ⟨by omega, h4.1.2, by omega⟩
    · have e := h4.1.2
      rw [hqp e, ht] at hqt; cases hqt
    · exact ⟨by omega, h4.1.2, by omega⟩
theorem ref_bad {S : Sy} {t : Tsk} {l : List Pc} (hl : 0 ≤ S.lat - 1 ∧ S.lat - 1 ≤ 49) {k : Nat} {p : Pc} (hp : l[k]? = some p)
    (h : refP S.cores t.wc t.secs.isEmpty (leftOf (S.lat - 1) t.dl (l.take k)) (decide (k + 1 = l.length)) p = false ∨ ∃ j q, j < k ∧ l[j]? = some q ∧ q.core = p.core) : refListB S t l = false := by
  cases e : refListB S t l with
  | false => rfl
  | true =>
    obtain ⟨h1, h2⟩ := refHead_of hl e k p (List.getElem?_eq_some_iff.1 hp).1 hp
    rcases h with h | ⟨j, q, hj, hq, e2⟩
    · rw [h] at h1; cases h1
    · exact absurd e2 (h2 j q hj hq)
theorem refHead_succ {S : Sy} {t : Tsk} {l : List Pc} {k : Nat} {p : Pc} (h : refHead S t l k) (hp : l[k]? = some p) (h1 : refP S.cores t.wc t.secs.isEmpty (leftOf (S.lat - 1) t.dl (l.take k)) (decide (k + 1 = l.length)) p = true) (h2 : ∀ j q, j < k → l[j]? = some q → q.core ≠ p.core) : refHead S t l (k + 1) := fun i q hi hq => by
  by_cases e : i = k
  · subst e
    rw [hp] at hq
    injection hq with hq
    subst hq
    exact ⟨h1, h2⟩
  · exact h i q (by omega) hq
/-- What the walk wants of the numbers. -/
theorem refHead_num {S : Sy} {t : Tsk} {l : List Pc} {k : Nat} (hl : 0 ≤ S.lat - 1 ∧ S.lat - 1 ≤ 49) (h : refHead S t l k) (hk : k ≤ l.length) :
    0 ≤ sumOf (l.take k) ∧ sumOf (l.take k) ≤ k * t.wc ∧ leftOf (S.lat - 1) t.dl (l.take k) ≤ t.dl ∧ t.dl - sumOf (l.take k) - 49 * (k : Int) ≤ leftOf (S.lat - 1) t.dl (l.take k) := by
  induction k with
  | zero => simp [sumOf, leftOf]
  | succ k ih =>
    obtain ⟨i1, i2, i3, i4⟩ := ih (fun i p hi => h i p (by omega)) (by omega)
    have hp : l[k]? = some l[k] := List.getElem?_eq_getElem (by omega)
    have h1 := (h k _ (by omega) hp).1
    rw [take_next hp, sumOf_append, leftOf_snoc]
    have e : sumOf [l[k]] = l[k].bud := by simp [sumOf]
    rw [e]
    unfold refP at h1
    simp only [Bool.and_eq_true, decide_eq_true_eq] at h1
    have e2 : ((k + 1 : Nat) : Int) * t.wc = k * t.wc + t.wc := by rw [Int.natCast_add, Int.add_mul]; simp
    rw [e2]
    generalize sumOf (l.take k) = r at *
    generalize leftOf (S.lat - 1) t.dl (l.take k) = f at *
    generalize (k : Int) * t.wc = z at *
    generalize l[k] = p at *
    refine ⟨by omega, by omega, by omega, by omega⟩
end Go.Proofs.Ytmhochjpdedlgaa
