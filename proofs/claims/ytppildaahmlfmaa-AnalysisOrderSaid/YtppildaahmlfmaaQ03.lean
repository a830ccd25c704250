/- Joined: Base, Src, Rowp, SysPlain, PlanPlain, BndPlain, TermPlain, PlanRight, Ref17Plain, Qar, Qar2, Qar3, Qar4, Resp, CmpInt. -/
import Derived.Test.YtppildaahmlfmaaQ01
import Derived.Test.YtppildaahmlfmaaQ02
import Derived.Test.YtppildaahmlfmaaProg
import Derived.RegionTactic
import Derived.Deep.QuietTactic
import Derived.Deep.LoopGhost
import Derived.BigQuiet
import Derived.BigRegion
import Derived.Deep.RegionHeld3
import Derived.Deep.RegionLaw
import Derived.Laws.CopyOwn
import Derived.Deep.CutBlock
import Derived.Deep.DeepCutAuto
set_option linter.unusedVariables false
set_option linter.unusedSimpArgs false
/- Words that speak of no package: rows of whole numbers, blocks of two kinds, what a slice holds (written by wip/mkbase.py out of the texts of the ring and the locks). -/
set_option linter.unusedVariables false
set_option linter.unusedSimpArgs false
namespace Go.Proofs.Ytppildaahmlfmaa
open Go.RowKit Go.Maps
theorem Try.info_int : (Try.prog.info? 3).map (fun i => (i.zero, i.size, i.bytes)) = some (some (.int .i64 0), 1, 8) := by kernel_rfl
theorem madeCells_get (z : Array Value) (n j : Nat) (h : j < n) : (madeCells z n)[j]? = some (z[j % z.size]!) := by
  simp [madeCells, h]
/-- Whole numbers as cells. -/
def intCells (l : List Int) : List Value := l.map (Value.int .i64)
theorem int_take {l : List Int} {k : Nat} {x : Int} (h : l[k]? = some x) : intCells (l.take (k + 1)) = intCells (l.take k) ++ [.int .i64 x] := by
  rw [List.take_add_one, h]
  simp [intCells]
/-- A row of whole numbers has been made. -/
def OwnedInts (w : World) (l : List Int) (e : Ending) (w' : World) : Prop :=
  ∃ v, e = .returned v ∧ Below w.heap.size w w' ∧ w'.ownsRow w.heap.size 3 1 v l.length (intCells l) ∧ (l = [] → v = .slice none 0 0)
theorem own_cell {w : World} {base g cap : Nat} {e : TypeId} {size n : Nat} {xs : List Value} (h : w.ownsRow base e size (.slice (some ⟨g, 0, none⟩) n cap) n xs) {j : Nat} {u : Value} (hj : xs[j]? = some u) : w.cell? ⟨g, j, none⟩ = some u := by
  have := h.cells (g := g) rfl j u hj
  have hadd : (⟨g, 0, none⟩ : Addr).add j = ⟨g, j, none⟩ := by unfold Addr.add; split <;> simp_all
  rwa [hadd] at this
theorem add_off (g o j : Nat) : (⟨g, o, none⟩ : Addr).add j = ⟨g, o + j, none⟩ := by
  unfold Addr.add
  split <;> first | rfl | simp_all
/-- Which of n things the raw number c speaks of. -/
def pickN (c n : Int) : Int := if c < 0 then (-(c + 1)) % n else c % n
theorem pickN_bd (c n : Int) (hn : 0 < n) : 0 ≤ pickN c n ∧ pickN c n < n := by
  unfold pickN
  split
  · exact ⟨Int.emod_nonneg _ (by omega), Int.emod_lt_of_pos _ hn⟩
  · exact ⟨Int.emod_nonneg _ (by omega), Int.emod_lt_of_pos _ hn⟩
/-- What a slice holds: whole numbers. -/
def Holds (w : World) (A : Option Addr) (L : List Int) : Prop := ∀ k x, L[k]? = some x → ∃ b o, A = some ⟨b, o, none⟩ ∧ w.cell? ⟨b, o + k, none⟩ = some (.int .i64 x)
theorem Holds.drewN {w : World} {A : Option Addr} {L : List Int} (h : Holds w A L) (q : Nat) : Holds (w.drewN q) A L := h
theorem Holds.kept {w w' : World} {A : Option Addr} {L : List Int} {S : Nat → Prop} (h : Holds w A L) (f : Fr S w w') (hn : ∀ a, A = some a → ¬ S a.block) : Holds w' A L := fun k x hk => by
  obtain ⟨b, o, hA, hc⟩ := h k x hk
  exact ⟨b, o, hA, f.cell hc (show ¬ S b from hn ⟨b, o, none⟩ hA)⟩
theorem own_holds {w : World} {base : Nat} {e : TypeId} {A : Option Addr} {n cap : Nat} {L : List Int} (h : w.ownsRow base e 1 (.slice A n cap) n (intCells L)) : Holds w A L := fun k x hk => by
  have hl := h.1
  have hk' := (List.getElem?_eq_some_iff.1 hk).1
  have hn : 0 < n := by simp [intCells] at hl; omega
  obtain ⟨g, cap', cur, hv, _⟩ := own_shape h hn
  cases hv
  exact ⟨g, 0, rfl, by rw [Nat.zero_add]; exact own_cell h (by simp [intCells, hk])⟩
/-- The rest of a row from k on. -/
theorem own_rest {w : World} {base g : Nat} {e : TypeId} {n cap k : Nat} {L : List Int} (h : w.ownsRow base e 1 (.slice (some ⟨g, 0, none⟩) n cap) n (intCells L)) (hk : k < cap) : Holds w (some ⟨g, k, none⟩) (L.drop k) := fun j x hj => by
  rw [List.getElem?_drop] at hj
  exact ⟨g, k, rfl, own_cell h (by simp [intCells, hj])⟩
theorem holds_nil (w : World) (A : Option Addr) : Holds w A [] := fun k x hk => by simp at hk
theorem blk_ne {w : World} {a c : Nat} {o1 o2 : Obj} (h1 : w.heap[a]? = some o1) (h2 : w.heap[c]? = some o2) (h : o1 ≠ o2) : a ≠ c := by
  intro e
  rw [e, h2] at h1
  injection h1 with h1
  exact h h1.symm
theorem cells_ne {A B : Array Value} {s t : TypeId} {f g : Nat × Nat} (h : s ≠ t) : Obj.cells A s f ≠ Obj.cells B t g := fun e => by injection e with _ e _; exact h e
theorem cells_map {A : Array Value} {s : TypeId} {f : Nat × Nat} {es : Array MapEntry} {c : Nat} : Obj.cells A s f ≠ .map es c := fun e => by cases e
theorem own_kind {w : World} {base : Nat} {e : TypeId} {size n : Nat} {v : Value} {xs : List Value} (h : w.ownsRow base e size v n xs) {k : Nat} (hk : v.ownBlock = some k) : ∃ C, w.heap[k]? = some (.cells C e (0, 0)) := by
  rcases h.2 with ⟨h2, _⟩ | ⟨g, cap, cur, rfl, _, hg, _⟩
  · rw [h2] at hk; cases hk
  · cases hk; exact ⟨cur, hg⟩
theorem MapIs.congr {P : Program} {K E : TypeId} {w : World} {b : Nat} {n : Nat} {f g : Int → Option Int} (h : MapIs P K E w b n f) (e : ∀ t, f t = g t) : MapIs P K E w b n g := by
  rwa [show f = g from funext e] at h
theorem Try.zero_int (w : World) : (zeroValue 3).run Try.prog w = .ok (.int .i64 0) w := by kernel_rfl
theorem MapIs.other {P : Program} {K E : TypeId} {w w' : World} {b n : Nat} {f : Int → Option Int} {S : Nat → Prop} (h : MapIs P K E w b n f) (k : Fr S w w') (hS : ∀ j, S j → ∃ A t f, w.heap[j]? = some (.cells A t f)) : MapIs P K E w' b n f := by
  have hmap : ∃ es cl, w.heap[b]? = some (.map es cl) := by obtain ⟨D, ⟨es, cl, h1, _⟩, _⟩ := h; exact ⟨es, cl, h1⟩
  obtain ⟨es, cl, hm⟩ := hmap
  refine h.kept k (fun e => ?_)
  obtain ⟨A, t, f, hj⟩ := hS _ e
  exact blk_ne hj hm cells_map rfl
theorem set_get {α : Type} {l : List α} {r i : Nat} {x q : α} (h : (l.set r x)[i]? = some q) : (i = r ∧ q = x) ∨ (i ≠ r ∧ l[i]? = some q) := by
  by_cases e : i = r
  · subst e
    have hl := (List.getElem?_eq_some_iff.1 h).1
    rw [List.getElem?_set_self (by simpa using hl)] at h
    injection h with h
    exact .inl ⟨rfl, h.symm⟩
  · rw [List.getElem?_set_ne (fun h => e h.symm)] at h
    exact .inr ⟨e, h⟩
theorem int_snoc2 (a : List Int) (x : Int) : intCells (a ++ [x]) = intCells a ++ [.int .i64 x] := by simp [intCells]
theorem loc_back {v v' : Value} {m n : Nat} (h : v'.ownBlock = v.ownBlock ∨ v'.ownBlock = some (n + 1)) (hn : m ≤ n) : ∀ k, v'.ownBlock = some k → v.ownBlock = some k ∨ m ≤ k := by
  intro k hk
  rcases h with h | h
  · exact .inl (h ▸ hk)
  · rw [h] at hk; injection hk with hk; exact .inr (by omega)
theorem made_one (z : Value) (n : Nat) : madeCells #[z] n = (List.replicate n z).toArray := by
  apply Array.ext
  · simp [size_madeCells]
  · intro i h1 h2
    have := madeCells_get #[z] n i (by simpa [size_madeCells] using h1)
    rw [Array.getElem?_eq_getElem h1] at this
    simp at this
    simp [this, Nat.mod_one]
theorem make_ints (n : Nat) (hn : n ≤ 256) (w : World) : (Instr.makeSlice 27 (.int .i64 (n : Int)) (.int .i64 (n : Int))).run Try.prog w = .ok (.slice (some ⟨w.heap.size, 0, none⟩) n n) (w.alloc (.cells (List.replicate n (.int .i64 0)).toArray 3)) := by
  obtain ⟨i0, hi, hz0, hz1, hz2⟩ := info_parts Try.info_int
  have := run_make (P := Try.prog) (w := w) 27 3 i0 _ Try.underlying27 hi hz0 .i64 .i64 n n (by omega) (by omega) (by rw [hz2]; omega) (by omega)
  rw [hz1, show (Value.int .i64 0).cells = #[Value.int .i64 0] by simp [Value.cells], Nat.mul_one, made_one] at this
  simpa using this
theorem rep_val {α : Type} {n i : Nat} {v z : α} (h : (List.replicate n z)[i]? = some v) : v = z := by
  rw [List.getElem?_replicate] at h
  split at h
  · injection h with h; exact h.symm
  · cases h
theorem ints_made (w : World) (n : Nat) (hn : n ≤ maxLen) : (w.alloc (.cells (List.replicate n (.int .i64 0)).toArray 3)).ownsRow w.heap.size 3 1 (.slice (some ⟨w.heap.size, 0, none⟩) n n) n (intCells (List.replicate n 0)) :=
  ⟨by simp [intCells], .inr ⟨w.heap.size, n, _, rfl, Nat.le_refl _, blk_new _ _, Nat.le_refl _, hn, by simp, by simp [intCells]⟩⟩
/-- Two rows of whole numbers that share no block. -/
structure Rows2 (w : World) (base : Nat) (v6 v7 : Value) (a b : List Int) : Prop where
  a : w.ownsRow base 3 1 v6 a.length (intCells a)
  b : w.ownsRow base 3 1 v7 b.length (intCells b)
  ap : ∀ k, v6.ownBlock = some k → v7.ownBlock ≠ some k
theorem Rows2.nil (w : World) (base : Nat) : Rows2 w base (.slice none 0 0) (.slice none 0 0) [] [] := ⟨World.ownsRow_nil _ _ _ _, World.ownsRow_nil _ _ _ _, fun k h => by cases h⟩
theorem Rows2.kept {w w' : World} {base : Nat} {v6 v7 : Value} {a b : List Int} {S : Nat → Prop} (h : Rows2 w base v6 v7 a b) (f : Fr S w w') (h6 : ∀ k, v6.ownBlock = some k → ¬ S k) (h7 : ∀ k, v7.ownBlock = some k → ¬ S k) : Rows2 w' base v6 v7 a b :=
  ⟨own_kept h.a f h6, own_kept h.b f h7, h.ap⟩
theorem int_snoc (a : List Int) (x : Int) : intCells (a ++ [x]) = intCells a ++ [.int .i64 x] := by simp [intCells]
theorem Rows2.pushA {w w1 : World} {base : Nat} {v6 v7 v6' : Value} {a b : List Int} {x : Int} (h : Rows2 w base v6 v7 a b) (h1 : w1.ownsRow base 3 1 v6' (a.length + 1) (intCells a ++ [.int .i64 x])) (f1 : Fr (fun k => v6.ownBlock = some k) w w1)
    (q1 : v6'.ownBlock = v6.ownBlock ∨ v6'.ownBlock = some (w.heap.size + 1)) : Rows2 w1 base v6' v7 (a ++ [x]) b := by
  refine ⟨by rw [int_snoc, List.length_append]; exact h1, own_kept h.b f1 (fun k hk e => h.ap k e hk), fun k hk hk7 => ?_⟩
  rcases q1 with q1 | q1
  · exact h.ap k (q1 ▸ hk) hk7
  · rw [q1] at hk
    injection hk with hk
    have := (h.b.lt k hk7).2
    omega
theorem Rows2.pushB {w w1 : World} {base : Nat} {v6 v7 v7' : Value} {a b : List Int} {x : Int} (h : Rows2 w base v6 v7 a b) (h1 : w1.ownsRow base 3 1 v7' (b.length + 1) (intCells b ++ [.int .i64 x])) (f1 : Fr (fun k => v7.ownBlock = some k) w w1)
    (q1 : v7'.ownBlock = v7.ownBlock ∨ v7'.ownBlock = some (w.heap.size + 1)) : Rows2 w1 base v6 v7' a (b ++ [x]) := by
  refine ⟨own_kept h.a f1 (fun k hk e => h.ap k hk e), by rw [int_snoc, List.length_append]; exact h1, fun k hk hk7 => ?_⟩
  rcases q1 with q1 | q1
  · exact h.ap k hk (q1 ▸ hk7)
  · rw [q1] at hk7
    injection hk7 with hk7
    have := (h.a.lt k hk).2
    omega
theorem loc_ne {v v' : Value} {x n : Nat} (h : v'.ownBlock = v.ownBlock ∨ v'.ownBlock = some (n + 1)) (hv : ∀ k, v.ownBlock = some k → k ≠ x) (hx : x < n) : ∀ k, v'.ownBlock = some k → k ≠ x := by
  intro k hk
  rcases h with h | h
  · exact hv k (h ▸ hk)
  · rw [h] at hk; injection hk with hk; omega
theorem loc_old {v v' : Value} {m n : Nat} (h : v'.ownBlock = v.ownBlock ∨ v'.ownBlock = some (n + 1)) (hn : m ≤ n) : ∀ k, v'.ownBlock = some k → v.ownBlock = some k ∨ m ≤ k := by
  intro k hk
  rcases h with h | h
  · exact .inl (h ▸ hk)
  · rw [h] at hk; injection hk with hk; exact .inr (by omega)
end Go.Proofs.Ytppildaahmlfmaa
/- Rows of things of several cells: what stands at an index; what a slice holds as cells, nil let in; append of a whole slice; cuts. No program; no condition. -/
set_option linter.unusedVariables false
set_option linter.unusedSimpArgs false
namespace Go.Proofs.Ytppildaahmlfmaa
open Go.RowKit

/-- The cells that a slice holds (nil: none). -/
def Src (w : World) (A : Option Addr) (cs : List Value) : Prop := ∀ j u, cs[j]? = some u → ∃ ad, A = some ad ∧ w.cell? (ad.add j) = some u
section
variable {w w' : World} {A : Option Addr} {cs : List Value} {base n cap size : Nat} {e : TypeId} {xs : List Value}
theorem Src.nil (w : World) (A : Option Addr) : Src w A [] := fun j u h => by simp at h
theorem own_src (h : w.ownsRow base e size (.slice A n cap) n xs) : Src w A xs := fun j u hj => by
  have hlt := (List.getElem?_eq_some_iff.1 hj).1
  have hl := h.1
  have hn : 0 < n := by
    rcases Nat.eq_zero_or_pos n with h0 | h0
    · subst h0; simp at hl; subst hl; simp at hj
    · exact h0
  obtain ⟨g, cap', cur, hv, _⟩ := own_shape h hn
  cases hv
  exact ⟨⟨g, 0, none⟩, rfl, by rw [add_off, Nat.zero_add]; exact own_cell0 h hj⟩
theorem Src.take (h : Src w A cs) (k : Nat) : Src w A (cs.take k) := fun j u hj => by
  rw [List.getElem?_take] at hj
  split at hj
  · exact h j u hj
  · cases hj
theorem add_twice (a : Addr) (i j : Nat) : (a.add i).add j = a.add (i + j) := by
  unfold Addr.add
  by_cases hi : i = 0 <;> by_cases hj : j = 0 <;> simp [hi, hj, Nat.add_assoc]
theorem Src.drop (h : Src w A cs) (k : Nat) : Src w (A.map (·.add k)) (cs.drop k) := fun j u hj => by
  rw [List.getElem?_drop] at hj
  obtain ⟨ad, rfl, hc⟩ := h _ u hj
  exact ⟨ad.add k, rfl, by rw [add_twice]; exact hc⟩
/-- A cut's end, as the model says it. -/
theorem Src.rest (h : Src w A cs) (hl : cs.length = n * size) (hn : n ≤ cap) (k : Nat) : Src w (if cap = k then A else A.map (·.add (k * size))) (cs.drop (k * size)) := by
  by_cases hk : cap = k
  · rw [if_pos hk, List.drop_eq_nil_of_le (by rw [hl]; exact Nat.mul_le_mul_right _ (by omega))]
    exact Src.nil _ _
  · rw [if_neg hk]; exact h.drop _
theorem Src.kept {S : Nat → Prop} (h : Src w A cs) (f : Fr S w w') (hn : ∀ a, A = some a → ¬ S a.block) : Src w' A cs := fun j u hj => by
  obtain ⟨ad, hA, hc⟩ := h j u hj
  have hb : (ad.add j).block = ad.block := by unfold Addr.add; split <;> rfl
  exact ⟨ad, hA, f.cell hc (by rw [hb]; exact hn ad hA)⟩
/-- What stands at an index. -/
theorem row_cell {α : Type} {enc : α → List Value} {l : List α} {k j : Nat} {x : α} {u : Value} (hs : ∀ x, (enc x).length = size) (h : w.ownsRow base e size (.slice A n cap) n (flat enc l)) (hx : l[k]? = some x) (hj : (enc x)[j]? = some u) :
    ∃ g, A = some ⟨g, 0, none⟩ ∧ w.cell? ⟨g, k * size + j, none⟩ = some u := by
  have hj2 : j < size := by rw [← hs x]; exact (List.getElem?_eq_some_iff.1 hj).1
  have hf : (flat enc l)[k * size + j]? = some u := by rw [flat_get hs l k j x hx hj2]; exact hj
  obtain ⟨ad, hA, _⟩ := own_src h _ _ hf
  have hn : 0 < n := by
    rcases Nat.eq_zero_or_pos n with h0 | h0
    · have := h.1; subst h0; simp at this; rw [this] at hf; simp at hf
    · exact h0
  obtain ⟨g, cap', cur, hv, _⟩ := own_shape h hn
  cases hv
  exact ⟨g, rfl, own_cell0 h hf⟩
theorem own_cap (h : w.ownsRow base e size (.slice A n cap) n xs) : n ≤ cap ∧ cap ≤ maxLen := by
  rcases h.2 with ⟨h, h2⟩ | ⟨g, cap', cur, h, _, _, h3, h4, _⟩
  · cases h; exact ⟨Nat.le_refl _, Nat.zero_le _⟩
  · cases h; exact ⟨h3, h4⟩
end
section
variable {P : Program}
theorem run_append_src (w : World) (base : Nat) (t ty e : TypeId) (i : TypeInfo) (z : Value) (size bytes : Nat) (ht : P.underlying t = some (.slice e)) (hi : P.info? e = some i) (hz : i.zero = some z)
    (hsize : i.size = size) (hby : i.bytes = bytes) (hzs : z.cells.size = size) (hsz : 0 < size)
    (v : Value) (n : Nat) (xs : List Value) (hown : w.ownsRow base e size v n xs) (A : Option Addr) (m c : Nat) (news : List Value) (hl : news.length = m * size) (hs : Src w A news) (h1 : ∀ u ∈ news, u.oneCell' = true)
    (h63 : n + m ≤ maxLen) (hbytes : (n + m) * bytes ≤ 140737488355328) (hbase : base ≤ w.heap.size) :
    ∃ v' w', (Builtin.append_ #[t, t] ty #[v, .slice A m c]).run P w = .ok v' w' ∧ w'.ownsRow base e size v' (n + m) (xs ++ news) ∧ Fr (fun k => v.ownBlock = some k) w w' ∧ (v'.ownBlock = v.ownBlock ∨ v'.ownBlock = some w.heap.size) := by
  cases A with
  | none =>
    have hn : news = [] := by
      rcases news with _ | ⟨u, l⟩
      · rfl
      · obtain ⟨ad, h, _⟩ := hs 0 u rfl; cases h
    subst hn
    have hm : m = 0 := by
      rcases Nat.eq_zero_or_pos m with h | h
      · exact h
      · have := Nat.mul_pos h hsz; simp at hl; omega
    subst hm
    refine ⟨v, w, ?_, by simpa using hown, Fr.refl _ _, .inl rfl⟩
    rcases hown.2 with ⟨rfl, rfl⟩ | ⟨g, cap, cur, rfl, _, _, hnc, _⟩
    · simp [Builtin.append_, run_underlying ht, sizeOf, typeInfo, hi, Builtin.lenOf, Builtin.firstCells]
    · simp [Builtin.append_, run_underlying ht, sizeOf, typeInfo, hi, Builtin.lenOf, Builtin.firstCells, hnc, storeCells]
  | some ad =>
    obtain ⟨v', w', hr, h2, h3, _, h5⟩ := run_append_own_at (P := P) w base t ty e i z size bytes ht hi hz hsize hby hzs hsz v n xs hown ad m c news hl (fun j u hj => by
      obtain ⟨ad', he, hc⟩ := hs j u hj
      cases he
      exact hc) h1 h63 hbytes hbase
    exact ⟨v', w', hr, h2, (Fr.refl _ w).grown h3 (fun k hk => .inl hk), h5⟩
variable {w : World} {ops : Array Oper} {rest : List Oper} {o : Oper} {a : Act} {Q : Exit → Act → World → Prop}
/-- 'append(s, x...)'. -/
theorem append_src (hgd : o.guard = none) (s x : Operand) (t : TypeId) (ho : o.op = .call { callee := .builtin .append, args := #[s, x], argTypes := #[t, t] })
    (base : Nat) (e : TypeId) (i : TypeInfo) (z : Value) (size bytes : Nat) (ht : P.underlying t = some (.slice e)) (hi : P.info? e = some i) (hz : i.zero = some z)
    (hsize : i.size = size) (hby : i.bytes = bytes) (hzs : z.cells.size = size) (hsz : 0 < size)
    (v : Value) (n : Nat) (xs : List Value) (hs : a.eval s = v) (hown : w.ownsRow base e size v n xs) (A : Option Addr) (m c : Nat) (news : List Value) (hx : a.eval x = .slice A m c) (hl : news.length = m * size) (hsrc : Src w A news) (h1 : ∀ u ∈ news, u.oneCell' = true)
    (h63 : n + m ≤ maxLen) (hbytes : (n + m) * bytes ≤ 140737488355328) (hbase : base ≤ w.heap.size)
    (h : ∀ v' w', w'.ownsRow base e size v' (n + m) (xs ++ news) → Fr (fun k => v.ownBlock = some k) w w' → (v'.ownBlock = v.ownBlock ∨ v'.ownBlock = some w.heap.size) → wpList P ops Q rest (a.put o.dst v') w') :
    wpList P ops Q (o :: rest) a w := by
  refine wpList_plain hgd fun K hK => ?_
  obtain ⟨v', w', hr, h2, h3, h5⟩ := run_append_src (P := P) w base t o.type e i z size bytes ht hi hz hsize hby hzs hsz v n xs hown A m c news hl hsrc h1 h63 hbytes hbase
  unfold Oper.wp
  simp [execOp, ho, resolve, invoke, builtin, hs, hx, hr, Result.andThen]
  exact hK _ _ (h v' w' h2 h3 h5)
end
section
variable {α : Type} {enc : α → List Value} {sz : Nat}
theorem flat_take (hs : ∀ x, (enc x).length = sz) (l : List α) (k : Nat) : (flat enc l).take (k * sz) = flat enc (l.take k) := by
  induction l generalizing k with
  | nil => simp [flat]
  | cons x l ih =>
    cases k with
    | zero => simp [flat]
    | succ k => rw [flat_cons, List.take_append, hs, List.take_of_length_le (by rw [hs, Nat.add_mul]; omega), show (k + 1) * sz - sz = k * sz by rw [Nat.add_mul]; omega, ih, List.take_succ_cons, flat_cons]
theorem flat_drop (hs : ∀ x, (enc x).length = sz) (l : List α) (k : Nat) : (flat enc l).drop (k * sz) = flat enc (l.drop k) := by
  induction l generalizing k with
  | nil => simp [flat]
  | cons x l ih =>
    cases k with
    | zero => simp
    | succ k => rw [flat_cons, List.drop_append, hs, List.drop_eq_nil_of_le (by rw [hs, Nat.add_mul]; omega), show (k + 1) * sz - sz = k * sz by rw [Nat.add_mul]; omega, ih, List.drop_succ_cons, List.nil_append]
theorem flat_one (h1 : ∀ x, ∀ u ∈ enc x, u.oneCell' = true) (l : List α) : ∀ u ∈ flat enc l, u.oneCell' = true := fun u hu => by
  obtain ⟨x, _, hx⟩ := List.mem_flatMap.1 hu
  exact h1 x u hx
theorem flat_snoc (l : List α) (x : α) : flat enc (l ++ [x]) = flat enc l ++ enc x := by rw [flat_append]; simp [flat]
end
/-- Two rows whose blocks are two. -/
def Apart (v u : Value) : Prop := ∀ k, v.ownBlock = some k → u.ownBlock ≠ some k
theorem Apart.symm {v u : Value} (h : Apart v u) : Apart u v := fun k hk e => h k e hk
theorem Apart.nil (u : Value) : Apart (.slice none 0 0) u := fun k h => by cases h
theorem Apart.grown {v v' u : Value} {w : World} {m : Nat} {base : Nat} {e : TypeId} {size n : Nat} {xs : List Value} (h : Apart v u) (hl : v'.ownBlock = v.ownBlock ∨ v'.ownBlock = some m) (hu : w.ownsRow base e size u n xs) (hm : w.heap.size ≤ m) : Apart v' u := fun k hk e2 => by
  rcases hl with hl | hl
  · exact h k (hl ▸ hk) e2
  · rw [hl] at hk
    injection hk with hk
    have := (hu.lt k e2).2
    omega
theorem kind_ne {w : World} {base x : Nat} {e t : TypeId} {size n : Nat} {v : Value} {xs : List Value} {C : Array Value} {f : Nat × Nat} (h : w.ownsRow base e size v n xs) (hx : w.heap[x]? = some (.cells C t f)) (hne : e ≠ t) : ∀ k, v.ownBlock = some k → k ≠ x := fun k hk => by
  obtain ⟨D, hD⟩ := own_kind h hk
  exact blk_ne hD hx (cells_ne hne)
end Go.Proofs.Ytppildaahmlfmaa
/- What a slice holds: things of sz cells each, whatever they hold in turn (nested slices let in); kept while what lay ahead is kept. No program; no condition. -/
set_option linter.unusedVariables false
set_option linter.unusedSimpArgs false
namespace Go.Proofs.Ytppildaahmlfmaa
open Go.RowKit

/-- What a thing's cells say of it in a world. -/
abbrev Reads (α : Type) := World → List Value → α → Prop
/-- A slice value holds the list l, sz cells each. -/
def Rowp {α : Type} (sz : Nat) (R : Reads α) (w : World) (v : Value) (l : List α) : Prop :=
  ∃ A cap, v = .slice A l.length cap ∧ l.length ≤ cap ∧ cap ≤ maxLen ∧ ∀ i x, l[i]? = some x → ∃ b o cs, A = some ⟨b, o, none⟩ ∧ b < w.heap.size ∧ cs.length = sz ∧ (∀ j c, cs[j]? = some c → w.cell? ⟨b, o + i * sz + j, none⟩ = some c) ∧ R w cs x
/-- What is read stays, while what lay ahead is kept. -/
def Stays {α : Type} (R : Reads α) : Prop := ∀ w w' cs x, Below w.heap.size w w' → R w cs x → R w' cs x
section
variable {α β : Type} {sz : Nat} {R : Reads α} {w w' : World} {v : Value} {l : List α} {A : Option Addr} {n cap i : Nat} {x : α}
theorem Rowp.nil (sz : Nat) (R : Reads α) (w : World) : Rowp sz R w (.slice none 0 0) [] := ⟨none, 0, rfl, Nat.le_refl _, Nat.zero_le _, fun i x h => by simp at h⟩
theorem Rowp.later (h : Rowp sz R w v l) (hR : Stays R) (k : Below w.heap.size w w') : Rowp sz R w' v l := by
  obtain ⟨A, cap, hv, h1, h2, h3⟩ := h
  refine ⟨A, cap, hv, h1, h2, fun i x hx => ?_⟩
  obtain ⟨b, o, cs, hA, hb, hl, hc, hr⟩ := h3 i x hx
  exact ⟨b, o, cs, hA, Nat.lt_of_lt_of_le hb k.size, hl, fun j c hj => (k.cell (p := ⟨b, o + i * sz + j, none⟩) hb).trans (hc j c hj), hR _ _ _ _ k hr⟩
theorem Rowp.shape (h : Rowp sz R w v l) : ∃ A cap, v = .slice A l.length cap ∧ l.length ≤ cap ∧ cap ≤ maxLen := let ⟨A, cap, hv, h1, h2, _⟩ := h; ⟨A, cap, hv, h1, h2⟩
theorem Rowp.len (h : Rowp sz R w (.slice A n cap) l) : n = l.length := by
  obtain ⟨A', cap', hv, _⟩ := h
  injection hv
theorem Rowp.room (h : Rowp sz R w (.slice A n cap) l) : n ≤ cap ∧ cap ≤ maxLen := by
  obtain ⟨A', cap', hv, h1, h2, _⟩ := h
  injection hv with _ e1 e2
  omega
/-- What stands at an index. -/
theorem Rowp.at (h : Rowp sz R w (.slice A n cap) l) (hx : l[i]? = some x) : ∃ b o cs, A = some ⟨b, o, none⟩ ∧ b < w.heap.size ∧ cs.length = sz ∧ (∀ j c, cs[j]? = some c → w.cell? ⟨b, o + i * sz + j, none⟩ = some c) ∧ R w cs x := by
  obtain ⟨A', cap', hv, h1, h2, h3⟩ := h
  injection hv with e1
  subst e1
  exact h3 i x hx
theorem Rowp.mono {R' : Reads β} {f : α → β} (h : Rowp sz R w v l) (hR : ∀ cs x, x ∈ l → R w cs x → R' w cs (f x)) : Rowp sz R' w v (l.map f) := by
  obtain ⟨A, cap, hv, h1, h2, h3⟩ := h
  refine ⟨A, cap, by rw [List.length_map]; exact hv, by rw [List.length_map]; exact h1, h2, fun i x hx => ?_⟩
  rw [List.getElem?_map] at hx
  obtain ⟨y, hy, rfl⟩ := Option.map_eq_some_iff.1 hx
  obtain ⟨b, o, cs, hA, hb, hl, hc, hr⟩ := h3 i y hy
  exact ⟨b, o, cs, hA, hb, hl, hc, hR _ _ (List.mem_of_getElem? hy) hr⟩
/-- A row that a call has made. -/
theorem Rowp.of_own {base : Nat} {e : TypeId} {enc : α → List Value} (hs : ∀ x, (enc x).length = sz) (h : w.ownsRow base e sz v n (flat enc l)) (hn : n = l.length) (hz : 0 < sz) (hR : ∀ x ∈ l, R w (enc x) x) : Rowp sz R w v l := by
  subst hn
  obtain ⟨A, cap, rfl⟩ := own_slice h
  have hc := own_cap h
  refine ⟨A, cap, rfl, hc.1, hc.2, fun i x hx => ?_⟩
  have hpos : 0 < l.length := by have := (List.getElem?_eq_some_iff.1 hx).1; omega
  obtain ⟨g, cap', cur, hv, _, hg, _⟩ := own_shape h hpos
  injection hv with e1 _ _
  subst e1
  refine ⟨g, 0, enc x, rfl, blk_lt hg, hs x, fun j c hj => ?_, hR x (List.mem_of_getElem? hx)⟩
  obtain ⟨g', e2, hcell⟩ := row_cell hs h hx hj
  injection e2 with e2
  injection e2 with e2
  subst e2
  rw [Nat.zero_add]
  exact hcell
end
/-- One whole number. -/
def IntR : Reads Int := fun _ cs x => cs = [.int .i64 x]
theorem IntR.stays : Stays IntR := fun _ _ _ _ _ h => h
/-- A slice in a cell. -/
def RowR {α : Type} (sz : Nat) (R : Reads α) : Reads (List α) := fun w cs l => ∃ u, cs = [u] ∧ Rowp sz R w u l
theorem RowR.stays {α : Type} {sz : Nat} {R : Reads α} (h : Stays R) : Stays (RowR sz R) := fun _ _ _ _ k ⟨u, e, hu⟩ => ⟨u, e, hu.later h k⟩
theorem Rowp.holds {w : World} {A : Option Addr} {n cap : Nat} {L : List Int} (h : Rowp 1 IntR w (.slice A n cap) L) : Holds w A L := fun k x hk => by
  obtain ⟨b, o, cs, hA, _, _, hc, hr⟩ := h.at hk
  have hr' : cs = [.int .i64 x] := hr
  subst hr'
  have := hc 0 _ rfl
  exact ⟨b, o, hA, by simpa using this⟩
theorem Rowp.ints {w : World} {base n : Nat} {e : TypeId} {v : Value} {L : List Int} (h : w.ownsRow base e 1 v n (intCells L)) (hn : n = L.length) : Rowp 1 IntR w v L := by
  refine Rowp.of_own (base := base) (e := e) (enc := fun x => [Value.int .i64 x]) (fun _ => rfl) ?_ hn (by omega) (fun x _ => rfl)
  have : flat (fun x => [Value.int .i64 x]) L = intCells L := by
    unfold flat intCells
    clear hn h
    induction L with
    | nil => rfl
    | cons a L ih => rw [List.flatMap_cons, ih, List.map_cons]; rfl
  rw [this]
  exact h
end Go.Proofs.Ytppildaahmlfmaa
/- Systems and plans, plain: when a system is right (chapter 8). No program in sight. -/
set_option linter.unusedVariables false
set_option linter.unusedSimpArgs false
namespace Go.Proofs.Ytppildaahmlfmaa
open Go.RowKit

structure Sec where
  at_ : Int
  res : Int
  len : Int
structure Tsk where
  per : Int
  dl : Int
  wc : Int
  secs : List Sec
structure Sy where
  cores : Int
  policy : Int
  prot : Int
  rel : Int
  sw : Int
  fin : Int
  lat : Int
  resn : Int
  tasks : List Tsk
def I64 (x : Int) : Prop := -9223372036854775808 ≤ x ∧ x ≤ 9223372036854775807
structure Sec.Wf (x : Sec) : Prop where
  a : I64 x.at_
  r : I64 x.res
  l : I64 x.len
structure Tsk.Wf (t : Tsk) : Prop where
  p : I64 t.per
  d : I64 t.dl
  w : I64 t.wc
  s : ∀ x ∈ t.secs, x.Wf
structure Sy.Wf (S : Sy) : Prop where
  cores : I64 S.cores
  policy : I64 S.policy
  prot : I64 S.prot
  rel : I64 S.rel
  sw : I64 S.sw
  fin : I64 S.fin
  lat : I64 S.lat
  resn : I64 S.resn
  tasks : ∀ t ∈ S.tasks, t.Wf
/-- Is a number from one to another one? -/
def btw (n a b : Int) : Bool := decide (a ≤ n ∧ n ≤ b)
def wholeB (S : Sy) : Bool := decide ((S.policy = 1 ∨ S.policy = 2) ∧ (S.prot = 1 ∨ (S.prot = 2 ∧ S.policy = 1))) && (btw S.rel 0 50 && btw S.sw 0 50 && btw S.fin 0 50 && btw S.cores 1 8 && btw S.lat 1 50 && btw S.resn 0 8 && btw (S.tasks.length : Int) 1 24)
/-- One section, behind e. -/
def secB (res wc e : Int) (x : Sec) : Bool := decide (e ≤ x.at_ ∧ x.at_ ≤ wc ∧ 0 ≤ x.res ∧ x.res < res ∧ 1 ≤ x.len ∧ x.len ≤ wc - x.at_)
def secsB (res wc : Int) : Int → List Sec → Bool
  | _, [] => true
  | e, x :: l => secB res wc e x && secsB res wc (x.at_ + x.len) l
def tskHeadB (t : Tsk) : Bool := btw t.per 1 1099511627776 && btw t.dl 1 t.per && btw t.wc 1 t.dl && decide (t.secs.length ≤ 4)
def tskB (res : Int) (t : Tsk) : Bool := tskHeadB t && secsB res t.wc 0 t.secs
def rightS (S : Sy) : Bool := wholeB S && S.tasks.all (tskB S.resn)

/-- Where the k-th section must begin at the least. -/
def secEnd : Int → List Sec → Int
  | e, [] => e
  | _, x :: l => secEnd (x.at_ + x.len) l
theorem secEnd_snoc (e : Int) (l : List Sec) (x : Sec) : secEnd e (l ++ [x]) = x.at_ + x.len := by
  induction l generalizing e with
  | nil => rfl
  | cons y l ih => exact ih _
theorem secsB_snoc (res wc e : Int) (l : List Sec) (x : Sec) : secsB res wc e (l ++ [x]) = (secsB res wc e l && secB res wc (secEnd e l) x) := by
  induction l generalizing e with
  | nil => simp [secsB, secEnd]
  | cons y l ih => simp only [List.cons_append, secsB, secEnd, ih, Bool.and_assoc]
theorem secsB_prefix {res wc e : Int} {a b : List Sec} (h : secsB res wc e (a ++ b) = true) : secsB res wc e a = true := by
  induction a generalizing e with
  | nil => rfl
  | cons y a ih =>
    simp only [List.cons_append, secsB, Bool.and_eq_true] at h ⊢
    exact ⟨h.1, ih h.2⟩
theorem secsB_end {res wc e : Int} {l : List Sec} (h : secsB res wc e l = true) (he : 0 ≤ e ∧ e ≤ wc) : 0 ≤ secEnd e l ∧ secEnd e l ≤ wc := by
  induction l generalizing e with
  | nil => exact he
  | cons y l ih =>
    simp only [secsB, Bool.and_eq_true] at h
    have h1 := of_decide_eq_true h.1
    exact ih h.2 ⟨by omega, by omega⟩
/-- What is right of a section. -/
structure SecOk (res wc : Int) (x : Sec) : Prop where
  a0 : 0 ≤ x.at_
  r0 : 0 ≤ x.res
  r1 : x.res < res
  l0 : 1 ≤ x.len
  end_ : x.at_ + x.len ≤ wc
theorem secsB_all {res wc e : Int} {l : List Sec} (h : secsB res wc e l = true) (he : 0 ≤ e) : ∀ x ∈ l, SecOk res wc x := by
  induction l generalizing e with
  | nil => intro x hx; cases hx
  | cons y l ih =>
    simp only [secsB, Bool.and_eq_true] at h
    have h1 := of_decide_eq_true h.1
    intro x hx
    rcases List.mem_cons.1 hx with rfl | hx
    · exact ⟨by omega, by omega, by omega, by omega, by omega⟩
    · exact ih h.2 (by omega) x hx
structure TskOk (res : Int) (t : Tsk) : Prop where
  p0 : 1 ≤ t.per
  p1 : t.per ≤ 1099511627776
  d0 : 1 ≤ t.dl
  d1 : t.dl ≤ t.per
  w0 : 1 ≤ t.wc
  w1 : t.wc ≤ t.dl
  n : t.secs.length ≤ 4
  s : ∀ x ∈ t.secs, SecOk res t.wc x
theorem tskB_ok {res : Int} {t : Tsk} (h : tskB res t = true) : TskOk res t := by
  unfold tskB tskHeadB btw at h
  simp only [Bool.and_eq_true, decide_eq_true_eq] at h
  obtain ⟨⟨⟨⟨h1, h2⟩, h3⟩, h4⟩, h5⟩ := h
  exact ⟨h1.1, h1.2, h2.1, h2.2, h3.1, h3.2, h4, secsB_all h5 (by omega)⟩
structure RightS (S : Sy) : Prop where
  pol : S.policy = 1 ∨ S.policy = 2
  prot : S.prot = 1 ∨ (S.prot = 2 ∧ S.policy = 1)
  rel : 0 ≤ S.rel ∧ S.rel ≤ 50
  sw : 0 ≤ S.sw ∧ S.sw ≤ 50
  fin : 0 ≤ S.fin ∧ S.fin ≤ 50
  cores : 1 ≤ S.cores ∧ S.cores ≤ 8
  lat : 1 ≤ S.lat ∧ S.lat ≤ 50
  resn : 0 ≤ S.resn ∧ S.resn ≤ 8
  len : 1 ≤ S.tasks.length ∧ S.tasks.length ≤ 24
  tasks : ∀ t ∈ S.tasks, TskOk S.resn t
theorem rightS_ok {S : Sy} (h : rightS S = true) : RightS S := by
  unfold rightS wholeB btw at h
  simp only [Bool.and_eq_true, decide_eq_true_eq, List.all_eq_true] at h
  obtain ⟨⟨h1, h2⟩, h3⟩ := h
  obtain ⟨⟨⟨⟨⟨⟨h4, h5⟩, h6⟩, h7⟩, h8⟩, h9⟩, h10⟩ := h2
  exact ⟨h1.1, h1.2, h4, h5, h6, h7, h8, h9, by omega, fun t ht => tskB_ok (h3 t ht)⟩

/-! Values -/
def secR : Reads Sec := fun _ cs x => cs = [.int .i64 x.at_, .int .i64 x.res, .int .i64 x.len]
theorem secR.stays : Stays secR := fun _ _ _ _ _ h => h
def tskR : Reads Tsk := fun w cs t => ∃ u, cs = [.int .i64 t.per, .int .i64 t.dl, .int .i64 t.wc, u] ∧ Rowp 3 secR w u t.secs
theorem tskR.stays : Stays tskR := fun _ _ _ _ k ⟨u, e, hu⟩ => ⟨u, e, hu.later secR.stays k⟩
/-- A system's value: u holds its tasks. -/
def sysV (S : Sy) (u : Value) : Value := .agg #[.int .i64 S.cores, .int .i64 S.policy, .int .i64 S.prot, .int .i64 S.rel, .int .i64 S.sw, .int .i64 S.fin, .int .i64 S.lat, .int .i64 S.resn, u]
structure IsSys (w : World) (u : Value) (S : Sy) : Prop where
  tasks : Rowp 4 tskR w u S.tasks
  wf : S.Wf
theorem IsSys.later {w w' : World} {u : Value} {S : Sy} (h : IsSys w u S) (k : Below w.heap.size w w') : IsSys w' u S := ⟨h.tasks.later tskR.stays k, h.wf⟩
end Go.Proofs.Ytppildaahmlfmaa
/- Plans, plain: when a plan is right (chapter 17). No program in sight. -/
set_option linter.unusedVariables false
set_option linter.unusedSimpArgs false
namespace Go.Proofs.Ytppildaahmlfmaa
open Go.RowKit

structure Pc where
  core : Int
  bud : Int
  dl : Int
  prio : Int
  tight : Bool
deriving DecidableEq
structure Pc.Wf (p : Pc) : Prop where
  c : I64 p.core
  b : I64 p.bud
  d : I64 p.dl
  p : I64 p.prio
def pcR : Reads Pc := fun _ cs p => cs = [.int .i64 p.core, .int .i64 p.bud, .int .i64 p.dl, .int .i64 p.prio, .bool p.tight]
theorem pcR.stays : Stays pcR := fun _ _ _ _ _ h => h
abbrev Pl := List (List Pc)
/-- A plan's value. -/
structure IsPlan (w : World) (v : Value) (P : Pl) : Prop where
  rows : Rowp 1 (RowR 5 pcR) w v P
  wf : ∀ l ∈ P, ∀ p ∈ l, Pc.Wf p
theorem IsPlan.later {w w' : World} {v : Value} {P : Pl} (h : IsPlan w v P) (k : Below w.heap.size w w') : IsPlan w' v P := ⟨h.rows.later (RowR.stays pcR.stays) k, h.wf⟩

/-- One piece: rest units and left ticks are left; nosec: its task has no section; last: it is the last one. -/
def pcB (cores : Int) (nosec : Bool) (rest left : Int) (last : Bool) (p : Pc) : Bool :=
  decide (0 ≤ p.core ∧ p.core < cores ∧ 1 ≤ p.bud ∧ p.bud ≤ rest ∧ p.dl = (if p.tight then p.bud else left) ∧ 1 ≤ p.dl) && (if p.tight then nosec && decide (p.bud ≠ rest) else last && decide (p.bud = rest))
def listB (cores late : Int) (nosec : Bool) : Int → Int → List Pc → Bool
  | _, _, [] => true
  | rest, left, p :: l => pcB cores nosec rest left l.isEmpty p && listB cores late nosec (rest - p.bud) (left - (p.bud + late)) l
def restOf (rest : Int) : List Pc → Int
  | [] => rest
  | p :: l => restOf (rest - p.bud) l
def leftOf (late left : Int) : List Pc → Int
  | [] => left
  | p :: l => leftOf late (left - (p.bud + late)) l
theorem restOf_snoc (rest : Int) (l : List Pc) (p : Pc) : restOf rest (l ++ [p]) = restOf rest l - p.bud := by
  induction l generalizing rest with
  | nil => rfl
  | cons q l ih => exact ih _
theorem leftOf_snoc (late left : Int) (l : List Pc) (p : Pc) : leftOf late left (l ++ [p]) = leftOf late left l - (p.bud + late) := by
  induction l generalizing left with
  | nil => rfl
  | cons q l ih => exact ih _
/-- The first k of a list have been found right. -/
def headB (cores late : Int) (nosec : Bool) (rest left : Int) (l : List Pc) (k : Nat) : Prop :=
  ∀ i p, i < k → l[i]? = some p → pcB cores nosec (restOf rest (l.take i)) (leftOf late left (l.take i)) (decide (i + 1 = l.length)) p = true
theorem listB_iff {cores late : Int} {nosec : Bool} {rest left : Int} {l : List Pc} : listB cores late nosec rest left l = true ↔ headB cores late nosec rest left l l.length := by
  induction l generalizing rest left with
  | nil => simp [listB, headB]
  | cons q l ih =>
    simp only [listB, Bool.and_eq_true, ih]
    constructor
    · rintro ⟨h1, h2⟩ i p hi hp
      cases i with
      | zero =>
        simp at hp
        subst hp
        have : decide (0 + 1 = (q :: l).length) = l.isEmpty := by cases l <;> simp
        rw [this]
        exact h1
      | succ i =>
        have := h2 i p (by simpa using hi) (by simpa using hp)
        rw [List.take_succ_cons]
        have e : decide (i + 1 + 1 = (q :: l).length) = decide (i + 1 = l.length) := by simp
        rw [e]
        exact this
    · intro h
      refine ⟨?_, fun i p hi hp => ?_⟩
      · have := h 0 q (by simp) rfl
        have e : decide (0 + 1 = (q :: l).length) = l.isEmpty := by cases l <;> simp
        rw [e] at this
        exact this
      · have := h (i + 1) p (by simpa using hi) (by simpa using hp)
        rw [List.take_succ_cons] at this
        have e : decide (i + 1 + 1 = (q :: l).length) = decide (i + 1 = l.length) := by simp
        rw [e] at this
        exact this
theorem headB_false {cores late : Int} {nosec : Bool} {rest left : Int} {l : List Pc} {k : Nat} {p : Pc} (hp : l[k]? = some p) (h : pcB cores nosec (restOf rest (l.take k)) (leftOf late left (l.take k)) (decide (k + 1 = l.length)) p = false) : listB cores late nosec rest left l = false := by
  cases e : listB cores late nosec rest left l with
  | false => rfl
  | true =>
    have := listB_iff.1 e k p (List.getElem?_eq_some_iff.1 hp).1 hp
    rw [h] at this
    cases this
theorem headB_succ {cores late : Int} {nosec : Bool} {rest left : Int} {l : List Pc} {k : Nat} {p : Pc} (h : headB cores late nosec rest left l k) (hp : l[k]? = some p) (h1 : pcB cores nosec (restOf rest (l.take k)) (leftOf late left (l.take k)) (decide (k + 1 = l.length)) p = true) : headB cores late nosec rest left l (k + 1) := fun i q hi hq => by
  by_cases e : i = k
  · subst e
    rw [hp] at hq
    injection hq with hq
    subst hq
    exact h1
  · exact h i q (by omega) hq
theorem take_next {α : Type} {l : List α} {k : Nat} {x : α} (h : l[k]? = some x) : l.take (k + 1) = l.take k ++ [x] := by
  rw [List.take_add_one, h]
  rfl
/-- What the walk wants to know of the numbers behind k right pieces. -/
theorem headB_num {cores late : Int} {nosec : Bool} {rest left : Int} {l : List Pc} {k : Nat} (hl : 0 ≤ late ∧ late ≤ 49) (h : headB cores late nosec rest left l k) (hk : k ≤ l.length) :
    restOf rest (l.take k) + k ≤ rest ∧ (rest ≤ 1099511627776 → 0 ≤ rest → 0 ≤ restOf rest (l.take k)) ∧ leftOf late left (l.take k) ≤ left ∧ left - (rest - restOf rest (l.take k)) - 49 * (k : Int) ≤ leftOf late left (l.take k) := by
  induction k with
  | zero => simp [restOf, leftOf]
  | succ k ih =>
    obtain ⟨i1, i2, i3, i4⟩ := ih (fun i p hi => h i p (by omega)) (by omega)
    have hp : l[k]? = some l[k] := List.getElem?_eq_getElem (by omega)
    have h1 := h k _ (by omega) hp
    rw [take_next hp, restOf_snoc, leftOf_snoc]
    unfold pcB at h1
    simp only [Bool.and_eq_true, decide_eq_true_eq] at h1
    generalize restOf rest (l.take k) = r at *
    generalize leftOf late left (l.take k) = f at *
    generalize l[k] = p at *
    refine ⟨by omega, fun a b => by have := i2 a b; omega, by omega, by omega⟩
/-- A task's pieces are right, but that two may be on one core. -/
def listOkB (S : Sy) (t : Tsk) (l : List Pc) : Bool := listB S.cores (S.lat - 1) t.secs.isEmpty t.wc t.dl l && decide (l.length ≤ 8)
end Go.Proofs.Ytppildaahmlfmaa
/- Bounds and demands, plain (chapters 1, 15, 16): what is looked for, how far the search goes. No program in sight. -/
set_option linter.unusedVariables false
set_option linter.unusedSimpArgs false
namespace Go.Proofs.Ytppildaahmlfmaa

/-- Divided, and rounded up. -/
def cdiv (a b : Int) : Int := (a + b - 1) / b
theorem cdiv_nonneg {a b : Int} (ha : 0 ≤ a) (hb : 1 ≤ b) : 0 ≤ cdiv a b := Int.ediv_nonneg (by omega) (by omega)
theorem cdiv_le {a b : Int} (ha : 0 ≤ a) (hb : 1 ≤ b) : cdiv a b ≤ a := by
  unfold cdiv
  refine Int.lt_add_one_iff.1 (Int.ediv_lt_of_lt_mul (by omega) ?_)
  have h1 : a * 1 ≤ a * b := Int.mul_le_mul_of_nonneg_left hb ha
  rw [Int.add_mul]
  omega
theorem cdiv_mono {a a' b : Int} (h : a ≤ a') (hb : 1 ≤ b) : cdiv a b ≤ cdiv a' b := Int.ediv_le_ediv (by omega) (by omega)
/-- The other way to say it: one more, where something is left. -/
theorem cdiv_rest {a b : Int} (ha : 0 ≤ a) (hb : 1 ≤ b) : cdiv a b = if 0 < a % b then a / b + 1 else a / b := by
  have h1 := Int.mul_ediv_add_emod a b
  have h2 := Int.emod_nonneg a (show b ≠ 0 by omega)
  have h3 := Int.emod_lt_of_pos a (show 0 < b by omega)
  have e : a + b - 1 = (a % b + b - 1) + b * (a / b) := by omega
  unfold cdiv
  rw [e, Int.add_mul_ediv_left _ _ (by omega)]
  by_cases h : 0 < a % b
  · rw [if_pos h, show a % b + b - 1 = (a % b - 1) + b * 1 by omega, Int.add_mul_ediv_left _ _ (by omega), Int.ediv_eq_zero_of_lt (by omega) (by omega)]
    omega
  · rw [if_neg h, Int.ediv_eq_zero_of_lt (by omega) (by omega)]
    omega

def timeB (n : Int) : Bool := decide (0 ≤ n ∧ n ≤ 1099511627776)

/-! Chapter 16 -/
structure Ld where
  work : Int
  per : Int
  jit : Int
structure Ld.Wf (x : Ld) : Prop where
  w : I64 x.work
  p : I64 x.per
  j : I64 x.jit
def ldB (x : Ld) : Bool := timeB x.work && timeB x.per && timeB x.jit && decide (x.per ≠ 0)
def ldsB (l : List Ld) : Bool := decide (l.length ≤ 72) && l.all ldB
structure LdOk (x : Ld) : Prop where
  w : 0 ≤ x.work ∧ x.work ≤ 1099511627776
  p : 1 ≤ x.per ∧ x.per ≤ 1099511627776
  j : 0 ≤ x.jit ∧ x.jit ≤ 1099511627776
theorem ldB_ok {x : Ld} (h : ldB x = true) : LdOk x := by
  unfold ldB timeB at h
  simp only [Bool.and_eq_true, decide_eq_true_eq] at h
  exact ⟨h.1.1.1, by omega, h.1.2⟩
def bndRightB (own block rel : Int) (above all : List Ld) : Bool := timeB own && timeB block && timeB rel && ldsB above && ldsB all
/-- How often a load comes within n ticks. -/
def often (n : Int) (x : Ld) : Int := cdiv (n + x.jit) x.per
/-- What there may be to do, in order: how often, how much each time. -/
def doL (rel : Int) (above all : List Ld) (n : Int) : List (Int × Int) := above.map (fun x => (often n x, x.work)) ++ all.map (fun x => (often n x + 1, rel))
def doSum : List (Int × Int) → Int
  | [] => 0
  | p :: l => p.1 * p.2 + doSum l
theorem doSum_append (a b : List (Int × Int)) : doSum (a ++ b) = doSum a + doSum b := by
  induction a with
  | nil => simp [doSum]
  | cons p a ih => simp only [List.cons_append, doSum, ih]; omega
theorem doSum_nonneg {l : List (Int × Int)} (h : ∀ p ∈ l, 0 ≤ p.1 ∧ 0 ≤ p.2) : 0 ≤ doSum l := by
  induction l with
  | nil => simp [doSum]
  | cons p l ih =>
    have h1 := h p (by simp)
    have h2 := ih (fun q hq => h q (by simp [hq]))
    have h3 := Int.mul_nonneg h1.1 h1.2
    simp only [doSum]
    omega
/-- What there may be to do within n ticks. -/
def withinV (own block rel : Int) (above all : List Ld) (n : Int) : Int := own + block + doSum (doL rel above all n)
theorem doL_nonneg {rel n : Int} {above all : List Ld} (hr : 0 ≤ rel) (hn : 0 ≤ n) (ha : ∀ x ∈ above, LdOk x) (hb : ∀ x ∈ all, LdOk x) : ∀ p ∈ doL rel above all n, 0 ≤ p.1 ∧ 0 ≤ p.2 := by
  intro p hp
  unfold doL at hp
  rcases List.mem_append.1 hp with hp | hp
  · obtain ⟨x, hx, rfl⟩ := List.mem_map.1 hp
    have := ha x hx
    exact ⟨cdiv_nonneg (by have := this.j; omega) this.p.1, this.w.1⟩
  · obtain ⟨x, hx, rfl⟩ := List.mem_map.1 hp
    have := hb x hx
    have h2 : 0 ≤ often n x := cdiv_nonneg (by have := this.j; omega) this.p.1
    exact ⟨by simp only; omega, hr⟩
/-- A sum that goes above the most somewhere is above it in the end. -/
theorem doSum_take {l : List (Int × Int)} (h : ∀ p ∈ l, 0 ≤ p.1 ∧ 0 ≤ p.2) (k : Nat) : doSum (l.take k) ≤ doSum l := by
  have h1 : doSum l = doSum (l.take k) + doSum (l.drop k) := by rw [← doSum_append, List.take_append_drop]
  have h2 := doSum_nonneg (l := l.drop k) (fun p hp => h p (List.mem_of_mem_drop hp))
  omega
/-- The search for a bound: its result and its error. -/
def boundS (W : Int → Int) (limit : Int) : Nat → Int → Int × Int
  | 0, _ => (0, 11)
  | k + 1, n => if 4611686018427387904 < W n then (0, 2) else if W n ≤ n then (n, 0) else if limit < W n then (0, 12) else boundS W limit k (W n)
def boundV (own block rel : Int) (above all : List Ld) (limit : Int) : Int × Int :=
  if bndRightB own block rel above all = true ∧ 1 ≤ limit ∧ limit ≤ 1099511627776 then boundS (withinV own block rel above all) limit 5000 1 else (0, 1)

/-! Chapter 15 -/
structure Wk where
  work : Int
  per : Int
  dl : Int
  top : Bool
structure Wk.Wf (x : Wk) : Prop where
  w : I64 x.work
  p : I64 x.per
  d : I64 x.dl
def wkB (x : Wk) : Bool := timeB x.work && decide (1 ≤ x.per ∧ x.per ≤ 1099511627776) && decide (1 ≤ x.dl ∧ x.dl ≤ 1099511627776)
structure WkOk (x : Wk) : Prop where
  w : 0 ≤ x.work ∧ x.work ≤ 1099511627776
  p : 1 ≤ x.per ∧ x.per ≤ 1099511627776
  d : 1 ≤ x.dl ∧ x.dl ≤ 1099511627776
theorem wkB_ok {x : Wk} (h : wkB x = true) : WkOk x := by
  unfold wkB timeB at h
  simp only [Bool.and_eq_true, decide_eq_true_eq] at h
  exact ⟨h.1.1, h.1.2, h.2⟩
def demRightB (l : List Wk) (block rel : Int) : Bool := l.all wkB && decide (l.length ≤ 72) && timeB block && timeB rel
/-- Sums of what may be none (too much), in order. -/
def capI (x : Int) : Option Int := if x ≤ 9223372036854775807 then some x else none
def sumO {α : Type} (f : α → Option Int) : Int → List α → Option Int
  | n, [] => some n
  | n, x :: l => match f x with
    | none => none
    | some m => match capI (n + m) with
      | none => none
      | some s => sumO f s l
/-- So many works, as often as it comes, and so many times more. -/
def oftenO (t per more work : Int) : Option Int := (capI (cdiv t per + more)).bind fun k => capI (k * work)
def askO (rel t : Int) (x : Wk) : Option Int :=
  (if x.top = true then oftenO t x.per 1 x.work else if x.dl ≤ t then capI (((t - x.dl) / x.per + 1) * x.work) else some 0).bind fun n => (oftenO t x.per 2 rel).bind fun m => capI (n + m)
def askV (l : List Wk) (block rel t : Int) : Option Int := sumO (askO rel t) block l
def comeO (rel n : Int) (x : Wk) : Option Int := (oftenO n x.per 1 x.work).bind fun m => (oftenO n x.per 2 rel).bind fun r => capI (m + r)
def comeV (l : List Wk) (block rel n : Int) : Option Int := sumO (comeO rel n) block l
/-- How much of a core is used, in parts of 2^32. -/
def useV (rel : Int) : List Wk → Int
  | [] => 0
  | x :: l => cdiv (x.work * 4294967296) x.per + cdiv (rel * 4294967296) x.per + useV rel l
def fullB (l : List Wk) (rel : Int) : Bool := decide (4294967296 < useV rel l)
def busyS (l : List Wk) (block rel : Int) : Nat → Int → Int × Int
  | 0, _ => (0, 11)
  | k + 1, n => match comeV l block rel n with
    | none => (0, 2)
    | some m => if m ≤ n then (n, 0) else busyS l block rel k m
def busyV (l : List Wk) (block rel : Int) : Int × Int :=
  if demRightB l block rel = true then (if fullB l rel = true then (0, 12) else busyS l block rel 5000 1) else (0, 1)
def testS (l : List Wk) (block rel least : Int) : Nat → Int → Int
  | 0, _ => 11
  | k + 1, t => if t < least then 0 else match askV l block rel t with
    | none => 2
    | some a => if t < a then 12 else if a = t then testS l block rel least k (t - 1) else testS l block rel least k a
def leastV : List Wk → Int
  | [] => 1099511627776 + 1
  | x :: l => if x.top = true then leastV l else min x.dl (leastV l)
def testV (l : List Wk) (block rel : Int) : Int :=
  if demRightB l block rel = true then
    if 1099511627776 < leastV l then 0
    else if (busyV l block rel).2 ≠ 0 then (busyV l block rel).2 else testS l block rel (leastV l) 5000 (busyV l block rel).1
  else 1
end Go.Proofs.Ytppildaahmlfmaa
/- Waits for resources, plain (chapter 14). No program in sight. -/
set_option linter.unusedVariables false
set_option linter.unusedSimpArgs false
namespace Go.Proofs.Ytppildaahmlfmaa

/-- A section's spot and its length: ((core, resource), length). -/
abbrev Use := (Int × Int) × Int
/-- Those of one task, on core c. -/
def useT (c : Int) (t : Tsk) : List Use := t.secs.map fun x => ((c, x.res), x.len)
/-- Those of the first k tasks, W their cores. -/
def useK (S : Sy) (W : List Int) (k : Nat) : List Use := ((S.tasks.zip W).take k).flatMap fun u => useT u.2 u.1
def useL (S : Sy) (W : List Int) : List Use := useK S W S.tasks.length
theorem useK_zero (S : Sy) (W : List Int) : useK S W 0 = [] := by simp [useK]
theorem useK_succ {S : Sy} {W : List Int} {k : Nat} {t : Tsk} {c : Int} (ht : S.tasks[k]? = some t) (hc : W[k]? = some c) : useK S W (k + 1) = useK S W k ++ useT c t := by
  have h : (S.tasks.zip W)[k]? = some (t, c) := by rw [List.getElem?_zip_eq_some]; exact ⟨ht, hc⟩
  unfold useK
  rw [List.take_add_one, h, List.flatMap_append]
  simp
/-- The longest at a spot; 0: there is none. -/
def longF (L : List Use) (k : Int × Int) : Int := L.foldl (fun m u => if u.1 = k then max m u.2 else m) 0
/-- Is there one? -/
def spotB (L : List Use) (k : Int × Int) : Bool := L.any fun u => decide (u.1 = k)
theorem longF_snoc (L : List Use) (u : Use) (k : Int × Int) : longF (L ++ [u]) k = if u.1 = k then max (longF L k) u.2 else longF L k := by
  unfold longF; rw [List.foldl_append]; rfl
theorem spotB_snoc (L : List Use) (u : Use) (k : Int × Int) : spotB (L ++ [u]) k = (spotB L k || decide (u.1 = k)) := by simp [spotB]
theorem snoc_induct {α : Type} {p : List α → Prop} (h0 : p []) (h1 : ∀ l x, p l → p (l ++ [x])) (l : List α) : p l := by
  have key : ∀ l : List α, p l.reverse := fun l => by
    induction l with
    | nil => exact h0
    | cons x l ih => rw [List.reverse_cons]; exact h1 _ _ ih
  have h := key l.reverse
  rwa [List.reverse_reverse] at h
theorem longF_none {L : List Use} {k : Int × Int} (h : spotB L k = false) : longF L k = 0 := by
  revert h
  refine snoc_induct (p := fun L => spotB L k = false → longF L k = 0) (fun _ => rfl) (fun L u ih h => ?_) L
  rw [spotB_snoc, Bool.or_eq_false_iff] at h
  rw [longF_snoc, if_neg (of_decide_eq_false h.2), ih h.1]
/-- As a map. -/
def longO (L : List Use) (k : Int × Int) : Option Int := if spotB L k = true then some (longF L k) else none
theorem longO_get (L : List Use) (k : Int × Int) : (longO L k).getD 0 = longF L k := by
  unfold longO
  by_cases h : spotB L k = true
  · rw [if_pos h]; rfl
  · rw [if_neg h, longF_none (by simpa using h)]; rfl
theorem longO_snoc (L : List Use) (u : Use) (k : Int × Int) : (if k = u.1 then some (max (longF L u.1) u.2) else longO L k) = longO (L ++ [u]) k := by
  unfold longO
  rw [spotB_snoc, longF_snoc]
  by_cases e : u.1 = k
  · subst e; simp
  · rw [if_neg (fun h => e h.symm), if_neg e]
    simp [e]
/-- Where each length is bounded. -/
theorem longF_bound {L : List Use} {b : Int} (h : ∀ u ∈ L, u.2 ≤ b) (hb : 0 ≤ b) (k : Int × Int) : 0 ≤ longF L k ∧ longF L k ≤ b := by
  revert h
  refine snoc_induct (p := fun L => (∀ u ∈ L, u.2 ≤ b) → 0 ≤ longF L k ∧ longF L k ≤ b) (fun _ => ⟨Int.le_refl _, hb⟩) (fun L u ih h => ?_) L
  have h1 := ih (fun v hv => h v (by simp [hv]))
  have h2 := h u (by simp)
  rw [longF_snoc]
  split <;> omega
theorem mem_useK {S : Sy} {W : List Int} {k : Nat} {u : Use} (h : u ∈ useK S W k) : ∃ t ∈ S.tasks, ∃ x ∈ t.secs, u.2 = x.len := by
  unfold useK at h
  obtain ⟨v, hv, hu⟩ := List.mem_flatMap.1 h
  obtain ⟨x, hx, rfl⟩ := List.mem_map.1 hu
  exact ⟨v.1, (List.of_mem_zip (List.mem_of_mem_take hv)).1, x, hx, rfl⟩
/-- Ticks of waiting, on the first n cores but one's own. -/
def waitN (L : List Use) (own r : Int) : Nat → Int
  | 0 => 0
  | n + 1 => waitN L own r n + if (n : Int) ≠ own ∧ 0 < longF L ((n : Int), r) then longF L ((n : Int), r) + 1 else 0
theorem waitN_bound {L : List Use} {b : Int} (h : ∀ u ∈ L, u.2 ≤ b) (hb : 0 ≤ b) (own r : Int) (n : Nat) : 0 ≤ waitN L own r n ∧ waitN L own r n ≤ n * (b + 1) := by
  induction n with
  | zero => simp [waitN]
  | succ n ih =>
    have h1 := longF_bound h hb ((n : Int), r)
    have e : ((n + 1 : Nat) : Int) * (b + 1) = n * (b + 1) + (b + 1) := by rw [Int.natCast_add, Int.add_mul]; omega
    rw [e]
    unfold waitN
    split <;> omega
def ownOf (W : List Int) (i : Nat) : Int := (W[i]?).getD (-1)
/-- Wait, of a section with resource r of task i. -/
def waitV (S : Sy) (W : List Int) (i : Nat) (r : Int) : Int := waitN (useL S W) (ownOf W i) r S.cores.toNat
def holdV (S : Sy) (W : List Int) (i : Nat) (x : Sec) : Int := waitV S W i x.res + x.len
def extraL (S : Sy) (W : List Int) (i : Nat) : List Sec → Int
  | [] => 0
  | x :: l => waitV S W i x.res + extraL S W i l
theorem extraL_snoc (S : Sy) (W : List Int) (i : Nat) (l : List Sec) (x : Sec) : extraL S W i (l ++ [x]) = extraL S W i l + waitV S W i x.res := by
  induction l with
  | nil => simp [extraL]
  | cons y l ih => simp only [List.cons_append, extraL, ih]; omega
def secsAt (S : Sy) (i : Nat) : List Sec := (S.tasks[i]?.map Tsk.secs).getD []
def extraV (S : Sy) (W : List Int) (i : Nat) : Int := extraL S W i (secsAt S i)
theorem useL_bound {S : Sy} (h : RightS S) (W : List Int) : ∀ u ∈ useL S W, u.2 ≤ 1099511627776 := fun u hu => by
  obtain ⟨t, ht, x, hx, e⟩ := mem_useK hu
  have h1 := h.tasks t ht
  have h2 := h1.s x hx
  have := h2.end_; have := h1.w1; have := h1.d1; have := h1.p1; have := h2.a0
  rw [e]
  show _ ≤ 1099511627776
  omega
theorem waitV_bound {S : Sy} (h : RightS S) (W : List Int) (i : Nat) (r : Int) : 0 ≤ waitV S W i r ∧ waitV S W i r ≤ 8796093022216 := by
  have h1 := waitN_bound (useL_bound h W) (by decide) (ownOf W i) r S.cores.toNat
  have h2 := h.cores
  have h3 : (S.cores.toNat : Int) * (1099511627776 + 1) ≤ 8 * (1099511627776 + 1) := Int.mul_le_mul_of_nonneg_right (by omega) (by decide)
  have h4 : (8 : Int) * (1099511627776 + 1) = 8796093022216 := by decide
  unfold waitV
  omega
theorem extraL_bound {S : Sy} (h : RightS S) (W : List Int) (i : Nat) (l : List Sec) : 0 ≤ extraL S W i l ∧ extraL S W i l ≤ l.length * 8796093022216 := by
  induction l with
  | nil => simp [extraL]
  | cons x l ih =>
    have := waitV_bound h W i x.res
    simp only [extraL, List.length_cons]
    omega
theorem extraV_bound {S : Sy} (h : RightS S) (W : List Int) (i : Nat) : 0 ≤ extraV S W i ∧ extraV S W i ≤ 35184372088864 := by
  have h1 := extraL_bound h W i (secsAt S i)
  have h2 : (secsAt S i).length ≤ 4 := by
    unfold secsAt
    cases e : S.tasks[i]? with
    | none => simp
    | some t => exact (h.tasks t (List.mem_of_getElem? e)).n
  unfold extraV
  omega
end Go.Proofs.Ytppildaahmlfmaa
/- Plans, plain: a whole plan is right; its parts, piece by piece. No program in sight. -/
set_option linter.unusedVariables false
set_option linter.unusedSimpArgs false
namespace Go.Proofs.Ytppildaahmlfmaa
open Go.RowKit

/-- A piece with its task and which one of it. -/
structure Pt where
  p : Pc
  task : Nat
  k : Nat
def ptsOf (i : Nat) (l : List Pc) : List Pt := l.mapIdx fun k p => ⟨p, i, k⟩
def partsOf (P : Pl) : List Pt := (P.mapIdx ptsOf).flatten
/-- How many Tight pieces, of a core. -/
def tightN (l : List Pt) (c : Int) : Nat := (l.filter fun x => decide (x.p.core = c) && x.p.tight).length
/-- Does a task with sections have a piece on a core? -/
def usersB (S : Sy) (l : List Pt) (c : Int) : Bool := l.any fun x => decide (x.p.core = c) && ((S.tasks[x.task]?.map fun t => !t.secs.isEmpty).getD false)
def hasB (l : List Pt) (i : Nat) (c : Int) : Bool := l.any fun x => decide (x.task = i ∧ x.p.core = c)
/-- No task has two pieces on one core. -/
def distB (P : Pl) : Bool := P.all fun l => decide (l.map Pc.core).Nodup
def coresB (S : Sy) (P : Pl) : Bool := (partsOf P).all fun x => decide (tightN (partsOf P) x.p.core = 0 ∨ (tightN (partsOf P) x.p.core = 1 ∧ usersB S (partsOf P) x.p.core = false))
def listsB (S : Sy) : List Tsk → Pl → Bool
  | t :: T, l :: P => listOkB S t l && listsB S T P
  | _, _ => true
def planB (S : Sy) (P : Pl) : Bool := rightS S && decide (P.length = S.tasks.length) && listsB S S.tasks P && distB P && coresB S P

theorem listsB_iff {S : Sy} {T : List Tsk} {P : Pl} : listsB S T P = true ↔ ∀ (i : Nat) t l, T[i]? = some t → P[i]? = some l → listOkB S t l = true := by
  induction T generalizing P with
  | nil => simp [listsB]
  | cons t T ih =>
    cases P with
    | nil => simp [listsB]
    | cons l P =>
      simp only [listsB, Bool.and_eq_true, ih]
      constructor
      · rintro ⟨h1, h2⟩ i t' l' ht hl
        cases i with
        | zero => simp at ht hl; subst ht; subst hl; exact h1
        | succ i => exact h2 i t' l' (by simpa using ht) (by simpa using hl)
      · intro h
        exact ⟨h 0 t l rfl rfl, fun i t' l' ht hl => h (i + 1) t' l' (by simpa using ht) (by simpa using hl)⟩
/-- What is right of a piece that lies in a right plan. -/
structure PcOk (S : Sy) (t : Tsk) (p : Pc) : Prop where
  c0 : 0 ≤ p.core
  c1 : p.core < S.cores
  b0 : 1 ≤ p.bud
  b1 : p.bud ≤ t.wc
  d0 : 1 ≤ p.dl
  d1 : p.dl ≤ t.dl
structure PlanOk (S : Sy) (P : Pl) : Prop where
  sys : RightS S
  len : P.length = S.tasks.length
  lists : ∀ (i : Nat) t l, S.tasks[i]? = some t → P[i]? = some l → listOkB S t l = true
  dist : ∀ l ∈ P, (l.map Pc.core).Nodup
  cores : ∀ x ∈ partsOf P, tightN (partsOf P) x.p.core = 0 ∨ (tightN (partsOf P) x.p.core = 1 ∧ usersB S (partsOf P) x.p.core = false)
theorem planB_ok {S : Sy} {P : Pl} (h : planB S P = true) : PlanOk S P := by
  unfold planB distB coresB at h
  simp only [Bool.and_eq_true, decide_eq_true_eq, List.all_eq_true] at h
  obtain ⟨⟨⟨⟨h1, h2⟩, h3⟩, h4⟩, h5⟩ := h
  exact ⟨rightS_ok h1, h2, listsB_iff.1 h3, h4, h5⟩
theorem listOk_pcs {S : Sy} {t : Tsk} {l : List Pc} (hs : RightS S) (ht : TskOk S.resn t) (h : listOkB S t l = true) : l.length ≤ 8 ∧ ∀ p ∈ l, PcOk S t p := by
  unfold listOkB at h
  simp only [Bool.and_eq_true, decide_eq_true_eq] at h
  refine ⟨h.2, fun p hp => ?_⟩
  obtain ⟨k, hk⟩ := List.mem_iff_getElem?.1 hp
  have hh := listB_iff.1 h.1
  have hkl := (List.getElem?_eq_some_iff.1 hk).1
  have hn := headB_num (k := k) ⟨by have := hs.lat; omega, by have := hs.lat; omega⟩ (fun i q hi => hh i q (by omega)) (by omega)
  have h1 := hh k p hkl hk
  unfold pcB at h1
  simp only [Bool.and_eq_true, decide_eq_true_eq] at h1
  have := ht.w0
  have := ht.w1
  have hw := hn.2.1
  generalize restOf t.wc (l.take k) = r at *
  generalize leftOf (S.lat - 1) t.dl (l.take k) = f at *
  obtain ⟨⟨c0, c1, b0, b1, d, d0⟩, _⟩ := h1
  refine ⟨c0, c1, b0, by omega, d0, ?_⟩
  split at d <;> omega
theorem mem_parts {P : Pl} {x : Pt} : x ∈ partsOf P ↔ ∃ l, P[x.task]? = some l ∧ l[x.k]? = some x.p := by
  unfold partsOf ptsOf
  simp only [List.mem_flatten, List.mem_mapIdx]
  constructor
  · rintro ⟨m, ⟨i, hi, rfl⟩, hx⟩
    obtain ⟨k, hk, rfl⟩ := List.mem_mapIdx.1 hx
    exact ⟨P[i], List.getElem?_eq_getElem hi, List.getElem?_eq_getElem hk⟩
  · rintro ⟨l, hl, hk⟩
    obtain ⟨hi, rfl⟩ := List.getElem?_eq_some_iff.1 hl
    obtain ⟨hk1, hk2⟩ := List.getElem?_eq_some_iff.1 hk
    exact ⟨_, ⟨x.task, hi, rfl⟩, List.mem_mapIdx.2 ⟨x.k, hk1, by rw [hk2]⟩⟩
/-- Up to task i, and there up to piece k. -/
theorem parts_take_succ {P : Pl} {i : Nat} {l : List Pc} (h : P[i]? = some l) : partsOf (P.take (i + 1)) = partsOf (P.take i) ++ ptsOf i l := by
  rw [take_next h]
  unfold partsOf
  rw [List.mapIdx_append, List.flatten_append]
  have hl : (P.take i).length = i := by
    have := (List.getElem?_eq_some_iff.1 h).1
    simp; omega
  simp [hl, List.mapIdx_cons]
theorem pts_take_succ {i k : Nat} {l : List Pc} {p : Pc} (h : l[k]? = some p) : ptsOf i (l.take (k + 1)) = ptsOf i (l.take k) ++ [⟨p, i, k⟩] := by
  rw [take_next h]
  unfold ptsOf
  rw [List.mapIdx_append]
  have hl : (l.take k).length = k := by
    have := (List.getElem?_eq_some_iff.1 h).1
    simp; omega
  simp [hl]
theorem pts_prefix (i k : Nat) (l : List Pc) : ptsOf i (l.take k) <+: ptsOf i l := by
  unfold ptsOf
  refine ⟨(l.mapIdx fun k p => (⟨p, i, k⟩ : Pt)).drop k, ?_⟩
  have : (l.take k).mapIdx (fun k p => (⟨p, i, k⟩ : Pt)) = (l.mapIdx fun k p => (⟨p, i, k⟩ : Pt)).take k := by
    apply List.ext_getElem?
    intro j
    simp only [List.getElem?_mapIdx, List.getElem?_take]
    split <;> simp
  rw [this, List.take_append_drop]
theorem parts_prefix (i : Nat) (P : Pl) : partsOf (P.take i) <+: partsOf P := by
  have e : P = P.take i ++ P.drop i := (List.take_append_drop i P).symm
  conv => rhs; rw [e]
  unfold partsOf
  rw [List.mapIdx_append, List.flatten_append]
  exact List.prefix_append _ _
theorem pts_length (i : Nat) (l : List Pc) : (ptsOf i l).length = l.length := by simp [ptsOf]
end Go.Proofs.Ytppildaahmlfmaa
/- The document's chapter 17: a task's list of pieces, plain. No program in sight. -/
set_option linter.unusedVariables false
set_option linter.unusedSimpArgs false
namespace Go.Proofs.Ytppildaahmlfmaa
open Go.RowKit

def sumOf : List Pc → Int
  | [] => 0
  | p :: l => p.bud + sumOf l
theorem sumOf_append (l m : List Pc) : sumOf (l ++ m) = sumOf l + sumOf m := by
  induction l with
  | nil => simp [sumOf]
  | cons p l ih => simp only [List.cons_append, sumOf, ih]; omega
theorem restOf_eq (rest : Int) (l : List Pc) : restOf rest l = rest - sumOf l := by
  induction l generalizing rest with
  | nil => simp [restOf, sumOf]
  | cons p l ih => simp only [restOf, sumOf, ih]; omega
theorem sumOf_ge {l : List Pc} (h : ∀ p ∈ l, 1 ≤ p.bud) : (l.length : Int) ≤ sumOf l := by
  induction l with
  | nil => simp [sumOf]
  | cons p l ih =>
    have h1 := h p List.mem_cons_self
    have h2 := ih (fun q hq => h q (List.mem_cons_of_mem _ hq))
    simp only [sumOf, List.length_cons]
    omega
theorem sumOf_take {l : List Pc} (h : ∀ p ∈ l, 1 ≤ p.bud) {i : Nat} (hi : i ≤ l.length) : sumOf (l.take i) + (l.length - i : Nat) ≤ sumOf l := by
  have h1 : sumOf l = sumOf (l.take i) + sumOf (l.drop i) := by rw [← sumOf_append, List.take_append_drop]
  have h2 := sumOf_ge (l := l.drop i) (fun p hp => h p (List.mem_of_mem_drop hp))
  rw [List.length_drop] at h2
  omega
/-- One piece, as the document asks it (but the sum, and the cores of those ahead). -/
def refP (cores wc : Int) (nosec : Bool) (left : Int) (last : Bool) (p : Pc) : Bool :=
  decide (0 ≤ p.core ∧ p.core < cores ∧ 1 ≤ p.bud ∧ p.bud ≤ wc) && (p.tight || last) && (!p.tight || nosec) && (if p.tight then decide (p.dl = p.bud) else decide (p.dl = left ∧ 1 ≤ left))
def refHead (S : Sy) (t : Tsk) (l : List Pc) (k : Nat) : Prop :=
  ∀ i p, i < k → l[i]? = some p → refP S.cores t.wc t.secs.isEmpty (leftOf (S.lat - 1) t.dl (l.take i)) (decide (i + 1 = l.length)) p = true ∧ ∀ j q, j < i → l[j]? = some q → q.core ≠ p.core
def refEnd (wc : Int) (l : List Pc) : Bool := match l[l.length - 1]? with
  | none => true
  | some p => if p.tight then decide (sumOf l < wc) else decide (sumOf l = wc)
/-- What the document's list answers. -/
def refListB (S : Sy) (t : Tsk) (l : List Pc) : Bool := listOkB S t l && decide ((l.map Pc.core).Nodup)
theorem nodup_cores {l : List Pc} : (l.map Pc.core).Nodup ↔ ∀ (i j : Nat) (p q : Pc), j < i → l[i]? = some p → l[j]? = some q → q.core ≠ p.core := by
  rw [List.Nodup, List.pairwise_map, List.pairwise_iff_getElem]
  constructor
  · intro h i j p q hji hp hq
    obtain ⟨hi, rfl⟩ := List.getElem?_eq_some_iff.1 hp
    obtain ⟨hj, rfl⟩ := List.getElem?_eq_some_iff.1 hq
    exact h j i hj hi hji
  · intro h i j hi hj hij
    exact h j i _ _ hij (List.getElem?_eq_getElem hj) (List.getElem?_eq_getElem hi)
theorem refHead_of {S : Sy} {t : Tsk} {l : List Pc} (hl : 0 ≤ S.lat - 1 ∧ S.lat - 1 ≤ 49) (h : refListB S t l = true) : refHead S t l l.length := by
  unfold refListB listOkB at h
  simp only [Bool.and_eq_true, decide_eq_true_eq] at h
  obtain ⟨⟨h1, h2⟩, h3⟩ := h
  have hb := listB_iff.1 h1
  intro i p hi hp
  refine ⟨?_, fun j q hj hq => nodup_cores.1 h3 i j p q hj hp hq⟩
  have h4 := hb i p hi hp
  have h5 := (headB_num hl (k := i) (fun a b c => hb a b (by omega)) (by omega)).1
  unfold pcB at h4
  unfold refP
  generalize restOf t.wc (l.take i) = r at *
  generalize leftOf (S.lat - 1) t.dl (l.take i) = f at *
  obtain ⟨pc, pb, pd, pp, ti⟩ := p
  cases ti <;> simp only [Bool.and_eq_true, decide_eq_true_eq, Bool.false_eq_true, if_false, if_true, Bool.false_or, Bool.true_or, Bool.not_false, Bool.not_true, true_and, and_true] at h4 ⊢
  · refine ⟨⟨by omega, h4.2.1⟩, by omega, by omega⟩
  · refine ⟨⟨by omega, h4.2.1⟩, by omega⟩
theorem ref_iff {S : Sy} {t : Tsk} {l : List Pc} (h8 : l.length ≤ 8) (h : refHead S t l l.length) : refListB S t l = refEnd t.wc l := by
  have hnd : (l.map Pc.core).Nodup := nodup_cores.2 (fun i j p q hji hp hq => (h i p (List.getElem?_eq_some_iff.1 hp).1 hp).2 j q hji hq)
  have hp1 : ∀ i p, l[i]? = some p → refP S.cores t.wc t.secs.isEmpty (leftOf (S.lat - 1) t.dl (l.take i)) (decide (i + 1 = l.length)) p = true := fun i p hp => (h i p (List.getElem?_eq_some_iff.1 hp).1 hp).1
  have hbud : ∀ p ∈ l, 1 ≤ p.bud := fun p hp => by
    obtain ⟨i, hi⟩ := List.mem_iff_getElem?.1 hp
    have := hp1 i p hi
    unfold refP at this
    simp only [Bool.and_eq_true, decide_eq_true_eq] at this
    omega
  unfold refListB listOkB
  rw [decide_eq_true hnd, decide_eq_true h8, Bool.and_true, Bool.and_true]
  rw [Bool.eq_iff_iff, listB_iff]
  constructor
  · intro hb
    unfold refEnd
    cases e : l[l.length - 1]? with
    | none => rfl
    | some p =>
      have hi := (List.getElem?_eq_some_iff.1 e).1
      have h4 := hb _ p hi e
      unfold pcB at h4
      rw [restOf_eq] at h4
      have h5 : sumOf l = sumOf (l.take (l.length - 1)) + p.bud := by
        have h6 : l = l.take (l.length - 1) ++ [p] := by
          have := take_next e
          rw [← this, show l.length - 1 + 1 = l.length by omega, List.take_length]
        have h7 : sumOf (l.take (l.length - 1) ++ [p]) = sumOf (l.take (l.length - 1)) + p.bud := by rw [sumOf_append]; simp [sumOf]
        rw [← h6] at h7
        exact h7
      generalize sumOf (l.take (l.length - 1)) = r at *
      cases ht : p.tight <;> simp only [ht, Bool.and_eq_true, decide_eq_true_eq, Bool.false_eq_true, if_false, if_true] at h4 ⊢
      · omega
      · omega
  · intro he i p hi hp
    have h4 := hp1 i p hp
    have h5 : sumOf (l.take (i + 1)) = sumOf (l.take i) + p.bud := by rw [take_next hp, sumOf_append]; simp [sumOf]
    have h6 := sumOf_take hbud (i := i + 1) (by omega)
    have h7 : i + 1 = l.length → sumOf (l.take (i + 1)) = sumOf l := fun e => by rw [e, List.take_length]
    unfold refEnd at he
    obtain ⟨q, hq⟩ : ∃ q, l[l.length - 1]? = some q := ⟨_, List.getElem?_eq_getElem (by omega)⟩
    have hqp : i + 1 = l.length → q = p := fun e => by
      rw [show l.length - 1 = i by omega, hp] at hq
      injection hq with hq
      exact hq.symm
    rw [hq] at he
    simp only at he
    unfold refP at h4
    unfold pcB
    rw [restOf_eq]
    generalize sumOf (l.take i) = r at *
    generalize sumOf (l.take (i + 1)) = r1 at *
    generalize leftOf (S.lat - 1) t.dl (l.take i) = f at *
    generalize sumOf l = u at *
    cases hqt : q.tight <;> cases ht : p.tight <;> simp only [hqt, ht, Bool.and_eq_true, decide_eq_true_eq, Bool.false_eq_true, if_false, if_true, Bool.false_or, Bool.true_or, Bool.not_false, Bool.not_true, true_and, and_true] at h4 he ⊢
    · exact ⟨by omega, h4.1.2, by have := h7 h4.1.2; omega⟩
    · have : i + 1 ≠ l.length := fun e => by rw [hqp e, ht] at hqt; cases hqt
      exact ⟨by omega, h4.1.2, by omega⟩
    · have e := h4.1.2
      rw [hqp e, ht] at hqt; cases hqt
    · exact ⟨by omega, h4.1.2, by omega⟩
theorem ref_bad {S : Sy} {t : Tsk} {l : List Pc} (hl : 0 ≤ S.lat - 1 ∧ S.lat - 1 ≤ 49) {k : Nat} {p : Pc} (hp : l[k]? = some p)
    (h : refP S.cores t.wc t.secs.isEmpty (leftOf (S.lat - 1) t.dl (l.take k)) (decide (k + 1 = l.length)) p = false ∨ ∃ j q, j < k ∧ l[j]? = some q ∧ q.core = p.core) : refListB S t l = false := by
  cases e : refListB S t l with
  | false => rfl
  | true =>
    obtain ⟨h1, h2⟩ := refHead_of hl e k p (List.getElem?_eq_some_iff.1 hp).1 hp
    rcases h with h | ⟨j, q, hj, hq, e2⟩
    · rw [h] at h1; cases h1
    · exact absurd e2 (h2 j q hj hq)
theorem refHead_succ {S : Sy} {t : Tsk} {l : List Pc} {k : Nat} {p : Pc} (h : refHead S t l k) (hp : l[k]? = some p) (h1 : refP S.cores t.wc t.secs.isEmpty (leftOf (S.lat - 1) t.dl (l.take k)) (decide (k + 1 = l.length)) p = true) (h2 : ∀ j q, j < k → l[j]? = some q → q.core ≠ p.core) : refHead S t l (k + 1) := fun i q hi hq => by
  by_cases e : i = k
  · subst e
    rw [hp] at hq
    injection hq with hq
    subst hq
    exact ⟨h1, h2⟩
  · exact h i q (by omega) hq
/-- What the walk wants of the numbers. -/
theorem refHead_num {S : Sy} {t : Tsk} {l : List Pc} {k : Nat} (hl : 0 ≤ S.lat - 1 ∧ S.lat - 1 ≤ 49) (h : refHead S t l k) (hk : k ≤ l.length) :
    0 ≤ sumOf (l.take k) ∧ sumOf (l.take k) ≤ k * t.wc ∧ leftOf (S.lat - 1) t.dl (l.take k) ≤ t.dl ∧ t.dl - sumOf (l.take k) - 49 * (k : Int) ≤ leftOf (S.lat - 1) t.dl (l.take k) := by
  induction k with
  | zero => simp [sumOf, leftOf]
  | succ k ih =>
    obtain ⟨i1, i2, i3, i4⟩ := ih (fun i p hi => h i p (by omega)) (by omega)
    have hp : l[k]? = some l[k] := List.getElem?_eq_getElem (by omega)
    have h1 := (h k _ (by omega) hp).1
    rw [take_next hp, sumOf_append, leftOf_snoc]
    have e : sumOf [l[k]] = l[k].bud := by simp [sumOf]
    rw [e]
    unfold refP at h1
    simp only [Bool.and_eq_true, decide_eq_true_eq] at h1
    have e2 : ((k + 1 : Nat) : Int) * t.wc = k * t.wc + t.wc := by rw [Int.natCast_add, Int.add_mul]; simp
    rw [e2]
    generalize sumOf (l.take k) = r at *
    generalize leftOf (S.lat - 1) t.dl (l.take k) = f at *
    generalize (k : Int) * t.wc = z at *
    generalize l[k] = p at *
    refine ⟨by omega, by omega, by omega, by omega⟩
end Go.Proofs.Ytppildaahmlfmaa
/- Package qarith: Add, Mul, CeilDiv of numbers from 0 on (contracts). -/
set_option linter.unusedVariables false
set_option linter.unusedSimpArgs false
namespace Go.Proofs.Ytppildaahmlfmaa
open Go.RowKit

/-- What a reckoning returns: a number, or that it is too much. -/
def okV : Option Int → Value
  | some n => .tuple #[.int .i64 n, .int .i64 0]
  | none => .tuple #[.int .i64 0, .int .i64 2]
theorem wrap_bv (x : BitVec 64) : IntKind.i64.wrap (x.toNat : Int) = x.toInt := by
  have h := x.isLt
  rw [BitVec.toInt_eq_toNat_cond, IntKind.wrap_i64]
  split <;> omega
theorem toInt_in {n : Int} (h0 : -9223372036854775808 ≤ n) (h1 : n ≤ 9223372036854775807) : (BitVec.ofInt 64 n).toInt = n := by
  rw [BitVec.toInt_ofInt]
  exact Int.bmod_eq_of_le (by omega) (by omega)
theorem msb_in {n : Int} (h0 : -9223372036854775808 ≤ n) (h1 : n ≤ 9223372036854775807) : (BitVec.ofInt 64 n).msb = decide (n < 0) := by
  rw [BitVec.msb_eq_toInt, toInt_in h0 h1]
/-- The sign of '(a^n)&(b^n)'. -/
theorem sign_add {a b n : Int} (ha : I64 a) (hb : I64 b) (hn : I64 n) : decide (bits .and .i64 (bits .xor .i64 a n) (bits .xor .i64 b n) < 0) = (((decide (a < 0)).xor (decide (n < 0))) && ((decide (b < 0)).xor (decide (n < 0)))) := by
  have e1 : bits .xor .i64 a n = (BitVec.ofInt 64 a ^^^ BitVec.ofInt 64 n).toInt := wrap_bv _
  have e2 : bits .xor .i64 b n = (BitVec.ofInt 64 b ^^^ BitVec.ofInt 64 n).toInt := wrap_bv _
  have e3 : bits .and .i64 (bits .xor .i64 a n) (bits .xor .i64 b n) = (BitVec.ofInt 64 (bits .xor .i64 a n) &&& BitVec.ofInt 64 (bits .xor .i64 b n)).toInt := wrap_bv _
  rw [e3, ← BitVec.msb_eq_toInt, BitVec.msb_and, e1, e2, BitVec.ofInt_toInt, BitVec.ofInt_toInt, BitVec.msb_xor, BitVec.msb_xor, msb_in ha.1 ha.2, msb_in hb.1 hb.2, msb_in hn.1 hn.2]

section
variable {w : World}
set_option maxRecDepth 100000 in
theorem qadd_any (a b : Int) (ha : 0 ≤ a ∧ a ≤ 9223372036854775807) (hb : 0 ≤ b ∧ b ≤ 9223372036854775807) :
    Calls Try.prog 76 #[.int .i64 a, .int .i64 b] w fun e w' => e = .returned (okV (capI (a + b))) ∧ w' = w := by
  obtain ⟨n, hn⟩ : ∃ n, IntKind.i64.wrap (a + b) = n := ⟨_, rfl⟩
  have hn2 : (a + b ≤ 9223372036854775807 ∧ n = a + b) ∨ (9223372036854775807 < a + b ∧ n = a + b - 18446744073709551616) := by
    rw [← hn, IntKind.wrap_i64]
    omega
  have hs := sign_add (a := a) (b := b) (n := n) ⟨by omega, ha.2⟩ ⟨by omega, hb.2⟩ (by unfold I64; omega)
  obtain ⟨q, hq⟩ : ∃ q, bits .and .i64 (bits .xor .i64 a n) (bits .xor .i64 b n) = q := ⟨_, rfl⟩
  rw [hq] at hs
  rcases hn2 with ⟨h1, h2⟩ | ⟨h1, h2⟩
  · have hq0 : decide (q < 0) = false := by rw [hs, decide_eq_false (p := a < 0) (by omega), decide_eq_false (p := n < 0) (by omega)]; rfl
    have HC := hid (show capI (a + b) = some n by unfold capI; rw [if_pos h1, h2])
    have HN := hid hn
    clear hs h1 h2 ha hb
    go_enter Try.func76, Try.ntmps76
    go_wp2_with fail
    go_ret2
    exact ⟨by rw [HC.out]; rfl, rfl⟩
  · have hq0 : decide (q < 0) = true := by rw [hs, decide_eq_false (p := a < 0) (by omega), decide_eq_false (p := b < 0) (by omega), decide_eq_true (p := n < 0) (by omega)]; rfl
    have HC := hid (show capI (a + b) = none by unfold capI; rw [if_neg (by omega)])
    clear hs h1 h2 ha hb
    go_enter Try.func76, Try.ntmps76
    go_wp2_with fail
    go_ret2
    exact ⟨by rw [HC.out]; rfl, rfl⟩
set_option maxRecDepth 100000 in
theorem qceil_any (a b : Int) (ha : 0 ≤ a ∧ a ≤ 9223372036854775807) (hb : 1 ≤ b ∧ b ≤ 9223372036854775807) :
    Calls Try.prog 86 #[.int .i64 a, .int .i64 b] w fun e w' => e = .returned (.tuple #[.int .i64 (cdiv a b), .int .i64 0]) ∧ w' = w := by
  have h1 := cdiv_le ha.1 hb.1
  have h2 := cdiv_nonneg ha.1 hb.1
  obtain ⟨q, hq⟩ : ∃ q, (a + b - 1) / b = q := ⟨_, rfl⟩
  unfold cdiv at h1 h2 ⊢
  rw [hq] at h1 h2 ⊢
  have e1 : IntKind.u64.wrap a = a := by rw [IntKind.wrap_u64]; omega
  have e2 : IntKind.u64.wrap b = b := by rw [IntKind.wrap_u64]; omega
  have e3 : IntKind.u64.wrap (a + b) = a + b := by rw [IntKind.wrap_u64]; omega
  have e4 : IntKind.u64.wrap (a + b - 1) = a + b - 1 := by rw [IntKind.wrap_u64]; omega
  have e5 : IntKind.u64.wrap q = q := by rw [IntKind.wrap_u64]; omega
  go_enter Try.func86, Try.ntmps86
  go_wp2_with fail
  go_ret2
  exact ⟨rfl, rfl⟩
end
end Go.Proofs.Ytppildaahmlfmaa
/- Package qarith: size, times, Mul of numbers from 0 on (contracts). -/
set_option linter.unusedVariables false
set_option linter.unusedSimpArgs false
namespace Go.Proofs.Ytppildaahmlfmaa
open Go.RowKit

theorem and_low {a : Int} (h0 : 0 ≤ a) (h1 : a < 18446744073709551616) : bits .and .u64 a 4294967295 = a % 4294967296 := by
  obtain ⟨n, rfl⟩ : ∃ n : Nat, a = n := ⟨a.toNat, by omega⟩
  have := bits_and_u64_nat n 4294967295 (by omega) (by omega)
  rw [show ((4294967295 : Nat) : Int) = 4294967295 from rfl] at this
  rw [this, show (4294967295 : Nat) = 2 ^ 32 - 1 from rfl, Nat.and_two_pow_sub_one_eq_mod]
  omega
theorem or_high {z x : Int} (h0 : 0 ≤ z) (h1 : z < 4294967296) (h2 : 0 ≤ x) (h3 : x < 4294967296) : bits .or .u64 (z * 4294967296) x = z * 4294967296 + x := by
  obtain ⟨n, rfl⟩ : ∃ n : Nat, z = n := ⟨z.toNat, by omega⟩
  obtain ⟨m, rfl⟩ : ∃ n : Nat, x = n := ⟨x.toNat, by omega⟩
  have := bits_or_u64_nat (2 ^ 32 * n) m (by omega) (by omega)
  rw [show ((n : Int) * 4294967296) = ((2 ^ 32 * n : Nat) : Int) by omega, this, ← Nat.two_pow_add_eq_or_of_lt (by omega)]
  omega
/-- The two halves of a product. -/
theorem halves {a b al ah bl bh x y z : Int} (ha : a = ah * 4294967296 + al) (hb : b = bh * 4294967296 + bl) (hal : 0 ≤ al ∧ al < 4294967296) (hbl : 0 ≤ bl ∧ bl < 4294967296) (hah : 0 ≤ ah ∧ ah < 4294967296) (hbh : 0 ≤ bh ∧ bh < 4294967296)
    (hx : x = al * bl) (hy : y = ah * bl + x / 4294967296) (hz : z = al * bh + y % 4294967296) :
    a * b / 18446744073709551616 = ah * bh + y / 4294967296 + z / 4294967296 ∧ a * b % 18446744073709551616 = z % 4294967296 * 4294967296 + x % 4294967296 ∧ x < 18446744073709551616 ∧ 0 ≤ x ∧ y < 18446744073709551616 ∧ 0 ≤ y ∧ z < 18446744073709551616 ∧ 0 ≤ z ∧ 0 ≤ ah * bh ∧ ah * bh ≤ 18446744065119617025 ∧ 0 ≤ ah * bl ∧ ah * bl ≤ 18446744065119617025 ∧ 0 ≤ al * bh ∧ al * bh ≤ 18446744065119617025 ∧ 0 ≤ al * bl ∧ al * bl ≤ 18446744065119617025 := by
  have key : ∀ u v : Int, 0 ≤ u ∧ u < 4294967296 → 0 ≤ v ∧ v < 4294967296 → 0 ≤ u * v ∧ u * v ≤ 18446744065119617025 := fun u v hu hv => by
    have h1 := Int.mul_nonneg hu.1 hv.1
    have h2 : u * v ≤ 4294967295 * 4294967295 := Int.mul_le_mul (by omega) (by omega) hv.1 (by decide)
    exact ⟨h1, h2⟩
  have k1 := key _ _ hal hbl
  have k2 := key _ _ hah hbl
  have k3 := key _ _ hal hbh
  have k4 := key _ _ hah hbh
  have e : a * b = ah * bh * 18446744073709551616 + (ah * bl + al * bh) * 4294967296 + al * bl := by
    rw [ha, hb]
    simp only [Int.add_mul, Int.mul_add]
    have e1 : ah * 4294967296 * (bh * 4294967296) = ah * bh * 18446744073709551616 := by
      rw [Int.mul_assoc, Int.mul_left_comm 4294967296 bh, ← Int.mul_assoc]; rfl
    have e2 : ah * 4294967296 * bl = ah * bl * 4294967296 := Int.mul_right_comm _ _ _
    have e3 : al * (bh * 4294967296) = al * bh * 4294967296 := (Int.mul_assoc _ _ _).symm
    rw [e1, e2, e3]
    omega
  rw [e, hx] at *
  generalize ah * bh = p1 at *
  generalize ah * bl = p2 at *
  generalize al * bh = p3 at *
  generalize al * bl = p4 at *
  omega
section
variable {w : World}
set_option maxRecDepth 100000 in
theorem qsize_any (a : Int) (ha : 0 ≤ a ∧ a ≤ 9223372036854775807) :
    Calls Try.prog 88 #[.int .i64 a] w fun e w' => e = .returned (.int .u64 a) ∧ w' = w := by
  have e1 : IntKind.u64.wrap a = a := by rw [IntKind.wrap_u64]; omega
  go_enter Try.func88, Try.ntmps88
  go_wp2_with fail
  go_ret
  exact ⟨rfl, rfl⟩
set_option maxRecDepth 100000 in
set_option maxHeartbeats 1600000 in
theorem qtimes_any (a b : Int) (ha : 0 ≤ a ∧ a < 18446744073709551616) (hb : 0 ≤ b ∧ b < 18446744073709551616) :
    Calls Try.prog 87 #[.int .u64 a, .int .u64 b] w fun e w' => e = .returned (.agg #[.int .u64 (a * b / 18446744073709551616), .int .u64 (a * b % 18446744073709551616)]) ∧ Below w.heap.size w w' := by
  have hal := and_low ha.1 ha.2
  have hbl := and_low hb.1 hb.2
  obtain ⟨al, hal2⟩ : ∃ x, a % 4294967296 = x := ⟨_, rfl⟩
  obtain ⟨bl, hbl2⟩ : ∃ x, b % 4294967296 = x := ⟨_, rfl⟩
  obtain ⟨ah, hah⟩ : ∃ x, a / 4294967296 = x := ⟨_, rfl⟩
  obtain ⟨bh, hbh⟩ : ∃ x, b / 4294967296 = x := ⟨_, rfl⟩
  rw [hal2] at hal
  rw [hbl2] at hbl
  obtain ⟨x, hx⟩ : ∃ x, al * bl = x := ⟨_, rfl⟩
  obtain ⟨y, hy⟩ : ∃ y, ah * bl + x / 4294967296 = y := ⟨_, rfl⟩
  obtain ⟨z, hz⟩ : ∃ z, al * bh + y % 4294967296 = z := ⟨_, rfl⟩
  obtain ⟨h1, h2, x1, x0, y1, y0, z1, z0, p10, p11, p20, p21, p30, p31, p40, p41⟩ := halves (a := a) (b := b) (by omega) (by omega) (by omega) (by omega) (by omega) (by omega) hx.symm hy.symm hz.symm
  obtain ⟨H, hH⟩ : ∃ H, a * b / 18446744073709551616 = H := ⟨_, rfl⟩
  obtain ⟨L, hL⟩ : ∃ L, a * b % 18446744073709551616 = L := ⟨_, rfl⟩
  have hlx := and_low x0 x1
  have hly := and_low y0 y1
  obtain ⟨xl, hxl⟩ : ∃ v, x % 4294967296 = v := ⟨_, rfl⟩
  obtain ⟨yl, hyl⟩ : ∃ v, y % 4294967296 = v := ⟨_, rfl⟩
  obtain ⟨xh, hxh⟩ : ∃ v, x / 4294967296 = v := ⟨_, rfl⟩
  obtain ⟨yh, hyh⟩ : ∃ v, y / 4294967296 = v := ⟨_, rfl⟩
  obtain ⟨zh, hzh⟩ : ∃ v, z / 4294967296 = v := ⟨_, rfl⟩
  obtain ⟨zl, hzl⟩ : ∃ v, z % 4294967296 = v := ⟨_, rfl⟩
  rw [hxl] at hlx h2
  rw [hyl] at hly hz
  rw [hxh] at hy
  rw [hyh, hzh] at h1
  rw [hzl] at h2
  have hor := or_high (z := zl) (x := xl) (by omega) (by omega) (by omega) (by omega)
  rw [hH] at h1 ⊢
  rw [hL] at h2 ⊢
  rw [← h2] at hor
  obtain ⟨q1, hq1⟩ : ∃ q, ah * bl = q := ⟨_, rfl⟩
  obtain ⟨q2, hq2⟩ : ∃ q, al * bh = q := ⟨_, rfl⟩
  obtain ⟨q3, hq3⟩ : ∃ q, ah * bh = q := ⟨_, rfl⟩
  rw [hq1] at hy p20 p21
  rw [hq2] at hz p30 p31
  rw [hq3] at h1 p10 p11
  have w1 : IntKind.u64.wrap x = x := by rw [IntKind.wrap_u64]; omega
  have w2 : IntKind.u64.wrap q1 = q1 := by rw [IntKind.wrap_u64]; omega
  have w3 : IntKind.u64.wrap y = y := by rw [IntKind.wrap_u64]; omega
  have w4 : IntKind.u64.wrap q2 = q2 := by rw [IntKind.wrap_u64]; omega
  have w5 : IntKind.u64.wrap z = z := by rw [IntKind.wrap_u64]; omega
  have w6 : IntKind.u64.wrap q3 = q3 := by rw [IntKind.wrap_u64]; omega
  have w7 : IntKind.u64.wrap (q3 + yh) = q3 + yh := by rw [IntKind.wrap_u64]; omega
  have w8 : IntKind.u64.wrap H = H := by rw [IntKind.wrap_u64]; omega
  have w9 : IntKind.u64.wrap (z * 4294967296) = zl * 4294967296 := by rw [IntKind.wrap_u64]; omega
  have hH2 : q3 + yh + zh = H := h1.symm
  have HQ0 := hid (blk_new w (.cells #[.int .u64 0, .int .u64 0] 136))
  have HQ := hid (below_new (Below.refl w.heap.size w) (.cells #[.int .u64 0, .int .u64 0] 136))
  clear h1 h2 ha hb x0 x1 y0 y1 z0 z1 p10 p11 p20 p21 p30 p31 p40 p41 hH hL hal2 hbl2 hxl hyl hzl
  go_enter Try.func87, Try.ntmps87
  go_wp2_with fail
  have hb := below_new (Below.refl w.heap.size w) (.cells #[.int .u64 H, .int .u64 L] 136)
  have hq := blk_new w (.cells #[.int .u64 H, .int .u64 L] 136)
  generalize w.alloc (.cells #[.int .u64 H, .int .u64 L] 136) = wz at *
  have y0 : wz.cell? ⟨w.heap.size, 0, none⟩ = some (.int .u64 H) := blk_cell hq 0
  have y1 : wz.cell? ⟨w.heap.size, 1, none⟩ = some (.int .u64 L) := blk_cell hq 1
  exact bodyPost_ret (v := .agg #[.int .u64 H, .int .u64 L]) (by simp [results, Try.results87, go_sem, y0, y1]) rfl ⟨rfl, hb⟩
set_option maxRecDepth 100000 in
set_option maxHeartbeats 1600000 in
theorem qmul_any (a b : Int) (ha : 0 ≤ a ∧ a ≤ 9223372036854775807) (hb : 0 ≤ b ∧ b ≤ 9223372036854775807) :
    Calls Try.prog 78 #[.int .i64 a, .int .i64 b] w fun e w' => e = .returned (okV (capI (a * b))) ∧ Below w.heap.size w w' := by
  have HA := hid (fun W => qsize_any (w := W) a ha)
  have HB := hid (fun W => qsize_any (w := W) b hb)
  have HT := hid (fun W => qtimes_any (w := W) a b (by omega) (by omega))
  have hp := Int.mul_nonneg ha.1 hb.1
  have hpm : a * b ≤ 9223372036854775807 * 9223372036854775807 := Int.mul_le_mul ha.2 hb.2 hb.1 (by decide)
  have e1 : decide (a < 0) = false := decide_eq_false (by omega)
  have e2 : decide (b < 0) = false := decide_eq_false (by omega)
  obtain ⟨p, hpq⟩ : ∃ p, a * b = p := ⟨_, rfl⟩
  rw [hpq] at HT hp hpm ⊢
  obtain ⟨H, hH⟩ : ∃ H, p / 18446744073709551616 = H := ⟨_, rfl⟩
  obtain ⟨L, hL⟩ : ∃ L, p % 18446744073709551616 = L := ⟨_, rfl⟩
  rw [hH, hL] at HT
  clear ha hb hpq
  go_enter Try.func78, Try.ntmps78
  go_wp2_with fail
  refine (HA.out _).mono ?_
  rintro e W1 ⟨rfl, rfl⟩
  go_wp2_with fail
  refine (HB.out _).mono ?_
  rintro e W2 ⟨rfl, rfl⟩
  go_wp2_with fail
  refine (HT.out _).mono ?_
  rintro e W1 ⟨rfl, hb1⟩
  have hb2 := below_new hb1 (.cells #[.int .u64 H, .int .u64 L] 136)
  have HB2 := hid hb2
  clear hb1 hb2 HA HB HT
  have hL1 : 0 ≤ L := by omega
  by_cases h0 : p ≤ 9223372036854775807
  case pos =>
    have hH0 : H = 0 := by omega
    subst hH0
    have hl1 : decide (L ≤ 9223372036854775807) = true := decide_eq_true (by omega)
    have HC := hid (show capI p = some L by unfold capI; rw [if_pos h0]; congr 1; omega)
    clear hH hL h0 hp hpm
    have hL2 : L ≤ 9223372036854775807 := of_decide_eq_true hl1
    go_wp2_with fail
    go_ret2
    exact ⟨by rw [HC.out]; rfl, HB2.out⟩
  case neg =>
    have HC := hid (show capI p = none by unfold capI; rw [if_neg h0])
    by_cases hH0 : H = 0
    case pos =>
      subst hH0
      have hL2 : ¬ L ≤ 9223372036854775807 := by omega
      have hl1 : decide (L ≤ 9223372036854775807) = false := decide_eq_false hL2
      clear hH hL h0 hp hpm
      go_wp2_with fail
      all_goals
        go_ret2
        exact ⟨by rw [HC.out]; rfl, HB2.out⟩
    case neg =>
      have hHb : (H == 0) = false := beq_eq_false_iff_ne.2 hH0
      clear hH hL h0 hp hpm
      go_wp2_with fail
      go_ret2
      exact ⟨by rw [HC.out]; rfl, HB2.out⟩
end
end Go.Proofs.Ytppildaahmlfmaa
/- Package qarith: over, MulDiv by 2^32, Load (contracts). -/
set_option linter.unusedVariables false
set_option linter.unusedSimpArgs false
namespace Go.Proofs.Ytppildaahmlfmaa
open Go.RowKit

/-! Long division, bit by bit: of H * 2^64 + L, the first 64 - k bits of L are done. -/
theorem div_step {p d q r b : Int} (hd : 0 < d) (h : p = q * d + r) (hr : 0 ≤ r ∧ r < d) (hb : 0 ≤ b ∧ b ≤ 1) :
    (2 * r + b < d → 2 * p + b = (2 * q) * d + (2 * r + b)) ∧ (d ≤ 2 * r + b → 2 * p + b = (2 * q + 1) * d + (2 * r + b - d) ∧ 2 * r + b - d < d) := by
  have e1 : 2 * q * d = 2 * (q * d) := Int.mul_assoc _ _ _
  have e2 : (2 * q + 1) * d = 2 * (q * d) + d := by rw [Int.add_mul, e1]; omega
  rw [e1, e2]
  generalize q * d = m at *
  omega
/-- What is known behind the bits from k on: (H, L) to there is q * d + r, q's bits are set. -/
structure OverAt (H L d : Int) (k : Nat) (q r : Int) : Prop where
  eq : ∃ q0, q = q0 * 2 ^ k ∧ H * 2 ^ (64 - k) + L / 2 ^ k = q0 * d + r ∧ 0 ≤ q0 ∧ q0 < 2 ^ (64 - k)
  r0 : 0 ≤ r
  r1 : r < d
theorem OverAt.start {H L d : Int} (h0 : 0 ≤ H) (h1 : H < d) (hL : 0 ≤ L ∧ L < 18446744073709551616) : OverAt H L d 64 0 H := by
  refine ⟨⟨0, by omega, ?_, by omega, by decide⟩, h0, h1⟩
  rw [Int.ediv_eq_zero_of_lt hL.1 (by have : (2 : Int) ^ 64 = 18446744073709551616 := by decide
                                      omega)]
  simp
theorem OverAt.last {H L d q r : Int} (h : OverAt H L d 0 q r) (hd : 0 < d) : q = (H * 18446744073709551616 + L) / d ∧ r = (H * 18446744073709551616 + L) % d := by
  obtain ⟨⟨q0, e1, e2, _⟩, r0, r1⟩ := h
  rw [Int.pow_zero, Int.mul_one] at e1
  subst e1
  rw [Int.pow_zero, Int.ediv_one, show (2 : Int) ^ (64 - 0) = 18446744073709551616 by decide] at e2
  rw [e2]
  constructor
  · rw [Int.add_comm, Int.add_mul_ediv_right _ _ (by omega), Int.ediv_eq_zero_of_lt r0 r1]; omega
  · rw [Int.add_comm, Int.add_mul_emod_self_right, Int.emod_eq_of_lt r0 r1]
theorem OverAt.step {H L d q r : Int} {k : Nat} (hk : k < 64) (h : OverAt H L d (k + 1) q r) (hd : 0 < d) (hd1 : d < 18446744073709551616) (hL : 0 ≤ L) :
    (2 * r + L / 2 ^ k % 2 < d → OverAt H L d k q (2 * r + L / 2 ^ k % 2)) ∧ (d ≤ 2 * r + L / 2 ^ k % 2 → OverAt H L d k (q + 2 ^ k) (2 * r + L / 2 ^ k % 2 - d)) ∧ (∃ m : Nat, q = m * 2 ^ (k + 1) ∧ q + 2 ^ k < 18446744073709551616) := by
  obtain ⟨⟨q0, e1, e2, e3, e4⟩, r0, r1⟩ := h
  obtain ⟨b, hb⟩ : ∃ b, L / 2 ^ k % 2 = b := ⟨_, rfl⟩
  have hb2 : 0 ≤ b ∧ b ≤ 1 := by omega
  have hp : 2 * (H * 2 ^ (64 - (k + 1)) + L / 2 ^ (k + 1)) + b = H * 2 ^ (64 - k) + L / 2 ^ k := by
    have h1 : (2 : Int) ^ (64 - k) = 2 ^ (64 - (k + 1)) * 2 := by rw [← Int.pow_succ]; congr 1; omega
    have h2 : L / 2 ^ (k + 1) = L / 2 ^ k / 2 := by rw [Int.pow_succ, Int.ediv_ediv_of_nonneg (Int.le_of_lt (Int.pow_pos (by decide)))]
    rw [h1, h2, ← Int.mul_assoc]
    omega
  have hs := div_step hd e2 ⟨r0, r1⟩ hb2
  rw [hp] at hs
  rw [hb]
  have hq : q0 * 2 ^ (k + 1) = 2 * q0 * 2 ^ k := by rw [Int.pow_succ]; rw [← Int.mul_assoc]; rw [Int.mul_comm (q0 * 2 ^ k) 2, Int.mul_assoc]
  have h64 : (2 : Int) ^ (64 - k) = 2 * 2 ^ (64 - (k + 1)) := by rw [show 64 - k = (64 - (k + 1)) + 1 by omega, Int.pow_succ]; omega
  refine ⟨fun h => ⟨⟨2 * q0, by rw [e1, hq], hs.1 h, by omega, by omega⟩, by omega, h⟩, fun h => ⟨⟨2 * q0 + 1, by rw [e1, hq, Int.add_mul]; omega, (hs.2 h).1, by omega, by omega⟩, by omega, (hs.2 h).2⟩, q0.toNat, by rw [e1]; congr 1; omega, ?_⟩
  rw [e1, hq]
  have h5 : (2 * q0 + 1) * 2 ^ k ≤ (2 ^ (64 - k) - 1) * 2 ^ k := Int.mul_le_mul_of_nonneg_right (by omega) (Int.le_of_lt (Int.pow_pos (by decide)))
  have h6 : (2 : Int) ^ (64 - k) * 2 ^ k = 18446744073709551616 := by rw [← Int.pow_add, show 64 - k + k = 64 by omega]; decide
  have h7 : (0 : Int) < 2 ^ k := Int.pow_pos (by decide)
  rw [Int.add_mul, Int.sub_mul, h6] at h5
  omega
theorem or_bit {m k : Nat} (h : m * 2 ^ (k + 1) + 2 ^ k < 18446744073709551616) : bits .or .u64 ((m : Int) * 2 ^ (k + 1)) (2 ^ k) = (m : Int) * 2 ^ (k + 1) + 2 ^ k := by
  have hp := Nat.two_pow_pos k
  have := bits_or_u64_nat (2 ^ (k + 1) * m) (2 ^ k) (by rw [Nat.mul_comm]; omega) (by omega)
  rw [← Nat.two_pow_add_eq_or_of_lt (by rw [Nat.pow_succ]; omega)] at this
  rw [show ((m : Int) * 2 ^ (k + 1)) = ((2 ^ (k + 1) * m : Nat) : Int) by rw [Nat.mul_comm]; simp, show ((2 : Int) ^ k) = ((2 ^ k : Nat) : Int) by simp, this]
  simp
theorem or_one {r b : Int} (hr : 0 ≤ r) (hr1 : r * 2 < 18446744073709551616) (hb : 0 ≤ b ∧ b ≤ 1) : bits .or .u64 (r * 2) b = r * 2 + b := by
  obtain ⟨n, rfl⟩ : ∃ n : Nat, r = n := ⟨r.toNat, by omega⟩
  obtain ⟨m, rfl⟩ : ∃ n : Nat, b = n := ⟨b.toNat, by omega⟩
  have := bits_or_u64_nat (2 ^ 1 * n) m (by omega) (by omega)
  rw [show ((n : Int) * 2) = ((2 ^ 1 * n : Nat) : Int) by omega, this, ← Nat.two_pow_add_eq_or_of_lt (by omega)]
  omega
theorem and_one {x : Int} (h0 : 0 ≤ x) (h1 : x < 18446744073709551616) : bits .and .u64 x 1 = x % 2 := by
  obtain ⟨n, rfl⟩ : ∃ n : Nat, x = n := ⟨x.toNat, by omega⟩
  have := bits_and_u64_nat n 1 (by omega) (by omega)
  rw [show ((1 : Nat) : Int) = 1 from rfl] at this
  rw [this, Nat.and_one_is_mod]
  omega
section
variable {w : World}
set_option maxRecDepth 100000 in
set_option maxHeartbeats 1600000 in
theorem qover_any (H L d : Int) (h0 : 0 ≤ H) (h1 : H < d) (hL : 0 ≤ L ∧ L < 18446744073709551616) (hd : 0 < d ∧ d ≤ 9223372036854775807) :
    Calls Try.prog 100 #[.agg #[.int .u64 H, .int .u64 L], .int .u64 d] w fun e w' => e = .returned (.tuple #[.int .u64 ((H * 18446744073709551616 + L) / d), .int .u64 ((H * 18446744073709551616 + L) % d)]) ∧ Below w.heap.size w w' := by
  have HST := hid (OverAt.start h0 h1 hL)
  have HLB := hid hL
  have HDB := hid hd
  have HQ0 := hid (blk_new w (.cells #[.int .u64 H, .int .u64 L] 136))
  have HB0 := hid (below_new (Below.refl w.heap.size w) (.cells #[.int .u64 H, .int .u64 L] 136))
  clear h0 h1 hL hd
  go_enter Try.func100, Try.ntmps100
  go_upto_region 2 with fail
  generalize w.alloc (.cells #[.int .u64 H, .int .u64 L] 136) = W at *
  have l0 : W.cell? ⟨w.heap.size, 0, none⟩ = some (.int .u64 H) := blk_cell HQ0.out 0
  have l1 : W.cell? ⟨w.heap.size, 1, none⟩ = some (.int .u64 L) := blk_cell HQ0.out 1
  clear HQ0
  go_wp2_with fail
  go_loopw [6, 4, 5] (fun v q r wr => ∃ (k : Nat) (qq rr : Int), k ≤ 64 ∧ v = .int .i64 ((k : Int) - 1) ∧ q = .int .u64 qq ∧ r = .int .u64 rr ∧ Hid (OverAt H L d k qq rr) ∧ wr = W) (fun v _ _ _ => (intOf v + 1).toNat)
  case atStart => exact ⟨64, _, _, by omega, rfl, rfl, rfl, HST, rfl⟩
  case round =>
    obtain ⟨k, qq, rr, hk, rfl, rfl, rfl, HO, rfl⟩ := hrel
    cases k with
    | zero =>
      obtain ⟨e1, e2⟩ := HO.out.last HDB.out.1
      subst e1 e2
      have hn : ((0 : Nat) : Int) - 1 = -1 := rfl
      rw [hn]
      go_wp2_with fail
      go_ret2
      exact ⟨rfl, HB0.out⟩
    | succ k =>
      have hkk : ((k + 1 : Nat) : Int) - 1 = (k : Int) := by omega
      rw [hkk]
      have hr0 := HO.out.r0
      have hr1 := HO.out.r1
      have hst := HO.out.step (by omega) HDB.out.1 (by have := HDB.out; omega) HLB.out.1
      have hlk : 0 ≤ L / 2 ^ k := Int.ediv_nonneg HLB.out.1 (Int.le_of_lt (Int.pow_pos (by decide)))
      have hlk2 : L / 2 ^ k ≤ L := Int.ediv_le_self _ HLB.out.1
      have hb1 := and_one (x := L / 2 ^ k) hlk (by have := HLB.out; omega)
      obtain ⟨b, hb⟩ : ∃ b, L / 2 ^ k % 2 = b := ⟨_, rfl⟩
      rw [hb] at hb1 hst
      have hb2 : 0 ≤ b ∧ b ≤ 1 := by omega
      have hor := or_one (r := rr) (b := b) hr0 (by have := HDB.out; omega) hb2
      have e63 : rr / 9223372036854775808 = 0 := Int.ediv_eq_zero_of_lt hr0 (by have := HDB.out; omega)
      have ew : IntKind.u64.wrap (rr * 2) = rr * 2 := by rw [IntKind.wrap_u64]; have := HDB.out; omega
      obtain ⟨s, hs⟩ : ∃ s, rr * 2 + b = s := ⟨_, rfl⟩
      rw [hs] at hor
      rw [show 2 * rr + b = s by omega] at hst
      obtain ⟨hst1, hst2, m, hm, hmb⟩ := hst
      have hs0 : 0 ≤ s := by omega
      have hs1 : s < 18446744073709551616 := by have := HDB.out; omega
      by_cases hsd : d ≤ s
      case neg =>
        have HN := hid (hst1 (by omega))
        have hsb : decide (d ≤ s) = false := decide_eq_false hsd
        clear hst1 hst2 hm hmb hr0 hr1 hlk hlk2 hb hb2 hs HO
        go_wp2_with fail
        go_roundw
        case rel => exact ⟨k, _, _, by omega, by go_num, rfl, rfl, HN, trivial⟩
        case measure => simp [intOf]
      case pos =>
        have HN := hid (hst2 hsd)
        have hsb : decide (d ≤ s) = true := decide_eq_true hsd
        have hor2 := or_bit (m := m) (k := k) (by have : (qq : Int) + 2 ^ k = ((m * 2 ^ (k + 1) + 2 ^ k : Nat) : Int) := by rw [hm]; simp
                                                  omega)
        rw [← hm] at hor2
        have ew2 : IntKind.u64.wrap (s - d) = s - d := by rw [IntKind.wrap_u64]; have := HDB.out; omega
        have ew3 : IntKind.u64.wrap (2 ^ k) = 2 ^ k := by
          rw [IntKind.wrap_u64]
          have h1 : (0 : Int) < 2 ^ k := Int.pow_pos (by decide)
          have h2 : 0 ≤ qq := by rw [hm]; exact Int.mul_nonneg (by omega) (Int.le_of_lt (Int.pow_pos (by decide)))
          exact Int.emod_eq_of_lt (Int.le_of_lt h1) (by omega)
        clear hst1 hst2 hm hmb hr0 hr1 hlk hlk2 hb hb2 hs HO
        go_wp2_with fail
        go_roundw
        case rel => exact ⟨k, _, _, by omega, by go_num, rfl, rfl, HN, trivial⟩
        case measure => simp [intOf]
/-- a * 2^32 / c, rounded up. -/
theorem muldiv_up {a c H L : Int} (ha : 0 ≤ a ∧ a ≤ 1099511627776) (hc : 1 ≤ c ∧ c ≤ 9223372036854775807) (hH : a * 4294967296 / 18446744073709551616 = H) (hL : a * 4294967296 % 18446744073709551616 = L) :
    (c ≤ H → capI (cdiv (a * 4294967296) c) = none) ∧ (H < c → ∃ q r, (H * 18446744073709551616 + L) / c = q ∧ (H * 18446744073709551616 + L) % c = r ∧ 0 ≤ q ∧ q < 18446744073709551615 ∧ 0 ≤ r ∧ (0 < r → cdiv (a * 4294967296) c = q + 1) ∧ (r = 0 → cdiv (a * 4294967296) c = q)) := by
  have e : H * 18446744073709551616 + L = a * 4294967296 := by omega
  have h1 := cdiv_rest (a := a * 4294967296) (b := c) (by omega) hc.1
  rw [e]
  obtain ⟨q, hq⟩ : ∃ q, a * 4294967296 / c = q := ⟨_, rfl⟩
  obtain ⟨r, hr⟩ : ∃ r, a * 4294967296 % c = r := ⟨_, rfl⟩
  have h2 := Int.mul_ediv_add_emod (a * 4294967296) c
  have h3 := Int.emod_nonneg (a * 4294967296) (show c ≠ 0 by omega)
  have h4 := Int.emod_lt_of_pos (a * 4294967296) (show 0 < c by omega)
  rw [hq, hr] at h1 h2
  rw [hr] at h3 h4
  have hq0 : 0 ≤ q := by rw [← hq]; exact Int.ediv_nonneg (by omega) (by omega)
  constructor
  · intro h
    have hq1 : 18446744073709551616 ≤ q := by
      rw [← hq]
      exact (Int.le_ediv_iff_mul_le (by omega)).2 (by omega)
    unfold capI
    rw [h1, if_neg (by split <;> omega)]
  · intro h
    refine ⟨q, r, hq, hr, hq0, ?_, h3, fun h => by rw [h1, if_pos h], fun h => by rw [h1, if_neg (by omega)]⟩
    have h5 : q < 18446744073709551616 := by rw [← hq]; exact Int.ediv_lt_of_lt_mul (by omega) (by omega)
    by_cases e2 : q = 18446744073709551615
    · exfalso
      subst e2
      omega
    · omega
set_option maxRecDepth 100000 in
set_option maxHeartbeats 1600000 in
theorem qmuldiv_any (a c : Int) (ha : 0 ≤ a ∧ a ≤ 1099511627776) (hc : 1 ≤ c ∧ c ≤ 9223372036854775807) :
    Calls Try.prog 93 #[.int .i64 a, .int .i64 4294967296, .int .i64 c, .bool true] w fun e w' => e = .returned (okV (capI (cdiv (a * 4294967296) c))) ∧ Below w.heap.size w w' := by
  have HT := hid (fun W => qtimes_any (w := W) a 4294967296 (by omega) (by omega))
  obtain ⟨H, hH⟩ : ∃ H, a * 4294967296 / 18446744073709551616 = H := ⟨_, rfl⟩
  obtain ⟨L, hL⟩ : ∃ L, a * 4294967296 % 18446744073709551616 = L := ⟨_, rfl⟩
  have hmd := muldiv_up ha hc hH hL
  rw [hH, hL] at HT
  have HOV := hid (fun W (h : H < c) => qover_any (w := W) H L c (by omega) h (by omega) (by omega))
  obtain ⟨Z, hZ⟩ : ∃ Z, cdiv (a * 4294967296) c = Z := ⟨_, rfl⟩
  rw [hZ] at hmd ⊢
  have e1 : IntKind.u64.wrap a = a := by rw [IntKind.wrap_u64]; omega
  have e2 : IntKind.u64.wrap c = c := by rw [IntKind.wrap_u64]; omega
  clear hZ hH hL
  go_enter Try.func93, Try.ntmps93
  go_wp2_with fail
  refine (HT.out _).mono ?_
  rintro e W1 ⟨rfl, hb1⟩
  have HB1 := hid hb1
  have hb2 := below_new hb1 (.cells #[.int .u64 H, .int .u64 L] 136)
  have HB2 := hid hb2
  clear hb1 hb2 HT
  by_cases hcH : c ≤ H
  case pos =>
    have HC := hid (hmd.1 hcH)
    clear hmd HOV
    go_wp2_with fail
    go_ret2
    exact ⟨by rw [HC.out]; rfl, HB2.out⟩
  case neg =>
    obtain ⟨q, r, hq, hr, q0, q1, r0, hm1, hm2⟩ := hmd.2 (by omega)
    have HO := hid (fun W => HOV.out W (by omega))
    rw [hq, hr] at HO
    clear hmd HOV hq hr
    have hq0 := blk_new W1 (.cells #[.int .u64 H, .int .u64 L] 136)
    have l0 : (W1.alloc (.cells #[.int .u64 H, .int .u64 L] 136)).cell? ⟨W1.heap.size, 0, none⟩ = some (.int .u64 H) := blk_cell hq0 0
    have l1 : (W1.alloc (.cells #[.int .u64 H, .int .u64 L] 136)).cell? ⟨W1.heap.size, 1, none⟩ = some (.int .u64 L) := blk_cell hq0 1
    clear hq0
    have HM1 := hid hm1
    have HM2 := hid hm2
    clear hm1 hm2
    go_wp2_with fail
    refine (HO.out _).mono ?_
    rintro e W2 ⟨rfl, hb2⟩
    have HB3 := hid (below_then HB2.out hb2)
    clear hb2 l0 l1 HO
    by_cases hr0 : 0 < r
    case pos =>
      have hZ := HM1.out hr0
      subst hZ
      have ew : IntKind.u64.wrap (q + 1) = q + 1 := by rw [IntKind.wrap_u64]; omega
      by_cases hm : q + 1 ≤ 9223372036854775807
      case pos =>
        have HC := hid (show capI (q + 1) = some (q + 1) by unfold capI; rw [if_pos hm])
        go_wp2_with fail
        go_ret2
        exact ⟨by rw [HC.out]; rfl, HB3.out⟩
      case neg =>
        have HC := hid (show capI (q + 1) = none by unfold capI; rw [if_neg hm])
        go_wp2_with fail
        go_ret2
        exact ⟨by rw [HC.out]; rfl, HB3.out⟩
    case neg =>
      have hZ := HM2.out (by omega)
      subst hZ
      by_cases hm : Z ≤ 9223372036854775807
      case pos =>
        have HC := hid (show capI Z = some Z by unfold capI; rw [if_pos hm])
        go_wp2_with fail
        go_ret2
        exact ⟨by rw [HC.out]; rfl, HB3.out⟩
      case neg =>
        have HC := hid (show capI Z = none by unfold capI; rw [if_neg hm])
        go_wp2_with fail
        go_ret2
        exact ⟨by rw [HC.out]; rfl, HB3.out⟩
end
end Go.Proofs.Ytppildaahmlfmaa
/- Package qarith: Load (contract). -/
set_option linter.unusedVariables false
set_option linter.unusedSimpArgs false
namespace Go.Proofs.Ytppildaahmlfmaa
open Go.RowKit

/-- How much of a core is used, of pairs of work and time. -/
def loadV : List (Int × Int) → Int
  | [] => 0
  | x :: l => cdiv (x.1 * 4294967296) x.2 + loadV l
theorem loadV_snoc (l : List (Int × Int)) (x : Int × Int) : loadV (l ++ [x]) = loadV l + cdiv (x.1 * 4294967296) x.2 := by
  induction l with
  | nil => simp [loadV]
  | cons y l ih => simp only [List.cons_append, loadV, ih]; omega
theorem loadV_nonneg {l : List (Int × Int)} (h : ∀ u ∈ l, 0 ≤ u.1 ∧ 1 ≤ u.2) : 0 ≤ loadV l := by
  induction l with
  | nil => simp [loadV]
  | cons y l ih =>
    have h1 := ih (fun u hu => h u (by simp [hu]))
    have h2 := h y (by simp)
    have h3 := cdiv_nonneg (a := y.1 * 4294967296) (b := y.2) (by omega) h2.2
    simp only [loadV]
    omega
theorem capI_some {x : Int} (h : x ≤ 9223372036854775807) : capI x = some x := if_pos h
theorem capI_none {x : Int} (h : ¬ x ≤ 9223372036854775807) : capI x = none := if_neg h
structure LoadAt (x : Int) (s e : Int) : Prop where
  ok : e = 0 → s = x ∧ x ≤ 9223372036854775807
  no : e ≠ 0 → e = 2 ∧ 9223372036854775807 < x
section
variable {w : World}
set_option maxRecDepth 100000 in
set_option maxHeartbeats 1600000 in
theorem qload_any (Z : List (Int × Int)) (A1 : Option Addr) (n c1 : Nat) (A2 : Option Addr) (m c2 : Nat) (h1 : Rowp 1 IntR w (.slice A1 n c1) (Z.map (·.1))) (h2 : Rowp 1 IntR w (.slice A2 m c2) (Z.map (·.2)))
    (hz : ∀ x ∈ Z, 0 ≤ x.1 ∧ x.1 ≤ 1099511627776 ∧ 1 ≤ x.2 ∧ x.2 ≤ 1099511627776) :
    Calls Try.prog 85 #[.slice A1 n c1, .slice A2 m c2] w fun e w' => e = .returned (okV (capI (loadV Z))) ∧ Below w.heap.size w w' := by
  have hn := h1.len
  have hm := h2.len
  rw [List.length_map] at hn hm
  obtain rfl : m = n := by omega
  have hnm : m ≤ 9223372036854775807 := by have := h1.room; unfold maxLen at this; omega
  have HN := hid hn
  have HH1 := hid h1.holds
  have HH2 := hid h2.holds
  have HR1 := hid h1
  have HR2 := hid h2
  have HZ := hid hz
  have HMD := hid (fun W a c ha hc => qmuldiv_any (w := W) a c ha hc)
  have HAD := hid (fun W a b ha hb => qadd_any (w := W) a b ha hb)
  clear h1 h2 hn hm hz
  go_enter Try.func85, Try.ntmps85
  go_wp2_with fail
  go_loopw [19, 6, 7] (fun v s e wr => ∃ (k : Nat) (ss ee : Int), k ≤ m ∧ v = .int .i64 k ∧ s = .int .i64 ss ∧ e = .int .i64 ee ∧ Hid (LoadAt (loadV (Z.take k)) ss ee) ∧ Hid (Below w.heap.size w wr)) (fun v _ _ _ => m - (intOf v).toNat)
  case atStart => exact ⟨0, 0, 0, by omega, rfl, rfl, rfl, ⟨fun _ => ⟨rfl, by simp [loadV]⟩, fun h => absurd rfl h⟩, hid (Below.refl _ _)⟩
  case round =>
    obtain ⟨k, ss, ee, hk, rfl, rfl, rfl, HL, HB⟩ := hrel
    by_cases hlt : k < m
    case neg =>
      obtain rfl : k = m := by omega
      rw [HN.out, List.take_length] at HL
      by_cases he : ee = 0
      case pos =>
        subst he
        have h1 := HL.out.ok rfl
        have HC := hid (show capI (loadV Z) = some ss by rw [h1.1, capI_some h1.2])
        clear h1
        go_wp2_with fail
        go_ret2
        exact ⟨by rw [HC.out]; rfl, HB.out⟩
      case neg =>
        have h1 := HL.out.no he
        obtain ⟨rfl, h2⟩ := h1
        have HC := hid (show capI (loadV Z) = none by rw [capI_none (by omega)])
        clear h2 he
        go_wp2_with fail
        go_ret2
        exact ⟨by rw [HC.out]; rfl, HB.out⟩
    case pos =>
      obtain ⟨x, hx⟩ : ∃ x, Z[k]? = some x := ⟨_, List.getElem?_eq_getElem (by have := HN.out; omega)⟩
      have hxo := HZ.out x (List.mem_of_getElem? hx)
      obtain ⟨b1, o1, cs1, hA1, hbl1, _, hc1, hr1⟩ := HR1.out.at (i := k) (x := x.1) (by rw [List.getElem?_map, hx]; rfl)
      obtain ⟨b2, o2, cs2, hA2, hbl2, _, hc2, hr2⟩ := HR2.out.at (i := k) (x := x.2) (by rw [List.getElem?_map, hx]; rfl)
      subst hA1 hA2
      have hr1' : cs1 = [.int .i64 x.1] := hr1
      have hr2' : cs2 = [.int .i64 x.2] := hr2
      subst hr1' hr2'
      have HSN := hid (show loadV (Z.take (k + 1)) = loadV (Z.take k) + cdiv (x.1 * 4294967296) x.2 by rw [take_next hx, loadV_snoc])
      obtain ⟨xw, xt⟩ := x
      simp only at hxo HSN hc1 hc2
      have e1 : wr.cell? ⟨b1, o1 + k, none⟩ = some (.int .i64 xw) := (HB.out.cell (p := ⟨b1, o1 + k, none⟩) hbl1).trans (by simpa using hc1 0 _ rfl)
      have e2 : wr.cell? ⟨b2, o2 + k, none⟩ = some (.int .i64 xt) := (HB.out.cell (p := ⟨b2, o2 + k, none⟩) hbl2).trans (by simpa using hc2 0 _ rfl)
      have HM := hid (HMD.out wr xw xt ⟨hxo.1, hxo.2.1⟩ ⟨hxo.2.2.1, by omega⟩)
      have hc0 := cdiv_nonneg (a := xw * 4294967296) (b := xt) (by omega) hxo.2.2.1
      have f1 : decide (xw < 0) = false := decide_eq_false (by omega)
      have f2 : decide (xt ≤ 0) = false := decide_eq_false (by omega)
      obtain ⟨y, hy⟩ : ∃ y, cdiv (xw * 4294967296) xt = y := ⟨_, rfl⟩
      rw [hy] at HSN HM hc0
      have hX0 := loadV_nonneg (l := Z.take k) (fun u hu => by have := HZ.out u (List.mem_of_mem_take hu); omega)
      obtain ⟨X, hX⟩ : ∃ X, loadV (Z.take k) = X := ⟨_, rfl⟩
      rw [hX] at HSN HL hX0
      have hx0 : xw ≥ 0 := hxo.1
      have hx1 : 0 < xt := by omega
      clear hx hxo hr1 hr2 hc1 hc2 hbl1 hbl2 hy hX
      go_wp2_with fail
      refine HM.out.mono ?_
      rintro e W1 ⟨rfl, hb1⟩
      have HB1 := hid (below_then HB.out hb1)
      clear hb1 e1 e2 HM HB
      by_cases hym : y ≤ 9223372036854775807
      case neg =>
        rw [capI_none hym]
        have HN2 := hid (show LoadAt (loadV (Z.take (k + 1))) ss 2 from ⟨fun h => (by cases h), fun _ => ⟨rfl, by
          rw [HSN.out]
          omega⟩⟩)
        unfold okV
        go_wp2_with fail
        go_roundw
        case rel => exact ⟨k + 1, _, _, by omega, by go_num, rfl, rfl, HN2, HB1⟩
        case measure => simp [intOf]; omega
      case pos =>
        rw [capI_some hym]
        unfold okV
        by_cases he : ee = 0
        case neg =>
          obtain ⟨rfl, h2⟩ := HL.out.no he
          have HN2 := hid (show LoadAt (loadV (Z.take (k + 1))) ss 2 from ⟨fun h => (by cases h), fun _ => ⟨rfl, by rw [HSN.out]; omega⟩⟩)
          clear h2 he
          go_wp2_with fail
          go_roundw
          case rel => exact ⟨k + 1, _, _, by omega, by go_num, rfl, rfl, HN2, HB1⟩
          case measure => simp [intOf]; omega
        case pos =>
          subst he
          obtain ⟨rfl, h2⟩ := HL.out.ok rfl
          have hs0 : 0 ≤ ss := hX0
          have HA := hid (HAD.out W1 ss y ⟨hs0, h2⟩ ⟨hc0, hym⟩)
          obtain ⟨z, hz⟩ : ∃ z, ss + y = z := ⟨_, rfl⟩
          rw [hz] at HA HSN
          clear hz
          by_cases hzm : z ≤ 9223372036854775807
          case pos =>
            rw [capI_some hzm] at HA
            unfold okV at HA
            have HN2 := hid (show LoadAt (loadV (Z.take (k + 1))) z 0 from ⟨fun h => ⟨HSN.out.symm, by rw [HSN.out]; exact hzm⟩, fun h => absurd rfl h⟩)
            go_wp2_with fail
            refine HA.out.mono ?_
            rintro e W2 ⟨rfl, rfl⟩
            go_wp2_with fail
            go_roundw
            case rel => exact ⟨k + 1, _, _, by omega, by go_num, rfl, rfl, HN2, HB1⟩
            case measure => simp [intOf]; omega
          case neg =>
            rw [capI_none hzm] at HA
            unfold okV at HA
            have HN2 := hid (show LoadAt (loadV (Z.take (k + 1))) 0 2 from ⟨fun h => (by cases h), fun _ => ⟨rfl, by rw [HSN.out]; omega⟩⟩)
            go_wp2_with fail
            refine HA.out.mono ?_
            rintro e W2 ⟨rfl, rfl⟩
            go_wp2_with fail
            go_roundw
            case rel => exact ⟨k + 1, _, _, by omega, by go_num, rfl, rfl, HN2, HB1⟩
            case measure => simp [intOf]; omega
end
end Go.Proofs.Ytppildaahmlfmaa
/- Package response: time, loads, right (contracts). -/
set_option linter.unusedVariables false
set_option linter.unusedSimpArgs false
namespace Go.Proofs.Ytppildaahmlfmaa
open Go.RowKit

def ldV (x : Ld) : Value := .agg #[.int .i64 x.work, .int .i64 x.per, .int .i64 x.jit]
def ldR : Reads Ld := fun _ cs x => cs = [.int .i64 x.work, .int .i64 x.per, .int .i64 x.jit]
theorem ldR.stays : Stays ldR := fun _ _ _ _ _ h => h
theorem all_take {α : Type} {p : α → Bool} {l : List α} {k : Nat} {x : α} (hx : l[k]? = some x) : (l.take (k + 1)).all p = ((l.take k).all p && p x) := by
  rw [take_next hx, List.all_append]; simp
theorem all_no {α : Type} {p : α → Bool} {l : List α} {k : Nat} {x : α} (hx : l[k]? = some x) (h : p x = false) : l.all p = false := by
  rw [List.all_eq_false]
  exact ⟨x, List.mem_of_getElem? hx, by rw [h]; simp⟩
section
variable {w : World}
set_option maxRecDepth 100000 in
theorem time1_any (n : Int) : Calls Try.prog 95 #[.int .i64 n] w fun e w' => e = .returned (.bool (!timeB n)) ∧ w' = w := by
  go_enter Try.func95, Try.ntmps95
  by_cases h0 : n < 0
  case pos =>
    have HB := hid (show timeB n = false from decide_eq_false (by omega))
    have h0b : decide (n < 0) = true := decide_eq_true h0
    go_wp2_with fail
    go_ret
    exact ⟨by rw [HB.out]; rfl, rfl⟩
  case neg =>
    have h0b : decide (n < 0) = false := decide_eq_false h0
    by_cases h1 : 1099511627776 < n
    case pos =>
      have HB := hid (show timeB n = false from decide_eq_false (by omega))
      have h1b : decide (1099511627776 < n) = true := decide_eq_true h1
      go_wp2_with fail
      go_ret
      exact ⟨by rw [HB.out]; rfl, rfl⟩
    case neg =>
      have HB := hid (show timeB n = true from decide_eq_true (by omega))
      have h1b : decide (1099511627776 < n) = false := decide_eq_false h1
      go_wp2_with fail
      go_ret
      exact ⟨by rw [HB.out]; rfl, rfl⟩
set_option maxRecDepth 100000 in
theorem idxint_any (l : List Int) (A : Option Addr) (n cap : Nat) (hl : Rowp 1 IntR w (.slice A n cap) l) :
    Calls Try.prog 101 #[.slice A n cap, .func (.func 95) #[] #[]] w fun e w' => ∃ r, e = .returned (.int .i64 r) ∧ decide (0 ≤ r) = !(l.all timeB) ∧ Below w.heap.size w w' := by
  have hn := hl.len
  have hnm : n ≤ 9223372036854775807 := by have := hl.room; unfold maxLen at this; omega
  have HN := hid hn
  have HL := hid hl
  have HT := hid (fun W n => time1_any (w := W) n)
  clear hl hn
  go_enter Try.func101, Try.ntmps101
  go_wp2_with fail
  go_loopw [8] (fun v wr => ∃ k : Nat, k ≤ n ∧ v = .int .i64 k ∧ Hid (Below w.heap.size w wr) ∧ Hid ((l.take k).all timeB = true)) (fun v _ => n - (intOf v).toNat)
  case atStart => exact ⟨0, by omega, rfl, hid (Below.refl _ _), rfl⟩
  case round =>
    obtain ⟨k, hk, rfl, HB, HF⟩ := hrel
    by_cases hlt : k < n
    case pos =>
      obtain ⟨x, hx⟩ : ∃ x, l[k]? = some x := ⟨_, List.getElem?_eq_getElem (by have := HN.out; omega)⟩
      obtain ⟨b, o, cs, hA, hbl, _, hc, hr⟩ := HL.out.at hx
      subst hA
      have hr' : cs = [.int .i64 x] := hr
      subst hr'
      have HX := hid hx
      have e0 : wr.cell? ⟨b, o + k, none⟩ = some (.int .i64 x) := (HB.out.cell (p := ⟨b, o + k, none⟩) hbl).trans (by simpa using hc 0 _ rfl)
      clear hx hbl hc hr
      obtain ⟨v, hv⟩ : ∃ v, timeB x = v := ⟨_, rfl⟩
      have HV := hid hv
      have HE := hid (HT.out wr x)
      rw [hv] at HE
      clear hv
      go_wp2_with fail
      refine HE.out.mono ?_
      rintro e w1 ⟨rfl, rfl⟩
      clear e0
      cases v
      case false =>
        have HA := hid (all_no HX.out HV.out)
        go_wp2_with fail
        go_ret
        exact ⟨_, rfl, by rw [HA.out]; exact decide_eq_true (by omega), HB.out⟩
      case true =>
        have HF2 := hid (show (l.take (k + 1)).all timeB = true by rw [all_take HX.out, HF.out, HV.out]; rfl)
        go_wp2_with fail
        go_roundw
        case rel => exact ⟨k + 1, by omega, by go_num, HB, HF2⟩
        case measure => simp [intOf]; omega
    case neg =>
      obtain rfl : k = n := by omega
      rw [HN.out, List.take_length] at HF
      go_wp2_with fail
      go_ret
      exact ⟨_, rfl, by rw [HF.out]; rfl, HB.out⟩
set_option maxRecDepth 100000 in
theorem hasint_any (l : List Int) (A : Option Addr) (n cap : Nat) (hl : Rowp 1 IntR w (.slice A n cap) l) :
    Calls Try.prog 94 #[.slice A n cap, .func (.func 95) #[] #[]] w fun e w' => e = .returned (.bool (!(l.all timeB))) ∧ Below w.heap.size w w' := by
  have HI := hid (idxint_any (w := w) l A n cap hl)
  clear hl
  obtain ⟨v, hv⟩ : ∃ v, (!(l.all timeB)) = v := ⟨_, rfl⟩
  rw [hv] at HI ⊢
  clear hv
  go_enter Try.func94, Try.ntmps94
  go_wp2_with fail
  refine HI.out.mono ?_
  rintro e w1 ⟨r, rfl, hd, hb⟩
  have HB := hid hb
  clear hb
  go_wp2_with fail
  go_ret
  exact ⟨rfl, HB.out⟩
set_option maxRecDepth 100000 in
theorem time_any (l : List Int) (A : Option Addr) (n cap : Nat) (hl : Rowp 1 IntR w (.slice A n cap) l) :
    Calls Try.prog 89 #[.slice A n cap] w fun e w' => e = .returned (.bool (l.all timeB)) ∧ Below w.heap.size w w' := by
  have HI := hid (hasint_any (w := w) l A n cap hl)
  clear hl
  obtain ⟨v, hv⟩ : ∃ v, l.all timeB = v := ⟨_, rfl⟩
  rw [hv] at HI ⊢
  clear hv
  go_enter Try.func89, Try.ntmps89
  go_wp2_with fail
  refine HI.out.mono ?_
  rintro e w1 ⟨rfl, hb⟩
  have HB := hid hb
  clear hb
  go_wp2_with fail
  go_ret
  exact ⟨by cases v <;> rfl, HB.out⟩
/-- A slice of three numbers, just laid. -/
theorem three_row {W : World} {D : Nat} {a b c : Int} (h : W.heap[D]? = some (.cells #[.int .i64 a, .int .i64 b, .int .i64 c] 3 (0, 0))) : Rowp 1 IntR W (.slice (some ⟨D, 0, none⟩) 3 3) [a, b, c] :=
  ⟨_, 3, rfl, by simp, by unfold maxLen; omega, fun i x hx => ⟨D, 0, [.int .i64 x], rfl, blk_lt h, rfl, fun j v hj => by
    have hj0 : j = 0 := by
      cases j with
      | zero => rfl
      | succ j => simp at hj
    subst hj0
    have hv : Value.int .i64 x = v := by simpa using hj
    rw [← hv, show (0 + i * 1 + 0) = i by omega, blk_cell h i]
    match i, hx with
    | 0, hx => simp at hx; subst hx; rfl
    | 1, hx => simp at hx; subst hx; rfl
    | 2, hx => simp at hx; subst hx; rfl
    | i + 3, hx => simp at hx, rfl⟩⟩
set_option maxRecDepth 100000 in
theorem loads1_any (x : Ld) : Calls Try.prog 97 #[ldV x] w fun e w' => e = .returned (.bool (!ldB x)) ∧ Below w.heap.size w w' := by
  obtain ⟨a, b, c⟩ := x
  unfold ldV
  simp only
  have hb0 := below_new (Below.refl w.heap.size w) (.cells #[.int .i64 a, .int .i64 b, .int .i64 c] 118)
  have hq0 := blk_old (blk_new w (.cells #[.int .i64 a, .int .i64 b, .int .i64 c] 118)) (.cells #[.int .i64 a, .int .i64 b, .int .i64 c] 3)
  have hb1 := below_new hb0 (.cells #[.int .i64 a, .int .i64 b, .int .i64 c] 3)
  have hq1 := blk_new (w.alloc (.cells #[.int .i64 a, .int .i64 b, .int .i64 c] 118)) (.cells #[.int .i64 a, .int .i64 b, .int .i64 c] 3)
  rw [show ∀ o, (w.alloc o).heap.size = w.heap.size + 1 from fun o => by simp] at hq1
  have HT := hid (time_any [a, b, c] _ 3 3 (three_row hq1))
  have HB1 := hid hb1
  have HQ0 := hid hq0
  clear hb0 hb1 hq0 hq1
  obtain ⟨v, hv⟩ : ∃ v, [a, b, c].all timeB = v := ⟨_, rfl⟩
  rw [hv] at HT
  have HE := hid (show ldB ⟨a, b, c⟩ = (v && !decide (b = 0)) by rw [← hv]; unfold ldB; simp [Bool.and_assoc])
  clear hv
  go_enter Try.func97, Try.ntmps97
  go_wp2_with fail
  refine HT.out.mono ?_
  rintro e w1 ⟨rfl, hb⟩
  have HB := hid (below_then HB1.out hb)
  have hq := (fr0 hb).blk HQ0.out (fun h => h)
  have l1 : w1.cell? ⟨w.heap.size, 1, none⟩ = some (.int .i64 b) := blk_cell hq 1
  clear hb hq HQ0 HB1 HT
  cases v
  case false =>
    go_wp2_with fail
    go_ret
    exact ⟨by rw [HE.out]; rfl, HB.out⟩
  case true =>
    by_cases h0 : b = 0
    case pos =>
      have h0b : (b == 0) = true := beq_iff_eq.2 h0
      have HE2 := hid (show ldB ⟨a, b, c⟩ = false by rw [HE.out, decide_eq_true h0]; rfl)
      clear h0
      go_wp2_with fail
      go_ret
      exact ⟨by rw [HE2.out]; rfl, HB.out⟩
    case neg =>
      have h0b : (b == 0) = false := beq_eq_false_iff_ne.2 h0
      have HE2 := hid (show ldB ⟨a, b, c⟩ = true by rw [HE.out, decide_eq_false h0]; rfl)
      clear h0
      go_wp2_with fail
      go_ret
      exact ⟨by rw [HE2.out]; rfl, HB.out⟩
set_option maxRecDepth 100000 in
set_option maxHeartbeats 1600000 in
theorem idxld_any (l : List Ld) (A : Option Addr) (n cap : Nat) (hl : Rowp 3 ldR w (.slice A n cap) l) :
    Calls Try.prog 102 #[.slice A n cap, .func (.func 97) #[] #[]] w fun e w' => ∃ r, e = .returned (.int .i64 r) ∧ decide (0 ≤ r) = !(l.all ldB) ∧ Below w.heap.size w w' := by
  have hn := hl.len
  have hnm : n ≤ 9223372036854775807 := by have := hl.room; unfold maxLen at this; omega
  have HN := hid hn
  have HL := hid hl
  have HT := hid (fun W x => loads1_any (w := W) x)
  clear hl hn
  go_enter Try.func102, Try.ntmps102
  go_wp2_with fail
  go_loopw [8] (fun v wr => ∃ k : Nat, k ≤ n ∧ v = .int .i64 k ∧ Hid (Below w.heap.size w wr) ∧ Hid ((l.take k).all ldB = true)) (fun v _ => n - (intOf v).toNat)
  case atStart => exact ⟨0, by omega, rfl, hid (Below.refl _ _), rfl⟩
  case round =>
    obtain ⟨k, hk, rfl, HB, HF⟩ := hrel
    by_cases hlt : k < n
    case pos =>
      obtain ⟨x, hx⟩ : ∃ x, l[k]? = some x := ⟨_, List.getElem?_eq_getElem (by have := HN.out; omega)⟩
      obtain ⟨b, o, cs, hA, hbl, _, hc, hr⟩ := HL.out.at hx
      subst hA
      have hr' : cs = [.int .i64 x.work, .int .i64 x.per, .int .i64 x.jit] := hr
      subst hr'
      have HX := hid hx
      obtain ⟨v, hv⟩ : ∃ v, ldB x = v := ⟨_, rfl⟩
      have HV := hid hv
      have HE := hid (HT.out wr x)
      rw [hv] at HE
      obtain ⟨xa, xb, xc⟩ := x
      unfold ldV at HE
      simp only at hc HE
      have e0 : wr.cell? ⟨b, o + k * 3, none⟩ = some (.int .i64 xa) := (HB.out.cell (p := ⟨b, o + k * 3, none⟩) hbl).trans (by simpa using hc 0 _ rfl)
      have e1 : wr.cell? ⟨b, o + k * 3 + 1, none⟩ = some (.int .i64 xb) := (HB.out.cell (p := ⟨b, o + k * 3 + 1, none⟩) hbl).trans (hc 1 _ rfl)
      have e2 : wr.cell? ⟨b, o + k * 3 + 2, none⟩ = some (.int .i64 xc) := (HB.out.cell (p := ⟨b, o + k * 3 + 2, none⟩) hbl).trans (hc 2 _ rfl)
      clear hx hbl hc hr hv
      go_wp2_with fail
      refine HE.out.mono ?_
      rintro e w1 ⟨rfl, hb1⟩
      have HB1 := hid (below_then HB.out hb1)
      clear e0 e1 e2 hb1
      cases v
      case false =>
        have HA := hid (all_no HX.out HV.out)
        go_wp2_with fail
        go_ret
        exact ⟨_, rfl, by rw [HA.out]; exact decide_eq_true (by omega), HB1.out⟩
      case true =>
        have HF2 := hid (show (l.take (k + 1)).all ldB = true by rw [all_take HX.out, HF.out, HV.out]; rfl)
        go_wp2_with fail
        go_roundw
        case rel => exact ⟨k + 1, by omega, by go_num, HB1, HF2⟩
        case measure => simp [intOf]; omega
    case neg =>
      obtain rfl : k = n := by omega
      rw [HN.out, List.take_length] at HF
      go_wp2_with fail
      go_ret
      exact ⟨_, rfl, by rw [HF.out]; rfl, HB.out⟩
set_option maxRecDepth 100000 in
theorem hasld_any (l : List Ld) (A : Option Addr) (n cap : Nat) (hl : Rowp 3 ldR w (.slice A n cap) l) :
    Calls Try.prog 96 #[.slice A n cap, .func (.func 97) #[] #[]] w fun e w' => e = .returned (.bool (!(l.all ldB))) ∧ Below w.heap.size w w' := by
  have HI := hid (idxld_any (w := w) l A n cap hl)
  clear hl
  obtain ⟨v, hv⟩ : ∃ v, (!(l.all ldB)) = v := ⟨_, rfl⟩
  rw [hv] at HI ⊢
  clear hv
  go_enter Try.func96, Try.ntmps96
  go_wp2_with fail
  refine HI.out.mono ?_
  rintro e w1 ⟨r, rfl, hd, hb⟩
  have HB := hid hb
  clear hb
  go_wp2_with fail
  go_ret
  exact ⟨rfl, HB.out⟩
set_option maxRecDepth 100000 in
theorem loads_any (l : List Ld) (A : Option Addr) (n cap : Nat) (hl : Rowp 3 ldR w (.slice A n cap) l) :
    Calls Try.prog 90 #[.slice A n cap] w fun e w' => e = .returned (.bool (ldsB l)) ∧ Below w.heap.size w w' := by
  have HI := hid (hasld_any (w := w) l A n cap hl)
  have hn := hl.len
  have HU := hid (show ldsB l = (decide (n ≤ 72) && l.all ldB) by unfold ldsB; rw [hn])
  have hnm : n ≤ 9223372036854775807 := by have := hl.room; unfold maxLen at this; omega
  clear hl hn
  obtain ⟨v, hv⟩ : ∃ v, l.all ldB = v := ⟨_, rfl⟩
  rw [hv] at HI HU
  clear hv
  go_enter Try.func90, Try.ntmps90
  by_cases h0 : n ≤ 72
  case pos =>
    have h0b : decide ((n : Int) ≤ 72) = true := decide_eq_true (by omega)
    have h0c : (n : Int) ≤ 72 := by omega
    have HU2 := hid (show ldsB l = v by rw [HU.out, decide_eq_true h0]; rfl)
    go_wp2_with fail
    refine HI.out.mono ?_
    rintro e w1 ⟨rfl, hb⟩
    have HB := hid hb
    clear hb
    go_wp2_with fail
    go_ret
    exact ⟨by rw [HU2.out]; cases v <;> rfl, HB.out⟩
  case neg =>
    have h0b : decide ((n : Int) ≤ 72) = false := decide_eq_false (by omega)
    have HU2 := hid (show ldsB l = false by rw [HU.out, decide_eq_false h0]; rfl)
    have HB := hid (Below.refl w.heap.size w)
    go_wp2_with fail
    go_ret
    exact ⟨by rw [HU2.out]; rfl, HB.out⟩
set_option maxRecDepth 100000 in
set_option maxHeartbeats 1600000 in
theorem bright_any (own block rel : Int) (above all : List Ld) (A1 : Option Addr) (n1 c1 : Nat) (A2 : Option Addr) (n2 c2 : Nat) (h1 : Rowp 3 ldR w (.slice A1 n1 c1) above) (h2 : Rowp 3 ldR w (.slice A2 n2 c2) all) :
    Calls Try.prog 79 #[.int .i64 own, .int .i64 block, .int .i64 rel, .slice A1 n1 c1, .slice A2 n2 c2] w fun e w' => e = .returned (.bool (bndRightB own block rel above all)) ∧ Below w.heap.size w w' := by
  have hb0 := below_new (Below.refl w.heap.size w) (.cells #[.int .i64 own, .int .i64 block, .int .i64 rel] 3)
  have HT := hid (time_any [own, block, rel] _ 3 3 (three_row (blk_new w (.cells #[.int .i64 own, .int .i64 block, .int .i64 rel] 3))))
  have HL1 := hid (fun W (h : Below w.heap.size w W) => loads_any (w := W) above A1 n1 c1 (h1.later ldR.stays h))
  have HL2 := hid (fun W (h : Below w.heap.size w W) => loads_any (w := W) all A2 n2 c2 (h2.later ldR.stays h))
  have HB0 := hid hb0
  have HU := hid (show bndRightB own block rel above all = ([own, block, rel].all timeB && ldsB above && ldsB all) by unfold bndRightB; simp [Bool.and_assoc])
  clear hb0 h1 h2
  obtain ⟨u, hu⟩ : ∃ v, [own, block, rel].all timeB = v := ⟨_, rfl⟩
  obtain ⟨v1, hv1⟩ : ∃ v, ldsB above = v := ⟨_, rfl⟩
  obtain ⟨v2, hv2⟩ : ∃ v, ldsB all = v := ⟨_, rfl⟩
  rw [hu] at HT HU
  rw [hv1] at HL1 HU
  rw [hv2] at HL2 HU
  rw [HU.out]
  clear hu hv1 hv2 HU
  go_enter Try.func79, Try.ntmps79
  go_wp2_with fail
  refine HT.out.mono ?_
  rintro e w1 ⟨rfl, hb⟩
  have HB1 := hid (below_then HB0.out hb)
  clear hb
  cases u
  case false =>
    go_wp2_with fail
    go_ret
    exact ⟨rfl, HB1.out⟩
  case true =>
    go_wp2_with fail
    refine (HL1.out _ HB1.out).mono ?_
    rintro e w2 ⟨rfl, hb⟩
    have HB2 := hid (below_then HB1.out hb)
    clear hb
    cases v1
    case false =>
      go_wp2_with fail
      go_ret
      exact ⟨rfl, HB2.out⟩
    case true =>
      go_wp2_with fail
      refine (HL2.out _ HB2.out).mono ?_
      rintro e w3 ⟨rfl, hb⟩
      have HB3 := hid (below_then HB2.out hb)
      clear hb
      go_wp2_with fail
      go_ret
      exact ⟨by cases v2 <;> rfl, HB3.out⟩
end
end Go.Proofs.Ytppildaahmlfmaa
/- cmp.Compare at whole numbers (contract), walked at the seat itself. -/
set_option linter.unusedVariables false
set_option linter.unusedSimpArgs false
namespace Go.Proofs.Ytppildaahmlfmaa
open Go.RowKit

def cmp3 (x y : Int) : Int := if x < y then -1 else if y < x then 1 else 0
section
variable {w : World}
set_option maxRecDepth 100000 in
theorem isnan_any (x : Int) : Calls Try.prog 51 #[.int .i64 x] w fun e w' => e = .returned (.bool false) ∧ w' = w := by
  have hx : (x != x) = false := by simp
  go_enter Try.func51, Try.ntmps51
  go_wp2_with fail
  go_ret
  exact ⟨rfl, rfl⟩
set_option maxRecDepth 100000 in
theorem compare_any (x y : Int) : Calls Try.prog 33 #[.int .i64 x, .int .i64 y] w fun e w' => e = .returned (.int .i64 (cmp3 x y)) ∧ w' = w := by
  have HI := hid (fun (a : Int) (W : World) => isnan_any (w := W) a)
  by_cases h1 : x < y
  case pos =>
    have d1 : decide (x < y) = true := decide_eq_true h1
    have HC := hid (show cmp3 x y = -1 from if_pos h1)
    go_enter Try.func33, Try.ntmps33
    go_wp2_with (go_at_call 51; refine (HI.out _ _).mono ?_; rintro e w1 ⟨rfl, rfl⟩)
    go_ret
    exact ⟨by rw [HC.out]; rfl, rfl⟩
  case neg =>
    have d1 : decide (x < y) = false := decide_eq_false h1
    by_cases h2 : y < x
    case pos =>
      have d2 : decide (y < x) = true := decide_eq_true h2
      have HC := hid (show cmp3 x y = 1 by unfold cmp3; rw [if_neg h1, if_pos h2])
      go_enter Try.func33, Try.ntmps33
      go_wp2_with (go_at_call 51; refine (HI.out _ _).mono ?_; rintro e w1 ⟨rfl, rfl⟩)
      go_ret
      exact ⟨by rw [HC.out]; rfl, rfl⟩
    case neg =>
      have d2 : decide (y < x) = false := decide_eq_false h2
      have HC := hid (show cmp3 x y = 0 by unfold cmp3; rw [if_neg h1, if_neg h2])
      go_enter Try.func33, Try.ntmps33
      go_wp2_with (go_at_call 51; refine (HI.out _ _).mono ?_; rintro e w1 ⟨rfl, rfl⟩)
      go_ret
      exact ⟨by rw [HC.out]; rfl, rfl⟩
end
end Go.Proofs.Ytppildaahmlfmaa
