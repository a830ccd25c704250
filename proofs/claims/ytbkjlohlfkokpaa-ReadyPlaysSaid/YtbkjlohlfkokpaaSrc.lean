/- Rows of things of several cells: what stands at an index; what a slice holds as cells, nil let in; append of a whole slice; cuts. No program; no condition. -/
import Derived.Test.YtbkjlohlfkokpaaBase
set_option linter.unusedVariables false
set_option linter.unusedSimpArgs false
namespace Go.Proofs.Ytbkjlohlfkokpaa
open Go.RowKit

/-- The cells that a slice holds (nil: none). -/
def Src (w : World) (A : Option Addr) (cs : List Value) : Prop := ∀ j u, cs[j]? = some u → ∃ ad, A = some ad ∧ w.cell? (ad.add j) = some u
section
variable {w w' : World} {A : Option Addr} {cs : List Value} {base n cap size : Nat} {e : TypeId} {xs : List Value}
theorem Src.nil (w : World) (A : Option Addr) : Src w A [] := fun j u h => by simp at h
theorem own_src (h : w.ownsRow base e size (.slice A n cap) n xs) : Src w A xs := fun j u hj => by
  have hlt := (List.getElem?_eq_some_iff.1 hj).1
  have hl := h.1
  have hn : 0 < n := by
    rcases Nat.eq_zero_or_pos n with h0 | h0
    · subst h0; simp at hl; subst hl; simp at hj
    · exact h0
  obtain ⟨g, cap', cur, hv, _⟩ := own_shape h hn
  cases hv
  exact ⟨⟨g, 0, none⟩, rfl, by rw [add_off, Nat.zero_add]; exact own_cell0 h hj⟩
theorem Src.take (h : Src w A cs) (k : Nat) : Src w A (cs.take k) := fun j u hj => by
  rw [List.getElem?_take] at hj
  split at hj
  · exact h j u hj
  · cases hj
theorem add_twice (a : Addr) (i j : Nat) : (a.add i).add j = a.add (i + j) := by
  unfold Addr.add
  by_cases hi : i = 0 <;> by_cases hj : j = 0 <;> simp [hi, hj, Nat.add_assoc]
theorem Src.drop (h : Src w A cs) (k : Nat) : Src w (A.map (·.add k)) (cs.drop k) := fun j u hj => by
  rw [List.getElem?_drop] at hj
  obtain ⟨ad, rfl, hc⟩ := h _ u hj
  exact ⟨ad.add k, rfl, by rw [add_twice]; exact hc⟩
/-- A cut's end, as the model says it. -/
theorem Src.rest (h : Src w A cs) (hl : cs.length = n * size) (hn : n ≤ cap) (k : Nat) : Src w (if cap = k then A else A.map (·.add (k * size))) (cs.drop (k * size)) := by
  by_cases hk : cap = k
  · rw [if_pos hk, List.drop_eq_nil_of_le (by rw [hl]; exact Nat.mul_le_mul_right _ (by omega))]
    exact Src.nil _ _
  · rw [if_neg hk]; exact h.drop _
theorem Src.kept {S : Nat → Prop} (h : Src w A cs) (f : Fr S w w') (hn : ∀ a, A = some a → ¬ S a.block) : Src w' A cs := fun j u hj => by
  obtain ⟨ad, hA, hc⟩ := h j u hj
  have hb : (ad.add j).block = ad.block := by unfold Addr.add; split <;> rfl
  exact ⟨ad, hA, f.cell hc (by rw [hb]; exact hn ad hA)⟩
/-- What stands at an index. -/
theorem row_cell {α : Type} {enc : α → List Value} {l : List α} {k j : Nat} {x : α} {u : Value} (hs : ∀ x, (enc x).length = size) (h : w.ownsRow base e size (.slice A n cap) n (flat enc l)) (hx : l[k]? = some x) (hj : (enc x)[j]? = some u) :
    ∃ g, A = some ⟨g, 0, none⟩ ∧ w.cell? ⟨g, k * size + j, none⟩ = some u := by
  have hj2 : j < size := by rw [← hs x]; exact (List.getElem?_eq_some_iff.1 hj).1
  have hf : (flat enc l)[k * size + j]? = some u := by rw [flat_get hs l k j x hx hj2]; exact hj
  obtain ⟨ad, hA, _⟩ := own_src h _ _ hf
  have hn : 0 < n := by
    rcases Nat.eq_zero_or_pos n with h0 | h0
    · have := h.1; subst h0; simp at this; rw [this] at hf; simp at hf
    · exact h0
  obtain ⟨g, cap', cur, hv, _⟩ := own_shape h hn
  cases hv
  exact ⟨g, rfl, own_cell0 h hf⟩
theorem own_cap (h : w.ownsRow base e size (.slice A n cap) n xs) : n ≤ cap ∧ cap ≤ maxLen := by
  rcases h.2 with ⟨h, h2⟩ | ⟨g, cap', cur, h, _, _, h3, h4, _⟩
  · cases h; exact ⟨Nat.le_refl _, Nat.zero_le _⟩
  · cases h; exact ⟨h3, h4⟩
end
section
variable {P : Program}
theorem run_append_src (w : World) (base : Nat) (t ty e : TypeId) (i : TypeInfo) (z : Value) (size bytes : Nat) (ht : P.underlying t = some (.slice e)) (hi : P.info? e = some i) (hz : i.zero = some z)
    (hsize : i.size = size) (hby : i.bytes = bytes) (hzs : z.cells.size = size) (hsz : 0 < size)
    (v : Value) (n : Nat) (xs : List Value) (hown : w.ownsRow base e size v n xs) (A : Option Addr) (m c : Nat) (news : List Value) (hl : news.length = m * size) (hs : Src w A news) (h1 : ∀ u ∈ news, u.oneCell' = true)
    (h63 : n + m ≤ maxLen) (hbytes : (n + m) * bytes ≤ 140737488355328) (hbase : base ≤ w.heap.size) :
    ∃ v' w', (Builtin.append_ #[t, t] ty #[v, .slice A m c]).run P w = .ok v' w' ∧ w'.ownsRow base e size v' (n + m) (xs ++ news) ∧ Fr (fun k => v.ownBlock = some k) w w' ∧ (v'.ownBlock = v.ownBlock ∨ v'.ownBlock = some w.heap.size) := by
  cases A with
  | none =>
    have hn : news = [] := by
      rcases news with _ | ⟨u, l⟩
      · rfl
      · obtain ⟨ad, h, _⟩ := hs 0 u rfl; cases h
    subst hn
    have hm : m = 0 := by
      rcases Nat.eq_zero_or_pos m with h | h
      · exact h
      · have := Nat.mul_pos h hsz; simp at hl; omega
    subst hm
    refine ⟨v, w, ?_, by simpa using hown, Fr.refl _ _, .inl rfl⟩
    rcases hown.2 with ⟨rfl, rfl⟩ | ⟨g, cap, cur, rfl, _, _, hnc, _⟩
    · simp [Builtin.append_, run_underlying ht, sizeOf, typeInfo, hi, Builtin.lenOf, Builtin.firstCells]
    · simp [Builtin.append_, run_underlying ht, sizeOf, typeInfo, hi, Builtin.lenOf, Builtin.firstCells, hnc, storeCells]
  | some ad =>
    obtain ⟨v', w', hr, h2, h3, _, h5⟩ := run_append_own_at (P := P) w base t ty e i z size bytes ht hi hz hsize hby hzs hsz v n xs hown ad m c news hl (fun j u hj => by
      obtain ⟨ad', he, hc⟩ := hs j u hj
      cases he
      exact hc) h1 h63 hbytes hbase
    exact ⟨v', w', hr, h2, (Fr.refl _ w).grown h3 (fun k hk => .inl hk), h5⟩
variable {w : World} {ops : Array Oper} {rest : List Oper} {o : Oper} {a : Act} {Q : Exit → Act → World → Prop}
/-- 'append(s, x...)'. -/
theorem append_src (hgd : o.guard = none) (s x : Operand) (t : TypeId) (ho : o.op = .call { callee := .builtin .append, args := #[s, x], argTypes := #[t, t] })
    (base : Nat) (e : TypeId) (i : TypeInfo) (z : Value) (size bytes : Nat) (ht : P.underlying t = some (.slice e)) (hi : P.info? e = some i) (hz : i.zero = some z)
    (hsize : i.size = size) (hby : i.bytes = bytes) (hzs : z.cells.size = size) (hsz : 0 < size)
    (v : Value) (n : Nat) (xs : List Value) (hs : a.eval s = v) (hown : w.ownsRow base e size v n xs) (A : Option Addr) (m c : Nat) (news : List Value) (hx : a.eval x = .slice A m c) (hl : news.length = m * size) (hsrc : Src w A news) (h1 : ∀ u ∈ news, u.oneCell' = true)
    (h63 : n + m ≤ maxLen) (hbytes : (n + m) * bytes ≤ 140737488355328) (hbase : base ≤ w.heap.size)
    (h : ∀ v' w', w'.ownsRow base e size v' (n + m) (xs ++ news) → Fr (fun k => v.ownBlock = some k) w w' → (v'.ownBlock = v.ownBlock ∨ v'.ownBlock = some w.heap.size) → wpList P ops Q rest (a.put o.dst v') w') :
    wpList P ops Q (o :: rest) a w := by
  refine wpList_plain hgd fun K hK => ?_
  obtain ⟨v', w', hr, h2, h3, h5⟩ := run_append_src (P := P) w base t o.type e i z size bytes ht hi hz hsize hby hzs hsz v n xs hown A m c news hl hsrc h1 h63 hbytes hbase
  unfold Oper.wp
  simp [execOp, ho, resolve, invoke, builtin, hs, hx, hr, Result.andThen]
  exact hK _ _ (h v' w' h2 h3 h5)
end
section
variable {α : Type} {enc : α → List Value} {sz : Nat}
theorem flat_take (hs : ∀ x, (enc x).length = sz) (l : List α) (k : Nat) : (flat enc l).take (k * sz) = flat enc (l.take k) := by
  induction l generalizing k with
  | nil => simp [flat]
  | cons x l ih =>
    cases k with
    | zero => simp [flat]
    | succ k => rw [flat_cons, List.take_append, hs, List.take_of_length_le (by rw [hs, Nat.add_mul]; omega), show (k + 1) * sz - sz = k * sz by rw [Nat.add_mul]; omega, ih, List.take_succ_cons, flat_cons]
theorem flat_drop (hs : ∀ x, (enc x).length = sz) (l : List α) (k : Nat) : (flat enc l).drop (k * sz) = flat enc (l.drop k) := by
  induction l generalizing k with
  | nil => simp [flat]
  | cons x l ih =>
    cases k with
    | zero => simp
    | succ k => rw [flat_cons, List.drop_append, hs, List.drop_eq_nil_of_le (by rw [hs, Nat.add_mul]; omega), show (k + 1) * sz - sz = k * sz by rw [Nat.add_mul]; omega, ih, List.drop_succ_cons, List.nil_append]
theorem flat_one (h1 : ∀ x, ∀ u ∈ enc x, u.oneCell' = true) (l : List α) : ∀ u ∈ flat enc l, u.oneCell' = true := fun u hu => by
  obtain ⟨x, _, hx⟩ := List.mem_flatMap.1 hu
  exact h1 x u hx
theorem flat_snoc (l : List α) (x : α) : flat enc (l ++ [x]) = flat enc l ++ enc x := by rw [flat_append]; simp [flat]
end
/-- Two rows whose blocks are two. -/
def Apart (v u : Value) : Prop := ∀ k, v.ownBlock = some k → u.ownBlock ≠ some k
theorem Apart.symm {v u : Value} (h : Apart v u) : Apart u v := fun k hk e => h k e hk
theorem Apart.nil (u : Value) : Apart (.slice none 0 0) u := fun k h => by cases h
theorem Apart.grown {v v' u : Value} {w : World} {m : Nat} {base : Nat} {e : TypeId} {size n : Nat} {xs : List Value} (h : Apart v u) (hl : v'.ownBlock = v.ownBlock ∨ v'.ownBlock = some m) (hu : w.ownsRow base e size u n xs) (hm : w.heap.size ≤ m) : Apart v' u := fun k hk e2 => by
  rcases hl with hl | hl
  · exact h k (hl ▸ hk) e2
  · rw [hl] at hk
    injection hk with hk
    have := (hu.lt k e2).2
    omega
theorem kind_ne {w : World} {base x : Nat} {e t : TypeId} {size n : Nat} {v : Value} {xs : List Value} {C : Array Value} {f : Nat × Nat} (h : w.ownsRow base e size v n xs) (hx : w.heap[x]? = some (.cells C t f)) (hne : e ≠ t) : ∀ k, v.ownBlock = some k → k ≠ x := fun k hk => by
  obtain ⟨D, hD⟩ := own_kind h hk
  exact blk_ne hD hx (cells_ne hne)
end Go.Proofs.Ytbkjlohlfkokpaa
