/- Joined: StabPlain. -/
import Derived.Test.YtppildaahmlfmaaQ00
set_option linter.unusedVariables false
set_option linter.unusedSimpArgs false
/- Stable sorting as plain data: rows as functions of the index; what insertion, binary search, rotation and the symmetric merge do to them. No program; no condition. -/
set_option linter.unusedVariables false
set_option linter.unusedSimpArgs false
namespace Go.Proofs.Ytppildaahmlfmaa

/-- What moves, moves within [a, b). -/
structure Mv {α : Type} (a b : Nat) (d d' : Nat → α) : Prop where
  out : ∀ k, ¬ (a ≤ k ∧ k < b) → d' k = d k
  fro : ∀ k, a ≤ k → k < b → ∃ j, a ≤ j ∧ j < b ∧ d' k = d j
  to : ∀ k, a ≤ k → k < b → ∃ j, a ≤ j ∧ j < b ∧ d' j = d k
section
variable {α : Type} {a b a' b' i j : Nat} {d d' d'' : Nat → α}
theorem Mv.refl (a b : Nat) (d : Nat → α) : Mv a b d d := ⟨fun _ _ => rfl, fun k h1 h2 => ⟨k, h1, h2, rfl⟩, fun k h1 h2 => ⟨k, h1, h2, rfl⟩⟩
theorem Mv.trans (h : Mv a b d d') (k : Mv a b d' d'') : Mv a b d d'' := by
  refine ⟨fun x hx => (k.out x hx).trans (h.out x hx), fun x h1 h2 => ?_, fun x h1 h2 => ?_⟩
  · obtain ⟨y, y1, y2, e⟩ := k.fro x h1 h2
    obtain ⟨z, z1, z2, e2⟩ := h.fro y y1 y2
    exact ⟨z, z1, z2, e.trans e2⟩
  · obtain ⟨y, y1, y2, e⟩ := h.to x h1 h2
    obtain ⟨z, z1, z2, e2⟩ := k.to y y1 y2
    exact ⟨z, z1, z2, e2.trans e⟩
theorem Mv.wide (h : Mv a b d d') (ha : a' ≤ a) (hb : b ≤ b') : Mv a' b' d d' := by
  refine ⟨fun x hx => h.out x (by omega), fun x h1 h2 => ?_, fun x h1 h2 => ?_⟩
  · by_cases hx : a ≤ x ∧ x < b
    · obtain ⟨y, y1, y2, e⟩ := h.fro x hx.1 hx.2
      exact ⟨y, by omega, by omega, e⟩
    · exact ⟨x, h1, h2, h.out x hx⟩
  · by_cases hx : a ≤ x ∧ x < b
    · obtain ⟨y, y1, y2, e⟩ := h.to x hx.1 hx.2
      exact ⟨y, by omega, by omega, e⟩
    · exact ⟨x, h1, h2, h.out x hx⟩
/-- Two change places. -/
def swf (d : Nat → α) (i j : Nat) : Nat → α := fun k => if k = i then d j else if k = j then d i else d k
theorem swf_mv (ha : a ≤ i) (ha' : a ≤ j) (hi : i < b) (hj : j < b) : Mv a b d (swf d i j) := by
  refine ⟨fun x hx => ?_, fun x h1 h2 => ?_, fun x h1 h2 => ?_⟩
  · unfold swf
    rw [if_neg (by omega), if_neg (by omega)]
  · unfold swf
    split
    · exact ⟨j, ha', hj, rfl⟩
    · split
      · exact ⟨i, ha, hi, rfl⟩
      · exact ⟨x, h1, h2, rfl⟩
  · by_cases e : x = i
    · refine ⟨j, ha', hj, ?_⟩
      subst e
      unfold swf
      split <;> simp_all
    · by_cases e2 : x = j
      · refine ⟨i, ha, hi, ?_⟩
        subst e2
        unfold swf
        simp
      · refine ⟨x, h1, h2, ?_⟩
        unfold swf
        rw [if_neg e, if_neg e2]
/-- The first i of two ranges have changed places. -/
def swr (d : Nat → α) (a b i : Nat) : Nat → α := fun k => if a ≤ k ∧ k < a + i then d (b + (k - a)) else if b ≤ k ∧ k < b + i then d (a + (k - b)) else d k
theorem swr_zero (d : Nat → α) (a b : Nat) : swr d a b 0 = d := by
  funext k
  unfold swr
  rw [if_neg (by omega), if_neg (by omega)]
theorem swr_step {n : Nat} (hab : a + n ≤ b) (hi : i < n) : swf (swr d a b i) (a + i) (b + i) = swr d a b (i + 1) := by
  funext k
  unfold swf swr
  split
  · subst_vars
    rw [if_neg (by omega), if_neg (by omega), if_pos (by omega)]
    congr 1
    omega
  · split
    · subst_vars
      rw [if_neg (by omega), if_neg (by omega), if_neg (by omega), if_pos (by omega)]
      congr 1
      omega
    · by_cases h1 : a ≤ k ∧ k < a + i
      · rw [if_pos h1, if_pos (by omega)]
      · by_cases h2 : b ≤ k ∧ k < b + i
        · rw [if_neg h1, if_pos h2, if_neg (by omega), if_pos (by omega)]
        · rw [if_neg h1, if_neg h2, if_neg (by omega), if_neg (by omega)]
/-- [a, m) and [m, b) have changed places. -/
def rot (d : Nat → α) (a m b : Nat) : Nat → α := fun k => if a ≤ k ∧ k < a + (b - m) then d (m + (k - a)) else if a + (b - m) ≤ k ∧ k < b then d (a + (k - (a + (b - m)))) else d k
theorem rot_left {m : Nat} (h : i < j) (hm : j ≤ m) : rot (swr d (m - j) m i) (m - (j - i)) m (m + i) = rot d (m - j) m (m + i) := by
  funext k
  unfold rot
  simp only [show m + i - m = i by omega]
  by_cases h1 : m - (j - i) ≤ k ∧ k < m - (j - i) + i
  · rw [if_pos h1]
    unfold swr
    rw [if_neg (by omega), if_pos (by omega)]
    by_cases h3 : m - j ≤ k ∧ k < m - j + i
    · exfalso; omega
    · rw [if_neg h3, if_pos (by omega)]
      congr 1
      omega
  · rw [if_neg h1]
    by_cases h2 : m - (j - i) + i ≤ k ∧ k < m + i
    · rw [if_pos h2]
      unfold swr
      rw [if_neg (by omega), if_neg (by omega), if_neg (by omega), if_pos (by omega)]
      congr 1
      omega
    · rw [if_neg h2]
      unfold swr
      by_cases h3 : m - j ≤ k ∧ k < m - j + i
      · rw [if_pos h3, if_pos h3]
      · rw [if_neg h3, if_neg (by omega), if_neg h3, if_neg (by omega)]
theorem rot_right {m : Nat} (h : i < j) (hm : i ≤ m) : rot (swr d (m - i) (m + j - i) i) (m - i) m (m + (j - i)) = rot d (m - i) m (m + j) := by
  funext k
  unfold rot
  simp only [show m + j - m = j by omega, show m + (j - i) - m = j - i by omega]
  by_cases h1 : m - i ≤ k ∧ k < m - i + (j - i)
  · rw [if_pos h1, if_pos (by omega)]
    unfold swr
    rw [if_neg (by omega), if_neg (by omega)]
  · rw [if_neg h1]
    by_cases h2 : m - i + (j - i) ≤ k ∧ k < m + (j - i)
    · rw [if_pos h2]
      unfold swr
      rw [if_pos (by omega)]
      by_cases h3 : m - i ≤ k ∧ k < m - i + j
      · rw [if_pos h3]
        congr 1
        omega
      · exfalso; omega
    · rw [if_neg h2]
      unfold swr
      rw [if_neg (by omega)]
      by_cases h3 : m + j - i ≤ k ∧ k < m + j - i + i
      · rw [if_pos h3, if_neg (by omega), if_pos (by omega)]
        congr 1
        omega
      · rw [if_neg h3, if_neg (by omega), if_neg (by omega)]
theorem rot_last {m : Nat} (hm : i ≤ m) : swr d (m - i) m i = rot d (m - i) m (m + i) := by
  funext k
  unfold rot swr
  simp only [show m + i - m = i by omega]
  by_cases h1 : m - i ≤ k ∧ k < m - i + i
  · rw [if_pos h1, if_pos h1]
  · rw [if_neg h1, if_neg h1]
    by_cases h2 : m ≤ k ∧ k < m + i
    · rw [if_pos h2, if_pos (by omega)]
      congr 1
      omega
    · rw [if_neg h2, if_neg (by omega)]
theorem rot_none {m : Nat} (h : ¬ (a < m ∧ m < b)) (h1 : a ≤ m) (h2 : m ≤ b) : rot d a m b = d := by
  funext k
  unfold rot
  by_cases h1 : a ≤ k ∧ k < a + (b - m)
  · rw [if_pos h1]
    congr 1
    omega
  · rw [if_neg h1]
    by_cases h2 : a + (b - m) ≤ k ∧ k < b
    · rw [if_pos h2]
      congr 1
      omega
    · rw [if_neg h2]
theorem rot_mv {m : Nat} (h1 : a ≤ m) (h2 : m ≤ b) : Mv a b d (rot d a m b) := by
  refine ⟨fun x hx => ?_, fun x h3 h4 => ?_, fun x h3 h4 => ?_⟩
  · unfold rot
    rw [if_neg (by omega), if_neg (by omega)]
  · unfold rot
    split
    · exact ⟨_, by omega, by omega, rfl⟩
    · exact ⟨a + (x - (a + (b - m))), by omega, by omega, by rw [if_pos (by omega)]⟩
  · by_cases hx : x < m
    · refine ⟨x + (b - m), by omega, by omega, ?_⟩
      unfold rot
      rw [if_neg (by omega), if_pos (by omega)]
      congr 1
      omega
    · refine ⟨a + (x - m), by omega, by omega, ?_⟩
      unfold rot
      rw [if_pos (by omega)]
      congr 1
      omega
end

/-- What is less, and by what ties are kept apart. -/
structure Order (α : Type) where
  lo : α → α → Bool
  tk : α → Int
  asym : ∀ x y, lo x y = true → lo y x = false
  tr : ∀ x y z, lo y x = false → lo z y = false → lo z x = false
def Order.R {α : Type} (O : Order α) (x y : α) : Prop := O.lo x y = true ∨ (O.lo y x = false ∧ O.tk x < O.tk y)
section
variable {α : Type} {O : Order α} {x y z : α}
theorem Order.lo_le (h : O.lo x y = true) (h2 : O.lo z y = false) : O.lo x z = true := by
  cases e : O.lo x z with
  | true => rfl
  | false => rw [O.tr y z x h2 e] at h; cases h
theorem Order.le_lo (h : O.lo y x = false) (h2 : O.lo y z = true) : O.lo x z = true := by
  cases e : O.lo x z with
  | true => rfl
  | false => rw [O.tr z x y e h] at h2; cases h2
theorem Order.R.le (h : O.R x y) : O.lo y x = false := h.elim (O.asym _ _) (fun h => h.1)
theorem Order.R.trans (h : O.R x y) (k : O.R y z) : O.R x z := by
  rcases h with h | h
  · exact .inl (O.lo_le h (Order.R.le k))
  · rcases k with k | k
    · exact .inl (O.le_lo h.1 k)
    · exact .inr ⟨O.tr _ _ _ h.1 k.1, by omega⟩
theorem Order.R.asymm (h : O.R x y) : ¬ O.R y x := fun k => by
  rcases h with h | h <;> rcases k with k | k
  · rw [O.asym _ _ h] at k; cases k
  · rw [k.1] at h; cases h
  · rw [h.1] at k; cases k
  · omega
end
def Sd {α : Type} (O : Order α) (d : Nat → α) (a b : Nat) : Prop := ∀ i j, a ≤ i → i < j → j < b → O.R (d i) (d j)
def Bef {α : Type} (O : Order α) (d : Nat → α) (a m b : Nat) : Prop := ∀ i j, a ≤ i → i < m → m ≤ j → j < b → O.tk (d i) < O.tk (d j)
def Rising {α : Type} (O : Order α) (d : Nat → α) (a b : Nat) : Prop := ∀ i j, a ≤ i → i < j → j < b → O.tk (d i) < O.tk (d j)
section
variable {α : Type} {O : Order α} {a b m i j : Nat} {d d' d'' dj : Nat → α}
/-! Insertion -/
structure InsO (O : Order α) (a b : Nat) (d : Nat → α) (i : Nat) (dk : Nat → α) : Prop where
  ai : a ≤ i
  mv : Mv a i d dk
  sd : Sd O dk a i
structure InsI (O : Order α) (a b : Nat) (d : Nat → α) (i j : Nat) (dj : Nat → α) : Prop where
  aj : a ≤ j
  ji : j ≤ i
  mv : Mv a (i + 1) d dj
  rest : ∀ p q, a ≤ p → p < q → q ≤ i → p ≠ j → q ≠ j → O.R (dj p) (dj q)
  here : ∀ q, j < q → q ≤ i → O.R (dj j) (dj q)
  tks : ∀ p, a ≤ p → p ≤ i → p ≠ j → O.tk (dj p) < O.tk (dj j)
theorem InsO.start (hab : a ≤ b) : InsO O a b d (a + 1) d := ⟨by omega, Mv.refl _ _ _, fun i j h1 h2 h3 => by omega⟩
theorem InsO.next (H : InsO O a b d i d') (hr : Rising O d a b) (hi : i < b) : InsI O a b d i i d' := by
  refine ⟨H.ai, Nat.le_refl _, H.mv.wide (Nat.le_refl _) (by omega), fun p q h1 h2 h3 h4 h5 => H.sd p q h1 h2 (by omega), fun q h1 h2 => by omega, fun p h1 h2 h3 => ?_⟩
  obtain ⟨p', h4, h5, e⟩ := H.mv.fro p h1 (by omega)
  rw [e, H.mv.out i (by omega)]
  exact hr p' i h4 h5 hi
theorem InsI.swap (H : InsI O a b d i j dj) (hj : a < j) (hl : O.lo (dj j) (dj (j - 1)) = true) : InsI O a b d i (j - 1) (swf dj j (j - 1)) := by
  have hji := H.ji
  have e1 : swf dj j (j - 1) j = dj (j - 1) := by unfold swf; rw [if_pos rfl]
  have e2 : swf dj j (j - 1) (j - 1) = dj j := by unfold swf; rw [if_neg (by omega), if_pos rfl]
  have e3 : ∀ k, k ≠ j → k ≠ j - 1 → swf dj j (j - 1) k = dj k := fun k h1 h2 => by unfold swf; rw [if_neg h1, if_neg h2]
  refine ⟨by omega, by omega, H.mv.trans (swf_mv (by omega) (by omega) (by omega) (by omega)), fun p q h1 h2 h3 h4 h5 => ?_, fun q h1 h2 => ?_, fun p h1 h2 h3 => ?_⟩
  · by_cases hp : p = j
    · subst hp
      rw [e1, e3 q (by omega) (by omega)]
      exact H.rest (p - 1) q (by omega) (by omega) h3 (by omega) (by omega)
    · by_cases hq : q = j
      · subst hq
        rw [e1, e3 p (by omega) (by omega)]
        exact H.rest p (q - 1) h1 (by omega) (by omega) (by omega) (by omega)
      · rw [e3 p hp h4, e3 q hq h5]
        exact H.rest p q h1 h2 h3 hp hq
  · rw [e2]
    by_cases hq : q = j
    · subst hq
      rw [e1]
      exact .inl hl
    · rw [e3 q hq (by omega)]
      exact H.here q (by omega) h2
  · rw [e2]
    by_cases hp : p = j
    · subst hp
      rw [e1]
      exact H.tks (p - 1) (by omega) (by omega) (by omega)
    · rw [e3 p hp h3]
      exact H.tks p h1 h2 hp
theorem InsI.stop (H : InsI O a b d i j dj) (hs : j = a ∨ O.lo (dj j) (dj (j - 1)) = false) : InsO O a b d (i + 1) dj := by
  have hji := H.ji
  have haj := H.aj
  refine ⟨by omega, H.mv, fun p q h1 h2 h3 => ?_⟩
  by_cases hp : p = j
  · subst hp
    exact H.here q h2 (by omega)
  · by_cases hq : q = j
    · subst hq
      rcases hs with hs | hs
      · omega
      · have h4 : O.R (dj (q - 1)) (dj q) := .inr ⟨hs, H.tks (q - 1) (by omega) (by omega) (by omega)⟩
        by_cases e : p = q - 1
        · rw [e]; exact h4
        · exact (H.rest p (q - 1) h1 (by omega) (by omega) hp (by omega)).trans h4
    · exact H.rest p q h1 h2 (by omega) hp hq

/-! The symmetric merge -/
/-- What is merged: two sorted ranges, the first one's ahead of the second one's. -/
structure Two2 (O : Order α) (d : Nat → α) (a m b : Nat) : Prop where
  l : Sd O d a m
  r : Sd O d m b
  bef : Bef O d a m b
  am : a ≤ m
  mb : m ≤ b
theorem Two2.le (H : Two2 O d a m b) (hi : a ≤ i) (him : i < m) (hj : m ≤ j) (hjb : j < b) (h : O.lo (d j) (d i) = false) : O.R (d i) (d j) := .inr ⟨h, H.bef i j hi him hj hjb⟩
theorem Sd.le (h : Sd O d a b) (hi : a ≤ i) (hij : i ≤ j) (hj : j < b) : O.lo (d j) (d i) = false := by
  rcases Nat.lt_or_eq_of_le hij with h2 | rfl
  · exact (h i j hi h2 hj).le
  · cases e : O.lo (d i) (d i) with
    | false => rfl
    | true => rw [O.asym _ _ e] at e; cases e
/-- Where a range is cut: what is put ahead of the middle is less than what is put behind it. -/
structure Cut (O : Order α) (d : Nat → α) (a m b s e : Nat) : Prop where
  as : a ≤ s
  sm : s ≤ m
  me : m ≤ e
  eb : e ≤ b
  one : ∀ i j, a ≤ i → i < s → e ≤ j → j < b → O.lo (d j) (d i) = false
  two : ∀ i j, m ≤ i → i < e → s ≤ j → j < m → O.lo (d i) (d j) = true
section
variable {s e : Nat}
theorem rot_first (s m e k : Nat) (d : Nat → α) (h : k < s) : rot d s m e k = d k := by
  unfold rot
  rw [if_neg (by omega), if_neg (by omega)]
theorem rot_end (s m e k : Nat) (d : Nat → α) (hs : s ≤ m) (hm : m ≤ e) (h : e ≤ k) : rot d s m e k = d k := by
  unfold rot
  rw [if_neg (by omega), if_neg (by omega)]
theorem rot_mid1 (s m e k : Nat) (d : Nat → α) (h1 : s ≤ k) (h : k < s + (e - m)) : rot d s m e k = d (m + (k - s)) := by
  unfold rot
  rw [if_pos ⟨h1, h⟩]
theorem rot_mid2 (s m e k : Nat) (d : Nat → α) (h1 : s + (e - m) ≤ k) (h : k < e) : rot d s m e k = d (s + (k - (s + (e - m)))) := by
  unfold rot
  rw [if_neg (by omega), if_pos ⟨h1, h⟩]
/-- Behind the rotation: two pairs of ranges to be merged, and all of the first pair ahead of all of the second one. -/
theorem Cut.rotated (C : Cut O d a m b s e) (H : Two2 O d a m b) : Two2 O (rot d s m e) a s (s + (e - m)) ∧ Two2 O (rot d s m e) (s + (e - m)) e b ∧ Mv a b d (rot d s m e) ∧
    ∀ i j, a ≤ i → i < s + (e - m) → s + (e - m) ≤ j → j < b → O.R (rot d s m e i) (rot d s m e j) := by
  have h1 := C.as
  have h2 := C.sm
  have h3 := C.me
  have h4 := C.eb
  have f1 : ∀ k, k < s → rot d s m e k = d k := fun k h => rot_first s m e k d h
  have f2 : ∀ k, s ≤ k → k < s + (e - m) → rot d s m e k = d (m + (k - s)) := fun k h h' => rot_mid1 s m e k d h h'
  have f3 : ∀ k, s + (e - m) ≤ k → k < e → rot d s m e k = d (s + (k - (s + (e - m)))) := fun k h h' => rot_mid2 s m e k d h h'
  have f4 : ∀ k, e ≤ k → rot d s m e k = d k := fun k h => rot_end s m e k d h2 h3 h
  refine ⟨⟨fun i j p q r => ?_, fun i j p q r => ?_, fun i j p q r t => ?_, h1, by omega⟩, ⟨fun i j p q r => ?_, fun i j p q r => ?_, fun i j p q r t => ?_, by omega, h4⟩, (rot_mv h2 h3).wide h1 h4, fun i j p q r t => ?_⟩
  · rw [f1 i (by omega), f1 j r]
    exact H.l i j p q (by omega)
  · rw [f2 i p (by omega), f2 j (by omega) r]
    exact H.r _ _ (by omega) (by omega) (by omega)
  · rw [f1 i q, f2 j r t]
    exact H.bef _ _ p (by omega) (by omega) (by omega)
  · rw [f3 i p (by omega), f3 j (by omega) r]
    exact H.l _ _ (by omega) (by omega) (by omega)
  · rw [f4 i p, f4 j (by omega)]
    exact H.r _ _ (by omega) q r
  · rw [f3 i p q, f4 j r]
    exact H.bef _ _ (by omega) (by omega) (by omega) t
  · by_cases hi : i < s
    · rw [f1 i hi]
      by_cases hj : j < e
      · rw [f3 j r hj]
        exact H.l _ _ p (by omega) (by omega)
      · rw [f4 j (by omega)]
        exact H.le p (by omega) (by omega) t (C.one i j p hi (by omega) t)
    · rw [f2 i (by omega) q]
      by_cases hj : j < e
      · rw [f3 j r hj]
        exact .inl (C.two _ _ (by omega) (by omega) (by omega) (by omega))
      · rw [f4 j (by omega)]
        exact H.r _ _ (by omega) (by omega) t
end
/-- Both halves merged: the whole is. -/
theorem merged {mid : Nat} (h1 : Mv a mid d d') (s1 : Sd O d' a mid) (h2 : Mv mid b d' d'') (s2 : Sd O d'' mid b) (ha : a ≤ mid) (hb : mid ≤ b)
    (hc : ∀ i j, a ≤ i → i < mid → mid ≤ j → j < b → O.R (d i) (d j)) : Mv a b d d'' ∧ Sd O d'' a b := by
  refine ⟨(h1.wide (Nat.le_refl _) hb).trans (h2.wide ha (Nat.le_refl _)), fun i j p q r => ?_⟩
  by_cases hj : j < mid
  · rw [h2.out i (by omega), h2.out j (by omega)]
    exact s1 i j p q hj
  · by_cases hi : i < mid
    · rw [h2.out i (by omega)]
      obtain ⟨j', j1, j2, e⟩ := h2.fro j (by omega) r
      rw [e, h1.out j' (by omega)]
      obtain ⟨i', i1, i2, e2⟩ := h1.fro i p hi
      rw [e2]
      exact hc i' j' i1 i2 j1 j2
    · exact s2 i j (by omega) q r
/-- One end is empty: nothing is left to do. -/
theorem Two2.idle (H : Two2 O d a m b) (h : ¬ (a < m ∧ m < b)) : Sd O d a b := fun i j p q r => by
  have := H.am
  have := H.mb
  rcases Nat.lt_or_ge a m with h1 | h1
  · exact H.l i j p q (by omega)
  · exact H.r i j (by omega) q r
/-! The three searches -/
/-- The search for a place: below i it does not stand, from j on it does. -/
structure Srch (P : Nat → Bool) (lo hi i j : Nat) : Prop where
  li : lo ≤ i
  ij : i ≤ j
  jh : j ≤ hi
  no : ∀ c, lo ≤ c → c < i → P c = false
  yes : ∀ c, j ≤ c → c < hi → P c = true
theorem Srch.start (P : Nat → Bool) {lo hi : Nat} (h : lo ≤ hi) : Srch P lo hi lo hi := ⟨Nat.le_refl _, h, Nat.le_refl _, fun c h1 h2 => by omega, fun c h1 h2 => by omega⟩
theorem Srch.right {P : Nat → Bool} {lo hi i j h : Nat} (H : Srch P lo hi i j) (hm : ∀ c c', lo ≤ c → c ≤ c' → c' < hi → P c = true → P c' = true) (h1 : i ≤ h) (h2 : h < j) (hp : P h = false) : Srch P lo hi (h + 1) j := by
  have a1 := H.li
  have a2 := H.jh
  refine ⟨by omega, by omega, H.jh, fun c h3 h4 => ?_, H.yes⟩
  cases e : P c with
  | false => rfl
  | true => rw [hm c h h3 (by omega) (by omega) e] at hp; cases hp
theorem Srch.left {P : Nat → Bool} {lo hi i j h : Nat} (H : Srch P lo hi i j) (hm : ∀ c c', lo ≤ c → c ≤ c' → c' < hi → P c = true → P c' = true) (h1 : i ≤ h) (h2 : h < j) (hp : P h = true) : Srch P lo hi i h := by
  have a1 := H.li
  have a2 := H.jh
  exact ⟨H.li, h1, by omega, H.no, fun c h3 h4 => hm h c (by omega) h3 h4 hp⟩
/-- The first search: where the one on the left goes. -/
def srch1 (O : Order α) (d : Nat → α) (a : Nat) : Nat → Bool := fun c => !O.lo (d c) (d a)
theorem srch1_mono (H : Two2 O d a (a + 1) b) : ∀ c c', a + 1 ≤ c → c ≤ c' → c' < b → srch1 O d a c = true → srch1 O d a c' = true := fun c c' h1 h2 h3 h4 => by
  unfold srch1 at *
  simp only [Bool.not_eq_true'] at *
  exact O.tr _ _ _ h4 (H.r.le h1 h2 h3)
theorem srch1_cut (H : Two2 O d a (a + 1) b) (S : Srch (srch1 O d a) (a + 1) b i i) : Cut O d a (a + 1) b a i := by
  refine ⟨Nat.le_refl _, by omega, S.li, S.jh, fun p q h1 h2 => by omega, fun p q h1 h2 h3 h4 => ?_⟩
  obtain rfl : q = a := by omega
  have := S.no p h1 h2
  unfold srch1 at this
  simpa using this
/-- The second one: where the one on the right goes. -/
def srch2 (O : Order α) (d : Nat → α) (m : Nat) : Nat → Bool := fun c => O.lo (d m) (d c)
theorem srch2_mono (H : Two2 O d a m (m + 1)) : ∀ c c', a ≤ c → c ≤ c' → c' < m → srch2 O d m c = true → srch2 O d m c' = true := fun c c' h1 h2 h3 h4 => O.lo_le h4 (H.l.le h1 h2 h3)
theorem srch2_cut (H : Two2 O d a m (m + 1)) (S : Srch (srch2 O d m) a m i i) : Cut O d a m (m + 1) i (m + 1) := by
  refine ⟨S.li, S.jh, by omega, Nat.le_refl _, fun p q h1 h2 h3 h4 => by omega, fun p q h1 h2 h3 h4 => ?_⟩
  obtain rfl : p = m := by omega
  exact S.yes q h3 h4
/-- The third one. -/
def srch3 (O : Order α) (d : Nat → α) (p : Nat) : Nat → Bool := fun c => O.lo (d (p - c)) (d c)
theorem srch3_mono {mid lo hi : Nat} (H : Two2 O d a m b) (h0 : a ≤ lo) (h1 : hi ≤ m) (h2 : mid + m ≤ b + lo) (h3 : hi ≤ mid) :
    ∀ c c', lo ≤ c → c ≤ c' → c' < hi → srch3 O d (mid + m - 1) c = true → srch3 O d (mid + m - 1) c' = true := fun c c' p1 p2 p3 p4 => by
  unfold srch3 at *
  exact O.lo_le (O.le_lo (H.r.le (i := mid + m - 1 - c') (j := mid + m - 1 - c) (by omega) (by omega) (by omega)) p4) (H.l.le (by omega) p2 (by omega))
theorem srch3_cut {mid lo hi : Nat} (H : Two2 O d a m b) (h0 : a ≤ lo) (h1 : hi ≤ m) (h2 : mid + m ≤ b + lo) (h3 : hi ≤ mid) (hl : lo = a ∨ mid + m = b + lo) (hh : hi = m ∨ hi = mid) (hlo : lo ≤ hi) (S : Srch (srch3 O d (mid + m - 1)) lo hi i i) : Cut O d a m b i (mid + m - i) := by
  have s1 := S.li
  have s2 := S.jh
  refine ⟨by omega, by omega, by omega, by omega, fun p q p1 p2 p3 p4 => ?_, fun p q p1 p2 p3 p4 => ?_⟩
  · by_cases e : lo < i
    · have := S.no (i - 1) (by omega) (by omega)
      unfold srch3 at this
      rw [show mid + m - 1 - (i - 1) = mid + m - i by omega] at this
      exact O.tr _ _ _ (O.tr _ _ _ (H.l.le (j := i - 1) p1 (by omega) (by omega)) this) (H.r.le (i := mid + m - i) (by omega) p3 p4)
    · rcases hl with rfl | hl <;> omega
  · by_cases e : i < hi
    · have := S.yes i (Nat.le_refl _) e
      unfold srch3 at this
      rw [show mid + m - 1 - i = mid + m - i - 1 by omega] at this
      exact O.lo_le (O.le_lo (H.r.le (i := p) (j := mid + m - i - 1) p1 (by omega) (by omega)) this) (H.l.le (i := i) (by omega) p3 p4)
    · rcases hh with rfl | rfl <;> omega
/-- The one on the left is moved on, step by step. -/
theorem rot_one (d : Nat → α) (a k : Nat) (h : a ≤ k) : swf (rot d a (a + 1) (k + 1)) k (k + 1) = rot d a (a + 1) (k + 2) := by
  funext x
  unfold swf rot
  simp only [show k + 1 - (a + 1) = k - a by omega, show k + 2 - (a + 1) = k + 1 - a by omega]
  by_cases h1 : x = k
  · subst h1
    rw [if_pos rfl, if_neg (by omega), if_neg (by omega), if_pos (by omega)]
    congr 1
    omega
  · rw [if_neg h1]
    by_cases h2 : x = k + 1
    · subst h2
      rw [if_pos rfl, if_neg (by omega), if_pos (by omega), if_neg (by omega), if_pos (by omega)]
      congr 1
      omega
    · rw [if_neg h2]
      by_cases h3 : a ≤ x ∧ x < a + (k - a)
      · rw [if_pos h3, if_pos (by omega)]
      · rw [if_neg h3, if_neg (by omega), if_neg (by omega), if_neg (by omega)]
theorem rot_one0 (d : Nat → α) (a : Nat) : rot d a (a + 1) (a + 1) = d := rot_none (by omega) (by omega) (by omega)
/-- The one on the right likewise. -/
theorem rot_two (d : Nat → α) (m k : Nat) (h : k < m) : swf (rot d (k + 1) m (m + 1)) (k + 1) k = rot d k m (m + 1) := by
  funext x
  unfold swf rot
  simp only [show m + 1 - m = 1 by omega]
  by_cases h1 : x = k + 1
  · subst h1
    rw [if_pos rfl, if_neg (by omega), if_neg (by omega), if_neg (by omega), if_pos (by omega)]
    congr 1
    omega
  · rw [if_neg h1]
    by_cases h2 : x = k
    · subst h2
      rw [if_pos rfl, if_pos (by omega), if_pos (by omega)]
      congr 1
      omega
    · rw [if_neg h2]
      by_cases h3 : k + 1 + 1 ≤ x ∧ x < m + 1
      · rw [if_neg (by omega), if_pos h3, if_neg (by omega), if_pos (by omega)]
        congr 1
        omega
      · rw [if_neg (by omega), if_neg h3, if_neg (by omega), if_neg (by omega)]
theorem rot_two0 (d : Nat → α) (m : Nat) : rot d m m (m + 1) = d := rot_none (by omega) (by omega) (by omega)
end
end Go.Proofs.Ytppildaahmlfmaa
