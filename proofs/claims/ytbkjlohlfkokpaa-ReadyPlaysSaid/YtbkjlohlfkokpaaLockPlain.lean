/- Locks, plain: queues of whole numbers; who wants what, who has it; what asking and giving back do. No program. -/
import Derived.Test.YtbkjlohlfkokpaaWords
set_option linter.unusedVariables false
set_option linter.unusedSimpArgs false
namespace Go.Proofs.Ytbkjlohlfkokpaa

/-- The first queue in which a task stands. -/
def wantsQ : List (List Int) → Int → Int
  | [], _ => -1
  | q :: Q, t => if t ∈ q then 0 else if wantsQ Q t < 0 then -1 else wantsQ Q t + 1
/-- Who has it. -/
def headQ : List Int → Int
  | [] => -1
  | x :: _ => x
def holderQ (Q : List (List Int)) (res : Int) : Int := if 0 ≤ res ∧ res < Q.length then headQ (Q.getD res.toNat []) else -1
def hasQ (Q : List (List Int)) (t : Int) : Bool := decide (0 ≤ wantsQ Q t) && decide (holderQ Q (wantsQ Q t) = t)
def queueQ (Q : List (List Int)) (res : Int) : List Int := if 0 ≤ res ∧ res < Q.length then Q.getD res.toNat [] else []
/-- Asking: how many are ahead, the error, the queues behind. -/
def askQ (Q : List (List Int)) (res t : Int) : Int × Int × List (List Int) :=
  if res < 0 ∨ (Q.length : Int) ≤ res ∨ t < 0 ∨ 24 ≤ t then (0, 1, Q) else if 0 ≤ wantsQ Q t then (0, 4, Q)
  else (((Q.getD res.toNat []).length : Nat), 0, Q.set res.toNat (Q.getD res.toNat [] ++ [t]))
def freedQ (Q : List (List Int)) (t : Int) : List (List Int) := Q.set (wantsQ Q t).toNat (Q.getD (wantsQ Q t).toNat []).tail
/-- Giving back: who has it next, the error, the queues behind. -/
def freeQ (Q : List (List Int)) (t : Int) : Int × Int × List (List Int) :=
  if hasQ Q t then (holderQ (freedQ Q t) (wantsQ Q t), 0, freedQ Q t) else (0, 5, Q)

theorem wants_cases : ∀ (Q : List (List Int)) (t : Int), (wantsQ Q t = -1 ∧ ∀ (i : Nat) q, Q[i]? = some q → t ∉ q) ∨ ∃ (i : Nat) (q : List Int), wantsQ Q t = i ∧ Q[i]? = some q ∧ t ∈ q
  | [], t => .inl ⟨rfl, fun i q h => by simp at h⟩
  | q :: Q, t => by
    unfold wantsQ
    by_cases h : t ∈ q
    · exact .inr ⟨0, q, by rw [if_pos h]; rfl, rfl, h⟩
    · rw [if_neg h]
      rcases wants_cases Q t with ⟨h1, h2⟩ | ⟨i, q', h1, h2, h3⟩
      · refine .inl ⟨by rw [if_pos (by omega)], fun i q' hi => ?_⟩
        cases i with
        | zero => simp at hi; subst hi; exact h
        | succ i => exact h2 i q' (by simpa using hi)
      · exact .inr ⟨i + 1, q', by rw [if_neg (by omega), h1]; rfl, by simpa using h2, h3⟩
theorem wants_bd (Q : List (List Int)) (t : Int) : -1 ≤ wantsQ Q t ∧ wantsQ Q t < Q.length := by
  rcases wants_cases Q t with ⟨h, _⟩ | ⟨i, q, h, h2, _⟩
  · omega
  · have := (List.getElem?_eq_some_iff.1 h2).1; omega
/-- No task twice; tasks are some that may be. -/
structure QInv (Q : List (List Int)) : Prop where
  nodup : ∀ (i : Nat) (q : List Int), Q[i]? = some q → q.Nodup ∧ ∀ t ∈ q, 0 ≤ t ∧ t < 24
  one : ∀ (i j : Nat) (q q' : List Int) (t : Int), Q[i]? = some q → Q[j]? = some q' → t ∈ q → t ∈ q' → i = j
theorem QInv.wants {Q : List (List Int)} (h : QInv Q) {i : Nat} {q : List Int} {t : Int} (hi : Q[i]? = some q) (ht : t ∈ q) : wantsQ Q t = i := by
  rcases wants_cases Q t with ⟨_, h2⟩ | ⟨j, q', h1, h2, h3⟩
  · exact absurd ht (h2 i q hi)
  · rw [h1, h.one i j q q' t hi h2 ht h3]
theorem wants_no {Q : List (List Int)} {t : Int} (h : ∀ (i : Nat) q, Q[i]? = some q → t ∉ q) : wantsQ Q t = -1 := by
  rcases wants_cases Q t with ⟨h1, _⟩ | ⟨j, q', _, h2, h3⟩
  · exact h1
  · exact absurd h3 (h j q' h2)
theorem rep_get {n i : Nat} {q : List Int} (h : (List.replicate n ([] : List Int))[i]? = some q) : q = [] := by
  rw [List.getElem?_replicate] at h
  split at h
  · injection h with h; exact h.symm
  · cases h
theorem QInv.empty (n : Nat) : QInv (List.replicate n []) :=
  ⟨fun i q h => by rw [rep_get h]; simp, fun i j q q' t h _ ht _ => by rw [rep_get h] at ht; simp at ht⟩
theorem set_cases {Q : List (List Int)} {r i : Nat} {x q : List Int} (h : (Q.set r x)[i]? = some q) : (i = r ∧ q = x) ∨ (i ≠ r ∧ Q[i]? = some q) := by
  by_cases e : i = r
  · subst e
    have hl := (List.getElem?_eq_some_iff.1 h).1
    rw [List.getElem?_set_self (by simpa using hl)] at h
    injection h with h
    exact .inl ⟨rfl, h.symm⟩
  · rw [List.getElem?_set_ne (fun h => e h.symm)] at h
    exact .inr ⟨e, h⟩
theorem QInv.ask {Q : List (List Int)} (h : QInv Q) {r : Nat} {q : List Int} {t : Int} (hr : Q[r]? = some q) (h0 : 0 ≤ t ∧ t < 24) (hw : wantsQ Q t < 0) : QInv (Q.set r (q ++ [t])) := by
  have hno : ∀ (i : Nat) q', Q[i]? = some q' → t ∉ q' := fun i q' hi ht => by have := h.wants hi ht; omega
  refine ⟨fun i q' hi => ?_, fun i j q1 q2 s hi hj h1 h2 => ?_⟩
  · rcases set_cases hi with ⟨_, rfl⟩ | ⟨_, hi⟩
    · obtain ⟨a, b⟩ := h.nodup r q hr
      refine ⟨List.nodup_append.2 ⟨a, by simp, fun x hx y hy e => ?_⟩, fun s hs => ?_⟩
      · simp at hy; rw [e, hy] at hx; exact hno r q hr hx
      · rcases List.mem_append.1 hs with hs | hs
        · exact b s hs
        · simp at hs; rw [hs]; exact h0
    · exact h.nodup i q' hi
  · rcases set_cases hi with ⟨e1, rfl⟩ | ⟨n1, hi⟩ <;> rcases set_cases hj with ⟨e2, rfl⟩ | ⟨n2, hj⟩
    · omega
    · rcases List.mem_append.1 h1 with h1 | h1
      · exact absurd (h.one r j q q2 s hr hj h1 h2) (by omega)
      · simp at h1; rw [h1] at h2; exact absurd h2 (hno j q2 hj)
    · rcases List.mem_append.1 h2 with h2 | h2
      · exact absurd (h.one i r q1 q s hi hr h1 h2) (by omega)
      · simp at h2; rw [h2] at h1; exact absurd h1 (hno i q1 hi)
    · exact h.one i j q1 q2 s hi hj h1 h2
theorem QInv.sub {Q : List (List Int)} (h : QInv Q) {r : Nat} {q q0 : List Int} (hr : Q[r]? = some q) (hs : q0.Sublist q) : QInv (Q.set r q0) := by
  refine ⟨fun i q' hi => ?_, fun i j q1 q2 s hi hj h1 h2 => ?_⟩
  · rcases set_cases hi with ⟨_, rfl⟩ | ⟨_, hi⟩
    · obtain ⟨a, b⟩ := h.nodup r q hr
      exact ⟨a.sublist hs, fun s hx => b s (hs.subset hx)⟩
    · exact h.nodup i q' hi
  · rcases set_cases hi with ⟨e1, rfl⟩ | ⟨n1, hi'⟩ <;> rcases set_cases hj with ⟨e2, rfl⟩ | ⟨n2, hj'⟩
    · omega
    · exact absurd (h.one r j q q2 s hr hj' (hs.subset h1) h2) (by omega)
    · exact absurd (h.one i r q1 q s hi' hr h1 (hs.subset h2)) (by omega)
    · exact h.one i j q1 q2 s hi' hj' h1 h2
/-- What the map of wants holds. -/
def wantF (Q : List (List Int)) (t : Int) : Option Int := if wantsQ Q t < 0 then none else some (wantsQ Q t)
theorem want_ask {Q : List (List Int)} (h : QInv Q) {r : Nat} {q : List Int} {t : Int} (hr : Q[r]? = some q) (h0 : 0 ≤ t ∧ t < 24) (hw : wantsQ Q t < 0) (s : Int) :
    wantsQ (Q.set r (q ++ [t])) s = if s = t then (r : Int) else wantsQ Q s := by
  have hI := h.ask hr h0 hw
  have hl := (List.getElem?_eq_some_iff.1 hr).1
  by_cases e : s = t
  · rw [if_pos e, e]
    exact hI.wants (q := q ++ [t]) (List.getElem?_set_self hl) (by simp)
  · rw [if_neg e]
    rcases wants_cases Q s with ⟨h1, h2⟩ | ⟨i, q', h1, h2, h3⟩
    · rw [h1]
      refine wants_no fun i q' hi => ?_
      rcases set_cases hi with ⟨_, rfl⟩ | ⟨_, hi⟩
      · intro hm
        rcases List.mem_append.1 hm with hm | hm
        · exact h2 r q hr hm
        · simp at hm; exact e hm
      · exact h2 i q' hi
    · rw [h1]
      by_cases er : i = r
      · subst er
        rw [hr] at h2; injection h2 with h2
        exact hI.wants (q := q ++ [t]) (List.getElem?_set_self hl) (by rw [h2]; simp [h3])
      · exact hI.wants (q := q') (by rw [List.getElem?_set_ne (fun h => er h.symm)]; exact h2) h3
theorem want_free {Q : List (List Int)} (h : QInv Q) {r : Nat} {q : List Int} {t : Int} (hr : Q[r]? = some (t :: q)) (s : Int) :
    wantsQ (Q.set r q) s = if s = t then -1 else wantsQ Q s := by
  have hI := h.sub hr (List.sublist_cons_self t q)
  have hl := (List.getElem?_eq_some_iff.1 hr).1
  by_cases e : s = t
  · rw [if_pos e, e]
    refine wants_no fun i q' hi hm => ?_
    rcases set_cases hi with ⟨_, rfl⟩ | ⟨n, hi⟩
    · have := (h.nodup r _ hr).1; simp at this; exact this.1 hm
    · exact n (h.one i r q' _ t hi hr hm (by simp))
  · rw [if_neg e]
    rcases wants_cases Q s with ⟨h1, h2⟩ | ⟨i, q', h1, h2, h3⟩
    · rw [h1]
      refine wants_no fun i q' hi => ?_
      rcases set_cases hi with ⟨_, rfl⟩ | ⟨_, hi⟩
      · intro hm; exact h2 r _ hr (by simp [hm])
      · exact h2 i q' hi
    · rw [h1]
      by_cases er : i = r
      · subst er
        rw [hr] at h2; injection h2 with h2
        rw [← h2] at h3
        exact hI.wants (q := q) (List.getElem?_set_self hl) (by simpa [e] using h3)
      · exact hI.wants (q := q') (by rw [List.getElem?_set_ne (fun h => er h.symm)]; exact h2) h3
theorem nodup_bound : ∀ (n : Nat) (l : List Int), l.Nodup → (∀ t ∈ l, 0 ≤ t ∧ t < (n : Int)) → l.length ≤ n
  | 0, [], _, _ => by simp
  | 0, x :: l, _, h => absurd (h x (by simp)) (by omega)
  | n + 1, l, hd, h => by
    by_cases hm : (n : Int) ∈ l
    · have := nodup_bound n (l.erase n) (hd.erase _) (fun t ht => by
        have h1 := h t (List.mem_of_mem_erase ht)
        have h2 : t ≠ n := (hd.mem_erase_iff.1 ht).1
        omega)
      rw [List.length_erase_of_mem hm] at this
      omega
    · have := nodup_bound n l hd (fun t ht => by
        have h1 := h t ht
        have h2 : t ≠ n := fun e => hm (e ▸ ht)
        omega)
      omega
/-- A queue has room: at most 24 different tasks. -/
theorem QInv.room {Q : List (List Int)} (h : QInv Q) {r : Nat} {q : List Int} {t : Int} (hr : Q[r]? = some q) (h0 : 0 ≤ t ∧ t < 24) (hw : wantsQ Q t < 0) : q.length < 24 := by
  obtain ⟨a, b⟩ := (h.ask hr h0 hw).nodup r _ (List.getElem?_set_self (List.getElem?_eq_some_iff.1 hr).1)
  have := nodup_bound 24 _ a b
  simp at this
  omega
end Go.Proofs.Ytbkjlohlfkokpaa
