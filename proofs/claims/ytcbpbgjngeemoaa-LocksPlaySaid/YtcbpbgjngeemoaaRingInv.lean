/- What stays so of a ring: ids apart, tickets rising. Plain. -/
import Derived.Test.YtcbpbgjngeemoaaRingEx
set_option linter.unusedVariables false
set_option linter.unusedSimpArgs false
namespace Go.Proofs.Ytcbpbgjngeemoaa
open Go.RowKit

/-- m: the room; L: the last ticket given; T: the last one taken. -/
structure RInv (m : Nat) (L T : Int) (R : RS) : Prop where
  room : R.room = m
  last : (R.last : Int) = L
  pw : R.l.Pairwise (fun p q => p.1 ≠ q.1 ∧ p.2 < q.2)
  bd : ∀ p ∈ R.l, T < p.2 ∧ p.2 ≤ L
  t0 : 0 ≤ T ∧ T ≤ L
theorem place_neg : ∀ (l : List (Int × Int)) (id : Int), place l id < 0 → ∀ p ∈ l, p.1 ≠ id
  | [], _, _, p, hp => by cases hp
  | x :: l, id, h, p, hp => by
    unfold place at h
    split at h
    · omega
    · rename_i hne
      split at h
      · rename_i h2
        rcases List.mem_cons.1 hp with rfl | hp
        · exact hne
        · exact place_neg l id h2 p hp
      · have := place_ge l id; omega
theorem pw_lt {l : List (Int × Int)} (h : l.Pairwise (fun p q => p.1 ≠ q.1 ∧ p.2 < q.2)) {i j : Nat} {p q : Int × Int} (hi : l[i]? = some p) (hj : l[j]? = some q) (hij : i < j) : p.1 ≠ q.1 ∧ p.2 < q.2 := by
  obtain ⟨h1, rfl⟩ := List.getElem?_eq_some_iff.1 hi
  obtain ⟨h2, rfl⟩ := List.getElem?_eq_some_iff.1 hj
  exact List.pairwise_iff_getElem.1 h i j h1 h2 hij
theorem pw_place {l : List (Int × Int)} (h : l.Pairwise (fun p q => p.1 ≠ q.1 ∧ p.2 < q.2)) {k : Nat} {x : Int × Int} (hk : l[k]? = some x) : place l x.1 = k :=
  place_hit l x.1 k x (fun j q hj hq => (pw_lt h hq hk hj).1) hk rfl
theorem pw_ticket {l : List (Int × Int)} (h : l.Pairwise (fun p q => p.1 ≠ q.1 ∧ p.2 < q.2)) {k : Nat} {x : Int × Int} (hk : l[k]? = some x) : ticketOf l x.1 = x.2 := by
  have e := pw_place h hk
  obtain ⟨p, h1, h2, h3⟩ := ticket_some l x.1 (by omega)
  rw [e] at h1
  rw [Int.toNat_natCast, hk] at h1
  injection h1 with h1
  rw [← h3, h1]
theorem RInv.put {m : Nat} {L T : Int} {R : RS} (h : RInv m L T R) (id : Int) :
    ∃ a b R', putR R id = (a, b, R') ∧ ((b = 0 ∧ a = L + 1 ∧ RInv m (L + 1) T R') ∨ ((b = 3 ∨ b = 4) ∧ a = 0 ∧ RInv m L T R')) := by
  unfold putR
  by_cases h1 : 0 ≤ place R.l id
  · exact ⟨0, 4, R, by rw [if_pos h1], .inr ⟨.inr rfl, rfl, h⟩⟩
  · by_cases h2 : R.room ≤ R.l.length
    · exact ⟨0, 3, R, by rw [if_neg h1, if_pos h2], .inr ⟨.inl rfl, rfl, h⟩⟩
    · refine ⟨_, _, _, by rw [if_neg h1, if_neg h2], .inl ⟨rfl, by rw [h.last], ?_⟩⟩
      refine ⟨h.room, by show ((R.last + 1 : Nat) : Int) = L + 1; have := h.last; omega, ?_, ?_, by have := h.t0; omega⟩
      · refine List.pairwise_append.2 ⟨h.pw, by simp, ?_⟩
        intro p hp q hq
        simp at hq
        subst hq
        have hb := h.bd p hp
        have hl := h.last
        exact ⟨place_neg R.l id (by omega) p hp, by show p.2 < (R.last : Int) + 1; omega⟩
      · intro p hp
        have hl := h.last
        have ht := h.t0
        rcases List.mem_append.1 hp with hp | hp
        · have hb := h.bd p hp; omega
        · simp at hp; subst hp; show T < (R.last : Int) + 1 ∧ (R.last : Int) + 1 ≤ L + 1; omega
theorem RInv.take {m : Nat} {L T : Int} {R : RS} (h : RInv m L T R) :
    (R.l = [] ∧ headOf R.l = 0 ∧ (!R.l.isEmpty) = false ∧ ticketOf R.l 0 = 0 ∧ RInv m L T (takeR R)) ∨ ∃ x l, R.l = x :: l ∧ headOf R.l = x.1 ∧ (!R.l.isEmpty) = true ∧ ticketOf R.l x.1 = x.2 ∧ T < x.2 ∧ x.2 ≤ L ∧ RInv m L x.2 (takeR R) := by
  cases hl : R.l with
  | nil => exact .inl ⟨rfl, rfl, rfl, rfl, h.room, h.last, by show R.l.tail.Pairwise _; rw [hl]; simp, by intro p hp; rw [show (takeR R).l = [] by show R.l.tail = []; rw [hl]; rfl] at hp; simp at hp, h.t0⟩
  | cons x l =>
    have pw := h.pw
    have bd := h.bd
    rw [hl] at pw bd
    have hx := bd x (by simp)
    have ht := h.t0
    refine .inr ⟨x, l, rfl, rfl, rfl, pw_ticket (k := 0) pw rfl, hx.1, hx.2, h.room, h.last, ?_, ?_, by omega⟩
    · show R.l.tail.Pairwise _; rw [hl]; exact (List.pairwise_cons.1 pw).2
    · intro p hp
      rw [show (takeR R).l = l by show R.l.tail = l; rw [hl]; rfl] at hp
      exact ⟨((List.pairwise_cons.1 pw).1 p hp).2, (bd p (by simp [hp])).2⟩
theorem RInv.drop {m : Nat} {L T : Int} {R : RS} (h : RInv m L T R) (id : Int) : RInv m L T ⟨R.room, R.last, dropL R.l id⟩ := by
  have hs : (dropL R.l id).Sublist R.l := by
    unfold dropL; split
    · exact List.Sublist.refl _
    · exact List.eraseIdx_sublist ..
  exact ⟨h.room, h.last, h.pw.sublist hs, fun p hp => h.bd p (hs.subset hp), h.t0⟩
theorem ring_head_is {w : World} {r s : Nat} {R : RS} (H : IsRing w r s R) {a : Int} {b : Bool} (h1 : headOf R.l = a) (h2 : (!R.l.isEmpty) = b) :
    Calls Try.prog 30 #[.pointer (some ⟨r, 0, none⟩)] w fun e w' => e = .returned (.tuple #[.int .i64 a, .bool b]) ∧ ∃ q, w' = w.drewN q := by
  have := ring_head H
  rwa [h1, h2] at this
theorem ring_take_is {w : World} {r s : Nat} {R : RS} (H : IsRing w r s R) {a : Int} {b : Bool} (h1 : headOf R.l = a) (h2 : (!R.l.isEmpty) = b) :
    Calls Try.prog 32 #[.pointer (some ⟨r, 0, none⟩)] w fun e w' => e = .returned (.tuple #[.int .i64 a, .bool b]) ∧ IsRing w' r s (takeR R) ∧ Fr (Two r s) w w' := by
  have := ring_take H
  rwa [h1, h2] at this
end Go.Proofs.Ytcbpbgjngeemoaa
