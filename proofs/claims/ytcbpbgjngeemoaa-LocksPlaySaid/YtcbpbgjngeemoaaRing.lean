/- Package ring: what its functions do, each once (contracts), on a list of ids with their tickets. -/
import Derived.Test.YtcbpbgjngeemoaaProg
import Derived.Test.YtcbpbgjngeemoaaWords
import Derived.RegionTactic
import Derived.Deep.QuietTactic
import Derived.Deep.LoopGhost
import Derived.BigQuiet
import Derived.BigRegion
import Derived.Deep.RegionHeld3
set_option linter.unusedVariables false
set_option linter.unusedSimpArgs false
namespace Go.Proofs.Ytcbpbgjngeemoaa
open Go.RowKit

/-- Seat i of a row of cells. -/
def Seat (C : Array Value) (i : Nat) (p : Int × Int) : Prop := C[i * 2]? = some (.int .i64 p.1) ∧ C[i * 2 + 1]? = some (.int .i64 p.2)
/-- Block r is a ring with that room, last ticket and list of ids with tickets; block s has its seats, n of them, from 'first' on. -/
structure RingAt (w : World) (r s room last n first : Nat) (l : List (Int × Int)) (C : Array Value) : Prop where
  hr : w.heap[r]? = some (.cells #[.int .i64 room, .int .i64 last, .int .i64 first, .int .i64 l.length, .slice (some ⟨s, 0, none⟩) n n] 96 (0, 0))
  hs : w.heap[s]? = some (.cells C 98 (0, 0))
  size : C.size = n * 2
  pow : ∃ k, k ≤ 8 ∧ n = 2 ^ k
  flt : first < n
  len : l.length ≤ room
  room_le : room ≤ n
  any : ∀ i, i < n → ∃ p, Seat C i p
  seats : ∀ i p, l[i]? = some p → Seat C ((first + i) % n) p
theorem RingAt.of_heap {w w' : World} {r s room last n first : Nat} {l : List (Int × Int)} {C : Array Value} (h : RingAt w r s room last n first l C) (e : w'.heap = w.heap) : RingAt w' r s room last n first l C :=
  ⟨e ▸ h.hr, e ▸ h.hs, h.size, h.pow, h.flt, h.len, h.room_le, h.any, h.seats⟩
theorem RingAt.n_le {w : World} {r s room last n first : Nat} {l : List (Int × Int)} {C : Array Value} (h : RingAt w r s room last n first l C) : n ≤ 256 := by
  obtain ⟨k, hk, rfl⟩ := h.pow
  exact (Nat.pow_le_pow_right (by omega) hk : 2 ^ k ≤ 2 ^ 8)
/-- Where an id stands. -/
def place : List (Int × Int) → Int → Int
  | [], _ => -1
  | p :: l, id => if p.1 = id then 0 else if place l id < 0 then -1 else place l id + 1
theorem place_ge (l : List (Int × Int)) (id : Int) : -1 ≤ place l id ∧ place l id < l.length := by
  induction l with
  | nil => simp [place]
  | cons p l ih => unfold place; split <;> (try split) <;> simp <;> omega
theorem place_hit : ∀ (l : List (Int × Int)) (id : Int) (k : Nat) (p : Int × Int), (∀ (j : Nat) (q : Int × Int), j < k → l[j]? = some q → q.1 ≠ id) → l[k]? = some p → p.1 = id → place l id = k
  | [], _, _, _, _, h, _ => by simp at h
  | x :: l, id, 0, p, _, h, hp => by simp at h; subst h; simp [place, hp]
  | x :: l, id, k + 1, p, hn, h, hp => by
    have ih := place_hit l id k p (fun j q hj hq => hn (j + 1) q (by omega) (by simpa using hq)) (by simpa using h) hp
    have h0 := hn 0 x (by omega) (by simp)
    unfold place
    rw [if_neg h0, ih, if_neg (by omega)]
    omega
theorem place_none : ∀ (l : List (Int × Int)) (id : Int), (∀ (j : Nat) (q : Int × Int), l[j]? = some q → q.1 ≠ id) → place l id = -1
  | [], _, _ => rfl
  | x :: l, id, hn => by
    have ih := place_none l id (fun j q hq => hn (j + 1) q (by simpa using hq))
    have h0 := hn 0 x (by simp)
    unfold place
    rw [if_neg h0, ih, if_pos (by omega)]

set_option maxHeartbeats 400000 in
theorem at_any {w : World} {r s room last n first : Nat} {l : List (Int × Int)} {C : Array Value} (H : RingAt w r s room last n first l C) (i : Nat) (hi : i ≤ 256) :
    Calls Try.prog 70 #[.pointer (some ⟨r, 0, none⟩), .int .i64 i] w fun e w' => e = .returned (.pointer (some ⟨s, (first + i) % n * 2, none⟩)) ∧ ∃ q, w' = w.drewN q := by
  have hn2 := H.n_le
  have hf := H.flt
  have c2 : w.cell? ⟨r, 2, none⟩ = some (.int .i64 first) := blk_cell H.hr 2
  have c4 : w.cell? ⟨r, 4, none⟩ = some (.slice (some ⟨s, 0, none⟩) n n) := blk_cell H.hr 4
  have e1 : IntKind.i64.wrap ((first : Int) + i) = (first : Int) + i := wraps_i64 _ (by omega) (by omega)
  have e2 : IntKind.i64.wrap ((n : Int) - 1) = (n : Int) - 1 := wraps_i64 _ (by omega) (by omega)
  have e3 : bits .and .i64 ((first : Int) + i) ((n : Int) - 1) = (((first + i) % n : Nat) : Int) := by
    have := and_pow (first + i) n H.pow (by omega)
    rwa [show ((first + i : Nat) : Int) = (first : Int) + i from by omega] at this
  have hm : (first + i) % n < n := Nat.mod_lt _ (by omega)
  generalize (first + i) % n = m at *
  clear H
  go_enter Try.func70, Try.ntmps70
  go_wp2
  go_quiet (fail)
  go_wp2
  go_ret
  exact ⟨rfl, _, rfl⟩

set_option maxHeartbeats 400000 in
theorem place_any {w : World} {r s room last n first : Nat} {l : List (Int × Int)} {C : Array Value} (H : RingAt w r s room last n first l C) (id : Int) :
    Calls Try.prog 18 #[.pointer (some ⟨r, 0, none⟩), .int .i64 id] w fun e w' => e = .returned (.int .i64 (place l id)) ∧ ∃ q, w' = w.drewN q := by
  have hn2 := H.n_le
  have hf := H.flt
  have hl := H.len
  have hr := H.room_le
  have c3 : w.cell? ⟨r, 3, none⟩ = some (.int .i64 l.length) := blk_cell H.hr 3
  have HH := hid H
  go_enter Try.func18, Try.ntmps18
  go_wp2
  go_loopw [5, 10] (fun _ i wr => ∃ k q : Nat, k ≤ l.length ∧ i = .int .i64 k ∧ wr = w.drewN q ∧ Hid (∀ (j : Nat) (p : Int × Int), j < k → l[j]? = some p → p.1 ≠ id)) (fun _ i _ => l.length - (intOf i).toNat)
  case atStart => exact ⟨0, 0, by omega, rfl, rfl, fun j p hj => by omega⟩
  case round =>
    obtain ⟨k, q, hk, rfl, rfl, hno⟩ := hrel
    by_cases hlt : k < l.length
    · obtain ⟨x, hx⟩ : ∃ x, l[k]? = some x := ⟨l[k], by simp [hlt]⟩
      have hseat := (H.seats k x hx).1
      have cx : w.cell? ⟨s, (first + k) % n * 2, none⟩ = some (.int .i64 x.1) := (blk_cell H.hs _).trans hseat
      have HX := hid hx
      clear hx hseat H
      go_wp2_with (go_at_call 70; refine (at_any (by exact HH.out.of_heap rfl) k (by omega)).mono ?_; rintro e w' ⟨rfl, q2, rfl⟩)
      · go_ret
        have he : (x.1 == id) = true := by assumption
        exact ⟨ret_eq (by rw [place_hit l id k x hno.out HX.out (by simpa using he)]; rfl), _, rfl⟩
      · go_roundw
        case rel => exact ⟨k + 1, _, by omega, by go_num, rfl, fun j p hj hp => by
          rcases Nat.lt_or_ge j k with h | h
          · exact hno.out j p h hp
          · obtain rfl : j = k := by omega
            rw [HX.out] at hp
            cases hp
            have hne : (x.1 == id) = false := by assumption
            simpa using hne⟩
        case measure => simp [intOf]; omega
    · clear H
      go_wp2
      go_ret
      exact ⟨ret_eq (by rw [place_none l id (fun j p hp => hno.out j p (by have := (List.getElem?_eq_some_iff.1 hp).1; omega) hp)]; rfl), _, rfl⟩

set_option maxHeartbeats 400000 in
theorem len_any {w : World} {r s room last n first : Nat} {l : List (Int × Int)} {C : Array Value} (H : RingAt w r s room last n first l C) :
    Calls Try.prog 19 #[.pointer (some ⟨r, 0, none⟩)] w fun e w' => e = .returned (.int .i64 l.length) ∧ w' = w := by
  have c3 : w.cell? ⟨r, 3, none⟩ = some (.int .i64 l.length) := blk_cell H.hr 3
  clear H
  go_enter Try.func19, Try.ntmps19
  go_wp2
  go_ret
  exact ⟨rfl, rfl⟩

def headOf (l : List (Int × Int)) : Int := match l with | [] => 0 | p :: _ => p.1
theorem seat_mod {first n : Nat} (h : first < n) : (first + 0) % n = first := Nat.mod_eq_of_lt h

set_option maxHeartbeats 400000 in
theorem head_any {w : World} {r s room last n first : Nat} {l : List (Int × Int)} {C : Array Value} (H : RingAt w r s room last n first l C) :
    Calls Try.prog 30 #[.pointer (some ⟨r, 0, none⟩)] w fun e w' => e = .returned (.tuple #[.int .i64 (headOf l), .bool (!l.isEmpty)]) ∧ ∃ q, w' = w.drewN q := by
  have c3 : w.cell? ⟨r, 3, none⟩ = some (.int .i64 l.length) := blk_cell H.hr 3
  have HH := hid H
  cases l with
  | nil =>
    clear H
    go_enter Try.func30, Try.ntmps30
    go_wp2
    go_ret2
    exact ⟨rfl, 0, rfl⟩
  | cons x l =>
    obtain ⟨m, hm⟩ : ∃ m : Nat, m = (x :: l).length := ⟨_, rfl⟩
    rw [← hm] at c3
    have hm0 : 0 < m := by simp [hm]
    clear hm
    have hseat := (H.seats 0 x rfl).1
    have cx : w.cell? ⟨s, (first + 0) % n * 2, none⟩ = some (.int .i64 x.1) := (blk_cell H.hs _).trans hseat
    have ha := at_any HH.out 0 (by omega)
    rw [seat_mod H.flt] at cx ha
    clear hseat H
    go_enter Try.func30, Try.ntmps30
    have HA := hid ha
    clear ha
    go_wp2_with (go_at_call 70; refine HA.out.mono ?_; rintro e w' ⟨rfl, q2, rfl⟩)
    go_ret2
    exact ⟨rfl, _, rfl⟩

/-- The ticket of an id. -/
def ticketOf : List (Int × Int) → Int → Int
  | [], _ => 0
  | p :: l, id => if p.1 = id then p.2 else ticketOf l id
theorem ticket_none : ∀ (l : List (Int × Int)) (id : Int), place l id < 0 → ticketOf l id = 0
  | [], _, _ => rfl
  | x :: l, id, h => by
    unfold place at h
    split at h
    · omega
    · rename_i hne
      unfold ticketOf
      rw [if_neg hne]
      refine ticket_none l id ?_
      split at h
      · assumption
      · have := place_ge l id; omega
theorem ticket_some : ∀ (l : List (Int × Int)) (id : Int), 0 ≤ place l id → ∃ p, l[(place l id).toNat]? = some p ∧ p.1 = id ∧ p.2 = ticketOf l id
  | [], _, h => by simp [place] at h
  | x :: l, id, h => by
    unfold place at h ⊢
    unfold ticketOf
    by_cases hx : x.1 = id
    · rw [if_pos hx, if_pos hx]; exact ⟨x, by simp, hx, rfl⟩
    · rw [if_neg hx] at h
      rw [if_neg hx, if_neg hx]
      by_cases hp : place l id < 0
      · rw [if_pos hp] at h; omega
      · rw [if_neg hp]
        obtain ⟨p, h1, h2, h3⟩ := ticket_some l id (by omega)
        refine ⟨p, ?_, h2, h3⟩
        rw [show (place l id + 1).toNat = (place l id).toNat + 1 by omega]
        simpa using h1

set_option maxHeartbeats 400000 in
theorem ticket_any {w : World} {r s room last n first : Nat} {l : List (Int × Int)} {C : Array Value} (H : RingAt w r s room last n first l C) (id : Int) :
    Calls Try.prog 31 #[.pointer (some ⟨r, 0, none⟩), .int .i64 id] w fun e w' => e = .returned (.int .i64 (ticketOf l id)) ∧ ∃ q, w' = w.drewN q := by
  have HH := hid H
  have hpl := place_any H id
  have hn2 := H.n_le
  have hl := H.len
  have hr := H.room_le
  by_cases hp : place l id < 0
  · have ht := hid (ticket_none l id hp)
    clear H
    generalize place l id = pl at *
    have HP := hid hpl
    clear hpl
    go_enter Try.func31, Try.ntmps31
    go_wp2_with (go_at_call 18; refine HP.out.mono ?_; rintro e w' ⟨rfl, q2, rfl⟩)
    go_ret
    exact ⟨ret_eq (by rw [ht.out]; rfl), _, rfl⟩
  · obtain ⟨p, h1, _, h3⟩ := ticket_some l id (by omega)
    have hk := place_ge l id
    obtain ⟨k, hk2⟩ : ∃ k : Nat, place l id = k := ⟨(place l id).toNat, by omega⟩
    rw [hk2] at h1 hpl hk
    simp only [Int.toNat_natCast] at h1
    have hseat := (H.seats k p h1).2
    have cx : w.cell? ⟨s, (first + k) % n * 2 + 1, none⟩ = some (.int .i64 p.2) := (blk_cell H.hs _).trans hseat
    have ht := hid h3
    have HP := hid hpl
    clear hpl h3 h1 hp hk2 H hseat
    go_enter Try.func31, Try.ntmps31
    go_wp2_with (first | (go_at_call 18; refine HP.out.mono ?_; rintro e w' ⟨rfl, q2, rfl⟩) | (go_at_call 70; refine (at_any (by exact HH.out.of_heap rfl) k (by omega)).mono ?_; rintro e w' ⟨rfl, q3, rfl⟩))
    go_ret
    exact ⟨ret_eq (by rw [← ht.out]; rfl), _, rfl⟩
/-- A ring's state: its room, the last ticket, the ids with their tickets. -/
structure RS where
  room : Nat
  last : Nat
  l : List (Int × Int)
/-- Blocks r and s are a ring in that state. -/
def IsRing (w : World) (r s : Nat) (R : RS) : Prop := ∃ n first C, RingAt w r s R.room R.last n first R.l C
/-- Put: the ticket, the error, the state behind. -/
def putR (R : RS) (id : Int) : Int × Int × RS :=
  if 0 ≤ place R.l id then (0, 4, R) else if R.room ≤ R.l.length then (0, 3, R) else (R.last + 1, 0, ⟨R.room, R.last + 1, R.l ++ [(id, (R.last : Int) + 1)]⟩)

theorem RingAt.drewN {w : World} {r s room last n first : Nat} {l : List (Int × Int)} {C : Array Value} (h : RingAt w r s room last n first l C) (q : Nat) : RingAt (w.drewN q) r s room last n first l C :=
  ⟨h.hr, h.hs, h.size, h.pow, h.flt, h.len, h.room_le, h.any, h.seats⟩
theorem RingAt.ne {w : World} {r s room last n first : Nat} {l : List (Int × Int)} {C : Array Value} (h : RingAt w r s room last n first l C) : s ≠ r := by
  intro e
  have h1 := h.hr
  have h2 := h.hs
  rw [e, h1] at h2
  simp at h2
theorem RingAt.setLast {w : World} {r s room last n first : Nat} {l : List (Int × Int)} {C : Array Value} (h : RingAt w r s room last n first l C) (x : Nat) : RingAt (w.setCell ⟨r, 1, none⟩ (.int .i64 ((x : Nat) : Int))) r s room x n first l C :=
  ⟨by simpa using blk_set h.hr 1 (.int .i64 ((x : Nat) : Int)), blk_set_ne h.hs h.ne _ _, h.size, h.pow, h.flt, h.len, h.room_le, h.any, h.seats⟩
theorem mod_two {first i n : Nat} (h1 : first < n) (h2 : i < n) : (first + i) % n = if first + i < n then first + i else first + i - n := by
  split
  · exact Nat.mod_eq_of_lt ‹_›
  · rw [Nat.mod_eq_sub_mod (by omega)]
    exact Nat.mod_eq_of_lt (by omega)
theorem mod_inj {first i m n : Nat} (h1 : first < n) (h2 : i < n) (h3 : m < n) (h : (first + i) % n = (first + m) % n) : i = m := by
  rw [mod_two h1 h2, mod_two h1 h3] at h
  split at h <;> split at h <;> omega
theorem Seat.set_same {C : Array Value} {j : Nat} {p q : Int × Int} (h : Seat C j p) : Seat ((C.setIfInBounds (j * 2) (.int .i64 q.1)).setIfInBounds (j * 2 + 1) (.int .i64 q.2)) j q := by
  have h1 := (Array.getElem?_eq_some_iff.1 h.1).1
  have h2 := (Array.getElem?_eq_some_iff.1 h.2).1
  constructor
  · rw [Array.getElem?_setIfInBounds_ne (by omega), Array.getElem?_setIfInBounds_self_of_lt h1]
  · rw [Array.getElem?_setIfInBounds_self_of_lt (by simpa using h2)]
theorem Seat.set_ne {C : Array Value} {i j : Nat} {p : Int × Int} (h : Seat C i p) (hne : i ≠ j) (u v : Value) : Seat ((C.setIfInBounds (j * 2) u).setIfInBounds (j * 2 + 1) v) i p := by
  constructor
  · rw [Array.getElem?_setIfInBounds_ne (by omega), Array.getElem?_setIfInBounds_ne (by omega)]; exact h.1
  · rw [Array.getElem?_setIfInBounds_ne (by omega), Array.getElem?_setIfInBounds_ne (by omega)]; exact h.2
theorem RingAt.put {w : World} {r s room last n first : Nat} {l : List (Int × Int)} {C : Array Value} (h : RingAt w r s room last n first l C) (p : Int × Int) {m j : Nat} (hm : m = l.length) (hlt : m < room) (hj : j = (first + m) % n) :
    RingAt (((w.setCell ⟨s, j * 2, none⟩ (.int .i64 p.1)).setCell ⟨s, j * 2 + 1, none⟩ (.int .i64 p.2)).setCell ⟨r, 3, none⟩ (.int .i64 ((m : Int) + 1))) r s room last n first (l ++ [p]) ((C.setIfInBounds (j * 2) (.int .i64 p.1)).setIfInBounds (j * 2 + 1) (.int .i64 p.2)) := by
  have hn : 0 < n := by have := h.flt; omega
  have hrl := h.room_le
  have hl := h.len
  have hjn : j < n := by rw [hj]; exact Nat.mod_lt _ hn
  have hne : ∀ i, i < m → (first + i) % n ≠ j := fun i hi e => by
    rw [hj] at e
    have := mod_inj h.flt (by omega) (by omega) e
    omega
  have h1 : (((w.setCell ⟨s, j * 2, none⟩ (.int .i64 p.1)).setCell ⟨s, j * 2 + 1, none⟩ (.int .i64 p.2)).setCell ⟨r, 3, none⟩ (.int .i64 ((m : Int) + 1))).heap[r]? = some (.cells #[.int .i64 room, .int .i64 last, .int .i64 first, .int .i64 ((l ++ [p]).length : Nat), .slice (some ⟨s, 0, none⟩) n n] 96 (0, 0)) := by
    rw [blk_set (blk_set_ne (blk_set_ne h.hr h.ne.symm _ _) h.ne.symm _ _) 3 _]
    simp [hm]
  refine ⟨h1, blk_set_ne (blk_set (blk_set h.hs _ _) _ _) h.ne _ _, by simp [h.size], h.pow, h.flt, by simp; omega, h.room_le, ?_, ?_⟩
  · intro i hi
    obtain ⟨q, hq⟩ := h.any i hi
    by_cases e : i = j
    · rw [e] at hq ⊢; exact ⟨p, hq.set_same⟩
    · exact ⟨q, hq.set_ne e _ _⟩
  · intro i q hq
    rcases Nat.lt_or_ge i l.length with hi | hi
    · rw [List.getElem?_append_left hi] at hq
      exact (h.seats i q hq).set_ne (hne i (by omega)) _ _
    · rw [List.getElem?_append_right hi] at hq
      obtain ⟨q', hq'⟩ := h.any j hjn
      have e : i = m := by
        have := (List.getElem?_eq_some_iff.1 hq).1
        simp at this
        omega
      rw [e, ← hm, Nat.sub_self] at hq
      simp at hq
      rw [e, ← hj, ← hq]
      exact hq'.set_same
set_option maxHeartbeats 400000 in
theorem put_room {w : World} {r s room last n first : Nat} {l : List (Int × Int)} {C : Array Value} (H : RingAt w r s room last n first l C) (id : Int) (h1 : place l id < 0) (h2 : l.length < room) (h3 : last < 4611686018427387904) :
    Calls Try.prog 20 #[.pointer (some ⟨r, 0, none⟩), .int .i64 id] w fun e w' => e = .returned (.tuple #[.int .i64 ((last : Int) + 1), .int .i64 0]) ∧ (∃ C', RingAt w' r s room (last + 1) n first (l ++ [(id, (last : Int) + 1)]) C') ∧ Fr (Two r s) w w' := by
  have HH := hid H
  have hpl := place_any H id
  have hn2 := H.n_le
  have hl := H.len
  have hr := H.room_le
  obtain ⟨m, hm⟩ : ∃ m : Nat, m = l.length := ⟨_, rfl⟩
  have c0 : w.cell? ⟨r, 0, none⟩ = some (.int .i64 room) := blk_cell H.hr 0
  have c1 : w.cell? ⟨r, 1, none⟩ = some (.int .i64 last) := blk_cell H.hr 1
  have f1 : w.frozen? ⟨r, 1, none⟩ = false := blk_free H.hr 1
  have c3 : w.cell? ⟨r, 3, none⟩ = some (.int .i64 m) := by rw [hm]; exact blk_cell H.hr 3
  have f3 : w.frozen? ⟨r, 3, none⟩ = false := blk_free H.hr 3
  rw [← hm] at h2 hl
  have HM := hid hm
  have HP := hid hpl
  clear H hpl hm
  generalize place l id = pl at *
  go_enter Try.func20, Try.ntmps20
  go_wp2_with (go_at_call 18; refine HP.out.mono ?_; rintro e w' ⟨rfl, q2, rfl⟩)
  go_quiet (fail)
  go_wp2_with fail
  generalize hwq : (w.drewN _).setCell ⟨r, 1, none⟩ (.int .i64 ((last : Int) + 1)) = wq
  have HQ : RingAt wq r s room (last + 1) n first l C := by
    rw [← hwq]; exact (HH.out.drewN _).setLast _
  have c3q : wq.cell? ⟨r, 3, none⟩ = some (.int .i64 m) := by rw [HM.out]; exact blk_cell HQ.hr 3
  have f3q : wq.frozen? ⟨r, 3, none⟩ = false := blk_free HQ.hr 3
  have c1q : wq.cell? ⟨r, 1, none⟩ = some (.int .i64 ((last : Int) + 1)) := blk_cell HQ.hr 1
  obtain ⟨po, ho1, ho2⟩ := HQ.any ((first + m) % n) (Nat.mod_lt _ (by have := HQ.flt; omega))
  have hat := fun W e => at_any (HQ.of_heap (w' := W) e) m (by omega)
  have d0 : wq.cell? ⟨s, (first + m) % n * 2, none⟩ = some (.int .i64 po.1) := (blk_cell HQ.hs _).trans ho1
  have d1 : wq.cell? ⟨s, (first + m) % n * 2 + 1, none⟩ = some (.int .i64 po.2) := (blk_cell HQ.hs _).trans ho2
  have g0 : wq.frozen? ⟨s, (first + m) % n * 2, none⟩ = false := blk_free HQ.hs _
  have g1 : wq.frozen? ⟨s, (first + m) % n * 2 + 1, none⟩ = false := blk_free HQ.hs _
  obtain ⟨j, hj⟩ : ∃ j, j = (first + m) % n := ⟨_, rfl⟩
  rw [← hj] at hat d0 d1 g0 g1
  have HJ := hid hj
  have HAT := hid hat
  have hsr := HQ.ne
  have hrs := hsr.symm
  have HHQ := hid HQ
  have HWQ := hid hwq
  clear hat hj ho1 ho2
  clear HQ hwq c0 c1 c3 f1 f3
  go_region_held3 (fun w' => w'.cell? ⟨r, 3, none⟩ = some (.int .i64 m) ∧ w'.cell? ⟨r, 1, none⟩ = some (.int .i64 ((last : Int) + 1)))
    (first | go_keep)
    (first | (go_at_call 70; refine (HAT.out _ (by rfl)).mono ?_; rintro e w' ⟨rfl, q3, rfl⟩))
  go_wp2
  go_ret2
  have HR := HHQ.out.drewN (1 + q3)
  have := HR.put (id, (last : Int) + 1) HM.out h2 HJ.out
  refine ⟨rfl, ⟨_, this⟩, ?_⟩
  rw [← HWQ.out]
  exact (((((((Fr.refl _ w).drewN _).set (.inl (.inl rfl)) _).drewN _).set (.inl (.inr rfl)) _).set (.inl (.inr rfl)) _).set (.inl (.inl rfl)) _)

set_option maxHeartbeats 400000 in
theorem put_there {w : World} {r s room last n first : Nat} {l : List (Int × Int)} {C : Array Value} (H : RingAt w r s room last n first l C) (id : Int) (h1 : 0 ≤ place l id) :
    Calls Try.prog 20 #[.pointer (some ⟨r, 0, none⟩), .int .i64 id] w fun e w' => e = .returned (.tuple #[.int .i64 0, .int .i64 4]) ∧ ∃ q, w' = w.drewN q := by
  have HP := hid (place_any H id)
  clear H
  generalize place l id = pl at *
  go_enter Try.func20, Try.ntmps20
  go_wp2_with (go_at_call 18; refine HP.out.mono ?_; rintro e w' ⟨rfl, q2, rfl⟩)
  go_ret2
  exact ⟨rfl, _, rfl⟩
set_option maxHeartbeats 400000 in
theorem put_full {w : World} {r s room last n first : Nat} {l : List (Int × Int)} {C : Array Value} (H : RingAt w r s room last n first l C) (id : Int) (h1 : place l id < 0) (h2 : room ≤ l.length) :
    Calls Try.prog 20 #[.pointer (some ⟨r, 0, none⟩), .int .i64 id] w fun e w' => e = .returned (.tuple #[.int .i64 0, .int .i64 3]) ∧ ∃ q, w' = w.drewN q := by
  have HP := hid (place_any H id)
  obtain ⟨m, hm⟩ : ∃ m : Nat, m = l.length := ⟨_, rfl⟩
  have c0 : w.cell? ⟨r, 0, none⟩ = some (.int .i64 room) := blk_cell H.hr 0
  have c3 : w.cell? ⟨r, 3, none⟩ = some (.int .i64 m) := by rw [hm]; exact blk_cell H.hr 3
  rw [← hm] at h2
  clear H hm
  generalize place l id = pl at *
  go_enter Try.func20, Try.ntmps20
  go_wp2_with (go_at_call 18; refine HP.out.mono ?_; rintro e w' ⟨rfl, q2, rfl⟩)
  go_quiet (fail)
  go_wp2
  go_ret2
  exact ⟨rfl, _, World.drewN_drewN ..⟩
theorem IsRing.drewN {w : World} {r s : Nat} {R : RS} (h : IsRing w r s R) (q : Nat) : IsRing (w.drewN q) r s R := by
  obtain ⟨n, f, C, h⟩ := h
  exact ⟨n, f, C, h.drewN q⟩
theorem IsRing.kept {w w' : World} {r s : Nat} {R : RS} {S : Nat → Prop} (h : IsRing w r s R) (k : Fr S w w') (hr : ¬ S r) (hs : ¬ S s) : IsRing w' r s R := by
  obtain ⟨n, f, C, h⟩ := h
  exact ⟨n, f, C, k.blk h.hr hr, k.blk h.hs hs, h.size, h.pow, h.flt, h.len, h.room_le, h.any, h.seats⟩
theorem IsRing.lt {w : World} {r s : Nat} {R : RS} (h : IsRing w r s R) : r < w.heap.size ∧ s < w.heap.size := by
  obtain ⟨n, f, C, h⟩ := h
  exact ⟨blk_lt h.hr, blk_lt h.hs⟩
theorem IsRing.len {w : World} {r s : Nat} {R : RS} (h : IsRing w r s R) : R.l.length ≤ R.room ∧ R.room ≤ 256 := by
  obtain ⟨n, f, C, h⟩ := h
  exact ⟨h.len, Nat.le_trans h.room_le h.n_le⟩
/-- What Put does. -/
theorem ring_put {w : World} {r s : Nat} {R : RS} (H : IsRing w r s R) (id : Int) (h3 : R.last < 4611686018427387904) :
    Calls Try.prog 20 #[.pointer (some ⟨r, 0, none⟩), .int .i64 id] w fun e w' =>
      e = .returned (.tuple #[.int .i64 (putR R id).1, .int .i64 (putR R id).2.1]) ∧ IsRing w' r s (putR R id).2.2 ∧ Fr (Two r s) w w' := by
  obtain ⟨n, f, C, H⟩ := H
  unfold putR
  by_cases h1 : 0 ≤ place R.l id
  · simp only [if_pos h1]
    exact (put_there H id h1).mono fun e w' ⟨he, q, hw⟩ => ⟨he, by rw [hw]; exact ⟨n, f, C, H.drewN q⟩, by rw [hw]; exact (Fr.refl _ _).drewN q⟩
  · by_cases h2 : R.room ≤ R.l.length
    · simp only [if_neg h1, if_pos h2]
      exact (put_full H id (by omega) h2).mono fun e w' ⟨he, q, hw⟩ => ⟨he, by rw [hw]; exact ⟨n, f, C, H.drewN q⟩, by rw [hw]; exact (Fr.refl _ _).drewN q⟩
    · simp only [if_neg h1, if_neg h2]
      exact (put_room H id (by omega) (by omega) h3).mono fun e w' ⟨he, ⟨C', hR⟩, hf⟩ => ⟨he, ⟨n, f, C', hR⟩, hf⟩
theorem ring_place {w : World} {r s : Nat} {R : RS} (H : IsRing w r s R) (id : Int) :
    Calls Try.prog 18 #[.pointer (some ⟨r, 0, none⟩), .int .i64 id] w fun e w' => e = .returned (.int .i64 (place R.l id)) ∧ ∃ q, w' = w.drewN q := by
  obtain ⟨n, f, C, H⟩ := H
  exact place_any H id
theorem ring_ticket {w : World} {r s : Nat} {R : RS} (H : IsRing w r s R) (id : Int) :
    Calls Try.prog 31 #[.pointer (some ⟨r, 0, none⟩), .int .i64 id] w fun e w' => e = .returned (.int .i64 (ticketOf R.l id)) ∧ ∃ q, w' = w.drewN q := by
  obtain ⟨n, f, C, H⟩ := H
  exact ticket_any H id
theorem ring_len {w : World} {r s : Nat} {R : RS} (H : IsRing w r s R) :
    Calls Try.prog 19 #[.pointer (some ⟨r, 0, none⟩)] w fun e w' => e = .returned (.int .i64 R.l.length) ∧ w' = w := by
  obtain ⟨n, f, C, H⟩ := H
  exact len_any H
theorem ring_head {w : World} {r s : Nat} {R : RS} (H : IsRing w r s R) :
    Calls Try.prog 30 #[.pointer (some ⟨r, 0, none⟩)] w fun e w' => e = .returned (.tuple #[.int .i64 (headOf R.l), .bool (!R.l.isEmpty)]) ∧ ∃ q, w' = w.drewN q := by
  obtain ⟨n, f, C, H⟩ := H
  exact head_any H

/-- Take: the state behind. -/
def takeR (R : RS) : RS := ⟨R.room, R.last, R.l.tail⟩
theorem RingAt.take {w : World} {r s room last n first : Nat} {x : Int × Int} {l : List (Int × Int)} {C : Array Value} (h : RingAt w r s room last n first (x :: l) C) {m : Nat} (hm : m = (x :: l).length) :
    RingAt ((w.setCell ⟨r, 2, none⟩ (.int .i64 (((first + 1) % n : Nat) : Int))).setCell ⟨r, 3, none⟩ (.int .i64 ((m : Int) - 1))) r s room last n ((first + 1) % n) l C := by
  have hf := h.flt
  have hl := h.len
  have hrl := h.room_le
  refine ⟨?_, blk_set_ne (blk_set_ne h.hs h.ne _ _) h.ne _ _, h.size, h.pow, Nat.mod_lt _ (by omega), by simp at hl; omega, h.room_le, h.any, fun i p hp => ?_⟩
  · rw [blk_set (blk_set h.hr _ _) _ _]
    simp [hm]
  · have hi := (List.getElem?_eq_some_iff.1 hp).1
    have := h.seats (i + 1) p (by simpa using hp)
    rwa [Nat.mod_add_mod, show first + 1 + i = first + (i + 1) by omega]
set_option maxHeartbeats 400000 in
theorem take_some {w : World} {r s room last n first : Nat} {x : Int × Int} {l : List (Int × Int)} {C : Array Value} (H : RingAt w r s room last n first (x :: l) C) :
    Calls Try.prog 32 #[.pointer (some ⟨r, 0, none⟩)] w fun e w' => e = .returned (.tuple #[.int .i64 x.1, .bool true]) ∧ RingAt w' r s room last n ((first + 1) % n) l C ∧ Fr (Two r s) w w' := by
  have HH := hid H
  have HD := hid (head_any H)
  have hn2 := H.n_le
  have hf := H.flt
  obtain ⟨m, hm⟩ : ∃ m : Nat, m = (x :: l).length := ⟨_, rfl⟩
  have hm1 : 1 ≤ m := by simp [hm]
  have hl : m ≤ room := by rw [hm]; exact H.len
  have hrl := H.room_le
  have c2 : w.cell? ⟨r, 2, none⟩ = some (.int .i64 first) := blk_cell H.hr 2
  have c4 : w.cell? ⟨r, 4, none⟩ = some (.slice (some ⟨s, 0, none⟩) n n) := blk_cell H.hr 4
  have f2 : w.frozen? ⟨r, 2, none⟩ = false := blk_free H.hr 2
  have c3 : w.cell? ⟨r, 3, none⟩ = some (.int .i64 m) := by rw [hm]; exact blk_cell H.hr 3
  have f3 : w.frozen? ⟨r, 3, none⟩ = false := blk_free H.hr 3
  have e3 : bits .and .i64 ((first : Int) + 1) ((n : Int) - 1) = (((first + 1) % n : Nat) : Int) := by
    have := and_pow (first + 1) n H.pow (by omega)
    rwa [show ((first + 1 : Nat) : Int) = (first : Int) + 1 from by omega] at this
  have e1 : IntKind.i64.wrap ((first : Int) + 1) = (first : Int) + 1 := wraps_i64 _ (by omega) (by omega)
  have e2 : IntKind.i64.wrap ((n : Int) - 1) = (n : Int) - 1 := wraps_i64 _ (by omega) (by omega)
  have HM := hid hm
  have HR := hid (H.take hm)
  clear H hm
  generalize hk : (first + 1) % n = k at *
  clear hk
  go_enter Try.func32, Try.ntmps32
  go_wp2_with (go_at_call 30; refine HD.out.mono ?_; rintro e w' ⟨rfl, q2, rfl⟩)
  go_region
  go_wp2
  go_ret2
  exact ⟨rfl, HR.out.of_heap rfl, ((((Fr.refl _ w).drewN _).set (.inl (.inl rfl)) _).set (.inl (.inl rfl)) _)⟩
set_option maxHeartbeats 400000 in
theorem take_none {w : World} {r s room last n first : Nat} {C : Array Value} (H : RingAt w r s room last n first [] C) :
    Calls Try.prog 32 #[.pointer (some ⟨r, 0, none⟩)] w fun e w' => e = .returned (.tuple #[.int .i64 0, .bool false]) ∧ ∃ q, w' = w.drewN q := by
  have HD := hid (head_any H)
  clear H
  go_enter Try.func32, Try.ntmps32
  go_wp2_with (go_at_call 30; refine HD.out.mono ?_; rintro e w' ⟨rfl, q2, rfl⟩)
  go_ret2
  exact ⟨rfl, _, rfl⟩
theorem ring_take {w : World} {r s : Nat} {R : RS} (H : IsRing w r s R) :
    Calls Try.prog 32 #[.pointer (some ⟨r, 0, none⟩)] w fun e w' => e = .returned (.tuple #[.int .i64 (headOf R.l), .bool (!R.l.isEmpty)]) ∧ IsRing w' r s (takeR R) ∧ Fr (Two r s) w w' := by
  obtain ⟨room, last, l⟩ := R
  obtain ⟨n, f, C, H⟩ := H
  cases l with
  | nil => exact (take_none H).mono fun e w' ⟨he, q, hw⟩ => ⟨he, by rw [hw]; exact ⟨n, f, C, H.drewN q⟩, by rw [hw]; exact (Fr.refl _ _).drewN q⟩
  | cons x l => exact (take_some H).mono fun e w' ⟨he, hw, hf⟩ => ⟨he, ⟨n, _, C, hw⟩, hf⟩
end Go.Proofs.Ytcbpbgjngeemoaa
