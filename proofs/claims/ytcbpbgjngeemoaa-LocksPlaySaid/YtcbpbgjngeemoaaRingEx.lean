/- The statements of chapter 4: pick and examples (contracts). -/
import Derived.Test.YtcbpbgjngeemoaaRing2
set_option linter.unusedVariables false
set_option linter.unusedSimpArgs false
namespace Go.Proofs.Ytcbpbgjngeemoaa
open Go.RowKit

/-- Which of n things the raw number c speaks of. -/
def pickN (c n : Int) : Int := if c < 0 then (-(c + 1)) % n else c % n
theorem pickN_bd (c n : Int) (hn : 0 < n) : 0 ≤ pickN c n ∧ pickN c n < n := by
  unfold pickN
  split
  · exact ⟨Int.emod_nonneg _ (by omega), Int.emod_lt_of_pos _ hn⟩
  · exact ⟨Int.emod_nonneg _ (by omega), Int.emod_lt_of_pos _ hn⟩

set_option maxHeartbeats 400000 in
theorem ringpick_any {w : World} (c n : Int) (h0 : -9223372036854775808 ≤ c) (h1 : c ≤ 9223372036854775807) (hn : 0 < n) (hn2 : n ≤ 1099511627776) :
    Calls Try.prog 16 #[.int .i64 c, .int .i64 n] w fun e w' => e = .returned (.int .i64 (pickN c n)) ∧ w' = w := by
  have hn0 : (n == 0) = false := beq_eq_false_iff_ne.2 (by omega)
  have hn1 : (n == -1) = false := beq_eq_false_iff_ne.2 (by omega)
  by_cases h : c < 0
  · have e := hid (show pickN c n = -((c + 1).tmod n) by unfold pickN; rw [if_pos h, ← Int.neg_tmod, Int.tmod_eq_emod_of_nonneg (by omega)])
    go_enter Try.func16, Try.ntmps16
    go_wp2
    go_ret
    exact ⟨ret_eq (by rw [e.out]; rfl), rfl⟩
  · have e := hid (show pickN c n = c % n by unfold pickN; rw [if_neg h])
    go_enter Try.func16, Try.ntmps16
    go_wp2
    go_ret
    exact ⟨ret_eq (by rw [e.out]; rfl), rfl⟩
theorem ring_put_is {w : World} {r s : Nat} {R : RS} (H : IsRing w r s R) (id : Int) (h3 : R.last < 4611686018427387904) {a b : Int} {R' : RS} (hp : putR R id = (a, b, R')) :
    Calls Try.prog 20 #[.pointer (some ⟨r, 0, none⟩), .int .i64 id] w fun e w' => e = .returned (.tuple #[.int .i64 a, .int .i64 b]) ∧ IsRing w' r s R' ∧ Fr (Two r s) w w' := by
  have := ring_put H id h3
  rwa [hp] at this
theorem ring_drop_is {w : World} {r s : Nat} {R : RS} (H : IsRing w r s R) (id : Int) {b : Bool} {R' : RS} (hb : decide (0 ≤ place R.l id) = b) (hp : (⟨R.room, R.last, dropL R.l id⟩ : RS) = R') :
    Calls Try.prog 33 #[.pointer (some ⟨r, 0, none⟩), .int .i64 id] w fun e w' => e = .returned (.bool b) ∧ IsRing w' r s R' ∧ Fr (Two r s) w w' := by
  have := ring_drop H id
  rwa [hb, hp] at this
theorem ring_place_is {w : World} {r s : Nat} {R : RS} (H : IsRing w r s R) (id : Int) {a : Int} (hp : place R.l id = a) :
    Calls Try.prog 18 #[.pointer (some ⟨r, 0, none⟩), .int .i64 id] w fun e w' => e = .returned (.int .i64 a) ∧ ∃ q, w' = w.drewN q := by
  have := ring_place H id
  rwa [hp] at this
theorem ring_ticket_is {w : World} {r s : Nat} {R : RS} (H : IsRing w r s R) (id : Int) {a : Int} (hp : ticketOf R.l id = a) :
    Calls Try.prog 31 #[.pointer (some ⟨r, 0, none⟩), .int .i64 id] w fun e w' => e = .returned (.int .i64 a) ∧ ∃ q, w' = w.drewN q := by
  have := ring_ticket H id
  rwa [hp] at this
set_option maxRecDepth 100000 in
set_option maxHeartbeats 1600000 in
/-- The chapter's examples are so. -/
theorem ringex_any {w : World} : Calls Try.prog 15 #[] w fun e w' => e = .returned (.bool true) ∧ Below w.heap.size w w' := by
  go_enter Try.func15, Try.ntmps15
  go_wp2_with fail
  refine (new_yes 5 (by omega)).mono ?_
  rintro e w1 ⟨r, s, rfl, H0, hb1, hr, hs⟩
  go_wp2_with fail
  refine (new_no (-1) (by omega)).mono ?_
  rintro e w1' ⟨rfl, rfl⟩
  go_wp2_with fail
  refine (ring_put_is H0 7 (by decide) (a := 1) (b := 0) (R' := ⟨5, 1, [(7, 1)]⟩) rfl).mono ?_
  rintro e w2 ⟨rfl, H1, hf1⟩
  go_wp2_with fail
  refine (ring_put_is H1 9 (by decide) (a := 2) (b := 0) (R' := ⟨5, 2, [(7, 1), (9, 2)]⟩) rfl).mono ?_
  rintro e w3 ⟨rfl, H2, hf2⟩
  go_wp2_with fail
  refine (ring_put_is H2 7 (by decide) (a := 0) (b := 4) (R' := ⟨5, 2, [(7, 1), (9, 2)]⟩) rfl).mono ?_
  rintro e w4 ⟨rfl, H3, hf3⟩
  go_wp2_with fail
  refine (ring_drop_is H3 7 (b := true) (R' := ⟨5, 2, [(9, 2)]⟩) (by decide) rfl).mono ?_
  rintro e w5 ⟨rfl, H4, hf4⟩
  go_wp2_with fail
  refine (ring_put_is H4 7 (by decide) (a := 3) (b := 0) (R' := ⟨5, 3, [(9, 2), (7, 3)]⟩) rfl).mono ?_
  rintro e w6 ⟨rfl, H5, hf5⟩
  go_wp2_with fail
  refine (ring_all H5).mono ?_
  rintro e w7 ⟨v, rfl, hb7, hown, _⟩
  have hlr := H0.lt
  have h5 := H5.lt
  have H6 := H5.kept (fr0 hb7) (fun h => h) (fun h => h)
  obtain ⟨g, cap, cur, rfl, _⟩ := own_shape hown (by decide)
  have c0 : w7.cell? ⟨g, 0, none⟩ = some (.int .i64 9) := own_cell hown (j := 0) rfl
  have F2 := hid (below_then (below_two (below_two (below_two (below_two (below_two hb1 hf1 hr hs) hf2 hr hs) hf3 hr hs) hf4 hr hs) hf5 hr hs) hb7)
  have hlen : (ids [((9 : Int), (2 : Int)), (7, 3)]).length = 2 := rfl
  clear hb1 hb7 hf1 hf2 hf3 hf4 hf5
  go_wp2_with fail
  refine (ring_place_is H6 7 (a := 1) rfl).mono ?_
  rintro e w8 ⟨rfl, q8, rfl⟩
  go_wp2_with fail
  refine (ring_ticket_is (H6.drewN q8) 7 (a := 3) rfl).mono ?_
  rintro e w9 ⟨rfl, q9, rfl⟩
  go_wp2_with fail
  go_ret
  exact ⟨rfl, below_drewN' F2.out _⟩
end Go.Proofs.Ytcbpbgjngeemoaa
