/- The document's queue: may, Level, Fall, Raise, Add (contracts). -/
import Derived.Test.YtbkjlohlfkokpaaRef12
set_option linter.unusedVariables false
set_option linter.unusedSimpArgs false
namespace Go.Proofs.Ytbkjlohlfkokpaa
open Go.RowKit

section
variable {w w' : World} {base x : Nat} {v : Value} {policy : Int} {L L' : List Od}
theorem r12_at_no (H : R12 w base x v policy L) {t : Int} (hm : L.length < 1000) (h : t ∉ odT L) : Calls Try.prog 87 #[.pointer (some ⟨x, 0, none⟩), .int .i64 t] w fun e w' => e = .returned (.int .i64 (-1)) ∧ w' = w := by
  refine (r12_at H t hm).mono ?_
  rintro e w' ⟨⟨r, rfl, hr⟩, rfl⟩
  rcases hr with ⟨rfl, _⟩ | ⟨j, p, rfl, hj, hp⟩
  · exact ⟨rfl, rfl⟩
  · exact absurd (List.mem_map.2 ⟨p, List.mem_of_getElem? hj, hp⟩) h
theorem r12_at_yes (H : R12 w base x v policy L) {t : Int} (hn : (odT L).Nodup) (hm : L.length < 1000) {j : Nat} {p : Od} (hj : L[j]? = some p) (hp : p.t = t) : Calls Try.prog 87 #[.pointer (some ⟨x, 0, none⟩), .int .i64 t] w fun e w' => e = .returned (.int .i64 j) ∧ w' = w := by
  refine (r12_at H t hm).mono ?_
  rintro e' w' ⟨⟨r, rfl, hr⟩, rfl⟩
  rcases hr with ⟨_, hno⟩ | ⟨j', p', rfl, hj', hp'⟩
  · exact absurd (List.mem_map.2 ⟨p, List.mem_of_getElem? hj, hp⟩) hno
  · have h1 : (odT L)[j]? = some t := by unfold odT; rw [List.getElem?_map, hj, ← hp]; rfl
    have h2 : (odT L)[j']? = some t := by unfold odT; rw [List.getElem?_map, hj', ← hp']; rfl
    obtain ⟨l1, e1⟩ := List.getElem?_eq_some_iff.1 h1
    obtain ⟨l2, e2⟩ := List.getElem?_eq_some_iff.1 h2
    obtain rfl : j = j' := (List.getElem_inj hn).1 (by rw [e1, e2])
    exact ⟨rfl, rfl⟩
set_option maxHeartbeats 400000 in
theorem r12_may (t l : Int) : Calls Try.prog 86 #[.int .i64 t, .int .i64 l] w fun e w' => e = .returned (.bool (mayB t l)) ∧ w' = w := by
  by_cases h1 : 0 ≤ t
  · by_cases h2 : t < 24
    · by_cases h3 : 0 ≤ l
      · by_cases h4 : l ≤ 9007199254740991
        · rw [show mayB t l = true by unfold mayB; exact decide_eq_true ⟨h1, h2, h3, by omega⟩]
          go_enter Try.func86, Try.ntmps86
          go_wp2_with fail
          go_ret
          exact ⟨rfl, rfl⟩
        · rw [show mayB t l = false by unfold mayB; exact decide_eq_false (fun h => by omega)]
          go_enter Try.func86, Try.ntmps86
          go_wp2_with fail
          go_ret
          exact ⟨rfl, rfl⟩
      · rw [show mayB t l = false by unfold mayB; exact decide_eq_false (fun h => h3 h.2.2.1)]
        go_enter Try.func86, Try.ntmps86
        go_wp2_with fail
        go_ret
        exact ⟨rfl, rfl⟩
    · rw [show mayB t l = false by unfold mayB; exact decide_eq_false (fun h => h2 h.2.1)]
      go_enter Try.func86, Try.ntmps86
      go_wp2_with fail
      go_ret
      exact ⟨rfl, rfl⟩
  · rw [show mayB t l = false by unfold mayB; exact decide_eq_false (fun h => h1 h.1)]
    go_enter Try.func86, Try.ntmps86
    go_wp2_with fail
    go_ret
    exact ⟨rfl, rfl⟩
set_option maxRecDepth 100000 in
set_option maxHeartbeats 800000 in
theorem r12_fall_no (H : R12 w base x v policy L) {t : Int} (hm : L.length < 1000) (h : t ∉ odT L) : Calls Try.prog 62 #[.pointer (some ⟨x, 0, none⟩), .int .i64 t] w fun e w' => e = .returned (.int .i64 5) ∧ w' = w := by
  have HC := hid (r12_at_no H hm h)
  clear H hm h
  go_enter Try.func62, Try.ntmps62
  go_wp2_with fail
  refine HC.out.mono ?_
  rintro e w' ⟨rfl, rfl⟩
  go_wp2_with fail
  go_ret
  exact ⟨rfl, rfl⟩
theorem od_flat_set {L : List Od} {j i : Nat} {p p' : Od} {u : Value} (hj : L[j]? = some p) (hi : i < 4) (e : encO p' = (encO p).set i u) : (flat encO L).set (j * 4 + i) u = flat encO (L.set j p') := flat_set encO_len L j i p p' u hj hi e
set_option maxRecDepth 100000 in
set_option maxHeartbeats 800000 in
theorem r12_fall (H : R12 w base x v policy L) {t : Int} (hn : (odT L).Nodup) (hm : L.length < 1000) {j : Nat} {p : Od} (hj : L[j]? = some p) (hp : p.t = t) : Calls Try.prog 62 #[.pointer (some ⟨x, 0, none⟩), .int .i64 t] w fun e w' => e = .returned (.int .i64 0) ∧ R12Behind w base x v policy (L.set j ⟨p.t, fallR p.r⟩) w' := by
  have HC := hid (r12_at_yes H hn hm hj hp)
  have hjl := (List.getElem?_eq_some_iff.1 hj).1
  obtain ⟨g, cap, cur, rfl, _⟩ := own_shape H.row (by omega)
  obtain ⟨g', e1, d3⟩ := row_cell (j := 3) encO_len H.row hj rfl
  injection e1 with e1
  injection e1 with e1 _
  subst e1
  have f3 : w.frozen? ⟨g, j * 4 + 3, none⟩ = false := own_free H.row _
  have c1 : w.cell? ⟨x, 1, none⟩ = some (.slice (some ⟨g, 0, none⟩) L.length cap) := blk_cell H.hx 1
  have hset := own_set H.row (j * 4 + 3) (.bool false) (by omega)
  rw [od_flat_set hj (by omega) (p' := ⟨p.t, fallR p.r⟩) rfl] at hset
  have HSET := hid hset
  have HH := hid H
  have HJ := hid hj
  obtain ⟨m, hm2⟩ : ∃ m, L.length = m := ⟨_, rfl⟩
  rw [hm2] at hjl c1 hm
  have HM := hid hm2
  clear H hj hp hset hn hm2
  go_enter Try.func62, Try.ntmps62
  go_wp2_with fail
  refine HC.out.mono ?_
  rintro e w' ⟨rfl, rfl⟩
  go_wp2_with fail
  go_ret
  have hne : x ≠ g := fun e => HH.out.ap g rfl e.symm
  refine ⟨rfl, _, ⟨blk_set_ne HH.out.hx hne _ _, by rw [List.length_set]; exact HSET.out, HH.out.bx⟩, (Fr.refl _ _).set (p := ⟨g, j * 4 + 3, none⟩) (.inl (.inr rfl)) _, fun k hk => .inl hk⟩
end
end Go.Proofs.Ytbkjlohlfkokpaa
