/- The document's queue: Raise, Add, Level, ahead (contracts). -/
import Derived.Test.YtbkjlohlfkokpaaRef12b
set_option linter.unusedVariables false
set_option linter.unusedSimpArgs false
namespace Go.Proofs.Ytbkjlohlfkokpaa
open Go.RowKit

section
variable {w w' : World} {base x : Nat} {v : Value} {policy : Int} {L L' : List Od}
set_option maxRecDepth 100000 in
set_option maxHeartbeats 800000 in
theorem r12_raise (H : R12 w base x v policy L) {t l : Int} (hpo : policy ≠ 2) (hmay : mayB t l = true) (hn : (odT L).Nodup) (hm : L.length < 1000) {j : Nat} {p : Od} (hj : L[j]? = some p) (hp : p.t = t) : Calls Try.prog 61 #[.pointer (some ⟨x, 0, none⟩), .int .i64 t, .int .i64 l] w fun e w' => e = .returned (.int .i64 0) ∧ R12Behind w base x v policy (L.set j ⟨p.t, raiseR l p.r⟩) w' := by
  have HC := hid (r12_at_yes H hn hm hj hp)
  have HY := hid (r12_may (w := w) t l)
  rw [hmay] at HY
  have hpe : (policy == 2) = false := beq_eq_false_iff_ne.2 hpo
  have c0 : w.cell? ⟨x, 0, none⟩ = some (.int .i64 policy) := blk_cell H.hx 0
  have hjl := (List.getElem?_eq_some_iff.1 hj).1
  obtain ⟨g, cap, cur, rfl, _⟩ := own_shape H.row (by omega)
  obtain ⟨g', e1, d2⟩ := row_cell (j := 2) encO_len H.row hj rfl
  injection e1 with e1
  injection e1 with e1 _
  subst e1
  have f2 : w.frozen? ⟨g, j * 4 + 2, none⟩ = false := own_free H.row _
  have c1 : w.cell? ⟨x, 1, none⟩ = some (.slice (some ⟨g, 0, none⟩) L.length cap) := blk_cell H.hx 1
  have hset := own_set H.row (j * 4 + 2) (.int .i64 l) (by omega)
  have hj1 : (L.set j ⟨p.t, p.r.own, l, p.r.ra⟩)[j]? = some ⟨p.t, p.r.own, l, p.r.ra⟩ := List.getElem?_set_self hjl
  rw [od_flat_set hj (by omega) (p' := ⟨p.t, p.r.own, l, p.r.ra⟩) rfl] at hset
  have hset2 := own_set hset (j * 4 + 3) (.bool true) (by omega)
  rw [od_flat_set hj1 (by omega) (p' := ⟨p.t, raiseR l p.r⟩) rfl, List.set_set] at hset2
  obtain ⟨C, hC⟩ := own_blk hset
  have hlen2 : (L.set j ⟨p.t, p.r.own, l, p.r.ra⟩).length = L.length := List.length_set
  rw [← hlen2] at hset
  obtain ⟨g', e1, d3⟩ := row_cell (j := 3) encO_len hset hj1 rfl
  injection e1 with e1
  injection e1 with e1 _
  subst e1
  have f3 : (w.setCell ⟨g, j * 4 + 2, none⟩ (.int .i64 l)).frozen? ⟨g, j * 4 + 3, none⟩ = false := own_free hset _
  have hne : x ≠ g := fun e => H.ap g rfl e.symm
  have hx1 := blk_set_ne H.hx hne (j * 4 + 2) (.int .i64 l)
  have c11 : (w.setCell ⟨g, j * 4 + 2, none⟩ (.int .i64 l)).cell? ⟨x, 1, none⟩ = some (.slice (some ⟨g, 0, none⟩) L.length cap) := blk_cell hx1 1
  have HX2 := hid (blk_set_ne hx1 hne (j * 4 + 3) (.bool true))
  have HSET := hid hset2
  have HBX := hid H.bx
  obtain ⟨m, hm2⟩ : ∃ m, L.length = m := ⟨_, rfl⟩
  rw [hm2] at hjl c1 hm c11 HX2
  have HM := hid hm2
  clear H hj hp hset hset2 hn hm2 hj1 hlen2 hx1 hC hne hmay hpo
  go_enter Try.func61, Try.ntmps61
  go_wp2_with fail
  refine HC.out.mono ?_
  rintro e w1 ⟨rfl, hw⟩
  obtain rfl := hw.symm
  go_wp2_with fail
  refine HY.out.mono ?_
  rintro e w1 ⟨rfl, hw⟩
  obtain rfl := hw.symm
  go_wp2_with fail
  go_ret
  refine ⟨rfl, _, ⟨by rw [HM.out]; exact HX2.out, by rw [List.length_set]; exact HSET.out, HBX.out⟩, ((Fr.refl _ _).set (p := ⟨g, j * 4 + 2, none⟩) (.inl (.inr rfl)) _).set (p := ⟨g, j * 4 + 3, none⟩) (.inl (.inr rfl)) _, fun k hk => .inl hk⟩
set_option maxRecDepth 100000 in
set_option maxHeartbeats 800000 in
theorem r12_level_no (H : R12 w base x v policy L) {t : Int} (hm : L.length < 1000) (h : t ∉ odT L) : Calls Try.prog 64 #[.pointer (some ⟨x, 0, none⟩), .int .i64 t] w fun e w' => e = .returned (.tuple #[.int .i64 0, .bool false]) ∧ w' = w := by
  have HC := hid (r12_at_no H hm h)
  clear H hm h
  go_enter Try.func64, Try.ntmps64
  go_wp2_with fail
  refine HC.out.mono ?_
  rintro e w' ⟨rfl, rfl⟩
  go_wp2_with fail
  go_ret2
  exact ⟨rfl, rfl⟩
set_option maxRecDepth 100000 in
set_option maxHeartbeats 800000 in
theorem r12_level (H : R12 w base x v policy L) {t : Int} (hn : (odT L).Nodup) (hm : L.length < 1000) {j : Nat} {p : Od} (hj : L[j]? = some p) (hp : p.t = t) : Calls Try.prog 64 #[.pointer (some ⟨x, 0, none⟩), .int .i64 t] w fun e w' => e = .returned (.tuple #[.int .i64 p.r.level, .bool true]) ∧ Below w.heap.size w w' := by
  have HC := hid (r12_at_yes H hn hm hj hp)
  have hjl := (List.getElem?_eq_some_iff.1 hj).1
  obtain ⟨A, cap, rfl, c1⟩ := r12_len_cell H
  obtain ⟨g, rfl, d0⟩ := row_cell (j := 0) encO_len H.row hj rfl
  obtain ⟨g1, e1, d1⟩ := row_cell (j := 1) encO_len H.row hj rfl
  obtain ⟨g2, e2, d2⟩ := row_cell (j := 2) encO_len H.row hj rfl
  obtain ⟨g3, e3, d3⟩ := row_cell (j := 3) encO_len H.row hj rfl
  cases e1
  cases e2
  cases e3
  simp only [Nat.add_zero] at d0
  have HCT := hid (fun W => (show Calls Try.prog 88 #[.agg #[.int .i64 p.t, .int .i64 p.r.own, .int .i64 p.r.up, .bool p.r.ra]] W _ from r12_counts (w := W) p))
  obtain ⟨m, hm2⟩ : ∃ m, L.length = m := ⟨_, rfl⟩
  rw [hm2] at hjl c1 hm
  generalize p.r.level = lv at *
  clear H hj hp hn hm2
  go_enter Try.func64, Try.ntmps64
  go_wp2_with fail
  refine HC.out.mono ?_
  rintro e w1 ⟨rfl, hw⟩
  obtain rfl := hw.symm
  go_wp2_with fail
  refine (HCT.out _).mono ?_
  rintro e w2 ⟨rfl, hb2⟩
  have HB := hid hb2
  clear hb2
  go_wp2_with fail
  go_ret2
  exact ⟨rfl, HB.out⟩
end
end Go.Proofs.Ytbkjlohlfkokpaa
