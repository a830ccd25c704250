/- The document's queue: Remove (contracts). -/
import Derived.Test.YtbkjlohlfkokpaaRef12d
set_option linter.unusedVariables false
set_option linter.unusedSimpArgs false
namespace Go.Proofs.Ytbkjlohlfkokpaa
open Go.RowKit

section
variable {w w' : World} {base x : Nat} {v : Value} {policy : Int} {L L' : List Od}
set_option maxRecDepth 100000 in
theorem r12_remove_no (H : R12 w base x v policy L) {t : Int} (hm : L.length < 1000) (h : t ∉ odT L) : Calls Try.prog 63 #[.pointer (some ⟨x, 0, none⟩), .int .i64 t] w fun e w' => e = .returned (.int .i64 5) ∧ w' = w := by
  have HC := hid (r12_at_no H hm h)
  clear H hm h
  go_enter Try.func63, Try.ntmps63
  go_wp2_with fail
  refine HC.out.mono ?_
  rintro e w' ⟨rfl, rfl⟩
  go_wp2_with fail
  go_ret
  exact ⟨rfl, rfl⟩
set_option maxRecDepth 100000 in
set_option maxHeartbeats 1600000 in
theorem r12_remove (H : R12 w base x v policy L) {t : Int} (hnd : (odT L).Nodup) (hm : L.length < 1000) {j : Nat} {p : Od} (hjp : L[j]? = some p) (hp : p.t = t) :
    Calls Try.prog 63 #[.pointer (some ⟨x, 0, none⟩), .int .i64 t] w fun e w' => e = .returned (.int .i64 0) ∧ R12Behind w base x v policy (L.eraseIdx j) w' := by
  have HC := hid (r12_at_yes H hnd hm hjp hp)
  have hj := (List.getElem?_eq_some_iff.1 hjp).1
  obtain ⟨m, hm2⟩ : ∃ m, m = L.length := ⟨_, rfl⟩
  have hrow := H.row
  have hxx := H.hx
  have hxl := blk_lt hxx
  have hbx := H.bx
  rw [← hm2] at hrow hm hj
  obtain ⟨A, cap, rfl⟩ := own_slice hrow
  have c1 : w.cell? ⟨x, 1, none⟩ = some (.slice A m cap) := blk_cell hxx 1
  have hcap := own_cap hrow
  have hc1 := hcap.1
  have hc2 : cap ≤ 9223372036854775807 := by have := hcap.2; unfold maxLen at this; omega
  have hsrc := own_src hrow
  have hs1 : Src w A (flat encO (L.take j)) := by rw [← flat_take encO_len]; exact hsrc.take _
  have hs2 := Src.rest hsrc (by rw [flat_length encO_len, ← hm2]) hc1 (j + 1)
  rw [flat_drop encO_len] at hs2
  have hl1 : (flat encO (L.take j)).length = j * 4 := by rw [flat_length encO_len, List.length_take, ← hm2, Nat.min_eq_left (by omega)]
  have hl2 : (flat encO (L.drop (j + 1))).length = (m - (j + 1)) * 4 := by rw [flat_length encO_len, List.length_drop, ← hm2]
  have HER := hid (show flat encO (L.eraseIdx j) = flat encO (L.take j) ++ flat encO (L.drop (j + 1)) by rw [← flat_append, List.eraseIdx_eq_take_drop_succ])
  have HEL := hid (show (L.eraseIdx j).length = j + (m - (j + 1)) by rw [List.length_eraseIdx]; rw [← hm2, if_pos hj]; omega)
  obtain ⟨j1, hj1⟩ : ∃ j1, j + 1 = j1 := ⟨_, rfl⟩
  rw [hj1] at hs2 hl2 HER HEL
  have hwr : IntKind.i64.wrap ((j : Int) + 1) = (j1 : Int) := by rw [wraps_i64 _ (by omega) (by omega)]; omega
  have hj1m : j1 ≤ m := by omega
  have HXX := hid hxx
  have HS2 := hid hs2
  obtain ⟨i0, hi, hz0, hz1, hz2⟩ := info_parts Try.info_od
  have HONE := hid (And.intro (flat_one encO_one (L.take j)) (flat_one encO_one (L.drop j1)))
  generalize L.eraseIdx j = L' at *
  generalize flat encO (L.take j) = fa at *
  generalize flat encO (L.drop j1) = fb at *
  clear H hrow hsrc hs2 hcap hm2 hj1 hxx hnd hjp hp
  go_enter Try.func63, Try.ntmps63
  go_wp2_with fail
  refine HC.out.mono ?_
  rintro e w1 ⟨rfl, hw⟩
  obtain rfl := hw.symm
  go_wp2_with (at_builtin; refine append_src rfl _ _ 122 rfl w.heap.size 126 i0 _ 4 32 Try.underlying122 hi hz0 hz1 hz2 rfl (by decide) (.slice none 0 0) 0 [] rfl (World.ownsRow_nil _ _ _ _) A j cap fa rfl hl1 hs1 HONE.out.1 (by unfold maxLen; omega) (by omega) (Nat.le_refl _) ?_)
  intro v3 w3 hown3 hf3 hl3
  obtain ⟨A3, c3, rfl⟩ := own_slice hown3
  have hb3 : Below w.heap.size w w3 := hf3.to_below (fun x h => by cases h)
  have hx3 := (fr0 hb3).blk HXX.out (fun h => h)
  have c13 : w3.cell? ⟨x, 1, none⟩ = some (.slice A m cap) := blk_cell hx3 1
  have hs3 := HS2.out.kept (fr0 hb3) (fun _ _ h => h)
  have HB3 := hid hb3
  have HX3 := hid hx3
  have HO3 := hid hown3
  have hsz3 := hb3.size
  clear hf3 hl3 hb3 hx3 hs1
  have hfin : ∀ (v5 : Value) (w5 : World), w5.ownsRow w.heap.size 126 4 v5 (j + (m - j1)) (fa ++ fb) → Fr (fun k => (Value.slice A3 j c3).ownBlock = some k) w3 w5 →
      w5.heap[x]? = some (.cells #[.int .i64 policy, .slice A m cap] 124 (0, 0)) ∧ R12Behind w base x (.slice A m cap) policy L' (w5.setCell ⟨x, 1, none⟩ v5) := by
    intro v5 w5 hown5 hf5
    have hne : ∀ k, (Value.slice A3 j c3).ownBlock = some k → k ≠ x := fun k hk e => by have := own_ge HO3.out k hk; omega
    have hx5 := hf5.blk HX3.out (fun h => hne x h rfl)
    have hF : Fr (One x) w5 (w5.setCell ⟨x, 1, none⟩ v5) := (Fr.refl _ _).one 1 _
    have hge := own_ge hown5
    refine ⟨hx5, v5, ⟨by simpa using blk_set hx5 1 v5, ?_, hbx⟩, ?_, fun k hk => ?_⟩
    · rw [HEL.out, HER.out]
      exact own_mono (own_kept hown5 hF (fun k hk e => by have := hge k hk; have e2 : k = x := e; omega)) (by omega)
    · exact ((Fr.of_below (S := R12Set x (.slice A m cap)) HB3.out).trans hf5 (fun k hk => .inr (own_ge HO3.out k hk))).trans hF (fun k hk => .inl (.inl hk))
    · rcases hk with hk | hk
      · exact .inl (.inl hk)
      · exact .inr (hge k hk)
  have HFIN := hid hfin
  clear hfin
  by_cases hcs : cap = j1
  · rw [if_pos hcs] at hs3
    obtain rfl : j1 = cap := hcs.symm
    obtain rfl : j1 = m := by omega
    rw [Nat.sub_self] at hl2
    go_wp2_with (at_builtin; refine append_src rfl _ _ 122 rfl w.heap.size 126 i0 _ 4 32 Try.underlying122 hi hz0 hz1 hz2 rfl (by decide) (.slice A3 j c3) j _ rfl hown3 A 0 0 fb rfl hl2 hs3 HONE.out.2 (by unfold maxLen; omega) (by omega) hsz3 ?_)
    intro v5 w5 hown5 hf5 hl5
    obtain ⟨hx5, hR⟩ := HFIN.out v5 w5 (by rw [Nat.sub_self]; exact hown5) hf5
    obtain ⟨A5, c5, rfl⟩ := own_slice hown5
    have f1 : w5.frozen? ⟨x, 1, none⟩ = false := blk_free hx5 1
    have c15 : w5.cell? ⟨x, 1, none⟩ = some (.slice A j1 j1) := blk_cell hx5 1
    have HR := hid hR
    clear hown5 hf5 hl5 hR hx5 hown3 c13 hs3
    go_wp2_with fail
    go_ret
    exact ⟨rfl, HR.out⟩
  · rw [if_neg hcs] at hs3
    go_wp2_with (at_builtin; refine append_src rfl _ _ 122 rfl w.heap.size 126 i0 _ 4 32 Try.underlying122 hi hz0 hz1 hz2 rfl (by decide) (.slice A3 j c3) j _ rfl hown3 (A.map (·.add (j1 * 4))) (m - j1) (cap - j1) fb rfl hl2 hs3 HONE.out.2 (by unfold maxLen; omega) (by omega) hsz3 ?_)
    intro v5 w5 hown5 hf5 hl5
    obtain ⟨hx5, hR⟩ := HFIN.out v5 w5 hown5 hf5
    obtain ⟨A5, c5, rfl⟩ := own_slice hown5
    have f1 : w5.frozen? ⟨x, 1, none⟩ = false := blk_free hx5 1
    have c15 : w5.cell? ⟨x, 1, none⟩ = some (.slice A m cap) := blk_cell hx5 1
    have HR := hid hR
    clear hown5 hf5 hl5 hR hx5 hown3 c13 hs3
    go_wp2_with fail
    go_ret
    exact ⟨rfl, HR.out⟩
end
end Go.Proofs.Ytbkjlohlfkokpaa
