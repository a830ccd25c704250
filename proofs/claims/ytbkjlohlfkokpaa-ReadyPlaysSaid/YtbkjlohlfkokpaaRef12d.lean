/- The document's queue: Add, ahead (contracts). -/
import Derived.Test.YtbkjlohlfkokpaaRef12c
set_option linter.unusedVariables false
set_option linter.unusedSimpArgs false
namespace Go.Proofs.Ytbkjlohlfkokpaa
open Go.RowKit

section
variable {w w' : World} {base x : Nat} {v : Value} {policy : Int} {L L' : List Od}
set_option maxRecDepth 100000 in
theorem r12_add_arg (H : R12 w base x v policy L) {t l : Int} (hmay : mayB t l = false) : Calls Try.prog 60 #[.pointer (some ⟨x, 0, none⟩), .int .i64 t, .int .i64 l] w fun e w' => e = .returned (.int .i64 1) ∧ w' = w := by
  have HY := hid (r12_may (w := w) t l)
  rw [hmay] at HY
  clear H hmay
  go_enter Try.func60, Try.ntmps60
  go_wp2_with fail
  refine HY.out.mono ?_
  rintro e w' ⟨rfl, rfl⟩
  go_wp2_with fail
  go_ret
  exact ⟨rfl, rfl⟩
set_option maxRecDepth 100000 in
theorem r12_add_old (H : R12 w base x v policy L) {t l : Int} (hmay : mayB t l = true) (hn : (odT L).Nodup) (hm : L.length < 1000) {j : Nat} {p : Od} (hj : L[j]? = some p) (hp : p.t = t) : Calls Try.prog 60 #[.pointer (some ⟨x, 0, none⟩), .int .i64 t, .int .i64 l] w fun e w' => e = .returned (.int .i64 4) ∧ w' = w := by
  have HC := hid (r12_at_yes H hn hm hj hp)
  have HY := hid (r12_may (w := w) t l)
  rw [hmay] at HY
  clear H hmay hn hm hj hp
  go_enter Try.func60, Try.ntmps60
  go_wp2_with fail
  refine HY.out.mono ?_
  rintro e w1 ⟨rfl, hw⟩
  obtain rfl := hw.symm
  go_wp2_with fail
  refine HC.out.mono ?_
  rintro e w1 ⟨rfl, hw⟩
  obtain rfl := hw.symm
  go_wp2_with fail
  go_ret
  exact ⟨rfl, rfl⟩
set_option maxRecDepth 100000 in
set_option maxHeartbeats 800000 in
theorem r12_add (H : R12 w base x v policy L) {t l : Int} (hmay : mayB t l = true) (hm : L.length < 1000) (hin : t ∉ odT L) : Calls Try.prog 60 #[.pointer (some ⟨x, 0, none⟩), .int .i64 t, .int .i64 l] w fun e w' => e = .returned (.int .i64 0) ∧ R12Behind w base x v policy (L ++ [⟨t, ⟨l, 0, false⟩⟩]) w' := by
  have HC := hid (r12_at_no H hm hin)
  have HY := hid (r12_may (w := w) t l)
  rw [hmay] at HY
  have hrow := H.row
  have hxx := H.hx
  have hxl := blk_lt hxx
  have hbx := H.bx
  obtain ⟨m, hm2⟩ : ∃ m, m = L.length := ⟨_, rfl⟩
  rw [← hm2] at hrow hm
  obtain ⟨A, cap, rfl⟩ := own_slice hrow
  have c1 : w.cell? ⟨x, 1, none⟩ = some (.slice A m cap) := blk_cell hxx 1
  have HM := hid hm2
  have HR := hid hrow
  have HX := hid hxx
  have HAP := hid H.ap
  clear H hm2 hxx hmay hin hrow
  obtain ⟨i0, hi, hz0, hz1, hz2⟩ := info_parts Try.info_od
  go_enter Try.func60, Try.ntmps60
  go_wp2_with fail
  refine HY.out.mono ?_
  rintro e w1 ⟨rfl, hw⟩
  obtain rfl := hw.symm
  go_wp2_with fail
  refine HC.out.mono ?_
  rintro e w1 ⟨rfl, hw⟩
  obtain rfl := hw.symm
  have hown := HR.out
  go_wp2_with (at_builtin; refine append_new rfl _ _ 122 rfl base 126 i0 _ 4 32 Try.underlying122 hi hz0 hz1 hz2 rfl (by decide) #[.int .i64 t, .int .i64 l, .int .i64 0, .bool false] (.slice A m cap) m (flat encO L) rfl _ rfl rfl hown rfl (encO_one ⟨t, l, 0, false⟩) (by unfold maxLen; omega) (by omega) (by omega) ?_)
  intro v1 w1 hown1 hf1 hl1
  obtain ⟨gb, cc1, cu1, rfl, _⟩ := own_shape hown1 (Nat.succ_pos _)
  have hx1 := hf1.blk HX.out (fun e => HAP.out x e rfl)
  have f1 : w1.frozen? ⟨x, 1, none⟩ = false := blk_free hx1 1
  have c11 : w1.cell? ⟨x, 1, none⟩ = some (.slice A m cap) := blk_cell hx1 1
  have HO1 := hid hown1
  have HF1 := hid hf1
  have HL1 := hid hl1
  have HX1 := hid hx1
  clear hown1 hf1 hl1 hx1 hown c1
  go_wp2_with fail
  go_ret
  have hF2 : Fr (One x) w1 (w1.setCell ⟨x, 1, none⟩ (.slice (some ⟨gb, 0, none⟩) (m + 1) cc1)) := (Fr.refl (One x) w1).one 1 _
  refine ⟨rfl, _, ⟨by simpa using blk_set HX1.out 1 (.slice (some ⟨gb, 0, none⟩) (m + 1) cc1), ?_, hbx⟩, ((HF1.out.mono (fun k hk => .inl (.inr hk))).trans hF2 (fun k hk => .inl (.inl hk))), fun k hk => ?_⟩
  · rw [flat_snoc, List.length_append, ← HM.out]
    exact own_kept HO1.out hF2 (fun k hk e => kind_ne HO1.out HX1.out (by decide) k hk e)
  · rcases hk with hk | hk
    · exact .inl (.inl hk)
    · exact (loc_old HL1.out (Nat.le_refl _) k hk).imp (fun h => .inr h) id
set_option maxRecDepth 100000 in
set_option maxHeartbeats 800000 in
theorem r12_ahead (p q : Od) : Calls Try.prog 89 #[odV p, odV q] w fun e w' => e = .returned (.bool (aheadB p q)) ∧ Below w.heap.size w w' := by
  have HCP := hid (fun W => (show Calls Try.prog 88 #[.agg #[.int .i64 p.t, .int .i64 p.r.own, .int .i64 p.r.up, .bool p.r.ra]] W _ from r12_counts (w := W) p))
  have HCQ := hid (fun W => (show Calls Try.prog 88 #[.agg #[.int .i64 q.t, .int .i64 q.r.own, .int .i64 q.r.up, .bool q.r.ra]] W _ from r12_counts (w := W) q))
  have hB := hid (show aheadB p q = if p.r.level ≠ q.r.level then decide (p.r.level < q.r.level) else if p.r.ra ≠ q.r.ra then p.r.ra else decide (p.t < q.t) from rfl)
  obtain ⟨b, hb⟩ : ∃ b, aheadB p q = b := ⟨_, rfl⟩
  rw [hb] at hB ⊢
  unfold odV
  have hb1 := (Below.refl w.heap.size w).alloc (Nat.le_refl _) (.cells #[.int .i64 p.t, .int .i64 p.r.own, .int .i64 p.r.up, .bool p.r.ra] 126)
  have hbp := blk_new w (.cells #[.int .i64 p.t, .int .i64 p.r.own, .int .i64 p.r.up, .bool p.r.ra] 126)
  generalize p.r.level = lp at *
  generalize q.r.level = lq at *
  obtain ⟨pt, po, pu, pr⟩ := p
  obtain ⟨qt, qo, qu, qr⟩ := q
  simp only at HCP HCQ hB hb1 hbp ⊢
  clear hb hb1 hbp
  go_enter Try.func89, Try.ntmps89
  go_wp2_with fail
  obtain ⟨W2, hW2⟩ : ∃ W2, (w.alloc (.cells #[.int .i64 pt, .int .i64 po, .int .i64 pu, .bool pr] 126)).alloc (.cells #[.int .i64 qt, .int .i64 qo, .int .i64 qu, .bool qr] 126) = W2 := ⟨_, rfl⟩
  have hp2 := blk_old (blk_new w (.cells #[.int .i64 pt, .int .i64 po, .int .i64 pu, .bool pr] 126)) (.cells #[.int .i64 qt, .int .i64 qo, .int .i64 qu, .bool qr] 126)
  have hq2 := blk_new (w.alloc (.cells #[.int .i64 pt, .int .i64 po, .int .i64 pu, .bool pr] 126)) (.cells #[.int .i64 qt, .int .i64 qo, .int .i64 qu, .bool qr] 126)
  rw [show (w.alloc (.cells #[.int .i64 pt, .int .i64 po, .int .i64 pu, .bool pr] 126)).heap.size = w.heap.size + 1 by simp] at hq2
  have hbb : Below w.heap.size w W2 := by rw [← hW2]; exact ((Below.refl _ w).alloc (Nat.le_refl _) _).alloc (by simp) _
  rw [hW2] at hp2 hq2 ⊢
  have HBB := hid hbb
  generalize w.heap.size + 1 = B2 at *
  obtain ⟨B1, hB1⟩ : ∃ B1, w.heap.size = B1 := ⟨_, rfl⟩
  rw [hB1] at hp2 ⊢
  have HB1 := hid hB1
  clear hW2 hbb hB1
  refine (HCP.out _).mono ?_
  rintro e w3 ⟨rfl, hb3⟩
  have hp3 := (fr0 hb3).blk hp2 (fun h => h)
  have hq3 := (fr0 hb3).blk hq2 (fun h => h)
  have k0 : w3.cell? ⟨B2, 0, none⟩ = some (.int .i64 qt) := blk_cell hq3 0
  have k1 : w3.cell? ⟨B2, 1, none⟩ = some (.int .i64 qo) := blk_cell hq3 1
  have k2 : w3.cell? ⟨B2, 2, none⟩ = some (.int .i64 qu) := blk_cell hq3 2
  have k3 : w3.cell? ⟨B2, 3, none⟩ = some (.bool qr) := blk_cell hq3 3
  have HB3 := hid (below_then HBB.out hb3)
  have HP3 := hid hp3
  have HQ3 := hid hq3
  clear hp2 hq2 hb3 hp3 hq3
  go_wp2_with fail
  refine (HCQ.out _).mono ?_
  rintro e w4 ⟨rfl, hb4⟩
  have hp4 := (fr0 hb4).blk HP3.out (fun h => h)
  have hq4 := (fr0 hb4).blk HQ3.out (fun h => h)
  have m0 : w4.cell? ⟨B1, 0, none⟩ = some (.int .i64 pt) := blk_cell hp4 0
  have m3 : w4.cell? ⟨B1, 3, none⟩ = some (.bool pr) := blk_cell hp4 3
  have n0 : w4.cell? ⟨B2, 0, none⟩ = some (.int .i64 qt) := blk_cell hq4 0
  have n3 : w4.cell? ⟨B2, 3, none⟩ = some (.bool qr) := blk_cell hq4 3
  have HB4 := hid (below_then HB3.out hb4)
  clear hb4 hp4 hq4 k0 k1 k2 k3
  by_cases h1 : lp = lq
  · subst h1
    have he : (lp != lp) = false := by simp
    have hB2 := hB.out
    rw [if_neg (by simp)] at hB2
    clear hB
    cases pr <;> cases qr
    all_goals
      have HBV := hid hB2
      clear hB2
      go_wp2_with fail
      go_ret
      exact ⟨ret_eq (by rw [HBV.out]; rfl), HB4.out⟩
  · have he : (lp != lq) = true := by simp [h1]
    have hB2 := hB.out
    rw [if_pos h1] at hB2
    have HBV := hid hB2
    clear hB hB2 h1
    go_wp2_with fail
    go_ret
    exact ⟨ret_eq (by rw [HBV.out]; rfl), HB4.out⟩
end
end Go.Proofs.Ytbkjlohlfkokpaa
