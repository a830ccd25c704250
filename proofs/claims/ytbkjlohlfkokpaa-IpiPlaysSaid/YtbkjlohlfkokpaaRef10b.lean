/- The document's boxes: Send (contract). -/
import Derived.Test.YtbkjlohlfkokpaaRef10
import Derived.Test.YtbkjlohlfkokpaaIpi
set_option linter.unusedVariables false
set_option linter.unusedSimpArgs false
namespace Go.Proofs.Ytbkjlohlfkokpaa
open Go.RowKit

section
variable {w w' : World} {base x : Nat} {v : Value} {cores : Int} {L : List Nd}
/-- May it be sent? -/
def sendL (cores : Int) (L : List Nd) (c t now : Int) : Prop := (0 ≤ c ∧ c < cores ∧ 0 ≤ t ∧ t < 24 ∧ 0 ≤ now ∧ now < 9007199254740992) ∧ dueL L c t < 0
set_option maxRecDepth 100000 in
set_option maxHeartbeats 800000 in
theorem r10_send_no (H : R10 w base x v cores L) (c t now lat : Int) (hm : L.length < 4611686018427387904) (h : ¬ sendL cores L c t now) :
    Calls Try.prog 21 #[.pointer (some ⟨x, 0, none⟩), .int .i64 c, .int .i64 t, .int .i64 now, .int .i64 lat] w fun e w' => e = .returned (.bool false) ∧ w' = w := by
  have HD := hid (r10_due H c t hm)
  have c0 : w.cell? ⟨x, 0, none⟩ = some (.int .i64 cores) := blk_cell H.hx 0
  obtain ⟨d, hd⟩ : ∃ d, dueL L c t = d := ⟨_, rfl⟩
  unfold sendL at h
  rw [hd] at HD h
  have HH := hid h
  clear H hd h
  go_enter Try.func21, Try.ntmps21
  by_cases g1 : c < 0
  · go_wp2_with fail
    go_ret
    exact ⟨rfl, rfl⟩
  · by_cases g2 : cores ≤ c
    · go_wp2_with fail
      go_ret
      exact ⟨rfl, rfl⟩
    · by_cases g3 : t < 0
      · go_wp2_with fail
        go_ret
        exact ⟨rfl, rfl⟩
      · by_cases g4 : 24 ≤ t
        · go_wp2_with fail
          go_ret
          exact ⟨rfl, rfl⟩
        · by_cases g5 : now < 0
          · go_wp2_with fail
            go_ret
            exact ⟨rfl, rfl⟩
          · by_cases g6 : 9007199254740991 < now
            · go_wp2_with fail
              go_ret
              exact ⟨rfl, rfl⟩
            · have g7 : 0 ≤ d := by have := HH.out; omega
              go_wp2_with (go_at_call 25; refine HD.out.mono ?_; rintro e w' ⟨rfl, rfl⟩)
              go_ret
              exact ⟨rfl, rfl⟩
set_option maxRecDepth 100000 in
set_option maxHeartbeats 800000 in
theorem r10_send (H : R10 w base x v cores L) (c t now lat : Int) (hm : L.length < 1000000) (h : sendL cores L c t now) :
    Calls Try.prog 21 #[.pointer (some ⟨x, 0, none⟩), .int .i64 c, .int .i64 t, .int .i64 now, .int .i64 lat] w fun e w' => e = .returned (.bool true) ∧ R10Behind w base x v cores (L ++ [(c, t, now + latV lat)]) w' := by
  have HD := hid (r10_due H c t (by omega))
  have HH := hid H
  have hrow := H.row
  have hxx := H.hx
  have hxl := blk_lt hxx
  have hbx := H.bx
  obtain ⟨m, hm2⟩ : ∃ m, m = L.length := ⟨_, rfl⟩
  rw [← hm2] at hrow hm
  obtain ⟨A, cap, rfl⟩ := own_slice hrow
  have c0 : w.cell? ⟨x, 0, none⟩ = some (.int .i64 cores) := blk_cell hxx 0
  have c1 : w.cell? ⟨x, 1, none⟩ = some (.slice A m cap) := blk_cell hxx 1
  have HM := hid hm2
  obtain ⟨d, hd⟩ : ∃ d, dueL L c t = d := ⟨_, rfl⟩
  unfold sendL at h
  rw [hd] at HD h
  obtain ⟨⟨g1, g2, g3, g4, g5, g6⟩, g7⟩ := h
  have hlb := latV_bd lat
  obtain ⟨la, hv⟩ : ∃ la, latV lat = la := ⟨_, rfl⟩
  have hcase : (lat < 1 ∧ la = 1) ∨ (50 < lat ∧ la = 50) ∨ (¬ lat < 1 ∧ ¬ 50 < lat ∧ la = lat) := by
    rw [← hv]; unfold latV
    by_cases g1 : lat < 1
    · exact .inl ⟨g1, by rw [if_pos g1]; rfl⟩
    · by_cases g2 : 50 < lat
      · exact .inr (.inl ⟨g2, by rw [if_neg g1, if_pos g2]⟩)
      · exact .inr (.inr ⟨g1, g2, by rw [if_neg g1, if_neg g2]⟩)
  rw [hv] at hlb ⊢
  have HCASE := hid hcase
  have hwr : IntKind.i64.wrap (now + la) = now + la := wraps_i64 _ (by omega) (by omega)
  have HR := hid hrow
  have HX := hid hxx
  have HAP := hid H.ap
  clear hv hcase H hm2 hd hrow hxx
  obtain ⟨i0, hi, hz0, hz1, hz2⟩ := info_parts Try.info_nd
  go_enter Try.func21, Try.ntmps21
  go_upto_region 3 with (go_at_call 25; refine HD.out.mono ?_; rintro e w0 ⟨rfl, rfl⟩)
  rcases HCASE.out with ⟨g8, rfl⟩ | ⟨g8, rfl⟩ | ⟨g8, g9, rfl⟩
  all_goals
    have hown := HR.out
    go_wp2_with (at_builtin; refine append_new rfl _ _ 81 rfl base 91 i0 _ 3 24 Try.underlying81 hi hz0 hz1 hz2 rfl (by decide) _ (.slice A m cap) m (flat enc3 L) rfl _ rfl rfl hown rfl (by intro u hu; simp at hu; rcases hu with rfl | rfl | rfl <;> rfl) (by unfold maxLen; omega) (by omega) (by omega) ?_)
    intro v1 w1 hown1 hf1 hl1
    obtain ⟨gb, cc1, cu1, rfl, _⟩ := own_shape hown1 (Nat.succ_pos _)
    have hx1 := hf1.blk HX.out (fun e => HAP.out x e rfl)
    have f1 : w1.frozen? ⟨x, 1, none⟩ = false := blk_free hx1 1
    have c11 : w1.cell? ⟨x, 1, none⟩ = some (.slice A m cap) := blk_cell hx1 1
    have HO1 := hid hown1
    have HF1 := hid hf1
    have HL1 := hid hl1
    have HX1 := hid hx1
    clear hown1 hf1 hl1 hx1 hown c0 c1
    go_wp2_with fail
    go_ret
    have hF2 : Fr (One x) w1 (w1.setCell ⟨x, 1, none⟩ (.slice (some ⟨gb, 0, none⟩) (m + 1) cc1)) := (Fr.refl (One x) w1).one 1 _
    refine ⟨rfl, _, ⟨by simpa using blk_set HX1.out 1 (.slice (some ⟨gb, 0, none⟩) (m + 1) cc1), ?_, hbx⟩, ((HF1.out.mono (fun k hk => .inl (.inr hk))).trans hF2 (fun k hk => .inl (.inl hk))), fun k hk => ?_⟩
    · rw [flat_snoc, List.length_append, ← HM.out]
      exact own_kept HO1.out hF2 (fun k hk e => kind_ne HO1.out HX1.out (by decide) k hk e)
    · rcases hk with hk | hk
      · exact .inl (.inl hk)
      · exact (loc_old HL1.out (Nat.le_refl _) k hk).imp (fun h => .inr h) id
end
end Go.Proofs.Ytbkjlohlfkokpaa
