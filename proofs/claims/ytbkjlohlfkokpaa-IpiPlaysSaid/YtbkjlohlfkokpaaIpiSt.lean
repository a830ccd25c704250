/- Package ipi: the contracts, on the list of notes; examples. -/
import Derived.Test.YtbkjlohlfkokpaaIpiPlain
set_option linter.unusedVariables false
set_option linter.unusedSimpArgs false
namespace Go.Proofs.Ytbkjlohlfkokpaa
open Go.RowKit

/-- Boxes with the notes S, of which T have been sent in all. -/
structure IsIpi (w : World) (base b bm : Nat) (cores : Int) (T : Nat) (S : List Nt) : Prop where
  at_ : IpiAt w base b bm T cores (T : Int) (fS S)
  inv : NtInv cores (T : Int) S
  few : 1 ≤ cores ∧ cores ≤ 8
  len : S.length ≤ T
section
variable {w w' : World} {base b bm T : Nat} {cores : Int} {S : List Nt}
theorem IsIpi.later (h : IsIpi w base b bm cores T S) (k : Below w.heap.size w w') : IsIpi w' base b bm cores T S := ⟨h.at_.later k, h.inv, h.few, h.len⟩
theorem IsIpi.kept {P : Nat → Prop} (h : IsIpi w base b bm cores T S) (k : Fr P w w') (hn : ∀ j, ISet b bm j → ¬ P j) : IsIpi w' base b bm cores T S := ⟨h.at_.kept k hn, h.inv, h.few, h.len⟩
theorem IsIpi.keys (h : IsIpi w base b bm cores T S) : Keys (fS S) (kS S) := h.inv.keys h.few.2
theorem is_new {c : Int} (h1 : 1 ≤ c) (h8 : c ≤ 8) : Calls Try.prog 17 #[.int .i64 c] w fun e w' => ∃ b bm, e = .returned (.tuple #[.pointer (some ⟨b, 0, none⟩), .int .i64 0]) ∧ IsIpi w' w.heap.size b bm c 0 [] ∧ Below w.heap.size w w' := by
  refine (ipi_new_yes c h1 h8).mono ?_
  rintro e w' ⟨b, bm, rfl, h, hb⟩
  exact ⟨b, bm, rfl, ⟨h, NtInv.nil _ _, ⟨h1, h8⟩, Nat.le_refl _⟩, hb⟩
/-- May it be sent? -/
def sendOk (cores : Int) (S : List Nt) (c t now : Int) : Prop := fS S (c, t) = none ∧ (0 ≤ c ∧ c < cores ∧ 0 ≤ t ∧ t < 24 ∧ 0 ≤ now ∧ now < 9007199254740992)
instance (cores : Int) (S : List Nt) (c t now : Int) : Decidable (sendOk cores S c t now) := by unfold sendOk; infer_instance
theorem is_send_no (H : IsIpi w base b bm cores T S) {c t now lat : Int} (hp : pairW (c, t)) (hn : now ≤ 9223372036854775807) (h : ¬ sendOk cores S c t now) :
    Calls Try.prog 20 #[.pointer (some ⟨b, 0, none⟩), .int .i64 c, .int .i64 t, .int .i64 now, .int .i64 lat] w fun e w' => e = .returned (.bool false) ∧ Below w.heap.size w w' := by
  by_cases h1 : fS S (c, t) = none
  · exact ipi_send_no H.at_ hp hn h1 (fun h2 => h ⟨h1, h2⟩)
  · exact ipi_send_there H.at_ hp h1
theorem is_send (H : IsIpi w base b bm cores T S) {c t now lat : Int} (hp : pairW (c, t)) (hT : T < 100000) (h : sendOk cores S c t now) :
    Calls Try.prog 20 #[.pointer (some ⟨b, 0, none⟩), .int .i64 c, .int .i64 t, .int .i64 now, .int .i64 lat] w fun e w' => e = .returned (.bool true) ∧
      IsIpi w' base b bm cores (T + 1) (S ++ [⟨c, t, now + latV lat, (T : Int) + 1⟩]) ∧ Fr (ISet b bm) w w' := by
  obtain ⟨h1, h2⟩ := h
  refine (ipi_send_yes H.at_ hp h1 h2 (by omega) (by omega) (by omega)).mono ?_
  rintro e w' ⟨rfl, hA, hF⟩
  have hl := latV_bd lat
  have e1 : ((T + 1 : Nat) : Int) = (T : Int) + 1 := by omega
  refine ⟨rfl, ⟨?_, ?_, H.few, by rw [List.length_append]; have := H.len; show S.length + 1 ≤ _; omega⟩, hF⟩
  · rw [e1, fS_send S ⟨c, t, now + latV lat, (T : Int) + 1⟩ h1]
    exact hA
  · rw [e1]
    exact H.inv.send (x := ⟨c, t, now + latV lat, (T : Int) + 1⟩) h1 rfl (by omega) (by show 0 ≤ c ∧ c < cores ∧ 0 ≤ t ∧ t < 24 ∧ 0 < now + latV lat ∧ now + latV lat < 9007199254742000; omega)
theorem is_take (H : IsIpi w base b bm cores T S) {core now : Int} (hc : (Lit.int .i64 core).wf = true) (hT : T < 100000) :
    Calls Try.prog 22 #[.pointer (some ⟨b, 0, none⟩), .int .i64 core, .int .i64 now] w fun e w' => ∃ v, e = .returned v ∧ w'.ownsRow w.heap.size 3 1 v ((takeS S core now).map Nt.t).length (intCells ((takeS S core now).map Nt.t)) ∧
      IsIpi w' base b bm cores T (restS S core now) ∧ Fr (ISet b bm) w w' := by
  refine (ipi_take H.at_ H.keys H.inv.tasks (by unfold kS; rw [List.length_map]; have := H.len; omega) hc).mono ?_
  rintro e w' ⟨l, v, hR, rfl, hO, hA, hF⟩
  have hl := take_is H.inv hR
  subst hl
  have hs : (restS S core now).Sublist S := List.filter_sublist
  refine ⟨v, rfl, hO, ⟨?_, H.inv.sub hs, H.few, Nat.le_trans hs.length_le H.len⟩, hF⟩
  rw [← take_rest H.inv]
  exact hA
theorem is_due (H : IsIpi w base b bm cores T S) {c t : Int} (hp : pairW (c, t)) :
    Calls Try.prog 24 #[.pointer (some ⟨b, 0, none⟩), .int .i64 c, .int .i64 t] w fun e w' => e = .returned (.int .i64 (dueF (fS S) (c, t))) ∧ Below w.heap.size w w' := ipi_due H.at_ hp
def lenS (S : List Nt) (core : Int) : Nat := (S.filter (fun x => decide (x.c = core))).length
theorem is_len (H : IsIpi w base b bm cores T S) (core : Int) (hT : T < 100000) :
    Calls Try.prog 26 #[.pointer (some ⟨b, 0, none⟩), .int .i64 core] w fun e w' => e = .returned (.int .i64 (lenS S core : Nat)) ∧ Below w.heap.size w w' := by
  have e : ((kS S).filter (fun p => decide (p.1 = core))).length = lenS S core := by
    unfold kS lenS
    rw [List.filter_map, List.length_map]
    rfl
  rw [← e]
  exact ipi_len H.at_ H.keys core (by unfold kS; rw [List.length_map]; have := H.len; omega)
theorem pw (c t : Int) (h : -9223372036854775808 ≤ c ∧ c ≤ 9223372036854775807 ∧ -9223372036854775808 ≤ t ∧ t ≤ 9223372036854775807) : pairW (c, t) := ⟨wfI h.1 h.2.1, wfI h.2.2.1 h.2.2.2⟩
set_option maxRecDepth 100000 in
set_option maxHeartbeats 1600000 in
theorem ipiex_any {w : World} : Calls Try.prog 16 #[] w fun e w' => e = .returned (.bool true) ∧ Below w.heap.size w w' := by
  go_enter Try.func16, Try.ntmps16
  go_wp2_with fail
  refine (is_new (c := 2) (by omega) (by omega)).mono ?_
  rintro e w1 ⟨b, bm, rfl, H0, hb1⟩
  go_wp2_with fail
  refine (ipi_new_no 0 (by omega)).mono ?_
  rintro e w1' ⟨rfl, rfl⟩
  go_wp2_with fail
  refine (is_send H0 (c := 0) (t := 5) (now := 10) (lat := 3) (pw _ _ (by decide)) (by omega) (by decide)).mono ?_
  rintro e w2 ⟨rfl, H1, hf1⟩
  go_wp2_with fail
  refine (is_send_no H1 (c := 0) (t := 5) (now := 10) (lat := 1) (pw _ _ (by decide)) (by decide) (by decide)).mono ?_
  rintro e w3 ⟨rfl, hb3⟩
  have H2 := H1.later hb3
  go_wp2_with fail
  refine (is_send H2 (c := 0) (t := 2) (now := 11) (lat := 2) (pw _ _ (by decide)) (by omega) (by decide)).mono ?_
  rintro e w4 ⟨rfl, H3, hf4⟩
  go_wp2_with fail
  refine (is_take H3 (core := 0) (now := 12) (by decide) (by omega)).mono ?_
  rintro e w5 ⟨v5, rfl, hO5, H5, hf5⟩
  have t5 : takeS ([] ++ [⟨0, 5, 10 + latV 3, ((0 : Nat) : Int) + 1⟩] ++ [⟨0, 2, 11 + latV 2, ((0 + 1 : Nat) : Int) + 1⟩]) 0 12 = [] := by decide
  have r5 : restS ([] ++ [⟨0, 5, 10 + latV 3, ((0 : Nat) : Int) + 1⟩] ++ [⟨0, 2, 11 + latV 2, ((0 + 1 : Nat) : Int) + 1⟩]) 0 12 = [⟨0, 5, 13, 1⟩, ⟨0, 2, 13, 2⟩] := by decide
  rw [t5] at hO5
  rw [r5] at H5
  obtain ⟨A5, c5, rfl⟩ := own_slice hO5
  go_wp2_with fail
  refine (is_take H5 (core := 0) (now := 13) (by decide) (by omega)).mono ?_
  rintro e w6 ⟨v6, rfl, hO6, H6, hf6⟩
  have t6 : takeS [⟨0, 5, 13, 1⟩, ⟨0, 2, 13, 2⟩] 0 13 = [⟨0, 5, 13, 1⟩, ⟨0, 2, 13, 2⟩] := by decide
  have r6 : restS [⟨0, 5, 13, 1⟩, ⟨0, 2, 13, 2⟩] 0 13 = [] := by decide
  rw [t6] at hO6
  rw [r6] at H6
  obtain ⟨g, c6, cur, rfl, hg, -⟩ := own_shape hO6 (by decide)
  go_wp2_with fail
  refine (is_send H6 (c := 0) (t := 1) (now := 5) (lat := 99) (pw _ _ (by decide)) (by omega) (by decide)).mono ?_
  rintro e w7 ⟨rfl, H7, hf7⟩
  have s7 : [] ++ [(⟨0, 1, 5 + latV 99, ((0 + 1 + 1 : Nat) : Int) + 1⟩ : Nt)] = [⟨0, 1, 55, 3⟩] := by decide
  rw [s7] at H7
  have hlt := H5.at_.lt
  have hO7 := own_kept hO6 hf7 (fun k hk e => by
    have h1 := own_ge hO6 k hk
    have h2 := (hlt k e).2
    omega)
  have q0 : w7.cell? ⟨g, 0, none⟩ = some (.int .i64 5) := own_cell0 hO7 rfl
  have q1 : w7.cell? ⟨g, 1, none⟩ = some (.int .i64 2) := own_cell0 hO7 rfl
  have hB7 := hid (show Below w.heap.size w w7 from (((((((Fr.of_below (S := NoB) hb1).trans hf1 (fun x hx => .inr (H0.at_.lt x hx).1)).trans (Fr.of_below (S := NoB) hb3) (fun x hx => hx.elim)).trans hf4 (fun x hx => .inr (H0.at_.lt x hx).1)).trans hf5 (fun x hx => .inr (H0.at_.lt x hx).1)).trans hf6 (fun x hx => .inr (H0.at_.lt x hx).1)).trans hf7 (fun x hx => .inr (H0.at_.lt x hx).1)).no)
  have HH7 := hid H7
  clear hf1 hf4 hf5 hf6 hf7 hb1 hb3 H0 H1 H2 H3 H5 H6 H7 hO5 hO6 hO7 t5 r5 t6 r6 s7 hlt
  go_wp2_with (first
    | (go_at_call 24; refine (is_due HH7.out (c := 0) (t := 1) (pw _ _ (by decide))).mono ?_; rintro e w8 ⟨rfl, hb8⟩; have d8 : dueF (fS [⟨0, 1, 55, 3⟩]) (0, 1) = 55 := (by decide); have HH8 := hid (HH7.out.later hb8))
    | (go_at_call 26; refine (is_len HH8.out 0 (by omega)).mono ?_; rintro e w9 ⟨rfl, hb9⟩; have d9 : lenS [⟨0, 1, 55, 3⟩] 0 = 1 := (by decide)))
  go_ret
  exact ⟨rfl, below_then (below_then hB7.out hb8) hb9⟩
end
end Go.Proofs.Ytbkjlohlfkokpaa
