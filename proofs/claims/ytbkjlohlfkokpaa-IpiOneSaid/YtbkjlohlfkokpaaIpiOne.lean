/- IpiOne: a second note of a task to one core is the first one; one to another core is another one: the walk. -/
import Derived.Test.YtbkjlohlfkokpaaIpiOncePlain
set_option linter.unusedVariables false
set_option linter.unusedSimpArgs false
namespace Go.Proofs.Ytbkjlohlfkokpaa
open Go.RowKit

section
variable {a t d b d2 : Int}
theorem one_due : dueF (fS [⟨a, t, d, 1⟩]) (a, t) = d := by simp [dueF, fS, Nt.key]
theorem two_due (h : a ≠ b) : dueF (fS [⟨a, t, d, 1⟩, ⟨b, t, d2, 2⟩]) (a, t) = d := by simp [dueF, fS, Nt.key]
theorem one_early : takeS [⟨a, t, d, 1⟩] a (d - 1) = [] ∧ restS [⟨a, t, d, 1⟩] a (d - 1) = [⟨a, t, d, 1⟩] := by
  have h : ¬ d ≤ d - 1 := by omega
  simp [takeS, restS, dueI, sortN, h]
theorem two_early (h : a ≠ b) : takeS [⟨a, t, d, 1⟩, ⟨b, t, d2, 2⟩] a (d - 1) = [] ∧ restS [⟨a, t, d, 1⟩, ⟨b, t, d2, 2⟩] a (d - 1) = [⟨a, t, d, 1⟩, ⟨b, t, d2, 2⟩] := by
  have h1 : ¬ d ≤ d - 1 := by omega
  have h2 : ¬ b = a := fun e => h e.symm
  simp [takeS, restS, dueI, sortN, h1, h2]
theorem one_late : takeS [⟨a, t, d, 1⟩] a d = [⟨a, t, d, 1⟩] ∧ restS [⟨a, t, d, 1⟩] a d = [] := by
  simp [takeS, restS, dueI, sortN, insN]
theorem two_late (h : a ≠ b) : takeS [⟨a, t, d, 1⟩, ⟨b, t, d2, 2⟩] a d = [⟨a, t, d, 1⟩] ∧ restS [⟨a, t, d, 1⟩, ⟨b, t, d2, 2⟩] a d = [⟨b, t, d2, 2⟩] := by
  have h2 : ¬ b = a := fun e => h e.symm
  simp [takeS, restS, dueI, sortN, insN, h2]
theorem none_due : dueF (fS []) (a, t) = -1 := rfl
theorem other_due (h : a ≠ b) : dueF (fS [⟨b, t, d2, 2⟩]) (a, t) = -1 := by
  have h2 : ¬ b = a := fun e => h e.symm
  simp [dueF, fS, Nt.key, h2]
theorem other_len : lenS [⟨b, t, d2, 2⟩] b = 1 := by simp [lenS]
end
theorem ipione_second {w : World} {base bb bm : Nat} {a b t d now two : Int} (H : IsIpi w base bb bm 8 (0 + 1) [⟨a, t, d, 1⟩]) (htb : 0 ≤ t ∧ t < 24) (hab : 0 ≤ a ∧ a < 8) (hbb : 0 ≤ b ∧ b < 8) (hn : 0 ≤ now ∧ now < 1099511627776) :
    ∃ (sec : Bool) (T : Nat) (S R : List Nt), T ≤ 2 ∧ sec = !(a == b) ∧ (sec = false ∨ lenS R b = 1) ∧ takeS S a (d - 1) = [] ∧ restS S a (d - 1) = S ∧ (takeS S a d).map Nt.t = [t] ∧ restS S a d = R ∧ dueF (fS S) (a, t) = d ∧ dueF (fS R) (a, t) = -1 ∧
      Calls Try.prog 20 #[.pointer (some ⟨bb, 0, none⟩), .int .i64 b, .int .i64 t, .int .i64 now, .int .i64 two] w fun e w' => e = .returned (.bool sec) ∧ IsIpi w' base bb bm 8 T S ∧ Fr (ISet bb bm) w w' := by
  by_cases h : a = b
  · subst h
    refine ⟨false, 0 + 1, [⟨a, t, d, 1⟩], [], by omega, by simp, .inl rfl, one_early.1, one_early.2, by rw [one_late.1]; rfl, one_late.2, one_due, none_due, ?_⟩
    refine (is_send_no H (pw _ _ (by omega)) (by omega) (fun hs => by have := hs.1; simp [fS, Nt.key] at this)).mono ?_
    rintro e w' ⟨rfl, hb⟩
    exact ⟨rfl, H.later hb, Fr.of_below hb⟩
  · have h2 : fS [⟨a, t, d, 1⟩] (b, t) = none := by simp [fS, Nt.key, h]
    refine ⟨true, 0 + 1 + 1, [⟨a, t, d, 1⟩, ⟨b, t, now + latV two, 2⟩], [⟨b, t, now + latV two, 2⟩], by omega, by simp [h], .inr other_len, (two_early h).1, (two_early h).2, by rw [(two_late h).1]; rfl, (two_late h).2, two_due h, other_due h, ?_⟩
    exact is_send H (pw _ _ (by omega)) (by omega) ⟨h2, by omega⟩
set_option maxRecDepth 100000 in
set_option maxHeartbeats 3200000 in
theorem ipione_walk {w : World} (task a0 b0 now0 one two : Int) (ht : -9223372036854775808 ≤ task ∧ task ≤ 9223372036854775807) (ha : -9223372036854775808 ≤ a0 ∧ a0 ≤ 9223372036854775807) (hb : -9223372036854775808 ≤ b0 ∧ b0 ≤ 9223372036854775807)
    (hn : -9223372036854775808 ≤ now0 ∧ now0 ≤ 9223372036854775807) :
    Calls Try.prog 5 #[.int .i64 task, .int .i64 a0, .int .i64 b0, .int .i64 now0, .int .i64 one, .int .i64 two] w fun e w' => e = .returned (.bool true) ∧ Below w.heap.size w w' := by
  go_enter Try.func5, Try.ntmps5
  go_wp2_with fail
  refine ipiex_any.mono ?_
  rintro e w1 ⟨rfl, hb1⟩
  go_wp2_with fail
  refine (is_new (c := 8) (by omega) (by omega)).mono ?_
  rintro e w2 ⟨bb, bm, rfl, h0, hb2⟩
  have HB2 := hid (below_then hb1 hb2)
  have H0 := hid h0
  have HSZ := hid hb1.size
  clear h0 hb1 hb2
  go_wp2_with fail
  refine (ipipick_any task 24 ht.1 ht.2 (by omega) (by omega)).mono ?_
  rintro e w' ⟨rfl, rfl⟩
  have htb := pickN_bd task 24 (by omega)
  generalize pickN task 24 = t at *
  go_wp2_with fail
  refine (ipipick_any a0 8 ha.1 ha.2 (by omega) (by omega)).mono ?_
  rintro e w' ⟨rfl, rfl⟩
  have hab := pickN_bd a0 8 (by omega)
  generalize pickN a0 8 = a at *
  go_wp2_with fail
  refine (ipipick_any b0 8 hb.1 hb.2 (by omega) (by omega)).mono ?_
  rintro e w' ⟨rfl, rfl⟩
  have hbb := pickN_bd b0 8 (by omega)
  generalize pickN b0 8 = b at *
  go_wp2_with fail
  refine (ipipick_any now0 1099511627776 hn.1 hn.2 (by omega) (by omega)).mono ?_
  rintro e w' ⟨rfl, rfl⟩
  have hnb := pickN_bd now0 1099511627776 (by omega)
  generalize pickN now0 1099511627776 = now at *
  clear ht ha hb hn
  go_wp2_with fail
  refine (is_send H0.out (c := a) (t := t) (now := now) (lat := one) (pw _ _ (by omega)) (by omega) ⟨rfl, by omega⟩).mono ?_
  rintro e w3 ⟨rfl, hI3, hF3⟩
  have hl1 := latV_bd one
  have hl1c : 1 ≤ one → one ≤ 50 → latV one = one := fun h1 h2 => by unfold latV; rw [if_neg (by omega), if_neg (by omega)]
  have e3 : ([] ++ [⟨a, t, now + latV one, ((0 : Nat) : Int) + 1⟩] : List Nt) = [⟨a, t, now + latV one, 1⟩] := rfl
  rw [e3] at hI3
  generalize latV one = l1 at *
  have HB3 := hid (((Fr.of_below (S := NoB) HB2.out).trans hF3 (fun x hx => .inr (Nat.le_trans HSZ.out (H0.out.at_.lt x hx).1))).no)
  have HI3 := hid hI3
  have HLC := hid hl1c
  clear hI3 hF3 e3 hl1c
  go_wp2_with fail
  refine (is_due HI3.out (c := a) (t := t) (pw _ _ (by omega))).mono ?_
  rintro e w4 ⟨rfl, hb4⟩
  rw [one_due]
  have HI4 := hid (HI3.out.later hb4)
  have HB4 := hid (below_then HB3.out hb4)
  clear hb4
  obtain ⟨d, hd⟩ : ∃ d, now + l1 = d := ⟨_, rfl⟩
  rw [hd] at HI4 ⊢
  have hdb : now + 1 ≤ d ∧ d ≤ now + 50 := by omega
  have HD := hid hd
  have hcase : (¬ (1 ≤ one) ∨ ¬ (one ≤ 50)) ∨ (1 ≤ one ∧ one ≤ 50 ∧ d = now + one) := by
    by_cases h1 : 1 ≤ one
    · by_cases h2 : one ≤ 50
      · exact .inr ⟨h1, h2, by rw [← hd, HLC.out h1 h2]⟩
      · exact .inl (.inr h2)
    · exact .inl (.inl h1)
  have HC := hid hcase
  clear hd hl1 hcase
  obtain ⟨sec, T, S, R, hT, hsec, hlen, he1, he2, hl1, hl2, hd1, hd2, hcall⟩ := ipione_second (two := two) HI4.out htb hab hbb hnb
  have HCALL := hid hcall
  have HSEC := hid hsec
  have HLEN := hid hlen
  have HE := hid (And.intro he1 he2)
  have HL := hid (And.intro hl1 hl2)
  have HDU := hid (And.intro hd1 hd2)
  have HLT0 := hid HI4.out.at_.lt
  clear hcall hsec hlen he1 he2 hl1 hl2 hd1 hd2 HI3 HB3
  go_wp2_with fail
  refine HCALL.out.mono ?_
  rintro e w5 ⟨rfl, hI5, hF5⟩
  have HI5 := hid hI5
  have HB5 := hid (((Fr.of_below (S := NoB) HB4.out).trans hF5 (fun x hx => .inr (Nat.le_trans HSZ.out (HLT0.out x hx).1))).no)
  have HLT := hid hI5.at_.lt
  clear hI5 hF5 HCALL HI4 HB4 HLT0
  have hdue := is_due HI5.out (c := a) (t := t) (pw _ _ (by omega))
  rw [HDU.out.1] at hdue
  have HDUE := hid hdue
  clear hdue
  cases sec
  all_goals
    have hsec := HSEC.out
    simp only [Bool.not_eq_eq_eq_not, Bool.not_true, Bool.not_false, Bool.false_eq, Bool.true_eq] at hsec
    have hsec2 : (a != b) = !(a == b) := rfl
    rw [hsec] at hsec2
    go_upto_region 14 with (go_at_call 24; refine HDUE.out.mono ?_; rintro e w6 ⟨rfl, hb6⟩)
  all_goals
    have HI6 := hid (HI5.out.later hb6)
    have HB6 := hid (below_then HB5.out hb6)
    have HLT6 := hid (fun k hk => (⟨(HLT.out k hk).1, Nat.lt_of_lt_of_le (HLT.out k hk).2 hb6.size⟩ : w1.heap.size ≤ k ∧ k < w6.heap.size))
    clear hb6 hsec hsec2 HI5 HB5 HDUE HLT
    rcases HC.out with (h | h) | ⟨h1, h2, h3⟩
    all_goals try (have hne : (d != now + one) = false := (by simp [h3])); clear h3
    all_goals
      clear HC
      go_upto_region 16 with fail
      go_wp2_with fail
      refine (is_take HI6.out (core := a) (now := d - 1) (wfI (by omega) (by omega)) (by omega)).mono ?_
      rintro e w7 ⟨v7, rfl, hO7, hI7, hF7⟩
      rw [HE.out.1] at hO7
      rw [HE.out.2] at hI7
      obtain ⟨A7, c7, rfl⟩ := own_slice hO7
      have HI7 := hid hI7
      have HB7 := hid (((Fr.of_below (S := NoB) HB6.out).trans hF7 (fun x hx => .inr (Nat.le_trans HSZ.out (HLT6.out x hx).1))).no)
      clear hO7 hI7 hF7
      go_wp2_with fail
      refine (is_take HI7.out (core := a) (now := d) (wfI (by omega) (by omega)) (by omega)).mono ?_
      rintro e w8 ⟨v8, rfl, hO8, hI8, hF8⟩
      rw [HL.out.1] at hO8
      rw [HL.out.2] at hI8
      obtain ⟨g8, c8, cur8, rfl, _⟩ := own_shape hO8 (by simp)
      have k80 : w8.cell? ⟨g8, 0, none⟩ = some (.int .i64 t) := own_cell0 hO8 rfl
      have HB8 := hid (((Fr.of_below (S := NoB) HB7.out).trans hF8 (fun x hx => .inr (Nat.le_trans HSZ.out (HI7.out.at_.lt x hx).1))).no)
      have hdue := is_due hI8 (c := a) (t := t) (pw _ _ (by omega))
      rw [HDU.out.2] at hdue
      have HDUE := hid hdue
      have HLE := hid (fun (W : World) (h : Below w8.heap.size w8 W) => is_len (hI8.later h) b (by omega))
      obtain ⟨ln, hln⟩ : ∃ ln, lenS R b = ln := ⟨_, rfl⟩
      rw [hln] at HLE
      have HLN := hid hln
      clear hO8 hI8 hF8 hdue hln
      have hsec := HSEC.out
      simp only [Bool.not_eq_eq_eq_not, Bool.not_true, Bool.not_false, Bool.false_eq, Bool.true_eq] at hsec
      try (have hl1 : ln = 1 := (by have h := HLEN.out; rw [HLN.out] at h; simpa using h))
      go_wp2_with (first
        | (go_at_call 24; refine HDUE.out.mono ?_; rintro e w9 ⟨rfl, hb9⟩; have HB9 := hid hb9; clear hb9)
        | (go_at_call 26; refine (HLE.out _ HB9.out).mono ?_; rintro e w10 ⟨rfl, hb10⟩; have HB10 := hid hb10; clear hb10))
      go_ret
      first
        | exact ⟨rfl, below_then (below_then HB8.out HB9.out) HB10.out⟩
        | exact ⟨rfl, below_then HB8.out HB9.out⟩
end Go.Proofs.Ytbkjlohlfkokpaa
