/- LocksApart: what is asked for of one resource is nothing to who asks for another one: the walk. Whatever deeds. -/
import Derived.Test.YtcbpbgjngeemoaaLocks3
import Derived.Test.YtcbpbgjngeemoaaDeed
set_option linter.unusedVariables false
set_option linter.unusedSimpArgs false
namespace Go.Proofs.Ytcbpbgjngeemoaa
open Go.RowKit

theorem wants_two (A B : List Int) (t : Int) : wantsQ [A, B] t = if t ∈ A then 0 else if t ∈ B then 1 else -1 := by
  unfold wantsQ
  by_cases h : t ∈ A
  · rw [if_pos h, if_pos h]
  · rw [if_neg h, if_neg h]
    unfold wantsQ
    by_cases h2 : t ∈ B
    · rw [if_pos h2, if_pos h2]; rfl
    · rw [if_neg h2, if_neg h2]; rfl
theorem holder_two (A B : List Int) : holderQ [A, B] 0 = headQ A ∧ holderQ [A, B] 1 = headQ B := ⟨rfl, rfl⟩
/-- Who asks for 0, who for 1. -/
structure AB (A B : List Int) : Prop where
  a : ∀ x ∈ A, 0 ≤ x ∧ x < 12
  b : ∀ x ∈ B, 12 ≤ x ∧ x < 24
theorem AB.headA {A B : List Int} (h : AB A B) : headQ A < 12 := by
  cases A with
  | nil => decide
  | cons x A => exact (h.a x (by simp)).2
theorem AB.headB {A B : List Int} (h : AB A B) : headQ B < 0 ∨ 12 ≤ headQ B := by
  cases B with
  | nil => exact .inl (by decide)
  | cons x B => exact .inr (h.b x (by simp)).1
theorem ab_ask0 {A B : List Int} (h : AB A B) {t : Int} (h0 : 0 ≤ t) (h1 : t < 12) : ∃ x y A', askQ [A, B] 0 t = (x, y, [A', B]) ∧ askQ [A, []] 0 t = (x, y, [A', []]) ∧ AB A' B := by
  have hB : t ∉ B := fun hm => by have := h.b t hm; omega
  have hr : ∀ C : List Int, ¬ ((0 : Int) < 0 ∨ (([A, C] : List (List Int)).length : Int) ≤ 0 ∨ t < 0 ∨ 24 ≤ t) := fun C => by simp; omega
  have e1 : wantsQ [A, B] t = if t ∈ A then 0 else -1 := by rw [wants_two, if_neg hB]
  have e2 : wantsQ [A, []] t = if t ∈ A then 0 else -1 := by rw [wants_two, if_neg (show ¬ t ∈ ([] : List Int) by simp)]
  unfold askQ
  rw [if_neg (hr B), if_neg (hr []), e1, e2]
  by_cases hA : t ∈ A
  · rw [if_pos hA]
    exact ⟨0, 4, A, rfl, rfl, h⟩
  · rw [if_neg hA]
    refine ⟨_, 0, A ++ [t], rfl, rfl, fun x hx => ?_, h.b⟩
    rcases List.mem_append.1 hx with hx | hx
    · exact h.a x hx
    · simp at hx; rw [hx]; exact ⟨h0, h1⟩
theorem ab_ask1 {A B : List Int} (h : AB A B) {t : Int} (h0 : 12 ≤ t) (h1 : t < 24) : ∃ x y B', askQ [A, B] 1 t = (x, y, [A, B']) ∧ AB A B' := by
  have hA : t ∉ A := fun hm => by have := h.a t hm; omega
  have hr : ¬ ((1 : Int) < 0 ∨ (([A, B] : List (List Int)).length : Int) ≤ 1 ∨ t < 0 ∨ 24 ≤ t) := by simp; omega
  unfold askQ
  rw [if_neg hr, wants_two, if_neg hA]
  by_cases hB : t ∈ B
  · rw [if_pos hB]
    exact ⟨0, 4, B, rfl, h⟩
  · rw [if_neg hB]
    refine ⟨_, 0, B ++ [t], rfl, h.a, fun x hx => ?_⟩
    rcases List.mem_append.1 hx with hx | hx
    · exact h.b x hx
    · simp at hx; rw [hx]; exact ⟨h0, h1⟩
theorem ab_free0 {A B : List Int} (h : AB A B) {t : Int} (h0 : 0 ≤ t) (h1 : t < 12) : ∃ x y A', freeQ [A, B] t = (x, y, [A', B]) ∧ freeQ [A, []] t = (x, y, [A', []]) ∧ AB A' B := by
  have hB : t ∉ B := fun hm => by have := h.b t hm; omega
  have hw : ∀ C : List Int, t ∉ C → wantsQ [A, C] t = if t ∈ A then 0 else -1 := fun C hC => by rw [wants_two, if_neg hC]
  unfold freeQ hasQ freedQ
  rw [hw B hB, hw [] (by simp)]
  by_cases hA : t ∈ A
  · rw [if_pos hA]
    cases A with
    | nil => cases hA
    | cons a A =>
      have e1 : holderQ [a :: A, B] 0 = a := rfl
      have e2 : holderQ [a :: A, []] 0 = a := rfl
      rw [e1, e2]
      by_cases he : a = t
      · refine ⟨headQ A, 0, A, ?_, ?_, fun x hx => h.a x (by simp [hx]), h.b⟩
        · rw [if_pos (by simp [he])]; rfl
        · rw [if_pos (by simp [he])]; rfl
      · refine ⟨0, 5, a :: A, ?_, ?_, h⟩
        · rw [if_neg (by simp [he])]
        · rw [if_neg (by simp [he])]
  · rw [if_neg hA]
    exact ⟨0, 5, A, rfl, rfl, h⟩
theorem ab_free1 {A B : List Int} (h : AB A B) {t : Int} (h0 : 12 ≤ t) (h1 : t < 24) : ∃ x y B', freeQ [A, B] t = (x, y, [A, B']) ∧ AB A B' := by
  have hA : t ∉ A := fun hm => by have := h.a t hm; omega
  have hw : wantsQ [A, B] t = if t ∈ B then 1 else -1 := by rw [wants_two, if_neg hA]
  unfold freeQ hasQ freedQ
  rw [hw]
  by_cases hB : t ∈ B
  · rw [if_pos hB]
    cases B with
    | nil => cases hB
    | cons a B =>
      have e1 : holderQ [A, a :: B] 1 = a := rfl
      rw [e1]
      by_cases he : a = t
      · refine ⟨headQ B, 0, B, ?_, h.a, fun x hx => h.b x (by simp [hx])⟩
        rw [if_pos (by simp [he])]; rfl
      · refine ⟨0, 5, a :: B, ?_, h⟩
        rw [if_neg (by simp [he])]
  · rw [if_neg hB]
    exact ⟨0, 5, B, rfl, h⟩

theorem LockAt.base {w : World} {base base' b bm c : Nat} {qv : Value} {P : List (Nat × Nat)} {Q : List (List Int)} (H : LockAt w base b bm qv P c Q) (hb : base' ≤ base) : LockAt w base' b bm qv P c Q :=
  ⟨⟨H.part.hb, own_mono H.part.row hb, H.part.len, H.part.rings, H.part.pw, H.part.map, ⟨Nat.le_trans hb H.part.lo.1, Nat.le_trans hb H.part.lo.2.1, fun p hp => ⟨Nat.le_trans hb (H.part.lo.2.2 p hp).1, Nat.le_trans hb (H.part.lo.2.2 p hp).2⟩⟩⟩, H.inv⟩
/-- Two locks behind a call's start. -/
structure LL (w wx : World) (b bm : Nat) (qv : Value) (P : List (Nat × Nat)) (b2 bm2 : Nat) (qv2 : Value) (P2 : List (Nat × Nat)) (c : Nat) (Q Q2 : List (List Int)) : Prop where
  below : Below w.heap.size w wx
  fa : LockAt wx w.heap.size b bm qv P c Q
  fb : LockAt wx w.heap.size b2 bm2 qv2 P2 c Q2
  apart : ∀ k, LSet b bm qv P k → ¬ LSet b2 bm2 qv2 P2 k
section
variable {w wx w' : World} {b bm : Nat} {qv : Value} {P : List (Nat × Nat)} {b2 bm2 : Nat} {qv2 : Value} {P2 : List (Nat × Nat)} {c : Nat} {Q Q2 Q' : List (List Int)}
theorem LL.later (h : LL w wx b bm qv P b2 bm2 qv2 P2 c Q Q2) (hb : Below wx.heap.size wx w') : LL w w' b bm qv P b2 bm2 qv2 P2 c Q Q2 :=
  ⟨below_then h.below hb, h.fa.later hb, h.fb.later hb, h.apart⟩
theorem LL.stepA (h : LL w wx b bm qv P b2 bm2 qv2 P2 c Q Q2) (hB : LockBehind wx w.heap.size b bm c qv P Q' w') : LL w w' b bm qv P b2 bm2 qv2 P2 (c + 2) Q' Q2 :=
  ⟨((Fr.of_below (S := NoB) h.below).trans hB.2 (fun x hx => .inr (h.fa.part.lt x hx).1)).no, hB.1, (h.fb.kept hB.2 (fun k h2 h1 => h.apart k h1 h2)).mono (by omega), h.apart⟩
theorem LL.stepB (h : LL w wx b bm qv P b2 bm2 qv2 P2 c Q Q2) (hB : LockBehind wx w.heap.size b2 bm2 c qv2 P2 Q' w') : LL w w' b bm qv P b2 bm2 qv2 P2 (c + 2) Q Q' :=
  ⟨((Fr.of_below (S := NoB) h.below).trans hB.2 (fun x hx => .inr (h.fb.part.lt x hx).1)).no, (h.fa.kept hB.2 (fun k h1 h2 => h.apart k h1 h2)).mono (by omega), hB.1, h.apart⟩
theorem LL.mono (h : LL w wx b bm qv P b2 bm2 qv2 P2 c Q Q2) {c' : Nat} (hc : c ≤ c') : LL w wx b bm qv P b2 bm2 qv2 P2 c' Q Q2 := ⟨h.below, h.fa.mono hc, h.fb.mono hc, h.apart⟩
end

set_option maxRecDepth 1000000 in
set_option maxHeartbeats 800000 in
theorem locksapart_walk {w : World} (A : Option Addr) (len cap : Nat) (hlen : len ≤ 9223372036854775807) (Z : Nat → Nat → Int) (hz : IntRows w A len 3 Z) :
    Calls Try.prog 12 #[.slice A len cap] w fun e w' => e = .returned (.bool true) ∧ Below w.heap.size w w' := by
  have HZ := hid hz
  clear hz
  go_enter Try.func12, Try.ntmps12
  go_wp2_with fail
  refine lockex_any.mono ?_
  rintro e w1 ⟨rfl, hb1⟩
  go_wp2_with fail
  refine (locks_new_yes 2 (by omega)).mono ?_
  rintro e w2 ⟨b, bm, qv, P, rfl, H0, hb2⟩
  go_wp2_with fail
  refine (locks_new_yes 2 (by omega)).mono ?_
  rintro e w3 ⟨b2, bm2, qv2, P2, rfl, H02, hb3⟩
  have hsz := hb1.size
  have hsz2 := hb2.size
  have hHA : LL w w3 b bm qv P b2 bm2 qv2 P2 0 [[], []] [[], []] := ⟨below_then (below_then hb1 hb2) hb3, (H0.later hb3).base hsz, H02.base (by omega), fun k h1 h2 => by have := H0.part.lt k h1; have := H02.part.lt k h2; omega⟩
  have HA := hid hHA
  clear H0 H02 hb1 hb2 hb3 hsz hsz2 hHA
  go_wp2_with fail
  go_loopw [8] (fun i wr => ∃ (k : Nat) (A B : List Int), k ≤ len ∧ k ≤ 200 ∧ i = .int .i64 k ∧ LL w wr b bm qv P b2 bm2 qv2 P2 (4 * k) [A, B] [A, []] ∧ Hid (AB A B)) (fun i _ => 200 - (intOf i).toNat)
  case atStart => exact ⟨0, [], [], by omega, by omega, rfl, HA.out, ⟨fun x hx => (by cases hx), fun x hx => (by cases hx)⟩⟩
  case round =>
    obtain ⟨k, QA, QB, hk1, hk2, rfl, hI, hV⟩ := hrel
    by_cases h1 : k < len
    · by_cases h2 : k < 200
      · obtain ⟨ab, ao, rfl, hbl, hcs⟩ := HZ.out k h1
        obtain ⟨hc0, hd0, hd1⟩ := hcs 0 (by omega)
        obtain ⟨hc1, hr0, hr1⟩ := hcs 1 (by omega)
        obtain ⟨hc2, ht0, ht1⟩ := hcs 2 (by omega)
        have c0 : wr.cell? ⟨ab, ao + k * 3, none⟩ = some (.int .i64 (Z k 0)) := (hI.below.cell hbl).trans hc0
        have c1 : wr.cell? ⟨ab, ao + k * 3 + 1, none⟩ = some (.int .i64 (Z k 1)) := (hI.below.cell hbl).trans hc1
        have c2 : wr.cell? ⟨ab, ao + k * 3 + 2, none⟩ = some (.int .i64 (Z k 2)) := (hI.below.cell hbl).trans hc2
        clear hc0 hc1 hc2 hcs
        generalize Z k 0 = d0 at *
        generalize Z k 1 = d1 at *
        generalize Z k 2 = d2 at *
        have hK := pickN_bd d0 2 (by omega)
        have hR := pickN_bd d1 2 (by omega)
        have hT := pickN_bd d2 12 (by omega)
        have HKp := hid (fun W => lockpick_any (w := W) d0 2 hd0 hd1 (by omega) (by omega))
        have HRp := hid (fun W => lockpick_any (w := W) d1 2 hr0 hr1 (by omega) (by omega))
        have HTp := hid (fun W => lockpick_any (w := W) d2 12 ht0 ht1 (by omega) (by omega))
        generalize pickN d0 2 = K at *
        generalize pickN d1 2 = R at *
        generalize pickN d2 12 = T at *
        have HI := hid (hI.later ((Below.refl _ wr).alloc (Nat.le_refl _) (.cells #[.int .i64 d0, .int .i64 d1, .int .i64 d2] 75)))
        clear hI
        have hWr : IntKind.i64.wrap (12 * R) = 12 * R := wraps_i64 _ (by omega) (by omega)
        obtain ⟨t, ht⟩ : ∃ t, 12 * R + T = t := ⟨_, rfl⟩
        have hWt : IntKind.i64.wrap (12 * R + T) = t := by rw [wraps_i64 _ (by omega) (by omega), ht]
        have hRT : (R = 0 ∧ 0 ≤ t ∧ t < 12) ∨ (R = 1 ∧ 12 ≤ t ∧ t < 24) := by omega
        clear ht
        go_upto_if 61 with (first | (go_at_call_of 45 (Value.int IntKind.i64 d1); refine (HRp.out _).mono ?_; rintro e w' ⟨rfl, rfl⟩) | (go_at_call_of 45 (Value.int IntKind.i64 d2); refine (HTp.out _).mono ?_; rintro e w' ⟨rfl, rfl⟩) | (go_at_call_of 45 (Value.int IntKind.i64 d0); refine (HKp.out _).mono ?_; rintro e w' ⟨rfl, rfl⟩))
        go_cut [12] (fun _ wx => ∃ A' B', LL w wx b bm qv P b2 bm2 qv2 P2 (4 * (k + 1)) [A', B'] [A', []] ∧ Hid (AB A' B'))
        case first =>
          as_aux_lemma =>
            rcases hRT with ⟨rfl, ht0', ht1'⟩ | ⟨rfl, ht0', ht1'⟩
            · rcases (show K = 0 ∨ K = 1 by omega) with rfl | rfl
              · obtain ⟨x, y, A', hp, hp2, hab⟩ := ab_ask0 hV.out (t := t) ht0' ht1'
                have HP := hid hp
                have HP2 := hid hp2
                clear hp hp2
                go_wp2_with fail
                refine (lock_ask HI.out.fa 0 t (by simp) (by omega) HP.out).mono ?_
                rintro e w4 ⟨rfl, hB4⟩
                have HI3 := hid (HI.out.stepA hB4)
                clear hB4
                go_wp2_with fail
                refine (lock_ask HI3.out.fb 0 t (by simp) (by omega) HP2.out).mono ?_
                rintro e w5 ⟨rfl, hB5⟩
                have HI5 := hid (HI3.out.stepB hB5)
                clear hB5
                go_wp2_with fail
                go_meet
                exact ⟨A', QB, HI5.out.mono (by omega), hab⟩
              · obtain ⟨x, y, A', hp, hp2, hab⟩ := ab_free0 hV.out (t := t) ht0' ht1'
                have HP := hid hp
                have HP2 := hid hp2
                clear hp hp2
                go_wp2_with fail
                refine (lock_free HI.out.fa (t := t) (by omega) (by omega) (by omega) HP.out).mono ?_
                rintro e w4 ⟨rfl, hB4⟩
                have HI3 := hid (HI.out.stepA hB4)
                clear hB4
                go_wp2_with fail
                refine (lock_free HI3.out.fb (t := t) (by omega) (by omega) (by omega) HP2.out).mono ?_
                rintro e w5 ⟨rfl, hB5⟩
                have HI5 := hid (HI3.out.stepB hB5)
                clear hB5
                go_wp2_with fail
                go_meet
                exact ⟨A', QB, HI5.out.mono (by omega), hab⟩
            · rcases (show K = 0 ∨ K = 1 by omega) with rfl | rfl
              · obtain ⟨x, y, B', hp, hab⟩ := ab_ask1 hV.out (t := t) ht0' ht1'
                have HP := hid hp
                clear hp
                go_wp2_with fail
                refine (lock_ask HI.out.fa 1 t (by simp) (by omega) HP.out).mono ?_
                rintro e w4 ⟨rfl, hB4⟩
                have HI3 := hid (HI.out.stepA hB4)
                clear hB4
                go_wp2_with fail
                go_meet
                exact ⟨QA, B', HI3.out.mono (by omega), hab⟩
              · obtain ⟨x, y, B', hp, hab⟩ := ab_free1 hV.out (t := t) ht0' ht1'
                have HP := hid hp
                clear hp
                go_wp2_with fail
                refine (lock_free HI.out.fa (t := t) (by omega) (by omega) (by omega) HP.out).mono ?_
                rintro e w4 ⟨rfl, hB4⟩
                have HI3 := hid (HI.out.stepA hB4)
                clear hB4
                go_wp2_with fail
                go_meet
                exact ⟨QA, B', HI3.out.mono (by omega), hab⟩
        obtain ⟨A', B', hJ, hAB⟩ := hcut
        have HJ := hid hJ
        have hhA := hAB.out.headA
        have hhB := hAB.out.headB
        have HA2 := hid hAB.out
        obtain ⟨ha, hha⟩ : ∃ ha, headQ A' = ha := ⟨_, rfl⟩
        obtain ⟨hb, hhb⟩ : ∃ hb, headQ B' = hb := ⟨_, rfl⟩
        rw [hha] at hhA
        rw [hhb] at hhB
        have HHA := hid hha
        have HHB := hid hhb
        have hn12 : ¬ (12 ≤ ha) := by omega
        clear hJ hAB hha hhb
        go_wp2_with fail
        refine (lock_holder_in HJ.out.fa (i := 0) (q := A') rfl).mono ?_
        rintro e w4 ⟨rfl, n4, hw4⟩
        have HJ4 := hid (HJ.out.later (w' := w4) (by rw [hw4]; exact below_drewN' (Below.refl _ _) n4))
        rw [HHA.out]
        clear hw4
        go_wp2_with fail
        refine (lock_holder_in HJ4.out.fb (i := 0) (q := A') rfl).mono ?_
        rintro e w5 ⟨rfl, n5, hw5⟩
        have HJ5 := hid (HJ4.out.later (w' := w5) (by rw [hw5]; exact below_drewN' (Below.refl _ _) n5))
        rw [HHA.out]
        clear hw5
        go_wp2_with fail
        refine (lock_queue HJ5.out.fa 0).mono ?_
        rintro e w6 ⟨v6, rfl, hb6, hown6, _⟩
        have HJ6 := hid (HJ5.out.later hb6)
        have hn6 : (queueQ [A', B'] 0).length = A'.length := rfl
        rw [hn6] at hown6
        obtain ⟨A6, c6, rfl⟩ := own_slice hown6
        clear hb6 hown6 hn6
        go_wp2_with fail
        refine (lock_queue HJ6.out.fb 0).mono ?_
        rintro e w7 ⟨v7, rfl, hb7, hown7, _⟩
        have HJ7 := hid (HJ6.out.later hb7)
        have hn7 : (queueQ [A', []] 0).length = A'.length := rfl
        rw [hn7] at hown7
        obtain ⟨A7, c7, rfl⟩ := own_slice hown7
        clear hb7 hown7 hn7
        go_wp2_with fail
        refine (lock_holder_in HJ7.out.fa (i := 0) (q := A') rfl).mono ?_
        rintro e w8 ⟨rfl, n8, hw8⟩
        have HJ8 := hid (HJ7.out.later (w' := w8) (by rw [hw8]; exact below_drewN' (Below.refl _ _) n8))
        rw [HHA.out]
        clear hw8
        go_wp2_with fail
        refine (lock_holder_in HJ8.out.fa (i := 1) (q := B') rfl).mono ?_
        rintro e w9 ⟨rfl, n9, hw9⟩
        have HJ9 := hid (HJ8.out.later (w' := w9) (by rw [hw9]; exact below_drewN' (Below.refl _ _) n9))
        rw [HHB.out]
        clear hw9
        rcases hhB with hhB | hhB
        · have hnb : ¬ (0 ≤ hb) := by omega
          go_wp2_with fail
          go_roundw
          case rel => exact ⟨k + 1, A', B', by omega, by omega, by go_num, HJ9.out, HA2.out⟩
          case measure => simp [intOf]; omega
        · have hnb : 0 ≤ hb := by omega
          have hnc : ¬ (hb < 12) := by omega
          go_wp2_with fail
          refine (lock_holder_in HJ9.out.fa (i := 1) (q := B') rfl).mono ?_
          rintro e w10 ⟨rfl, n10, hw10⟩
          have HJ10 := hid (HJ9.out.later (w' := w10) (by rw [hw10]; exact below_drewN' (Below.refl _ _) n10))
          rw [HHB.out]
          clear hw10
          go_wp2_with fail
          go_roundw
          case rel => exact ⟨k + 1, A', B', by omega, by omega, by go_num, HJ10.out, HA2.out⟩
          case measure => simp [intOf]; omega
      · have HI := hid hI
        clear hI
        go_wp2_with fail
        refine (lock_holder_out HI.out.fa (res := 2) (.inr (by simp))).mono ?_
        rintro e w4 ⟨rfl, hb4⟩
        have HI4 := hid (HI.out.later hb4)
        clear hb4
        go_wp2_with fail
        refine (lock_holder_in HI4.out.fb (i := 1) (q := []) rfl).mono ?_
        rintro e w5 ⟨rfl, n5, rfl⟩
        have e5 : headQ [] = -1 := rfl
        rw [e5]
        go_wp2_with fail
        go_ret
        exact ⟨rfl, below_drewN' HI4.out.below n5⟩
    · skip
      have HI := hid hI
      clear hI
      go_wp2_with fail
      refine (lock_holder_out HI.out.fa (res := 2) (.inr (by simp))).mono ?_
      rintro e w4 ⟨rfl, hb4⟩
      have HI4 := hid (HI.out.later hb4)
      clear hb4
      go_wp2_with fail
      refine (lock_holder_in HI4.out.fb (i := 1) (q := []) rfl).mono ?_
      rintro e w5 ⟨rfl, n5, rfl⟩
      have e5 : headQ [] = -1 := rfl
      rw [e5]
      go_wp2_with fail
      go_ret
      exact ⟨rfl, below_drewN' HI4.out.below n5⟩
end Go.Proofs.Ytcbpbgjngeemoaa
