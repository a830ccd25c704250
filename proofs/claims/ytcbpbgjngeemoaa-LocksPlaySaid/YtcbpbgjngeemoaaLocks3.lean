/- Package locks: New (contract); the chapter's examples; pick. -/
import Derived.Test.YtcbpbgjngeemoaaLocks2
set_option linter.unusedVariables false
set_option linter.unusedSimpArgs false
namespace Go.Proofs.Ytcbpbgjngeemoaa
open Go.RowKit

theorem Try.info_ring : (Try.prog.info? 25).map (fun i => (i.zero, i.size, i.bytes)) = some (some (.pointer none), 1, 8) := by kernel_rfl
theorem locks_new_no {w : World} (n : Int) (h : n < 0 ∨ 8 < n) : Calls Try.prog 43 #[.int .i64 n] w fun e w' => e = .returned (.tuple #[.pointer none, .int .i64 1]) ∧ w' = w := by
  by_cases h0 : n < 0
  · go_enter Try.func43, Try.ntmps43
    go_wp2_with fail
    go_ret2
    exact ⟨rfl, rfl⟩
  · have h1 : 8 < n := by omega
    clear h
    go_enter Try.func43, Try.ntmps43
    go_wp2_with fail
    go_ret2
    exact ⟨rfl, rfl⟩
theorem RingQ.other {w w' : World} {p : Nat × Nat} {c : Nat} {q : List Int} {S : Nat → Prop} (h : RingQ w p c q) (k : Fr S w w') (hS : ∀ j, S j → ∃ A t f, w.heap[j]? = some (.cells A t f) ∧ t ≠ 96 ∧ t ≠ 98) : RingQ w' p c q := by
  obtain ⟨R, hR, _⟩ := id h
  obtain ⟨⟨A, hA⟩, C, hC⟩ := hR.kinds
  refine h.kept k (fun e => ?_) (fun e => ?_)
  · obtain ⟨B, t, f, hj, h1, h2⟩ := hS _ e
    exact blk_ne hA hj (cells_ne (Ne.symm h1)) rfl
  · obtain ⟨B, t, f, hj, h1, h2⟩ := hS _ e
    exact blk_ne hC hj (cells_ne (Ne.symm h2)) rfl
theorem MapIs.other {P : Program} {K E : TypeId} {w w' : World} {b n : Nat} {f : Int → Option Int} {S : Nat → Prop} (h : MapIs P K E w b n f) (k : Fr S w w') (hS : ∀ j, S j → ∃ A t f, w.heap[j]? = some (.cells A t f)) : MapIs P K E w' b n f := by
  have hmap : ∃ es cl, w.heap[b]? = some (.map es cl) := by obtain ⟨D, ⟨es, cl, h1, _⟩, _⟩ := h; exact ⟨es, cl, h1⟩
  obtain ⟨es, cl, hm⟩ := hmap
  refine h.kept k (fun e => ?_)
  obtain ⟨A, t, f, hj⟩ := hS _ e
  exact blk_ne hj hm cells_map rfl
/-- One ring more. -/
theorem LockPart.add {w w2 w3 : World} {base b bm : Nat} {qv v' : Value} {P : List (Nat × Nat)} {Q : List (List Int)} {f : Int → Option Int} (h : LockPart w base b bm qv P 0 Q f) {r s : Nat} (hb2 : Below w.heap.size w w2) (hR : RingQ w2 (r, s) 0 []) (hr : w.heap.size ≤ r) (hs : w.heap.size ≤ s) (hbase : base ≤ w.heap.size)
    (hrow : w3.ownsRow base 25 1 v' (P.length + 1) (ptrs P ++ [.pointer (some ⟨r, 0, none⟩)])) (hF : Fr (fun k => qv.ownBlock = some k) w2 w3) :
    LockPart (w3.setCell ⟨b, 0, none⟩ v') base b bm v' (P ++ [(r, s)]) 0 (Q ++ [[]]) f ∧ Fr (LSet b bm qv P) w (w3.setCell ⟨b, 0, none⟩ v') := by
  have hrow2 := own_kept h.row (fr0 hb2) (fun _ _ h => h)
  have k2 : ∀ j, qv.ownBlock = some j → ∃ A t f, w2.heap[j]? = some (.cells A t f) ∧ t ≠ 96 ∧ t ≠ 98 := fun j hj => by
    obtain ⟨C, hC⟩ := own_kind hrow2 hj
    exact ⟨C, _, _, hC, by decide, by decide⟩
  have hb3 : w3.heap[b]? = some (.cells #[qv, .map (some bm)] 113 (0, 0)) := hF.blk ((fr0 hb2).blk h.hb (fun h => h)) (fun e => by
    obtain ⟨C, hC⟩ := own_kind hrow2 e
    exact blk_ne hC ((fr0 hb2).blk h.hb (fun h => h)) (cells_ne (by decide)) rfl)
  have hF4 : Fr (One b) w3 (w3.setCell ⟨b, 0, none⟩ v') := (Fr.refl (One b) w3).one 0 v'
  have k3 : ∀ j, One b j → ∃ A t f, w3.heap[j]? = some (.cells A t f) ∧ t ≠ 96 ∧ t ≠ 98 := fun j hj => by
    rw [show j = b from hj]; exact ⟨_, _, _, hb3, by decide, by decide⟩
  refine ⟨⟨by simpa using blk_set hb3 0 v', ?_, ?_, ?_, ?_, ?_, ?_⟩, ?_⟩
  · have : ptrs (P ++ [(r, s)]) = ptrs P ++ [.pointer (some ⟨r, 0, none⟩)] := by simp [ptrs]
    rw [this, List.length_append]
    refine own_kept hrow hF4 (fun j hj e => ?_)
    obtain ⟨C, hC⟩ := own_kind hrow hj
    exact blk_ne hC hb3 (cells_ne (by decide)) e
  · simp [h.len]
  · intro i p q hp hq
    rcases Nat.lt_or_ge i P.length with hi | hi
    · rw [List.getElem?_append_left hi] at hp
      rw [List.getElem?_append_left (by rw [← h.len]; exact hi)] at hq
      exact (((h.rings i p q hp hq).kept (fr0 hb2) (fun h => h) (fun h => h)).other hF k2).other hF4 k3
    · have hl := (List.getElem?_eq_some_iff.1 hp).1
      simp at hl
      obtain rfl : i = P.length := by omega
      rw [List.getElem?_append_right (Nat.le_refl _), Nat.sub_self] at hp
      rw [h.len, List.getElem?_append_right (Nat.le_refl _), Nat.sub_self] at hq
      simp at hp hq
      rw [← hp, hq]
      exact (hR.other hF k2).other hF4 k3
  · refine List.pairwise_append.2 ⟨h.pw, by simp, fun p hp q hq => ?_⟩
    simp at hq
    obtain ⟨_, R, hRp, _⟩ := h.ring hp
    have := hRp.lt
    rw [hq]
    exact ⟨by show p.1 ≠ r; omega, by show p.2 ≠ s; omega⟩
  · refine ((h.map.kept (fr0 hb2) (fun h => h)).other hF (fun j hj => ?_)).other hF4 (fun j hj => ?_)
    · obtain ⟨A, t, f, h1, _⟩ := k2 j hj; exact ⟨A, t, f, h1⟩
    · obtain ⟨A, t, f, h1, _⟩ := k3 j hj; exact ⟨A, t, f, h1⟩
  · refine ⟨h.lo.1, h.lo.2.1, fun p hp => ?_⟩
    rcases List.mem_append.1 hp with hp | hp
    · exact h.lo.2.2 p hp
    · simp at hp; rw [hp]; exact ⟨by show base ≤ r; omega, by show base ≤ s; omega⟩
  · exact (((Fr.of_below hb2).trans hF (fun k hk => .inl (.inr (.inr (.inl hk))))).set (p := ⟨b, 0, none⟩) (.inl (.inl rfl)) _)
set_option maxRecDepth 100000 in
set_option maxHeartbeats 800000 in
theorem locks_new_yes {w : World} (n : Nat) (h : n ≤ 8) :
    Calls Try.prog 43 #[.int .i64 n] w fun e w' => ∃ b bm qv P, e = .returned (.tuple #[.pointer (some ⟨b, 0, none⟩), .int .i64 0]) ∧ LockAt w' w.heap.size b bm qv P 0 (List.replicate n []) ∧ Below w.heap.size w w' := by
  have hmm := @run_makeMap Try.prog
  obtain ⟨i0, hi, hz0, hz1, hz2⟩ := info_parts Try.info_ring
  go_enter Try.func43, Try.ntmps43
  go_wp2_with fail
  go_loopw [17] (fun i wr => ∃ (k : Nat) (qv : Value) (P : List (Nat × Nat)), k ≤ n ∧ i = .int .i64 k ∧ Below w.heap.size w wr ∧ LockPart wr w.heap.size (w.heap.size + 1) w.heap.size qv P 0 (List.replicate k []) (fun _ => none)) (fun i _ => n - (intOf i).toNat)
  case atStart =>
    refine ⟨0, .slice none 0 0, [], by omega, rfl, ?_, ⟨?_, World.ownsRow_nil _ _ _ _, rfl, fun i p q hp => by simp at hp, by simp, ?_, ⟨by omega, Nat.le_refl _, fun p hp => by simp at hp⟩⟩⟩
    · exact ((Below.refl _ _).alloc (Nat.le_refl _) _).alloc (by simp) _
    · have := blk_new (w.alloc (.map #[] 0)) (.cells #[.slice none 0 0, .map (some w.heap.size)] 113)
      simpa using this
    · exact (MapIs.made w).kept ((Fr.refl NoB _).alloc _) (fun h => h)
  case round =>
    obtain ⟨k, qv, P, hk, rfl, hb, hL⟩ := hrel
    have hlen := hL.len
    rw [List.length_replicate] at hlen
    have hsz := hb.size
    by_cases hlt : k < n
    · have HB := hid hb
      have HL := hid hL
      have hrow := hL.row
      rw [hlen] at hrow
      obtain ⟨A, cap, rfl⟩ := own_slice hrow
      have HRow := hid hrow
      clear hb hL hrow
      go_wp2_with fail
      refine (new_yes 24 (by omega)).mono ?_
      rintro e w2 ⟨r, s, rfl, H0, hb2, hr, hs⟩
      have c02 : w2.cell? ⟨w.heap.size + 1, 0, none⟩ = some (.slice A k cap) := by
        have := (fr0 hb2).blk HL.out.hb (fun h => h)
        rw [blk_cell this 0]; rfl
      have hrow2 := own_kept HRow.out (fr0 hb2) (fun _ _ h => h)
      have hsz2 := hb2.size
      have HB2 := hid hb2
      have H0' := hid H0
      clear hb2 H0
      go_wp2_with (at_builtin; refine append_new rfl _ _ 111 rfl w.heap.size 25 i0 _ 1 8 Try.underlying111 hi hz0 hz1 hz2 rfl (by decide) #[.pointer (some ⟨r, 0, none⟩)] (.slice A k cap) k (ptrs P) rfl _ rfl rfl hrow2 rfl (by intro u hu; simp at hu; subst hu; rfl) (by unfold maxLen; omega) (by omega) (by omega) ?_)
      intro v' w3 hown3 hf3 hl3
      obtain ⟨g3, cc3, cu3, rfl, _⟩ := own_shape hown3 (Nat.succ_pos _)
      have hadd := LockPart.add HL.out HB2.out (r := r) (s := s) ⟨_, H0'.out, rfl, Nat.le_refl _, rfl⟩ hr hs hsz (by rw [hlen]; exact hown3) hf3
      have hb3 : w3.heap[w.heap.size + 1]? = some (.cells #[.slice A k cap, .map (some w.heap.size)] 113 (0, 0)) := by
        refine hf3.blk ((fr0 HB2.out).blk ?_ (fun h => h)) (fun e => ?_)
        · exact HL.out.hb
        · obtain ⟨C, hC⟩ := own_kind hrow2 e
          exact blk_ne hC ((fr0 HB2.out).blk HL.out.hb (fun h => h)) (cells_ne (by decide)) rfl
      have c03 : w3.cell? ⟨w.heap.size + 1, 0, none⟩ = some (.slice A k cap) := by rw [blk_cell hb3 0]; rfl
      have f03 : w3.frozen? ⟨w.heap.size + 1, 0, none⟩ = false := blk_free hb3 0
      have HADD := hid hadd
      clear hown3 hf3 hl3 hadd hb3 hrow2
      go_wp2_with fail
      go_roundw
      case rel =>
        refine ⟨k + 1, .slice (some ⟨g3, 0, none⟩) (k + 1) cc3, P ++ [(r, s)], by omega, by go_num, ?_, ?_⟩
        · exact ((Fr.of_below (S := NoB) HB.out).trans HADD.out.2 (fun x hx => .inr (HL.out.lt x hx).1)).no
        · rw [List.replicate_succ']; exact HADD.out.1
      case measure => simp [intOf]; omega
    · obtain rfl : k = n := by omega
      have HB := hid hb
      have HL := hid hL
      clear hb hL
      go_wp2_with fail
      go_ret2
      refine ⟨_, _, qv, P, rfl, ⟨⟨HL.out.hb, HL.out.row, HL.out.len, HL.out.rings, HL.out.pw, HL.out.map.congr (fun t => ?_), HL.out.lo⟩, QInv.empty k⟩, HB.out⟩
      unfold wantF
      rw [wants_no (fun i q hq => by rw [rep_get hq]; simp), if_pos (by omega)]

set_option maxHeartbeats 400000 in
theorem lockpick_any {w : World} (c n : Int) (h0 : -9223372036854775808 ≤ c) (h1 : c ≤ 9223372036854775807) (hn : 0 < n) (hn2 : n ≤ 1099511627776) :
    Calls Try.prog 45 #[.int .i64 c, .int .i64 n] w fun e w' => e = .returned (.int .i64 (pickN c n)) ∧ w' = w := by
  have hn0 : (n == 0) = false := beq_eq_false_iff_ne.2 (by omega)
  have hn1 : (n == -1) = false := beq_eq_false_iff_ne.2 (by omega)
  by_cases h : c < 0
  · have e := hid (show pickN c n = -((c + 1).tmod n) by unfold pickN; rw [if_pos h, ← Int.neg_tmod, Int.tmod_eq_emod_of_nonneg (by omega)])
    go_enter Try.func45, Try.ntmps45
    go_wp2
    go_ret
    exact ⟨ret_eq (by rw [e.out]; rfl), rfl⟩
  · have e := hid (show pickN c n = c % n by unfold pickN; rw [if_neg h])
    go_enter Try.func45, Try.ntmps45
    go_wp2
    go_ret
    exact ⟨ret_eq (by rw [e.out]; rfl), rfl⟩

set_option maxRecDepth 100000 in
set_option maxHeartbeats 1600000 in
/-- The chapter's examples are so. -/
theorem lockex_any {w : World} : Calls Try.prog 42 #[] w fun e w' => e = .returned (.bool true) ∧ Below w.heap.size w w' := by
  go_enter Try.func42, Try.ntmps42
  go_wp2_with fail
  refine (locks_new_yes 2 (by omega)).mono ?_
  rintro e w1 ⟨b, bm, qv, P, rfl, H0, hb1⟩
  go_wp2_with fail
  refine (locks_new_no 9 (by omega)).mono ?_
  rintro e w1' ⟨rfl, rfl⟩
  go_wp2_with fail
  refine (lock_ask H0 0 5 (by decide) (by decide) (x := 0) (y := 0) (Q' := [[5], []]) (by decide)).mono ?_
  rintro e w2 ⟨rfl, H1, hf1⟩
  go_wp2_with fail
  refine (lock_ask H1 0 2 (by decide) (by decide) (x := 1) (y := 0) (Q' := [[5, 2], []]) (by decide)).mono ?_
  rintro e w3 ⟨rfl, H2, hf2⟩
  go_wp2_with fail
  refine (lock_ask H2 1 5 (by decide) (by decide) (x := 0) (y := 4) (Q' := [[5, 2], []]) (by decide)).mono ?_
  rintro e w4 ⟨rfl, H3, hf3⟩
  go_wp2_with fail
  refine (lock_holder_in H3 (i := 0) (q := [5, 2]) rfl).mono ?_
  rintro e w5 ⟨rfl, n5, rfl⟩
  have e5 : headQ [5, 2] = 5 := rfl
  rw [e5]
  go_wp2_with fail
  refine (lock_has (H3.drewN n5) (t := 2) (by decide) (by decide)).mono ?_
  rintro e w6 ⟨rfl, n6, hw6⟩
  have H6 : LockAt w6 w.heap.size b bm qv P (0 + 2 + 2 + 2) [[5, 2], []] := by rw [hw6]; exact (H3.drewN n5).drewN n6
  have hf6 : Fr (LSet b bm qv P) w4 w6 := by rw [hw6]; exact ((Fr.refl _ w4).drewN n5).drewN n6
  have e6 : hasQ [[5, 2], []] 2 = false := by decide
  rw [e6]
  clear hw6
  go_wp2_with fail
  refine (lock_free H6 (t := 2) (by decide) (by decide) (by decide) (x := 0) (y := 5) (Q' := [[5, 2], []]) (by decide)).mono ?_
  rintro e w7 ⟨rfl, H7, hf7⟩
  go_wp2_with fail
  refine (lock_free H7 (t := 5) (by decide) (by decide) (by decide) (x := 2) (y := 0) (Q' := [[2], []]) (by decide)).mono ?_
  rintro e w8 ⟨rfl, H8, hf8⟩
  have hB8 := hid (show Below w.heap.size w w8 from (((((((((Fr.of_below (S := NoB) hb1).trans hf1 (fun x hx => .inr (H0.part.lt x hx).1)).trans hf2 (fun x hx => .inr (H0.part.lt x hx).1)).trans hf3 (fun x hx => .inr (H0.part.lt x hx).1)).trans hf6 (fun x hx => .inr (H0.part.lt x hx).1)).trans hf7 (fun x hx => .inr (H0.part.lt x hx).1)).trans hf8 (fun x hx => .inr (H0.part.lt x hx).1))).no))
  clear hf1 hf2 hf3 hf6 hf7 hf8 hb1
  go_wp2_with fail
  refine (lock_holder_in H8 (i := 0) (q := [2]) rfl).mono ?_
  rintro e w9 ⟨rfl, n9, rfl⟩
  have e9 : headQ [2] = 2 := rfl
  rw [e9]
  go_wp2_with fail
  refine (lock_wants (H8.drewN n9) (t := 2) (by decide) (by decide)).mono ?_
  rintro e w10 ⟨rfl, rfl⟩
  have e10 : wantsQ [[2], []] 2 = 0 := by decide
  rw [e10]
  go_wp2_with fail
  refine (lock_wants (H8.drewN n9) (t := 5) (by decide) (by decide)).mono ?_
  rintro e w11 ⟨rfl, rfl⟩
  have e11 : wantsQ [[2], []] 5 = -1 := by decide
  rw [e11]
  go_wp2_with fail
  go_ret
  exact ⟨rfl, below_drewN' hB8.out n9⟩
end Go.Proofs.Ytcbpbgjngeemoaa
