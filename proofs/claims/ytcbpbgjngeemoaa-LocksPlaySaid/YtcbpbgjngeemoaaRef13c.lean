/- The document's locks: Ask, Free (contracts). -/
import Derived.Test.YtcbpbgjngeemoaaRef13b
set_option linter.unusedVariables false
set_option linter.unusedSimpArgs false
namespace Go.Proofs.Ytcbpbgjngeemoaa
open Go.RowKit
section
variable {w w' : World} {base x g : Nat} {vs : List Value} {Q : List (List Int)}
set_option maxHeartbeats 400000 in
theorem r13_ask_arg (H : R13 w base x g vs Q) {res t : Int} (h8 : Q.length ≤ 8) (h : res < 0 ∨ (Q.length : Int) ≤ res ∨ t < 0 ∨ 24 ≤ t) :
    Calls Try.prog 47 #[.pointer (some ⟨x, 0, none⟩), .int .i64 res, .int .i64 t] w fun e w' => e = .returned (.tuple #[.int .i64 0, .int .i64 1]) ∧ w' = w := by
  obtain ⟨n, hn⟩ : ∃ n, n = Q.length := ⟨_, rfl⟩
  have c0 : w.cell? ⟨x, 0, none⟩ = some (.slice (some ⟨g, 0, none⟩) n n) := by rw [blk_cell H.hx 0, hn]; rfl
  rw [← hn] at h
  clear H hn h8
  by_cases h1 : res < 0
  · go_enter Try.func47, Try.ntmps47
    go_wp2_with fail
    go_ret2
    exact ⟨rfl, rfl⟩
  · by_cases h2 : (n : Int) ≤ res
    · go_enter Try.func47, Try.ntmps47
      go_wp2_with fail
      go_ret2
      exact ⟨rfl, rfl⟩
    · by_cases h3 : t < 0
      · go_enter Try.func47, Try.ntmps47
        go_wp2_with fail
        go_ret2
        exact ⟨rfl, rfl⟩
      · have h4 : 24 ≤ t := by omega
        clear h
        go_enter Try.func47, Try.ntmps47
        go_wp2_with fail
        go_ret2
        exact ⟨rfl, rfl⟩
set_option maxHeartbeats 400000 in
theorem r13_ask_there (H : R13 w base x g vs Q) {t : Int} {i : Nat} (hi : i < Q.length) (h8 : Q.length ≤ 8) (hl : ∀ q ∈ Q, q.length < 4611686018427387904) (h3 : 0 ≤ t) (h4 : t < 24) (h5 : 0 ≤ wantsQ Q t) :
    Calls Try.prog 47 #[.pointer (some ⟨x, 0, none⟩), .int .i64 i, .int .i64 t] w fun e w' => e = .returned (.tuple #[.int .i64 0, .int .i64 4]) ∧ w' = w := by
  have HW := hid (r13_wants H t h8 hl)
  obtain ⟨n, hn⟩ : ∃ n, n = Q.length := ⟨_, rfl⟩
  have c0 : w.cell? ⟨x, 0, none⟩ = some (.slice (some ⟨g, 0, none⟩) n n) := by rw [blk_cell H.hx 0, hn]; rfl
  rw [← hn] at hi
  clear H hn h8 hl
  generalize wantsQ Q t = u at *
  go_enter Try.func47, Try.ntmps47
  go_wp2_with fail
  refine HW.out.mono ?_
  rintro e w1 ⟨rfl, hw1⟩
  obtain rfl := hw1
  go_wp2_with fail
  go_ret2
  exact ⟨rfl, rfl⟩
set_option maxRecDepth 100000 in
set_option maxHeartbeats 800000 in
theorem r13_ask_new (H : R13 w base x g vs Q) {t : Int} {i : Nat} {q : List Int} (hq : Q[i]? = some q) (h8 : Q.length ≤ 8) (hl : ∀ q ∈ Q, q.length < 100000) (h3 : 0 ≤ t) (h4 : t < 24) (h5 : wantsQ Q t < 0) :
    Calls Try.prog 47 #[.pointer (some ⟨x, 0, none⟩), .int .i64 i, .int .i64 t] w fun e w' => e = .returned (.tuple #[.int .i64 q.length, .int .i64 0]) ∧ R13Behind w base x g vs (Q.set i (q ++ [t])) w' := by
  have HW := hid (r13_wants H t h8 (fun q hq => by have := hl q hq; omega))
  have hil := (List.getElem?_eq_some_iff.1 hq).1
  obtain ⟨n, hn⟩ : ∃ n, n = Q.length := ⟨_, rfl⟩
  have c0 : w.cell? ⟨x, 0, none⟩ = some (.slice (some ⟨g, 0, none⟩) n n) := by rw [blk_cell H.hx 0, hn]; rfl
  have hin : i < n := by omega
  obtain ⟨A, c, hv, hown, cg⟩ := H.row hq
  have hql := hl q (List.mem_of_getElem? hq)
  obtain ⟨m, hm⟩ : ∃ m, m = q.length := ⟨_, rfl⟩
  rw [← hm] at hv hown cg hql
  have hgx : x ≠ g := blk_ne H.hx H.grid.hg (cells_ne (by decide))
  have hxl := blk_lt H.hx
  have hgl := blk_lt H.grid.hg
  have hbx := H.lo
  have HH := hid H
  have HV := hid hv
  have HO := hid hown
  have HM := hid hm
  have HN := hid hn
  have HQ := hid hq
  obtain ⟨i0, hi, hz0, hz1, hz2⟩ := info_parts Try.info_int
  have hW1 : IntKind.i64.wrap ((m : Int) + 1 - 1) = m := by rw [show (m : Int) + 1 - 1 = m by omega]; exact wraps_i64 _ (by omega) (by omega)
  clear H hn hm hv hown hq hl
  generalize hu : wantsQ Q t = u at HW h5
  clear hu
  go_enter Try.func47, Try.ntmps47
  go_wp2_with fail
  refine HW.out.mono ?_
  rintro e w1 ⟨rfl, hw1⟩
  obtain rfl : w1 = w := hw1
  go_upto_region 5 with fail
  go_region_law (first
    | (refine step_append_new (W := w1.drew) rfl _ _ 22 rfl base 3 i0 _ 1 8 Try.underlying22 hi hz0 hz1 hz2 rfl (by decide) #[.int .i64 t] (.slice A m c) m (intCells q) (by simp [Act.eval, Act.put]) w1.heap.size (by simp [Act.eval, Act.put]) (by simp) (own_drewN HO.out 1) rfl (one_one _) (by unfold maxLen; omega) (by omega) (by simp; omega) ?_
       intro v2 w2 hown2 hf2 hl2
       obtain ⟨g2, cc2, cu2, rfl, _⟩ := own_shape hown2 (Nat.succ_pos _)
       have hR2 := R13.turn (w := w1.drew) (HH.out.drewN 1) HV.out HQ.out (q' := q ++ [t]) (by rw [int_snoc2, List.length_append, ← HM.out]; exact hown2) hf2 (loc_back hl2 (Nat.le_refl _))
       have hg2 := hf2.blk (k := g) HH.out.grid.hg (fun e => by
         obtain ⟨C, hC⟩ := own_kind HO.out e
         exact blk_ne hC HH.out.grid.hg (cells_ne (by decide)) rfl)
       have hx2 := hf2.blk (k := x) HH.out.hx (fun e => by
         obtain ⟨C, hC⟩ := own_kind HO.out e
         exact blk_ne hC HH.out.hx (cells_ne (by decide)) rfl)
       have cg2 : w2.cell? ⟨g, i, none⟩ = some (.slice A m c) := by rw [blk_cell hg2 i]; simpa using HV.out
       have fg2 : w2.frozen? ⟨g, i, none⟩ = false := blk_free hg2 i
       have cx2 : w2.cell? ⟨x, 0, none⟩ = some (.slice (some ⟨g, 0, none⟩) n n) := by rw [blk_cell hx2 0, HN.out]; rfl
       have HR2 := hid hR2
       clear hown2 hf2 hl2 hg2 hx2 hR2))
  all_goals
    go_wp2_with fail
    go_ret2
    refine ⟨by rw [← HM.out]; rfl, ?_⟩
    obtain ⟨vs', h1, h2, h3⟩ := HR2.out
    exact ⟨vs', h1, (Fr.refl (RSet x g vs) w1).drew.trans h2 (fun k hk => .inl hk), h3⟩
theorem r13_ask (H : R13 w base x g vs Q) (res t : Int) (h8 : Q.length ≤ 8) (hl : ∀ q ∈ Q, q.length < 100000) {a y : Int} {Q' : List (List Int)} (ha : askQ Q res t = (a, y, Q')) :
    Calls Try.prog 47 #[.pointer (some ⟨x, 0, none⟩), .int .i64 res, .int .i64 t] w fun e w' => e = .returned (.tuple #[.int .i64 a, .int .i64 y]) ∧ R13Behind w base x g vs Q' w' := by
  unfold askQ at ha
  by_cases h : res < 0 ∨ (Q.length : Int) ≤ res ∨ t < 0 ∨ 24 ≤ t
  · rw [if_pos h] at ha
    simp only [Prod.mk.injEq] at ha
    obtain ⟨rfl, rfl, rfl⟩ := ha
    exact (r13_ask_arg H h8 h).mono fun e w' ⟨he, hw⟩ => ⟨he, by rw [hw]; exact R13Behind.same H (Below.refl _ _)⟩
  · rw [if_neg h] at ha
    obtain ⟨i, rfl⟩ : ∃ i : Nat, res = i := ⟨res.toNat, by omega⟩
    obtain ⟨q, hq⟩ : ∃ q, Q[i]? = some q := ⟨_, List.getElem?_eq_getElem (by omega)⟩
    by_cases h2 : 0 ≤ wantsQ Q t
    · rw [if_pos h2] at ha
      simp only [Prod.mk.injEq] at ha
      obtain ⟨rfl, rfl, rfl⟩ := ha
      exact (r13_ask_there H (by omega) h8 (fun q hq => by have := hl q hq; omega) (by omega) (by omega) h2).mono fun e w' ⟨he, hw⟩ => ⟨he, by rw [hw]; exact R13Behind.same H (Below.refl _ _)⟩
    · rw [if_neg h2] at ha
      have hg : Q.getD ((i : Int)).toNat [] = q := by rw [List.getD_eq_getElem?_getD]; simp [hq]
      rw [hg] at ha
      simp only [Prod.mk.injEq, Int.toNat_natCast] at ha
      obtain ⟨rfl, rfl, rfl⟩ := ha
      exact r13_ask_new H hq h8 hl (by omega) (by omega) (by omega)
set_option maxHeartbeats 400000 in
theorem r13_free_no (H : R13 w base x g vs Q) {t : Int} (h8 : Q.length ≤ 8) (hl : ∀ q ∈ Q, q.length < 4611686018427387904) (h : hasQ Q t = false) :
    Calls Try.prog 49 #[.pointer (some ⟨x, 0, none⟩), .int .i64 t] w fun e w' => e = .returned (.tuple #[.int .i64 0, .int .i64 5]) ∧ w' = w := by
  have HA := hid (r13_has H t h8 hl)
  rw [h] at HA
  clear H h h8 hl
  go_enter Try.func49, Try.ntmps49
  go_wp2_with fail
  refine HA.out.mono ?_
  rintro e w1 ⟨rfl, rfl⟩
  go_wp2_with fail
  go_ret2
  exact ⟨rfl, rfl⟩
theorem tail_back {w : World} {base ga n cap c : Nat} {y : Int} {q : List Int} (h : w.ownsRow base 3 1 (.slice (some ⟨ga, 0, none⟩) n cap) n (intCells (y :: q))) (hc : q.length + 1 ≤ c) :
    ∃ A, (if c = 1 then some (⟨ga, 0, none⟩ : Addr) else some ⟨ga, 1, none⟩) = some A ∧ ∀ j u, (intCells q)[j]? = some u → w.cell? (A.add j) = some u := by
  by_cases hk : c = 1
  · rw [if_pos hk]
    refine ⟨_, rfl, fun j u hj => ?_⟩
    rw [List.length_eq_zero_iff.1 (by omega : q.length = 0)] at hj
    simp [intCells] at hj
  · rw [if_neg hk]
    refine ⟨_, rfl, fun j u hj => ?_⟩
    rw [add_off]
    exact own_cell0 h (by rw [Nat.add_comm]; simpa [intCells] using hj)
set_option maxRecDepth 100000 in
set_option maxHeartbeats 800000 in
theorem r13_free_yes (H : R13 w base x g vs Q) {t : Int} {i : Nat} {q : List Int} (hI : QInv Q) (hq : Q[i]? = some (t :: q)) (h8 : Q.length ≤ 8) (hl : ∀ q ∈ Q, q.length < 100000) :
    Calls Try.prog 49 #[.pointer (some ⟨x, 0, none⟩), .int .i64 t] w fun e w' => e = .returned (.tuple #[.int .i64 (headQ q), .int .i64 0]) ∧ R13Behind w base x g vs (Q.set i q) w' := by
  have hl2 : ∀ q ∈ Q, q.length < 4611686018427387904 := fun q hq => by have := hl q hq; omega
  have hil := (List.getElem?_eq_some_iff.1 hq).1
  have hwq := hI.wants hq (t := t) (by simp)
  have hhas : hasQ Q t = true := by
    unfold hasQ
    rw [hwq, holder_get ⟨by omega, by omega⟩ (by simpa using hq)]
    simp [headQ]
  have HA := hid (r13_has H t h8 hl2)
  rw [hhas] at HA
  have HW := hid (r13_wants H t h8 hl2)
  rw [hwq] at HW
  obtain ⟨n, hn⟩ : ∃ n, n = Q.length := ⟨_, rfl⟩
  have c0 : w.cell? ⟨x, 0, none⟩ = some (.slice (some ⟨g, 0, none⟩) n n) := by rw [blk_cell H.hx 0, hn]; rfl
  have hin : (i : Int) < (n : Int) := by omega
  obtain ⟨A, c, hv, hown, cg⟩ := H.row hq
  have hql := hl _ (List.mem_of_getElem? hq)
  obtain ⟨m, hm⟩ : ∃ m, m = q.length := ⟨_, rfl⟩
  have hln : (t :: q).length = m + 1 := by simp [hm]
  rw [hln] at hv hown cg hql
  obtain ⟨ga, ca, cua, hva, _, _, hcap, _⟩ := own_shape hown (by omega)
  cases hva
  obtain ⟨Ar, hAr, hNb⟩ := tail_back hown (c := c) (by omega)
  have hne1 : (1 : Int) ≤ (m : Int) + 1 := by omega
  have hne2 : (m : Int) + 1 ≤ (c : Int) := by omega
  have hbx := H.lo
  have hxl := blk_lt H.hx
  have hgl := blk_lt H.grid.hg
  have HH := hid H
  have HV := hid hv
  have HO := hid hown
  have HM := hid hm
  have HN := hid hn
  have HQ := hid hq
  have HNb := hid hNb
  have HL := hid hl
  obtain ⟨i0, hi, hz0, hz1, hz2⟩ := info_parts Try.info_int
  clear H hn hm hv hown hq hl hl2 hhas hwq hNb hln
  go_enter Try.func49, Try.ntmps49
  go_wp2_with fail
  refine HA.out.mono ?_
  rintro e w1 ⟨rfl, hw1⟩
  obtain rfl : w1 = w := hw1
  go_wp2_with fail
  refine HW.out.mono ?_
  rintro e w2 ⟨rfl, hw2⟩
  obtain rfl : w2 = w1 := hw2
  go_upto_region 6 with fail
  go_region_law (first
    | (refine step_append_own rfl _ _ 22 rfl w2.heap.size 3 i0 _ 1 8 Try.underlying22 hi hz0 hz1 hz2 rfl (by decide) (.slice none 0 0) 0 [] (by simp [Act.eval, Act.put]) (World.ownsRow_nil _ _ _ _) Ar m (c - 1) (by simp [Act.eval, Act.put]) (intCells q) (by rw [HM.out]; simp [intCells]) HNb.out (cells_one _) (by unfold maxLen; omega) (by omega) (Nat.le_refl _) ?_
       intro v3 w3 hown3 hf3
       rw [List.nil_append, Nat.zero_add] at hown3
       obtain ⟨A3, c3, rfl⟩ := own_slice hown3
       have hf3' : Fr (fun k => (Value.slice (some ⟨ga, 0, none⟩) (m + 1) c).ownBlock = some k) w2.drew w3 := hf3.mono (fun k hk => by cases hk)
       have hR3 := R13.turn (w := w2.drew) (HH.out.drewN 1) HV.out HQ.out (q' := q) (by rw [← HM.out]; exact own_mono hown3 (by omega)) hf3' (fun k hk => .inr (own_ge hown3 k hk))
       have hg3 := hf3.blk (k := g) HH.out.grid.hg (fun e => by cases e)
       have hx3 := hf3.blk (k := x) HH.out.hx (fun e => by cases e)
       have cg3 : w3.cell? ⟨g, i, none⟩ = some (.slice (some ⟨ga, 0, none⟩) (m + 1) c) := by rw [blk_cell hg3 i]; simpa using HV.out
       have fg3 : w3.frozen? ⟨g, i, none⟩ = false := blk_free hg3 i
       have cx3 : w3.cell? ⟨x, 0, none⟩ = some (.slice (some ⟨g, 0, none⟩) n n) := by rw [blk_cell hx3 0, HN.out]; rfl
       have HR3 := hid hR3
       clear hown3 hf3 hf3' hg3 hx3 hR3))
  all_goals
    obtain ⟨vs', h1, h2, h3⟩ := HR3.out
    have h1' := hid h1
    have hFF := hid (And.intro ((Fr.refl (RSet x g vs) w2).drew.trans h2 (fun k hk => .inl hk)) h3)
    clear h1 h2 h3 HR3
    go_wp2_with fail
    have hh : holderQ (Q.set i q) i = headQ q := holder_get ⟨by omega, by rw [List.length_set]; omega⟩ (by rw [Int.toNat_natCast]; exact List.getElem?_set_self hil)
    refine (r13_holder h1'.out i (by rw [List.length_set]; exact h8) (fun q' hq' => ?_)).mono ?_
    · rcases List.mem_or_eq_of_mem_set hq' with h | h
      · have := HL.out q' h; omega
      · rw [h, ← HM.out]; omega
    rintro e w5 ⟨rfl, hw5⟩
    obtain rfl := hw5
    rw [hh]
    go_wp2_with fail
    go_ret2
    exact ⟨rfl, vs', h1'.out, hFF.out.1, hFF.out.2⟩
theorem r13_free (H : R13 w base x g vs Q) {t : Int} (hI : QInv Q) (h8 : Q.length ≤ 8) (hl : ∀ q ∈ Q, q.length < 100000) {a y : Int} {Q' : List (List Int)} (ha : freeQ Q t = (a, y, Q')) :
    Calls Try.prog 49 #[.pointer (some ⟨x, 0, none⟩), .int .i64 t] w fun e w' => e = .returned (.tuple #[.int .i64 a, .int .i64 y]) ∧ R13Behind w base x g vs Q' w' := by
  unfold freeQ at ha
  by_cases h : hasQ Q t = true
  · rw [if_pos h] at ha
    obtain ⟨i, q, hq, hw⟩ := has_split hI h
    have hi := (List.getElem?_eq_some_iff.1 hq).1
    have hfr : freedQ Q t = Q.set i q := by
      unfold freedQ
      rw [hw, Int.toNat_natCast, List.getD_eq_getElem?_getD, hq]
      rfl
    rw [hfr, hw, holder_get (q := q) ⟨by omega, by rw [List.length_set]; omega⟩ (by rw [Int.toNat_natCast]; exact List.getElem?_set_self hi)] at ha
    simp only [Prod.mk.injEq] at ha
    obtain ⟨rfl, rfl, rfl⟩ := ha
    exact r13_free_yes H hI hq h8 hl
  · rw [if_neg h] at ha
    simp only [Prod.mk.injEq] at ha
    obtain ⟨rfl, rfl, rfl⟩ := ha
    exact (r13_free_no H h8 (fun q hq => by have := hl q hq; omega) (by simpa using h)).mono fun e w' ⟨he, hw⟩ => ⟨he, by rw [hw]; exact R13Behind.same H (Below.refl _ _)⟩
end
end Go.Proofs.Ytcbpbgjngeemoaa
