/- Package heap: Push whatever comes, Change, Remove, Pop (contracts). -/
import Derived.Test.YtbkjlohlfkokpaaHeap5
set_option linter.unusedVariables false
set_option linter.unusedSimpArgs false
namespace Go.Proofs.Ytbkjlohlfkokpaa
open Go.RowKit Go.Maps

section
variable {w w' : World} {base h bm M room T : Nat} {v : Value} {turn : Int} {a S : List It} {L : List (Int × Int)} {Q : Nat → Prop}
theorem IsHeap.behind (H : IsHeap w base h Q room T L) (k : Below w.heap.size w w') {T' : Nat} (hT : T ≤ T') : HBehind w base h Q room T' L w' := ⟨Q, (H.later k).more hT, Fr.of_below k, fun _ h => .inl h⟩
theorem heap_push (H : IsHeap w base h Q room T L) {t k : Int} (ht : -9223372036854775808 ≤ t ∧ t ≤ 9223372036854775807) (hT : T < 100000000) {r : Int} {L' : List (Int × Int)} (hp : pushP room L t k = (r, L')) :
    Calls Try.prog 30 #[.pointer (some ⟨h, 0, none⟩), .int .i64 t, .int .i64 k] w fun e w' => e = .returned (.int .i64 r) ∧ HBehind w base h Q room (T + 1) L' w' := by
  unfold pushP at hp
  by_cases h1 : t < 0
  · rw [if_pos h1] at hp
    injection hp with hr hl
    subst hr hl
    refine (heap_push_no H ht (.inl ⟨h1, rfl⟩)).mono ?_
    rintro e w' ⟨rfl, q, rfl⟩
    exact ⟨rfl, H.behind (below_drewN' (Below.refl _ _) q) (by omega)⟩
  · rw [if_neg h1] at hp
    by_cases h2 : t ∈ fsts L
    · rw [if_pos h2] at hp
      injection hp with hr hl
      subst hr hl
      refine (heap_push_no H ht (.inr (.inl ⟨by omega, h2, rfl⟩))).mono ?_
      rintro e w' ⟨rfl, q, rfl⟩
      exact ⟨rfl, H.behind (below_drewN' (Below.refl _ _) q) (by omega)⟩
    · rw [if_neg h2] at hp
      by_cases h3 : room ≤ L.length
      · rw [if_pos h3] at hp
        injection hp with hr hl
        subst hr hl
        refine (heap_push_no H ht (.inr (.inr ⟨by omega, h2, h3, rfl⟩))).mono ?_
        rintro e w' ⟨rfl, q, rfl⟩
        exact ⟨rfl, H.behind (below_drewN' (Below.refl _ _) q) (by omega)⟩
      · rw [if_neg h3] at hp
        injection hp with hr hl
        subst hr hl
        exact heap_push_yes H ⟨by omega, ht.2⟩ h2 (by omega) hT
set_option maxRecDepth 100000 in
set_option maxHeartbeats 1600000 in
theorem heap_change_no (H : IsHeap w base h Q room T L) {t k : Int} (ht : -9223372036854775808 ≤ t ∧ t ≤ 9223372036854775807) (hin : t ∉ fsts L) :
    Calls Try.prog 33 #[.pointer (some ⟨h, 0, none⟩), .int .i64 t, .int .i64 k] w fun e w' => e = .returned (.int .i64 5) ∧ w' = w := by
  obtain ⟨bm, v, M, turn, a, S, H, rfl⟩ := H
  have c3 : w.cell? ⟨h, 3, none⟩ = some (.map (some bm)) := blk_cell H.raw.hb 3
  have HM := hid H.raw.map
  have HW := hid (wfI ht.1 ht.2)
  have HA := hid (H.out_ hin)
  clear H hin ht
  go_enter Try.func33, Try.ntmps33
  go_wp2_with (at_lookup; refine wp_look_ok rfl _ _ _ rfl Try.underlying3 Try.underlying3 Try.underlying94 (Try.zero_int _) HM.out rfl t rfl HW.out ?_; rw [HA.out])
  go_ret
  exact ⟨rfl, rfl⟩
set_option maxRecDepth 100000 in
set_option maxHeartbeats 3200000 in
theorem heap_change_yes (H : IsHeap w base h Q room T L) {t k : Int} (hin : t ∈ fsts L) (hT : T < 100000000) :
    Calls Try.prog 33 #[.pointer (some ⟨h, 0, none⟩), .int .i64 t, .int .i64 k] w fun e w' => e = .returned (.int .i64 0) ∧ HBehind w base h Q room (T + 1) (insP (t, k) (offP t L)) w' := by
  obtain ⟨bm, v, M, turn, a, S, H, rfl⟩ := H
  obtain ⟨j, hj, hjt, hat, hkk⟩ := H.in_ hin
  have HH := hid H
  have hal := H.alen
  obtain ⟨n, hn⟩ : ∃ n, a.length = n := ⟨_, rfl⟩
  have hb := H.rep.bd _ (H.rep.perm.subset (gl_mem hj))
  have hhi := H.hi _ (H.rep.perm.subset (gl_mem hj))
  rw [hjt] at hb hhi
  rw [hn] at hj hal
  have c1 : w.cell? ⟨h, 1, none⟩ = some (.int .i64 turn) := blk_cell H.raw.hb 1
  have c3 : w.cell? ⟨h, 3, none⟩ = some (.map (some bm)) := blk_cell H.raw.hb 3
  have f1 : w.frozen? ⟨h, 1, none⟩ = false := blk_free H.raw.hb 1
  have HM := hid H.raw.map
  have HW := hid (wfI (t := t) (by omega) hhi)
  have hrm := H.room_
  have ht0 := H.t0
  have ht1 := H.t1
  have hm1 := H.m1
  have hnl := H.len_
  have hn256 : n ≤ 256 := by omega
  have HA := hid hat
  have HN := hid hn
  have HJT := hid hjt
  have HLL := hid hal
  clear H hat hn hin hal hjt hkk
  go_enter Try.func33, Try.ntmps33
  go_upto_region 5 with (at_lookup; refine wp_look_ok rfl _ _ _ rfl Try.underlying3 Try.underlying3 Try.underlying94 (Try.zero_int _) HM.out rfl t rfl HW.out ?_; rw [HA.out])
  obtain ⟨w1, hw1⟩ : ∃ w1, w1 = w.setCell ⟨h, 1, none⟩ (.int .i64 (turn + 1)) := ⟨_, rfl⟩
  have hF1 : Fr (One h) w w1 := by rw [hw1]; exact (Fr.refl (One h) w).one 1 _
  have hb1 : w1.heap[h]? = some (.cells #[.int .i64 room, .int .i64 (turn + 1), v, .map (some bm)] 97 (0, 0)) := by
    rw [hw1]; simpa using blk_set HH.out.raw.hb 1 (.int .i64 (turn + 1))
  have hR1 : HRaw w1 base h bm v M room (turn + 1) a (atF a) := ⟨hb1, own_kept HH.out.raw.row hF1 (fun b hb e => HH.out.raw.ap b hb e), HH.out.raw.map.kept hF1 (fun e => HH.out.raw.hm e.symm), HH.out.raw.lo⟩
  have d1 : w1.cell? ⟨h, 1, none⟩ = some (.int .i64 (turn + 1)) := blk_cell hb1 1
  have hset := heap_set hR1 ⟨t, k, turn + 1⟩ (i := j) (by rw [HN.out]; exact hj) (by rw [HN.out]; omega) (by omega) ⟨by show _ ≤ t; omega, hhi⟩
  have hfs := atF_set (x := ⟨t, k, turn + 1⟩) HH.out.nd (by rw [HN.out]; exact hj) (show t = _ from HJT.out.symm)
  have HSET := hid (hset.mono (fun e w' ⟨he, hr, hf⟩ => (⟨he, hr.fun_ hfs, hf⟩ : e = Ending.returned (.tuple #[]) ∧ HRaw w' base h bm v (M + 1) room (turn + 1) (a.set j ⟨t, k, turn + 1⟩) (atF (a.set j ⟨t, k, turn + 1⟩)) ∧ Fr (HSet h bm v) w1 w')))
  have HF1 := hid hF1
  rw [← hw1]
  clear hw1 hF1 hb1 hR1 hset hfs c1 c3 f1
  go_wp2_with fail
  refine HSET.out.mono ?_
  rintro e w4 ⟨rfl, hR4, hF4⟩
  have hal4 : (a.set j (⟨t, k, turn + 1⟩ : It)).length = n := by rw [List.length_set, HN.out]
  have hHB : HB (gl (a.set j ⟨t, k, turn + 1⟩)) (a.set j (⟨t, k, turn + 1⟩ : It)).length j := by
    have h := HH.out.rep.heap
    rw [HN.out] at h
    rw [hal4, gl_upd (by rw [HN.out]; exact hj)]
    exact h.upd _ hj
  have hids4 := ids_set (a := a) (i := j) (x := ⟨t, k, turn + 1⟩) (by rw [HN.out]; exact hj) (show t = _ from HJT.out.symm)
  have hnd4 : (ids (a.set j ⟨t, k, turn + 1⟩)).Nodup := by rw [hids4]; exact HH.out.nd
  have hok4 : IdsOk (a.set j ⟨t, k, turn + 1⟩) := fun y hy => by
    rcases List.mem_or_eq_of_mem_set hy with hy | hy
    · exact HH.out.ok y hy
    · rw [hy]; exact ⟨by show _ ≤ t; omega, hhi⟩
  have hse := heap_settle hR4 hnd4 hok4 (i := j) (by rw [hal4]; exact hj) hHB (by rw [hal4]; omega) (by omega)
  have HSE := hid hse
  have HAL4 := hid hal4
  have HF4 := hid hF4
  clear hse hal4 hHB hids4 hnd4 hok4 hR4 hF4 d1
  go_wp2_with fail
  refine HSE.out.mono ?_
  rintro e w5 ⟨rfl, a5, hp5, hS5⟩
  have HS5 := hid hS5
  have HP5 := hid hp5
  clear hS5 hp5
  go_wp2_with fail
  go_ret
  have hF2 : Fr (HSet h bm v) w w1 := HF1.out.mono (fun x hx => .inl (.inl hx))
  have hF5 := (hF2.trans HF4.out (fun x hx => .inl hx)).trans HS5.out.fr (fun x hx => .inl hx)
  have hlen5 : a5.length = n := by rw [HS5.out.len, HAL4.out]
  have hp5 := HP5.out
  rw [HAL4.out] at hp5
  have hch := HH.out.rep.change (x := ⟨t, k, turn + 1⟩) (i := j) (by rw [HN.out]; exact hj) (show t = _ from HJT.out.symm) rfl ht0 HS5.out.perm (by rw [hlen5]; exact hp5)
  have heq : (insI ⟨t, k, turn + 1⟩ (offI t S)).map prI = insP (t, k) (offP t L) := by rw [ins_pr, off_pr, HH.out.eq]; rfl
  refine ⟨rfl, _, ⟨bm, v, M + 1 + 1100, turn + 1, a5, insI ⟨t, k, turn + 1⟩ (offI t S), ⟨HS5.out.raw, hch, by omega, by push_cast; omega, by omega, heq, ?_, hrm, ?_⟩, rfl⟩, hF5, fun x hx => .inl hx⟩
  · intro y hy
    rcases List.mem_cons.1 ((insI_perm _ _).subset hy) with rfl | hy
    · exact hhi
    · exact HH.out.hi y (List.filter_sublist.subset hy)
  · rw [← heq, List.length_map, ← hch.len, hlen5, HLL.out]; omega
theorem own_shorten {g n m cap : Nat} {e : TypeId} {size : Nat} {xs : List Value} (H : w.ownsRow base e size (.slice (some ⟨g, 0, none⟩) n cap) n xs) (hm : m ≤ n) : w.ownsRow base e size (.slice (some ⟨g, 0, none⟩) m cap) m (xs.take (m * size)) := by
  have hl := H.1
  have hms : m * size ≤ n * size := Nat.mul_le_mul_right _ hm
  rcases H.2 with ⟨h2, _⟩ | ⟨g', cap', cur, hv, hb, hg, h3, h4, h5, h6⟩
  · cases h2
  · cases hv
    refine ⟨by rw [List.length_take, hl, Nat.min_eq_left hms], .inr ⟨_, _, cur, rfl, hb, hg, by omega, h4, h5, ?_⟩⟩
    rw [← h6, List.take_take, Nat.min_eq_left hms]
set_option maxRecDepth 100000 in
set_option maxHeartbeats 1600000 in
theorem heap_remove_no (H : IsHeap w base h Q room T L) {t : Int} (ht : -9223372036854775808 ≤ t ∧ t ≤ 9223372036854775807) (hin : t ∉ fsts L) :
    Calls Try.prog 34 #[.pointer (some ⟨h, 0, none⟩), .int .i64 t] w fun e w' => e = .returned (.int .i64 5) ∧ w' = w := by
  obtain ⟨bm, v, M, turn, a, S, H, rfl⟩ := H
  have c3 : w.cell? ⟨h, 3, none⟩ = some (.map (some bm)) := blk_cell H.raw.hb 3
  have HM := hid H.raw.map
  have HW := hid (wfI ht.1 ht.2)
  have HA := hid (H.out_ hin)
  clear H hin ht
  go_enter Try.func34, Try.ntmps34
  go_wp2_with (at_lookup; refine wp_look_ok rfl _ _ _ rfl Try.underlying3 Try.underlying3 Try.underlying94 (Try.zero_int _) HM.out rfl t rfl HW.out ?_; rw [HA.out])
  go_ret
  exact ⟨rfl, rfl⟩
set_option maxRecDepth 100000 in
set_option maxHeartbeats 3200000 in
theorem heap_remove_yes (H : IsHeap w base h Q room T L) {t : Int} (hin : t ∈ fsts L) (hT : T < 100000000) :
    Calls Try.prog 34 #[.pointer (some ⟨h, 0, none⟩), .int .i64 t] w fun e w' => e = .returned (.int .i64 0) ∧ HBehind w base h Q room (T + 1) (offP t L) w' := by
  obtain ⟨bm, v, M, turn, a, S, H, rfl⟩ := H
  obtain ⟨j, hj, hjt, hat, hkk⟩ := H.in_ hin
  have HH := hid H
  have hal := H.alen
  obtain ⟨g, cap, rfl, hc1, hc2, c2, hcl⟩ := H.raw.at_ hj
  obtain ⟨hts1, hts2, hts3, hts4⟩ := H.rep.take_swap hj
  obtain ⟨n, hn⟩ : ∃ n, a.length = n := ⟨_, rfl⟩
  have hb := H.rep.bd _ (H.rep.perm.subset (gl_mem hj))
  have hhi := H.hi _ (H.rep.perm.subset (gl_mem hj))
  rw [hjt] at hb hhi hts1
  rw [hn] at hj hal c2 hc1 hts1 hts2 hts3 hts4
  obtain ⟨m, rfl⟩ : ∃ m, n = m + 1 := ⟨n - 1, by omega⟩
  simp only [Nat.add_sub_cancel] at hts1 hts2 hts3 hts4
  have c3 : w.cell? ⟨h, 3, none⟩ = some (.map (some bm)) := blk_cell H.raw.hb 3
  have HM := hid H.raw.map
  have HW := hid (wfI (t := t) (by omega) hhi)
  have hrm := H.room_
  have hm1 := H.m1
  have ht1 := H.t1
  have hnl := H.len_
  have HA := hid hat
  have HN := hid hn
  have HJT := hid hjt
  have HLL := hid hal
  have HT1 := hid hts1
  have HT2 := hid hts2
  have HT3 := hid hts3
  have HT4 := hid hts4
  have hm256 : m < 256 := by omega
  have hwm : IntKind.i64.wrap (m : Int) = m := wraps_i64 _ (by omega) (by omega)
  have HSW : Hid (Calls Try.prog 76 #[.pointer (some ⟨h, 0, none⟩), .int .i64 j, .int .i64 m] w fun e w' => e = .returned (.tuple #[]) ∧ HRaw w' base h bm (.slice (some ⟨g, 0, none⟩) a.length cap) (M + 2) room turn (swL a j m) (atF (swL a j m)) ∧ Fr (HSet h bm (.slice (some ⟨g, 0, none⟩) a.length cap)) w w') :=
    hid ((heap_swap H.raw (i := j) (k := m) (by omega) (by omega) (by omega) (by omega) H.ok).mono (fun e w' ⟨he, hr, hf⟩ => ⟨he, hr.fun_ (atF_swap H.nd (by omega) (by omega)), hf⟩))
  clear H hat hn hin hal hjt hkk hts1 hts2 hts3 hts4 hcl
  go_enter Try.func34, Try.ntmps34
  go_upto_region 5 with (at_lookup; refine wp_look_ok rfl _ _ _ rfl Try.underlying3 Try.underlying3 Try.underlying94 (Try.zero_int _) HM.out rfl t rfl HW.out ?_; rw [HA.out])
  go_wp2_with fail
  refine HSW.out.mono ?_
  rintro e w1 ⟨rfl, hR1, hF1⟩
  rw [HN.out] at hR1 hF1
  have d2 : w1.cell? ⟨h, 2, none⟩ = some (.slice (some ⟨g, 0, none⟩) (m + 1) cap) := blk_cell hR1.hb 2
  have f2 : w1.frozen? ⟨h, 2, none⟩ = false := blk_free hR1.hb 2
  have HR1 := hid hR1
  have HF1 := hid hF1
  have hmc : m ≤ cap := by omega
  clear hR1 hF1 c2 c3
  go_upto_region 7 with fail
  obtain ⟨w2, hw2⟩ : ∃ w2, w2 = w1.setCell ⟨h, 2, none⟩ (.slice (some ⟨g, 0, none⟩) m cap) := ⟨_, rfl⟩
  have hF2 : Fr (One h) w1 w2 := by rw [hw2]; exact (Fr.refl (One h) w1).one 2 _
  have hb2 : w2.heap[h]? = some (.cells #[.int .i64 room, .int .i64 turn, .slice (some ⟨g, 0, none⟩) m cap, .map (some bm)] 97 (0, 0)) := by
    rw [hw2]; simpa using blk_set HR1.out.hb 2 (.slice (some ⟨g, 0, none⟩) m cap)
  have hsl : (swL a j m).length = m + 1 := by rw [swL_length, HN.out]
  have htl : ((swL a j m).take m).length = m := by rw [List.length_take, hsl]; omega
  have hrow2 : w2.ownsRow base 99 3 (.slice (some ⟨g, 0, none⟩) m cap) m (flat encI ((swL a j m).take m)) := by
    have h1 := HR1.out.row
    rw [hsl] at h1
    have h2 := own_shorten (m := m) h1 (by omega)
    rw [flat_take encI_len] at h2
    exact own_kept h2 hF2 (fun b hb e => HR1.out.ap b hb e)
  have hM2 := HR1.out.map.kept hF2 (fun e => HR1.out.hm e.symm)
  have e3 : w2.cell? ⟨h, 3, none⟩ = some (.map (some bm)) := blk_cell hb2 3
  rw [← hw2]
  have HF2 := hid hF2
  have HB2 := hid hb2
  have HRW2 := hid hrow2
  have HM2 := hid hM2
  have HTL := hid htl
  clear hw2 hF2 hb2 hsl htl hrow2 hM2 d2 f2
  go_wp2_with (at_delete; refine wp_delete rfl _ _ _ rfl Try.underlying3 Try.underlying94 HM2.out rfl t rfl HW.out ?_)
  intro w3 hM3 hF3
  have hnds : (ids (swL a j m)).Nodup := nodup_perm (swL_perm (by rw [HN.out]; omega) (by rw [HN.out]; omega)) HH.out.nd
  have hfd : (fun t' => if t' = t then none else atF (swL a j m) t') = atF ((swL a j m).take m) := by
    have h1 := hnds
    rw [HT4.out] at h1
    have h2 := atF_drop h1
    rw [← HT4.out, HJT.out] at h2
    exact h2
  have hndt : (ids ((swL a j m).take m)).Nodup := by
    rw [HT4.out, ids_snoc] at hnds
    exact (List.nodup_append.1 hnds).1
  have hokt : IdsOk ((swL a j m).take m) := fun y hy => HH.out.ok y ((swL_perm (by rw [HN.out]; omega) (by rw [HN.out]; omega)).subset (List.mem_of_mem_take hy))
  have hR3 : HRaw w3 base h bm (.slice (some ⟨g, 0, none⟩) m cap) (M + 2) room turn ((swL a j m).take m) (atF ((swL a j m).take m)) := by
    refine ⟨hF3.blk HB2.out HR1.out.hm, ?_, ?_, HR1.out.lo⟩
    · rw [HTL.out]; exact own_kept HRW2.out hF3 (fun b hb e => HR1.out.apm b hb e)
    · rw [← hfd]; exact hM3
  have hq : Fr (HSet h bm (.slice (some ⟨g, 0, none⟩) (m + 1) cap)) w w3 := (HF1.out.trans HF2.out (fun x hx => .inl (.inl hx))).trans hF3 (fun x hx => .inl (.inr (.inl hx)))
  have HR3 := hid hR3
  have HQ := hid hq
  clear hM3 hF3 hnds hfd hR3 hq e3
  by_cases hjm : j < m
  · have hse := heap_settle HR3.out hndt hokt (i := j) (by rw [HTL.out]; exact hjm) (by rw [HTL.out]; exact HT2.out hjm) (by rw [HTL.out]; omega) (by omega)
    have HSE := hid hse
    clear hse hndt hokt
    go_wp2_with fail
    refine HSE.out.mono ?_
    rintro e w5 ⟨rfl, a5, hp5, hS5⟩
    have HS5 := hid hS5
    have HP5 := hid hp5
    clear hS5 hp5
    go_wp2_with fail
    go_ret
    rw [HN.out]
    have hF5 := HQ.out.trans HS5.out.fr (fun x hx => .inl hx)
    have hl5 := HS5.out.len
    refine ⟨rfl, _, ⟨bm, _, M + 2 + 1100, turn, a5, offI t S, ⟨HS5.out.raw, HH.out.rep.off (t := t) (HS5.out.perm.trans HT1.out) (by rw [hl5]; exact HP5.out), HH.out.t0, by push_cast; omega, by omega, by rw [off_pr, HH.out.eq], fun y hy => HH.out.hi y (List.filter_sublist.subset hy), hrm, Nat.le_trans (offP_len _ _) hnl⟩, rfl⟩, hF5, fun x hx => .inl hx⟩
  · have hjm2 : j = m := by omega
    have hjm3 : decide ((j : Int) < (m : Int)) = false := decide_eq_false (by omega)
    have HP5 := hid (HT3.out hjm2)
    clear hndt hokt hjm2
    go_wp2_with fail
    go_ret
    rw [HN.out]
    refine ⟨rfl, _, ⟨bm, _, M + 2, turn, (swL a j m).take m, offI t S, ⟨HR3.out, HH.out.rep.off (t := t) HT1.out (by rw [HTL.out]; exact HP5.out), HH.out.t0, by push_cast; omega, by omega, by rw [off_pr, HH.out.eq], fun y hy => HH.out.hi y (List.filter_sublist.subset hy), hrm, Nat.le_trans (offP_len _ _) hnl⟩, rfl⟩, HQ.out, fun x hx => .inl hx⟩
theorem offP_head {p : Int × Int} {L : List (Int × Int)} (h : (fsts (p :: L)).Nodup) : offP p.1 (p :: L) = L := by
  obtain ⟨h1, _⟩ := List.nodup_cons.1 (show (p.1 :: fsts L).Nodup from h)
  unfold offP
  rw [List.filter_cons, if_neg (by simp)]
  exact List.filter_eq_self.2 (fun q hq => by
    have : q.1 ≠ p.1 := fun e => h1 (by rw [← e]; exact List.mem_map_of_mem hq)
    simpa using this)
set_option maxRecDepth 100000 in
set_option maxHeartbeats 1600000 in
theorem heap_pop (H : IsHeap w base h Q room T L) (hT : T < 100000000) : Calls Try.prog 36 #[.pointer (some ⟨h, 0, none⟩)] w fun e w' =>
    e = .returned (.tuple #[.int .i64 (headP L).1, .int .i64 (headP L).2, .bool (!L.isEmpty)]) ∧ HBehind w base h Q room (T + 1) L.tail w' := by
  have HF := hid (heap_first H)
  rcases L with _ | ⟨p, L⟩
  · have HH := hid H
    clear H
    go_enter Try.func36, Try.ntmps36
    go_wp2_with fail
    refine HF.out.mono ?_
    rintro e w1 ⟨rfl, q, rfl⟩
    go_wp2_with fail
    go_ret3
    exact ⟨rfl, HH.out.behind (below_drewN' (Below.refl _ _) q) (by omega)⟩
  · have hf := H.facts
    have e1 : headP (p :: L) = p := rfl
    rw [e1] at HF ⊢
    obtain ⟨pi, pk⟩ := p
    have HO := hid (offP_head hf.1)
    have HH := hid H
    clear H hf e1
    go_enter Try.func36, Try.ntmps36
    go_wp2_with fail
    refine HF.out.mono ?_
    rintro e w1 ⟨rfl, q, hw1⟩
    have HB1 := hid (show Below w.heap.size w w1 by rw [hw1]; exact below_drewN' (Below.refl _ _) q)
    have HR := hid (heap_remove_yes (HH.out.later HB1.out) (t := pi) (List.mem_cons_self ..) hT)
    clear hw1
    go_wp2_with fail
    refine HR.out.mono ?_
    rintro e w2 ⟨rfl, Q', hI2, hF2, hN2⟩
    have HI2 := hid hI2
    have HF2 := hid hF2
    have HN2 := hid hN2
    clear hI2 hF2 hN2
    go_wp2_with fail
    go_ret3
    have hI2 := HI2.out
    rw [HO.out] at hI2
    exact ⟨rfl, Q', hI2, (Fr.of_below HB1.out).trans HF2.out (fun x hx => .inl hx), fun k hk => (HN2.out k hk).imp id (fun h => Nat.le_trans HB1.out.size h)⟩
end
end Go.Proofs.Ytbkjlohlfkokpaa
