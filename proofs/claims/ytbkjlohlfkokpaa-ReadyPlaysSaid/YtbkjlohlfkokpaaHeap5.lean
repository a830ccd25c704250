/- Package heap: Key, Push (contracts). -/
import Derived.Test.YtbkjlohlfkokpaaHeap4
set_option linter.unusedVariables false
set_option linter.unusedSimpArgs false
namespace Go.Proofs.Ytbkjlohlfkokpaa
open Go.RowKit Go.Maps

theorem Try.info_item : (Try.prog.info? 99).map (fun i => (i.zero, i.size, i.bytes)) = some (some (.agg #[.int .i64 0, .int .i64 0, .int .i64 0]), 3, 24) := by kernel_rfl
def keyP (L : List (Int × Int)) (t : Int) : Option Int := (L.find? (fun q => decide (q.1 = t))).map Prod.snd
theorem keyP_none {L : List (Int × Int)} {t : Int} (h : t ∉ fsts L) : keyP L t = none := by
  unfold keyP
  rw [Option.map_eq_none_iff, List.find?_eq_none]
  intro p hp e
  exact h (by have : p.1 = t := by simpa using e
              rw [← this]; exact List.mem_map_of_mem hp)
theorem keyP_some : ∀ {L : List (Int × Int)} {p : Int × Int}, (fsts L).Nodup → p ∈ L → keyP L p.1 = some p.2
  | [], p, _, h => by cases h
  | q :: L, p, hn, h => by
    obtain ⟨h1, h2⟩ := List.nodup_cons.1 (show (q.1 :: fsts L).Nodup from hn)
    unfold keyP
    by_cases e : q.1 = p.1
    · have hpq : p = q := by
        rcases List.mem_cons.1 h with h | h
        · exact h
        · exact absurd (by rw [e]; exact List.mem_map_of_mem h) h1
      rw [List.find?_cons_of_pos (by simpa using e), hpq]; rfl
    · have hp : p ∈ L := (List.mem_cons.1 h).resolve_left (fun e2 => e (by rw [e2]))
      rw [List.find?_cons_of_neg (by simpa using e)]
      exact keyP_some h2 hp
section
variable {w w' : World} {base h bm M room T : Nat} {v : Value} {turn : Int} {a S : List It} {L : List (Int × Int)} {Q : Nat → Prop}
theorem HSt.in_ (H : HSt w base h bm v M room T turn a S L) {t : Int} (ht : t ∈ fsts L) : ∃ j, j < a.length ∧ (gl a j).id = t ∧ atF a t = some (j : Int) ∧ keyP L t = some (gl a j).key := by
  rw [H.idsL] at ht
  have ht2 : t ∈ ids a := (ids_perm H.rep.perm).symm.subset ht
  cases e : atF a t with
  | none => exact absurd ht2 (atF_none.1 e)
  | some z =>
    obtain ⟨j, rfl, hj, hid⟩ := atF_some e
    refine ⟨j, hj, hid, rfl, ?_⟩
    have hm : prI (gl a j) ∈ L := by rw [← H.eq]; exact List.mem_map_of_mem (H.rep.perm.subset (gl_mem hj))
    have := keyP_some (by rw [H.idsL]; exact H.rep.nodup) hm
    rw [← hid]
    exact this
theorem HSt.out_ (H : HSt w base h bm v M room T turn a S L) {t : Int} (ht : t ∉ fsts L) : atF a t = none := by
  rw [H.idsL] at ht
  exact atF_none.2 (fun hm => ht ((ids_perm H.rep.perm).subset hm))
set_option maxHeartbeats 800000 in
theorem heap_key (H : IsHeap w base h Q room T L) {t : Int} (ht : -9223372036854775808 ≤ t ∧ t ≤ 9223372036854775807) : Calls Try.prog 43 #[.pointer (some ⟨h, 0, none⟩), .int .i64 t] w fun e w' =>
    e = .returned (.tuple #[.int .i64 ((keyP L t).getD 0), .bool (keyP L t).isSome]) ∧ w' = w := by
  obtain ⟨bm, v, M, turn, a, S, H, rfl⟩ := H
  have c3 : w.cell? ⟨h, 3, none⟩ = some (.map (some bm)) := blk_cell H.raw.hb 3
  have HM := hid H.raw.map
  have HW := hid (wfI ht.1 ht.2)
  by_cases hin : t ∈ fsts L
  · obtain ⟨j, hj, _, hat, hk⟩ := H.in_ hin
    obtain ⟨g, cap, rfl, hc1, hc2, c2, hcl⟩ := H.raw.at_ hj
    obtain ⟨_, x1, _⟩ := hcl j hj
    have hal := H.alen
    have hn : a.length < 1000 := by have := H.len_; have := H.room_; omega
    rw [hk]
    simp only [Option.getD_some, Option.isSome_some]
    have HA := hid hat
    generalize (gl a j).key = y at *
    clear H hat hk hin hal hcl ht
    generalize a.length = n at *
    go_enter Try.func43, Try.ntmps43
    go_wp2_with (at_lookup; refine wp_look_ok rfl _ _ _ rfl Try.underlying3 Try.underlying3 Try.underlying94 (Try.zero_int _) HM.out rfl t rfl HW.out ?_; rw [HA.out])
    go_ret2
    exact ⟨rfl, rfl⟩
  · have hat := H.out_ hin
    rw [keyP_none hin]
    simp only [Option.getD_none, Option.isSome_none]
    have HA := hid hat
    clear H hat hin ht
    go_enter Try.func43, Try.ntmps43
    go_wp2_with (at_lookup; refine wp_look_ok rfl _ _ _ rfl Try.underlying3 Try.underlying3 Try.underlying94 (Try.zero_int _) HM.out rfl t rfl HW.out ?_; rw [HA.out])
    go_ret2
    exact ⟨rfl, rfl⟩
/-- What Push answers, and leaves. -/
def pushP (room : Nat) (L : List (Int × Int)) (t k : Int) : Int × List (Int × Int) :=
  if t < 0 then (1, L) else if t ∈ fsts L then (4, L) else if room ≤ L.length then (3, L) else (0, insP (t, k) L)
set_option maxRecDepth 100000 in
set_option maxHeartbeats 1600000 in
theorem heap_push_no (H : IsHeap w base h Q room T L) {t k r : Int} (ht : -9223372036854775808 ≤ t ∧ t ≤ 9223372036854775807) (hr : (t < 0 ∧ r = 1) ∨ (0 ≤ t ∧ t ∈ fsts L ∧ r = 4) ∨ (0 ≤ t ∧ t ∉ fsts L ∧ room ≤ L.length ∧ r = 3)) :
    Calls Try.prog 30 #[.pointer (some ⟨h, 0, none⟩), .int .i64 t, .int .i64 k] w fun e w' => e = .returned (.int .i64 r) ∧ ∃ q, w' = w.drewN q := by
  obtain ⟨bm, v, M, turn, a, S, H, rfl⟩ := H
  have c0 : w.cell? ⟨h, 0, none⟩ = some (.int .i64 room) := blk_cell H.raw.hb 0
  have c3 : w.cell? ⟨h, 3, none⟩ = some (.map (some bm)) := blk_cell H.raw.hb 3
  obtain ⟨A, cap, rfl, c2⟩ := H.len_cell
  have HM := hid H.raw.map
  have HW := hid (wfI ht.1 ht.2)
  have hl := H.len_
  have hrm := H.room_
  rcases hr with ⟨h1, rfl⟩ | ⟨h1, h2, rfl⟩ | ⟨h1, h2, h3, rfl⟩
  · obtain ⟨o, ho⟩ : ∃ o, atF a t = o := ⟨_, rfl⟩
    have HA := hid ho
    clear H ho ht
    generalize L.length = n at *
    go_enter Try.func30, Try.ntmps30
    go_wp2_with (at_lookup; refine wp_look_ok rfl _ _ _ rfl Try.underlying3 Try.underlying3 Try.underlying94 (Try.zero_int _) HM.out rfl t rfl HW.out ?_; rw [HA.out])
    go_ret
    exact ⟨rfl, 0, rfl⟩
  · obtain ⟨j, _, _, hat, _⟩ := H.in_ h2
    have HA := hid hat
    clear H hat h2 ht
    generalize L.length = n at *
    go_enter Try.func30, Try.ntmps30
    go_wp2_with (at_lookup; refine wp_look_ok rfl _ _ _ rfl Try.underlying3 Try.underlying3 Try.underlying94 (Try.zero_int _) HM.out rfl t rfl HW.out ?_; rw [HA.out])
    go_ret
    exact ⟨rfl, 0, rfl⟩
  · have hat := H.out_ h2
    have HA := hid hat
    clear H hat h2 ht
    generalize L.length = n at *
    have hd : decide ((room : Int) ≤ (n : Int)) = true := decide_eq_true (by omega)
    go_enter Try.func30, Try.ntmps30
    go_wp2_with (at_lookup; refine wp_look_ok rfl _ _ _ rfl Try.underlying3 Try.underlying3 Try.underlying94 (Try.zero_int _) HM.out rfl t rfl HW.out ?_; rw [HA.out])
    go_quiet (fail)
    go_wp2_with fail
    go_ret
    exact ⟨rfl, nq, rfl⟩
set_option maxRecDepth 100000 in
set_option maxHeartbeats 3200000 in
theorem heap_push_yes (H : IsHeap w base h Q room T L) {t k : Int} (ht : 0 ≤ t ∧ t ≤ 9223372036854775807) (hin : t ∉ fsts L) (hroom : L.length < room) (hT : T < 100000000) :
    Calls Try.prog 30 #[.pointer (some ⟨h, 0, none⟩), .int .i64 t, .int .i64 k] w fun e w' => e = .returned (.int .i64 0) ∧ HBehind w base h Q room (T + 1) (insP (t, k) L) w' := by
  obtain ⟨bm, v, M, turn, a, S, H, rfl⟩ := H
  have hat := H.out_ hin
  have HH := hid H
  have hal := H.alen
  have hrow := H.raw.row
  obtain ⟨n, hn⟩ : ∃ n, a.length = n := ⟨_, rfl⟩
  rw [hn] at hrow hal
  obtain ⟨A, cap, rfl⟩ := own_slice hrow
  have c0 : w.cell? ⟨h, 0, none⟩ = some (.int .i64 room) := blk_cell H.raw.hb 0
  have c1 : w.cell? ⟨h, 1, none⟩ = some (.int .i64 turn) := blk_cell H.raw.hb 1
  have c2 : w.cell? ⟨h, 2, none⟩ = some (.slice A n cap) := blk_cell H.raw.hb 2
  have c3 : w.cell? ⟨h, 3, none⟩ = some (.map (some bm)) := blk_cell H.raw.hb 3
  have f1 : w.frozen? ⟨h, 1, none⟩ = false := blk_free H.raw.hb 1
  have HM := hid H.raw.map
  have HW := hid (wfI (t := t) (by omega) ht.2)
  have hrm := H.room_
  have ht0 := H.t0
  have ht1 := H.t1
  have hm1 := H.m1
  have hnroom : n < room := by omega
  have hd : decide ((room : Int) ≤ (n : Int)) = false := decide_eq_false (by omega)
  have HA := hid hat
  have HN := hid hn
  have HIN := hid hin
  have HLL := hid hal
  have hhl := blk_lt H.raw.hb
  obtain ⟨ht2, ht3⟩ := ht
  obtain ⟨i0, hi, hz0, hz1, hz2⟩ := info_parts Try.info_item
  clear H hat hrow hn hin hroom hal
  go_enter Try.func30, Try.ntmps30
  go_wp2_with (at_lookup; refine wp_look_ok rfl _ _ _ rfl Try.underlying3 Try.underlying3 Try.underlying94 (Try.zero_int _) HM.out rfl t rfl HW.out ?_; rw [HA.out])
  go_quiet (fail)
  go_upto_region 9 with fail
  obtain ⟨w1, hw1⟩ : ∃ w1, w1 = (w.drewN nq).setCell ⟨h, 1, none⟩ (.int .i64 (turn + 1)) := ⟨_, rfl⟩
  have hF1 : Fr (One h) w w1 := by rw [hw1]; exact ((Fr.refl (One h) w).drewN nq).one 1 _
  have hb1 : w1.heap[h]? = some (.cells #[.int .i64 room, .int .i64 (turn + 1), .slice A n cap, .map (some bm)] 97 (0, 0)) := by
    rw [hw1]; simpa using blk_set (blk_drewN HH.out.raw.hb nq) 1 (.int .i64 (turn + 1))
  have hrow1 : w1.ownsRow base 99 3 (.slice A n cap) n (flat encI a) := by
    have h := own_kept HH.out.raw.row hF1 (fun b hb e => HH.out.raw.ap b hb e)
    rwa [HN.out] at h
  have hM1 := HH.out.raw.map.kept hF1 (fun e => HH.out.raw.hm e.symm)
  have d2 : w1.cell? ⟨h, 2, none⟩ = some (.slice A n cap) := blk_cell hb1 2
  rw [← hw1]
  have hbase1 : base ≤ w1.heap.size := by have h1 := HH.out.raw.lo.1; have h2 := hF1.size; omega
  have HF1 := hid hF1
  have HB1 := hid hb1
  have HM1 := hid hM1
  have HAP := hid HH.out.raw.ap
  have HAM := hid HH.out.raw.apm
  clear hw1 hF1 hb1 hM1 c0 c1 c2 c3 f1
  go_wp2_with (at_builtin; refine append_new rfl _ _ 95 rfl base 99 i0 _ 3 24 Try.underlying95 hi hz0 hz1 hz2 rfl (by decide) #[.int .i64 0, .int .i64 0, .int .i64 0] (.slice A n cap) n (flat encI a) rfl _ rfl rfl hrow1 rfl (encI_one ⟨0, 0, 0⟩) (by unfold maxLen; omega) (by omega) hbase1 ?_)
  intro v2 w2 hown2 hf2 hl2
  obtain ⟨g2, cap2, cu2, rfl, _⟩ := own_shape hown2 (Nat.succ_pos _)
  have hb2 := hf2.blk HB1.out (fun e => HAP.out h e rfl)
  have hM2 := HM1.out.kept hf2 (fun e => HAM.out bm e rfl)
  have f2 : w2.frozen? ⟨h, 2, none⟩ = false := blk_free hb2 2
  have d22 : w2.cell? ⟨h, 2, none⟩ = some (.slice A n cap) := blk_cell hb2 2
  have HO2 := hid hown2
  have HF2 := hid hf2
  have HL2 := hid hl2
  have HB2 := hid hb2
  have HM2 := hid hM2
  clear hown2 hf2 hl2 hb2 hM2 hrow1 d2 HB1 HM1
  go_upto_region 10 with fail
  obtain ⟨w3, hw3⟩ : ∃ w3, w3 = w2.setCell ⟨h, 2, none⟩ (.slice (some ⟨g2, 0, none⟩) (n + 1) cap2) := ⟨_, rfl⟩
  have hF3 : Fr (One h) w2 w3 := by rw [hw3]; exact (Fr.refl (One h) w2).one 2 _
  have hb3 : w3.heap[h]? = some (.cells #[.int .i64 room, .int .i64 (turn + 1), .slice (some ⟨g2, 0, none⟩) (n + 1) cap2, .map (some bm)] 97 (0, 0)) := by
    rw [hw3]; simpa using blk_set HB2.out 2 (.slice (some ⟨g2, 0, none⟩) (n + 1) cap2)
  have hap2 := kind_ne HO2.out HB2.out (by decide)
  have hR3 : HRaw w3 base h bm (.slice (some ⟨g2, 0, none⟩) (n + 1) cap2) M room (turn + 1) (a ++ [⟨0, 0, 0⟩]) (atF a) := by
    refine ⟨hb3, ?_, HM2.out.kept hF3 (fun e => HH.out.raw.hm e.symm), HH.out.raw.lo⟩
    have h := own_kept HO2.out hF3 (fun b hb e => hap2 b hb e)
    rw [List.length_append, HN.out, flat_snoc]
    exact h
  have hal2 : (a ++ [(⟨0, 0, 0⟩ : It)]).length = n + 1 := by rw [List.length_append, HN.out]; rfl
  have hset := heap_set (hR3.later (w' := w3.drew) (below_drewN' (Below.refl _ w3) 1)) ⟨t, k, turn + 1⟩ (i := n) (by omega) (by omega) (by omega) ⟨by show _ ≤ t; omega, ht3⟩
  have hsn : (a ++ [(⟨0, 0, 0⟩ : It)]).set n ⟨t, k, turn + 1⟩ = a ++ [⟨t, k, turn + 1⟩] := by
    rw [← HN.out, List.set_append_right _ _ (Nat.le_refl _), Nat.sub_self]; rfl
  have hti : t ∉ ids a := by
    rw [HH.out.idsL] at HIN
    exact fun hm => HIN.out ((ids_perm HH.out.rep.perm).subset hm)
  have hfp := atF_push (x := ⟨t, k, turn + 1⟩) HH.out.nd hti
  rw [HN.out] at hfp
  rw [hsn] at hset
  have HSET : Hid (Calls Try.prog 71 #[.pointer (some ⟨h, 0, none⟩), .int .i64 n, .agg #[.int .i64 t, .int .i64 k, .int .i64 (turn + 1)]] w3.drew fun e w' =>
      e = .returned (.tuple #[]) ∧ HRaw w' base h bm (.slice (some ⟨g2, 0, none⟩) (n + 1) cap2) (M + 1) room (turn + 1) (a ++ [⟨t, k, turn + 1⟩]) (atF (a ++ [⟨t, k, turn + 1⟩])) ∧ Fr (HSet h bm (.slice (some ⟨g2, 0, none⟩) (n + 1) cap2)) w3.drew w') := hid (hset.mono fun e w' ⟨he, hr, hf⟩ => ⟨he, hr.fun_ hfp, hf⟩)
  rw [← hw3]
  have HB3 := hid hb3
  have HF3 := hid hF3
  have G1 := hid (fun (W : World) (hh : W.heap[h]? = some (.cells #[.int .i64 room, .int .i64 (turn + 1), .slice (some ⟨g2, 0, none⟩) (n + 1) cap2, .map (some bm)] 97 (0, 0))) => (blk_cell hh 1 : W.cell? ⟨h, 1, none⟩ = some (.int .i64 (turn + 1))))
  have G2 := hid (fun (W : World) (hh : W.heap[h]? = some (.cells #[.int .i64 room, .int .i64 (turn + 1), .slice (some ⟨g2, 0, none⟩) (n + 1) cap2, .map (some bm)] 97 (0, 0))) => (blk_cell hh 2 : W.cell? ⟨h, 2, none⟩ = some (.slice (some ⟨g2, 0, none⟩) (n + 1) cap2)))
  have hwn : IntKind.i64.wrap (n : Int) = n := wraps_i64 _ (by omega) (by omega)
  have HTI := hid hti
  clear hw3 hF3 hb3 hap2 hR3 hset hsn hti hfp f2 d22 hal2 HO2 HM2
  refine wp_region_held_drew (S := fun W => W.heap[h]? = some (.cells #[.int .i64 room, .int .i64 (turn + 1), .slice (some ⟨g2, 0, none⟩) (n + 1) cap2, .map (some bm)] 97 (0, 0))) (by kernel_rfl) HB3.out (fun hHeld => ?_)
  refine wpAnyH_take (i := 0) (oi := ?oip0) (v := ?vp0) ?hip0 (by kernel_rfl) (by kernel_rfl) (by kernel_rfl) ?hqp0 (Or.inl ⟨?wap0, ?hyp0⟩) (by assumption) ?hrp0
  case hip0 => (simp only [List.getElem?_toArray, List.getElem?_cons_succ, List.getElem?_cons_zero]; rfl)
  case wap0 => rfl
  case hyp0 => ((intro w hSw; (try dsimp only at hSw); go_simp); all_goals (with_reducible rfl))
  case hqp0 => exact fun _ _ _ h => h
  try simp only [Act.put, List.setIfInBounds_toArray, List.set_cons_zero, List.set_cons_succ]
  refine wpAnyH_take (i := 1) (oi := ?oip1) (v := ?vp1) ?hip1 (by kernel_rfl) (by kernel_rfl) (by kernel_rfl) ?hqp1 (Or.inl ⟨?wap1, ?hyp1⟩) (by assumption) ?hrp1
  case hip1 => (simp only [List.getElem?_toArray, List.getElem?_cons_succ, List.getElem?_cons_zero]; rfl)
  case wap1 => rfl
  case hyp1 => ((intro w hSw; (try dsimp only at hSw); go_simp); all_goals (with_reducible rfl))
  case hqp1 => exact fun _ _ _ h => h
  try simp only [Act.put, List.setIfInBounds_toArray, List.set_cons_zero, List.set_cons_succ]
  refine wpAnyH_take (i := 2) (oi := ?oip2) (v := ?vp2) ?hip2 (by kernel_rfl) (by kernel_rfl) (by kernel_rfl) ?hqp2 (Or.inl ⟨?wap2, ?hyp2⟩) (by assumption) ?hrp2
  case hip2 => (simp only [List.getElem?_toArray, List.getElem?_cons_succ, List.getElem?_cons_zero]; rfl)
  case wap2 => rfl
  case hyp2 => ((intro w hSw; (try dsimp only at hSw); go_simp); all_goals (with_reducible rfl))
  case hqp2 => exact fun _ _ _ h => h
  try simp only [Act.put, List.setIfInBounds_toArray, List.set_cons_zero, List.set_cons_succ]
  refine wpAnyH_take (i := 3) (oi := ?oip3) (v := ?vp3) ?hip3 (by kernel_rfl) (by kernel_rfl) (by kernel_rfl) ?hqp3 (Or.inl ⟨?wap3, ?hyp3⟩) (by assumption) ?hrp3
  case hip3 => (simp only [List.getElem?_toArray, List.getElem?_cons_succ, List.getElem?_cons_zero]; rfl)
  case wap3 => rfl
  case hyp3 => ((intro w hSw; (try dsimp only at hSw); go_simp); all_goals (with_reducible rfl))
  case hqp3 => exact fun _ _ _ h => h
  try simp only [Act.put, List.setIfInBounds_toArray, List.set_cons_zero, List.set_cons_succ]
  refine wpAnyH_take (i := 4) (oi := ?oip4) (v := ?vp4) ?hip4 (by kernel_rfl) (by kernel_rfl) (by kernel_rfl) ?hqp4 (Or.inl ⟨?wap4, ?hyp4⟩) (by assumption) ?hrp4
  case hip4 => (simp only [List.getElem?_toArray, List.getElem?_cons_succ, List.getElem?_cons_zero]; rfl)
  case wap4 => rfl
  case hyp4 => ((intro w hSw; have q0 := G2.out w hSw; (try dsimp only at hSw); go_simp); all_goals (with_reducible rfl))
  case hqp4 => exact fun _ _ _ h => h
  try simp only [Act.put, List.setIfInBounds_toArray, List.set_cons_zero, List.set_cons_succ]
  refine wpAnyH_take (i := 5) (oi := ?oip5) (v := ?vp5) ?hip5 (by kernel_rfl) (by kernel_rfl) (by kernel_rfl) ?hqp5 (Or.inl ⟨?wap5, ?hyp5⟩) (by assumption) ?hrp5
  case hip5 => (simp only [List.getElem?_toArray, List.getElem?_cons_succ, List.getElem?_cons_zero]; rfl)
  case wap5 => rfl
  case hyp5 => ((intro w hSw; (try dsimp only at hSw); go_simp); all_goals (with_reducible rfl))
  case hqp5 => exact fun _ _ _ h => h
  try simp only [Act.put, List.setIfInBounds_toArray, List.set_cons_zero, List.set_cons_succ]
  refine wpAnyH_take (i := 6) (oi := ?oip6) (v := ?vp6) ?hip6 (by kernel_rfl) (by kernel_rfl) (by kernel_rfl) ?hqp6 (Or.inl ⟨?wap6, ?hyp6⟩) (by assumption) ?hrp6
  case hip6 => (simp only [List.getElem?_toArray, List.getElem?_cons_succ, List.getElem?_cons_zero]; rfl)
  case wap6 => rfl
  case hyp6 => ((intro w hSw; (try dsimp only at hSw); go_simp); all_goals (with_reducible rfl))
  case hqp6 => exact fun _ _ _ h => h
  try simp only [Act.put, List.setIfInBounds_toArray, List.set_cons_zero, List.set_cons_succ]
  refine wpAnyH_take (i := 7) (oi := ?oip7) (v := ?vp7) ?hip7 (by kernel_rfl) (by kernel_rfl) (by kernel_rfl) ?hqp7 (Or.inl ⟨?wap7, ?hyp7⟩) (by assumption) ?hrp7
  case hip7 => (simp only [List.getElem?_toArray, List.getElem?_cons_succ, List.getElem?_cons_zero]; rfl)
  case wap7 => rfl
  case hyp7 => ((intro w hSw; (try dsimp only at hSw); go_simp); all_goals (with_reducible rfl))
  case hqp7 => exact fun _ _ _ h => h
  try simp only [Act.put, List.setIfInBounds_toArray, List.set_cons_zero, List.set_cons_succ]
  refine wpAnyH_take (i := 8) (oi := ?oip8) (v := ?vp8) ?hip8 (by kernel_rfl) (by kernel_rfl) (by kernel_rfl) ?hqp8 (Or.inl ⟨?wap8, ?hyp8⟩) (by assumption) ?hrp8
  case hip8 => (simp only [List.getElem?_toArray, List.getElem?_cons_succ, List.getElem?_cons_zero]; rfl)
  case wap8 => rfl
  case hyp8 => ((intro w hSw; (try dsimp only at hSw); go_simp); all_goals (with_reducible rfl))
  case hqp8 => exact fun _ _ _ h => h
  try simp only [Act.put, List.setIfInBounds_toArray, List.set_cons_zero, List.set_cons_succ]
  refine wpAnyH_take (i := 9) (oi := ?oip9) (v := ?vp9) ?hip9 (by kernel_rfl) (by kernel_rfl) (by kernel_rfl) ?hqp9 (Or.inl ⟨?wap9, ?hyp9⟩) (by assumption) ?hrp9
  case hip9 => (simp only [List.getElem?_toArray, List.getElem?_cons_succ, List.getElem?_cons_zero]; rfl)
  case wap9 => rfl
  case hyp9 => ((intro w hSw; (try dsimp only at hSw); go_simp); all_goals (with_reducible rfl))
  case hqp9 => exact fun _ _ _ h => h
  try simp only [Act.put, List.setIfInBounds_toArray, List.set_cons_zero, List.set_cons_succ]
  refine wpAnyH_take (i := 10) (oi := ?oip10) (v := ?vp10) ?hip10 (by kernel_rfl) (by kernel_rfl) (by kernel_rfl) ?hqp10 (Or.inl ⟨?wap10, ?hyp10⟩) (by assumption) ?hrp10
  case hip10 => (simp only [List.getElem?_toArray, List.getElem?_cons_succ, List.getElem?_cons_zero]; rfl)
  case wap10 => rfl
  case hyp10 => ((intro w hSw; (try dsimp only at hSw); go_simp); all_goals (with_reducible rfl))
  case hqp10 => exact fun _ _ _ h => h
  try simp only [Act.put, List.setIfInBounds_toArray, List.set_cons_zero, List.set_cons_succ]
  refine wpAnyH_take (i := 11) (oi := ?oip11) (v := ?vp11) ?hip11 (by kernel_rfl) (by kernel_rfl) (by kernel_rfl) ?hqp11 (Or.inl ⟨?wap11, ?hyp11⟩) (by assumption) ?hrp11
  case hip11 => (simp only [List.getElem?_toArray, List.getElem?_cons_succ, List.getElem?_cons_zero]; rfl)
  case wap11 => rfl
  case hyp11 => ((intro w hSw; (try dsimp only at hSw); go_simp); all_goals (with_reducible rfl))
  case hqp11 => exact fun _ _ _ h => h
  try simp only [Act.put, List.setIfInBounds_toArray, List.set_cons_zero, List.set_cons_succ]
  refine wpAnyH_take (i := 12) (oi := ?oip12) (v := ?vp12) ?hip12 (by kernel_rfl) (by kernel_rfl) (by kernel_rfl) ?hqp12 (Or.inl ⟨?wap12, ?hyp12⟩) (by assumption) ?hrp12
  case hip12 => (simp only [List.getElem?_toArray, List.getElem?_cons_succ, List.getElem?_cons_zero]; rfl)
  case wap12 => rfl
  case hyp12 => ((intro w hSw; have q0 := G1.out w hSw; (try dsimp only at hSw); go_simp); all_goals (with_reducible rfl))
  case hqp12 => exact fun _ _ _ h => h
  try simp only [Act.put, List.setIfInBounds_toArray, List.set_cons_zero, List.set_cons_succ]
  refine wpAnyH_take (i := 13) (oi := ?oip13) (v := ?vp13) ?hip13 (by kernel_rfl) (by kernel_rfl) (by kernel_rfl) ?hqp13 (Or.inl ⟨?wap13, ?hyp13⟩) (by assumption) ?hrp13
  case hip13 => (simp only [List.getElem?_toArray, List.getElem?_cons_succ, List.getElem?_cons_zero]; rfl)
  case wap13 => rfl
  case hyp13 => ((intro w hSw; (try dsimp only at hSw); go_simp); all_goals (with_reducible rfl))
  case hqp13 => exact fun _ _ _ h => h
  try simp only [Act.put, List.setIfInBounds_toArray, List.set_cons_zero, List.set_cons_succ]
  refine wpAnyH_ready (rs := [14]) (by kernel_rfl) (by simp) ?_
  refine (AllReadyH.cons (i := 14) (o := ?op14) ?hip14 ?stp14 AllReadyH.nil)
  case hip14 => (simp only [List.getElem?_toArray, List.getElem?_cons_succ, List.getElem?_cons_zero]; rfl)
  case stp14 =>
    intro K hK
    go_simp
    refine HSET.out.mono ?_
    rintro e w4 ⟨rfl, hR4, hF4⟩
    have HR4 := hid hR4
    have HF4 := hid hF4
    clear hR4 hF4
    go_wp2_with fail
    refine hK.out _ _ ?_ (fun hHeld => ?_)
    · exact HR4.out.hb
    clear hK K
    try simp only [Act.put, List.setIfInBounds_toArray, List.set_cons_zero, List.set_cons_succ]
    refine wpAnyH_done (by kernel_rfl) ?_ _
    clear hwn
    have hal4 : (a ++ [(⟨t, k, turn + 1⟩ : It)]).length = n + 1 := by rw [List.length_append, HN.out]; rfl
    have hgl4 : ∀ j, j < n → gl (a ++ [⟨t, k, turn + 1⟩]) j = gl a j := fun j hj => gl_some (by rw [List.getElem?_append_left (by rw [HN.out]; exact hj), gl_get (by rw [HN.out]; exact hj)])
    have hhp : HP (gl a) n := by have h := HH.out.rep.heap; rwa [HN.out] at h
    have hHB : HB (gl (a ++ [⟨t, k, turn + 1⟩])) (a ++ [(⟨t, k, turn + 1⟩ : It)]).length n := by rw [hal4]; exact (hhp.congr hgl4).snoc
    have hnd4 : (ids (a ++ [⟨t, k, turn + 1⟩])).Nodup := by
      rw [ids_snoc]
      exact List.nodup_append.2 ⟨HH.out.nd, by simp, fun u hu z hz e => HTI.out (by rw [List.mem_singleton.1 hz] at e; rw [← show u = t from e]; exact hu)⟩
    have hok4 : IdsOk (a ++ [⟨t, k, turn + 1⟩]) := fun y hy => by
      rcases List.mem_append.1 hy with hy | hy
      · exact HH.out.ok y hy
      · rw [List.mem_singleton.1 hy]; exact ⟨by show _ ≤ t; omega, ht3⟩
    have hse := heap_settle HR4.out hnd4 hok4 (i := n) (by rw [hal4]; omega) hHB (by rw [hal4]; omega) (by omega)
    have e2 : w4.cell? ⟨h, 2, none⟩ = some (.slice (some ⟨g2, 0, none⟩) (n + 1) cap2) := blk_cell HR4.out.hb 2
    have HSE := hid hse
    have HAL4 := hid hal4
    clear hse hal4 hgl4 hhp hHB hnd4 hok4
    go_wp2_with (go_at_call 72; refine HSE.out.mono ?_; rintro e w5 ⟨rfl, a5, hp5, hS5⟩)
    go_ret
    have hq : ∀ x, HSet h bm (.slice (some ⟨g2, 0, none⟩) (n + 1) cap2) x → HSet h bm (.slice A n cap) x ∨ w.heap.size ≤ x := fun x hx => by
      rcases hx with rfl | rfl | hx
      · exact .inl (.inl rfl)
      · exact .inl (.inr (.inl rfl))
      · have h1 := HF1.out.size
        exact (loc_old HL2.out h1 x hx).imp (fun h => .inr (.inr h)) id
    have hF1 : Fr (HSet h bm (.slice A n cap)) w w1 := HF1.out.mono (fun x hx => .inl (.inl hx))
    have hF2 := hF1.trans HF2.out (fun x hx => .inl (.inr (.inr hx)))
    have hF3 := hF2.trans HF3.out (fun x hx => .inl (.inl hx))
    have hF4 := (hF3.drew).trans HF4.out hq
    have hF5 := hF4.trans hS5.fr hq
    have hlen5 : a5.length = n + 1 := by rw [hS5.len, HAL4.out]
    have hti2 : t ∉ ids S := by rw [← HH.out.idsL]; exact HIN.out
    rw [HAL4.out] at hp5
    refine ⟨rfl, _, ⟨bm, _, M + 1 + 1100, turn + 1, a5, insI ⟨t, k, turn + 1⟩ S, ⟨hS5.raw, HH.out.rep.push (x := ⟨t, k, turn + 1⟩) ht2 hti2 rfl ht0 hS5.perm (by rw [hlen5]; exact hp5), by omega, by push_cast; omega, by omega, ?_, ?_, hrm, ?_⟩, rfl⟩, hF5, hq⟩
    · rw [ins_pr, HH.out.eq]; rfl
    · intro y hy
      rcases List.mem_cons.1 ((insI_perm _ _).subset hy) with rfl | hy
      · exact ht3
      · exact HH.out.hi y hy
    · rw [insP_len, ← HLL.out]; omega
end
end Go.Proofs.Ytbkjlohlfkokpaa
