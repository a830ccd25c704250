/- Joined: RRight19. -/
import Derived.Test.YtmhochjpdedlgaaQ38
set_option linter.unusedVariables false
set_option linter.unusedSimpArgs false
/- Package tourbillonref19: Right (contract): it returns tabB. -/
set_option linter.unusedVariables false
set_option linter.unusedSimpArgs false
namespace Go.Proofs.Ytmhochjpdedlgaa
open Go.RowKit

attribute [local irreducible] wpQuiet
section
variable {w : World}
set_option maxRecDepth 100000 in
set_option maxHeartbeats 6400000 in
theorem rright19_any (T : Tb) (A0 : Option Addr) (n0 c0 : Nat) (A1 : Option Addr) (n1 c1 : Nat) (A2 : Option Addr) (n2 c2 : Nat) (h : IsTab w (.slice A0 n0 c0) (.slice A1 n1 c1) (.slice A2 n2 c2) T) (hlen : n1 ≤ 4398046511104) :
    Calls Try.prog 36 #[tabV T.sys (.slice A0 n0 c0) (.slice A1 n1 c1) (.slice A2 n2 c2)] w fun e w' => e = .returned (.bool (tabB T)) ∧ Below w.heap.size w w' := by
  have hn := h.ents.len
  have hn0 := h.sys.tasks.len
  have hn0m : n0 ≤ 9223372036854775807 := by have := h.sys.tasks.room; unfold maxLen at this; omega
  have HT := hid h
  have HN := hid hn
  have HN0 := hid hn0
  have HPA := hid (fun W (k : Below w.heap.size w W) => rplan19_any (w := W) T (.slice A0 n0 c0) A1 n1 c1 (.slice A2 n2 c2) (h.later k) hlen)
  obtain ⟨CS, hCS⟩ : ∃ C, C = tabC T.sys (.slice A0 n0 c0) (.slice A1 n1 c1) (.slice A2 n2 c2) := ⟨_, rfl⟩
  have HCS := hid hCS
  have hq0 := blk_new w (.cells (tabC T.sys (.slice A0 n0 c0) (.slice A1 n1 c1) (.slice A2 n2 c2)) 28)
  rw [← hCS] at hq0
  have HQ0 := hid hq0
  unfold tabV tabC at *
  rw [hCS] at HQ0
  clear h hn hn0 hCS hq0
  go_enter Try.func36, Try.ntmps36
  go_wp2_with fail
  refine (HPA.out _ (below_new (Below.refl _ _) _)).mono ?_
  rintro e w1 ⟨Au, m, du, rfl, hpl, hb1⟩
  have q1 := (fr0 hb1).blk HQ0.out (fun h => h)
  have HB1 := hid (below_then (below_new (Below.refl _ _) _) hb1)
  have HP1 := hid hpl
  have hm : m = T.plan.length := hpl.rows.len
  have hmn : m = n1 := by rw [hm, HN.out]; unfold Tb.plan; rw [List.length_map]
  subst hmn
  have HM := hid hm
  obtain ⟨S, hS⟩ : ∃ S, T.sys = S := ⟨_, rfl⟩
  obtain ⟨P, hP⟩ : ∃ P, T.plan = P := ⟨_, rfl⟩
  rw [hS] at q1 ⊢
  have HS := hid hS
  have HPE := hid hP
  have HQ1 := hid q1
  have HRA := hid (fun W (k : Below w1.heap.size w1 W) => rrank_any (w := W) S A0 n0 c0 Au m du P (by rw [← hS]; exact (HT.out.sys.later HB1.out).later k) (by rw [← hP]; exact hpl.later k))
  have HCA := hid (fun W (k : Below w1.heap.size w1 W) => rceil_any (w := W) S A0 n0 c0 Au m du P (by rw [← hS]; exact (HT.out.sys.later HB1.out).later k) (by rw [← hP]; exact hpl.later k))
  have hBl := blk_lt q1
  obtain ⟨B, hB⟩ : ∃ B, w.heap.size = B := ⟨_, rfl⟩
  rw [hB] at q1 HQ1 hBl ⊢
  have HB := hid hB
  have s0 : w1.cell? ⟨B, 0, none⟩ = some (.int .i64 S.cores) := blk_cell q1 0
  have s1 : w1.cell? ⟨B, 1, none⟩ = some (.int .i64 S.policy) := blk_cell q1 1
  have s2 : w1.cell? ⟨B, 2, none⟩ = some (.int .i64 S.prot) := blk_cell q1 2
  have s3 : w1.cell? ⟨B, 3, none⟩ = some (.int .i64 S.rel) := blk_cell q1 3
  have s4 : w1.cell? ⟨B, 4, none⟩ = some (.int .i64 S.sw) := blk_cell q1 4
  have s5 : w1.cell? ⟨B, 5, none⟩ = some (.int .i64 S.fin) := blk_cell q1 5
  have s6 : w1.cell? ⟨B, 6, none⟩ = some (.int .i64 S.lat) := blk_cell q1 6
  have s7 : w1.cell? ⟨B, 7, none⟩ = some (.int .i64 S.resn) := blk_cell q1 7
  have s8 : w1.cell? ⟨B, 8, none⟩ = some (.slice A0 n0 c0) := blk_cell q1 8
  unfold sysV at *
  clear hpl hb1 q1 hm hS hP hB HPA HQ0
  go_wp2_with fail
  refine (HRA.out _ (Below.refl _ _)).mono ?_
  rintro e w2 ⟨ur, rfl, hrw, hb2⟩
  obtain ⟨rb, hrb⟩ : ∃ r, planB S P = r := ⟨_, rfl⟩
  rw [hrb] at hrw ⊢
  cases rb
  case false =>
    have HBE := hid (below_then HB1.out hb2)
    have HF := hid (tabB_plan (T := T) (by rw [HS.out, HPE.out]; exact hrb))
    clear hb2 hrb hrw s0 s1 s2 s3 s4 s5 s6 s7 s8
    go_wp2_with fail
    go_ret
    exact ⟨by rw [HF.out]; rfl, HBE.out⟩
  case true =>
    have HB2 := hid hb2
    have HBE := hid (below_then HB1.out hb2)
    have HOK := hid (planB_ok hrb)
    have HPB := hid hrb
    rw [if_pos rfl] at hrw
    obtain ⟨Ag, cg, hur, _⟩ := hrw.shape
    rw [show (rankL S P).length = m by unfold rankL; rw [List.length_mapIdx, HM.out, HPE.out]] at hur
    subst hur
    have HGP := hid hrw
    have HQ2 := hid ((fr0 hb2).blk HQ1.out (fun h => h))
    have HP2 := hid (HP1.out.later hb2)
    clear hb2 hrb hrw s0 s1 s2 s3 s4 s5 s6 s7 s8
    have hm24 : m ≤ 24 := by have h1 := HOK.out.len; have h2 := HOK.out.sys.len; have := HM.out; rw [HPE.out] at this; omega
    go_wp2_with fail
    go_loopw [6] (fun v wr => ∃ k : Nat, k ≤ m ∧ v = .int .i64 k ∧ Hid (∀ (i : Nat) x, i < k → T.ents[i]? = some x → entB T.sys (partsOf T.plan) i x = true) ∧ Hid (Below w2.heap.size w2 wr)) (fun v _ => m - (intOf v).toNat)
    case atStart => exact ⟨0, by omega, rfl, hid (fun i x h => by omega), hid (Below.refl _ _)⟩
    case round =>
      obtain ⟨k, hk, rfl, HA, HBR⟩ := hrel
      by_cases hlt : k < m
      case pos =>
        obtain ⟨x, hx⟩ : ∃ x, T.ents[k]? = some x := ⟨_, List.getElem?_eq_getElem (by have := HN.out; omega)⟩
        obtain ⟨t, ht⟩ : ∃ t, S.tasks[k]? = some t := ⟨_, List.getElem?_eq_getElem (by have h1 := HOK.out.len; have := HM.out; rw [HPE.out] at this; omega)⟩
        have hxp : T.plan[k]? = some x.ps := by unfold Tb.plan; rw [List.getElem?_map, hx]; rfl
        have hBW := below_then HBE.out HBR.out
        -- the plan's row, the ranked one's, the entry, the task
        obtain ⟨b3, o3, cs3, hA3, hbl3, _, hc3, u3, hr3, hru3⟩ := ((HP2.out.later HBR.out).rows).at hxp
        subst hA3
        subst hr3
        obtain ⟨Al, cl, hul, hlr⟩ := hru3.shape
        obtain ⟨n3, hn3⟩ : ∃ n3, x.ps.length = n3 := ⟨_, rfl⟩
        rw [hn3] at hul
        subst hul
        have hrk : (rankL S P)[k]? = some (rankRow S (partsOf P) k x.ps) := by unfold rankL; rw [List.getElem?_mapIdx, ← HPE.out, hxp]; rfl
        obtain ⟨b4, o4, cs4, hA4, hbl4, _, hc4, u4, hr4, hru4⟩ := (HGP.out.later (RowR.stays pcR.stays) HBR.out).at hrk
        subst hA4
        subst hr4
        obtain ⟨Ar, cr, hur, _⟩ := hru4.shape
        rw [show (rankRow S (partsOf P) k x.ps).length = n3 by unfold rankRow; rw [List.length_map, hn3]] at hur
        subst hur
        obtain ⟨b5, o5, cs5, hA5, hbl5, _, hc5, u5, hr5, hru5⟩ := (HT.out.ents.later entR.stays hBW).at hx
        subst hA5
        subst hr5
        obtain ⟨b6, o6, cs6, hA6, hbl6, _, hc6, u6, hr6, hru6⟩ := (HT.out.sys.tasks.later tskR.stays hBW).at (by rw [HS.out]; exact ht)
        subst hA6
        subst hr6
        obtain ⟨xb, hxb⟩ : ∃ v, x.bound = v := ⟨_, rfl⟩
        obtain ⟨td, htd⟩ : ∃ v, t.dl = v := ⟨_, rfl⟩
        rw [hxb] at hc5
        rw [htd] at hc6
        have heb := trivial
        have HX := hid hx
        have HTK := hid ht
        have HXB := hid hxb
        have HTD := hid htd
        clear heb
        have HN3 := hid hn3
        have HRU3 := hid hru3
        have HRU4 := hid hru4
        have hn3m : n3 ≤ 9223372036854775807 := by unfold maxLen at hlr; omega
        have HC3 := hid (show wr.cell? ⟨b3, o3 + k, none⟩ = some (.slice Al n3 cl) from by simpa using hc3 0 _ rfl)
        have HC5 := hid (show wr.cell? ⟨b5, o5 + k * 2 + 1, none⟩ = some (.int .i64 xb) from hc5 1 _ rfl)
        have HC6 := hid (show wr.cell? ⟨b6, o6 + k * 4 + 1, none⟩ = some (.int .i64 td) from hc6 1 _ rfl)
        have HC4 := hid (show wr.cell? ⟨b4, o4 + k, none⟩ = some (.slice Ar n3 cr) from by simpa using hc4 0 _ rfl)
        obtain ⟨C, hC⟩ : ∃ C : World → Prop, C = fun W => Below wr.heap.size wr W := ⟨_, rfl⟩
        have FE := hid (fun W (h : C W) => (show W.cell? ⟨b5, o5 + k * 2 + 1, none⟩ = some (.int .i64 xb) from by rw [hC] at h; exact (h.cell (p := ⟨b5, o5 + k * 2 + 1, none⟩) hbl5).trans HC5.out))
        have FT := hid (fun W (h : C W) => (show W.cell? ⟨b6, o6 + k * 4 + 1, none⟩ = some (.int .i64 td) from by rw [hC] at h; exact (h.cell (p := ⟨b6, o6 + k * 4 + 1, none⟩) hbl6).trans HC6.out))
        have FR := hid (fun W (h : C W) => (show W.cell? ⟨b4, o4 + k, none⟩ = some (.slice Ar n3 cr) from by rw [hC] at h; exact (h.cell (p := ⟨b4, o4 + k, none⟩) hbl4).trans HC4.out))
        have FL := hid (fun W (h : C W) => (show W.cell? ⟨b3, o3 + k, none⟩ = some (.slice Al n3 cl) from by rw [hC] at h; exact (h.cell (p := ⟨b3, o3 + k, none⟩) hbl3).trans HC3.out))
        have FS8 := hid (fun W (h : C W) => (show W.cell? ⟨B, 8, none⟩ = some (.slice (some ⟨b6, o6, none⟩) n0 c0) from by rw [hC] at h; exact blk_cell ((fr0 (below_then HBR.out h)).blk HQ2.out (fun h => h)) 8))
        have FS9 := hid (fun W (h : C W) => (show W.cell? ⟨B, 9, none⟩ = some (.slice (some ⟨b5, o5, none⟩) m c1) from by rw [hC] at h; exact blk_cell ((fr0 (below_then HBR.out h)).blk HQ2.out (fun h => h)) 9))
        have HCC := hid hC
        have hkn0 : k < n0 := by have h1 := (List.getElem?_eq_some_iff.1 ht).1; have h2 := HN0.out; rw [HS.out] at h2; omega
        clear hx ht hxp hBW hbl3 hc3 hru3 hlr hn3 hrk hbl4 hc4 hru4 hbl5 hc5 hru5 hbl6 hc6 hru6 hxb htd hC
        go_upto_region 8 with fail
        cases x1 : ((n3 : Int) == 0)
        case true =>
          have x1' : n3 = 0 := by have := beq_iff_eq.1 x1; omega
          have HF := hid (tabB_ent HX.out (show entB T.sys (partsOf T.plan) k x = false from by
            rw [HS.out, HPE.out]
            unfold entB
            rw [show x.ps = [] from List.length_eq_zero_iff.1 (by rw [HN3.out]; omega)]
            rfl))
          clear x1'
          refine wp_region_class (C := C) (by kernel_rfl) (by kernel_rfl) (by rw [HCC.out]; exact (Below.refl _ _).drew) ?_
          repeat (refine wpQuiet_step (fun K hK => ?_); (first | (rw [if_neg (by exact Bool.false_ne_true)]; refine hK _ ?_) | (rw [if_pos (by rfl)]; refine Exists.intro ?_ (And.intro (fun W HW => ?_) (hK _ ?_)); rotate_left; (focus (first | (have q0 := FE.out W HW; have q1 := FT.out W HW; have q2 := FL.out W HW; have q3 := FS8.out W HW; have q4 := FS9.out W HW; (go_simp); all_goals (with_reducible rfl)))))); clear hK K; try simp only [Act.put, List.setIfInBounds_toArray, List.set_cons_zero, List.set_cons_succ])
          refine wpQuiet_nil ?_
          intro wd hCw
          have HV4 := hid (show Below w.heap.size w wd from by rw [HCC.out] at hCw; exact below_then (below_then HBE.out HBR.out) hCw)
          clear hCw
          go_wp2_with fail
          go_ret
          exact ⟨by rw [HF.out]; rfl, HV4.out⟩
        have x1' : 0 < n3 := by have := beq_eq_false_iff_ne.1 x1; omega
        obtain ⟨L3, hL3⟩ : ∃ v, n3 - 1 = v := ⟨_, rfl⟩
        have hw3 : IntKind.i64.wrap ((n3 : Int) - 1) = (L3 : Int) := by rw [IntKind.wrap_i64]; omega
        have hL3n : L3 < n3 := by omega
        obtain ⟨p3, hp3⟩ : ∃ p, x.ps[L3]? = some p := ⟨_, List.getElem?_eq_getElem (by rw [HN3.out]; exact hL3n)⟩
        obtain ⟨b7, o7, cs7, hA7, hbl7, _, hc7, hr7⟩ := HRU3.out.at hp3
        subst hA7
        have hr7' : cs7 = [.int .i64 p3.core, .int .i64 p3.bud, .int .i64 p3.dl, .int .i64 p3.prio, .bool p3.tight] := hr7
        subst hr7'
        obtain ⟨ti, hti⟩ : ∃ v, p3.tight = v := ⟨_, rfl⟩
        rw [hti] at hc7
        have HLA := hid (show (x.ps.getLast?.map Pc.tight).getD false = ti from by rw [List.getLast?_eq_getElem?, HN3.out, hL3, hp3, ← hti]; rfl)
        have FP := hid (fun W (h : C W) => (show W.cell? ⟨b7, o7 + L3 * 5 + 4, none⟩ = some (.bool ti) from by rw [HCC.out] at h; exact (h.cell (p := ⟨b7, o7 + L3 * 5 + 4, none⟩) hbl7).trans (hc7 4 _ rfl)))
        clear hL3 hp3 hbl7 hc7 hr7 hti
        cases x2 : ti
        case true =>
          have HF := hid (tabB_ent HX.out (show entB T.sys (partsOf T.plan) k x = false from by
            rw [HS.out, HPE.out]
            unfold entB
            rw [HLA.out, x2]
            simp))
          refine wp_region_class (C := C) (by kernel_rfl) (by kernel_rfl) (by rw [HCC.out]; exact (Below.refl _ _).drew) ?_
          repeat (refine wpQuiet_step (fun K hK => ?_); (first | (rw [if_neg (by exact Bool.false_ne_true)]; refine hK _ ?_) | (rw [if_pos (by rfl)]; refine Exists.intro ?_ (And.intro (fun W HW => ?_) (hK _ ?_)); rotate_left; (focus (first | (have q0 := FE.out W HW; have q1 := FT.out W HW; have q2 := FL.out W HW; have q3 := FS8.out W HW; have q4 := FS9.out W HW; have q5 := FP.out W HW; (go_simp); all_goals (with_reducible rfl)))))); clear hK K; try simp only [Act.put, List.setIfInBounds_toArray, List.set_cons_zero, List.set_cons_succ])
          refine wpQuiet_nil ?_
          intro wd hCw
          have HV4 := hid (show Below w.heap.size w wd from by rw [HCC.out] at hCw; exact below_then (below_then HBE.out HBR.out) hCw)
          clear hCw
          go_wp2_with fail
          go_ret
          exact ⟨by rw [HF.out]; rfl, HV4.out⟩
        cases x3 : decide (xb < 1)
        case true =>
          have x3' := of_decide_eq_true x3
          have HF := hid (tabB_ent HX.out (show entB T.sys (partsOf T.plan) k x = false from by
            rw [HS.out, HPE.out]
            unfold entB
            rw [HXB.out, show decide (1 ≤ xb) = false from decide_eq_false (by omega), Bool.false_and, Bool.and_false, Bool.and_false, Bool.and_false]))
          refine wp_region_class (C := C) (by kernel_rfl) (by kernel_rfl) (by rw [HCC.out]; exact (Below.refl _ _).drew) ?_
          repeat (refine wpQuiet_step (fun K hK => ?_); (first | (rw [if_neg (by exact Bool.false_ne_true)]; refine hK _ ?_) | (rw [if_pos (by rfl)]; refine Exists.intro ?_ (And.intro (fun W HW => ?_) (hK _ ?_)); rotate_left; (focus (first | (have q0 := FE.out W HW; have q1 := FT.out W HW; have q2 := FL.out W HW; have q3 := FS8.out W HW; have q4 := FS9.out W HW; have q5 := FP.out W HW; (go_simp); all_goals (with_reducible rfl)))))); clear hK K; try simp only [Act.put, List.setIfInBounds_toArray, List.set_cons_zero, List.set_cons_succ])
          refine wpQuiet_nil ?_
          intro wd hCw
          have HV4 := hid (show Below w.heap.size w wd from by rw [HCC.out] at hCw; exact below_then (below_then HBE.out HBR.out) hCw)
          clear hCw
          go_wp2_with fail
          go_ret
          exact ⟨by rw [HF.out]; rfl, HV4.out⟩
        have x3' := of_decide_eq_false x3
        cases x4 : decide (td < xb)
        case true =>
          have x4' := of_decide_eq_true x4
          have HF := hid (tabB_ent HX.out (show entB T.sys (partsOf T.plan) k x = false from by
            rw [HS.out, HPE.out]
            unfold entB
            rw [HXB.out, HTK.out]
            show (_ && (_ && (_ && (_ && decide (xb ≤ t.dl))))) = false
            rw [HTD.out, show decide (xb ≤ td) = false from decide_eq_false (by omega), Bool.and_false, Bool.and_false, Bool.and_false, Bool.and_false]))
          refine wp_region_class (C := C) (by kernel_rfl) (by kernel_rfl) (by rw [HCC.out]; exact (Below.refl _ _).drew) ?_
          repeat (refine wpQuiet_step (fun K hK => ?_); (first | (rw [if_neg (by exact Bool.false_ne_true)]; refine hK _ ?_) | (rw [if_pos (by rfl)]; refine Exists.intro ?_ (And.intro (fun W HW => ?_) (hK _ ?_)); rotate_left; (focus (first | (have q0 := FE.out W HW; have q1 := FT.out W HW; have q2 := FL.out W HW; have q3 := FS8.out W HW; have q4 := FS9.out W HW; have q5 := FP.out W HW; (go_simp); all_goals (with_reducible rfl)))))); clear hK K; try simp only [Act.put, List.setIfInBounds_toArray, List.set_cons_zero, List.set_cons_succ])
          refine wpQuiet_nil ?_
          intro wd hCw
          have HV4 := hid (show Below w.heap.size w wd from by rw [HCC.out] at hCw; exact below_then (below_then HBE.out HBR.out) hCw)
          clear hCw
          go_wp2_with fail
          go_ret
          exact ⟨by rw [HF.out]; rfl, HV4.out⟩
        have x4' := of_decide_eq_false x4
        refine wp_region_class (C := C) (by kernel_rfl) (by kernel_rfl) (by rw [HCC.out]; exact (Below.refl _ _).drew) ?_
        repeat (refine wpQuiet_step (fun K hK => ?_); (first | (rw [if_neg (by exact Bool.false_ne_true)]; refine hK _ ?_) | (rw [if_pos (by rfl)]; refine Exists.intro ?_ (And.intro (fun W HW => ?_) (hK _ ?_)); rotate_left; (focus (first | (have q0 := FE.out W HW; have q1 := FT.out W HW; have q2 := FL.out W HW; have q3 := FS8.out W HW; have q4 := FS9.out W HW; have q5 := FP.out W HW; (go_simp); all_goals (with_reducible rfl)))))); clear hK K; try simp only [Act.put, List.setIfInBounds_toArray, List.set_cons_zero, List.set_cons_succ])
        refine wpQuiet_nil ?_
        intro wd hCw
        have HV4 := hid (show Below wr.heap.size wr wd from by rw [HCC.out] at hCw; exact hCw)
        clear hCw
        obtain ⟨ws, hws⟩ : ∃ ws, ws = wr := ⟨_, rfl⟩
        subst hws
        go_wp2_with fail
        go_loopw [7] (fun v wr => ∃ j : Nat, j ≤ n3 ∧ v = .int .i64 j ∧ Hid (x.ps.take j = (rankRow S (partsOf P) k x.ps).take j) ∧ Hid (Below ws.heap.size ws wr)) (fun v _ => n3 - (intOf v).toNat)
        case atStart => exact ⟨0, by omega, rfl, hid rfl, HV4⟩
        case round =>
          obtain ⟨j, hj, rfl, HTJ, HBJ⟩ := hrel
          have a0 := FL.out wr (by rw [HCC.out]; exact HBJ.out)
          have a1 := FR.out wr (by rw [HCC.out]; exact HBJ.out)
          by_cases hjn : j < n3
          case neg =>
            obtain rfl : j = n3 := by omega
            have HE := hid (show entB T.sys (partsOf T.plan) k x = true from by
              rw [HS.out, HPE.out]
              unfold entB
              rw [HLA.out, x2, HXB.out, HTK.out, ← eq_all HTJ.out HN3.out.symm (by unfold rankRow; rw [List.length_map, HN3.out])]
              show (!x.ps.isEmpty && (!false && (decide (x.ps = x.ps) && (decide (1 ≤ xb) && decide (xb ≤ t.dl))))) = true
              rw [HTD.out, decide_eq_true (show 1 ≤ xb by omega), decide_eq_true (show xb ≤ td by omega), decide_eq_true rfl, show x.ps.isEmpty = false from by
                have := HN3.out
                cases hps : x.ps with
                | nil => rw [hps] at this; simp at this; omega
                | cons a l => rfl]
              rfl)
            have HA2 := hid (show ∀ (i : Nat) y, i < k + 1 → T.ents[i]? = some y → entB T.sys (partsOf T.plan) i y = true from fun i y hi hy => by
              by_cases e : i = k
              · subst e
                rw [HX.out] at hy
                injection hy with hy
                rw [← hy]
                exact HE.out
              · exact HA.out i y (by omega) hy)
            have HBN := hid (below_then HBR.out HBJ.out)
            go_wp2_with fail
            go_roundw
            case rel => exact ⟨k + 1, by omega, by go_num, HA2, HBN⟩
            case measure => simp [intOf]; omega
          case pos =>
            obtain ⟨p, hp⟩ : ∃ p, x.ps[j]? = some p := ⟨_, List.getElem?_eq_getElem (by have := HN3.out; omega)⟩
            obtain ⟨q, hq⟩ : ∃ q, (rankRow S (partsOf P) k x.ps)[j]? = some q := ⟨_, List.getElem?_eq_getElem (by unfold rankRow; rw [List.length_map, HN3.out]; omega)⟩
            obtain ⟨b8, o8, cs8, hA8, hbl8, _, hc8, hr8⟩ := (HRU3.out.later pcR.stays HBJ.out).at hp
            obtain ⟨e8, e9⟩ : b8 = b7 ∧ o8 = o7 := by
              injection hA8 with h
              injection h with h1 h2
              exact ⟨h1.symm, h2.symm⟩
            simp only [e8, e9] at hc8
            have hr8' : cs8 = [.int .i64 p.core, .int .i64 p.bud, .int .i64 p.dl, .int .i64 p.prio, .bool p.tight] := hr8
            subst hr8'
            obtain ⟨b9, o9, cs9, hA9, hbl9, _, hc9, hr9⟩ := (HRU4.out.later pcR.stays HBJ.out).at hq
            subst hA9
            have hr9' : cs9 = [.int .i64 q.core, .int .i64 q.bud, .int .i64 q.dl, .int .i64 q.prio, .bool q.tight] := hr9
            subst hr9'
            have g0 : wr.cell? ⟨b7, o7 + j * 5, none⟩ = some (.int .i64 p.core) := by simpa using hc8 0 _ rfl
            have g0d : wr.drew.cell? ⟨b7, o7 + j * 5, none⟩ = some (.int .i64 p.core) := g0
            have g1 : wr.cell? ⟨b7, o7 + j * 5 + 1, none⟩ = some (.int .i64 p.bud) := hc8 1 _ rfl
            have g1d : wr.drew.cell? ⟨b7, o7 + j * 5 + 1, none⟩ = some (.int .i64 p.bud) := g1
            have g2 : wr.cell? ⟨b7, o7 + j * 5 + 2, none⟩ = some (.int .i64 p.dl) := hc8 2 _ rfl
            have g2d : wr.drew.cell? ⟨b7, o7 + j * 5 + 2, none⟩ = some (.int .i64 p.dl) := g2
            have g3 : wr.cell? ⟨b7, o7 + j * 5 + 3, none⟩ = some (.int .i64 p.prio) := hc8 3 _ rfl
            have g3d : wr.drew.cell? ⟨b7, o7 + j * 5 + 3, none⟩ = some (.int .i64 p.prio) := g3
            have g4 : wr.cell? ⟨b7, o7 + j * 5 + 4, none⟩ = some (.bool p.tight) := hc8 4 _ rfl
            have g4d : wr.drew.cell? ⟨b7, o7 + j * 5 + 4, none⟩ = some (.bool p.tight) := g4
            have f0 : wr.cell? ⟨b9, o9 + j * 5, none⟩ = some (.int .i64 q.core) := by simpa using hc9 0 _ rfl
            have f0d : wr.drew.cell? ⟨b9, o9 + j * 5, none⟩ = some (.int .i64 q.core) := f0
            have f1 : wr.cell? ⟨b9, o9 + j * 5 + 1, none⟩ = some (.int .i64 q.bud) := hc9 1 _ rfl
            have f1d : wr.drew.cell? ⟨b9, o9 + j * 5 + 1, none⟩ = some (.int .i64 q.bud) := f1
            have f2 : wr.cell? ⟨b9, o9 + j * 5 + 2, none⟩ = some (.int .i64 q.dl) := hc9 2 _ rfl
            have f2d : wr.drew.cell? ⟨b9, o9 + j * 5 + 2, none⟩ = some (.int .i64 q.dl) := f2
            have f3 : wr.cell? ⟨b9, o9 + j * 5 + 3, none⟩ = some (.int .i64 q.prio) := hc9 3 _ rfl
            have f3d : wr.drew.cell? ⟨b9, o9 + j * 5 + 3, none⟩ = some (.int .i64 q.prio) := f3
            have f4 : wr.cell? ⟨b9, o9 + j * 5 + 4, none⟩ = some (.bool q.tight) := hc9 4 _ rfl
            have f4d : wr.drew.cell? ⟨b9, o9 + j * 5 + 4, none⟩ = some (.bool q.tight) := f4
            have a0d := FL.out wr.drew (by rw [HCC.out]; exact below_drewN' HBJ.out 1)
            have a1d := FR.out wr.drew (by rw [HCC.out]; exact below_drewN' HBJ.out 1)
            have HBK := hid (show Below ws.heap.size ws wr.drew from below_drewN' HBJ.out 1)
            have hpn := piece_ne p q
            have hpg := fun o p' => piece_guard o p' p q
            obtain ⟨bb, hbb⟩ : ∃ bb, (!(p == q)) = bb := ⟨_, rfl⟩
            rw [hbb] at hpn
            have HBB := hid hbb
            have HP := hid hp
            have HQQ := hid hq
            clear hp hq hc8 hr8 hc9 hr9 hbl8 hbl9 hbb e8 e9 hA8
            unfold pcV at hpn hpg
            obtain ⟨xc, xb', xd, xp, xt⟩ := p
            obtain ⟨yc, yb, yd, yp, yt⟩ := q
            simp only at g0 g0d g1 g1d g2 g2d g3 g3d g4 g4d f0 f0d f1 f1d f2 f2d f3 f3d f4 f4d hpn hpg
            cases bb
            case false =>
              have he : (⟨xc, xb', xd, xp, xt⟩ : Pc) = ⟨yc, yb, yd, yp, yt⟩ := by have := HBB.out; simpa using this
              have HTN := hid (eq_step HTJ.out HP.out (by rw [he]; exact HQQ.out))
              clear he
              go_wp2_with fail
              go_region
              clear a0 a1 a0d a1d g0 g0d g1 g1d g2 g2d g3 g3d g4 g4d f0 f0d f1 f1d f2 f2d f3 f3d f4 f4d hpn hpg
              go_wp2_with fail
              go_roundw
              case rel => exact ⟨j + 1, by omega, by go_num, HTN, HBK⟩
              case measure => simp [intOf]; omega
            case true =>
              have he : (⟨xc, xb', xd, xp, xt⟩ : Pc) ≠ ⟨yc, yb, yd, yp, yt⟩ := fun e => by have := HBB.out; rw [e] at this; simp at this
              have HF := hid (tabB_ent HX.out (show entB T.sys (partsOf T.plan) k x = false from by
                rw [HS.out, HPE.out]
                unfold entB
                rw [show decide (x.ps = rankRow S (partsOf P) k x.ps) = false from decide_eq_false (ne_step HP.out HQQ.out he), Bool.false_and, Bool.and_false, Bool.and_false]))
              have HBF := hid (below_then (below_then HBE.out HBR.out) HBK.out)
              clear he
              go_wp2_with fail
              go_region
              clear a0 a1 a0d a1d g0 g0d g1 g1d g2 g2d g3 g3d g4 g4d f0 f0d f1 f1d f2 f2d f3 f3d f4 f4d hpn hpg
              go_wp2_with fail
              go_ret
              exact ⟨by rw [HF.out]; rfl, HBF.out⟩
      case neg =>
        obtain rfl : k = m := by omega
        have q3 := (fr0 HBR.out).blk HQ2.out (fun h => h)
        have HBR1 := hid (below_then HB2.out HBR.out)
        have s0 : wr.cell? ⟨B, 0, none⟩ = some (.int .i64 S.cores) := blk_cell q3 0
        have s1 : wr.cell? ⟨B, 1, none⟩ = some (.int .i64 S.policy) := blk_cell q3 1
        have s2 : wr.cell? ⟨B, 2, none⟩ = some (.int .i64 S.prot) := blk_cell q3 2
        have s3 : wr.cell? ⟨B, 3, none⟩ = some (.int .i64 S.rel) := blk_cell q3 3
        have s4 : wr.cell? ⟨B, 4, none⟩ = some (.int .i64 S.sw) := blk_cell q3 4
        have s5 : wr.cell? ⟨B, 5, none⟩ = some (.int .i64 S.fin) := blk_cell q3 5
        have s6 : wr.cell? ⟨B, 6, none⟩ = some (.int .i64 S.lat) := blk_cell q3 6
        have s7 : wr.cell? ⟨B, 7, none⟩ = some (.int .i64 S.resn) := blk_cell q3 7
        have s8 : wr.cell? ⟨B, 8, none⟩ = some (.slice A0 n0 c0) := blk_cell q3 8
        have HQ3 := hid q3
        clear q3
        go_wp2_with fail
        refine (HCA.out _ HBR1.out).mono ?_
        rintro e w3 ⟨uc, rfl, hcc, hb3⟩
        rw [if_pos HPB.out] at hcc
        obtain ⟨Ac, dc, huc, _⟩ := hcc.shape
        have hcl : (ceilL S P).length = S.cores.toNat := by unfold ceilL; simp
        obtain ⟨cn, hcn⟩ : ∃ cn, S.cores.toNat = cn := ⟨_, rfl⟩
        rw [hcl, hcn] at huc
        subst huc
        have hcn8 : cn ≤ 8 := by have := HOK.out.sys.cores; omega
        have hn2 := HT.out.ceil.len
        have hn2m : n2 ≤ 9223372036854775807 := by have := HT.out.ceil.room; unfold maxLen at this; omega
        have HB3 := hid (below_then (below_then HBE.out HBR.out) hb3)
        have HQ4 := hid ((fr0 hb3).blk HQ3.out (fun h => h))
        have HL := hid hcc
        have HLM := hid (HT.out.ceil.later (RowR.stays IntR.stays) HB3.out)
        have HF := hid (show tabB T = decide (ceilL S P = T.ceil) from by
          rw [tabB_all (by rw [HS.out, HPE.out]; exact HPB.out) (fun i x hi hx => HA.out i x (by rw [HN.out]; exact hi) hx), HS.out, HPE.out])
        have HN4 := hid (show cn = (ceilL S P).length by rw [hcl, hcn])
        have HN5 := hid hn2
        have s10 : w3.cell? ⟨B, 10, none⟩ = some (.slice A2 n2 c2) := blk_cell HQ4.out 10
        clear hcc hb3 hcl hcn hn2 s0 s1 s2 s3 s4 s5 s6 s7 s8
        obtain ⟨L, hL⟩ : ∃ L, ceilL S P = L := ⟨_, rfl⟩
        rw [hL] at HL HF HN4
        clear hL
        by_cases hnn : cn = n2
        case neg =>
          have hbn : ((cn : Int) != (n2 : Int)) = true := bne_iff_ne.2 (by omega)
          have HD := hid (show decide (L = T.ceil) = false from decide_eq_false (fun e => hnn (by rw [HN4.out, HN5.out, e])))
          clear hnn
          go_wp2_with fail
          go_ret
          exact ⟨by rw [HF.out, HD.out]; rfl, HB3.out⟩
        case pos =>
          subst hnn
          have hbn : ((cn : Int) != (cn : Int)) = false := by simp
          go_wp2_with fail
          clear s10 hbn
          go_loopw [10] (fun v wr => ∃ i : Nat, i ≤ cn ∧ v = .int .i64 i ∧ Hid (L.take i = T.ceil.take i) ∧ Hid (Below w3.heap.size w3 wr)) (fun v _ => cn - (intOf v).toNat)
          case atStart => exact ⟨0, by omega, rfl, hid rfl, hid (Below.refl _ _)⟩
          case round =>
            obtain ⟨i, hi, rfl, HTK, HBI⟩ := hrel
            by_cases hlt2 : i < cn
            case neg =>
              obtain rfl : i = cn := by omega
              have HD := hid (show decide (L = T.ceil) = true from decide_eq_true (eq_all HTK.out HN4.out HN5.out))
              have HBF := hid (below_then HB3.out HBI.out)
              go_wp2_with fail
              go_ret
              exact ⟨by rw [HF.out, HD.out]; rfl, HBF.out⟩
            case pos =>
              obtain ⟨x, hx⟩ : ∃ x, L[i]? = some x := ⟨_, List.getElem?_eq_getElem (by have := HN4.out; omega)⟩
              obtain ⟨y, hy⟩ : ∃ y, T.ceil[i]? = some y := ⟨_, List.getElem?_eq_getElem (by have := HN5.out; omega)⟩
              obtain ⟨b, o, cs, hA, hbl, _, hc, u, hr, hru⟩ := HL.out.at hx
              subst hA
              subst hr
              obtain ⟨b2, o2, cs2, hA2, hbl2, _, hc2, u2, hr2, hru2⟩ := HLM.out.at hy
              subst hA2
              subst hr2
              obtain ⟨A3, c3, hu3, hr3⟩ := hru.shape
              obtain ⟨A4, c4, hu4, hr4⟩ := hru2.shape
              obtain ⟨n3, hn3⟩ : ∃ n3, x.length = n3 := ⟨_, rfl⟩
              obtain ⟨n4, hn4⟩ : ∃ n4, y.length = n4 := ⟨_, rfl⟩
              rw [hn3] at hu3 hr3
              rw [hn4] at hu4 hr4
              subst hu3
              subst hu4
              have hn3m : n3 ≤ 9223372036854775807 := by unfold maxLen at hr3; omega
              have hn4m : n4 ≤ 9223372036854775807 := by unfold maxLen at hr4; omega
              have HRU := hid hru
              have HRU2 := hid hru2
              have HC := hid (show w3.cell? ⟨b, o + i, none⟩ = some (.slice A3 n3 c3) from by simpa using hc 0 _ rfl)
              have HC2 := hid (show w3.cell? ⟨b2, o2 + i, none⟩ = some (.slice A4 n4 c4) from by simpa using hc2 0 _ rfl)
              have HX := hid hx
              have HY := hid hy
              have HN3 := hid hn3
              have HNN4 := hid hn4
              have HCELL := hid (fun W (h : Below w3.heap.size w3 W) => (⟨(h.cell (p := ⟨b, o + i, none⟩) hbl).trans HC.out, (h.cell (p := ⟨b2, o2 + i, none⟩) hbl2).trans HC2.out, blk_cell ((fr0 h).blk HQ4.out (fun h => h)) 10⟩ : W.cell? ⟨b, o + i, none⟩ = some (.slice A3 n3 c3) ∧ W.cell? ⟨b2, o2 + i, none⟩ = some (.slice A4 n4 c4) ∧ W.cell? ⟨B, 10, none⟩ = some (.slice (some ⟨b2, o2, none⟩) cn c2)))
              clear hx hy hc hru hc2 hru2 hbl hbl2 hn3 hn4 hr3 hr4
              obtain ⟨e0, e1, e2⟩ := HCELL.out wr HBI.out
              obtain ⟨e0d, e1d, e2d⟩ := HCELL.out wr.drew (below_drewN' HBI.out 1)
              have HBD := hid (show Below w3.heap.size w3 wr.drew from below_drewN' HBI.out 1)
              by_cases h34 : n3 = n4
              case neg =>
                have hbn : ((n3 : Int) != (n4 : Int)) = true := bne_iff_ne.2 (by omega)
                have HD := hid (show decide (L = T.ceil) = false from decide_eq_false (ne_step HX.out HY.out (fun e => h34 (by rw [← HN3.out, ← HNN4.out, e]))))
                have HBF := hid (below_then HB3.out HBD.out)
                clear h34
                go_wp2_with fail
                go_region
                clear e0 e1 e2 e0d e1d e2d
                go_wp2_with fail
                go_ret
                exact ⟨by rw [HF.out, HD.out]; rfl, HBF.out⟩
              case pos =>
                subst h34
                have hbn : ((n3 : Int) != (n3 : Int)) = false := by simp
                go_wp2_with fail
                go_region
                clear e0 e1 e2 e0d e1d e2d hbn
                generalize wr.drew = w5 at HBD ⊢
                go_wp2_with fail
                go_loopw [11] (fun v wr => ∃ j : Nat, j ≤ n3 ∧ v = .int .i64 j ∧ Hid (x.take j = y.take j) ∧ Hid (Below w3.heap.size w3 wr)) (fun v _ => n3 - (intOf v).toNat)
                case atStart => exact ⟨0, by omega, rfl, hid rfl, HBD⟩
                case round =>
                  obtain ⟨j, hj, rfl, HTJ, HBJ⟩ := hrel
                  obtain ⟨e0, e1, e2⟩ := HCELL.out wr HBJ.out
                  by_cases hjn : j < n3
                  case neg =>
                    obtain rfl : j = n3 := by omega
                    have HTN := hid (eq_step HTK.out HX.out (by rw [eq_all HTJ.out HN3.out.symm HNN4.out.symm]; exact HY.out))
                    go_wp2_with fail
                    go_roundw
                    case rel => exact ⟨i + 1, by omega, by go_num, HTN, HBJ⟩
                    case measure => simp [intOf]; omega
                  case pos =>
                    obtain ⟨p, hp⟩ : ∃ p, x[j]? = some p := ⟨_, List.getElem?_eq_getElem (by have := HN3.out; omega)⟩
                    obtain ⟨q, hq⟩ : ∃ q, y[j]? = some q := ⟨_, List.getElem?_eq_getElem (by have := HNN4.out; omega)⟩
                    obtain ⟨b7, o7, cs7, hA7, hbl7, _, hc7, hr7⟩ := (HRU.out.later IntR.stays HBJ.out).at hp
                    subst hA7
                    have hr7' : cs7 = [.int .i64 p] := hr7
                    subst hr7'
                    obtain ⟨b8, o8, cs8, hA8, hbl8, _, hc8, hr8⟩ := (HRU2.out.later IntR.stays HBJ.out).at hq
                    subst hA8
                    have hr8' : cs8 = [.int .i64 q] := hr8
                    subst hr8'
                    have g0 : wr.cell? ⟨b7, o7 + j, none⟩ = some (.int .i64 p) := by simpa using hc7 0 _ rfl
                    have g1 : wr.cell? ⟨b8, o8 + j, none⟩ = some (.int .i64 q) := by simpa using hc8 0 _ rfl
                    have g0d : wr.drew.cell? ⟨b7, o7 + j, none⟩ = some (.int .i64 p) := g0
                    have g1d : wr.drew.cell? ⟨b8, o8 + j, none⟩ = some (.int .i64 q) := g1
                    obtain ⟨e0d, e1d, e2d⟩ := HCELL.out wr.drew (below_drewN' HBJ.out 1)
                    have HBK := hid (show Below w3.heap.size w3 wr.drew from below_drewN' HBJ.out 1)
                    have HP := hid hp
                    have HQQ := hid hq
                    clear hp hq hc7 hr7 hc8 hr8 hbl7 hbl8
                    by_cases hpq : p = q
                    case pos =>
                      subst hpq
                      have hbn : (p != p) = false := by simp
                      have HTJ2 := hid (eq_step HTJ.out HP.out HQQ.out)
                      go_wp2_with fail
                      go_region
                      clear e0 e1 e2 e0d e1d e2d g0 g1 g0d g1d
                      go_wp2_with fail
                      go_roundw
                      case rel => exact ⟨j + 1, by omega, by go_num, HTJ2, HBK⟩
                      case measure => simp [intOf]; omega
                    case neg =>
                      have hbn : (p != q) = true := bne_iff_ne.2 hpq
                      have HD := hid (show decide (L = T.ceil) = false from decide_eq_false (ne_step HX.out HY.out (ne_step HP.out HQQ.out hpq)))
                      have HBF := hid (below_then HB3.out HBK.out)
                      clear hpq
                      go_wp2_with fail
                      go_region
                      clear e0 e1 e2 e0d e1d e2d g0 g1 g0d g1d
                      go_wp2_with fail
                      go_ret
                      exact ⟨by rw [HF.out, HD.out]; rfl, HBF.out⟩
end
end Go.Proofs.Ytmhochjpdedlgaa
