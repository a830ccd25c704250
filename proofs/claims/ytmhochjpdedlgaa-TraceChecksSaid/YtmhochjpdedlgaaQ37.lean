/- Joined: TRight. -/
import Derived.Test.YtmhochjpdedlgaaQ36
import Derived.Deep.QuietTactic
import Derived.BigQuiet
set_option linter.unusedVariables false
set_option linter.unusedSimpArgs false
/- table.Right (contract): it returns tabB. -/
set_option linter.unusedVariables false
set_option linter.unusedSimpArgs false
namespace Go.Proofs.Ytmhochjpdedlgaa
open Go.RowKit

theorem tabB_plan {T : Tb} (h : planB T.sys T.plan = false) : tabB T = false := by unfold tabB; rw [h]; rfl
theorem tabB_ent {T : Tb} {k : Nat} {x : En} (hx : T.ents[k]? = some x) (h : entB T.sys (partsOf T.plan) k x = false) : tabB T = false := by
  unfold tabB
  have : ((List.range T.ents.length).all fun i => (T.ents[i]?.map (entB T.sys (partsOf T.plan) i)).getD true) = false := by
    rw [List.all_eq_false]
    exact ⟨k, by simpa using (List.getElem?_eq_some_iff.1 hx).1, by rw [hx]; show ¬ (entB _ _ _ _ = true); rw [h]; simp⟩
  rw [this, Bool.and_false, Bool.false_and]
theorem tabB_all {T : Tb} (hp : planB T.sys T.plan = true) (h : ∀ (i : Nat) x, i < T.ents.length → T.ents[i]? = some x → entB T.sys (partsOf T.plan) i x = true) : tabB T = decide (ceilL T.sys T.plan = T.ceil) := by
  unfold tabB
  have : ((List.range T.ents.length).all fun i => (T.ents[i]?.map (entB T.sys (partsOf T.plan) i)).getD true) = true := by
    rw [List.all_eq_true]
    intro i hi
    have hi' : i < T.ents.length := by simpa using hi
    have hx : T.ents[i]? = some T.ents[i] := List.getElem?_eq_getElem hi'
    rw [hx]
    exact h i _ hi' hx
  rw [hp, this]
  rfl
theorem rows_rankL {S : Sy} {P : Pl} (h : PlanOk S P) : (List.range P.length).map (rowsC S P S.cores) = rankL S P := by
  refine rankL_rows (fun x hx => decide_eq_true ?_)
  obtain ⟨l, hl, hk⟩ := mem_parts.1 hx
  have hi2 := (List.getElem?_eq_some_iff.1 hl).1
  have h1 := h.len
  have ht : S.tasks[x.task]? = some (S.tasks[x.task]'(by omega)) := List.getElem?_eq_getElem _
  exact ((listOk_pcs h.sys (h.sys.tasks _ (List.mem_of_getElem? ht)) (h.lists _ _ l ht hl)).2 _ (List.mem_of_getElem? hk)).c1
attribute [local irreducible] wpQuiet
section
variable {w : World}
set_option maxRecDepth 100000 in
set_option maxHeartbeats 6400000 in
theorem tright_any (T : Tb) (A0 : Option Addr) (n0 c0 : Nat) (A1 : Option Addr) (n1 c1 : Nat) (A2 : Option Addr) (n2 c2 : Nat) (h : IsTab w (.slice A0 n0 c0) (.slice A1 n1 c1) (.slice A2 n2 c2) T) (hlen : n1 ≤ 4398046511104) :
    Calls Try.prog 17 #[tabV T.sys (.slice A0 n0 c0) (.slice A1 n1 c1) (.slice A2 n2 c2)] w fun e w' => e = .returned (.bool (tabB T)) ∧ Below w.heap.size w w' := by
  have hn := h.ents.len
  have hn0 := h.sys.tasks.len
  have hn0m : n0 ≤ 9223372036854775807 := by have := h.sys.tasks.room; unfold maxLen at this; omega
  have HT := hid h
  have HN := hid hn
  have HN0 := hid hn0
  have HPA := hid (fun W (k : Below w.heap.size w W) => tplan_any (w := W) T (.slice A0 n0 c0) A1 n1 c1 (.slice A2 n2 c2) (h.later k) hlen)
  obtain ⟨CS, hCS⟩ : ∃ C, C = tabC T.sys (.slice A0 n0 c0) (.slice A1 n1 c1) (.slice A2 n2 c2) := ⟨_, rfl⟩
  have HCS := hid hCS
  have hq0 := blk_new w (.cells (tabC T.sys (.slice A0 n0 c0) (.slice A1 n1 c1) (.slice A2 n2 c2)) 28)
  rw [← hCS] at hq0
  have HQ0 := hid hq0
  unfold tabV tabC at *
  rw [hCS] at HQ0
  clear h hn hn0 hCS hq0
  go_enter Try.func17, Try.ntmps17
  go_wp2_with fail
  refine (HPA.out _ (below_new (Below.refl _ _) _)).mono ?_
  rintro e w1 ⟨Au, m, du, rfl, hpl, hb1⟩
  have q1 := (fr0 hb1).blk HQ0.out (fun h => h)
  have HB1 := hid (below_then (below_new (Below.refl _ _) _) hb1)
  have HP1 := hid hpl
  have hm : m = T.plan.length := hpl.rows.len
  have hmn : m = n1 := by rw [hm, HN.out]; unfold Tb.plan; rw [List.length_map]
  subst hmn
  have HM := hid hm
  obtain ⟨S, hS⟩ : ∃ S, T.sys = S := ⟨_, rfl⟩
  obtain ⟨P, hP⟩ : ∃ P, T.plan = P := ⟨_, rfl⟩
  rw [hS] at q1 ⊢
  have HS := hid hS
  have HPE := hid hP
  have HQ1 := hid q1
  have HRA := hid (fun W (k : Below w1.heap.size w1 W) => rank_any (w := W) S A0 n0 c0 Au m du P (by rw [← hS]; exact (HT.out.sys.later HB1.out).later k) (by rw [← hP]; exact hpl.later k))
  have HCA := hid (fun W (k : Below w1.heap.size w1 W) => pceil_any (w := W) S A0 n0 c0 Au m du P (by rw [← hS]; exact (HT.out.sys.later HB1.out).later k) (by rw [← hP]; exact hpl.later k))
  have hBl := blk_lt q1
  obtain ⟨B, hB⟩ : ∃ B, w.heap.size = B := ⟨_, rfl⟩
  rw [hB] at q1 HQ1 hBl ⊢
  have HB := hid hB
  have s0 : w1.cell? ⟨B, 0, none⟩ = some (.int .i64 S.cores) := blk_cell q1 0
  have s1 : w1.cell? ⟨B, 1, none⟩ = some (.int .i64 S.policy) := blk_cell q1 1
  have s2 : w1.cell? ⟨B, 2, none⟩ = some (.int .i64 S.prot) := blk_cell q1 2
  have s3 : w1.cell? ⟨B, 3, none⟩ = some (.int .i64 S.rel) := blk_cell q1 3
  have s4 : w1.cell? ⟨B, 4, none⟩ = some (.int .i64 S.sw) := blk_cell q1 4
  have s5 : w1.cell? ⟨B, 5, none⟩ = some (.int .i64 S.fin) := blk_cell q1 5
  have s6 : w1.cell? ⟨B, 6, none⟩ = some (.int .i64 S.lat) := blk_cell q1 6
  have s7 : w1.cell? ⟨B, 7, none⟩ = some (.int .i64 S.resn) := blk_cell q1 7
  have s8 : w1.cell? ⟨B, 8, none⟩ = some (.slice A0 n0 c0) := blk_cell q1 8
  unfold sysV at *
  clear hpl hb1 q1 hm hS hP hB HPA HQ0
  go_wp2_with fail
  refine (HRA.out _ (Below.refl _ _)).mono ?_
  intro e w2 hor
  rcases hor with ⟨hpb, rfl, hb2⟩ | ⟨hpb, g, V, rfl, hgr, hb2⟩
  · have HBE := hid (below_then HB1.out hb2)
    have HF := hid (tabB_plan (T := T) (by rw [HS.out, HPE.out]; exact hpb))
    clear hb2 hpb s0 s1 s2 s3 s4 s5 s6 s7 s8
    go_wp2_with fail
    go_ret
    exact ⟨by rw [HF.out]; rfl, HBE.out⟩
  · have HB2 := hid hb2
    have HBE := hid (below_then HB1.out hb2)
    have HOK := hid (planB_ok hpb)
    have HPB := hid hpb
    have HGP := hid (show Rowp 1 (RowR 5 pcR) w2 (.slice (some ⟨g, 0, none⟩) m m) (rankL S P) from by
      have h1 := hgr.plan
      rw [HM.out, HPE.out, rows_rankL HOK.out] at h1
      rw [HM.out, HPE.out]
      exact h1)
    have HQ2 := hid ((fr0 hb2).blk HQ1.out (fun h => h))
    have HP2 := hid (HP1.out.later hb2)
    clear hb2 hpb hgr s0 s1 s2 s3 s4 s5 s6 s7 s8
    have hm24 : m ≤ 24 := by have h1 := HOK.out.len; have h2 := HOK.out.sys.len; have := HM.out; rw [HPE.out] at this; omega
    go_wp2_with fail
    go_loopw [23] (fun v wr => ∃ k : Nat, k ≤ m ∧ v = .int .i64 k ∧ Hid (∀ (i : Nat) x, i < k → T.ents[i]? = some x → entB T.sys (partsOf T.plan) i x = true) ∧ Hid (Below w2.heap.size w2 wr)) (fun v _ => m - (intOf v).toNat)
    case atStart => exact ⟨0, by omega, rfl, hid (fun i x h => by omega), hid (Below.refl _ _)⟩
    case round =>
      obtain ⟨k, hk, rfl, HA, HBR⟩ := hrel
      by_cases hlt : k < m
      case pos =>
        obtain ⟨x, hx⟩ : ∃ x, T.ents[k]? = some x := ⟨_, List.getElem?_eq_getElem (by have := HN.out; omega)⟩
        obtain ⟨t, ht⟩ : ∃ t, S.tasks[k]? = some t := ⟨_, List.getElem?_eq_getElem (by have h1 := HOK.out.len; have := HM.out; rw [HPE.out] at this; omega)⟩
        have hxp : T.plan[k]? = some x.ps := by unfold Tb.plan; rw [List.getElem?_map, hx]; rfl
        have hBW := below_then HBE.out HBR.out
        -- the plan's row, the ranked one's, the entry, the task
        obtain ⟨b3, o3, cs3, hA3, hbl3, _, hc3, u3, hr3, hru3⟩ := ((HP2.out.later HBR.out).rows).at hxp
        subst hA3
        subst hr3
        obtain ⟨Al, cl, hul, hlr⟩ := hru3.shape
        obtain ⟨n3, hn3⟩ : ∃ n3, x.ps.length = n3 := ⟨_, rfl⟩
        rw [hn3] at hul
        subst hul
        have hrk : (rankL S P)[k]? = some (rankRow S (partsOf P) k x.ps) := by unfold rankL; rw [List.getElem?_mapIdx, ← HPE.out, hxp]; rfl
        obtain ⟨b4, o4, cs4, hA4, hbl4, _, hc4, u4, hr4, hru4⟩ := (HGP.out.later (RowR.stays pcR.stays) HBR.out).at hrk
        injection hA4 with hA4
        injection hA4 with e4 e5
        subst e4
        subst e5
        subst hr4
        obtain ⟨Ar, cr, hur, _⟩ := hru4.shape
        rw [show (rankRow S (partsOf P) k x.ps).length = n3 by unfold rankRow; rw [List.length_map, hn3]] at hur
        subst hur
        obtain ⟨b5, o5, cs5, hA5, hbl5, _, hc5, u5, hr5, hru5⟩ := (HT.out.ents.later entR.stays hBW).at hx
        subst hA5
        subst hr5
        obtain ⟨b6, o6, cs6, hA6, hbl6, _, hc6, u6, hr6, hru6⟩ := (HT.out.sys.tasks.later tskR.stays hBW).at (by rw [HS.out]; exact ht)
        subst hA6
        subst hr6
        obtain ⟨xb, hxb⟩ : ∃ v, x.bound = v := ⟨_, rfl⟩
        obtain ⟨td, htd⟩ : ∃ v, t.dl = v := ⟨_, rfl⟩
        rw [hxb] at hc5
        rw [htd] at hc6
        obtain ⟨eb, heb⟩ : ∃ v, decide (x.ps = rankRow S (partsOf P) k x.ps) = v := ⟨_, rfl⟩
        have HX := hid hx
        have HTK := hid ht
        have HXB := hid hxb
        have HTD := hid htd
        have HEB := hid heb
        have HN3 := hid hn3
        have HRU3 := hid hru3
        have HRU4 := hid hru4
        have hn3m : n3 ≤ 9223372036854775807 := by unfold maxLen at hlr; omega
        have d0 : wr.cell? ⟨b3, o3 + k, none⟩ = some (.slice Al n3 cl) := by simpa using hc3 0 _ rfl
        have HC5 := hid (show wr.cell? ⟨b5, o5 + k * 2 + 1, none⟩ = some (.int .i64 xb) from hc5 1 _ rfl)
        have HC6 := hid (show wr.cell? ⟨b6, o6 + k * 4 + 1, none⟩ = some (.int .i64 td) from hc6 1 _ rfl)
        have HC4 := hid (show wr.cell? ⟨g, 0 + k, none⟩ = some (.slice Ar n3 cr) from by simpa using hc4 0 _ rfl)
        obtain ⟨C, hC⟩ : ∃ C : World → Prop, C = fun W => Below wr.heap.size wr W := ⟨_, rfl⟩
        have FE := hid (fun W (h : C W) => (show W.cell? ⟨b5, o5 + k * 2 + 1, none⟩ = some (.int .i64 xb) from by rw [hC] at h; exact (h.cell (p := ⟨b5, o5 + k * 2 + 1, none⟩) hbl5).trans HC5.out))
        have FT := hid (fun W (h : C W) => (show W.cell? ⟨b6, o6 + k * 4 + 1, none⟩ = some (.int .i64 td) from by rw [hC] at h; exact (h.cell (p := ⟨b6, o6 + k * 4 + 1, none⟩) hbl6).trans HC6.out))
        have FR := hid (fun W (h : C W) => (show W.cell? ⟨g, k, none⟩ = some (.slice Ar n3 cr) from by rw [hC] at h; have := (h.cell (p := ⟨g, 0 + k, none⟩) hbl4).trans HC4.out; rwa [Nat.zero_add] at this))
        have FS8 := hid (fun W (h : C W) => (show W.cell? ⟨B, 8, none⟩ = some (.slice (some ⟨b6, o6, none⟩) n0 c0) from by rw [hC] at h; exact blk_cell ((fr0 (below_then HBR.out h)).blk HQ2.out (fun h => h)) 8))
        have FS9 := hid (fun W (h : C W) => (show W.cell? ⟨B, 9, none⟩ = some (.slice (some ⟨b5, o5, none⟩) m c1) from by rw [hC] at h; exact blk_cell ((fr0 (below_then HBR.out h)).blk HQ2.out (fun h => h)) 9))
        have FQ := hid (fun W (h : C W) => ((eqpcs_any (w := W) x.ps (rankRow S (partsOf P) k x.ps) Al n3 cl Ar n3 cr (hru3.later pcR.stays (by rw [hC] at h; exact h)) (hru4.later pcR.stays (by rw [hC] at h; exact h))).mono (fun e w' q => (show e = .returned (.bool eb) ∧ C w' from ⟨by rw [q.1, heb], by rw [hC] at h ⊢; exact below_then h q.2⟩))))
        have HCC := hid hC
        have hkn0 : k < n0 := by have h1 := (List.getElem?_eq_some_iff.1 ht).1; have h2 := HN0.out; rw [HS.out] at h2; omega
        clear hx ht hxp hBW hbl3 hc3 hru3 hlr hn3 hrk hbl4 hc4 hru4 hbl5 hc5 hru5 hbl6 hc6 hru6 hxb htd heb hC
        go_upto_region 8 with fail
        clear d0
        cases x1 : ((n3 : Int) == 0)
        case true =>
          have x1' : n3 = 0 := by have := beq_iff_eq.1 x1; omega
          have HF := hid (tabB_ent HX.out (show entB T.sys (partsOf T.plan) k x = false from by
            rw [HS.out, HPE.out]
            unfold entB
            rw [show x.ps = [] from List.length_eq_zero_iff.1 (by rw [HN3.out]; omega)]
            rfl))
          clear x1'
          refine wp_region_class (C := C) (by kernel_rfl) (by kernel_rfl) (by rw [HCC.out]; exact (Below.refl _ _).drew) ?_
          repeat (refine wpQuiet_step (fun K hK => ?_); (first | (rw [if_neg (by exact Bool.false_ne_true)]; refine hK _ ?_) | (rw [if_pos (by rfl)]; refine Exists.intro ?_ (And.intro (fun W HW => ?_) (hK _ ?_)); rotate_left; (focus (first | (go_simp; exact FQ.out W HW) | (have q0 := FE.out W HW; have q1 := FT.out W HW; have q2 := FR.out W HW; have q3 := FS8.out W HW; have q4 := FS9.out W HW; (go_simp); all_goals (with_reducible rfl)))))); clear hK K; try simp only [Act.put, List.setIfInBounds_toArray, List.set_cons_zero, List.set_cons_succ])
          refine wpQuiet_nil ?_
          intro wd hCw
          have HV4 := hid (show Below w.heap.size w wd from by rw [HCC.out] at hCw; exact below_then (below_then HBE.out HBR.out) hCw)
          clear hCw
          go_wp2_with fail
          go_ret
          exact ⟨by rw [HF.out]; rfl, HV4.out⟩
        have x1' : 0 < n3 := by have := beq_eq_false_iff_ne.1 x1; omega
        obtain ⟨L3, hL3⟩ : ∃ v, n3 - 1 = v := ⟨_, rfl⟩
        have hw3 : IntKind.i64.wrap ((n3 : Int) - 1) = (L3 : Int) := by rw [IntKind.wrap_i64]; omega
        have hL3n : L3 < n3 := by omega
        obtain ⟨p3, hp3⟩ : ∃ p, x.ps[L3]? = some p := ⟨_, List.getElem?_eq_getElem (by rw [HN3.out]; exact hL3n)⟩
        obtain ⟨b7, o7, cs7, hA7, hbl7, _, hc7, hr7⟩ := HRU3.out.at hp3
        subst hA7
        have hr7' : cs7 = [.int .i64 p3.core, .int .i64 p3.bud, .int .i64 p3.dl, .int .i64 p3.prio, .bool p3.tight] := hr7
        subst hr7'
        obtain ⟨ti, hti⟩ : ∃ v, p3.tight = v := ⟨_, rfl⟩
        rw [hti] at hc7
        have HLA := hid (show (x.ps.getLast?.map Pc.tight).getD false = ti from by rw [List.getLast?_eq_getElem?, HN3.out, hL3, hp3, ← hti]; rfl)
        have FP := hid (fun W (h : C W) => (show W.cell? ⟨b7, o7 + L3 * 5 + 4, none⟩ = some (.bool ti) from by rw [HCC.out] at h; exact (h.cell (p := ⟨b7, o7 + L3 * 5 + 4, none⟩) hbl7).trans (hc7 4 _ rfl)))
        clear hL3 hp3 hbl7 hc7 hr7 hti
        cases x2 : ti
        case true =>
          have HF := hid (tabB_ent HX.out (show entB T.sys (partsOf T.plan) k x = false from by
            rw [HS.out, HPE.out]
            unfold entB
            rw [HLA.out, x2]
            simp))
          refine wp_region_class (C := C) (by kernel_rfl) (by kernel_rfl) (by rw [HCC.out]; exact (Below.refl _ _).drew) ?_
          repeat (refine wpQuiet_step (fun K hK => ?_); (first | (rw [if_neg (by exact Bool.false_ne_true)]; refine hK _ ?_) | (rw [if_pos (by rfl)]; refine Exists.intro ?_ (And.intro (fun W HW => ?_) (hK _ ?_)); rotate_left; (focus (first | (go_simp; exact FQ.out W HW) | (have q0 := FE.out W HW; have q1 := FT.out W HW; have q2 := FR.out W HW; have q3 := FS8.out W HW; have q4 := FS9.out W HW; have q5 := FP.out W HW; (go_simp); all_goals (with_reducible rfl)))))); clear hK K; try simp only [Act.put, List.setIfInBounds_toArray, List.set_cons_zero, List.set_cons_succ])
          refine wpQuiet_nil ?_
          intro wd hCw
          have HV4 := hid (show Below w.heap.size w wd from by rw [HCC.out] at hCw; exact below_then (below_then HBE.out HBR.out) hCw)
          clear hCw
          go_wp2_with fail
          go_ret
          exact ⟨by rw [HF.out]; rfl, HV4.out⟩
        cases x3 : eb
        case false =>
          have HF := hid (tabB_ent HX.out (show entB T.sys (partsOf T.plan) k x = false from by
            rw [HS.out, HPE.out]
            unfold entB
            rw [HEB.out, x3, Bool.false_and, Bool.and_false, Bool.and_false]))
          refine wp_region_class (C := C) (by kernel_rfl) (by kernel_rfl) (by rw [HCC.out]; exact (Below.refl _ _).drew) ?_
          repeat (refine wpQuiet_step (fun K hK => ?_); (first | (rw [if_neg (by exact Bool.false_ne_true)]; refine hK _ ?_) | (rw [if_pos (by rfl)]; refine Exists.intro ?_ (And.intro (fun W HW => ?_) (hK _ ?_)); rotate_left; (focus (first | (go_simp; exact FQ.out W HW) | (have q0 := FE.out W HW; have q1 := FT.out W HW; have q2 := FR.out W HW; have q3 := FS8.out W HW; have q4 := FS9.out W HW; have q5 := FP.out W HW; (go_simp); all_goals (with_reducible rfl)))))); clear hK K; try simp only [Act.put, List.setIfInBounds_toArray, List.set_cons_zero, List.set_cons_succ])
          refine wpQuiet_nil ?_
          intro wd hCw
          have HV4 := hid (show Below w.heap.size w wd from by rw [HCC.out] at hCw; exact below_then (below_then HBE.out HBR.out) hCw)
          clear hCw
          go_wp2_with fail
          go_ret
          exact ⟨by rw [HF.out]; rfl, HV4.out⟩
        cases x4 : decide (xb < 1)
        case true =>
          have x4' := of_decide_eq_true x4
          have HF := hid (tabB_ent HX.out (show entB T.sys (partsOf T.plan) k x = false from by
            rw [HS.out, HPE.out]
            unfold entB
            rw [HXB.out, show decide (1 ≤ xb) = false from decide_eq_false (by omega), Bool.false_and, Bool.and_false, Bool.and_false, Bool.and_false]))
          refine wp_region_class (C := C) (by kernel_rfl) (by kernel_rfl) (by rw [HCC.out]; exact (Below.refl _ _).drew) ?_
          repeat (refine wpQuiet_step (fun K hK => ?_); (first | (rw [if_neg (by exact Bool.false_ne_true)]; refine hK _ ?_) | (rw [if_pos (by rfl)]; refine Exists.intro ?_ (And.intro (fun W HW => ?_) (hK _ ?_)); rotate_left; (focus (first | (go_simp; exact FQ.out W HW) | (have q0 := FE.out W HW; have q1 := FT.out W HW; have q2 := FR.out W HW; have q3 := FS8.out W HW; have q4 := FS9.out W HW; have q5 := FP.out W HW; (go_simp); all_goals (with_reducible rfl)))))); clear hK K; try simp only [Act.put, List.setIfInBounds_toArray, List.set_cons_zero, List.set_cons_succ])
          refine wpQuiet_nil ?_
          intro wd hCw
          have HV4 := hid (show Below w.heap.size w wd from by rw [HCC.out] at hCw; exact below_then (below_then HBE.out HBR.out) hCw)
          clear hCw
          go_wp2_with fail
          go_ret
          exact ⟨by rw [HF.out]; rfl, HV4.out⟩
        have x4' := of_decide_eq_false x4
        cases x5 : decide (td < xb)
        case true =>
          have x5' := of_decide_eq_true x5
          have HF := hid (tabB_ent HX.out (show entB T.sys (partsOf T.plan) k x = false from by
            rw [HS.out, HPE.out]
            unfold entB
            rw [HXB.out, HTK.out]
            show (_ && (_ && (_ && (_ && decide (xb ≤ t.dl))))) = false
            rw [HTD.out, show decide (xb ≤ td) = false from decide_eq_false (by omega), Bool.and_false, Bool.and_false, Bool.and_false, Bool.and_false]))
          refine wp_region_class (C := C) (by kernel_rfl) (by kernel_rfl) (by rw [HCC.out]; exact (Below.refl _ _).drew) ?_
          repeat (refine wpQuiet_step (fun K hK => ?_); (first | (rw [if_neg (by exact Bool.false_ne_true)]; refine hK _ ?_) | (rw [if_pos (by rfl)]; refine Exists.intro ?_ (And.intro (fun W HW => ?_) (hK _ ?_)); rotate_left; (focus (first | (go_simp; exact FQ.out W HW) | (have q0 := FE.out W HW; have q1 := FT.out W HW; have q2 := FR.out W HW; have q3 := FS8.out W HW; have q4 := FS9.out W HW; have q5 := FP.out W HW; (go_simp); all_goals (with_reducible rfl)))))); clear hK K; try simp only [Act.put, List.setIfInBounds_toArray, List.set_cons_zero, List.set_cons_succ])
          refine wpQuiet_nil ?_
          intro wd hCw
          have HV4 := hid (show Below w.heap.size w wd from by rw [HCC.out] at hCw; exact below_then (below_then HBE.out HBR.out) hCw)
          clear hCw
          go_wp2_with fail
          go_ret
          exact ⟨by rw [HF.out]; rfl, HV4.out⟩
        have x5' := of_decide_eq_false x5
        have HE := hid (show entB T.sys (partsOf T.plan) k x = true from by
          rw [HS.out, HPE.out]
          unfold entB
          rw [HLA.out, x2, HEB.out, x3, HXB.out, HTK.out]
          show (!x.ps.isEmpty && (!false && (true && (decide (1 ≤ xb) && decide (xb ≤ t.dl))))) = true
          rw [HTD.out, decide_eq_true (show 1 ≤ xb by omega), decide_eq_true (show xb ≤ td by omega), show x.ps.isEmpty = false from by
            have := HN3.out
            cases hps : x.ps with
            | nil => rw [hps] at this; simp at this; omega
            | cons a l => rfl]
          rfl)
        have HA2 := hid (show ∀ (i : Nat) y, i < k + 1 → T.ents[i]? = some y → entB T.sys (partsOf T.plan) i y = true from fun i y hi hy => by
          by_cases e : i = k
          · subst e
            rw [HX.out] at hy
            injection hy with hy
            rw [← hy]
            exact HE.out
          · exact HA.out i y (by omega) hy)
        refine wp_region_class (C := C) (by kernel_rfl) (by kernel_rfl) (by rw [HCC.out]; exact (Below.refl _ _).drew) ?_
        repeat (refine wpQuiet_step (fun K hK => ?_); (first | (rw [if_neg (by exact Bool.false_ne_true)]; refine hK _ ?_) | (rw [if_pos (by rfl)]; refine Exists.intro ?_ (And.intro (fun W HW => ?_) (hK _ ?_)); rotate_left; (focus (first | (go_simp; exact FQ.out W HW) | (have q0 := FE.out W HW; have q1 := FT.out W HW; have q2 := FR.out W HW; have q3 := FS8.out W HW; have q4 := FS9.out W HW; have q5 := FP.out W HW; (go_simp); all_goals (with_reducible rfl)))))); clear hK K; try simp only [Act.put, List.setIfInBounds_toArray, List.set_cons_zero, List.set_cons_succ])
        refine wpQuiet_nil ?_
        intro wd hCw
        have HV4 := hid (show Below w2.heap.size w2 wd from by rw [HCC.out] at hCw; exact below_then HBR.out hCw)
        clear hCw
        go_wp2_with fail
        go_roundw
        case rel => exact ⟨k + 1, by omega, by go_num, HA2, HV4⟩
        case measure => simp [intOf]; omega
      case neg =>
        obtain rfl : k = m := by omega
        have q3 := (fr0 HBR.out).blk HQ2.out (fun h => h)
        have HBR1 := hid (below_then HB2.out HBR.out)
        have s0 : wr.cell? ⟨B, 0, none⟩ = some (.int .i64 S.cores) := blk_cell q3 0
        have s1 : wr.cell? ⟨B, 1, none⟩ = some (.int .i64 S.policy) := blk_cell q3 1
        have s2 : wr.cell? ⟨B, 2, none⟩ = some (.int .i64 S.prot) := blk_cell q3 2
        have s3 : wr.cell? ⟨B, 3, none⟩ = some (.int .i64 S.rel) := blk_cell q3 3
        have s4 : wr.cell? ⟨B, 4, none⟩ = some (.int .i64 S.sw) := blk_cell q3 4
        have s5 : wr.cell? ⟨B, 5, none⟩ = some (.int .i64 S.fin) := blk_cell q3 5
        have s6 : wr.cell? ⟨B, 6, none⟩ = some (.int .i64 S.lat) := blk_cell q3 6
        have s7 : wr.cell? ⟨B, 7, none⟩ = some (.int .i64 S.resn) := blk_cell q3 7
        have s8 : wr.cell? ⟨B, 8, none⟩ = some (.slice A0 n0 c0) := blk_cell q3 8
        have HQ3 := hid q3
        clear q3
        go_wp2_with fail
        refine (HCA.out _ HBR1.out).mono ?_
        intro e w3 hor
        rcases hor with ⟨hpb, rfl, hb3⟩ | ⟨hpb, uc, X, rfl, hct, hb3⟩
        · exact absurd hpb (by rw [HPB.out]; simp)
        · have hrn8 : S.resn.toNat ≤ 8 := by have := HOK.out.sys.resn; omega
          have HCP := hid (show Rowp 1 (RowR 1 IntR) w3 uc (ceilL S P) from by
            have h1 := hct.plan (by unfold maxLen; omega)
            exact h1)
          obtain ⟨Ac, dc, huc⟩ := own_slice hct.out
          subst huc
          have HB3 := hid (below_then (below_then HBE.out HBR.out) hb3)
          have s10 : w3.cell? ⟨B, 10, none⟩ = some (.slice A2 n2 c2) := blk_cell ((fr0 hb3).blk HQ3.out (fun h => h)) 10
          have HEQ := hid (eqrows_any (w := w3) (ceilL S P) T.ceil Ac S.cores.toNat dc A2 n2 c2 HCP.out (HT.out.ceil.later (RowR.stays IntR.stays) HB3.out))
          have HF := hid (show tabB T = decide (ceilL S P = T.ceil) from by
            rw [tabB_all (by rw [HS.out, HPE.out]; exact HPB.out) (fun i x hi hx => HA.out i x (by rw [HN.out]; exact hi) hx), HS.out, HPE.out])
          clear hpb hct hb3 s0 s1 s2 s3 s4 s5 s6 s7 s8
          go_wp2_with fail
          refine HEQ.out.mono ?_
          rintro e w4 ⟨rfl, hb4⟩
          have HB4 := hid (below_then HB3.out hb4)
          clear hb4 s10
          go_wp2_with fail
          go_ret
          exact ⟨by rw [HF.out]; rfl, HB4.out⟩
end
end Go.Proofs.Ytmhochjpdedlgaa
