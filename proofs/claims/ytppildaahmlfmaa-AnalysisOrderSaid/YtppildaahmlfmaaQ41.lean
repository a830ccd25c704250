/- Joined: Ana2. -/
import Derived.Test.YtppildaahmlfmaaQ40
set_option linter.unusedVariables false
set_option linter.unusedSimpArgs false
/- analysis: how long lower ones may go ahead of a piece (contract). -/
set_option linter.unusedVariables false
set_option linter.unusedSimpArgs false
namespace Go.Proofs.Ytppildaahmlfmaa
open Go.RowKit

theorem where_one {l : List Pc} {c : Int} (h : whereOf l = c) (hc : 0 ≤ c) : ∃ p, l = [p] ∧ p.tight = false ∧ p.core = c := by
  match l, h with
  | [], h => have : (-1 : Int) = c := h; omega
  | [p], h =>
    have h2 : (if p.tight = true then -1 else p.core) = c := h
    by_cases ht : p.tight = true
    · rw [if_pos ht] at h2; omega
    · rw [if_neg ht] at h2; exact ⟨p, rfl, by simpa using ht, h2⟩
  | p :: q :: l, h => have : (-1 : Int) = c := h; omega
theorem rank_one {S : Sy} {P : Pl} {i : Nat} {p : Pc} (h : P[i]? = some [p]) : (rankL S P)[i]? = some [rankOne S (partsOf P) i p] ∧ prioOf S P i = (rankOne S (partsOf P) i p).prio := by
  have h1 : (rankL S P)[i]? = some [rankOne S (partsOf P) i p] := by unfold rankL; rw [List.getElem?_mapIdx, h]; rfl
  refine ⟨h1, ?_⟩
  unfold prioOf
  rw [h1]
  rfl
attribute [local irreducible] wpQuiet
section
variable {w : World}
set_option maxRecDepth 100000 in
set_option maxHeartbeats 12800000 in
theorem block_any (R : Nat) (S : Sy) (P : Pl) (A0 : Option Addr) (n c0 : Nat) (Aq : Option Addr) (cq : Nat) (Aw : Option Addr) (cw : Nat) (Ac : Option Addr) (nc cc : Nat) (h : RkAt w R S P A0 n c0 Aq cq Aw cw Ac nc cc) (hr : rightS S = true) (hww : ∀ x ∈ whereL P, I64 x) (x : Pt) (c : Nat) (hxc : x.p.core = c) (hc8 : (c : Int) < S.cores) :
    Calls Try.prog 46 #[.pointer (some ⟨R, 0, none⟩), ptV x] w fun e w' => e = .returned (.int .i64 (blockV S P c x.p.prio)) ∧ Below w.heap.size w w' := by
  have hRS := rightS_ok hr
  have hn := h.sys.tasks.len
  have hn24 : n ≤ 24 := by have := hRS.len; omega
  have hnw := h.wh.len
  rw [whereL_len] at hnw
  have hfin := hRS.fin
  have hsw := hRS.sw
  have hcb : c < 8 := by have := hRS.cores; omega
  have HRS := hid hRS
  have HH := hid h
  have HRR := hid hr
  have HN := hid hn
  have HNW := hid hnw
  have HMB := hid (fun i => blkMost_bound hRS P c x.p.prio i)
  have HEB := hid (fun i => blkEnds_bound S P c x.p.prio i)
  have HUS := hid (fun V (k : Below w.heap.size w V) i t ht => uses_any (w := V) S A0 n c0 (h.sys.later k) hr i t ht)
  have HHO := hid (fun V (k : Below w.heap.size w V) i j t x ht hx => hold_any (w := V) S A0 n c0 (h.sys.later k) hr (whereL P) Aw cw (h.wh.later IntR.stays k) hww i j t x ht hx)
  have HV := hid (show blockV S P c x.p.prio = blkMost S P c x.p.prio n + blkEnds S P c x.p.prio n * S.fin + 2 * S.sw by rw [hnw]; rfl)
  obtain ⟨V, hVV⟩ : ∃ V, blockV S P c x.p.prio = V := ⟨_, rfl⟩
  rw [hVV] at HV ⊢
  have hq0 := blk_new w (.cells (encPt x).toArray 67)
  have hb0 := below_new (Below.refl w.heap.size w) (.cells (encPt x).toArray 67)
  have HFX0 := hid (fun V (k : Below (w.alloc (.cells (encPt x).toArray 67)).heap.size (w.alloc (.cells (encPt x).toArray 67)) V) => part_cells ((fr0 k).blk hq0 (fun h => h)))
  have HB0 := hid hb0
  obtain ⟨⟨pc, pb, pd, pp, ti⟩, tk, kk⟩ := x
  simp only at hxc HV HFX0 HMB HEB
  subst hxc
  have HC8 := hid hc8
  have HHO2 := hid (fun c (hc : c < 8) => hc)
  clear h hr hww hRS hn hnw hVV hq0 hb0 hc8
  unfold ptV
  unfold encPt at HB0 HFX0
  unfold sysV at HUS HHO
  simp only at HFX0 HB0 ⊢
  go_enter Try.func46, Try.ntmps46
  go_upto_region 2 with fail
  obtain ⟨w0, hw0⟩ : ∃ w0, w.alloc (.cells #[.int .i64 (c : Int), .int .i64 pb, .int .i64 pd, .int .i64 pp, .bool ti, .int .i64 tk, .int .i64 kk] 67) = w0 := ⟨_, rfl⟩
  rw [hw0] at HB0 HFX0 ⊢
  obtain ⟨D, hD⟩ : ∃ D, w.heap.size = D := ⟨_, rfl⟩
  have HBB := hid (fun V (k : Below w0.heap.size w0 V) => below_then HB0.out k)
  have HFR0 := hid (fun X (k : Below w0.heap.size w0 X) => (HH.out.later (HBB.out X k)).cells)
  have HBD := hid (show ∀ V, Below w0.heap.size w0 V → Below w.heap.size w V from HBB.out)
  rw [hD] at HFX0 ⊢
  have r10 := (HFR0.out w0 (Below.refl _ _)).2.2.2.2.2.2.2.2.2.2.1
  clear hw0 hD HB0
  go_wp2_with fail
  clear r10
  go_loopw [16, 5, 6] (fun v s5 s6 wr => ∃ i : Nat, i ≤ n ∧ v = .int .i64 i ∧ s5 = .int .i64 (blkMost S P c pp i) ∧ s6 = .int .i64 (blkEnds S P c pp i) ∧ Hid (Below w0.heap.size w0 wr)) (fun v _ _ _ => n - (intOf v).toNat)
  case atStart => exact ⟨0, by omega, rfl, rfl, rfl, hid (Below.refl _ _)⟩
  case round =>
    obtain ⟨i, hi, rfl, rfl, rfl, HB⟩ := hrel
    have hmb := HMB.out i
    have heb := HEB.out i
    by_cases hlt : i < n
    case neg =>
      obtain rfl : i = n := by omega
      have hef := ends_fin heb hn24 hfin
      obtain ⟨mo, hmo⟩ : ∃ y, blkMost S P c pp i = y := ⟨_, rfl⟩
      obtain ⟨en, hen⟩ : ∃ y, blkEnds S P c pp i = y := ⟨_, rfl⟩
      rw [hmo] at hmb HV ⊢
      rw [hen] at heb hef HV ⊢
      have g1 : IntKind.i64.wrap (en * S.fin) = en * S.fin := wraps_i64 _ (by omega) (by omega)
      have g2 : IntKind.i64.wrap (mo + en * S.fin) = mo + en * S.fin := wraps_i64 _ (by omega) (by omega)
      have g3 : IntKind.i64.wrap (2 * S.sw) = 2 * S.sw := wraps_i64 _ (by omega) (by omega)
      have g4 : IntKind.i64.wrap (mo + en * S.fin + 2 * S.sw) = mo + en * S.fin + 2 * S.sw := wraps_i64 _ (by omega) (by omega)
      obtain ⟨C, hC⟩ : ∃ C : World → Prop, C = fun X => Below w0.heap.size w0 X := ⟨_, rfl⟩
      have hC0 : C wr.drew := by rw [hC]; exact HB.out.drew
      have HFR := hid (fun X (k : C X) => HFR0.out X (by rw [hC] at k; exact k))
      have HCE := hid hC
      clear hC hmo hen
      go_upto_region 15 with fail
      refine wp_region_class (C := C) (by kernel_rfl) (by kernel_rfl) hC0 ?_
      repeat (refine wpQuiet_step (fun K hK => ?_); rw [if_pos (by rfl)]; refine Exists.intro ?_ (And.intro (fun X HX => ?_) (hK _ ?_)); rotate_left; (focus (first | (obtain ⟨r00, r01, r02, r03, r04, r05, r06, r07, r08, r09, r10, r11⟩ := HFR.out X HX; (go_simp); all_goals (with_reducible rfl)))); clear hK K; try simp only [Act.put, List.setIfInBounds_toArray, List.set_cons_zero, List.set_cons_succ])
      refine wpQuiet_nil ?_
      intro wd hwd
      rw [HCE.out] at hwd
      have HBE := hid (HBB.out wd hwd)
      clear hwd
      go_wp2_with fail
      go_ret
      exact ⟨by rw [HV.out]; rfl, HBE.out⟩
    case pos =>
      obtain ⟨t, ht⟩ : ∃ t, S.tasks[i]? = some t := ⟨_, List.getElem?_eq_getElem (by have := HN.out; omega)⟩
      obtain ⟨pl, hpl⟩ : ∃ l, P[i]? = some l := ⟨_, List.getElem?_eq_getElem (by have := HNW.out; omega)⟩
      have hwl : (whereL P)[i]? = some (whereOf pl) := by unfold whereL; rw [List.getElem?_map, hpl]; rfl
      have HWA := hid (show whereAt P i = whereOf pl by unfold whereAt; rw [show (P.map whereOf)[i]? = some (whereOf pl) from hwl]; rfl)
      have HSO := hid (show secsOf S i = t.secs by unfold secsOf; rw [ht]; rfl)
      have HTO := hid (HRS.out.tasks t (List.mem_of_getElem? ht))
      obtain ⟨bw, ow, csw, hAw, hblw, _, hcw, hrw⟩ := HH.out.wh.at hwl
      subst hAw
      have hrw' : csw = [.int .i64 (whereOf pl)] := hrw
      subst hrw'
      have e0 : wr.cell? ⟨bw, ow + i, none⟩ = some (.int .i64 (whereOf pl)) := ((HBB.out wr HB.out).cell (p := ⟨bw, ow + i, none⟩) hblw).trans (by simpa using hcw 0 _ rfl)
      obtain ⟨b1, o1, cs1, hA1, hbl1, _, hcs1, us1, hu1, hu2⟩ := HH.out.sys.tasks.at ht
      subst hA1
      subst hu1
      obtain ⟨A1, c1, hu3, _⟩ := hu2.shape
      obtain ⟨m1, hm1⟩ : ∃ m, m = t.secs.length := ⟨_, rfl⟩
      rw [← hm1] at hu3
      subst hu3
      have hm4 : m1 ≤ 4 := by rw [hm1]; exact HTO.out.n
      have HC3 := hid (fun V (h : Below w0.heap.size w0 V) => show V.cell? ⟨b1, o1 + i * 4 + 3, none⟩ = some (.slice A1 m1 c1) from ((HBB.out V h).cell (p := ⟨b1, o1 + i * 4 + 3, none⟩) hbl1).trans (hcs1 3 _ rfl))
      have HU2 := hid (fun V (h : Below w0.heap.size w0 V) => hu2.later secR.stays (HBB.out V h))
      have HM1 := hid hm1
      have HTT := hid ht
      have HPL := hid hpl
      obtain ⟨wv, hwv⟩ : ∃ y, whereOf pl = y := ⟨_, rfl⟩
      rw [hwv] at HWA e0
      have HWV := hid hwv
      clear ht hpl hwl hblw hcw hrw hu2 hcs1 hbl1 hm1 hwv
      have HMS := hid (show blkMost S P c pp (i + 1) = if skipB S P c pp i = true then blkMost S P c pp i else secMost S P c pp i (blkMost S P c pp i) (secsOf S i) from rfl)
      have HES := hid (show blkEnds S P c pp (i + 1) = if skipB S P c pp i = true then blkEnds S P c pp i else blkEnds S P c pp i + (if endB S P pp i = true then 1 else 0) from rfl)
      have HSK := hid (show skipB S P c pp i = decide (wv ≠ c ∨ prioOf S P i < pp) by unfold skipB; rw [HWA.out])
      have HMO0 := hid hmb
      obtain ⟨mo, hmo⟩ : ∃ y, blkMost S P c pp i = y := ⟨_, rfl⟩
      obtain ⟨en, hen⟩ : ∃ y, blkEnds S P c pp i = y := ⟨_, rfl⟩
      rw [hmo] at hmb HMS HMO0 ⊢
      rw [hen] at heb HES ⊢
      clear hmo hen
      obtain ⟨C, hC⟩ : ∃ C : World → Prop, C = fun X => Below w0.heap.size w0 X := ⟨_, rfl⟩
      have hC0 : C wr.drew := by rw [hC]; exact HB.out.drew
      have HCI := hid (fun X (k : C X) => show Below w0.heap.size w0 X by rw [hC] at k; exact k)
      have HCJ := hid (fun X (k : Below w0.heap.size w0 X) => show C X by rw [hC]; exact k)
      have HFR := hid (fun X (k : C X) => HFR0.out X (HCI.out X k))
      have HFX := hid (fun X (k : C X) => HFX0.out X (HCI.out X k))
      have HCD := hid (fun X (k : C X) => show C X.drew by rw [hC] at k ⊢; exact k.drew)
      clear hC
      by_cases hwc : wv = c
      case neg =>
        have HM2 := hid (show blkMost S P c pp (i + 1) = mo by rw [HMS.out, HSK.out, if_pos (decide_eq_true (.inl hwc))])
        have HE2 := hid (show blkEnds S P c pp (i + 1) = en by rw [HES.out, HSK.out, if_pos (decide_eq_true (.inl hwc))])
        have hb1 : (wv != (c : Int)) = true := bne_iff_ne.2 hwc
        clear hwc
        go_upto_region 5 with fail
        clear e0
        refine wp_region_class (C := C) (by kernel_rfl) (by kernel_rfl) hC0 ?_
        repeat (refine wpQuiet_step (fun K hK => ?_); ((first | (rw [if_neg (by exact Bool.false_ne_true)]; refine hK _ ?_) | (rw [if_pos (by rfl)]; refine Exists.intro ?_ (And.intro (fun X HX => ?_) (hK _ ?_)); rotate_left; (focus (first | (have x0 := (HFX.out X HX).1; (go_simp); all_goals (with_reducible rfl))))))); clear hK K; try simp only [Act.put, List.setIfInBounds_toArray, List.set_cons_zero, List.set_cons_succ])
        refine wpQuiet_nil ?_
        intro wd hwd
        have HBD2 := hid (HCI.out wd hwd)
        clear hwd
        go_wp2_with fail
        go_roundw
        case rel => exact ⟨i + 1, by omega, by go_num, by rw [HM2.out], by rw [HE2.out], HBD2⟩
        case measure => simp [intOf]; omega
      case pos =>
        subst hwc
        obtain ⟨p, hp1, hp2, hp3⟩ := where_one HWV.out (by omega)
        have HPO := hid (show P[i]? = some [p] by rw [HPL.out, hp1])
        obtain ⟨hrk, hpr⟩ := rank_one (S := S) HPO.out
        obtain ⟨b5, o5, cs5, hA5, hbl5, _, hcs5, u5, hu5, hu6⟩ := HH.out.plan.rows.at hrk
        subst hA5
        subst hu5
        obtain ⟨A6, c6, hu7, _⟩ := hu6.shape
        have hu7' : u5 = .slice A6 1 c6 := hu7
        subst hu7'
        obtain ⟨b6, o6, cs6, hA6, hbl6, _, hcs6, hr6⟩ := hu6.at (i := 0) (x := rankOne S (partsOf P) i p) rfl
        subst hA6
        obtain ⟨pr, hprq⟩ : ∃ y, prioOf S P i = y := ⟨_, rfl⟩
        rw [hprq] at hpr HSK
        have hcs6' : cs6[3]? = some (.int .i64 pr) := by
          have h6 : cs6 = [.int .i64 (rankOne S (partsOf P) i p).core, .int .i64 (rankOne S (partsOf P) i p).bud, .int .i64 (rankOne S (partsOf P) i p).dl, .int .i64 (rankOne S (partsOf P) i p).prio, .bool (rankOne S (partsOf P) i p).tight] := hr6
          rw [h6, hpr]
          rfl
        have HRW := hid (fun V (k : C V) => show V.cell? ⟨b5, o5 + i, none⟩ = some (.slice (some ⟨b6, o6, none⟩) 1 c6) ∧ V.cell? ⟨b6, o6 + 3, none⟩ = some (.int .i64 pr) from
          ⟨((HBB.out V (HCI.out V k)).cell (p := ⟨b5, o5 + i, none⟩) hbl5).trans (by simpa using hcs5 0 _ rfl), ((HBB.out V (HCI.out V k)).cell (p := ⟨b6, o6 + 3, none⟩) hbl6).trans (by simpa using hcs6 3 _ hcs6')⟩)
        have HPR := hid hprq
        have hb1 : ((c : Int) != (c : Int)) = false := by simp
        clear hp1 hp2 hp3 hrk hpr hbl5 hcs5 hu6 hu7 hbl6 hcs6 hr6 hcs6' hprq
        go_upto_region 5 with fail
        clear e0
        by_cases hpp : pr < pp
        case pos =>
          have HM2 := hid (show blkMost S P c pp (i + 1) = mo by rw [HMS.out, HSK.out, if_pos (decide_eq_true (.inr hpp))])
          have HE2 := hid (show blkEnds S P c pp (i + 1) = en by rw [HES.out, HSK.out, if_pos (decide_eq_true (.inr hpp))])
          have hd1 : decide (pr < pp) = true := decide_eq_true hpp
          refine wp_region_class (C := C) (by kernel_rfl) (by kernel_rfl) hC0 ?_
          repeat (refine wpQuiet_step (fun K hK => ?_); ((first | (rw [if_neg (by exact Bool.false_ne_true)]; refine hK _ ?_) | (rw [if_pos (by rfl)]; refine Exists.intro ?_ (And.intro (fun X HX => ?_) (hK _ ?_)); rotate_left; (focus (first | (have x0 := (HFX.out X HX).1; have r09 := (HFR.out X HX).2.2.2.2.2.2.2.2.2.1; have x3 := (HFX.out X HX).2.2.2.1; obtain ⟨y0, y1⟩ := HRW.out X HX; (go_simp); all_goals (with_reducible rfl))))))); clear hK K; try simp only [Act.put, List.setIfInBounds_toArray, List.set_cons_zero, List.set_cons_succ])
          refine wpQuiet_nil ?_
          intro wd hwd
          have HBD2 := hid (HCI.out wd hwd)
          clear hwd
          go_wp2_with fail
          go_roundw
          case rel => exact ⟨i + 1, by omega, by go_num, by rw [HM2.out], by rw [HE2.out], HBD2⟩
          case measure => simp [intOf]; omega
        case neg =>
          have HM2 := hid (show blkMost S P c pp (i + 1) = secMost S P c pp i mo t.secs by rw [HMS.out, HSK.out, if_neg (by simp; omega), HSO.out])
          have HE2 := hid (show blkEnds S P c pp (i + 1) = en + (if endB S P pp i = true then 1 else 0) by rw [HES.out, HSK.out, if_neg (by simp; omega)])
          have HEN := hid (show endB S P pp i = (decide (S.prot = 2 ∧ pp < pr) && !t.secs.isEmpty) by unfold endB; rw [HPR.out, HSO.out])
          have hd1 : decide (pr < pp) = false := decide_eq_false hpp
          refine wp_region_class (C := C) (by kernel_rfl) (by kernel_rfl) hC0 ?_
          repeat (refine wpQuiet_step (fun K hK => ?_); ((first | (rw [if_neg (by exact Bool.false_ne_true)]; refine hK _ ?_) | (rw [if_pos (by rfl)]; refine Exists.intro ?_ (And.intro (fun X HX => ?_) (hK _ ?_)); rotate_left; (focus (first | (have x0 := (HFX.out X HX).1; have r09 := (HFR.out X HX).2.2.2.2.2.2.2.2.2.1; have x3 := (HFX.out X HX).2.2.2.1; obtain ⟨y0, y1⟩ := HRW.out X HX; (go_simp); all_goals (with_reducible rfl))))))); clear hK K; try simp only [Act.put, List.setIfInBounds_toArray, List.set_cons_zero, List.set_cons_succ])
          refine wpQuiet_nil ?_
          intro wd hwd
          have HBD2 := hid (HCI.out wd hwd)
          have hC0 := HCD.out wd hwd
          clear hwd
          obtain ⟨gb, hgb⟩ : ∃ y, endB S P pp i = y := ⟨_, rfl⟩
          rw [hgb] at HE2 HEN
          clear hgb
          go_upto_region 6 with fail
          go_cut [71] (fun v wx => v = .bool gb ∧ Hid (C wx))
          case first =>
            by_cases hp2 : S.prot = 2
            case neg =>
              have hpb : (S.prot == 2) = false := beq_eq_false_iff_ne.2 hp2
              have HG := hid (show gb = false by rw [HEN.out, decide_eq_false (fun h => hp2 h.1)]; rfl)
              clear hp2
              refine wp_region_class (C := C) (by kernel_rfl) (by kernel_rfl) hC0 ?_
              repeat (refine wpQuiet_step (fun K hK => ?_); ((first | (rw [if_neg (by exact Bool.false_ne_true)]; refine hK _ ?_) | (rw [if_pos (by rfl)]; refine Exists.intro ?_ (And.intro (fun X HX => ?_) (hK _ ?_)); rotate_left; (focus (first | (have r02 := (HFR.out X HX).2.2.1; (go_simp); all_goals (with_reducible rfl))))))); clear hK K; try simp only [Act.put, List.setIfInBounds_toArray, List.set_cons_zero, List.set_cons_succ])
              refine wpQuiet_nil ?_
              intro we hwd
              have HBD3 := hid hwd
              clear hwd
              go_wp2_with fail
              go_meet
              exact ⟨by rw [HG.out], HBD3⟩
            case pos =>
              have hpb : (S.prot == 2) = true := beq_iff_eq.2 hp2
              by_cases hpg : pp < pr
              case neg =>
                have hgd : decide (pp < pr) = false := decide_eq_false hpg
                have HG := hid (show gb = false by rw [HEN.out, decide_eq_false (fun h => hpg h.2)]; rfl)
                clear hp2 hpg
                refine wp_region_class (C := C) (by kernel_rfl) (by kernel_rfl) hC0 ?_
                repeat (refine wpQuiet_step (fun K hK => ?_); ((first | (rw [if_neg (by exact Bool.false_ne_true)]; refine hK _ ?_) | (rw [if_pos (by rfl)]; refine Exists.intro ?_ (And.intro (fun X HX => ?_) (hK _ ?_)); rotate_left; (focus (first | (have r02 := (HFR.out X HX).2.2.1; have r09 := (HFR.out X HX).2.2.2.2.2.2.2.2.2.1; have x3 := (HFX.out X HX).2.2.2.1; obtain ⟨y0, y1⟩ := HRW.out X HX; (go_simp); all_goals (with_reducible rfl))))))); clear hK K; try simp only [Act.put, List.setIfInBounds_toArray, List.set_cons_zero, List.set_cons_succ])
                refine wpQuiet_nil ?_
                intro we hwd
                have HBD3 := hid hwd
                clear hwd
                go_wp2_with fail
                go_meet
                exact ⟨by rw [HG.out], HBD3⟩
              case pos =>
                have hgd : decide (pp < pr) = true := decide_eq_true hpg
                have HG := hid (show gb = !t.secs.isEmpty by rw [HEN.out, decide_eq_true ⟨hp2, hpg⟩]; rfl)
                have HCU := hid (fun X (k : C X) => (HUS.out X (HBB.out X (HCI.out X k)) i t HTT.out).mono (fun e w' ⟨h1, h2⟩ => show e = Ending.returned (.bool (!t.secs.isEmpty)) ∧ C w' from ⟨h1, HCJ.out w' (below_then (HCI.out X k) h2)⟩))
                rw [← HG.out] at HCU
                clear hp2 hpg
                refine wp_region_class (C := C) (by kernel_rfl) (by kernel_rfl) hC0 ?_
                repeat (refine wpQuiet_step (fun K hK => ?_); ((first | (rw [if_neg (by exact Bool.false_ne_true)]; refine hK _ ?_) | (rw [if_pos (by rfl)]; refine Exists.intro ?_ (And.intro (fun X HX => ?_) (hK _ ?_)); rotate_left; (focus (first | (obtain ⟨r00, r01, r02, r03, r04, r05, r06, r07, r08, r09, r10, r11⟩ := HFR.out X HX; have x3 := (HFX.out X HX).2.2.2.1; obtain ⟨y0, y1⟩ := HRW.out X HX; (go_simp); all_goals (with_reducible rfl)) | (go_simp; exact HCU.out X HX)))))); clear hK K; try simp only [Act.put, List.setIfInBounds_toArray, List.set_cons_zero, List.set_cons_succ])
                refine wpQuiet_nil ?_
                intro we hwd
                have HBD3 := hid hwd
                clear hwd
                go_wp2_with fail
                go_meet
                exact ⟨rfl, HBD3⟩
          obtain ⟨rfl, HB3⟩ := hcut
          have HENB := hid heb
          go_upto_if 71 with fail
          obtain ⟨en2, hen2⟩ : ∃ y, (en + (if gb = true then 1 else 0)) = y := ⟨_, rfl⟩
          have HEQ2 := hid hen2
          rw [hen2] at HE2
          go_cut [6] (fun v wx => v = .int .i64 en2 ∧ Hid (C wx))
          case first =>
            cases gb
            case false =>
              have HX2 := hid (show en = en2 by rw [← HEQ2.out, if_neg (by simp)]; omega)
              go_wp2_with fail
              go_meet
              exact ⟨int_eq HX2.out, HB3⟩
            case true =>
              have HX2 := hid (show en + 1 = en2 by rw [← HEQ2.out, if_pos rfl])
              go_wp2_with fail
              go_meet
              exact ⟨int_eq HX2.out, HB3⟩
          obtain ⟨rfl, HB4⟩ := hcut
          clear hen2
          obtain ⟨w4, hw4⟩ : ∃ w4, wc = w4 := ⟨_, rfl⟩
          rw [hw4] at HB4 ⊢
          clear hw4
          have r08 := (HFR.out w4 HB4.out).2.2.2.2.2.2.2.2.1
          have s3 := HC3.out w4 (HCI.out w4 HB4.out)
          go_wp2_with fail
          clear r08 s3
          have HS0 := hid (show secMost S P c pp i mo (t.secs.take 0) = mo from rfl)
          go_loopw [84, 5] (fun v s5 wr => ∃ k : Nat, k ≤ m1 ∧ v = .int .i64 k ∧ s5 = .int .i64 (secMost S P c pp i mo (t.secs.take k)) ∧ Hid (C wr)) (fun v _ _ => m1 - (intOf v).toNat)
          case atStart => exact ⟨0, by omega, rfl, int_eq HS0.out.symm, HB4⟩
          case round =>
            obtain ⟨k, hk, rfl, rfl, HBk⟩ := hrel
            by_cases hkm : k < m1
            case neg =>
              obtain rfl : k = m1 := by omega
              have HM3 := hid (show blkMost S P c pp (i + 1) = secMost S P c pp i mo (t.secs.take k) by rw [HM2.out, HM1.out, List.take_length])
              have HBE := hid (HCI.out wr HBk.out)
              go_wp2_with fail
              go_roundw
              case rel => exact ⟨i + 1, by omega, by go_num, by rw [HM3.out], by rw [HE2.out], HBE⟩
              case measure => simp [intOf]; omega
            case pos =>
              obtain ⟨x, hx⟩ : ∃ x, t.secs[k]? = some x := ⟨_, List.getElem?_eq_getElem (by have := HM1.out; omega)⟩
              obtain ⟨b8, o8, cs8, hA8, hbl8, _, hcs8, hr8⟩ := (HU2.out wr (HCI.out wr HBk.out)).at hx
              subst hA8
              have hr8' : cs8 = [.int .i64 x.at_, .int .i64 x.res, .int .i64 x.len] := hr8
              subst hr8'
              have hxo := HTO.out.s x (List.mem_of_getElem? hx)
              obtain ⟨jr, hjr⟩ : ∃ j : Nat, x.res = j := ⟨x.res.toNat, by have := hxo.r0; omega⟩
              have hjn : jr < S.resn.toNat := by have := hxo.r1; omega
              obtain ⟨ba, oa, csa, hAa, hbla, _, hcsa, ua, hua, hua2⟩ := HH.out.ce.at (i := c) (x := ceilRow S P c) (by unfold ceilL; rw [List.getElem?_map, List.getElem?_range (by have := HC8.out; omega)]; rfl)
              subst hAa
              subst hua
              obtain ⟨Ab, cb, hub, _⟩ := hua2.shape
              obtain ⟨rn, hrn⟩ : ∃ rn, (ceilRow S P c).length = rn := ⟨_, rfl⟩
              have hrn2 : rn = S.resn.toNat := by rw [← hrn]; unfold ceilRow; simp
              rw [hrn] at hub
              subst hub
              obtain ⟨bc, oc, csc, hAc, hblc, _, hcsc, hrc⟩ := hua2.at (i := jr) (x := topF (upsN S P c P.length) jr) (by unfold ceilRow; rw [List.getElem?_map, List.getElem?_range hjn]; rfl)
              subst hAc
              have hrc' : csc = [.int .i64 (topF (upsN S P c P.length) jr)] := hrc
              subst hrc'
              have hncl := HH.out.ce.len
              have hncl2 : nc = S.cores.toNat := by rw [hncl]; unfold ceilL; simp
              have hcnc : (c : Int) < nc := by have := HC8.out; omega
              have hjrn : (jr : Int) < rn := by omega
              have HWB := hid (show wayB S P c pp x = decide (S.prot = 1 ∨ topF (upsN S P c P.length) jr ≤ pp) by unfold wayB ceilAt; rw [hjr]; rfl)
              have HCC := hid (fun V (k : C V) => show V.cell? ⟨ba, oa + c, none⟩ = some (.slice (some ⟨bc, oc, none⟩) rn cb) ∧ V.cell? ⟨bc, oc + jr, none⟩ = some (.int .i64 (topF (upsN S P c P.length) jr)) from
                ⟨((HBB.out V (HCI.out V k)).cell (p := ⟨ba, oa + c, none⟩) hbla).trans (by simpa using hcsa 0 _ rfl), ((HBB.out V (HCI.out V k)).cell (p := ⟨bc, oc + jr, none⟩) hblc).trans (by simpa using hcsc 0 _ rfl)⟩)
              have HSU := hid (show secMost S P c pp i mo (t.secs.take (k + 1)) = if wayB S P c pp x = true then max (secMost S P c pp i mo (t.secs.take k)) (holdV S (whereL P) i x) else secMost S P c pp i mo (t.secs.take k) by rw [take_next hx, secMost_snoc])
              have hsb := secMost_bound HRS.out P c pp i HTT.out (t.secs.take k) (fun y hy => List.mem_of_mem_take hy) HMO0.out
              have hhb := holdV_bound HRS.out (whereL P) i HTT.out (List.mem_of_getElem? hx)
              have HCH := hid (fun X (q : C X) => (HHO.out X (HBB.out X (HCI.out X q)) i k t x HTT.out hx).mono (fun e w' ⟨h1, h2⟩ => show e = Ending.returned (.int .i64 (holdV S (whereL P) i x)) ∧ C w' from ⟨h1, HCJ.out w' (below_then (HCI.out X q) h2)⟩))
              obtain ⟨hv, hhv⟩ : ∃ y, holdV S (whereL P) i x = y := ⟨_, rfl⟩
              obtain ⟨sv, hsv⟩ : ∃ y, secMost S P c pp i mo (t.secs.take k) = y := ⟨_, rfl⟩
              obtain ⟨cv, hcv⟩ : ∃ y, topF (upsN S P c P.length) jr = y := ⟨_, rfl⟩
              obtain ⟨gw, hgw⟩ : ∃ y, wayB S P c pp x = y := ⟨_, rfl⟩
              rw [hhv] at HCH HSU hhb
              rw [hsv] at HSU hsb ⊢
              rw [hcv] at HWB HCC
              rw [hgw] at HWB HSU
              have e0 : wr.cell? ⟨b8, o8 + k * 3, none⟩ = some (.int .i64 x.at_) := by simpa using hcs8 0 _ rfl
              have e1 : wr.cell? ⟨b8, o8 + k * 3 + 1, none⟩ = some (.int .i64 jr) := by rw [← hjr]; exact hcs8 1 _ rfl
              have e2 : wr.cell? ⟨b8, o8 + k * 3 + 2, none⟩ = some (.int .i64 x.len) := hcs8 2 _ rfl
              obtain ⟨xa, hxa⟩ : ∃ y, x.at_ = y := ⟨_, rfl⟩
              obtain ⟨xl, hxl⟩ : ∃ y, x.len = y := ⟨_, rfl⟩
              rw [hxa] at e0
              rw [hxl] at e2
              clear hx hbl8 hcs8 hr8 hxo hjr hjn hbla hcsa hua2 hrn hrn2 hblc hcsc hrc hncl hncl2 hhv hsv hcv hgw hxa hxl
              go_upto_region 11 with fail
              have hq5 := blk_new wr (.cells #[.int .i64 xa, .int .i64 jr, .int .i64 xl] 88)
              have hb5 := below_new (Below.refl wr.heap.size wr) (.cells #[.int .i64 xa, .int .i64 jr, .int .i64 xl] 88)
              have HBK5 := hid (HCJ.out _ (below_then (HCI.out wr HBk.out) hb5))
              obtain ⟨E, hE⟩ : ∃ E, wr.heap.size = E := ⟨_, rfl⟩
              rw [hE] at hq5 ⊢
              generalize wr.alloc (.cells #[.int .i64 xa, .int .i64 jr, .int .i64 xl] 88) = w5 at *
              clear e0 e1 e2 hE hb5
              -- the class behind the section's box
              obtain ⟨G, hG⟩ : ∃ G : World → Prop, G = fun X => C X ∧ Below w5.heap.size w5 X := ⟨_, rfl⟩
              have hG0 : G w5.drew := by rw [hG]; exact ⟨HCD.out w5 HBK5.out, (Below.refl w5.heap.size w5).drew⟩
              have HGC := hid (fun X (q : G X) => show C X by rw [hG] at q; exact q.1)
              have HGE := hid (fun X (q : G X) => show X.cell? ⟨E, 1, none⟩ = some (.int .i64 jr) by rw [hG] at q; exact blk_cell ((fr0 q.2).blk hq5 (fun h => h)) 1)
              have HBE5 := hid (Below.refl w5.heap.size w5)
              clear hG hq5
              go_cut [111] (fun v wx => v = .bool gw ∧ Hid (C wx))
              case first =>
                by_cases hp1 : S.prot = 1
                case pos =>
                  have hpb : (S.prot == 1) = true := beq_iff_eq.2 hp1
                  have HG := hid (show gw = true by rw [HWB.out]; exact decide_eq_true (.inl hp1))
                  clear hp1
                  refine wp_region_class (C := G) (by kernel_rfl) (by kernel_rfl) hG0 ?_
                  repeat (refine wpQuiet_step (fun K hK => ?_); ((first | (rw [if_neg (by exact Bool.false_ne_true)]; refine hK _ ?_) | (rw [if_pos (by rfl)]; refine Exists.intro ?_ (And.intro (fun X HX => ?_) (hK _ ?_)); rotate_left; (focus (first | (have r02 := (HFR.out X (HGC.out X HX)).2.2.1; (go_simp); all_goals (with_reducible rfl))))))); clear hK K; try simp only [Act.put, List.setIfInBounds_toArray, List.set_cons_zero, List.set_cons_succ])
                  refine wpQuiet_nil ?_
                  intro we hwd
                  have HBD3 := hid (HGC.out we hwd)
                  clear hwd
                  go_wp2_with fail
                  go_meet
                  exact ⟨by rw [HG.out], HBD3⟩
                case neg =>
                  have hpb : (S.prot == 1) = false := beq_eq_false_iff_ne.2 hp1
                  have HG := hid (show decide (cv ≤ pp) = gw by rw [HWB.out]; congr 1; exact propext ⟨.inr, fun h => h.resolve_left hp1⟩)
                  have hgd := HG.out
                  clear hp1
                  refine wp_region_class (C := G) (by kernel_rfl) (by kernel_rfl) hG0 ?_
                  repeat (refine wpQuiet_step (fun K hK => ?_); ((first | (rw [if_neg (by exact Bool.false_ne_true)]; refine hK _ ?_) | (rw [if_pos (by rfl)]; refine Exists.intro ?_ (And.intro (fun X HX => ?_) (hK _ ?_)); rotate_left; (focus (first | (have r02 := (HFR.out X (HGC.out X HX)).2.2.1; have r11 := (HFR.out X (HGC.out X HX)).2.2.2.2.2.2.2.2.2.2.2; have x3 := (HFX.out X (HGC.out X HX)).2.2.2.1; obtain ⟨y0, y1⟩ := HCC.out X (HGC.out X HX); have q1 := HGE.out X HX; (go_simp); all_goals (with_reducible rfl))))))); clear hK K; try simp only [Act.put, List.setIfInBounds_toArray, List.set_cons_zero, List.set_cons_succ])
                  refine wpQuiet_nil ?_
                  intro we hwd
                  have HBD3 := hid (HGC.out we hwd)
                  clear hwd
                  go_wp2_with fail
                  go_meet
                  exact ⟨by first | rfl | rw [HG.out], HBD3⟩
              obtain ⟨rfl, HB6⟩ := hcut
              cases gw
              case false =>
                have HX2 := hid (show secMost S P c pp i mo (t.secs.take (k + 1)) = sv by rw [HSU.out, if_neg (by simp)])
                go_wp2_with fail
                go_roundw
                case rel => exact ⟨k + 1, by omega, by go_num, by rw [HX2.out], HB6⟩
                case measure => simp [intOf]; omega
              case true =>
                obtain ⟨sv2, hsv2⟩ : ∃ y, max sv hv = y := ⟨_, rfl⟩
                have HX2 := hid (show secMost S P c pp i mo (t.secs.take (k + 1)) = sv2 by rw [HSU.out, if_pos rfl, hsv2])
                have z1 : (if sv < hv then hv else sv) = sv2 := by rw [← hsv2]; split <;> omega
                have z2 : (if hv < sv then sv else hv) = sv2 := by rw [← hsv2]; split <;> omega
                have z3 : (if sv ≤ hv then hv else sv) = sv2 := by rw [← hsv2]; split <;> omega
                have z4 : (if hv ≤ sv then sv else hv) = sv2 := by rw [← hsv2]; split <;> omega
                have HMX := hid hsv2
                clear hsv2
                have hC0 := HCD.out wc HB6.out
                go_upto_region 12 with fail
                refine wp_region_class (C := C) (by kernel_rfl) (by kernel_rfl) hC0 ?_
                repeat (refine wpQuiet_step (fun K hK => ?_); rw [if_pos (by rfl)]; refine Exists.intro ?_ (And.intro (fun X HX => ?_) (hK _ ?_)); rotate_left; (focus (first | (obtain ⟨r00, r01, r02, r03, r04, r05, r06, r07, r08, r09, r10, r11⟩ := HFR.out X HX; (go_simp); all_goals (with_reducible rfl)) | (go_simp; exact HCH.out X HX))); clear hK K; try simp only [Act.put, List.setIfInBounds_toArray, List.set_cons_zero, List.set_cons_succ])
                refine wpQuiet_nil ?_
                intro we hwd
                have HBD3 := hid hwd
                clear hwd
                go_wp2_with fail
                try rw [z1]
                try rw [z2]
                go_roundw
                case rel => exact ⟨k + 1, by omega, by go_num, by rw [HX2.out, ← HMX.out], HBD3⟩
                case measure => simp [intOf]; omega
end
end Go.Proofs.Ytppildaahmlfmaa
