/- Joined: Ana1. -/
import Derived.Test.YtppildaahmlfmaaQ23
import Derived.Test.YtppildaahmlfmaaQ26
import Derived.Test.YtppildaahmlfmaaQ27
import Derived.Test.YtppildaahmlfmaaQ39
set_option linter.unusedVariables false
set_option linter.unusedSimpArgs false
/- analysis: what a piece costs its core (contract); the record of rank, as its methods find it. -/
set_option linter.unusedVariables false
set_option linter.unusedSimpArgs false
namespace Go.Proofs.Ytppildaahmlfmaa
open Go.RowKit

theorem rankL_wf' {S : Sy} {P : Pl} (hw : ∀ l ∈ P, ∀ p ∈ l, Pc.Wf p) (hlen : (partsOf P).length < 1000000) : ∀ l ∈ rankL S P, ∀ p ∈ l, Pc.Wf p := by
  intro l hl p hp
  unfold rankL at hl
  obtain ⟨i, hi, rfl⟩ := List.mem_mapIdx.1 hl
  unfold rankRow at hp
  obtain ⟨q, hq, rfl⟩ := List.mem_map.1 hp
  have := hw _ (List.getElem_mem hi) q hq
  refine ⟨this.c, this.b, this.d, ?_⟩
  unfold rankOne I64
  simp only
  have h2 : aheadL i q (partsOf P) ≤ (partsOf P).length := List.length_filter_le _ _
  split <;> omega
/-- The record of rank: read only. -/
structure RkAt (w : World) (R : Nat) (S : Sy) (P : Pl) (A0 : Option Addr) (n c0 : Nat) (Aq : Option Addr) (cq : Nat) (Aw : Option Addr) (cw : Nat) (Ac : Option Addr) (nc cc : Nat) : Prop where
  blk : w.heap[R]? = some (.cells (rkC S (.slice A0 n c0) (.slice Aq n cq) (.slice Aw n cw) (.slice Ac nc cc)) 64 (0, 0))
  sys : IsSys w (.slice A0 n c0) S
  plan : IsPlan w (.slice Aq n cq) (rankL S P)
  wh : Rowp 1 IntR w (.slice Aw n cw) (whereL P)
  ce : Rowp 1 (RowR 1 IntR) w (.slice Ac nc cc) (ceilL S P)
theorem RkAt.later {w w' : World} {R : Nat} {S : Sy} {P : Pl} {A0 : Option Addr} {n c0 : Nat} {Aq : Option Addr} {cq : Nat} {Aw : Option Addr} {cw : Nat} {Ac : Option Addr} {nc cc : Nat} (h : RkAt w R S P A0 n c0 Aq cq Aw cw Ac nc cc) (k : Below w.heap.size w w') : RkAt w' R S P A0 n c0 Aq cq Aw cw Ac nc cc :=
  ⟨(fr0 k).blk h.blk (fun h => h), h.sys.later k, h.plan.later k, h.wh.later IntR.stays k, h.ce.later (RowR.stays IntR.stays) k⟩
theorem RkAt.cells {w : World} {R : Nat} {S : Sy} {P : Pl} {A0 : Option Addr} {n c0 : Nat} {Aq : Option Addr} {cq : Nat} {Aw : Option Addr} {cw : Nat} {Ac : Option Addr} {nc cc : Nat} (h : RkAt w R S P A0 n c0 Aq cq Aw cw Ac nc cc) :
    w.cell? ⟨R, 0, none⟩ = some (.int .i64 S.cores) ∧ w.cell? ⟨R, 1, none⟩ = some (.int .i64 S.policy) ∧ w.cell? ⟨R, 2, none⟩ = some (.int .i64 S.prot) ∧ w.cell? ⟨R, 3, none⟩ = some (.int .i64 S.rel) ∧ w.cell? ⟨R, 4, none⟩ = some (.int .i64 S.sw) ∧ w.cell? ⟨R, 5, none⟩ = some (.int .i64 S.fin) ∧ w.cell? ⟨R, 6, none⟩ = some (.int .i64 S.lat) ∧ w.cell? ⟨R, 7, none⟩ = some (.int .i64 S.resn) ∧ w.cell? ⟨R, 8, none⟩ = some (.slice A0 n c0) ∧ w.cell? ⟨R, 9, none⟩ = some (.slice Aq n cq) ∧ w.cell? ⟨R, 10, none⟩ = some (.slice Aw n cw) ∧ w.cell? ⟨R, 11, none⟩ = some (.slice Ac nc cc) :=
  ⟨blk_cell h.blk 0, blk_cell h.blk 1, blk_cell h.blk 2, blk_cell h.blk 3, blk_cell h.blk 4, blk_cell h.blk 5, blk_cell h.blk 6, blk_cell h.blk 7, blk_cell h.blk 8, blk_cell h.blk 9, blk_cell h.blk 10, blk_cell h.blk 11⟩
theorem whereL_wf {P : Pl} (h : ∀ l ∈ P, ∀ p ∈ l, Pc.Wf p) : ∀ x ∈ whereL P, I64 x := by
  intro x hx
  unfold whereL at hx
  obtain ⟨l, hl, rfl⟩ := List.mem_map.1 hx
  unfold whereOf
  split
  · rename_i p
    split
    · unfold I64; omega
    · exact (h _ hl p (by simp)).c
  · unfold I64; omega
theorem whereL_rank (S : Sy) (P : Pl) : whereL (rankL S P) = whereL P := by
  unfold whereL rankL
  apply List.ext_getElem?
  intro i
  rw [List.getElem?_map, List.getElem?_mapIdx, List.getElem?_map]
  cases P[i]? with
  | none => rfl
  | some l =>
    show some (whereOf (rankRow S (partsOf P) i l)) = some (whereOf l)
    congr 1
    unfold rankRow
    match l with
    | [] => rfl
    | [p] => rfl
    | p :: q :: l => rfl
/-- What a part's box says. -/
theorem part_cells {W : World} {D : Nat} {x : Pt} (h : W.heap[D]? = some (.cells (encPt x).toArray 67 (0, 0))) :
    W.cell? ⟨D, 0, none⟩ = some (.int .i64 x.p.core) ∧ W.cell? ⟨D, 1, none⟩ = some (.int .i64 x.p.bud) ∧ W.cell? ⟨D, 2, none⟩ = some (.int .i64 x.p.dl) ∧ W.cell? ⟨D, 3, none⟩ = some (.int .i64 x.p.prio) ∧ W.cell? ⟨D, 4, none⟩ = some (.bool x.p.tight) ∧ W.cell? ⟨D, 5, none⟩ = some (.int .i64 x.task) ∧ W.cell? ⟨D, 6, none⟩ = some (.int .i64 x.k) :=
  ⟨blk_cell h 0, blk_cell h 1, blk_cell h 2, blk_cell h 3, blk_cell h 4, blk_cell h 5, blk_cell h 6⟩
section
variable {w : World}
set_option maxRecDepth 100000 in
set_option maxHeartbeats 6400000 in
theorem own_any (R : Nat) (S : Sy) (P : Pl) (A0 : Option Addr) (n c0 : Nat) (Aq : Option Addr) (cq : Nat) (Aw : Option Addr) (cw : Nat) (Ac : Option Addr) (nc cc : Nat) (h : RkAt w R S P A0 n c0 Aq cq Aw cw Ac nc cc) (hr : rightS S = true) (hww : ∀ x ∈ whereL P, I64 x) (x : Pt) (hx : x.task < n) (hb : 0 ≤ x.p.bud ∧ x.p.bud ≤ 1099511627776) :
    Calls Try.prog 37 #[.pointer (some ⟨R, 0, none⟩), ptV x] w fun e w' => e = .returned (.int .i64 (ownV S P x)) ∧ Below w.heap.size w w' := by
  have hRS := rightS_ok hr
  have hn := h.sys.tasks.len
  have hn24 : n ≤ 24 := by have := hRS.len; omega
  have hnw := h.wh.len
  have hfin := hRS.fin
  have hsw := hRS.sw
  obtain ⟨t, ht⟩ : ∃ t, S.tasks[x.task]? = some t := ⟨_, List.getElem?_eq_getElem (by omega)⟩
  obtain ⟨c, hc⟩ : ∃ c, (whereL P)[x.task]? = some c := ⟨_, List.getElem?_eq_getElem (by omega)⟩
  have hEB := extraV_bound hRS (whereL P) x.task
  have HEX := hid (fun V (k : Below w.heap.size w V) => extra_any (w := V) S A0 n c0 (h.sys.later k) hr (whereL P) Aw cw (h.wh.later IntR.stays k) hww x.task t ht)
  have HV := hid (show ownV S P x = x.p.bud + S.fin + 2 * S.sw + (if 0 ≤ c then extraV S (whereL P) x.task else 0) by
    unfold ownV
    rw [show whereAt P x.task = c by unfold whereAt; rw [show (P.map whereOf)[x.task]? = some c from hc]; rfl])
  obtain ⟨bw, ow, csw, hAw, hblw, _, hcw, hrw⟩ := h.wh.at hc
  subst hAw
  have hrw' : csw = [.int .i64 c] := hrw
  subst hrw'
  have HFR0 := hid (fun V (k : Below w.heap.size w V) => (h.later k).cells)
  have HFW0 := hid (fun V (k : Below w.heap.size w V) => show V.cell? ⟨bw, ow + x.task, none⟩ = some (.int .i64 c) from (k.cell (p := ⟨bw, ow + x.task, none⟩) hblw).trans (by simpa using hcw 0 _ rfl))
  obtain ⟨V, hVV⟩ : ∃ V, ownV S P x = V := ⟨_, rfl⟩
  rw [hVV] at HV ⊢
  obtain ⟨y, hy⟩ : ∃ y, extraV S (whereL P) x.task = y := ⟨_, rfl⟩
  rw [hy] at HEX HV hEB
  have hq0 := blk_new w (.cells (encPt x).toArray 67)
  have hb0 := below_new (Below.refl w.heap.size w) (.cells (encPt x).toArray 67)
  have HFX0 := hid (fun V (k : Below (w.alloc (.cells (encPt x).toArray 67)).heap.size (w.alloc (.cells (encPt x).toArray 67)) V) => part_cells ((fr0 k).blk hq0 (fun h => h)))
  have HB0 := hid hb0
  have HX := hid hx
  obtain ⟨⟨pc, pb, pd, pp, ti⟩, tk, kk⟩ := x
  simp only at hb HV hx HFX0 HFW0 HEX
  have e1 : IntKind.i64.wrap (pb + S.fin) = pb + S.fin := wraps_i64 _ (by omega) (by omega)
  have e2 : IntKind.i64.wrap (2 * S.sw) = 2 * S.sw := wraps_i64 _ (by omega) (by omega)
  have e3 : IntKind.i64.wrap (pb + S.fin + 2 * S.sw) = pb + S.fin + 2 * S.sw := wraps_i64 _ (by omega) (by omega)
  have e4 : IntKind.i64.wrap (pb + S.fin + 2 * S.sw + y) = pb + S.fin + 2 * S.sw + y := wraps_i64 _ (by omega) (by omega)
  have htn : (tk : Int) < n := by omega
  clear h hr hww hRS hn hnw ht hc hy hVV hq0 hb0 hcw hrw hblw
  unfold ptV
  unfold encPt at HB0 HFX0
  unfold sysV at HEX
  simp only at HFX0 HB0 ⊢
  go_enter Try.func37, Try.ntmps37
  go_upto_region 1 with fail
  have hwo : w.alloc (.cells #[.int .i64 pc, .int .i64 pb, .int .i64 pd, .int .i64 pp, .bool ti, .int .i64 tk, .int .i64 kk] 67) = w.alloc (.cells ([.int .i64 pc, .int .i64 pb, .int .i64 pd, .int .i64 pp, .bool ti, .int .i64 tk, .int .i64 kk] : List Value).toArray 67) := rfl
  obtain ⟨w0, hw0⟩ : ∃ w0, w.alloc (.cells #[.int .i64 pc, .int .i64 pb, .int .i64 pd, .int .i64 pp, .bool ti, .int .i64 tk, .int .i64 kk] 67) = w0 := ⟨_, rfl⟩
  rw [hw0] at HB0 HFX0 ⊢
  obtain ⟨D, hD⟩ : ∃ D, w.heap.size = D := ⟨_, rfl⟩
  have HBB := hid (fun V (k : Below w0.heap.size w0 V) => below_then HB0.out k)
  obtain ⟨C, hC⟩ : ∃ C : World → Prop, C = fun X => Below w0.heap.size w0 X := ⟨_, rfl⟩
  have hC0 : C w0.drew := by rw [hC]; exact (Below.refl w0.heap.size w0).drew
  have HFR := hid (fun X (k : C X) => HFR0.out X (HBB.out X (by rw [hC] at k; exact k)))
  have HFX := hid (fun X (k : C X) => HFX0.out X (by rw [hC] at k; exact k))
  have HFW := hid (fun X (k : C X) => HFW0.out X (HBB.out X (by rw [hC] at k; exact k)))
  have HC1 := hid (fun X (k : C X) => (HEX.out X (HBB.out X (by rw [hC] at k; exact k))).mono (fun e w' ⟨h1, h2⟩ => show e = Ending.returned (.int .i64 y) ∧ C w' from ⟨h1, by rw [hC] at k ⊢; exact below_then k h2⟩))
  have HCD := hid (fun X (k : C X) => show C X.drew by rw [hC] at k ⊢; exact k.drew)
  have HCE := hid hC
  rw [hD] at HFX ⊢
  clear hC hw0 hwo hD HFR0 HFX0 HFW0 HEX HB0
  refine wp_region_class (C := C) (by kernel_rfl) (by kernel_rfl) hC0 ?_
  repeat (refine wpQuiet_step (fun K hK => ?_); rw [if_pos (by rfl)]; refine Exists.intro ?_ (And.intro (fun X HX => ?_) (hK _ ?_)); rotate_left; (focus (first | (obtain ⟨r00, r01, r02, r03, r04, r05, r06, r07, r08, r09, r10, r11⟩ := HFR.out X HX; obtain ⟨x0, x1, x2, x3, x4, x5, x6⟩ := HFX.out X HX; have wx := HFW.out X HX; (go_simp); all_goals (with_reducible rfl)))); clear hK K; try simp only [Act.put, List.setIfInBounds_toArray, List.set_cons_zero, List.set_cons_succ])
  refine wpQuiet_nil ?_
  intro wd hwd
  have hC0 := HCD.out wd hwd
  clear hwd
  go_wp2_with fail
  refine wp_region_class (C := C) (by kernel_rfl) (by kernel_rfl) hC0 ?_
  repeat (refine wpQuiet_step (fun K hK => ?_); rw [if_pos (by rfl)]; refine Exists.intro ?_ (And.intro (fun X HX => ?_) (hK _ ?_)); rotate_left; (focus (first | (obtain ⟨r00, r01, r02, r03, r04, r05, r06, r07, r08, r09, r10, r11⟩ := HFR.out X HX; obtain ⟨x0, x1, x2, x3, x4, x5, x6⟩ := HFX.out X HX; have wx := HFW.out X HX; (go_simp); all_goals (with_reducible rfl)))); clear hK K; try simp only [Act.put, List.setIfInBounds_toArray, List.set_cons_zero, List.set_cons_succ])
  refine wpQuiet_nil ?_
  intro we hwd
  have hC0 := HCD.out we hwd
  by_cases h0 : 0 ≤ c
  case neg =>
    have hd0 : decide (0 ≤ c) = false := decide_eq_false h0
    have HV2 := hid (show V = pb + S.fin + 2 * S.sw by rw [HV.out, if_neg h0]; omega)
    rw [HCE.out] at hwd
    have HBE := hid (HBB.out we hwd)
    clear hwd
    go_wp2_with fail
    go_ret
    exact ⟨by rw [HV2.out]; rfl, HBE.out⟩
  case pos =>
    have hd0 : decide (0 ≤ c) = true := decide_eq_true h0
    have HV2 := hid (show V = pb + S.fin + 2 * S.sw + y by rw [HV.out, if_pos h0])
    clear hwd
    go_upto_region 3 with fail
    refine wp_region_class (C := C) (by kernel_rfl) (by kernel_rfl) hC0 ?_
    repeat (refine wpQuiet_step (fun K hK => ?_); rw [if_pos (by rfl)]; refine Exists.intro ?_ (And.intro (fun X HX => ?_) (hK _ ?_)); rotate_left; (focus (first | (go_simp; exact HC1.out X HX) | (obtain ⟨r00, r01, r02, r03, r04, r05, r06, r07, r08, r09, r10, r11⟩ := HFR.out X HX; obtain ⟨x0, x1, x2, x3, x4, x5, x6⟩ := HFX.out X HX; have wx := HFW.out X HX; (go_simp); all_goals (with_reducible rfl)))); clear hK K; try simp only [Act.put, List.setIfInBounds_toArray, List.set_cons_zero, List.set_cons_succ])
    refine wpQuiet_nil ?_
    intro wf hwd
    rw [HCE.out] at hwd
    have HBE := hid (HBB.out wf hwd)
    clear hwd
    go_wp2_with fail
    go_ret
    exact ⟨by rw [HV2.out]; rfl, HBE.out⟩
end
end Go.Proofs.Ytppildaahmlfmaa
