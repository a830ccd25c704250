/- Joined: Ana3. -/
import Derived.Test.YtppildaahmlfmaaQ40
set_option linter.unusedVariables false
set_option linter.unusedSimpArgs false
/- analysis: load, late (contracts). -/
set_option linter.unusedVariables false
set_option linter.unusedSimpArgs false
namespace Go.Proofs.Ytppildaahmlfmaa
open Go.RowKit
attribute [local irreducible] wpQuiet
section
variable {w : World}
set_option maxRecDepth 100000 in
set_option maxHeartbeats 6400000 in
theorem load_any (R : Nat) (S : Sy) (P : Pl) (A0 : Option Addr) (n c0 : Nat) (Aq : Option Addr) (cq : Nat) (Aw : Option Addr) (cw : Nat) (Ac : Option Addr) (nc cc : Nat) (h : RkAt w R S P A0 n c0 Aq cq Aw cw Ac nc cc) (hr : rightS S = true) (hww : ∀ x ∈ whereL P, I64 x) (x : Pt) (hx : x.task < n) (hb : 0 ≤ x.p.bud ∧ x.p.bud ≤ 1099511627776) (hk : x.k ≤ 8) :
    Calls Try.prog 62 #[.pointer (some ⟨R, 0, none⟩), ptV x] w fun e w' => e = .returned (ldV (ldOf S P x)) ∧ Below w.heap.size w w' := by
  have hRS := rightS_ok hr
  have hn := h.sys.tasks.len
  have hn24 : n ≤ 24 := by have := hRS.len; omega
  have hlat := hRS.lat
  obtain ⟨t, ht⟩ : ∃ t, S.tasks[x.task]? = some t := ⟨_, List.getElem?_eq_getElem (by omega)⟩
  have HOW := hid (fun V (k : Below w.heap.size w V) => own_any (w := V) R S P A0 n c0 Aq cq Aw cw Ac nc cc (h.later k) hr hww x hx hb)
  have HLA := hid (fun V (k : Below w.heap.size w V) => late_any (w := V) S (.slice A0 n c0) hlat.1 hlat.2)
  have HV := hid (show ldOf S P x = ⟨ownV S P x, t.per, (x.k : Int) * (S.lat - 1)⟩ by unfold ldOf; rw [tskAt_eq ht])
  obtain ⟨b1, o1, cs1, hA1, hbl1, _, hcs1, us1, hu1, hu2⟩ := h.sys.tasks.at ht
  subst hA1
  subst hu1
  have HFR0 := hid (fun V (k : Below w.heap.size w V) => (h.later k).cells)
  have HFT0 := hid (fun V (k : Below w.heap.size w V) => show V.cell? ⟨b1, o1 + x.task * 4, none⟩ = some (.int .i64 t.per) from (k.cell (p := ⟨b1, o1 + x.task * 4, none⟩) hbl1).trans (by simpa using hcs1 0 _ rfl))
  have hmul : 0 ≤ (x.k : Int) * (S.lat - 1) ∧ (x.k : Int) * (S.lat - 1) ≤ 400 := by
    have h1 := Int.mul_nonneg (show 0 ≤ (x.k : Int) by omega) (show 0 ≤ S.lat - 1 by omega)
    have h2 : (x.k : Int) * (S.lat - 1) ≤ 8 * 50 := Int.mul_le_mul (by omega) (by omega) (by omega) (by decide)
    omega
  rw [HV.out]
  obtain ⟨y, hy⟩ : ∃ y, ownV S P x = y := ⟨_, rfl⟩
  rw [hy] at HOW ⊢
  have hq0 := blk_old (blk_new w (.cells (encPt x).toArray 67)) (.cells #[.int .i64 0, .int .i64 0, .int .i64 0] 118)
  have hq1 := blk_new (w.alloc (.cells (encPt x).toArray 67)) (.cells #[.int .i64 0, .int .i64 0, .int .i64 0] 118)
  rw [show ∀ o, (w.alloc o).heap.size = w.heap.size + 1 from fun o => by simp] at hq1
  have hb0 := below_new (below_new (Below.refl w.heap.size w) (.cells (encPt x).toArray 67)) (.cells #[.int .i64 0, .int .i64 0, .int .i64 0] 118)
  have HB0 := hid hb0
  have HQ0 := hid hq0
  have HQ1 := hid hq1
  obtain ⟨⟨pc, pb, pd, pp, ti⟩, tk, kk⟩ := x
  simp only at hx hmul HFT0 HOW ⊢
  have htn : (tk : Int) < n := by omega
  obtain ⟨l1, hl1⟩ : ∃ y, S.lat - 1 = y := ⟨_, rfl⟩
  obtain ⟨jt, hjt⟩ : ∃ y, (kk : Int) * (S.lat - 1) = y := ⟨_, rfl⟩
  rw [hjt] at hmul ⊢
  rw [hl1] at hjt HLA
  have e1 : IntKind.i64.wrap jt = jt := wraps_i64 _ (by omega) (by omega)
  clear h hr hww hRS hn ht hy hq0 hq1 hb0 hcs1 hbl1 hu2 hl1 HV
  unfold ptV at HOW ⊢
  unfold ldV
  unfold sysV at HLA
  unfold encPt at HB0 HQ0 HQ1
  simp only at HQ0 HQ1 HB0 HOW ⊢
  go_enter Try.func62, Try.ntmps62
  go_upto_region 1 with fail
  obtain ⟨w0, hw0⟩ : ∃ w0, (w.alloc (.cells #[.int .i64 pc, .int .i64 pb, .int .i64 pd, .int .i64 pp, .bool ti, .int .i64 tk, .int .i64 kk] 67)).alloc (.cells #[.int .i64 0, .int .i64 0, .int .i64 0] 118) = w0 := ⟨_, rfl⟩
  rw [hw0] at HB0 HQ0 HQ1 ⊢
  obtain ⟨D, hD⟩ : ∃ D, w.heap.size = D := ⟨_, rfl⟩
  have HBB := hid (fun V (k : Below w0.heap.size w0 V) => below_then HB0.out k)
  obtain ⟨C, hC⟩ : ∃ C : World → Prop, C = fun X => Below w0.heap.size w0 X := ⟨_, rfl⟩
  have hC0 : C w0.drew := by rw [hC]; exact (Below.refl w0.heap.size w0).drew
  have HFR := hid (fun X (k : C X) => HFR0.out X (HBB.out X (by rw [hC] at k; exact k)))
  have HFX := hid (fun X (k : C X) => part_cells (x := ⟨⟨pc, pb, pd, pp, ti⟩, tk, kk⟩) ((fr0 (by rw [hC] at k; exact k : Below w0.heap.size w0 X)).blk HQ0.out (fun h => h)))
  have HFT := hid (fun X (k : C X) => HFT0.out X (HBB.out X (by rw [hC] at k; exact k)))
  have HC1 := hid (fun X (k : C X) => (HOW.out X (HBB.out X (by rw [hC] at k; exact k))).mono (fun e w' ⟨h1, h2⟩ => show e = Ending.returned (.int .i64 y) ∧ C w' from ⟨h1, by rw [hC] at k ⊢; exact below_then k h2⟩))
  have HC2 := hid (fun X (k : C X) => (HLA.out X (HBB.out X (by rw [hC] at k; exact k))).mono (fun e w' ⟨h1, h2⟩ => show e = Ending.returned (.int .i64 l1) ∧ C w' from ⟨h1, by rw [hC] at k ⊢; exact below_then k h2⟩))
  have HCE := hid hC
  simp only at HFX
  rw [hD] at HFX HQ1 ⊢
  have HD := hid hD
  clear hC hw0 hD HFR0 HFT0 HOW HLA HB0 HQ0
  refine wp_quiet_tail (C := C) 22 (by kernel_rfl) (by kernel_rfl) hC0 ?_
  simp only [List.take_succ_cons, List.take_zero, List.drop_succ_cons, List.drop_zero]
  repeat (refine wpQuiet_step (fun K hK => ?_); rw [if_pos (by rfl)]; refine Exists.intro ?_ (And.intro (fun X HX => ?_) (hK _ ?_)); rotate_left; (focus (first | (obtain ⟨r00, r01, r02, r03, r04, r05, r06, r07, r08, r09, r10, r11⟩ := HFR.out X HX; obtain ⟨x0, x1, x2, x3, x4, x5, x6⟩ := HFX.out X HX; have yt := HFT.out X HX; (go_simp); all_goals (with_reducible rfl)) | (go_simp; exact HC1.out X HX) | (go_simp; exact HC2.out X HX))); clear hK K; try simp only [Act.put, List.setIfInBounds_toArray, List.set_cons_zero, List.set_cons_succ])
  refine wpQuiet_nil ?_
  intro wd hwd
  rw [HCE.out] at hwd
  have hq := (fr0 hwd).blk HQ1.out (fun h => h)
  have hbd := HBB.out wd hwd
  have z0 : wd.cell? ⟨D + 1, 0, none⟩ = some (.int .i64 0) := blk_cell hq 0
  have z1 : wd.cell? ⟨D + 1, 1, none⟩ = some (.int .i64 0) := blk_cell hq 1
  have z2 : wd.cell? ⟨D + 1, 2, none⟩ = some (.int .i64 0) := blk_cell hq 2
  have zf : ∀ j, wd.frozen? ⟨D + 1, j, none⟩ = false := fun j => blk_free hq j
  have HQ := hid hq
  have HBD := hid hbd
  clear hq hbd hwd
  go_wp2_with fail
  have hq := blk_set (blk_set (blk_set HQ.out 0 (.int .i64 y)) 1 (.int .i64 t.per)) 2 (.int .i64 jt)
  have hf : Fr (One (D + 1)) wd (((wd.setCell ⟨D + 1, 0, none⟩ (.int .i64 y)).setCell ⟨D + 1, 1, none⟩ (.int .i64 t.per)).setCell ⟨D + 1, 2, none⟩ (.int .i64 jt)) := (((Fr.refl _ wd).one 0 _).one 1 _).one 2 _
  have hbz : Below w.heap.size w (((wd.setCell ⟨D + 1, 0, none⟩ (.int .i64 y)).setCell ⟨D + 1, 1, none⟩ (.int .i64 t.per)).setCell ⟨D + 1, 2, none⟩ (.int .i64 jt)) := ((Fr.of_below (S := NoB) HBD.out).trans hf (fun x hx => .inr (by rw [show x = D + 1 from hx]; have := HD.out; omega))).no
  generalize ((wd.setCell ⟨D + 1, 0, none⟩ (.int .i64 y)).setCell ⟨D + 1, 1, none⟩ (.int .i64 t.per)).setCell ⟨D + 1, 2, none⟩ (.int .i64 jt) = wz at *
  have y0 : wz.cell? ⟨D + 1, 0, none⟩ = some (.int .i64 y) := blk_cell hq 0
  have y1 : wz.cell? ⟨D + 1, 1, none⟩ = some (.int .i64 t.per) := blk_cell hq 1
  have y2 : wz.cell? ⟨D + 1, 2, none⟩ = some (.int .i64 jt) := blk_cell hq 2
  exact bodyPost_ret (v := .agg #[.int .i64 y, .int .i64 t.per, .int .i64 jt]) (by simp [results, Try.results62, go_sem, y0, y1, y2]) rfl ⟨rfl, hbz⟩
end
end Go.Proofs.Ytppildaahmlfmaa
