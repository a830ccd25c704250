/- Joined: Dem5. -/
import Derived.Test.YtppildaahmlfmaaQ14
set_option linter.unusedVariables false
set_option linter.unusedSimpArgs false
/- Package demand: Busy, Test (contracts). -/
set_option linter.unusedVariables false
set_option linter.unusedSimpArgs false
namespace Go.Proofs.Ytppildaahmlfmaa
open Go.RowKit

theorem good_come {rel n : Int} {x : Wk} (hx : WkOk x) (hn : 0 ≤ n) (hr : 0 ≤ rel) : GoodO (comeO rel n x) := by
  unfold comeO
  have h1 := hx.p
  have h2 := hx.w
  exact good_bind (good_often hn h1.1 (by omega) h2.1) (fun m hm => good_bind (good_often hn h1.1 (by omega) hr) (fun k hk => good_capI (by omega)))
theorem good_sum {α : Type} {F : α → Option Int} {l : List α} (hF : ∀ x ∈ l, GoodO (F x)) : ∀ {n : Int}, 0 ≤ n ∧ n ≤ 9223372036854775807 → GoodO (sumO F n l) := by
  induction l with
  | nil => intro n hn m hm; injection hm with hm; omega
  | cons x l ih =>
    intro n hn
    have hx := hF x (by simp)
    unfold sumO
    cases e : F x with
    | none => intro m hm; cases hm
    | some m =>
      simp only
      have h1 := hx m e
      cases e2 : capI (n + m) with
      | none => intro m hm; cases hm
      | some s =>
        simp only
        obtain ⟨rfl, h3⟩ := capI_le e2
        exact ih (fun y hy => hF y (by simp [hy])) ⟨by omega, h3⟩
section
variable {w : World}
set_option maxRecDepth 100000 in
set_option maxHeartbeats 3200000 in
theorem busy1_any (x : Wk) (hx : WkOk x) (t rel : Int) (ht : 1 ≤ t ∧ t ≤ 9223372036854775807) (hr : 0 ≤ rel ∧ rel ≤ 1099511627776) (Bt Br : Nat) (h1 : w.cell? ⟨Bt, 0, none⟩ = some (.int .i64 t)) (h2 : w.cell? ⟨Br, 0, none⟩ = some (.int .i64 rel)) :
    Calls Try.prog 74 #[wkV x, .pointer (some ⟨Bt, 0, none⟩), .pointer (some ⟨Br, 0, none⟩)] w fun e w' => e = .returned (okV (comeO rel t x)) ∧ Below w.heap.size w w' := by
  have hp := hx.p
  have hw := hx.w
  have hlt := cell_lt h1
  have hlr := cell_lt h2
  have HO := hid (show comeO rel t x = (oftenO t x.per 1 x.work).bind fun m => (oftenO t x.per 2 rel).bind fun r => capI (m + r) from rfl)
  have HG1 := hid (good_often (t := t) (per := x.per) (more := 1) (work := x.work) (by omega) hp.1 (by omega) hw.1)
  have HG2 := hid (good_often (t := t) (per := x.per) (more := 2) (work := rel) (by omega) hp.1 (by omega) hr.1)
  have HD1 := hid (fun W => doften_any (w := W) t x.per 1 x.work (by omega) (by omega) (by omega) (by omega))
  have HD2 := hid (fun W => doften_any (w := W) t x.per 2 rel (by omega) (by omega) (by omega) (by omega))
  have HAD := hid (fun W a b ha hb => qadd_any (w := W) a b ha hb)
  obtain ⟨p2, hp2⟩ : ∃ p, oftenO t x.per 2 rel = p := ⟨_, rfl⟩
  obtain ⟨p1, hp1⟩ : ∃ p, oftenO t x.per 1 x.work = p := ⟨_, rfl⟩
  rw [hp2] at HG2 HD2 HO
  rw [hp1] at HG1 HD1 HO
  obtain ⟨V, hV⟩ : ∃ V, comeO rel t x = V := ⟨_, rfl⟩
  rw [hV] at HO ⊢
  clear hp2 hp1 hV
  obtain ⟨xa, xb, xc, xd⟩ := x
  unfold wkV
  simp only at HO HD1 HD2 hp hw ⊢
  have HQ0 := hid (blk_new w (.cells #[.int .i64 xa, .int .i64 xb, .int .i64 xc, .bool xd] 96))
  have HB0 := hid (below_new (Below.refl w.heap.size w) (.cells #[.int .i64 xa, .int .i64 xb, .int .i64 xc, .bool xd] 96))
  have H1 := hid h1
  have H2 := hid h2
  have HLT := hid (And.intro hlt hlr)
  clear h1 h2 hlt hlr hx
  go_enter Try.func74, Try.ntmps74
  go_upto_region 1 with fail
  obtain ⟨D, hD⟩ : ∃ D, w.heap.size = D := ⟨_, rfl⟩
  rw [hD] at HQ0 ⊢
  obtain ⟨w0, hw0⟩ : ∃ w0, w.alloc (.cells #[.int .i64 xa, .int .i64 xb, .int .i64 xc, .bool xd] 96) = w0 := ⟨_, rfl⟩
  rw [hw0] at HQ0 HB0 ⊢
  clear hD hw0
  have HCELL := hid (fun W (h : Below w0.heap.size w0 W) => show W.cell? ⟨D, 0, none⟩ = some (.int .i64 xa) ∧ W.cell? ⟨D, 1, none⟩ = some (.int .i64 xb) ∧ W.cell? ⟨Bt, 0, none⟩ = some (.int .i64 t) ∧ W.cell? ⟨Br, 0, none⟩ = some (.int .i64 rel) from by
    have hq := (fr0 h).blk HQ0.out (fun h => h)
    have hbw := below_then HB0.out h
    exact ⟨blk_cell hq 0, blk_cell hq 1, (hbw.cell (p := ⟨Bt, 0, none⟩) HLT.out.1).trans H1.out, (hbw.cell (p := ⟨Br, 0, none⟩) HLT.out.2).trans H2.out⟩)
  obtain ⟨l0, l1, lt, lr⟩ := HCELL.out w0 (Below.refl _ _)
  go_wp2_with fail
  refine (HD1.out w0).mono ?_
  rintro e w1 ⟨rfl, hb1⟩
  have HB1 := hid hb1
  clear hb1 l0 l1 lt lr
  obtain ⟨l0, l1, lt, lr⟩ := HCELL.out w1 HB1.out
  cases p1 with
  | none =>
    unfold okV
    have HV2 := hid (show V = none from HO.out)
    have HBE := hid (below_then HB0.out HB1.out)
    go_wp2_with fail
    go_ret2
    exact ⟨by rw [HV2.out]; rfl, HBE.out⟩
  | some n1 =>
    unfold okV
    have hn1 := HG1.out n1 rfl
    go_wp2_with fail
    refine (HD2.out _).mono ?_
    rintro e w2 ⟨rfl, hb2⟩
    have HB2 := hid (below_then (below_then HB0.out HB1.out) hb2)
    clear hb2 l0 l1 lt lr
    cases p2 with
    | none =>
      unfold okV
      have HV2 := hid (show V = none from HO.out)
      go_wp2_with fail
      go_ret2
      exact ⟨by rw [HV2.out]; rfl, HB2.out⟩
    | some m =>
      have hm := HG2.out m rfl
      have HV2 := hid (show V = capI (n1 + m) from HO.out)
      have HA := hid (HAD.out w2 n1 m hn1 hm)
      unfold okV
      obtain ⟨z, hz⟩ : ∃ z, capI (n1 + m) = z := ⟨_, rfl⟩
      rw [hz] at HA HV2
      clear hz
      cases z with
      | none =>
        unfold okV at HA
        go_wp2_with fail
        refine HA.out.mono ?_
        rintro e w3 ⟨rfl, rfl⟩
        go_wp2_with fail
        go_ret2
        exact ⟨by rw [HV2.out]; rfl, HB2.out⟩
      | some z =>
        unfold okV at HA
        go_wp2_with fail
        refine HA.out.mono ?_
        rintro e w3 ⟨rfl, rfl⟩
        go_wp2_with fail
        go_ret2
        exact ⟨by rw [HV2.out]; rfl, HB2.out⟩
set_option maxRecDepth 100000 in
set_option maxHeartbeats 3200000 in
theorem busy_any (l : List Wk) (A : Option Addr) (n cap : Nat) (block rel : Int) (hl : Rowp 4 wkR w (.slice A n cap) l) (hR : demRightB l block rel = true) :
    Calls Try.prog 59 #[.slice A n cap, .int .i64 block, .int .i64 rel] w fun e w' => e = .returned (numE (busyV l block rel)) ∧ Below w.heap.size w w' := by
  obtain ⟨hok, hlen, hbl, hrl⟩ := demRight_ok hR
  have hn := hl.len
  have HR := hid (fun W (h : Below w.heap.size w W) => dright_any (w := W) l A n cap block rel (hl.later wkR.stays h))
  rw [hR] at HR
  have HFU := hid (fun W (h : Below w.heap.size w W) => full_any (w := W) l A n cap rel (hl.later wkR.stays h) hok (by omega) hrl)
  have HQ0 := hid (blk_new w (.cells #[.int .i64 rel] 3))
  have HB0 := hid (below_new (Below.refl w.heap.size w) (.cells #[.int .i64 rel] 3))
  have HS := hid (fun D t (ht : 1 ≤ t ∧ t ≤ 9223372036854775807) W (h : Below w.heap.size w W) (hr : W.cell? ⟨w.heap.size, 0, none⟩ = some (.int .i64 rel)) (htt : W.cell? ⟨D, 0, none⟩ = some (.int .i64 t)) =>
    dsum_any (w := W) 74 #[.pointer (some ⟨D, 0, none⟩), .pointer (some ⟨w.heap.size, 0, none⟩)] (enters_of Try.func74 (by kernel_rfl) rfl) (comeO rel t) block (by omega) l A n cap (hl.later wkR.stays h) (fun x hx => good_come (hok x hx) (by omega) hrl.1)
      (fun V hV x hx => busy1_any (w := V) x (hok x hx) t rel ht hrl D w.heap.size ((hV.cell (p := ⟨D, 0, none⟩) (cell_lt htt)).trans htt) ((hV.cell (p := ⟨w.heap.size, 0, none⟩) (cell_lt hr)).trans hr)))
  have HG := hid (fun t (ht : 1 ≤ t) => good_sum (F := comeO rel t) (l := l) (fun x hx => good_come (hok x hx) (by omega) hrl.1) (n := block) (by omega))
  have HO := hid (show busyV l block rel = (if fullB l rel = true then (0, 12) else busyS l block rel 5000 1) by unfold busyV; rw [if_pos hR])
  obtain ⟨V, hV⟩ : ∃ V, busyV l block rel = V := ⟨_, rfl⟩
  rw [hV] at HO ⊢
  clear hl hR hok hV hn hlen
  go_enter Try.func59, Try.ntmps59
  go_wp2_with fail
  refine (HR.out _ HB0.out).mono ?_
  rintro e w1 ⟨rfl, hb1⟩
  have HB1 := hid (below_then HB0.out hb1)
  have HQ1 := hid ((fr0 hb1).blk HQ0.out (fun h => h))
  have l0 : w1.cell? ⟨w.heap.size, 0, none⟩ = some (.int .i64 rel) := blk_cell HQ1.out 0
  have HF1 := hid (HFU.out w1 HB1.out)
  clear hb1 HQ0 HB0 HR HFU
  cases hfb : fullB l rel
  case true =>
    rw [hfb] at HF1
    have HV2 := hid (show V = (0, 12) by rw [HO.out, if_pos hfb])
    clear hfb
    go_wp2_with fail
    refine HF1.out.mono ?_
    rintro e w2 ⟨rfl, hb2⟩
    have HB2 := hid (below_then HB1.out hb2)
    clear hb2 l0
    go_wp2_with fail
    go_ret2
    exact ⟨by rw [HV2.out]; rfl, HB2.out⟩
  case false =>
    rw [hfb] at HF1
    have HV2 := hid (show V = busyS l block rel 5000 1 by rw [HO.out, if_neg (by rw [hfb]; simp)])
    clear hfb
    go_wp2_with fail
    refine HF1.out.mono ?_
    rintro e w2 ⟨rfl, hb2⟩
    have HB2 := hid (below_then HB1.out hb2)
    have hq2 := (fr0 hb2).blk HQ1.out (fun h => h)
    have HB3 := hid (below_new HB2.out (.cells #[.int .i64 1] 3))
    have HQ3 := hid (blk_old hq2 (.cells #[.int .i64 1] 3))
    have HN3 := hid (blk_new w2 (.cells #[.int .i64 1] 3))
    have hDl : w.heap.size < w2.heap.size := blk_lt hq2
    clear hb2 l0 hq2 HB1 HQ1 HF1
    go_upto_region 6 with fail
    obtain ⟨D, hD⟩ : ∃ D, w2.heap.size = D := ⟨_, rfl⟩
    rw [hD] at HN3 hDl ⊢
    generalize w2.alloc (.cells #[.int .i64 1] 3) = w3 at *
    clear hD HB2
    go_wp2_with fail
    go_loopw [19] (fun v wr => ∃ (k : Nat) (t : Int), k ≤ 5000 ∧ v = .int .i64 ((5000 - k : Nat) : Int) ∧ Hid (1 ≤ t ∧ t ≤ 9223372036854775807) ∧ Hid (V = busyS l block rel k t) ∧ Hid (wr.heap[D]? = some (.cells #[.int .i64 t] 3 (0, 0))) ∧ Hid (wr.heap[w.heap.size]? = some (.cells #[.int .i64 rel] 3 (0, 0))) ∧ Hid (Below w.heap.size w wr)) (fun v _ => 5000 - (intOf v).toNat)
    case atStart => exact ⟨5000, 1, Nat.le_refl _, rfl, hid (by omega), HV2, HN3, HQ3, HB3⟩
    case round =>
      obtain ⟨k, t, hk, rfl, HT, HVK, HDr, HRr, HBr⟩ := hrel
      cases k with
      | zero =>
        go_wp2_with fail
        go_ret2
        exact ⟨by rw [HVK.out]; rfl, HBr.out⟩
      | succ k =>
        have lD : wr.cell? ⟨D, 0, none⟩ = some (.int .i64 t) := blk_cell HDr.out 0
        have HSM := hid (HS.out D t HT.out wr HBr.out (blk_cell HRr.out 0) lD)
        have HGM := hid (HG.out t HT.out.1)
        have HVS := hid (show V = (match sumO (comeO rel t) block l with | none => (0, 2) | some m => if m ≤ t then (t, 0) else busyS l block rel k m) from HVK.out)
        obtain ⟨sm, hsm⟩ : ∃ s, sumO (comeO rel t) block l = s := ⟨_, rfl⟩
        rw [hsm] at HSM HGM HVS
        have hkk : ((5000 - (k + 1) : Nat) : Int) < 5000 := by omega
        have hki : ((5000 - (k + 1) : Nat) : Int) + 1 = ((5000 - k : Nat) : Int) := by omega
        obtain ⟨q, hq⟩ : ∃ q, 5000 - (k + 1) = q := ⟨_, rfl⟩
        rw [hq] at hkk hki ⊢
        have hqm : 5000 - k ≤ 5000 := by omega
        clear hsm lD
        go_wp2_with fail
        refine HSM.out.mono ?_
        rintro e w4 ⟨rfl, hb4⟩
        have HB4 := hid (below_then HBr.out hb4)
        have HD4 := hid ((fr0 hb4).blk HDr.out (fun h => h))
        have HR4 := hid ((fr0 hb4).blk HRr.out (fun h => h))
        clear hb4 HSM
        cases sm with
        | none =>
          have HV3 := hid (show V = (0, 2) from HVS.out)
          unfold okV
          go_wp2_with fail
          go_ret2
          exact ⟨by rw [HV3.out]; rfl, HB4.out⟩
        | some m =>
          have hm := HGM.out m rfl
          have HV3 := hid (show V = if m ≤ t then (t, 0) else busyS l block rel k m from HVS.out)
          unfold okV
          have lD : w4.cell? ⟨D, 0, none⟩ = some (.int .i64 t) := blk_cell HD4.out 0
          have zD : w4.frozen? ⟨D, 0, none⟩ = false := blk_free HD4.out 0
          by_cases hmt : m ≤ t
          case pos =>
            have HV4 := hid (show V = (t, 0) by rw [HV3.out, if_pos hmt])
            have d1 : decide (m ≤ t) = true := decide_eq_true hmt
            go_wp2_with fail
            go_ret2
            exact ⟨by rw [HV4.out]; rfl, HB4.out⟩
          case neg =>
            have HV4 := hid (show V = busyS l block rel k m by rw [HV3.out, if_neg hmt])
            have d1 : decide (m ≤ t) = false := decide_eq_false hmt
            have hf := (Fr.refl (One D) w4).one 0 (.int .i64 m)
            have HD5 := hid (show (w4.setCell ⟨D, 0, none⟩ (.int .i64 m)).heap[D]? = some (.cells #[.int .i64 m] 3 (0, 0)) from blk_set HD4.out 0 (.int .i64 m))
            have HR5 := hid (hf.blk HR4.out (fun e => by have e2 : w.heap.size = D := e; omega))
            have HB5 := hid (((Fr.of_below (S := NoB) HB4.out).trans hf (fun x hx => .inr (by rw [show x = D from hx]; omega))).no)
            have HM := hid (show 1 ≤ m ∧ m ≤ 9223372036854775807 by have := HT.out; omega)
            clear hf
            go_wp2_with fail
            go_roundw
            case rel => exact ⟨k, m, by omega, (by first | rfl | exact int_eq hki), HM, HV4, HD5, HR5, HB5⟩
            case measure => simp [intOf]; omega
end
end Go.Proofs.Ytppildaahmlfmaa
