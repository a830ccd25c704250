/- Joined: RefList. -/
import Derived.Test.YtppildaahmlfmaaQ09
import Derived.Test.YtppildaahmlfmaaQ03
set_option linter.unusedVariables false
set_option linter.unusedSimpArgs false
/- Package tourbillonref17: list (contract). -/
set_option linter.unusedVariables false
set_option linter.unusedSimpArgs false
namespace Go.Proofs.Ytppildaahmlfmaa
open Go.RowKit

section
variable {w : World}
set_option maxRecDepth 100000 in
set_option maxHeartbeats 6400000 in
theorem rlist_any (S : Sy) (A0 : Option Addr) (n0 c0 task : Nat) (t : Tsk) (A : Option Addr) (n cap : Nat) (pl : List Pc) (hs : IsSys w (.slice A0 n0 c0) S) (hS : RightS S) (ht : S.tasks[task]? = some t) (hl : Rowp 5 pcR w (.slice A n cap) pl) (hw : ∀ p ∈ pl, Pc.Wf p) :
    Calls Try.prog 44 #[sysV S (.slice A0 n0 c0), .int .i64 task, .slice A n cap] w fun e w' => e = .returned (.bool (refListB S t pl)) ∧ Below w.heap.size w w' := by
  have hn := hl.len
  have hn0 := hs.tasks.len
  have hnm : n ≤ 9223372036854775807 := by have := hl.room; unfold maxLen at this; omega
  have hn0m : n0 ≤ 9223372036854775807 := by have := hs.tasks.room; unfold maxLen at this; omega
  have htn : task < n0 := by have := (List.getElem?_eq_some_iff.1 ht).1; omega
  have hTK := hS.tasks t (List.mem_of_getElem? ht)
  obtain ⟨b, o, cs, hA, hbl, _, hc, us, hu1, hu2⟩ := hs.tasks.at ht
  subst hA
  subst hu1
  obtain ⟨A1, c1, hu3, hu4⟩ := hu2.shape
  obtain ⟨m, hm⟩ : ∃ m, m = t.secs.length := ⟨_, rfl⟩
  rw [← hm] at hu3 hu4
  subst hu3
  have hlat := hS.lat
  have hcor := hS.cores
  have hw0 := hTK.w0
  have hw1 := hTK.w1
  have hd0 := hTK.d0
  have hd1 := hTK.d1
  have hp1 := hTK.p1
  have hm' : m ≤ 4 := by rw [hm]; exact hTK.n
  have HLAT := hid (show 0 ≤ S.lat - 1 ∧ S.lat - 1 ≤ 49 by omega)
  have HL := hid hl
  have HW := hid hw
  have HN := hid hn
  have HM := hid hm
  obtain ⟨CS, hCS⟩ : ∃ C, C = sysC S (.slice (some ⟨b, o, none⟩) n0 c0) := ⟨_, rfl⟩
  have HCS := hid hCS
  obtain ⟨tp, td, tw, ss⟩ := t
  simp only at hw0 hw1 hd0 hd1 hp1 hc
  have t0 : w.cell? ⟨b, o + task * 4, none⟩ = some (.int .i64 tp) := by simpa using hc 0 _ rfl
  have t1 : w.cell? ⟨b, o + task * 4 + 1, none⟩ = some (.int .i64 td) := hc 1 _ rfl
  have t2 : w.cell? ⟨b, o + task * 4 + 2, none⟩ = some (.int .i64 tw) := hc 2 _ rfl
  have t3 : w.cell? ⟨b, o + task * 4 + 3, none⟩ = some (.slice A1 m c1) := hc 3 _ rfl
  obtain ⟨CE, hCE⟩ : ∃ C : Array Value, C = #[.int .i64 tp, .int .i64 td, .int .i64 tw, .slice A1 m c1] := ⟨_, rfl⟩
  have HCE := hid hCE
  have HBL := hid hbl
  have T0 := hid t0
  have T1 := hid t1
  have T2 := hid t2
  have T3 := hid t3
  unfold sysV at *
  clear hl hw hn hn0 hm hS ht hs hTK hCS hCE hc hu2 hu4 hbl t0 t1 t2 t3
  go_enter Try.func44, Try.ntmps44
  go_upto_region 1 with fail
  obtain ⟨B, hB⟩ : ∃ B, w.heap.size = B := ⟨_, rfl⟩
  have hq0 := blk_new w (.cells #[.int .i64 S.cores, .int .i64 S.policy, .int .i64 S.prot, .int .i64 S.rel, .int .i64 S.sw, .int .i64 S.fin, .int .i64 S.lat, .int .i64 S.resn, .slice (some ⟨b, o, none⟩) n0 c0] 24)
  have hq1 := below_new (Below.refl w.heap.size w) (.cells #[.int .i64 S.cores, .int .i64 S.policy, .int .i64 S.prot, .int .i64 S.rel, .int .i64 S.sw, .int .i64 S.fin, .int .i64 S.lat, .int .i64 S.resn, .slice (some ⟨b, o, none⟩) n0 c0] 24)
  have hq2 : (w.alloc (.cells #[.int .i64 S.cores, .int .i64 S.policy, .int .i64 S.prot, .int .i64 S.rel, .int .i64 S.sw, .int .i64 S.fin, .int .i64 S.lat, .int .i64 S.resn, .slice (some ⟨b, o, none⟩) n0 c0] 24)).heap.size = w.heap.size + 1 := by simp
  rw [hB] at hq0 hq1 hq2 ⊢
  generalize (w.alloc (.cells #[.int .i64 S.cores, .int .i64 S.policy, .int .i64 S.prot, .int .i64 S.rel, .int .i64 S.sw, .int .i64 S.fin, .int .i64 S.lat, .int .i64 S.resn, .slice (some ⟨b, o, none⟩) n0 c0] 24)) = w1 at hq0 hq1 hq2 ⊢
  have t0 : w1.cell? ⟨b, o + task * 4, none⟩ = some (.int .i64 tp) := (hq1.cell (p := ⟨b, o + task * 4, none⟩) (by rw [← hB]; exact HBL.out)).trans T0.out
  have t1 : w1.cell? ⟨b, o + task * 4 + 1, none⟩ = some (.int .i64 td) := (hq1.cell (p := ⟨b, o + task * 4 + 1, none⟩) (by rw [← hB]; exact HBL.out)).trans T1.out
  have t2 : w1.cell? ⟨b, o + task * 4 + 2, none⟩ = some (.int .i64 tw) := (hq1.cell (p := ⟨b, o + task * 4 + 2, none⟩) (by rw [← hB]; exact HBL.out)).trans T2.out
  have t3 : w1.cell? ⟨b, o + task * 4 + 3, none⟩ = some (.slice A1 m c1) := (hq1.cell (p := ⟨b, o + task * 4 + 3, none⟩) (by rw [← hB]; exact HBL.out)).trans T3.out
  have s8 := blk_cell hq0 8
  have HB := hid hB
  have HQ0 := hid hq0
  have HQ1 := hid hq1
  have HQ2 := hid hq2
  clear hB hq0 hq1 hq2
  go_upto_region 2 with fail
  rw [HQ2.out]
  have hV : LW w (w1.alloc (.cells #[.int .i64 tp, .int .i64 td, .int .i64 tw, .slice A1 m c1] 34)) B CS CE := by
    have h1 := blk_new w1 (.cells #[.int .i64 tp, .int .i64 td, .int .i64 tw, .slice A1 m c1] 34)
    rw [HQ2.out] at h1
    have hb : Below w.heap.size w w1 := by rw [HB.out]; exact HQ1.out
    refine ⟨below_new hb _, ?_, by rw [HCE.out]; exact h1⟩
    rw [HCS.out]
    exact blk_old HQ0.out _
  have HV := hid hV
  clear hV t0 t1 t2 t3 s8
  generalize w1.alloc (.cells #[.int .i64 tp, .int .i64 td, .int .i64 tw, .slice A1 m c1] 34) = w2 at HV ⊢
  clear HQ0 HQ1 HQ2
  by_cases h8 : 8 < n
  case pos =>
    have hd : decide (8 < (n : Int)) = true := decide_eq_true (by omega)
    have hd2 : decide (8 < n) = true := decide_eq_true (by omega)
    have HF := hid (show refListB S ⟨tp, td, tw, ss⟩ pl = false by
      unfold refListB listOkB
      rw [decide_eq_false (show ¬ pl.length ≤ 8 by rw [← HN.out]; omega)]
      simp)
    go_wp2_with fail
    go_ret
    exact ⟨by rw [HF.out]; rfl, HV.out.below⟩
  have hd : decide (8 < (n : Int)) = false := decide_eq_false (by omega)
  have hd2 : decide (8 < n) = false := decide_eq_false (by omega)
  have e1 : w2.cell? ⟨B + 1, 1, none⟩ = some (.int .i64 td) := by rw [blk_cell HV.out.b1 1, HCE.out]; rfl
  go_wp2_with fail
  clear hd hd2 e1
  go_loopw [10, 8, 9] (fun i su lf wr => ∃ k : Nat, k ≤ n ∧ i = .int .i64 k ∧ su = .int .i64 (sumOf (pl.take k)) ∧ lf = .int .i64 (leftOf (S.lat - 1) td (pl.take k)) ∧ Hid (refHead S ⟨tp, td, tw, ss⟩ pl k) ∧ Hid (LW w wr B CS CE)) (fun i _ _ _ => n - (intOf i).toNat)
  case atStart => exact ⟨0, by omega, rfl, rfl, rfl, hid (fun i p hi => by omega), HV⟩
  case round =>
    obtain ⟨k, hk, rfl, rfl, rfl, HH, HVr⟩ := hrel
    obtain ⟨n1, n2, n3, n4⟩ := refHead_num (k := k) HLAT.out HH.out (by rw [← HN.out]; exact hk)
    simp only at n2 n3 n4
    have n5 : (k : Int) * tw ≤ 8 * tw := Int.mul_le_mul_of_nonneg_right (by omega) (by omega)
    obtain ⟨su, hsu⟩ : ∃ x, sumOf (pl.take k) = x := ⟨_, rfl⟩
    obtain ⟨lf, hlf⟩ : ∃ x, leftOf (S.lat - 1) td (pl.take k) = x := ⟨_, rfl⟩
    have HSU := hid hsu
    have HLE := hid hlf
    rw [hsu] at n1 n2 n4 ⊢
    rw [hlf] at n3 n4 ⊢
    have n6 : su ≤ 8 * tw := Int.le_trans n2 n5
    clear hsu hlf n2 n5
    obtain ⟨ws, hws⟩ : ∃ ws, ws = wr := ⟨_, rfl⟩
    subst hws
    by_cases hlt : k < n
    · obtain ⟨p, hp⟩ : ∃ p, pl[k]? = some p := ⟨_, List.getElem?_eq_getElem (by have := HN.out; omega)⟩
      obtain ⟨b2, o2, cs, hA, hbl, _, hc, hr⟩ := HL.out.at hp
      subst hA
      have hr' : cs = [.int .i64 p.core, .int .i64 p.bud, .int .i64 p.dl, .int .i64 p.prio, .bool p.tight] := hr
      subst hr'
      have hpw := HW.out p (List.mem_of_getElem? hp)
      have i1 := hpw.c
      have i2 := hpw.b
      have i3 := hpw.d
      have i4 := hpw.p
      unfold I64 at i1 i2 i3 i4
      have hbr := HVr.out.below
      have HQQ := hid (show ∀ (j : Nat) q, pl[j]? = some q → ∀ W : World, Below w.heap.size w W → W.cell? ⟨b2, o2 + j * 5, none⟩ = some (.int .i64 q.core) from fun j q hq W hW => by
        obtain ⟨b3, o3, cs3, hA3, hbl3, _, hc3, hr3⟩ := HL.out.at hq
        injection hA3 with hA3
        injection hA3 with e1 e2
        subst e1
        subst e2
        have hr3' : cs3 = [.int .i64 q.core, .int .i64 q.bud, .int .i64 q.dl, .int .i64 q.prio, .bool q.tight] := hr3
        subst hr3'
        exact (hW.cell (p := ⟨b2, o2 + j * 5, none⟩) hbl3).trans (by simpa using hc3 0 _ rfl))
      obtain ⟨pc, pb, pd, pp, ti⟩ := p
      simp only at i1 i2 i3 i4 hc
      have HX := hid hp
      have m0 : ws.cell? ⟨b2, o2 + k * 5, none⟩ = some (.int .i64 pc) := (hbr.cell (p := ⟨b2, o2 + k * 5, none⟩) hbl).trans (by simpa using hc 0 _ rfl)
      have m1 : ws.cell? ⟨b2, o2 + k * 5 + 1, none⟩ = some (.int .i64 pb) := (hbr.cell (p := ⟨b2, o2 + k * 5 + 1, none⟩) hbl).trans (hc 1 _ rfl)
      have m2 : ws.cell? ⟨b2, o2 + k * 5 + 2, none⟩ = some (.int .i64 pd) := (hbr.cell (p := ⟨b2, o2 + k * 5 + 2, none⟩) hbl).trans (hc 2 _ rfl)
      have m3 : ws.cell? ⟨b2, o2 + k * 5 + 3, none⟩ = some (.int .i64 pp) := (hbr.cell (p := ⟨b2, o2 + k * 5 + 3, none⟩) hbl).trans (hc 3 _ rfl)
      have m4 : ws.cell? ⟨b2, o2 + k * 5 + 4, none⟩ = some (.bool ti) := (hbr.cell (p := ⟨b2, o2 + k * 5 + 4, none⟩) hbl).trans (hc 4 _ rfl)
      clear hpw hbr hp hc hbl hr
      go_upto_region 10 with fail
      obtain ⟨D, hD⟩ : ∃ D, D = ws.heap.size := ⟨_, rfl⟩
      rw [← hD]
      generalize hw3 : ws.alloc (.cells #[.int .i64 pc, .int .i64 pb, .int .i64 pd, .int .i64 pp, .bool ti] 41) = w3
      have HV3 : Hid (LW w w3 B CS CE) := by rw [← hw3]; exact hid (HVr.out.new _)
      have hblk : w3.heap[D]? = some (.cells #[.int .i64 pc, .int .i64 pb, .int .i64 pd, .int .i64 pp, .bool ti] 41 (0, 0)) := by rw [← hw3, hD]; exact blk_new _ _
      have HDB := hid hblk
      have d0 : w3.cell? ⟨D, 0, none⟩ = some (.int .i64 pc) := blk_cell hblk 0
      have d1 : w3.cell? ⟨D, 1, none⟩ = some (.int .i64 pb) := blk_cell hblk 1
      have d4 : w3.cell? ⟨D, 4, none⟩ = some (.bool ti) := blk_cell hblk 4
      have e0 : w3.cell? ⟨B, 0, none⟩ = some (.int .i64 S.cores) := by rw [blk_cell HV3.out.b0 0, HCS.out]; rfl
      have e2 : w3.cell? ⟨B + 1, 2, none⟩ = some (.int .i64 tw) := by rw [blk_cell HV3.out.b1 2, HCE.out]; rfl
      have e3 : w3.cell? ⟨B + 1, 3, none⟩ = some (.slice A1 m c1) := by rw [blk_cell HV3.out.b1 3, HCE.out]; rfl
      clear hw3 hD hblk m0 m1 m2 m3 m4
      cases ti
      case true =>
        cases x1 : decide (pc < 0)
        case true =>
          have x1' := of_decide_eq_true x1
          have HF := hid (show refListB S ⟨tp, td, tw, ss⟩ pl = false from ref_bad HLAT.out HX.out (.inl (by rw [HLE.out]; unfold refP; rw [decide_eq_false (fun h => by dsimp only at h; omega)]; rfl)))
          go_wp2_with fail
          go_ret
          exact ⟨by rw [HF.out]; rfl, HV3.out.below⟩
        have x1' := of_decide_eq_false x1
        cases x2 : decide (S.cores ≤ pc)
        case true =>
          have x2' := of_decide_eq_true x2
          have HF := hid (show refListB S ⟨tp, td, tw, ss⟩ pl = false from ref_bad HLAT.out HX.out (.inl (by rw [HLE.out]; unfold refP; rw [decide_eq_false (fun h => by dsimp only at h; omega)]; rfl)))
          go_wp2_with fail
          go_ret
          exact ⟨by rw [HF.out]; rfl, HV3.out.below⟩
        have x2' := of_decide_eq_false x2
        cases x3 : decide (pb < 1)
        case true =>
          have x3' := of_decide_eq_true x3
          have HF := hid (show refListB S ⟨tp, td, tw, ss⟩ pl = false from ref_bad HLAT.out HX.out (.inl (by rw [HLE.out]; unfold refP; rw [decide_eq_false (fun h => by dsimp only at h; omega)]; rfl)))
          go_wp2_with fail
          go_ret
          exact ⟨by rw [HF.out]; rfl, HV3.out.below⟩
        have x3' := of_decide_eq_false x3
        cases x4 : decide (tw < pb)
        case true =>
          have x4' := of_decide_eq_true x4
          have HF := hid (show refListB S ⟨tp, td, tw, ss⟩ pl = false from ref_bad HLAT.out HX.out (.inl (by rw [HLE.out]; unfold refP; rw [decide_eq_false (fun h => by dsimp only at h; omega)]; rfl)))
          go_wp2_with fail
          go_ret
          exact ⟨by rw [HF.out]; rfl, HV3.out.below⟩
        have x4' := of_decide_eq_false x4
        cases x5 : decide (0 < (m : Int))
        case true =>
          have x5' := of_decide_eq_true x5
          have x5n : decide (0 < m) = true := decide_eq_true (by omega)
          have HF := hid (show refListB S ⟨tp, td, tw, ss⟩ pl = false from ref_bad HLAT.out HX.out (.inl (by rw [HLE.out]; unfold refP; rw [show ss.isEmpty = false by have := HM.out; cases ss with | nil => simp at this; omega | cons a l => rfl]; simp)))
          go_wp2_with fail
          go_ret
          exact ⟨by rw [HF.out]; rfl, HV3.out.below⟩
        have x5' := of_decide_eq_false x5
        have x5n : decide (0 < m) = false := decide_eq_false (by omega)
        have NOSEC := hid (show ss.isEmpty = true by have := HM.out; cases ss with | nil => rfl | cons a l => simp at this; omega)
        have HV4 := HV3
        go_wp2_with fail
        clear d0 d1 d4 e0 e2 e3
        go_loopw [13] (fun v wr => ∃ j : Nat, j ≤ k ∧ v = .int .i64 j ∧ Hid (∀ (i : Nat) q, i < j → pl[i]? = some q → q.core ≠ pc) ∧ Hid (LW w wr B CS CE) ∧ Hid (wr.heap[D]? = some (.cells #[.int .i64 pc, .int .i64 pb, .int .i64 pd, .int .i64 pp, .bool true] 41 (0, 0)))) (fun v _ => k - (intOf v).toNat)
        case atStart => exact ⟨0, by omega, rfl, hid (fun i q hi => by omega), HV3, HDB⟩
        case round =>
          obtain ⟨j, hj, rfl, HJ, HV5, HDR⟩ := hrel
          by_cases hjk : j < k
          · obtain ⟨q, hq⟩ : ∃ q, pl[j]? = some q := ⟨_, List.getElem?_eq_getElem (by have := HN.out; omega)⟩
            have g0 := HQQ.out j q hq wr HV5.out.below
            have g1 : wr.cell? ⟨D, 0, none⟩ = some (.int .i64 pc) := blk_cell HDR.out 0
            have hjn : j < n := by omega
            obtain ⟨qc, hqc⟩ : ∃ qc, q.core = qc := ⟨_, rfl⟩
            rw [hqc] at g0
            have HQC := hid hqc
            have HQJ := hid hq
            clear hq hqc
            go_upto_region 16 with fail
            go_quiet (fail)
            have HV6 : Hid (LW w (wr.drewN nq) B CS CE) := hid (HV5.out.later (below_drewN' (Below.refl _ _) nq))
            have HDR6 : Hid ((wr.drewN nq).heap[D]? = some (.cells #[.int .i64 pc, .int .i64 pb, .int .i64 pd, .int .i64 pp, .bool true] 41 (0, 0))) := hid ((fr0 (below_drewN' (Below.refl _ _) nq)).blk HDR.out (fun h => h))
            generalize wr.drewN nq = wq at *
            clear g0 g1 HV5 HDR
            by_cases hcc : qc = pc
            · have hcb : (qc == pc) = true := beq_iff_eq.2 hcc
              have HF := hid (show refListB S ⟨tp, td, tw, ss⟩ pl = false from ref_bad HLAT.out HX.out (.inr ⟨j, q, hjk, HQJ.out, by rw [HQC.out]; exact hcc⟩))
              clear hcc
              go_wp2_with fail
              go_ret
              exact ⟨by rw [HF.out]; rfl, HV6.out.below⟩
            · have hcb : (qc == pc) = false := beq_eq_false_iff_ne.2 hcc
              have HJ2 := hid (show ∀ (i : Nat) q, i < j + 1 → pl[i]? = some q → q.core ≠ pc from fun i q' hi hq' => by
                by_cases e : i = j
                · subst e
                  rw [HQJ.out] at hq'
                  injection hq' with hq'
                  rw [← hq', HQC.out]
                  exact hcc
                · exact HJ.out i q' (by omega) hq')
              clear hcc
              go_wp2_with fail
              go_roundw
              case rel => exact ⟨j + 1, by omega, by go_num, HJ2, HV6, HDR6⟩
              case measure => simp [intOf]; omega
          · obtain rfl : k = j := by omega
            have HALL := HJ
            have d0 : wr.cell? ⟨D, 0, none⟩ = some (.int .i64 pc) := blk_cell HDR.out 0
            have d1 : wr.cell? ⟨D, 1, none⟩ = some (.int .i64 pb) := blk_cell HDR.out 1
            have d2 : wr.cell? ⟨D, 2, none⟩ = some (.int .i64 pd) := blk_cell HDR.out 2
            have d4 : wr.cell? ⟨D, 4, none⟩ = some (.bool true) := blk_cell HDR.out 4
            have e6 : wr.cell? ⟨B, 6, none⟩ = some (.int .i64 S.lat) := by rw [blk_cell HV5.out.b0 6, HCS.out]; rfl
            cases y1 : (pd != pb)
            case true =>
              have y1' : pd ≠ pb := by simpa using y1
              have HF := hid (show refListB S ⟨tp, td, tw, ss⟩ pl = false from ref_bad HLAT.out HX.out (.inl (by rw [HLE.out]; unfold refP; rw [Bool.and_eq_false_iff]; right; rw [if_pos rfl]; exact decide_eq_false (fun h => y1' h))))
              go_wp2_with fail
              go_ret
              exact ⟨by rw [HF.out]; rfl, HV5.out.below⟩
            have y1' := hid (show pd = pb by simpa using y1)
            have HRP := hid (show refP S.cores tw ss.isEmpty lf (decide (k + 1 = pl.length)) ⟨pc, pb, pd, pp, true⟩ = true by unfold refP; rw [decide_eq_true (show 0 ≤ pc ∧ pc < S.cores ∧ 1 ≤ pb ∧ pb ≤ tw by omega), NOSEC.out]; simp; exact y1'.out)
            have HH2 := hid (refHead_succ HH.out HX.out (by rw [HLE.out]; exact HRP.out) HALL.out)
            have HS2 := hid (show sumOf (pl.take (k + 1)) = su + pb by rw [take_next HX.out, sumOf_append, HSU.out]; simp [sumOf])
            have HL2 := hid (show leftOf (S.lat - 1) td (pl.take (k + 1)) = lf - pb - (S.lat - 1) by rw [take_next HX.out, leftOf_snoc, HLE.out]; show lf - (pb + (S.lat - 1)) = _; omega)
            have hs0 : IntKind.i64.wrap (su + pb) = su + pb := wraps_i64 _ (by omega) (by omega)
            have hs1 : IntKind.i64.wrap (lf - pb) = lf - pb := wraps_i64 _ (by omega) (by omega)
            have hs2 : IntKind.i64.wrap (lf - pb - (S.lat - 1)) = lf - pb - (S.lat - 1) := wraps_i64 _ (by omega) (by omega)
            go_wp2_with fail
            go_roundw
            case rel => exact ⟨k + 1, by omega, by go_num, by rw [HS2.out], by rw [HL2.out], HH2, HV5⟩
            case measure => simp [intOf]; omega
      case false =>
        cases x1 : decide (pc < 0)
        case true =>
          have x1' := of_decide_eq_true x1
          have HF := hid (show refListB S ⟨tp, td, tw, ss⟩ pl = false from ref_bad HLAT.out HX.out (.inl (by rw [HLE.out]; unfold refP; rw [decide_eq_false (fun h => by dsimp only at h; omega)]; rfl)))
          go_wp2_with fail
          go_ret
          exact ⟨by rw [HF.out]; rfl, HV3.out.below⟩
        have x1' := of_decide_eq_false x1
        cases x2 : decide (S.cores ≤ pc)
        case true =>
          have x2' := of_decide_eq_true x2
          have HF := hid (show refListB S ⟨tp, td, tw, ss⟩ pl = false from ref_bad HLAT.out HX.out (.inl (by rw [HLE.out]; unfold refP; rw [decide_eq_false (fun h => by dsimp only at h; omega)]; rfl)))
          go_wp2_with fail
          go_ret
          exact ⟨by rw [HF.out]; rfl, HV3.out.below⟩
        have x2' := of_decide_eq_false x2
        cases x3 : decide (pb < 1)
        case true =>
          have x3' := of_decide_eq_true x3
          have HF := hid (show refListB S ⟨tp, td, tw, ss⟩ pl = false from ref_bad HLAT.out HX.out (.inl (by rw [HLE.out]; unfold refP; rw [decide_eq_false (fun h => by dsimp only at h; omega)]; rfl)))
          go_wp2_with fail
          go_ret
          exact ⟨by rw [HF.out]; rfl, HV3.out.below⟩
        have x3' := of_decide_eq_false x3
        cases x4 : decide (tw < pb)
        case true =>
          have x4' := of_decide_eq_true x4
          have HF := hid (show refListB S ⟨tp, td, tw, ss⟩ pl = false from ref_bad HLAT.out HX.out (.inl (by rw [HLE.out]; unfold refP; rw [decide_eq_false (fun h => by dsimp only at h; omega)]; rfl)))
          go_wp2_with fail
          go_ret
          exact ⟨by rw [HF.out]; rfl, HV3.out.below⟩
        have x4' := of_decide_eq_false x4
        cases x5 : ((k : Int) == (n : Int) - 1)
        case false =>
          have x5' : ¬ (k + 1 = n) := fun h => by have := beq_eq_false_iff_ne.1 x5; omega
          have HF := hid (show refListB S ⟨tp, td, tw, ss⟩ pl = false from ref_bad HLAT.out HX.out (.inl (by rw [HLE.out]; unfold refP; rw [decide_eq_false (show ¬ (k + 1 = pl.length) from fun h => x5' (by rw [HN.out]; exact h))]; simp)))
          go_wp2_with fail
          go_ret
          exact ⟨by rw [HF.out]; rfl, HV3.out.below⟩
        have x5' := hid (show k + 1 = n by have := beq_iff_eq.1 x5; omega)
        have LASTK := x5'
        have HV4 := HV3
        go_wp2_with fail
        clear d0 d1 d4 e0 e2 e3
        go_loopw [13] (fun v wr => ∃ j : Nat, j ≤ k ∧ v = .int .i64 j ∧ Hid (∀ (i : Nat) q, i < j → pl[i]? = some q → q.core ≠ pc) ∧ Hid (LW w wr B CS CE) ∧ Hid (wr.heap[D]? = some (.cells #[.int .i64 pc, .int .i64 pb, .int .i64 pd, .int .i64 pp, .bool false] 41 (0, 0)))) (fun v _ => k - (intOf v).toNat)
        case atStart => exact ⟨0, by omega, rfl, hid (fun i q hi => by omega), HV3, HDB⟩
        case round =>
          obtain ⟨j, hj, rfl, HJ, HV5, HDR⟩ := hrel
          by_cases hjk : j < k
          · obtain ⟨q, hq⟩ : ∃ q, pl[j]? = some q := ⟨_, List.getElem?_eq_getElem (by have := HN.out; omega)⟩
            have g0 := HQQ.out j q hq wr HV5.out.below
            have g1 : wr.cell? ⟨D, 0, none⟩ = some (.int .i64 pc) := blk_cell HDR.out 0
            have hjn : j < n := by omega
            obtain ⟨qc, hqc⟩ : ∃ qc, q.core = qc := ⟨_, rfl⟩
            rw [hqc] at g0
            have HQC := hid hqc
            have HQJ := hid hq
            clear hq hqc
            go_upto_region 16 with fail
            go_quiet (fail)
            have HV6 : Hid (LW w (wr.drewN nq) B CS CE) := hid (HV5.out.later (below_drewN' (Below.refl _ _) nq))
            have HDR6 : Hid ((wr.drewN nq).heap[D]? = some (.cells #[.int .i64 pc, .int .i64 pb, .int .i64 pd, .int .i64 pp, .bool false] 41 (0, 0))) := hid ((fr0 (below_drewN' (Below.refl _ _) nq)).blk HDR.out (fun h => h))
            generalize wr.drewN nq = wq at *
            clear g0 g1 HV5 HDR
            by_cases hcc : qc = pc
            · have hcb : (qc == pc) = true := beq_iff_eq.2 hcc
              have HF := hid (show refListB S ⟨tp, td, tw, ss⟩ pl = false from ref_bad HLAT.out HX.out (.inr ⟨j, q, hjk, HQJ.out, by rw [HQC.out]; exact hcc⟩))
              clear hcc
              go_wp2_with fail
              go_ret
              exact ⟨by rw [HF.out]; rfl, HV6.out.below⟩
            · have hcb : (qc == pc) = false := beq_eq_false_iff_ne.2 hcc
              have HJ2 := hid (show ∀ (i : Nat) q, i < j + 1 → pl[i]? = some q → q.core ≠ pc from fun i q' hi hq' => by
                by_cases e : i = j
                · subst e
                  rw [HQJ.out] at hq'
                  injection hq' with hq'
                  rw [← hq', HQC.out]
                  exact hcc
                · exact HJ.out i q' (by omega) hq')
              clear hcc
              go_wp2_with fail
              go_roundw
              case rel => exact ⟨j + 1, by omega, by go_num, HJ2, HV6, HDR6⟩
              case measure => simp [intOf]; omega
          · obtain rfl : k = j := by omega
            have HALL := HJ
            have d0 : wr.cell? ⟨D, 0, none⟩ = some (.int .i64 pc) := blk_cell HDR.out 0
            have d1 : wr.cell? ⟨D, 1, none⟩ = some (.int .i64 pb) := blk_cell HDR.out 1
            have d2 : wr.cell? ⟨D, 2, none⟩ = some (.int .i64 pd) := blk_cell HDR.out 2
            have d4 : wr.cell? ⟨D, 4, none⟩ = some (.bool false) := blk_cell HDR.out 4
            have e6 : wr.cell? ⟨B, 6, none⟩ = some (.int .i64 S.lat) := by rw [blk_cell HV5.out.b0 6, HCS.out]; rfl
            cases y1 : (pd != lf)
            case true =>
              have y1' : pd ≠ lf := by simpa using y1
              have HF := hid (show refListB S ⟨tp, td, tw, ss⟩ pl = false from ref_bad HLAT.out HX.out (.inl (by rw [HLE.out]; unfold refP; rw [Bool.and_eq_false_iff]; right; rw [if_neg (by simp)]; exact decide_eq_false (fun h => y1' h.1))))
              go_wp2_with fail
              go_ret
              exact ⟨by rw [HF.out]; rfl, HV5.out.below⟩
            have y1' := hid (show pd = lf by simpa using y1)
            cases y2 : decide (lf < 1)
            case true =>
              have y2' := of_decide_eq_true y2
              have HF := hid (show refListB S ⟨tp, td, tw, ss⟩ pl = false from ref_bad HLAT.out HX.out (.inl (by rw [HLE.out]; unfold refP; rw [Bool.and_eq_false_iff]; right; rw [if_neg (by simp)]; exact decide_eq_false (fun h => by have := h.2; omega))))
              go_wp2_with fail
              go_ret
              exact ⟨by rw [HF.out]; rfl, HV5.out.below⟩
            have y2' := of_decide_eq_false y2
            have HRP := hid (show refP S.cores tw ss.isEmpty lf (decide (k + 1 = pl.length)) ⟨pc, pb, pd, pp, false⟩ = true by unfold refP; rw [decide_eq_true (show 0 ≤ pc ∧ pc < S.cores ∧ 1 ≤ pb ∧ pb ≤ tw by omega), decide_eq_true (show k + 1 = pl.length by rw [← HN.out]; exact LASTK.out)]; simp; exact ⟨y1'.out, by omega⟩)
            have HH2 := hid (refHead_succ HH.out HX.out (by rw [HLE.out]; exact HRP.out) HALL.out)
            have HS2 := hid (show sumOf (pl.take (k + 1)) = su + pb by rw [take_next HX.out, sumOf_append, HSU.out]; simp [sumOf])
            have HL2 := hid (show leftOf (S.lat - 1) td (pl.take (k + 1)) = lf - pb - (S.lat - 1) by rw [take_next HX.out, leftOf_snoc, HLE.out]; show lf - (pb + (S.lat - 1)) = _; omega)
            have hs0 : IntKind.i64.wrap (su + pb) = su + pb := wraps_i64 _ (by omega) (by omega)
            have hs1 : IntKind.i64.wrap (lf - pb) = lf - pb := wraps_i64 _ (by omega) (by omega)
            have hs2 : IntKind.i64.wrap (lf - pb - (S.lat - 1)) = lf - pb - (S.lat - 1) := wraps_i64 _ (by omega) (by omega)
            go_wp2_with fail
            go_roundw
            case rel => exact ⟨k + 1, by omega, by go_num, by rw [HS2.out], by rw [HL2.out], HH2, HV5⟩
            case measure => simp [intOf]; omega
    · obtain rfl : k = n := by omega
      have HSA := hid (show su = sumOf pl by rw [← HSU.out, HN.out, List.take_length])
      have HF := hid (show refListB S ⟨tp, td, tw, ss⟩ pl = refEnd tw pl from ref_iff (by rw [← HN.out]; omega) (by rw [← HN.out]; exact HH.out))
      by_cases h0 : k = 0
      case pos =>
        have hz : ((k : Int) == 0) = true := by rw [h0]; rfl
        have HF2 := hid (show refListB S ⟨tp, td, tw, ss⟩ pl = true by
          rw [HF.out]
          unfold refEnd
          rw [show pl = [] from List.length_eq_zero_iff.1 (by rw [← HN.out]; exact h0)]
          rfl)
        clear h0
        go_wp2_with fail
        go_ret
        exact ⟨by rw [HF2.out]; rfl, HVr.out.below⟩
      have hz : ((k : Int) == 0) = false := beq_eq_false_iff_ne.2 (by omega)
      obtain ⟨q, hq⟩ : ∃ q : Nat, q + 1 = k := ⟨k - 1, by omega⟩
      obtain ⟨p, hp⟩ : ∃ p, pl[q]? = some p := ⟨_, List.getElem?_eq_getElem (by have := HN.out; omega)⟩
      obtain ⟨b2, o2, cs, hA, hbl, _, hc, hr⟩ := HL.out.at hp
      subst hA
      have hr' : cs = [.int .i64 p.core, .int .i64 p.bud, .int .i64 p.dl, .int .i64 p.prio, .bool p.tight] := hr
      subst hr'
      have m4 : ws.cell? ⟨b2, o2 + q * 5 + 4, none⟩ = some (.bool p.tight) := (HVr.out.below.cell (p := ⟨b2, o2 + q * 5 + 4, none⟩) hbl).trans (hc 4 _ rfl)
      have HE := hid (show refEnd tw pl = if p.tight then decide (su < tw) else decide (su = tw) by
        unfold refEnd
        rw [show pl.length - 1 = q by rw [← HN.out]; omega, hp, HSA.out])
      have hwr : IntKind.i64.wrap ((k : Int) - 1) = (q : Int) := by
        have : (k : Int) - 1 = (q : Int) := by omega
        rw [this]
        exact wraps_i64 _ (by omega) (by omega)
      have hqk : q < k := by omega
      have e2 : ws.cell? ⟨B + 1, 2, none⟩ = some (.int .i64 tw) := by rw [blk_cell HVr.out.b1 2, HCE.out]; rfl
      obtain ⟨ti, hti⟩ : ∃ ti, p.tight = ti := ⟨_, rfl⟩
      rw [hti] at m4 HE
      have HQ := hid hq
      clear hp hc hr hbl hti hq h0
      cases ti
      case true =>
        go_wp2_with fail
        go_ret
        exact ⟨by rw [HF.out, HE.out]; rfl, HVr.out.below⟩
      case false =>
        go_wp2_with fail
        go_ret
        exact ⟨by rw [HF.out, HE.out]; rfl, HVr.out.below⟩
end
end Go.Proofs.Ytppildaahmlfmaa
