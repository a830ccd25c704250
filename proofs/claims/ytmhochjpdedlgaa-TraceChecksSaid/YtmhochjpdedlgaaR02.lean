/- Joined: RJob22. -/
import Derived.Test.YtmhochjpdedlgaaQ44
import Derived.Deep.QuietTactic
import Derived.BigQuiet
/- Package tourbillonref22: job (contract): the same jobB. -/
set_option linter.unusedVariables false
set_option linter.unusedSimpArgs false
namespace Go.Proofs.Ytmhochjpdedlgaa
open Go.RowKit

section
variable {w : World}
set_option maxRecDepth 100000 in
set_option maxHeartbeats 12800000 in
theorem rjob_any (S : Sy) (X : Tr) (At : Option Addr) (nt ct : Nat) (ev cv : Value) (A : Option Addr) (n cp : Nat) (A2 : Option Addr) (m c2 : Nat) (i : Nat)
    (h : IsTr w (.slice A n cp) (.slice A2 m c2) X) (hT : Rowp 4 tskR w (.slice At nt ct) S.tasks)
    (hS : RightS S) (hi : i < m) (hn6 : n ≤ 1000000) (hw : ∀ y ∈ X.jobs, I64 y.arr) (hpos : ∀ k y, k < i → X.jobs[k]? = some y → 0 ≤ y.arr) :
    Calls Try.prog 38 #[tabV S (.slice At nt ct) ev cv, trV (.slice A n cp) (.slice A2 m c2), .int .i64 i] w fun e w' => e = .returned (.bool (jobB S X i)) ∧ Below w.heap.size w w' := by
  have hn := h.slots.len
  have hm := h.jobs.len
  have hnt := hT.len
  have hmm : m ≤ 9223372036854775807 := by have := h.jobs.room; unfold maxLen at this; omega
  obtain ⟨j, hj⟩ : ∃ j, X.jobs[i]? = some j := ⟨_, List.getElem?_eq_getElem (by omega)⟩
  obtain ⟨b, o, cs, hA, hbl, _, hc, hr⟩ := h.jobs.at hj
  subst hA
  have hr' : cs = [.int .i64 j.task, .int .i64 j.arr, .int .i64 j.fin, .bool j.cut, .bool j.miss] := hr
  subst hr'
  have hjw := hw j (List.mem_of_getElem? hj)
  unfold I64 at hjw
  have HX := hid h
  have HN := hid hn
  have HM := hid hm
  have HNT := hid hnt
  have HJ := hid hj
  have HTS := hid hT
  have HPO := hid hpos
  have HWF := hid hw
  have HSS := hid hS
  obtain ⟨jt, ja, jf, jc, jm⟩ := j
  simp only at hc hjw
  have hz : ∀ (w : World) o, (w.alloc o).heap.size = w.heap.size + 1 := fun w o => by simp
  obtain ⟨wb, hwb⟩ : ∃ wb, wb = (w.alloc (.cells #[.int .i64 S.cores, .int .i64 S.policy, .int .i64 S.prot, .int .i64 S.rel, .int .i64 S.sw, .int .i64 S.fin, .int .i64 S.lat, .int .i64 S.resn, .slice At nt ct, ev, cv] 28)).alloc (.cells #[.slice A n cp, .slice (some ⟨b, o, none⟩) m c2] 32) := ⟨_, rfl⟩
  have hq0 := blk_old (blk_new w (.cells #[.int .i64 S.cores, .int .i64 S.policy, .int .i64 S.prot, .int .i64 S.rel, .int .i64 S.sw, .int .i64 S.fin, .int .i64 S.lat, .int .i64 S.resn, .slice At nt ct, ev, cv] 28)) (.cells #[.slice A n cp, .slice (some ⟨b, o, none⟩) m c2] 32)
  have hq1 := blk_new (w.alloc (.cells #[.int .i64 S.cores, .int .i64 S.policy, .int .i64 S.prot, .int .i64 S.rel, .int .i64 S.sw, .int .i64 S.fin, .int .i64 S.lat, .int .i64 S.resn, .slice At nt ct, ev, cv] 28)) (.cells #[.slice A n cp, .slice (some ⟨b, o, none⟩) m c2] 32)
  have hbb := below_new (below_new (Below.refl w.heap.size w) (.cells #[.int .i64 S.cores, .int .i64 S.policy, .int .i64 S.prot, .int .i64 S.rel, .int .i64 S.sw, .int .i64 S.fin, .int .i64 S.lat, .int .i64 S.resn, .slice At nt ct, ev, cv] 28)) (.cells #[.slice A n cp, .slice (some ⟨b, o, none⟩) m c2] 32)
  rw [hz] at hq1
  rw [← hwb] at hq0 hq1 hbb
  have e0 : wb.cell? ⟨b, o + i * 5, none⟩ = some (.int .i64 jt) := (hbb.cell (p := ⟨b, o + i * 5, none⟩) hbl).trans (by simpa using hc 0 _ rfl)
  have e1 : wb.cell? ⟨b, o + i * 5 + 1, none⟩ = some (.int .i64 ja) := (hbb.cell (p := ⟨b, o + i * 5 + 1, none⟩) hbl).trans (hc 1 _ rfl)
  have e2 : wb.cell? ⟨b, o + i * 5 + 2, none⟩ = some (.int .i64 jf) := (hbb.cell (p := ⟨b, o + i * 5 + 2, none⟩) hbl).trans (hc 2 _ rfl)
  have e3 : wb.cell? ⟨b, o + i * 5 + 3, none⟩ = some (.bool jc) := (hbb.cell (p := ⟨b, o + i * 5 + 3, none⟩) hbl).trans (hc 3 _ rfl)
  have e4 : wb.cell? ⟨b, o + i * 5 + 4, none⟩ = some (.bool jm) := (hbb.cell (p := ⟨b, o + i * 5 + 4, none⟩) hbl).trans (hc 4 _ rfl)
  have g0 : wb.cell? ⟨w.heap.size + 1, 0, none⟩ = some (.slice A n cp) := blk_cell hq1 0
  have g1 : wb.cell? ⟨w.heap.size + 1, 1, none⟩ = some (.slice (some ⟨b, o, none⟩) m c2) := blk_cell hq1 1
  have hbl2 := blk_lt hq1
  have HQA := hid hq0
  have HQB := hid hq1
  have HBB := hid hbb
  unfold tabV tabC trV
  clear h hT hn hm hnt hj hc hr hbl hpos hw hS hz hq0 hq1 hbb
  go_enter Try.func38, Try.ntmps38
  go_upto_region 1 with fail
  rw [← hwb]
  clear hwb
  go_upto_region 3 with fail
  have HB0 := hid (below_new HBB.out (.cells #[.int .i64 jt, .int .i64 ja, .int .i64 jf, .bool jc, .bool jm] 45))
  have hd0 := blk_new wb (.cells #[.int .i64 jt, .int .i64 ja, .int .i64 jf, .bool jc, .bool jm] 45)
  have HTA := hid (blk_old HQA.out (.cells #[.int .i64 jt, .int .i64 ja, .int .i64 jf, .bool jc, .bool jm] 45))
  have HTB := hid (blk_old HQB.out (.cells #[.int .i64 jt, .int .i64 ja, .int .i64 jf, .bool jc, .bool jm] 45))
  generalize wb.alloc (.cells #[.int .i64 jt, .int .i64 ja, .int .i64 jf, .bool jc, .bool jm] 45) = w1 at *
  obtain ⟨D, hD⟩ : ∃ D, wb.heap.size = D := ⟨_, rfl⟩
  rw [hD] at hd0 ⊢
  have HQ0 := hid hd0
  clear e0 e1 e2 e3 e4 g0 g1 hd0 hD hbl2
  have f0 : w1.cell? ⟨D, 0, none⟩ = some (.int .i64 jt) := blk_cell HQ0.out 0
  have f1 : w1.cell? ⟨D, 1, none⟩ = some (.int .i64 ja) := blk_cell HQ0.out 1
  have f2 : w1.cell? ⟨D, 2, none⟩ = some (.int .i64 jf) := blk_cell HQ0.out 2
  have k8 : w1.cell? ⟨w.heap.size, 8, none⟩ = some (.slice At nt ct) := blk_cell HTA.out 8
  have k12 : w1.cell? ⟨w.heap.size + 1, 1, none⟩ = some (.slice (some ⟨b, o, none⟩) m c2) := blk_cell HTB.out 1
  have HH := hid (show jobHead S.tasks.length X.slots.length ⟨jt, ja, jf, jc, jm⟩ = decide (0 ≤ jt ∧ jt < nt ∧ 0 ≤ ja ∧ -1 ≤ jf ∧ jf ≤ n ∧ (jf = -1 ∨ ja < jf)) from by unfold jobHead; rw [← HNT.out, ← HN.out])
  go_cut [71] (fun v wx => ∃ gb : Bool, v = .bool gb ∧ Hid (gb = !(jobHead S.tasks.length X.slots.length ⟨jt, ja, jf, jc, jm⟩ && orderB X.jobs i ⟨jt, ja, jf, jc, jm⟩)) ∧ Hid (Below w.heap.size w wx) ∧ Hid (wx.heap[D]? = some (.cells #[.int .i64 jt, .int .i64 ja, .int .i64 jf, .bool jc, .bool jm] 45 (0, 0))) ∧ Hid (wx.heap[w.heap.size]? = some (.cells #[.int .i64 S.cores, .int .i64 S.policy, .int .i64 S.prot, .int .i64 S.rel, .int .i64 S.sw, .int .i64 S.fin, .int .i64 S.lat, .int .i64 S.resn, .slice At nt ct, ev, cv] 28 (0, 0))) ∧ Hid (wx.heap[w.heap.size + 1]? = some (.cells #[.slice A n cp, .slice (some ⟨b, o, none⟩) m c2] 32 (0, 0))))
  case first =>
    as_aux_lemma =>
      cases x1 : decide (jt < 0)
      case true =>
        have x1' := of_decide_eq_true x1
        as_aux_lemma =>
          have HG := hid (show true = !(jobHead S.tasks.length X.slots.length ⟨jt, ja, jf, jc, jm⟩ && orderB X.jobs i ⟨jt, ja, jf, jc, jm⟩) from by rw [HH.out, decide_eq_false (by omega)]; rfl)
          go_quiet (fail)
          have HBQ := hid (below_drewN' HB0.out nq)
          have HQQ := hid (show (w1.drewN nq).heap[D]? = _ from HQ0.out)
          have HQT := hid (show (w1.drewN nq).heap[w.heap.size]? = _ from HTA.out)
          have HQX := hid (show (w1.drewN nq).heap[w.heap.size + 1]? = _ from HTB.out)
          clear f0 f1 f2 k8 k12
          go_wp2_with fail
          go_meet
          exact ⟨_, rfl, HG, HBQ, HQQ, HQT, HQX⟩
      have x1' := of_decide_eq_false x1
      cases x2 : decide ((nt : Int) ≤ jt)
      case true =>
        have x2' := of_decide_eq_true x2
        as_aux_lemma =>
          have HG := hid (show true = !(jobHead S.tasks.length X.slots.length ⟨jt, ja, jf, jc, jm⟩ && orderB X.jobs i ⟨jt, ja, jf, jc, jm⟩) from by rw [HH.out, decide_eq_false (by omega)]; rfl)
          go_quiet (fail)
          have HBQ := hid (below_drewN' HB0.out nq)
          have HQQ := hid (show (w1.drewN nq).heap[D]? = _ from HQ0.out)
          have HQT := hid (show (w1.drewN nq).heap[w.heap.size]? = _ from HTA.out)
          have HQX := hid (show (w1.drewN nq).heap[w.heap.size + 1]? = _ from HTB.out)
          clear f0 f1 f2 k8 k12
          go_wp2_with fail
          go_meet
          exact ⟨_, rfl, HG, HBQ, HQQ, HQT, HQX⟩
      have x2' := of_decide_eq_false x2
      cases x3 : decide (ja < 0)
      case true =>
        have x3' := of_decide_eq_true x3
        as_aux_lemma =>
          have HG := hid (show true = !(jobHead S.tasks.length X.slots.length ⟨jt, ja, jf, jc, jm⟩ && orderB X.jobs i ⟨jt, ja, jf, jc, jm⟩) from by rw [HH.out, decide_eq_false (by omega)]; rfl)
          go_quiet (fail)
          have HBQ := hid (below_drewN' HB0.out nq)
          have HQQ := hid (show (w1.drewN nq).heap[D]? = _ from HQ0.out)
          have HQT := hid (show (w1.drewN nq).heap[w.heap.size]? = _ from HTA.out)
          have HQX := hid (show (w1.drewN nq).heap[w.heap.size + 1]? = _ from HTB.out)
          clear f0 f1 f2 k8 k12
          go_wp2_with fail
          go_meet
          exact ⟨_, rfl, HG, HBQ, HQQ, HQT, HQX⟩
      have x3' := of_decide_eq_false x3
      by_cases y6 : jf = -1
      case pos =>
        have y6b : (jf != -1) = false := by rw [y6]; rfl
        by_cases hi0 : i = 0
        case pos =>
          have HOB := hid (show orderB X.jobs i ⟨jt, ja, jf, jc, jm⟩ = true from by rw [hi0]; rfl)
          have hi0' : ¬ 0 < i := by omega
          clear hi0
          as_aux_lemma =>
            have HG := hid (show false = !(jobHead S.tasks.length X.slots.length ⟨jt, ja, jf, jc, jm⟩ && orderB X.jobs i ⟨jt, ja, jf, jc, jm⟩) from by rw [HH.out, decide_eq_true (by omega), HOB.out]; rfl)
            go_quiet (fail)
            have HBQ := hid (below_drewN' HB0.out nq)
            have HQQ := hid (show (w1.drewN nq).heap[D]? = _ from HQ0.out)
            have HQT := hid (show (w1.drewN nq).heap[w.heap.size]? = _ from HTA.out)
            have HQX := hid (show (w1.drewN nq).heap[w.heap.size + 1]? = _ from HTB.out)
            clear f0 f1 f2 k8 k12
            go_wp2_with fail
            go_meet
            exact ⟨_, rfl, HG, HBQ, HQQ, HQT, HQX⟩
        case neg =>
          obtain ⟨k, hik⟩ : ∃ k, i = k + 1 := ⟨i - 1, by omega⟩
          obtain ⟨y, hy⟩ : ∃ y, X.jobs[k]? = some y := ⟨_, List.getElem?_eq_getElem (by have := HM.out; omega)⟩
          obtain ⟨b9, o9, cs9, hA9, hbl9, _, hc9, hr9⟩ := HX.out.jobs.at hy
          injection hA9 with hA9
          injection hA9 with hA9 hA8
          subst hA9
          subst hA8
          have hr9' : cs9 = [.int .i64 y.task, .int .i64 y.arr, .int .i64 y.fin, .bool y.cut, .bool y.miss] := hr9
          subst hr9'
          have y1 : w1.cell? ⟨b, o + k * 5 + 1, none⟩ = some (.int .i64 y.arr) := (HB0.out.cell (p := ⟨b, o + k * 5 + 1, none⟩) hbl9).trans (hc9 1 _ rfl)
          have hki : IntKind.i64.wrap ((i : Int) - 1) = ((k : Nat) : Int) := by rw [IntKind.wrap_i64]; omega
          have HOB := hid (show orderB X.jobs i ⟨jt, ja, jf, jc, jm⟩ = decide (y.arr ≤ ja) from by rw [hik]; unfold orderB; simp only [hy, Option.map_some, Option.getD_some])
          obtain ⟨ya, hya⟩ : ∃ v, y.arr = v := ⟨_, rfl⟩
          rw [hya] at y1 HOB
          have hi0' : 0 < i := by omega
          have hkm : k < m := by omega
          clear hy hbl9 hc9 hr9 hya hik hi0
          cases x8 : decide (ja < ya)
          case true =>
            have x8' := of_decide_eq_true x8
            as_aux_lemma =>
              have HG := hid (show true = !(jobHead S.tasks.length X.slots.length ⟨jt, ja, jf, jc, jm⟩ && orderB X.jobs i ⟨jt, ja, jf, jc, jm⟩) from by rw [HOB.out, decide_eq_false (by omega), Bool.and_false]; rfl)
              go_quiet (fail)
              have HBQ := hid (below_drewN' HB0.out nq)
              have HQQ := hid (show (w1.drewN nq).heap[D]? = _ from HQ0.out)
              have HQT := hid (show (w1.drewN nq).heap[w.heap.size]? = _ from HTA.out)
              have HQX := hid (show (w1.drewN nq).heap[w.heap.size + 1]? = _ from HTB.out)
              clear f0 f1 f2 k8 k12
              go_wp2_with fail
              go_meet
              exact ⟨_, rfl, HG, HBQ, HQQ, HQT, HQX⟩
          case false =>
            have x8' := of_decide_eq_false x8
            as_aux_lemma =>
              have HG := hid (show false = !(jobHead S.tasks.length X.slots.length ⟨jt, ja, jf, jc, jm⟩ && orderB X.jobs i ⟨jt, ja, jf, jc, jm⟩) from by rw [HH.out, decide_eq_true (by omega), HOB.out, decide_eq_true (by omega)]; rfl)
              go_quiet (fail)
              have HBQ := hid (below_drewN' HB0.out nq)
              have HQQ := hid (show (w1.drewN nq).heap[D]? = _ from HQ0.out)
              have HQT := hid (show (w1.drewN nq).heap[w.heap.size]? = _ from HTA.out)
              have HQX := hid (show (w1.drewN nq).heap[w.heap.size + 1]? = _ from HTB.out)
              clear f0 f1 f2 k8 k12
              go_wp2_with fail
              go_meet
              exact ⟨_, rfl, HG, HBQ, HQQ, HQT, HQX⟩
      case neg =>
        have y6b : (jf != -1) = true := by simpa using y6
        cases x7 : decide (jf ≤ ja)
        case true =>
          have x7' := of_decide_eq_true x7
          as_aux_lemma =>
            have HG := hid (show true = !(jobHead S.tasks.length X.slots.length ⟨jt, ja, jf, jc, jm⟩ && orderB X.jobs i ⟨jt, ja, jf, jc, jm⟩) from by rw [HH.out, decide_eq_false (by omega)]; rfl)
            go_quiet (fail)
            have HBQ := hid (below_drewN' HB0.out nq)
            have HQQ := hid (show (w1.drewN nq).heap[D]? = _ from HQ0.out)
            have HQT := hid (show (w1.drewN nq).heap[w.heap.size]? = _ from HTA.out)
            have HQX := hid (show (w1.drewN nq).heap[w.heap.size + 1]? = _ from HTB.out)
            clear f0 f1 f2 k8 k12
            go_wp2_with fail
            go_meet
            exact ⟨_, rfl, HG, HBQ, HQQ, HQT, HQX⟩
        case false =>
          have x7' := of_decide_eq_false x7
          cases x5 : decide ((n : Int) < jf)
          case true =>
            have x5' := of_decide_eq_true x5
            as_aux_lemma =>
              have HG := hid (show true = !(jobHead S.tasks.length X.slots.length ⟨jt, ja, jf, jc, jm⟩ && orderB X.jobs i ⟨jt, ja, jf, jc, jm⟩) from by rw [HH.out, decide_eq_false (by omega)]; rfl)
              go_quiet (fail)
              have HBQ := hid (below_drewN' HB0.out nq)
              have HQQ := hid (show (w1.drewN nq).heap[D]? = _ from HQ0.out)
              have HQT := hid (show (w1.drewN nq).heap[w.heap.size]? = _ from HTA.out)
              have HQX := hid (show (w1.drewN nq).heap[w.heap.size + 1]? = _ from HTB.out)
              clear f0 f1 f2 k8 k12
              go_wp2_with fail
              go_meet
              exact ⟨_, rfl, HG, HBQ, HQQ, HQT, HQX⟩
          case false =>
            have x5' := of_decide_eq_false x5
            by_cases hi0 : i = 0
            case pos =>
              have HOB := hid (show orderB X.jobs i ⟨jt, ja, jf, jc, jm⟩ = true from by rw [hi0]; rfl)
              have hi0' : ¬ 0 < i := by omega
              clear hi0
              as_aux_lemma =>
                have HG := hid (show false = !(jobHead S.tasks.length X.slots.length ⟨jt, ja, jf, jc, jm⟩ && orderB X.jobs i ⟨jt, ja, jf, jc, jm⟩) from by rw [HH.out, decide_eq_true (by omega), HOB.out]; rfl)
                go_quiet (fail)
                have HBQ := hid (below_drewN' HB0.out nq)
                have HQQ := hid (show (w1.drewN nq).heap[D]? = _ from HQ0.out)
                have HQT := hid (show (w1.drewN nq).heap[w.heap.size]? = _ from HTA.out)
                have HQX := hid (show (w1.drewN nq).heap[w.heap.size + 1]? = _ from HTB.out)
                clear f0 f1 f2 k8 k12
                go_wp2_with fail
                go_meet
                exact ⟨_, rfl, HG, HBQ, HQQ, HQT, HQX⟩
            case neg =>
              obtain ⟨k, hik⟩ : ∃ k, i = k + 1 := ⟨i - 1, by omega⟩
              obtain ⟨y, hy⟩ : ∃ y, X.jobs[k]? = some y := ⟨_, List.getElem?_eq_getElem (by have := HM.out; omega)⟩
              obtain ⟨b9, o9, cs9, hA9, hbl9, _, hc9, hr9⟩ := HX.out.jobs.at hy
              injection hA9 with hA9
              injection hA9 with hA9 hA8
              subst hA9
              subst hA8
              have hr9' : cs9 = [.int .i64 y.task, .int .i64 y.arr, .int .i64 y.fin, .bool y.cut, .bool y.miss] := hr9
              subst hr9'
              have y1 : w1.cell? ⟨b, o + k * 5 + 1, none⟩ = some (.int .i64 y.arr) := (HB0.out.cell (p := ⟨b, o + k * 5 + 1, none⟩) hbl9).trans (hc9 1 _ rfl)
              have hki : IntKind.i64.wrap ((i : Int) - 1) = ((k : Nat) : Int) := by rw [IntKind.wrap_i64]; omega
              have HOB := hid (show orderB X.jobs i ⟨jt, ja, jf, jc, jm⟩ = decide (y.arr ≤ ja) from by rw [hik]; unfold orderB; simp only [hy, Option.map_some, Option.getD_some])
              obtain ⟨ya, hya⟩ : ∃ v, y.arr = v := ⟨_, rfl⟩
              rw [hya] at y1 HOB
              have hi0' : 0 < i := by omega
              have hkm : k < m := by omega
              clear hy hbl9 hc9 hr9 hya hik hi0
              cases x8 : decide (ja < ya)
              case true =>
                have x8' := of_decide_eq_true x8
                as_aux_lemma =>
                  have HG := hid (show true = !(jobHead S.tasks.length X.slots.length ⟨jt, ja, jf, jc, jm⟩ && orderB X.jobs i ⟨jt, ja, jf, jc, jm⟩) from by rw [HOB.out, decide_eq_false (by omega), Bool.and_false]; rfl)
                  go_quiet (fail)
                  have HBQ := hid (below_drewN' HB0.out nq)
                  have HQQ := hid (show (w1.drewN nq).heap[D]? = _ from HQ0.out)
                  have HQT := hid (show (w1.drewN nq).heap[w.heap.size]? = _ from HTA.out)
                  have HQX := hid (show (w1.drewN nq).heap[w.heap.size + 1]? = _ from HTB.out)
                  clear f0 f1 f2 k8 k12
                  go_wp2_with fail
                  go_meet
                  exact ⟨_, rfl, HG, HBQ, HQQ, HQT, HQX⟩
              case false =>
                have x8' := of_decide_eq_false x8
                as_aux_lemma =>
                  have HG := hid (show false = !(jobHead S.tasks.length X.slots.length ⟨jt, ja, jf, jc, jm⟩ && orderB X.jobs i ⟨jt, ja, jf, jc, jm⟩) from by rw [HH.out, decide_eq_true (by omega), HOB.out, decide_eq_true (by omega)]; rfl)
                  go_quiet (fail)
                  have HBQ := hid (below_drewN' HB0.out nq)
                  have HQQ := hid (show (w1.drewN nq).heap[D]? = _ from HQ0.out)
                  have HQT := hid (show (w1.drewN nq).heap[w.heap.size]? = _ from HTA.out)
                  have HQX := hid (show (w1.drewN nq).heap[w.heap.size + 1]? = _ from HTB.out)
                  clear f0 f1 f2 k8 k12
                  go_wp2_with fail
                  go_meet
                  exact ⟨_, rfl, HG, HBQ, HQQ, HQT, HQX⟩
  obtain ⟨gb, rfl, HG, HB2, HQ2, HTA2, HTB2⟩ := hcut
  clear HB0 HQ0 HTA HTB f0 f1 f2 k8 k12
  cases gb
  case true =>
    as_aux_lemma =>
      have HFA := hid (show jobB S X i = false from by
        rw [jobB_eq HJ.out, ← Bool.and_assoc]
        have h1 := HG.out
        cases hb : (jobHead S.tasks.length X.slots.length ⟨jt, ja, jf, jc, jm⟩ && orderB X.jobs i ⟨jt, ja, jf, jc, jm⟩) with
        | true => rw [hb] at h1; cases h1
        | false => rfl)
      go_wp2_with fail
      go_ret
      exact ⟨by rw [HFA.out]; rfl, HB2.out⟩
  case false =>
    as_aux_lemma =>
      have hjh : (jobHead S.tasks.length X.slots.length ⟨jt, ja, jf, jc, jm⟩ && orderB X.jobs i ⟨jt, ja, jf, jc, jm⟩) = true := by
        have h1 := HG.out
        cases hb : (jobHead S.tasks.length X.slots.length ⟨jt, ja, jf, jc, jm⟩ && orderB X.jobs i ⟨jt, ja, jf, jc, jm⟩) with
        | true => rfl
        | false => rw [hb] at h1; cases h1
      have hjh2 := hjh
      rw [Bool.and_eq_true] at hjh2
      have hd := of_decide_eq_true (HH.out.symm.trans hjh2.1)
      obtain ⟨h1, h2, h3, h4, h5, h6⟩ := hd
      obtain ⟨q, rfl⟩ : ∃ q : Nat, jt = q := ⟨jt.toNat, by omega⟩
      have HJ2 := hid (show jobB S X i = (missB (tskAt S q).dl X.slots.length ⟨q, ja, jf, jc, jm⟩ && prevB (tskAt S q).per ⟨q, ja, jf, jc, jm⟩ (prevJ X.jobs q i)) from by rw [jobB_eq HJ.out, ← Bool.and_assoc, hjh, Bool.true_and])
      obtain ⟨t, ht⟩ : ∃ t, S.tasks[q]? = some t := ⟨_, List.getElem?_eq_getElem (by have := HNT.out; omega)⟩
      have htk : tskAt S q = t := by unfold tskAt; rw [Int.toNat_natCast, ht]; rfl
      rw [htk] at HJ2
      have hto := HSS.out.tasks t (List.mem_of_getElem? ht)
      obtain ⟨b3, o3, cs3, hA3, hbl3, _, hc3, u3, hr3, hru3⟩ := HTS.out.at ht
      subst hA3
      subst hr3
      obtain ⟨Ats, cts, hu3, _⟩ := hru3.shape
      obtain ⟨nts, hnts⟩ : ∃ v, t.secs.length = v := ⟨_, rfl⟩
      rw [hnts] at hu3
      subst hu3
      clear hnts
      have hp1 := hto.p1
      have hd0 := hto.d0
      have hd1 := hto.d1
      obtain ⟨tp, td, tw, ts⟩ := t
      simp only at hc3 HJ2 hp1 hd0 hd1
      have hqn : q < nt := by omega
      have HDN := hid (⟨h3, h4, h5, hd0, hd1, hjw.1, hjw.2⟩ : 0 ≤ ja ∧ -1 ≤ jf ∧ jf ≤ n ∧ 1 ≤ td ∧ td ≤ tp ∧ -9223372036854775808 ≤ ja ∧ ja ≤ 9223372036854775807)
      have HDP := hid hp1
      have t0 : wc.cell? ⟨b3, o3 + q * 4, none⟩ = some (.int .i64 tp) := (HB2.out.cell (p := ⟨b3, o3 + q * 4, none⟩) hbl3).trans (by simpa using hc3 0 _ rfl)
      have t1 : wc.cell? ⟨b3, o3 + q * 4 + 1, none⟩ = some (.int .i64 td) := (HB2.out.cell (p := ⟨b3, o3 + q * 4 + 1, none⟩) hbl3).trans (hc3 1 _ rfl)
      have t2 : wc.cell? ⟨b3, o3 + q * 4 + 2, none⟩ = some (.int .i64 tw) := (HB2.out.cell (p := ⟨b3, o3 + q * 4 + 2, none⟩) hbl3).trans (hc3 2 _ rfl)
      have t3 : wc.cell? ⟨b3, o3 + q * 4 + 3, none⟩ = some (.slice Ats nts cts) := (HB2.out.cell (p := ⟨b3, o3 + q * 4 + 3, none⟩) hbl3).trans (hc3 3 _ rfl)
      have f0 : wc.cell? ⟨D, 0, none⟩ = some (.int .i64 q) := blk_cell HQ2.out 0
      have k8 : wc.cell? ⟨w.heap.size, 8, none⟩ = some (.slice (some ⟨b3, o3, none⟩) nt ct) := blk_cell HTA2.out 8
      clear hjh hjh2 htk hto hc3 hru3 ht hbl3 h1 h2 h3 h4 h5 h6 hp1 hd0 hd1 hjw
      go_upto_region 6 with fail
      have HB5 := hid (below_new HB2.out (.cells #[.int .i64 tp, .int .i64 td, .int .i64 tw, .slice Ats nts cts] 55))
      have HQ5 := hid (blk_old HQ2.out (.cells #[.int .i64 tp, .int .i64 td, .int .i64 tw, .slice Ats nts cts] 55))
      have HTX5 := hid (blk_old HTB2.out (.cells #[.int .i64 tp, .int .i64 td, .int .i64 tw, .slice Ats nts cts] 55))
      have he5 := blk_new wc (.cells #[.int .i64 tp, .int .i64 td, .int .i64 tw, .slice Ats nts cts] 55)
      generalize wc.alloc (.cells #[.int .i64 tp, .int .i64 td, .int .i64 tw, .slice Ats nts cts] 55) = w5 at *
      obtain ⟨E, hE⟩ : ∃ E, wc.heap.size = E := ⟨_, rfl⟩
      rw [hE] at he5 ⊢
      have HE5 := hid he5
      clear f0 k8 t0 t1 t2 t3 hE he5 HB2 HQ2 HTA2 HTB2
      have f2 : w5.cell? ⟨D, 2, none⟩ = some (.int .i64 jf) := blk_cell HQ5.out 2
      have f1 : w5.cell? ⟨D, 1, none⟩ = some (.int .i64 ja) := blk_cell HQ5.out 1
      have f4 : w5.cell? ⟨D, 4, none⟩ = some (.bool jm) := blk_cell HQ5.out 4
      have g1 : w5.cell? ⟨E, 1, none⟩ = some (.int .i64 td) := blk_cell HE5.out 1
      have hwl : IntKind.i64.wrap ((n : Int) - td) = (n : Int) - td := by rw [IntKind.wrap_i64]; have := HDN.out; have := HDP.out; omega
      have hwf : IntKind.i64.wrap (jf - td) = jf - td := by rw [IntKind.wrap_i64]; have := HDN.out; have := HDP.out; omega
      go_upto_region 7 with fail
      go_cut [109] (fun v wx => ∃ gb : Bool, v = .bool gb ∧ Hid (gb = !(missB td X.slots.length ⟨q, ja, jf, jc, jm⟩)) ∧ w5 = wx)
      case first =>
        as_aux_lemma =>
          by_cases y6 : jf = -1
          case pos =>
            have y6b : (jf != -1) = false := by rw [y6]; rfl
            have y6c : (jf == -1) = true := beq_iff_eq.2 y6
            have HMI := hid (show missB td X.slots.length ⟨q, ja, jf, jc, jm⟩ = (jm == decide (ja ≤ (n : Int) - td)) from by
              unfold missB
              rw [← HN.out]
              simp only [if_pos y6]
              rw [show decide (ja < (n : Int) + 1 - td) = decide (ja ≤ (n : Int) - td) from decide_eq_decide.2 (by omega)])
            clear y6
            cases hmb : decide (ja ≤ (n : Int) - td)
            case true =>
              have hmb' := of_decide_eq_true hmb
              rw [hmb] at HMI
              cases jm
              all_goals
                go_wp2_with fail
                go_meet
                exact ⟨_, rfl, hid (by rw [HMI.out]; rfl), rfl⟩
            case false =>
              have hmb' := of_decide_eq_false hmb
              rw [hmb] at HMI
              cases jm
              all_goals
                go_wp2_with fail
                go_meet
                exact ⟨_, rfl, hid (by rw [HMI.out]; rfl), rfl⟩
          case neg =>
            have y6b : (jf != -1) = true := by simpa using y6
            have y6c : (jf == -1) = false := beq_eq_false_iff_ne.2 y6
            have HMI := hid (show missB td X.slots.length ⟨q, ja, jf, jc, jm⟩ = (jm == decide (ja < jf - td)) from by
              unfold missB
              simp only [if_neg y6])
            cases hmb : decide (ja < jf - td)
            case true =>
              have hmb' := of_decide_eq_true hmb
              rw [hmb] at HMI
              cases jm
              all_goals
                go_wp2_with fail
                go_meet
                exact ⟨_, rfl, hid (by rw [HMI.out]; rfl), rfl⟩
            case false =>
              have hmb' := of_decide_eq_false hmb
              rw [hmb] at HMI
              cases jm
              all_goals
                go_wp2_with fail
                go_meet
                exact ⟨_, rfl, hid (by rw [HMI.out]; rfl), rfl⟩
      obtain ⟨gb, rfl, HGM, rfl⟩ := hcut
      cases gb
      case true =>
        have HFA := hid (show jobB S X i = false from by
          rw [HJ2.out]
          have h1 := HGM.out
          cases hb : missB td X.slots.length ⟨q, ja, jf, jc, jm⟩ with
          | true => rw [hb] at h1; cases h1
          | false => rfl)
        go_wp2_with fail
        go_ret
        exact ⟨by rw [HFA.out]; rfl, HB5.out⟩
      case false =>
        as_aux_lemma =>
          have HJ4 := hid (show jobB S X i = prevB tp ⟨q, ja, jf, jc, jm⟩ (prevJ X.jobs q i) from by
            rw [HJ2.out]
            have h1 := HGM.out
            cases hb : missB td X.slots.length ⟨q, ja, jf, jc, jm⟩ with
            | true => rw [Bool.true_and]
            | false => rw [hb] at h1; cases h1)
          clear f2 f4 g1 hwl hwf f1
          go_wp2_with fail
          go_loopw [11] (fun v wr => ∃ (h : Nat) (z : Int), h ≤ i ∧ v = .int .i64 z ∧ z + 1 = h ∧ Hid (prevJ X.jobs q i = prevJ X.jobs q h) ∧ Hid (Below w5.heap.size w5 wr)) (fun v _ => (intOf v + 1).toNat)
          case atStart => exact ⟨i, _, Nat.le_refl _, rfl, by omega, hid rfl, hid (Below.refl _ _)⟩
          case round =>
            as_aux_lemma =>
              obtain ⟨h, z, hh, rfl, hz, HPJ, HBR⟩ := hrel
              have HBA := hid (below_then HB5.out HBR.out)
              by_cases h0 : h = 0
              case pos =>
                have hz0 : z = -1 := by omega
                subst hz0
                have HFA := hid (show jobB S X i = true from by rw [HJ4.out, HPJ.out, h0]; rfl)
                clear h0 hz
                go_wp2_with fail
                go_ret
                exact ⟨by rw [HFA.out]; rfl, HBA.out⟩
              case neg =>
                obtain ⟨g, hg⟩ : ∃ g, h = g + 1 := ⟨h - 1, by omega⟩
                obtain rfl : z = (g : Int) := by omega
                have hgm : g < m := by omega
                obtain ⟨y, hy⟩ : ∃ y, X.jobs[g]? = some y := ⟨_, List.getElem?_eq_getElem (by have := HM.out; omega)⟩
                have hya := HPO.out g y (by omega) hy
                have hyw := HWF.out y (List.mem_of_getElem? hy)
                unfold I64 at hyw
                obtain ⟨b9, o9, cs9, hA9, hbl9, _, hc9, hr9⟩ := HX.out.jobs.at hy
                injection hA9 with hA9
                injection hA9 with hA9 hA8
                subst hA9
                subst hA8
                have hr9' : cs9 = [.int .i64 y.task, .int .i64 y.arr, .int .i64 y.fin, .bool y.cut, .bool y.miss] := hr9
                subst hr9'
                have HPH := hid (show y.task = q → prevJ X.jobs q h = some y from fun e => by rw [hg]; exact prevJ_hit hy e)
                have HPM := hid (show y.task ≠ q → prevJ X.jobs q h = prevJ X.jobs q g from fun e => by rw [hg]; exact prevJ_miss hy e)
                obtain ⟨yt, ya, yf, yc, ym⟩ := y
                simp only at hya hyw hc9 HPH HPM
                have e0 : wr.cell? ⟨b, o + g * 5, none⟩ = some (.int .i64 yt) := (HBA.out.cell (p := ⟨b, o + g * 5, none⟩) hbl9).trans (by simpa using hc9 0 _ rfl)
                have e1 : wr.cell? ⟨b, o + g * 5 + 1, none⟩ = some (.int .i64 ya) := (HBA.out.cell (p := ⟨b, o + g * 5 + 1, none⟩) hbl9).trans (hc9 1 _ rfl)
                have e2 : wr.cell? ⟨b, o + g * 5 + 2, none⟩ = some (.int .i64 yf) := (HBA.out.cell (p := ⟨b, o + g * 5 + 2, none⟩) hbl9).trans (hc9 2 _ rfl)
                have e3 : wr.cell? ⟨b, o + g * 5 + 3, none⟩ = some (.bool yc) := (HBA.out.cell (p := ⟨b, o + g * 5 + 3, none⟩) hbl9).trans (hc9 3 _ rfl)
                have e4 : wr.cell? ⟨b, o + g * 5 + 4, none⟩ = some (.bool ym) := (HBA.out.cell (p := ⟨b, o + g * 5 + 4, none⟩) hbl9).trans (hc9 4 _ rfl)
                have k12 : wr.cell? ⟨w.heap.size + 1, 1, none⟩ = some (.slice (some ⟨b, o, none⟩) m c2) := blk_cell ((fr0 HBR.out).blk HTX5.out (fun h => h)) 1
                have HQR := hid ((fr0 HBR.out).blk HQ5.out (fun h => h))
                have HER := hid ((fr0 HBR.out).blk HE5.out (fun h => h))
                have hgi : g ≤ i := by omega
                clear hy hc9 hr9 hbl9 hg h0 hz
                go_upto_region 13 with fail
                have HB6 := hid (below_new (Below.refl wr.heap.size wr) (.cells #[.int .i64 yt, .int .i64 ya, .int .i64 yf, .bool yc, .bool ym] 45))
                have HQ6 := hid (blk_new wr (.cells #[.int .i64 yt, .int .i64 ya, .int .i64 yf, .bool yc, .bool ym] 45))
                generalize wr.alloc (.cells #[.int .i64 yt, .int .i64 ya, .int .i64 yf, .bool yc, .bool ym] 45) = w6 at *
                obtain ⟨G, hG⟩ : ∃ G, wr.heap.size = G := ⟨_, rfl⟩
                rw [hG] at HQ6 ⊢
                have hq6 := (fr0 HB6.out).blk HQR.out (fun h => h)
                have he6 := (fr0 HB6.out).blk HER.out (fun h => h)
                have y0 : w6.cell? ⟨G, 0, none⟩ = some (.int .i64 yt) := blk_cell HQ6.out 0
                have y1 : w6.cell? ⟨G, 1, none⟩ = some (.int .i64 ya) := blk_cell HQ6.out 1
                have y2 : w6.cell? ⟨G, 2, none⟩ = some (.int .i64 yf) := blk_cell HQ6.out 2
                have j0 : w6.cell? ⟨D, 0, none⟩ = some (.int .i64 q) := blk_cell hq6 0
                have j1 : w6.cell? ⟨D, 1, none⟩ = some (.int .i64 ja) := blk_cell hq6 1
                have p0 : w6.cell? ⟨E, 0, none⟩ = some (.int .i64 tp) := blk_cell he6 0
                clear hG hq6 he6 e0 e1 e2 e3 e4 k12
                by_cases ht : yt = q
                case neg =>
                  have htb : (yt == (q : Int)) = false := beq_eq_false_iff_ne.2 ht
                  have HPN := hid (HPJ.out.trans (HPM.out ht))
                  have HBN := hid (below_then HBR.out HB6.out)
                  clear ht
                  go_wp2_with fail
                  go_roundw
                  case rel => exact ⟨g, _, hgi, by go_num, by omega, HPN, HBN⟩
                  case measure => first | (simp [intOf]; done) | (simp [intOf]; omega)
                case pos =>
                  have htb : (yt == (q : Int)) = true := beq_iff_eq.2 ht
                  have HFA := hid (show jobB S X i = (decide (tp ≤ ja - ya) && (!decide (yf = -1) && decide (yf ≤ ja))) from by rw [HJ4.out, HPJ.out, HPH.out ht]; rfl)
                  have HBN := hid (below_then HBA.out HB6.out)
                  have hwd : IntKind.i64.wrap (ja - ya) = ja - ya := by rw [IntKind.wrap_i64]; have := HDN.out; omega
                  clear hya hyw
                  clear ht
                  by_cases z1 : tp ≤ ja - ya
                  case neg =>
                    have HF1 := hid (show jobB S X i = false from by rw [HFA.out, decide_eq_false z1]; rfl)
                    go_wp2_with fail
                    go_ret
                    exact ⟨by rw [HF1.out]; rfl, HBN.out⟩
                  case pos =>
                    by_cases z2 : yf = -1
                    case pos =>
                      have z2b : (yf != -1) = false := by rw [z2]; rfl
                      have HF1 := hid (show jobB S X i = false from by rw [HFA.out, decide_eq_true z2]; simp)
                      clear z2
                      go_wp2_with fail
                      go_ret
                      exact ⟨by rw [HF1.out]; rfl, HBN.out⟩
                    case neg =>
                      have z2b : (yf != -1) = true := by simpa using z2
                      by_cases z3 : yf ≤ ja
                      case neg =>
                        have HF1 := hid (show jobB S X i = false from by rw [HFA.out, decide_eq_false z3]; simp)
                        clear z2
                        go_wp2_with fail
                        go_ret
                        exact ⟨by rw [HF1.out]; rfl, HBN.out⟩
                      case pos =>
                        have HF1 := hid (show jobB S X i = true from by rw [HFA.out, decide_eq_true z1, decide_eq_false z2, decide_eq_true z3]; rfl)
                        clear z2
                        go_wp2_with fail
                        go_ret
                        exact ⟨by rw [HF1.out]; rfl, HBN.out⟩
end
end Go.Proofs.Ytmhochjpdedlgaa
