/- Joined: Trace11. -/
import Derived.Test.YtmhochjpdedlgaaQ44
import Derived.Deep.QuietTactic
import Derived.BigQuiet
import Derived.BigRegion
set_option linter.unusedVariables false
set_option linter.unusedSimpArgs false
/- Package trace: the look's job (contract). -/
set_option linter.unusedVariables false
set_option linter.unusedSimpArgs false
namespace Go.Proofs.Ytmhochjpdedlgaa
open Go.RowKit

section
variable {w : World}
set_option maxRecDepth 100000 in
set_option maxHeartbeats 6400000 in
theorem job_any (S : Sy) (K : Nat) (X : Tr) (At : Option Addr) (nt ct : Nat) (A : Option Addr) (n cp : Nat) (A2 : Option Addr) (m c2 : Nat) (i : Nat)
    (h8 : w.cell? ⟨K, 8, none⟩ = some (.slice At nt ct)) (h11 : w.cell? ⟨K, 11, none⟩ = some (.slice A n cp)) (h12 : w.cell? ⟨K, 12, none⟩ = some (.slice A2 m c2)) (h : IsTr w (.slice A n cp) (.slice A2 m c2) X) (hT : Rowp 4 tskR w (.slice At nt ct) S.tasks)
    (hS : RightS S) (hi : i < m) (hn6 : n ≤ 1000000) (hw : ∀ y ∈ X.jobs, I64 y.arr) (hpos : ∀ k y, k < i → X.jobs[k]? = some y → 0 ≤ y.arr) :
    Calls Try.prog 75 #[.pointer (some ⟨K, 0, none⟩), .int .i64 i] w fun e w' => e = .returned (.bool (jobB S X i)) ∧ Below w.heap.size w w' := by
  have hn := h.slots.len
  have hm := h.jobs.len
  have hnt := hT.len
  have hmm : m ≤ 9223372036854775807 := by have := h.jobs.room; unfold maxLen at this; omega
  have hKl : K < w.heap.size := World.block_lt_of_cell? w _ h12
  obtain ⟨j, hj⟩ : ∃ j, X.jobs[i]? = some j := ⟨_, List.getElem?_eq_getElem (by omega)⟩
  obtain ⟨b, o, cs, hA, hbl, _, hc, hr⟩ := h.jobs.at hj
  subst hA
  have hr' : cs = [.int .i64 j.task, .int .i64 j.arr, .int .i64 j.fin, .bool j.cut, .bool j.miss] := hr
  subst hr'
  have hjw := hw j (List.mem_of_getElem? hj)
  unfold I64 at hjw
  have HX := hid h
  have HN := hid hn
  have HM := hid hm
  have HNT := hid hnt
  have HJ := hid hj
  have HTS := hid hT
  have HPO := hid hpos
  have HWF := hid hw
  have HSS := hid hS
  obtain ⟨jt, ja, jf, jc, jm⟩ := j
  simp only at hc hjw
  have e0 : w.cell? ⟨b, o + i * 5, none⟩ = some (.int .i64 jt) := by simpa using hc 0 _ rfl
  have e1 : w.cell? ⟨b, o + i * 5 + 1, none⟩ = some (.int .i64 ja) := hc 1 _ rfl
  have e2 : w.cell? ⟨b, o + i * 5 + 2, none⟩ = some (.int .i64 jf) := hc 2 _ rfl
  have e3 : w.cell? ⟨b, o + i * 5 + 3, none⟩ = some (.bool jc) := hc 3 _ rfl
  have e4 : w.cell? ⟨b, o + i * 5 + 4, none⟩ = some (.bool jm) := hc 4 _ rfl
  have hza := below_new (Below.refl w.heap.size w) (.cells #[.int .i64 0, .int .i64 0, .int .i64 0, .bool false, .bool false] 45)
  have z0 : (w.alloc (.cells #[.int .i64 0, .int .i64 0, .int .i64 0, .bool false, .bool false] 45)).drew.cell? ⟨b, o + i * 5, none⟩ = some (.int .i64 jt) := (hza.cell (p := ⟨b, o + i * 5, none⟩) hbl).trans e0
  have z1 : (w.alloc (.cells #[.int .i64 0, .int .i64 0, .int .i64 0, .bool false, .bool false] 45)).drew.cell? ⟨b, o + i * 5 + 1, none⟩ = some (.int .i64 ja) := (hza.cell (p := ⟨b, o + i * 5 + 1, none⟩) hbl).trans e1
  have z2 : (w.alloc (.cells #[.int .i64 0, .int .i64 0, .int .i64 0, .bool false, .bool false] 45)).drew.cell? ⟨b, o + i * 5 + 2, none⟩ = some (.int .i64 jf) := (hza.cell (p := ⟨b, o + i * 5 + 2, none⟩) hbl).trans e2
  have z3 : (w.alloc (.cells #[.int .i64 0, .int .i64 0, .int .i64 0, .bool false, .bool false] 45)).drew.cell? ⟨b, o + i * 5 + 3, none⟩ = some (.bool jc) := (hza.cell (p := ⟨b, o + i * 5 + 3, none⟩) hbl).trans e3
  have z4 : (w.alloc (.cells #[.int .i64 0, .int .i64 0, .int .i64 0, .bool false, .bool false] 45)).drew.cell? ⟨b, o + i * 5 + 4, none⟩ = some (.bool jm) := (hza.cell (p := ⟨b, o + i * 5 + 4, none⟩) hbl).trans e4
  have z11 : (w.alloc (.cells #[.int .i64 0, .int .i64 0, .int .i64 0, .bool false, .bool false] 45)).drew.cell? ⟨K, 11, none⟩ = some (.slice A n cp) := (hza.cell (p := ⟨K, 11, none⟩) hKl).trans h11
  have z12 : (w.alloc (.cells #[.int .i64 0, .int .i64 0, .int .i64 0, .bool false, .bool false] 45)).drew.cell? ⟨K, 12, none⟩ = some (.slice (some ⟨b, o, none⟩) m c2) := (hza.cell (p := ⟨K, 12, none⟩) hKl).trans h12
  clear hza
  have HCE := hid (⟨h8, h11, h12⟩ : _ ∧ _ ∧ _)
  have d0 : w.drew.cell? ⟨b, o + i * 5, none⟩ = some (.int .i64 jt) := e0
  have d1 : w.drew.cell? ⟨b, o + i * 5 + 1, none⟩ = some (.int .i64 ja) := e1
  have d2 : w.drew.cell? ⟨b, o + i * 5 + 2, none⟩ = some (.int .i64 jf) := e2
  have d3 : w.drew.cell? ⟨b, o + i * 5 + 3, none⟩ = some (.bool jc) := e3
  have d4 : w.drew.cell? ⟨b, o + i * 5 + 4, none⟩ = some (.bool jm) := e4
  have d11 : w.drew.cell? ⟨K, 11, none⟩ = some (.slice A n cp) := h11
  have d12 : w.drew.cell? ⟨K, 12, none⟩ = some (.slice (some ⟨b, o, none⟩) m c2) := h12
  clear h hT hn hm hnt hj hc hr hbl hpos hw hS
  go_enter Try.func75, Try.ntmps75
  go_wp2_with fail
  go_region
  have HB0 := hid (show Below w.heap.size w (w.alloc (.cells #[.int .i64 jt, .int .i64 ja, .int .i64 jf, .bool jc, .bool jm] 45)).drew from (below_new (Below.refl w.heap.size w) _).drew)
  have HQ0 := hid (show (w.alloc (.cells #[.int .i64 jt, .int .i64 ja, .int .i64 jf, .bool jc, .bool jm] 45)).drew.heap[w.heap.size]? = some (.cells #[.int .i64 jt, .int .i64 ja, .int .i64 jf, .bool jc, .bool jm] 45 (0, 0)) from blk_new w _)
  generalize (w.alloc (.cells #[.int .i64 jt, .int .i64 ja, .int .i64 jf, .bool jc, .bool jm] 45)).drew = w1 at *
  clear e0 e1 e2 e3 e4 d0 d1 d2 d3 d4 d11 d12 z0 z1 z2 z3 z4 z11 z12 h8 h11 h12
  have f0 : w1.cell? ⟨w.heap.size, 0, none⟩ = some (.int .i64 jt) := blk_cell HQ0.out 0
  have f1 : w1.cell? ⟨w.heap.size, 1, none⟩ = some (.int .i64 ja) := blk_cell HQ0.out 1
  have f2 : w1.cell? ⟨w.heap.size, 2, none⟩ = some (.int .i64 jf) := blk_cell HQ0.out 2
  have k8 : w1.cell? ⟨K, 8, none⟩ = some (.slice At nt ct) := (HB0.out.cell (p := ⟨K, 8, none⟩) hKl).trans HCE.out.1
  have HKL := hid hKl
  clear hKl
  have HH := hid (show jobHead S.tasks.length X.slots.length ⟨jt, ja, jf, jc, jm⟩ = decide (0 ≤ jt ∧ jt < nt ∧ 0 ≤ ja ∧ -1 ≤ jf ∧ jf ≤ n ∧ (jf = -1 ∨ ja < jf)) from by unfold jobHead; rw [← HNT.out, ← HN.out])
  go_upto_region 2 with fail
  go_cut [67] (fun v wx => ∃ gb : Bool, v = .bool gb ∧ Hid (gb = !(jobHead S.tasks.length X.slots.length ⟨jt, ja, jf, jc, jm⟩)) ∧ Hid (Below w.heap.size w wx) ∧ Hid (wx.heap[w.heap.size]? = some (.cells #[.int .i64 jt, .int .i64 ja, .int .i64 jf, .bool jc, .bool jm] 45 (0, 0))))
  case first =>
    as_aux_lemma =>
      cases x1 : decide (jt < 0)
      case true =>
        have x1' := of_decide_eq_true x1
        as_aux_lemma =>
          have HG := hid (show true = !(jobHead S.tasks.length X.slots.length ⟨jt, ja, jf, jc, jm⟩) from by rw [HH.out, decide_eq_false (by omega)]; rfl)
          go_quiet (fail)
          have HBQ := hid (below_drewN' HB0.out nq)
          have HQQ := hid (show (w1.drewN nq).heap[w.heap.size]? = _ from HQ0.out)
          clear f0 f1 f2 k8
          go_wp2_with fail
          go_meet
          exact ⟨_, rfl, HG, HBQ, HQQ⟩
      have x1' := of_decide_eq_false x1
      cases x2 : decide ((nt : Int) ≤ jt)
      case true =>
        have x2' := of_decide_eq_true x2
        as_aux_lemma =>
          have HG := hid (show true = !(jobHead S.tasks.length X.slots.length ⟨jt, ja, jf, jc, jm⟩) from by rw [HH.out, decide_eq_false (by omega)]; rfl)
          go_quiet (fail)
          have HBQ := hid (below_drewN' HB0.out nq)
          have HQQ := hid (show (w1.drewN nq).heap[w.heap.size]? = _ from HQ0.out)
          clear f0 f1 f2 k8
          go_wp2_with fail
          go_meet
          exact ⟨_, rfl, HG, HBQ, HQQ⟩
      have x2' := of_decide_eq_false x2
      cases x3 : decide (ja < 0)
      case true =>
        have x3' := of_decide_eq_true x3
        as_aux_lemma =>
          have HG := hid (show true = !(jobHead S.tasks.length X.slots.length ⟨jt, ja, jf, jc, jm⟩) from by rw [HH.out, decide_eq_false (by omega)]; rfl)
          go_quiet (fail)
          have HBQ := hid (below_drewN' HB0.out nq)
          have HQQ := hid (show (w1.drewN nq).heap[w.heap.size]? = _ from HQ0.out)
          clear f0 f1 f2 k8
          go_wp2_with fail
          go_meet
          exact ⟨_, rfl, HG, HBQ, HQQ⟩
      have x3' := of_decide_eq_false x3
      cases x4 : decide (jf < -1)
      case true =>
        have x4' := of_decide_eq_true x4
        as_aux_lemma =>
          have HG := hid (show true = !(jobHead S.tasks.length X.slots.length ⟨jt, ja, jf, jc, jm⟩) from by rw [HH.out, decide_eq_false (by omega)]; rfl)
          go_quiet (fail)
          have HBQ := hid (below_drewN' HB0.out nq)
          have HQQ := hid (show (w1.drewN nq).heap[w.heap.size]? = _ from HQ0.out)
          clear f0 f1 f2 k8
          go_wp2_with fail
          go_meet
          exact ⟨_, rfl, HG, HBQ, HQQ⟩
      have x4' := of_decide_eq_false x4
      cases x5 : decide ((n : Int) < jf)
      case true =>
        have x5' := of_decide_eq_true x5
        as_aux_lemma =>
          have HG := hid (show true = !(jobHead S.tasks.length X.slots.length ⟨jt, ja, jf, jc, jm⟩) from by rw [HH.out, decide_eq_false (by omega)]; rfl)
          go_quiet (fail)
          have HBQ := hid (below_drewN' HB0.out nq)
          have HQQ := hid (show (w1.drewN nq).heap[w.heap.size]? = _ from HQ0.out)
          clear f0 f1 f2 k8
          go_wp2_with fail
          go_meet
          exact ⟨_, rfl, HG, HBQ, HQQ⟩
      have x5' := of_decide_eq_false x5
      by_cases y6 : jf = -1
      case pos =>
        have y6b : (jf != -1) = false := by rw [y6]; rfl
        as_aux_lemma =>
          have HG := hid (show false = !(jobHead S.tasks.length X.slots.length ⟨jt, ja, jf, jc, jm⟩) from by rw [HH.out, decide_eq_true (by omega)]; rfl)
          go_quiet (fail)
          have HBQ := hid (below_drewN' HB0.out nq)
          have HQQ := hid (show (w1.drewN nq).heap[w.heap.size]? = _ from HQ0.out)
          clear f0 f1 f2 k8
          go_wp2_with fail
          go_meet
          exact ⟨_, rfl, HG, HBQ, HQQ⟩
      case neg =>
        have y6b : (jf != -1) = true := by simpa using y6
        cases x7 : decide (jf ≤ ja)
        case true =>
          have x7' := of_decide_eq_true x7
          as_aux_lemma =>
            have HG := hid (show true = !(jobHead S.tasks.length X.slots.length ⟨jt, ja, jf, jc, jm⟩) from by rw [HH.out, decide_eq_false (by omega)]; rfl)
            go_quiet (fail)
            have HBQ := hid (below_drewN' HB0.out nq)
            have HQQ := hid (show (w1.drewN nq).heap[w.heap.size]? = _ from HQ0.out)
            clear f0 f1 f2 k8
            go_wp2_with fail
            go_meet
            exact ⟨_, rfl, HG, HBQ, HQQ⟩
        case false =>
          have x7' := of_decide_eq_false x7
          as_aux_lemma =>
            have HG := hid (show false = !(jobHead S.tasks.length X.slots.length ⟨jt, ja, jf, jc, jm⟩) from by rw [HH.out, decide_eq_true (by omega)]; rfl)
            go_quiet (fail)
            have HBQ := hid (below_drewN' HB0.out nq)
            have HQQ := hid (show (w1.drewN nq).heap[w.heap.size]? = _ from HQ0.out)
            clear f0 f1 f2 k8
            go_wp2_with fail
            go_meet
            exact ⟨_, rfl, HG, HBQ, HQQ⟩
  obtain ⟨gb, rfl, HG, HB2, HQ2⟩ := hcut
  clear HB0 HQ0 f0 f1 f2 k8
  cases gb
  case true =>
    have HFA := hid (show jobB S X i = false from by
      rw [jobB_eq HJ.out]
      have h1 := HG.out
      cases hb : jobHead S.tasks.length X.slots.length ⟨jt, ja, jf, jc, jm⟩ with
      | true => rw [hb] at h1; cases h1
      | false => rfl)
    go_wp2_with fail
    go_ret
    exact ⟨by rw [HFA.out]; rfl, HB2.out⟩
  case false =>
    as_aux_lemma =>
      have hjh : jobHead S.tasks.length X.slots.length ⟨jt, ja, jf, jc, jm⟩ = true := by
        have h1 := HG.out
        cases hb : jobHead S.tasks.length X.slots.length ⟨jt, ja, jf, jc, jm⟩ with
        | true => rfl
        | false => rw [hb] at h1; cases h1
      have hd := of_decide_eq_true (HH.out.symm.trans hjh)
      obtain ⟨h1, h2, h3, h4, h5, h6⟩ := hd
      obtain ⟨q, rfl⟩ : ∃ q : Nat, jt = q := ⟨jt.toNat, by omega⟩
      have HJ2 := hid (show jobB S X i = (orderB X.jobs i ⟨q, ja, jf, jc, jm⟩ && (missB (tskAt S q).dl X.slots.length ⟨q, ja, jf, jc, jm⟩ && prevB (tskAt S q).per ⟨q, ja, jf, jc, jm⟩ (prevJ X.jobs q i))) from by rw [jobB_eq HJ.out, hjh, Bool.true_and])
      obtain ⟨t, ht⟩ : ∃ t, S.tasks[q]? = some t := ⟨_, List.getElem?_eq_getElem (by have := HNT.out; omega)⟩
      have htk : tskAt S q = t := by unfold tskAt; rw [Int.toNat_natCast, ht]; rfl
      rw [htk] at HJ2
      have hto := HSS.out.tasks t (List.mem_of_getElem? ht)
      obtain ⟨b3, o3, cs3, hA3, hbl3, _, hc3, u3, hr3, hru3⟩ := HTS.out.at ht
      subst hA3
      subst hr3
      obtain ⟨Ats, cts, hu3, _⟩ := hru3.shape
      obtain ⟨nts, hnts⟩ : ∃ v, t.secs.length = v := ⟨_, rfl⟩
      rw [hnts] at hu3
      subst hu3
      clear hnts
      have hp0 := hto.p0
      have hp1 := hto.p1
      have hd0 := hto.d0
      have hd1 := hto.d1
      obtain ⟨tp, td, tw, ts⟩ := t
      simp only at hc3 HJ2 hp0 hp1 hd0 hd1
      have HCT := hid (⟨by simpa using hc3 0 _ rfl, hc3 1 _ rfl, hc3 2 _ rfl, hc3 3 _ rfl⟩ : w.cell? ⟨b3, o3 + q * 4, none⟩ = some (.int .i64 tp) ∧ w.cell? ⟨b3, o3 + q * 4 + 1, none⟩ = some (.int .i64 td) ∧ w.cell? ⟨b3, o3 + q * 4 + 2, none⟩ = some (.int .i64 tw) ∧ w.cell? ⟨b3, o3 + q * 4 + 3, none⟩ = some (.slice Ats nts cts))
      have HBL3 := hid hbl3
      have hqn : q < nt := by omega
      have HDN := hid (⟨h3, h4, h5, hd0, hd1, hjw.1, hjw.2⟩ : 0 ≤ ja ∧ -1 ≤ jf ∧ jf ≤ n ∧ 1 ≤ td ∧ td ≤ tp ∧ -9223372036854775808 ≤ ja ∧ ja ≤ 9223372036854775807)
      have HDP := hid hp1
      clear h1 h2 h3 h4 h5 h6 hp0 hp1 hd0 hd1 hjw
      clear hjh htk hto hc3 hru3 ht hbl3
      have hKl := HKL.out
      have f0 : wc.cell? ⟨w.heap.size, 0, none⟩ = some (.int .i64 q) := blk_cell HQ2.out 0
      have f1 : wc.cell? ⟨w.heap.size, 1, none⟩ = some (.int .i64 ja) := blk_cell HQ2.out 1
      have k12 : wc.cell? ⟨K, 12, none⟩ = some (.slice (some ⟨b, o, none⟩) m c2) := (HB2.out.cell (p := ⟨K, 12, none⟩) hKl).trans HCE.out.2.2
      go_upto_region 4 with fail
      go_cut [84] (fun v wx => ∃ gb : Bool, v = .bool gb ∧ Hid (gb = !(orderB X.jobs i ⟨q, ja, jf, jc, jm⟩)) ∧ Hid (Below w.heap.size w wx) ∧ Hid (wx.heap[w.heap.size]? = some (.cells #[.int .i64 q, .int .i64 ja, .int .i64 jf, .bool jc, .bool jm] 45 (0, 0))))
      case first =>
        as_aux_lemma =>
          by_cases hi0 : i = 0
          case pos =>
            have HG4 := hid (show false = !(orderB X.jobs i ⟨q, ja, jf, jc, jm⟩) from by rw [hi0]; rfl)
            have hi0' : ¬ 0 < i := by omega
            clear hi0
            go_quiet (fail)
            have HBQ := hid (below_drewN' HB2.out nq)
            have HQQ := hid (show (wc.drewN nq).heap[w.heap.size]? = _ from HQ2.out)
            clear f0 f1 k12
            go_wp2_with fail
            go_meet
            exact ⟨_, rfl, HG4, HBQ, HQQ⟩
          case neg =>
            obtain ⟨k, hik⟩ : ∃ k, i = k + 1 := ⟨i - 1, by omega⟩
            obtain ⟨y, hy⟩ : ∃ y, X.jobs[k]? = some y := ⟨_, List.getElem?_eq_getElem (by have := HM.out; omega)⟩
            obtain ⟨b9, o9, cs9, hA9, hbl9, _, hc9, hr9⟩ := HX.out.jobs.at hy
            injection hA9 with hA9
            injection hA9 with hA9 hA8
            subst hA9
            subst hA8
            have hr9' : cs9 = [.int .i64 y.task, .int .i64 y.arr, .int .i64 y.fin, .bool y.cut, .bool y.miss] := hr9
            subst hr9'
            have y1 : wc.cell? ⟨b, o + k * 5 + 1, none⟩ = some (.int .i64 y.arr) := (HB2.out.cell (p := ⟨b, o + k * 5 + 1, none⟩) hbl9).trans (hc9 1 _ rfl)
            have hki : IntKind.i64.wrap ((i : Int) - 1) = ((k : Nat) : Int) := by rw [IntKind.wrap_i64]; omega
            have HOB := hid (show orderB X.jobs i ⟨q, ja, jf, jc, jm⟩ = decide (y.arr ≤ ja) from by rw [hik]; unfold orderB; simp only [hy, Option.map_some, Option.getD_some])
            obtain ⟨ya, hya⟩ : ∃ v, y.arr = v := ⟨_, rfl⟩
            rw [hya] at y1 HOB
            have HIK := hid hik
            have hi0' : 0 < i := by omega
            have hkm : k < m := by omega
            clear hy hbl9 hc9 hr9 hya hik hi0
            cases x8 : decide (ja < ya)
            case true =>
              have x8' := of_decide_eq_true x8
              have HG4 := hid (show true = !(orderB X.jobs i ⟨q, ja, jf, jc, jm⟩) from by rw [HOB.out, decide_eq_false (by omega)]; rfl)
              go_quiet (fail)
              have HBQ := hid (below_drewN' HB2.out nq)
              have HQQ := hid (show (wc.drewN nq).heap[w.heap.size]? = _ from HQ2.out)
              clear f0 f1 k12 y1
              go_wp2_with fail
              go_meet
              exact ⟨_, rfl, HG4, HBQ, HQQ⟩
            case false =>
              as_aux_lemma =>
                have x8' := of_decide_eq_false x8
                have HG4 := hid (show false = !(orderB X.jobs i ⟨q, ja, jf, jc, jm⟩) from by rw [HOB.out, decide_eq_true (by omega)]; rfl)
                go_quiet (fail)
                have HBQ := hid (below_drewN' HB2.out nq)
                have HQQ := hid (show (wc.drewN nq).heap[w.heap.size]? = _ from HQ2.out)
                clear f0 f1 k12 y1
                go_wp2_with fail
                go_meet
                exact ⟨_, rfl, HG4, HBQ, HQQ⟩
      obtain ⟨gb, rfl, HG4, HB4, HQ4⟩ := hcut
      clear f0 f1 k12 HB2 HQ2
      cases gb
      case true =>
        have HFA := hid (show jobB S X i = false from by
          rw [HJ2.out]
          have h1 := HG4.out
          cases hb : orderB X.jobs i ⟨q, ja, jf, jc, jm⟩ with
          | true => rw [hb] at h1; cases h1
          | false => rfl)
        go_wp2_with fail
        go_ret
        exact ⟨by rw [HFA.out]; rfl, HB4.out⟩
      case false =>
        as_aux_lemma =>
          have HJ3 := hid (show jobB S X i = (missB td X.slots.length ⟨q, ja, jf, jc, jm⟩ && prevB tp ⟨q, ja, jf, jc, jm⟩ (prevJ X.jobs q i)) from by
            rw [HJ2.out]
            have h1 := HG4.out
            cases hb : orderB X.jobs i ⟨q, ja, jf, jc, jm⟩ with
            | true => rw [Bool.true_and]
            | false => rw [hb] at h1; cases h1)
          have f0 : wc.cell? ⟨w.heap.size, 0, none⟩ = some (.int .i64 q) := blk_cell HQ4.out 0
          have f0d : wc.drew.cell? ⟨w.heap.size, 0, none⟩ = some (.int .i64 q) := f0
          have k8 : wc.cell? ⟨K, 8, none⟩ = some (.slice (some ⟨b3, o3, none⟩) nt ct) := (HB4.out.cell (p := ⟨K, 8, none⟩) hKl).trans HCE.out.1
          have k8d : wc.drew.cell? ⟨K, 8, none⟩ = some (.slice (some ⟨b3, o3, none⟩) nt ct) := k8
          have t0 : wc.cell? ⟨b3, o3 + q * 4, none⟩ = some (.int .i64 tp) := (HB4.out.cell (p := ⟨b3, o3 + q * 4, none⟩) HBL3.out).trans HCT.out.1
          have t1 : wc.cell? ⟨b3, o3 + q * 4 + 1, none⟩ = some (.int .i64 td) := (HB4.out.cell (p := ⟨b3, o3 + q * 4 + 1, none⟩) HBL3.out).trans HCT.out.2.1
          have t2 : wc.cell? ⟨b3, o3 + q * 4 + 2, none⟩ = some (.int .i64 tw) := (HB4.out.cell (p := ⟨b3, o3 + q * 4 + 2, none⟩) HBL3.out).trans HCT.out.2.2.1
          have t3 : wc.cell? ⟨b3, o3 + q * 4 + 3, none⟩ = some (.slice Ats nts cts) := (HB4.out.cell (p := ⟨b3, o3 + q * 4 + 3, none⟩) HBL3.out).trans HCT.out.2.2.2
          have t0d : wc.drew.cell? ⟨b3, o3 + q * 4, none⟩ = some (.int .i64 tp) := t0
          have t1d : wc.drew.cell? ⟨b3, o3 + q * 4 + 1, none⟩ = some (.int .i64 td) := t1
          have t2d : wc.drew.cell? ⟨b3, o3 + q * 4 + 2, none⟩ = some (.int .i64 tw) := t2
          have t3d : wc.drew.cell? ⟨b3, o3 + q * 4 + 3, none⟩ = some (.slice Ats nts cts) := t3
          have hbl3 : b3 < wc.heap.size := Nat.lt_of_lt_of_le HBL3.out HB4.out.size
          have hKl4 : K < wc.heap.size := Nat.lt_of_lt_of_le hKl HB4.out.size
          have hDl : w.heap.size < wc.heap.size := blk_lt HQ4.out
          go_upto_region 6 with fail
          go_region
          have HB5 := hid (show Below w.heap.size w (wc.alloc (.cells #[.int .i64 tp, .int .i64 td, .int .i64 tw, .slice Ats nts cts] 55)).drew from (below_new HB4.out _).drew)
          have HQ5 := hid (show (wc.alloc (.cells #[.int .i64 tp, .int .i64 td, .int .i64 tw, .slice Ats nts cts] 55)).drew.heap[w.heap.size]? = _ from blk_old HQ4.out _)
          have HE5 := hid (show (wc.alloc (.cells #[.int .i64 tp, .int .i64 td, .int .i64 tw, .slice Ats nts cts] 55)).drew.heap[wc.heap.size]? = some (.cells #[.int .i64 tp, .int .i64 td, .int .i64 tw, .slice Ats nts cts] 55 (0, 0)) from blk_new wc _)
          generalize (wc.alloc (.cells #[.int .i64 tp, .int .i64 td, .int .i64 tw, .slice Ats nts cts] 55)).drew = w5 at *
          obtain ⟨E, hE⟩ : ∃ E, wc.heap.size = E := ⟨_, rfl⟩
          rw [hE] at HE5 ⊢
          clear f0 f0d k8 k8d t0 t1 t2 t3 t0d t1d t2d t3d hbl3 hKl4 hDl hE HB4 HQ4
          have f2 : w5.cell? ⟨w.heap.size, 2, none⟩ = some (.int .i64 jf) := blk_cell HQ5.out 2
          have f1 : w5.cell? ⟨w.heap.size, 1, none⟩ = some (.int .i64 ja) := blk_cell HQ5.out 1
          have f4 : w5.cell? ⟨w.heap.size, 4, none⟩ = some (.bool jm) := blk_cell HQ5.out 4
          have g1 : w5.cell? ⟨E, 1, none⟩ = some (.int .i64 td) := blk_cell HE5.out 1
          go_upto_if 98 with fail
          go_cut [8] (fun v wx => ∃ e : Int, v = .int .i64 e ∧ 0 ≤ e ∧ e ≤ 2000000 ∧ Hid ((if jf = -1 then (n : Int) + 1 else jf) = e) ∧ w5 = wx)
          case first =>
            as_aux_lemma =>
              by_cases y6 : jf = -1
              case pos =>
                have y6b : (jf == -1) = true := beq_iff_eq.2 y6
                have HI := hid (show (if jf = -1 then (n : Int) + 1 else jf) = (n : Int) + 1 from if_pos y6)
                clear y6
                go_wp2_with fail
                go_meet
                exact ⟨_, rfl, by have := HDN.out; omega, by have := HDN.out; omega, HI, rfl⟩
              case neg =>
                have y6b : (jf == -1) = false := beq_eq_false_iff_ne.2 y6
                have HI := hid (show (if jf = -1 then (n : Int) + 1 else jf) = jf from if_neg y6)
                go_wp2_with fail
                go_meet
                exact ⟨_, rfl, by have := HDN.out; omega, by have := HDN.out; omega, HI, rfl⟩
          obtain ⟨e, rfl, he0, he1, HE, rfl⟩ := hcut
          have hwe : IntKind.i64.wrap (e - td) = e - td := by rw [IntKind.wrap_i64]; have := HDN.out; have := HDP.out; omega
          clear he0 he1
          have HMI := hid (show missB td X.slots.length ⟨q, ja, jf, jc, jm⟩ = (jm == decide (ja < e - td)) from by unfold missB; rw [← HN.out]; simp only [HE.out])
          go_upto_region 10 with fail
          go_cut [110] (fun v wx => ∃ gb : Bool, v = .bool gb ∧ Hid (gb = !(missB td X.slots.length ⟨q, ja, jf, jc, jm⟩)) ∧ w5 = wx)
          case first =>
            as_aux_lemma =>
              cases hmb : decide (ja < e - td)
              case true =>
                have hmb' := of_decide_eq_true hmb
                rw [hmb] at HMI
                cases jm
                all_goals
                  go_wp2_with fail
                  go_meet
                  exact ⟨_, rfl, hid (by rw [HMI.out]; rfl), rfl⟩
              case false =>
                as_aux_lemma =>
                  have hmb' := of_decide_eq_false hmb
                  rw [hmb] at HMI
                  cases jm
                  all_goals
                    go_wp2_with fail
                    go_meet
                    exact ⟨_, rfl, hid (by rw [HMI.out]; rfl), rfl⟩
          obtain ⟨gb, rfl, HGM, rfl⟩ := hcut
          cases gb
          case true =>
            have HFA := hid (show jobB S X i = false from by
              rw [HJ3.out]
              have h1 := HGM.out
              cases hb : missB td X.slots.length ⟨q, ja, jf, jc, jm⟩ with
              | true => rw [hb] at h1; cases h1
              | false => rfl)
            go_wp2_with fail
            go_ret
            exact ⟨by rw [HFA.out]; rfl, HB5.out⟩
          case false =>
            as_aux_lemma =>
              have HJ4 := hid (show jobB S X i = prevB tp ⟨q, ja, jf, jc, jm⟩ (prevJ X.jobs q i) from by
                rw [HJ3.out]
                have h1 := HGM.out
                cases hb : missB td X.slots.length ⟨q, ja, jf, jc, jm⟩ with
                | true => rw [Bool.true_and]
                | false => rw [hb] at h1; cases h1)
              clear f4 g1 hwe HMI HE
              go_wp2_with fail
              go_loopw [9] (fun v wr => ∃ (h : Nat) (z : Int), h ≤ i ∧ v = .int .i64 z ∧ z + 1 = h ∧ Hid (prevJ X.jobs q i = prevJ X.jobs q h) ∧ Hid (Below w5.heap.size w5 wr)) (fun v _ => (intOf v + 1).toNat)
              case atStart => exact ⟨i, _, Nat.le_refl _, rfl, by omega, hid rfl, hid (Below.refl _ _)⟩
              case round =>
                as_aux_lemma =>
                  obtain ⟨h, z, hh, rfl, hz, HPJ, HBR⟩ := hrel
                  have HBA := hid (below_then HB5.out HBR.out)
                  by_cases h0 : h = 0
                  case pos =>
                    have hz0 : z = -1 := by omega
                    subst hz0
                    have HFA := hid (show jobB S X i = true from by rw [HJ4.out, HPJ.out, h0]; rfl)
                    clear h0 hz
                    go_wp2_with fail
                    go_ret
                    exact ⟨by rw [HFA.out]; rfl, HBA.out⟩
                  case neg =>
                    obtain ⟨g, hg⟩ : ∃ g, h = g + 1 := ⟨h - 1, by omega⟩
                    obtain rfl : z = (g : Int) := by omega
                    have hgm : g < m := by omega
                    obtain ⟨y, hy⟩ : ∃ y, X.jobs[g]? = some y := ⟨_, List.getElem?_eq_getElem (by have := HM.out; omega)⟩
                    have hya := HPO.out g y (by omega) hy
                    have hyw := HWF.out y (List.mem_of_getElem? hy)
                    unfold I64 at hyw
                    obtain ⟨b9, o9, cs9, hA9, hbl9, _, hc9, hr9⟩ := HX.out.jobs.at hy
                    injection hA9 with hA9
                    injection hA9 with hA9 hA8
                    subst hA9
                    subst hA8
                    have hr9' : cs9 = [.int .i64 y.task, .int .i64 y.arr, .int .i64 y.fin, .bool y.cut, .bool y.miss] := hr9
                    subst hr9'
                    have HPH := hid (show y.task = q → prevJ X.jobs q h = some y from fun e => by rw [hg]; exact prevJ_hit hy e)
                    have HPM := hid (show y.task ≠ q → prevJ X.jobs q h = prevJ X.jobs q g from fun e => by rw [hg]; exact prevJ_miss hy e)
                    obtain ⟨yt, ya, yf, yc, ym⟩ := y
                    simp only at hya hyw hc9 HPH HPM
                    have e0 : wr.cell? ⟨b, o + g * 5, none⟩ = some (.int .i64 yt) := (HBA.out.cell (p := ⟨b, o + g * 5, none⟩) hbl9).trans (by simpa using hc9 0 _ rfl)
                    have e1 : wr.cell? ⟨b, o + g * 5 + 1, none⟩ = some (.int .i64 ya) := (HBA.out.cell (p := ⟨b, o + g * 5 + 1, none⟩) hbl9).trans (hc9 1 _ rfl)
                    have e2 : wr.cell? ⟨b, o + g * 5 + 2, none⟩ = some (.int .i64 yf) := (HBA.out.cell (p := ⟨b, o + g * 5 + 2, none⟩) hbl9).trans (hc9 2 _ rfl)
                    have e3 : wr.cell? ⟨b, o + g * 5 + 3, none⟩ = some (.bool yc) := (HBA.out.cell (p := ⟨b, o + g * 5 + 3, none⟩) hbl9).trans (hc9 3 _ rfl)
                    have e4 : wr.cell? ⟨b, o + g * 5 + 4, none⟩ = some (.bool ym) := (HBA.out.cell (p := ⟨b, o + g * 5 + 4, none⟩) hbl9).trans (hc9 4 _ rfl)
                    have k12 : wr.cell? ⟨K, 12, none⟩ = some (.slice (some ⟨b, o, none⟩) m c2) := (HBA.out.cell (p := ⟨K, 12, none⟩) hKl).trans HCE.out.2.2
                    have HQR := hid ((fr0 HBR.out).blk HQ5.out (fun h => h))
                    have HER := hid ((fr0 HBR.out).blk HE5.out (fun h => h))
                    have hgi : g ≤ i := by omega
                    clear hy hc9 hr9 hbl9 hg h0 hz
                    go_upto_region 16 with fail
                    have HB6 := hid (below_new (Below.refl wr.heap.size wr) (.cells #[.int .i64 yt, .int .i64 ya, .int .i64 yf, .bool yc, .bool ym] 45))
                    have HQ6 := hid (blk_new wr (.cells #[.int .i64 yt, .int .i64 ya, .int .i64 yf, .bool yc, .bool ym] 45))
                    generalize wr.alloc (.cells #[.int .i64 yt, .int .i64 ya, .int .i64 yf, .bool yc, .bool ym] 45) = w6 at *
                    obtain ⟨G, hG⟩ : ∃ G, wr.heap.size = G := ⟨_, rfl⟩
                    rw [hG] at HQ6 ⊢
                    have hq6 := (fr0 HB6.out).blk HQR.out (fun h => h)
                    have he6 := (fr0 HB6.out).blk HER.out (fun h => h)
                    have y0 : w6.cell? ⟨G, 0, none⟩ = some (.int .i64 yt) := blk_cell HQ6.out 0
                    have y1 : w6.cell? ⟨G, 1, none⟩ = some (.int .i64 ya) := blk_cell HQ6.out 1
                    have y2 : w6.cell? ⟨G, 2, none⟩ = some (.int .i64 yf) := blk_cell HQ6.out 2
                    have j0 : w6.cell? ⟨w.heap.size, 0, none⟩ = some (.int .i64 q) := blk_cell hq6 0
                    have j1 : w6.cell? ⟨w.heap.size, 1, none⟩ = some (.int .i64 ja) := blk_cell hq6 1
                    have p0 : w6.cell? ⟨E, 0, none⟩ = some (.int .i64 tp) := blk_cell he6 0
                    clear hG hq6 he6 e0 e1 e2 e3 e4 k12
                    by_cases ht : yt = q
                    case neg =>
                      have htb : (yt == (q : Int)) = false := beq_eq_false_iff_ne.2 ht
                      have HPN := hid (HPJ.out.trans (HPM.out ht))
                      have HBN := hid (below_then HBR.out HB6.out)
                      clear ht
                      go_wp2_with fail
                      go_roundw
                      case rel => exact ⟨g, _, hgi, by go_num, by omega, HPN, HBN⟩
                      case measure => first | (simp [intOf]; done) | (simp [intOf]; omega)
                    case pos =>
                      have htb : (yt == (q : Int)) = true := beq_iff_eq.2 ht
                      have HFA := hid (show jobB S X i = (decide (tp ≤ ja - ya) && (!decide (yf = -1) && decide (yf ≤ ja))) from by rw [HJ4.out, HPJ.out, HPH.out ht]; rfl)
                      have HBN := hid (below_then HBA.out HB6.out)
                      have hwd : IntKind.i64.wrap (ja - ya) = ja - ya := by rw [IntKind.wrap_i64]; have := HDN.out; omega
                      clear hya hyw
                      clear ht
                      by_cases z1 : tp ≤ ja - ya
                      case neg =>
                        have HF1 := hid (show jobB S X i = false from by rw [HFA.out, decide_eq_false z1]; rfl)
                        go_wp2_with fail
                        go_ret
                        exact ⟨by rw [HF1.out]; rfl, HBN.out⟩
                      case pos =>
                        by_cases z2 : yf = -1
                        case pos =>
                          have z2b : (yf != -1) = false := by rw [z2]; rfl
                          have HF1 := hid (show jobB S X i = false from by rw [HFA.out, decide_eq_true z2]; simp)
                          clear z2
                          go_wp2_with fail
                          go_ret
                          exact ⟨by rw [HF1.out]; rfl, HBN.out⟩
                        case neg =>
                          have z2b : (yf != -1) = true := by simpa using z2
                          by_cases z3 : yf ≤ ja
                          case neg =>
                            have HF1 := hid (show jobB S X i = false from by rw [HFA.out, decide_eq_false z3]; simp)
                            clear z2
                            go_wp2_with fail
                            go_ret
                            exact ⟨by rw [HF1.out]; rfl, HBN.out⟩
                          case pos =>
                            have HF1 := hid (show jobB S X i = true from by rw [HFA.out, decide_eq_true z1, decide_eq_false z2, decide_eq_true z3]; rfl)
                            clear z2
                            go_wp2_with fail
                            go_ret
                            exact ⟨by rw [HF1.out]; rfl, HBN.out⟩
end
end Go.Proofs.Ytmhochjpdedlgaa
