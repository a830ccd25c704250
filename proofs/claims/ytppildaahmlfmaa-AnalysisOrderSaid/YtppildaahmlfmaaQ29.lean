/- Joined: RankCmp. -/
import Derived.Test.YtppildaahmlfmaaQ11
import Derived.Test.YtppildaahmlfmaaQ03
set_option linter.unusedVariables false
set_option linter.unusedSimpArgs false
/- analysis.Rank's second closure: parts by their deadlines (contract): two boxes are made, nothing else. -/
set_option linter.unusedVariables false
set_option linter.unusedSimpArgs false
namespace Go.Proofs.Ytppildaahmlfmaa
open Go.RowKit

section
variable {w : World}
set_option maxRecDepth 100000 in
set_option maxHeartbeats 1600000 in
theorem rankcmp_any (x y : Pt) : Calls Try.prog 32 #[.agg (encPt x).toArray, .agg (encPt y).toArray] w fun e w' =>
    e = .returned (.int .i64 (cmp3 x.p.dl y.p.dl)) ∧ w' = (w.alloc (.cells (encPt x).toArray 67)).alloc (.cells (encPt y).toArray 67) := by
  obtain ⟨⟨pc, pb, pd, pp, ti⟩, tk, kk⟩ := x
  obtain ⟨⟨qc, qb, qd, qp, tj⟩, uk, jk⟩ := y
  unfold encPt
  simp only
  have HC := hid (fun (W : World) => compare_any (w := W) pd qd)
  go_enter Try.func32, Try.ntmps32
  go_upto_region 1 with fail
  have hb0 := blk_old (blk_new w (.cells #[.int .i64 pc, .int .i64 pb, .int .i64 pd, .int .i64 pp, .bool ti, .int .i64 tk, .int .i64 kk] 67)) (.cells #[.int .i64 qc, .int .i64 qb, .int .i64 qd, .int .i64 qp, .bool tj, .int .i64 uk, .int .i64 jk] 67)
  have hb1 := blk_new (w.alloc (.cells #[.int .i64 pc, .int .i64 pb, .int .i64 pd, .int .i64 pp, .bool ti, .int .i64 tk, .int .i64 kk] 67)) (.cells #[.int .i64 qc, .int .i64 qb, .int .i64 qd, .int .i64 qp, .bool tj, .int .i64 uk, .int .i64 jk] 67)
  have hs1 : (w.alloc (.cells #[.int .i64 pc, .int .i64 pb, .int .i64 pd, .int .i64 pp, .bool ti, .int .i64 tk, .int .i64 kk] 67)).heap.size = w.heap.size + 1 := by simp
  rw [hs1] at hb1
  obtain ⟨wc, hwc⟩ : ∃ wc, wc = (w.alloc (.cells #[.int .i64 pc, .int .i64 pb, .int .i64 pd, .int .i64 pp, .bool ti, .int .i64 tk, .int .i64 kk] 67)).alloc (.cells #[.int .i64 qc, .int .i64 qb, .int .i64 qd, .int .i64 qp, .bool tj, .int .i64 uk, .int .i64 jk] 67) := ⟨_, rfl⟩
  rw [← hwc] at hb0 hb1 ⊢
  have HWC := hid hwc
  have c0 : wc.cell? ⟨w.heap.size, 2, none⟩ = some (.int .i64 pd) := blk_cell hb0 2
  have c1 : wc.cell? ⟨w.heap.size + 1, 2, none⟩ = some (.int .i64 qd) := blk_cell hb1 2
  clear hb0 hb1 hs1 hwc
  go_wp2_with (go_at_call 33; refine (HC.out _).mono ?_; rintro e w1 ⟨rfl, rfl⟩)
  go_ret
  exact ⟨rfl, HWC.out⟩
end
end Go.Proofs.Ytppildaahmlfmaa
