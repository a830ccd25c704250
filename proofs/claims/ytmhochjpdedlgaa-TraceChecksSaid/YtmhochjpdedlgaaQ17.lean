/- Joined: Del. -/
import Derived.Test.YtmhochjpdedlgaaQ16
set_option linter.unusedVariables false
set_option linter.unusedSimpArgs false
/- analysis.Rank's closures (contracts). -/
set_option linter.unusedVariables false
set_option linter.unusedSimpArgs false
namespace Go.Proofs.Ytmhochjpdedlgaa
open Go.RowKit

section
variable {w : World}
set_option maxRecDepth 100000 in
set_option maxHeartbeats 1600000 in
/-- Which parts are left out. -/
theorem del_any (x : Pt) (B : Nat) (pol : Int) (hb : B < w.heap.size) (h : w.cell? ⟨B, 1, none⟩ = some (.int .i64 pol)) :
    Calls Try.prog 58 #[.agg (encPt x).toArray, .pointer (some ⟨B, 0, none⟩)] w fun e w' => e = .returned (.bool (x.p.tight || decide (pol = 2))) ∧ Below w.heap.size w w' := by
  obtain ⟨⟨pc, pb, pd, pp, ti⟩, tk, kk⟩ := x
  unfold encPt
  have HC := hid h
  have HBL := hid hb
  clear h hb
  go_enter Try.func58, Try.ntmps58
  go_upto_region 1 with fail
  have hbel := below_new (Below.refl w.heap.size w) (.cells #[.int .i64 pc, .int .i64 pb, .int .i64 pd, .int .i64 pp, .bool ti, .int .i64 tk, .int .i64 kk] 107)
  have hblk := blk_new w (.cells #[.int .i64 pc, .int .i64 pb, .int .i64 pd, .int .i64 pp, .bool ti, .int .i64 tk, .int .i64 kk] 107)
  generalize w.alloc (.cells #[.int .i64 pc, .int .i64 pb, .int .i64 pd, .int .i64 pp, .bool ti, .int .i64 tk, .int .i64 kk] 107) = w1 at hbel hblk ⊢
  have c4 : w1.cell? ⟨w.heap.size, 4, none⟩ = some (.bool ti) := blk_cell hblk 4
  have b1 : w1.cell? ⟨B, 1, none⟩ = some (.int .i64 pol) := (hbel.cell (p := ⟨B, 1, none⟩) HBL.out).trans HC.out
  have HBE := hid hbel
  clear hbel hblk
  cases ti
  case true =>
    go_wp2_with fail
    go_ret
    exact ⟨rfl, HBE.out⟩
  case false =>
    by_cases hp : pol = 2
    case pos =>
      have hpb : (pol == 2) = true := beq_iff_eq.2 hp
      have HD := hid (decide_eq_true hp)
      clear hp
      go_wp2_with fail
      go_ret
      exact ⟨by rw [HD.out]; rfl, HBE.out⟩
    case neg =>
      have hpb : (pol == 2) = false := beq_eq_false_iff_ne.2 hp
      have HD := hid (decide_eq_false hp)
      clear hp
      go_wp2_with fail
      go_ret
      exact ⟨by rw [HD.out]; rfl, HBE.out⟩
end
end Go.Proofs.Ytmhochjpdedlgaa
