/- Joined: Open3. -/
import Derived.Test.YtppildaahmlfmaaQ04
set_option linter.unusedVariables false
set_option linter.unusedSimpArgs false
/- Arguments opened: a system, a plan. No program; no condition. -/
set_option linter.unusedVariables false
set_option linter.unusedSimpArgs false
namespace Go.Proofs.Ytppildaahmlfmaa
open Go.ChangeShapes Go.WideShapes Go.Deep Go.RowKit
section
variable {H : Type} {enc : TypeId × Value → H} {P : Program} {w : World} {base : Nat} {spare : Nat → Bool} {held : Bool}
theorem list9 {cs : List Value} (h : cs.length = 9) {a b c d e f g i j : Value} (h0 : cs[0]? = some a) (h1 : cs[1]? = some b) (h2 : cs[2]? = some c) (h3 : cs[3]? = some d) (h4 : cs[4]? = some e) (h5 : cs[5]? = some f) (h6 : cs[6]? = some g) (h7 : cs[7]? = some i) (h8 : cs[8]? = some j) : cs = [a, b, c, d, e, f, g, i, j] := by
  match cs, h with
  | [x0, x1, x2, x3, x4, x5, x6, x7, x8], _ => simp at h0 h1 h2 h3 h4 h5 h6 h7 h8; rw [h0, h1, h2, h3, h4, h5, h6, h7, h8]
/-- A system. -/
theorem open_sy {t et : TypeId} {f0 f1 f2 f3 f4 f5 f6 f7 f8 : Field} (hs : P.underlying t = some (.struct #[f0, f1, f2, f3, f4, f5, f6, f7, f8])) (hone : oneCellFields P #[f0, f1, f2, f3, f4, f5, f6, f7, f8] = true) (hC : P.cellsOf t = 9)
    (h0 : P.underlying f0.type = some (.int .i64)) (h1 : P.underlying f1.type = some (.int .i64)) (h2 : P.underlying f2.type = some (.int .i64)) (h3 : P.underlying f3.type = some (.int .i64)) (h4 : P.underlying f4.type = some (.int .i64))
    (h5 : P.underlying f5.type = some (.int .i64)) (h6 : P.underlying f6.type = some (.int .i64)) (h7 : P.underlying f7.type = some (.int .i64)) (h8 : P.underlying f8.type = some (.slice et)) (hc8 : P.cellsOf et = 4) (hO : Opens enc P w base spare held et tskR Tsk.Wf)
    {fuel : Nat} {cs : List Value} {x : DataW H × List MemPlace} (h : DataW.trod enc P w base spare held fuel t cs = some x) :
    ∃ u S, cs = [.int .i64 S.cores, .int .i64 S.policy, .int .i64 S.prot, .int .i64 S.rel, .int .i64 S.sw, .int .i64 S.fin, .int .i64 S.lat, .int .i64 S.resn, u] ∧ IsSys w u S := by
  obtain ⟨hl, hf⟩ := struct_cells hs hone hC h
  obtain ⟨c0, _, _, e0, t0⟩ := hf 0 f0 rfl
  obtain ⟨c1, _, _, e1, t1⟩ := hf 1 f1 rfl
  obtain ⟨c2, _, _, e2, t2⟩ := hf 2 f2 rfl
  obtain ⟨c3, _, _, e3, t3⟩ := hf 3 f3 rfl
  obtain ⟨c4, _, _, e4, t4⟩ := hf 4 f4 rfl
  obtain ⟨c5, _, _, e5, t5⟩ := hf 5 f5 rfl
  obtain ⟨c6, _, _, e6, t6⟩ := hf 6 f6 rfl
  obtain ⟨c7, _, _, e7, t7⟩ := hf 7 f7 rfl
  obtain ⟨c8, _, _, e8, t8⟩ := hf 8 f8 rfl
  obtain ⟨z0, rfl, w0⟩ := cell_int h0 t0
  obtain ⟨z1, rfl, w1⟩ := cell_int h1 t1
  obtain ⟨z2, rfl, w2⟩ := cell_int h2 t2
  obtain ⟨z3, rfl, w3⟩ := cell_int h3 t3
  obtain ⟨z4, rfl, w4⟩ := cell_int h4 t4
  obtain ⟨z5, rfl, w5⟩ := cell_int h5 t5
  obtain ⟨z6, rfl, w6⟩ := cell_int h6 t6
  obtain ⟨z7, rfl, w7⟩ := cell_int h7 t7
  obtain ⟨u, l, hu, hr, hq⟩ := rowp_of_slice h8 hc8 (by omega) hO t8
  injection hu with hu
  subst hu
  exact ⟨c8, ⟨z0, z1, z2, z3, z4, z5, z6, z7, l⟩, list9 hl e0 e1 e2 e3 e4 e5 e6 e7 e8, hr, w0, w1, w2, w3, w4, w5, w6, w7, hq⟩
/-- A plan. -/
theorem open_plan {t et ep : TypeId} (ht : P.underlying t = some (.slice et)) (hc : P.cellsOf et = 1) (h1 : P.underlying et = some (.slice ep)) (hc1 : P.cellsOf ep = 5) (hO : Opens enc P w base spare held ep pcR Pc.Wf)
    {fuel : Nat} {cs : List Value} {x : DataW H × List MemPlace} (h : DataW.trod enc P w base spare held fuel t cs = some x) : ∃ u L, cs = [u] ∧ IsPlan w u L := by
  obtain ⟨u, l, hu, hr, hq⟩ := rowp_of_slice ht hc (by omega) (opens_row h1 hc1 (by omega) hO) h
  exact ⟨u, l, hu, hr, hq⟩
end
end Go.Proofs.Ytppildaahmlfmaa
