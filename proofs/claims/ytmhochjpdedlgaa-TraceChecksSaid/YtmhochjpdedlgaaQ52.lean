/- Joined: Open2. -/
import Derived.Test.YtmhochjpdedlgaaQ51
import Derived.Test.YtmhochjpdedlgaaQ42
set_option linter.unusedVariables false
set_option linter.unusedSimpArgs false
/- Arguments opened: slots, jobs, a trace; a system, entries, a table. No program; no condition. -/
set_option linter.unusedVariables false
set_option linter.unusedSimpArgs false
namespace Go.Proofs.Ytmhochjpdedlgaa
open Go.ChangeShapes Go.WideShapes Go.Deep Go.RowKit
section
variable {H : Type} {enc : TypeId × Value → H} {P : Program} {w : World} {base : Nat} {spare : Nat → Bool} {held : Bool}
theorem opens_sl {e : TypeId} {f0 f1 f2 : Field} (hs : P.underlying e = some (.struct #[f0, f1, f2])) (hone : oneCellFields P #[f0, f1, f2] = true) (hC : P.cellsOf e = 3)
    (h0 : P.underlying f0.type = some (.int .i64)) (h1 : P.underlying f1.type = some (.int .i64)) (h2 : P.underlying f2.type = some (.int .i64)) :
    Opens enc P w base spare held e slR (fun _ => True) := fun fuel cs y h => by
  obtain ⟨hl, hf⟩ := struct_cells hs hone hC h
  obtain ⟨c0, _, _, e0, t0⟩ := hf 0 f0 rfl
  obtain ⟨c1, _, _, e1, t1⟩ := hf 1 f1 rfl
  obtain ⟨c2, _, _, e2, t2⟩ := hf 2 f2 rfl
  obtain ⟨z0, rfl, w0⟩ := cell_int h0 t0
  obtain ⟨z1, rfl, w1⟩ := cell_int h1 t1
  obtain ⟨z2, rfl, w2⟩ := cell_int h2 t2
  exact ⟨⟨z0, z1, z2⟩, list3 hl e0 e1 e2, trivial⟩
theorem opens_jb {e : TypeId} {f0 f1 f2 f3 f4 : Field} (hs : P.underlying e = some (.struct #[f0, f1, f2, f3, f4])) (hone : oneCellFields P #[f0, f1, f2, f3, f4] = true) (hC : P.cellsOf e = 5)
    (h0 : P.underlying f0.type = some (.int .i64)) (h1 : P.underlying f1.type = some (.int .i64)) (h2 : P.underlying f2.type = some (.int .i64)) (h3 : P.underlying f3.type = some .bool) (h4 : P.underlying f4.type = some .bool) :
    Opens enc P w base spare held e jbR (fun j => I64 j.arr) := fun fuel cs y h => by
  obtain ⟨hl, hf⟩ := struct_cells hs hone hC h
  obtain ⟨c0, _, _, e0, t0⟩ := hf 0 f0 rfl
  obtain ⟨c1, _, _, e1, t1⟩ := hf 1 f1 rfl
  obtain ⟨c2, _, _, e2, t2⟩ := hf 2 f2 rfl
  obtain ⟨c3, _, _, e3, t3⟩ := hf 3 f3 rfl
  obtain ⟨c4, _, _, e4, t4⟩ := hf 4 f4 rfl
  obtain ⟨z0, rfl, w0⟩ := cell_int h0 t0
  obtain ⟨z1, rfl, w1⟩ := cell_int h1 t1
  obtain ⟨z2, rfl, w2⟩ := cell_int h2 t2
  obtain ⟨z3, rfl⟩ := cell_bool h3 t3
  obtain ⟨z4, rfl⟩ := cell_bool h4 t4
  exact ⟨⟨z0, z1, z2, z3, z4⟩, list5 hl e0 e1 e2 e3 e4, w1⟩
theorem list2 {cs : List Value} (h : cs.length = 2) {a b : Value} (h0 : cs[0]? = some a) (h1 : cs[1]? = some b) : cs = [a, b] := by
  match cs, h with
  | [x, y], _ => simp at h0 h1; rw [h0, h1]
/-- A trace. -/
theorem open_tr {t tss ts tj ej es : TypeId} {f0 f1 : Field} (hs : P.underlying t = some (.struct #[f0, f1])) (hone : oneCellFields P #[f0, f1] = true) (hC : P.cellsOf t = 2)
    (h0 : P.underlying f0.type = some (.slice ts)) (hc0 : P.cellsOf ts = 1) (h0' : P.underlying ts = some (.slice es)) (hc0' : P.cellsOf es = 3) (hO : Opens enc P w base spare held es slR (fun _ => True))
    (h1 : P.underlying f1.type = some (.slice ej)) (hc1 : P.cellsOf ej = 5) (hJ : Opens enc P w base spare held ej jbR (fun j => I64 j.arr))
    {fuel : Nat} {cs : List Value} {x : DataW H × List MemPlace} (h : DataW.trod enc P w base spare held fuel t cs = some x) : ∃ u v X, cs = [u, v] ∧ IsTr w u v X ∧ ∀ y ∈ X.jobs, I64 y.arr := by
  obtain ⟨hl, hf⟩ := struct_cells hs hone hC h
  obtain ⟨c0, _, _, e0, t0⟩ := hf 0 f0 rfl
  obtain ⟨c1, _, _, e1, t1⟩ := hf 1 f1 rfl
  obtain ⟨u, l, hu, hr, _⟩ := rowp_of_slice h0 hc0 (by omega) (opens_row h0' hc0' (by omega) hO) t0
  obtain ⟨v, j, hv, hk, hq⟩ := rowp_of_slice h1 hc1 (by omega) hJ t1
  injection hu with hu
  subst hu
  injection hv with hv
  subst hv
  exact ⟨c0, c1, ⟨l, j⟩, list2 hl e0 e1, ⟨hr, hk⟩, hq⟩
theorem list9 {cs : List Value} (h : cs.length = 9) {a b c d e f g i j : Value} (h0 : cs[0]? = some a) (h1 : cs[1]? = some b) (h2 : cs[2]? = some c) (h3 : cs[3]? = some d) (h4 : cs[4]? = some e) (h5 : cs[5]? = some f) (h6 : cs[6]? = some g) (h7 : cs[7]? = some i) (h8 : cs[8]? = some j) : cs = [a, b, c, d, e, f, g, i, j] := by
  match cs, h with
  | [x0, x1, x2, x3, x4, x5, x6, x7, x8], _ => simp at h0 h1 h2 h3 h4 h5 h6 h7 h8; rw [h0, h1, h2, h3, h4, h5, h6, h7, h8]
/-- A system. -/
theorem open_sy {t et : TypeId} {f0 f1 f2 f3 f4 f5 f6 f7 f8 : Field} (hs : P.underlying t = some (.struct #[f0, f1, f2, f3, f4, f5, f6, f7, f8])) (hone : oneCellFields P #[f0, f1, f2, f3, f4, f5, f6, f7, f8] = true) (hC : P.cellsOf t = 9)
    (h0 : P.underlying f0.type = some (.int .i64)) (h1 : P.underlying f1.type = some (.int .i64)) (h2 : P.underlying f2.type = some (.int .i64)) (h3 : P.underlying f3.type = some (.int .i64)) (h4 : P.underlying f4.type = some (.int .i64))
    (h5 : P.underlying f5.type = some (.int .i64)) (h6 : P.underlying f6.type = some (.int .i64)) (h7 : P.underlying f7.type = some (.int .i64)) (h8 : P.underlying f8.type = some (.slice et)) (hc8 : P.cellsOf et = 4) (hO : Opens enc P w base spare held et tskR Tsk.Wf)
    {fuel : Nat} {cs : List Value} {x : DataW H × List MemPlace} (h : DataW.trod enc P w base spare held fuel t cs = some x) :
    ∃ u S, cs = [.int .i64 S.cores, .int .i64 S.policy, .int .i64 S.prot, .int .i64 S.rel, .int .i64 S.sw, .int .i64 S.fin, .int .i64 S.lat, .int .i64 S.resn, u] ∧ IsSys w u S := by
  obtain ⟨hl, hf⟩ := struct_cells hs hone hC h
  obtain ⟨c0, _, _, e0, t0⟩ := hf 0 f0 rfl
  obtain ⟨c1, _, _, e1, t1⟩ := hf 1 f1 rfl
  obtain ⟨c2, _, _, e2, t2⟩ := hf 2 f2 rfl
  obtain ⟨c3, _, _, e3, t3⟩ := hf 3 f3 rfl
  obtain ⟨c4, _, _, e4, t4⟩ := hf 4 f4 rfl
  obtain ⟨c5, _, _, e5, t5⟩ := hf 5 f5 rfl
  obtain ⟨c6, _, _, e6, t6⟩ := hf 6 f6 rfl
  obtain ⟨c7, _, _, e7, t7⟩ := hf 7 f7 rfl
  obtain ⟨c8, _, _, e8, t8⟩ := hf 8 f8 rfl
  obtain ⟨z0, rfl, w0⟩ := cell_int h0 t0
  obtain ⟨z1, rfl, w1⟩ := cell_int h1 t1
  obtain ⟨z2, rfl, w2⟩ := cell_int h2 t2
  obtain ⟨z3, rfl, w3⟩ := cell_int h3 t3
  obtain ⟨z4, rfl, w4⟩ := cell_int h4 t4
  obtain ⟨z5, rfl, w5⟩ := cell_int h5 t5
  obtain ⟨z6, rfl, w6⟩ := cell_int h6 t6
  obtain ⟨z7, rfl, w7⟩ := cell_int h7 t7
  obtain ⟨u, l, hu, hr, hq⟩ := rowp_of_slice h8 hc8 (by omega) hO t8
  injection hu with hu
  subst hu
  exact ⟨c8, ⟨z0, z1, z2, z3, z4, z5, z6, z7, l⟩, list9 hl e0 e1 e2 e3 e4 e5 e6 e7 e8, hr, w0, w1, w2, w3, w4, w5, w6, w7, hq⟩
theorem opens_en {e ep : TypeId} {f0 f1 : Field} (hs : P.underlying e = some (.struct #[f0, f1])) (hone : oneCellFields P #[f0, f1] = true) (hC : P.cellsOf e = 2)
    (h0 : P.underlying f0.type = some (.slice ep)) (hc0 : P.cellsOf ep = 5) (hO : Opens enc P w base spare held ep pcR Pc.Wf) (h1 : P.underlying f1.type = some (.int .i64)) :
    Opens enc P w base spare held e entR (fun x => (∀ p ∈ x.ps, Pc.Wf p) ∧ I64 x.bound) := fun fuel cs y h => by
  obtain ⟨hl, hf⟩ := struct_cells hs hone hC h
  obtain ⟨c0, _, _, e0, t0⟩ := hf 0 f0 rfl
  obtain ⟨c1, _, _, e1, t1⟩ := hf 1 f1 rfl
  obtain ⟨u, l, hu, hr, hq⟩ := rowp_of_slice h0 hc0 (by omega) hO t0
  injection hu with hu
  subst hu
  obtain ⟨z1, rfl, w1⟩ := cell_int h1 t1
  exact ⟨⟨l, z1⟩, ⟨c0, list2 hl e0 e1, hr⟩, hq, w1⟩
/-- A table. -/
theorem open_tb {t ee ec ei : TypeId} {f0 f1 f2 : Field} (hs : P.underlying t = some (.struct #[f0, f1, f2])) (hC : P.cellsOf t = 11) (ho0 : f0.offset = 0) (ho1 : f1.offset = 9) (ho2 : f2.offset = 10) (hc0 : P.cellsOf f0.type = 9) (hc1 : P.cellsOf f1.type = 1) (hc2 : P.cellsOf f2.type = 1)
    (hS : ∀ fuel cs (x : DataW H × List MemPlace), DataW.trod enc P w base spare held fuel f0.type cs = some x → ∃ u S, cs = [.int .i64 S.cores, .int .i64 S.policy, .int .i64 S.prot, .int .i64 S.rel, .int .i64 S.sw, .int .i64 S.fin, .int .i64 S.lat, .int .i64 S.resn, u] ∧ IsSys w u S)
    (h1 : P.underlying f1.type = some (.slice ee)) (hce : P.cellsOf ee = 2) (hE : Opens enc P w base spare held ee entR (fun x => (∀ p ∈ x.ps, Pc.Wf p) ∧ I64 x.bound))
    (h2 : P.underlying f2.type = some (.slice ec)) (hcc : P.cellsOf ec = 1) (h3 : P.underlying ec = some (.slice ei)) (hci : P.cellsOf ei = 1) (h4 : P.underlying ei = some (.int .i64))
    {fuel : Nat} {cs : List Value} {x : DataW H × List MemPlace} (h : DataW.trod enc P w base spare held fuel t cs = some x) :
    ∃ tv ev cv T, cs = (tabC T.sys tv ev cv).toList ∧ IsTab w tv ev cv T := by
  obtain ⟨xs, n, _, _, hlen, hxl, hf⟩ := DataW.trod_struct hs h
  rw [hC] at hlen
  have k0 := hf 0 f0 rfl
  have k1 := hf 1 f1 rfl
  have k2 := hf 2 f2 rfl
  have hxl' : xs.length = 3 := hxl
  obtain ⟨y0, hy0⟩ : ∃ y, xs[0]? = some y := ⟨_, List.getElem?_eq_getElem (by omega)⟩
  obtain ⟨y1, hy1⟩ : ∃ y, xs[1]? = some y := ⟨_, List.getElem?_eq_getElem (by omega)⟩
  obtain ⟨y2, hy2⟩ : ∃ y, xs[2]? = some y := ⟨_, List.getElem?_eq_getElem (by omega)⟩
  rw [hy0, ho0, hc0] at k0
  rw [hy1, ho1, hc1] at k1
  rw [hy2, ho2, hc2] at k2
  obtain ⟨u, S, hcs, hsys⟩ := hS _ _ _ k0
  obtain ⟨ev, L, hev, hr, hq⟩ := rowp_of_slice h1 hce (by omega) hE k1
  obtain ⟨cv, C, hcv, hr2, _⟩ := rowp_of_slice h2 hcc (by omega) (opens_row h3 hci (by omega) (opens_int h4)) k2
  refine ⟨u, ev, cv, ⟨S, L, C⟩, ?_, ⟨hsys, hr, fun e he => (hq e he).1, fun e he => (hq e he).2, hr2⟩⟩
  match cs, hlen with
  | [a0, a1, a2, a3, a4, a5, a6, a7, a8, a9, a10], _ =>
    simp at hcs hev hcv
    obtain ⟨rfl, rfl, rfl, rfl, rfl, rfl, rfl, rfl, rfl⟩ := hcs
    subst hev
    subst hcv
    rfl
end
end Go.Proofs.Ytmhochjpdedlgaa
