/- Joined: LawTraceEmpty. -/
import Derived.Test.YtmhochjpdedlgaaRows
import Derived.Test.YtmhochjpdedlgaaR01
import Derived.WalkKit
import Derived.ProofKit
import Derived.OpenShut
import Derived.ShutString
import Derived.ChangeOld
import Derived.Below
import Derived.SizedLaws
/- TraceEmpty: a trace in which nothing happens breaks no rule; one with a job in no ticks that is over breaks the third one. Whatever table, whatever numbers. -/
namespace Go.Proofs.Ytmhochjpdedlgaa.traceEmpty
open Go.ChangeShapes Go.WideShapes Go.ChangeAt Go.RowKit Go.Deep
open Go.ChangeMaps (open_string shut_string)
set_option linter.unusedVariables false
set_option linter.unusedSimpArgs false

theorem own : ownKnob Try.prog.godebug = none := by kernel_rfl
theorem laidOut : laidOutB Try.prog = true := by kernel_rfl
/-- The form's own reach: a table's entries have at most 2^47 bytes. -/
theorem tb_reach {H : Type} {enc : TypeId × Value → H} {P : Program} {w : World} {base : Nat} {spare : Nat → Bool} {held : Bool} {fuel : Nat} {ts : List TypeId} {ds : List (DataW H)} (hall : (DataW.weightsEach P ts ds).all (· ≤ reachBytes) = true) {t ee : TypeId} {f0 f1 f2 : Field} {d : DataW H} {p : List MemPlace}
    (hts : ts[0]? = some t) (hds : ds[0]? = some d) (hs : P.underlying t = some (.struct #[f0, f1, f2])) (ho1 : f1.offset = 9) (hc1 : P.cellsOf f1.type = 1) (h1 : P.underlying f1.type = some (.slice ee)) (hb : P.bytesOf ee = 32) {cs : List Value} (h : DataW.trod enc P w base spare held fuel t cs = some (d, p))
    {A : Option Addr} {n c : Nat} (h9 : (cs.drop 9).take 1 = [.slice A n c]) : n ≤ 4398046511104 := by
  obtain ⟨xs, k, _, hx, _, hxl, hf⟩ := DataW.trod_struct hs h
  injection hx with hd _
  subst hd
  have k1 := hf 1 f1 rfl
  have hxl' : xs.length = 3 := hxl
  obtain ⟨y1, hy1⟩ : ∃ y, xs[1]? = some y := ⟨_, List.getElem?_eq_getElem (by omega)⟩
  rw [hy1, ho1, hc1, h9] at k1
  rcases open_slice h1 k1 with ⟨hcs, _⟩ | ⟨a, len, cap, m, n', D, Pl, hcs, _, _, _, _, hy, _⟩
  · simp at hcs
    omega
  · simp at hcs
    obtain ⟨_, rfl, _⟩ := hcs
    subst hy
    have hm : (n + (m - n)) * 32 ∈ DataW.weightsEach P ts ds := by
      refine DataW.weights_mem_each hts hds _ ?_
      simp only [DataW.weights, hs]
      refine DataW.weights_mem_each (j := 1) (t := f1.type) rfl (by rw [List.getElem?_map, hy1]; rfl) _ ?_
      simp only [DataW.weights, h1, List.length_map, List.length_range, hb]
      exact List.mem_cons_self ..
    have h2 := List.all_eq_true.1 hall _ hm
    have h3 := reachBytes_lt
    have h4 := of_decide_eq_true h2
    omega

/-! The row's step -/
set_option maxRecDepth 100000 in
theorem lifted (os : Os) (started : os.Started) (H : Type) (enc : TypeId × Value → H) :
    ReturnsInHanded {} Try.checked os 4 .any (Rows.traceEmptySpec.pre6 enc Try.prog Try.f4 Rows.traceEmptyRow.domain false) (Rows.traceEmptySpec.post enc Try.prog Try.f4 false true false false) := by
  refine returnsInHanded_of_change_sized (C := Try.checked) own started (by kernel_rfl) Try.func4
    (ChangeSpec.witness6 (enc := enc) (C := Try.checked) false ⟨#[], #[.agg #[.int .i64 0, .int .i64 0, .int .i64 0, .int .i64 0, .int .i64 0, .int .i64 0, .int .i64 0, .int .i64 0, .slice none 0 0, .slice none 0 0, .slice none 0 0], .int .i64 0, .int .i64 0, .int .i64 0], []⟩ 8 (by kernel_rfl) (by kernel_rfl) (by kernel_rfl) (by kernel_rfl)) ?_
  intro W base args ds gs before hval0 hW hcnd hsz _
  have hval : ∀ (j : Nat) t v, Try.f4.params[j]? = some t → args[j]? = some v → Value.okWide Try.prog W .any base t v := hval0
  have hW' := hW
  obtain ⟨p, q, hA0, hV, rfl, hfz, hnd⟩ := hW
  have hA : DataW.TrodAll enc Try.prog W 0 (fun _ => true) true Try.f4.params.toList args.toList ds p := hA0
  rw [Try.params4] at hA hval
  obtain ⟨v0, vs0, d0, ds0, p0, q0, hargs, rfl, rfl, h0, r0⟩ := trodAll_cons hA
  obtain ⟨v1, vs1, d1, ds1, p1, q1, rfl, rfl, rfl, h1, r1⟩ := trodAll_cons r0
  obtain ⟨v2, vs2, d2, ds2, p2, q2, rfl, rfl, rfl, h2, r2⟩ := trodAll_cons r1
  obtain ⟨v3, vs3, d3, ds3, p3, q3, rfl, rfl, rfl, h3, r3⟩ := trodAll_cons r2
  obtain ⟨rfl, rfl, rfl⟩ := trodAll_nil r3
  obtain rfl : args = #[v0, v1, v2, v3] := by cases args; simp_all
  obtain ⟨rfl, rfl⟩ := trodVars_none hV
  obtain ⟨c0, rfl, _⟩ := okWide_struct Try.underlying28 (hval 0 28 v0 rfl rfl)
  obtain ⟨a1, rfl, rfl, rfl, w1⟩ := open_int Try.underlying3 (hval 1 3 v1 rfl rfl) h1
  obtain ⟨a2, rfl, rfl, rfl, w2⟩ := open_int Try.underlying3 (hval 2 3 v2 rfl rfl) h2
  obtain ⟨a3, rfl, rfl, rfl, w3⟩ := open_int Try.underlying3 (hval 3 3 v3 rfl rfl) h3
  have k0 := h0
  have lt0 : ∀ x ∈ p0, x.block < W.heap.size := by obtain ⟨m, hm⟩ := k0; exact DataW.trod_lt m _ _ _ hm
  obtain ⟨tv, ev, cv, T, hc, ht⟩ : ∃ tv ev cv T, c0.toList = (tabC T.sys tv ev cv).toList ∧ IsTab W tv ev cv T := by
    obtain ⟨fuel, hf⟩ := h0
    exact open_tb Try.underlying28 (by kernel_rfl) rfl rfl rfl (by kernel_rfl) (by kernel_rfl) (by kernel_rfl)
      (fun fuel cs x hx => open_sy Try.underlying24 (by kernel_rfl) (by kernel_rfl) Try.underlying3 Try.underlying3 Try.underlying3 Try.underlying3 Try.underlying3 Try.underlying3 Try.underlying3 Try.underlying3 Try.underlying22 (by kernel_rfl)
        (opens_tsk (sl := 3) Try.underlying55 (by kernel_rfl) (by kernel_rfl) Try.underlying3 Try.underlying3 Try.underlying3 Try.underlying53 (by kernel_rfl)
          (opens_sec Try.underlying128 (by kernel_rfl) (by kernel_rfl) Try.underlying3 Try.underlying3 Try.underlying3)) hx)
      Try.underlying25 (by kernel_rfl)
      (opens_en Try.underlying95 (by kernel_rfl) (by kernel_rfl) Try.underlying52 (by kernel_rfl)
        (opens_pc Try.underlying62 (by kernel_rfl) (by kernel_rfl) Try.underlying3 Try.underlying3 Try.underlying3 Try.underlying3 Try.underlying4) Try.underlying3)
      Try.underlying26 (by kernel_rfl) Try.underlying39 (by kernel_rfl) Try.underlying3 hf
  obtain ⟨A0, cA0, rfl, _⟩ := ht.sys.tasks.shape
  obtain ⟨A1, cA1, rfl, _⟩ := ht.ents.shape
  obtain ⟨A2, cA2, rfl, _⟩ := ht.ceil.shape
  obtain rfl : c0 = tabC T.sys (.slice A0 T.sys.tasks.length cA0) (.slice A1 T.ents.length cA1) (.slice A2 T.ceil.length cA2) := by rw [← Array.toArray_toList (xs := c0), hc]
  have hlen : T.ents.length ≤ 4398046511104 := by
    obtain ⟨fuel, hf⟩ := k0
    exact tb_reach hsz (t := 28) (by kernel_rfl) rfl Try.underlying28 rfl (by kernel_rfl) Try.underlying25 (by kernel_rfl) hf rfl
  clear hA0 hval0 hc
  refine (traceEmpty_any (w := W) T A0 _ cA0 A1 _ cA1 A2 _ cA2 a1 a2 a3 ht hlen (bounds_i64 w1) (bounds_i64 w3)).mono fun e W' ⟨he, bel⟩ => ?_
  subst he
  exact ⟨_, rfl, _, _, _, [], _, [], hW', trodAll_mk1 (shut_bool Try.underlying4 _), (trodAll_cons_mk (Below.trod laidOut (by kernel_rfl) (of_decide_eq_true (by kernel_rfl)) k0 bel lt0) (trodAll_cons_mk (shut_int Try.underlying3 w1) (trodAll_cons_mk (shut_int Try.underlying3 w2) (trodAll_cons_mk (shut_int Try.underlying3 w3) trodAll_mk0)))), rfl, bel.frame _, fun h => by cases h⟩

theorem over : Rows.traceEmptyRow.holds Try.pinned (OpenSpec.ofChange Rows.traceEmptySpec) :=
  OpenClaim.holds_of_wide 4 Try.f4 rfl rfl rfl rfl rfl rfl rfl ⟨rfl, rfl, rfl, rfl, rfl⟩ rfl rfl rfl rfl rfl (by kernel_rfl) Try.func4 (by kernel_rfl)
    (of_decide_eq_true (by kernel_rfl)) (by unfold Func.isWrapper; first | (rw [if_pos (by decide +kernel)]; kernel_rfl) | (rw [if_neg (by decide +kernel)]; exact ⟨rfl, rfl⟩))
    (fun os started H enc _ => lifted os started H enc)

/-- The statement. -/
theorem proved : Rows.TraceEmptySaid := over
#print axioms proved
end Go.Proofs.Ytmhochjpdedlgaa.traceEmpty
