/- Joined: On. -/
import Derived.Test.YtppildaahmlfmaaQ10
set_option linter.unusedVariables false
set_option linter.unusedSimpArgs false
/- analysis.on: the pieces of a core (contract). -/
set_option linter.unusedVariables false
set_option linter.unusedSimpArgs false
namespace Go.Proofs.Ytppildaahmlfmaa
open Go.RowKit Go.Shelf
attribute [local go_sem] Oper.semAt_some

def encPt (x : Pt) : List Value := [.int .i64 x.p.core, .int .i64 x.p.bud, .int .i64 x.p.dl, .int .i64 x.p.prio, .bool x.p.tight, .int .i64 x.task, .int .i64 x.k]
theorem encPt_len (x : Pt) : (encPt x).length = 7 := rfl
theorem encPt_one (x : Pt) : ∀ v ∈ encPt x, v.oneCell' = true := by
  intro v hv
  simp [encPt] at hv
  rcases hv with rfl | rfl | rfl | rfl | rfl | rfl | rfl <;> rfl
theorem Try.info_part : (Try.prog.info? 67).map (fun i => (i.zero, i.size, i.bytes)) = some (some (.agg #[.int .i64 0, .int .i64 0, .int .i64 0, .int .i64 0, .bool false, .int .i64 0, .int .i64 0]), 7, 56) := by kernel_rfl
/-- The pieces of a core. -/
def onP (P : Pl) (c : Int) : List Pt := (partsOf P).filter fun x => decide (x.p.core = c)
def onL {P : Pl} (pre : List (PtOf P)) (c : Int) : List Pt := (pre.map (·.1)).filter fun x => decide (x.p.core = c)
theorem onL_all (P : Pl) (c : Int) : onL (ptL P) c = onP P c := by
  unfold onL onP ptL
  rw [List.attach_map_subtype_val]
theorem onL_snoc {P : Pl} (pre : List (PtOf P)) (x : PtOf P) (c : Int) : onL (pre ++ [x]) c = if x.1.p.core = c then onL pre c ++ [x.1] else onL pre c := by
  unfold onL
  rw [List.map_append, List.filter_append]
  by_cases h : x.1.p.core = c <;> simp [h]
theorem onL_length {P : Pl} (pre : List (PtOf P)) (c : Int) : (onL pre c).length ≤ pre.length := by
  unfold onL
  refine Nat.le_trans (List.length_filter_le _ _) (by simp)
/-- A block of cells is kept where other things turn. -/
theorem cells_own {β : Type} (B : Nat) (t : TypeId) (f : β → Array Value) : Own (fun s W => W.heap[B]? = some (.cells (f s) t (0, 0))) := fun s X Y row hs hg hrow =>
  (hg.block B (blk_lt hs) (fun e' => by obtain ⟨o, ho, hc⟩ := hrow B e'.symm; rw [hs] at ho; cases ho; cases hc)).trans hs
section
variable {w : World}
set_option maxRecDepth 100000 in
set_option maxHeartbeats 4000000 in
theorem on_in (N : Nat) (hN : 3 ≤ N) (P : Pl) (A : Option Addr) (n cap : Nat) (hI : IsPlan w (.slice A n cap) P) (c : Int) (hlen : (partsOf P).length < 1000000) :
    CallsIn Fence.wide N Try.prog 25 #[.slice A n cap, .int .i64 c] w fun e w' => ∃ u, e = .returned u ∧ w'.ownsRow w.heap.size 67 7 u (onP P c).length (flat encPt (onP P c)) ∧ Below w.heap.size w w' := by
  have h1 : 1 ≤ N := by omega
  obtain ⟨i0, hi, hz0, hz1, hz2⟩ := info_parts Try.info_part
  refine callsIn_of_wp_marks Try.func25 rfl trivial ?_ rfl
  simp only [Try.ntmps25, List.size_toArray, List.length_cons, List.length_nil, Nat.reduceAdd, Nat.reduceSub, Array.replicate_succ, Array.replicate_zero, List.push_toArray, List.append_toArray, List.nil_append, List.cons_append]
  gi_wp2
  refine ⟨trivial, (callsIn_wide.2 (parts_any A n cap)).mono ?_⟩
  rintro e w' ⟨rfl, rfl⟩
  gi_wp2
  have bC0 := Boxed.new w 3 (.int .i64 c)
  have bC : Boxed (((w.alloc (.cells #[.int .i64 c] 3)).alloc (.cells #[.slice none 0 0] 61)).alloc (.cells #[.slice A n cap] 25)) w.heap.size 3 (.int .i64 c) := (bC0.alloc _).alloc _
  have bO : Boxed (((w.alloc (.cells #[.int .i64 c] 3)).alloc (.cells #[.slice none 0 0] 61)).alloc (.cells #[.slice A n cap] 25)) (w.heap.size + 1) 61 (.slice none 0 0) := by
    have h := (Boxed.new (w.alloc (.cells #[.int .i64 c] 3)) 61 (.slice none 0 0)).alloc (.cells #[.slice A n cap] 25)
    simpa using h
  have bP : (((w.alloc (.cells #[.int .i64 c] 3)).alloc (.cells #[.slice none 0 0] 61)).alloc (.cells #[.slice A n cap] 25)).cell? ⟨w.heap.size + 1 + 1, 0, none⟩ = some (.slice A n cap) := by
    have h := (Boxed.new ((w.alloc (.cells #[.int .i64 c] 3)).alloc (.cells #[.slice none 0 0] 61)) 25 (.slice A n cap)).cell
    simpa using h
  have hB0 : Below w.heap.size w (((w.alloc (.cells #[.int .i64 c] 3)).alloc (.cells #[.slice none 0 0] 61)).alloc (.cells #[.slice A n cap] 25)) := below_new (below_new (below_new (Below.refl _ _) _) _) _
  have hS0 : (((w.alloc (.cells #[.int .i64 c] 3)).alloc (.cells #[.slice none 0 0] 61)).alloc (.cells #[.slice A n cap] 25)).heap.size = w.heap.size + 3 := by simp
  generalize hW0 : ((w.alloc (.cells #[.int .i64 c] 3)).alloc (.cells #[.slice none 0 0] 61)).alloc (.cells #[.slice A n cap] 25) = W0 at *
  clear hW0 bC0
  refine wpIn_rangeFunc_ownH (F := Fence.wide) rfl h1 (gf := 53) (lb := #[.pointer (some ⟨w.heap.size + 1 + 1, 0, none⟩)]) rfl trivial (enters_of Try.func53 (by kernel_rfl) rfl)
    (parts_stops (N - 1) (by omega) (w.heap.size + 1 + 1) w P A n cap hI _ hB0 (by omega) bP) belowK_t (belowK_b (by omega)) (Below.refl _ _) (fun _ => rfl)
    (fun pre W => (Boxed W w.heap.size 3 (.int .i64 c) ∧ (∃ u, Boxed W (w.heap.size + 1) 61 u ∧ W.ownsRow w.heap.size 67 7 u (onL pre c).length (flat encPt (onL pre c)) ∧ True)) ∧ Below w.heap.size w W)
    (fun _ _ _ => False)
    (OwnFrom.and (OwnFrom.and (Own.from (boxed_own w.heap.size 3 (fun _ : List (PtOf P) => Value.int .i64 c)) _) (Own.from (holdsRow_own w.heap.size (w.heap.size + 1) 61 67 7 (fun pre : List (PtOf P) => (onL pre c).length) (fun pre => flat encPt (onL pre c)) (fun _ _ => True)) _)) (ownFrom_below (Nat.le_refl _) (by omega)))
    (fun _ _ _ _ _ hs _ _ => hs)
    ⟨⟨bC, _, bO, World.ownsRow_nil _ _ _ _, trivial⟩, hB0⟩
    (fun x a' W => ∃ Bx, w.heap.size + 1 < Bx ∧ W.heap[Bx]? = some (.cells (encPt x.1).toArray 67 (0, 0)) ∧ a' = { tmps := #[.slice A n cap, .int .i64 c, undef, .pointer (some ⟨w.heap.size, 0, none⟩), .slice none 0 0, .pointer (some ⟨w.heap.size + 1, 0, none⟩), .pointer (some ⟨Bx, 0, none⟩), .slice A n cap, .func (.func 53) #[] #[.pointer (some ⟨w.heap.size + 1 + 1, 0, none⟩)], ptV x.1, undef, undef, undef, undef, undef, undef, undef, undef, undef, undef], defers := [] })
    (fun x a' _ X Y row hs hg hr => by
      obtain ⟨Bx, hlt, hb, ha⟩ := hs
      exact ⟨Bx, hlt, cells_own Bx _ (fun _ : Unit => (encPt x.1).toArray) () X Y row hb hg (fun r e => (hr r e).2), ha⟩) ?assign ?body ?done ?stop
  case assign =>
    rintro l pre ⟨⟨⟨pc, pb, pd, pp, ti⟩, tk, kk⟩, hx⟩ W K ⟨⟨hC, u, hu, hrow, _⟩, hB⟩ hK
    unfold ptA ptV
    gi_wp2
    refine hK _ _ ((KeepsOthers.alloc _ _).from _) ((Below.refl _ W).alloc hB.size _) ⟨⟨hC.alloc _, u, hu.alloc _, hrow.alloc _, trivial⟩, hB.alloc hB.size _⟩ ⟨W.heap.size, ?_, blk_new W _, rfl⟩
    have := hu.lt
    omega
  case body =>
    rintro l pre x a' W hl hr ⟨⟨hC, u, hu, hrow, _⟩, hB⟩ ⟨Bx, hBx, hbx, rfl⟩ hlt
    have HSN := hid (onL_snoc pre x c)
    have hpl := onL_length pre c
    obtain ⟨A3, cu, rfl⟩ := own_slice hrow
    have hc0 := hC.cell
    have hc1 := hu.cell
    have hf1 := hu.frozen
    obtain ⟨⟨⟨pc, pb, pd, pp, ti⟩, tk, kk⟩, hx⟩ := x
    have q0 : W.cell? ⟨Bx, 0, none⟩ = some (.int .i64 pc) := blk_cell hbx 0
    have q1 : W.cell? ⟨Bx, 1, none⟩ = some (.int .i64 pb) := blk_cell hbx 1
    have q2 : W.cell? ⟨Bx, 2, none⟩ = some (.int .i64 pd) := blk_cell hbx 2
    have q3 : W.cell? ⟨Bx, 3, none⟩ = some (.int .i64 pp) := blk_cell hbx 3
    have q4 : W.cell? ⟨Bx, 4, none⟩ = some (.bool ti) := blk_cell hbx 4
    have q5 : W.cell? ⟨Bx, 5, none⟩ = some (.int .i64 tk) := blk_cell hbx 5
    have q6 : W.cell? ⟨Bx, 6, none⟩ = some (.int .i64 kk) := blk_cell hbx 6
    have hsz := hB.size
    have HB := hid hB
    have HC := hid hC
    by_cases hcc : pc = c
    · have hbe : (pc == c) = true := beq_iff_eq.2 hcc
      obtain ⟨pl, hplq⟩ : ∃ pl, (onL pre c).length = pl := ⟨_, rfl⟩
      have HS2 := hid (show onL (pre ++ [⟨⟨⟨pc, pb, pd, pp, ti⟩, tk, kk⟩, hx⟩]) c = onL pre c ++ [⟨⟨pc, pb, pd, pp, ti⟩, tk, kk⟩] by rw [HSN.out, if_pos hcc])
      have HPL := hid hplq
      rw [hplq] at hrow hc1 hu hpl
      clear hbx hplq hB hr hC HSN hcc
      gi_wp2_with (gi_at_builtin; refine wpListIn_append_own _ rfl _ _ 61 rfl w.heap.size 67 i0 _ 7 56 Try.underlying61 hi hz0 hz1 hz2 rfl (by decide) (.slice A3 pl cu) pl (flat encPt (onL pre c)) rfl (hrow.alloc _) ⟨W.heap.size, 0, none⟩ 1 1 [.int .i64 pc, .int .i64 pb, .int .i64 pd, .int .i64 pp, .bool ti, .int .i64 tk, .int .i64 kk] rfl rfl (cells_new _ #[.int .i64 pc, .int .i64 pb, .int .i64 pd, .int .i64 pp, .bool ti, .int .i64 tk, .int .i64 kk] _) (encPt_one ⟨⟨pc, pb, pd, pp, ti⟩, tk, kk⟩) (by unfold maxLen; omega) (by omega) (by simp; omega) ?_; intro v' w1 hown' hgrow _; obtain ⟨g', cap', rfl⟩ := ownsRow_succ hown'; obtain ⟨hv1, hv2, hr2, hk2, hb2⟩ := hu.appended (by decide) hrow hsz (by omega) hown' hgrow; have hc3 := hv1.cell; have hf3 := hv1.frozen; clear hc1 hf1 hc0 q0 q1 q2 q3 q4 q5 q6)
      have HC1 : Boxed w1 w.heap.size 3 (.int .i64 c) := (HC.out.alloc _).kept hgrow (HC.out.not_row (by decide) hrow)
      refine ⟨hk2.from _, hb2, ⟨HC1.other (by omega) _, _, hv2, ?_, trivial⟩, HB.out.trans hb2⟩
      rw [HS2.out, List.length_append, flat_append, HPL.out]
      exact hr2
    · have hbe : (pc == c) = false := beq_eq_false_iff_ne.2 hcc
      have HS2 := hid (show onL (pre ++ [⟨⟨⟨pc, pb, pd, pp, ti⟩, tk, kk⟩, hx⟩]) c = onL pre c by rw [HSN.out, if_neg hcc])
      clear HSN hcc
      gi_wp2
      refine ⟨KeepsFrom.refl _ _, Below.refl _ _, ⟨hC, ⟨_, hu, ?_⟩⟩, hB⟩
      rw [HS2.out]
      exact hrow
  case done =>
    rintro D ys W hD rfl ⟨⟨hC, u, hu, hrow, _⟩, hB⟩ hK
    rw [onL_all] at hrow
    obtain ⟨A3, cu, rfl⟩ := own_slice hrow
    have hc1 := hu.cell
    have HROW := hid hrow
    have HB := hid hB
    have HD := hid hD
    clear hrow hB hC
    gi_wp2
    refine ⟨by simp, .inl ⟨_, _, rfl, run_takeDeferred hK, ?_⟩⟩
    exact ⟨_, results_tmp rfl _ _ _, _, rfl, ownsRow_putObj HROW.out _ hK rfl, HB.out.trans (belowK_b (w := w) (Nat.le_refl _) W D _ _ (by have := HD.out; omega) hK rfl rfl)⟩
  case stop =>
    rintro D c pre W _ _ h _
    exact h.elim
theorem on_any (P : Pl) (A : Option Addr) (n cap : Nat) (hI : IsPlan w (.slice A n cap) P) (c : Int) (hlen : (partsOf P).length < 1000000) :
    Calls Try.prog 25 #[.slice A n cap, .int .i64 c] w fun e w' => ∃ u, e = .returned u ∧ w'.ownsRow w.heap.size 67 7 u (onP P c).length (flat encPt (onP P c)) ∧ Below w.heap.size w w' :=
  callsIn_wide.1 (on_in 5 (by omega) P A n cap hI c hlen)
end
end Go.Proofs.Ytppildaahmlfmaa
