/- slices.AppendSeq, slices.Collect at heap items (contracts): the row that is collected. -/
import Derived.Test.YtbkjlohlfkokpaaHeapIt
import Derived.Test.YtbkjlohlfkokpaaHeap5
set_option linter.unusedVariables false
set_option linter.unusedSimpArgs false
namespace Go.Proofs.Ytbkjlohlfkokpaa
open Go.RowKit Go.Shelf
attribute [local go_sem] Oper.semAt_some

section
variable {w : World}
/-- A block of cells is kept where other things turn. -/
theorem cells_own {β : Type} (B : Nat) (t : TypeId) (f : β → Array Value) : Own (fun s W => W.heap[B]? = some (.cells (f s) t (0, 0))) := fun s X Y row hs hg hrow =>
  (hg.block B (blk_lt hs) (fun e' => by obtain ⟨o, ho, hc⟩ := hrow B e'.symm; rw [hs] at ho; cases ho; cases hc)).trans hs
set_option maxRecDepth 100000 in
set_option maxHeartbeats 4000000 in
theorem appendSeq_items (n : Nat) (hn : 3 ≤ n) (Bs : Nat) (v : Value) (a : List It) (hlen : a.length < 1000000) (hBs : Bs < w.heap.size) (hc : w.cell? ⟨Bs, 0, none⟩ = some v) (hI : ItemsAt w.heap.size w v a) :
    CallsIn Fence.wide n Try.prog 107 #[.slice none 0 0, .func (.func 96) #[] #[.pointer (some ⟨Bs, 0, none⟩)]] w fun e w' =>
      ∃ u, e = .returned u ∧ w'.ownsRow w.heap.size 99 3 u a.length (flat encI a) ∧ Below w.heap.size w w' := by
  have h1 : 1 ≤ n := by omega
  obtain ⟨i0, hi, hz0, hz1, hz2⟩ := info_parts Try.info_item
  refine callsIn_of_wp_marks Try.func107 rfl trivial ?_ rfl
  simp only [Try.ntmps107, List.size_toArray, List.length_cons, List.length_nil, Nat.reduceAdd, Nat.reduceSub, Array.replicate_succ, Array.replicate_zero, List.push_toArray, List.append_toArray, List.nil_append, List.cons_append]
  gi_wp2
  have bS := Boxed.new w 95 (.slice none 0 0)
  have hB0 : Below w.heap.size w (w.alloc (.cells #[.slice none 0 0] 95)) := (Below.refl _ w).alloc (Nat.le_refl _) _
  refine wpIn_rangeFunc_ownH (F := Fence.wide) rfl h1 (gf := 96) (lb := #[.pointer (some ⟨Bs, 0, none⟩)]) rfl trivial (enters_of Try.func96 (by kernel_rfl) rfl)
    (values_stops (n - 1) (by omega) Bs w.heap.size v a hlen _ (by simp; omega) (by simp) ((hB0.cell (p := ⟨Bs, 0, none⟩) hBs).trans hc) (hI.below hB0)) belowK_t (belowK_b (by simp)) (Below.refl _ _) (fun _ => rfl)
    (fun pre W => (∃ u, Boxed W w.heap.size 95 u ∧ W.ownsRow w.heap.size 99 3 u pre.length (flat encI pre) ∧ True) ∧ Below w.heap.size w W)
    (fun _ _ _ => False)
    (OwnFrom.and (Own.from (holdsRow_own w.heap.size w.heap.size 95 99 3 (fun pre : List It => pre.length) (fun pre => flat encI pre) (fun _ _ => True)) _) (ownFrom_below (Nat.le_refl _) (by simp)))
    (fun _ _ _ _ _ hs _ _ => hs)
    ⟨⟨_, bS, World.ownsRow_nil _ _ _ _, trivial⟩, hB0⟩
    (fun x a' W => ∃ Bx, w.heap.size < Bx ∧ W.heap[Bx]? = some (.cells #[.int .i64 x.id, .int .i64 x.key, .int .i64 x.turn] 99 (0, 0)) ∧ a' = { tmps := #[.slice none 0 0, .func (.func 96) #[] #[.pointer (some ⟨Bs, 0, none⟩)], .pointer (some ⟨w.heap.size, 0, none⟩), undef, .slice none 0 0, .pointer (some ⟨Bx, 0, none⟩), .func (.func 96) #[] #[.pointer (some ⟨Bs, 0, none⟩)], .agg #[.int .i64 x.id, .int .i64 x.key, .int .i64 x.turn], undef, undef, undef, undef, undef], defers := [] })
    (fun x a' _ X Y row hs hg hr => by
      obtain ⟨Bx, hlt, hb, ha⟩ := hs
      exact ⟨Bx, hlt, cells_own Bx _ (fun _ : Unit => #[.int .i64 x.id, .int .i64 x.key, .int .i64 x.turn]) () X Y row hb hg (fun r e => (hr r e).2), ha⟩) ?assign ?body ?done ?stop
  case assign =>
    rintro l pre x W K ⟨⟨u, hu, hrow, _⟩, hB⟩ hK
    obtain ⟨xi, xk, xt⟩ := x
    unfold aggs
    gi_wp2
    refine hK _ _ ((KeepsOthers.alloc _ _).from _) ((Below.refl _ W).alloc hB.size _) ⟨⟨u, hu.alloc _, hrow.alloc _, trivial⟩, hB.alloc hB.size _⟩ ⟨W.heap.size, ?_, blk_new W _, rfl⟩
    have := hu.lt
    omega
  case body =>
    rintro l pre x a' W hl hr ⟨⟨u, hu, hrow, _⟩, hB⟩ ⟨Bx, hBx, hbx, rfl⟩ hlt
    obtain ⟨A, cu, rfl⟩ := own_slice hrow
    have hc1 := hu.cell
    have hf1 := hu.frozen
    have q0 : W.cell? ⟨Bx, 0, none⟩ = some (.int .i64 x.id) := blk_cell hbx 0
    have q1 : W.cell? ⟨Bx, 1, none⟩ = some (.int .i64 x.key) := blk_cell hbx 1
    have q2 : W.cell? ⟨Bx, 2, none⟩ = some (.int .i64 x.turn) := blk_cell hbx 2
    have HFS := hid (show flat encI (pre ++ [x]) = flat encI pre ++ [.int .i64 x.id, .int .i64 x.key, .int .i64 x.turn] from flat_snoc pre x)
    have hsz := hB.size
    obtain ⟨pl, hpl⟩ : ∃ pl, pre.length = pl := ⟨_, rfl⟩
    have HPL := hid (show (pre ++ [x]).length = pl + 1 by rw [List.length_append, hpl]; rfl)
    rw [hpl] at hrow hc1 hu hlt
    have HB := hid hB
    clear hbx hpl hB hr
    gi_wp2_with (gi_at_builtin; refine wpListIn_append_own _ rfl _ _ 95 rfl w.heap.size 99 i0 _ 3 24 Try.underlying95 hi hz0 hz1 hz2 rfl (by decide) (.slice A pl cu) pl (flat encI pre) rfl (hrow.alloc _) ⟨W.heap.size, 0, none⟩ 1 1 [.int .i64 x.id, .int .i64 x.key, .int .i64 x.turn] rfl rfl (cells_new _ #[.int .i64 x.id, .int .i64 x.key, .int .i64 x.turn] _) (encI_one x) (by unfold maxLen; omega) (by omega) (by simp; omega) ?_; intro v' w1 hown' hgrow _; obtain ⟨g', cap', rfl⟩ := ownsRow_succ hown'; obtain ⟨hv1, hv2, hr2, hk2, hb2⟩ := hu.appended (by decide) hrow hsz (Nat.le_refl _) hown' hgrow; have hc3 := hv1.cell; have hf3 := hv1.frozen; clear hc1 hf1)
    refine ⟨hk2.from _, hb2, ⟨_, hv2, ?_, trivial⟩, HB.out.trans hb2⟩
    rw [HPL.out, HFS.out]
    exact hr2
  case done =>
    rintro D ys W hD rfl ⟨⟨u, hu, hrow, _⟩, hB⟩ hK
    obtain ⟨A, cu, rfl⟩ := own_slice hrow
    have hc1 := hu.cell
    have HROW := hid hrow
    have HB := hid hB
    have HD := hid hD
    clear hrow hB
    gi_wp2
    refine ⟨by simp, .inl ⟨_, _, rfl, run_takeDeferred hK, ?_⟩⟩
    exact ⟨_, results_tmp rfl _ _ _, _, rfl, ownsRow_putObj HROW.out _ hK rfl, HB.out.trans (belowK_b (w := w) (Nat.le_refl _) W D _ _ (by have := HD.out; simp at this; omega) hK rfl rfl)⟩
  case stop =>
    rintro D c pre W _ _ h _
    exact h.elim
end
end Go.Proofs.Ytbkjlohlfkokpaa
