/- slices.Values, slices.Collect at heap items: what the iterator gives, and the row that it is collected into (contracts). -/
import Derived.RangeFuncNested
import Derived.RangeFuncBound
import Derived.RangeFuncCalls
import Derived.RangeFuncLeaves
import Derived.RangeFuncBox
import Derived.Shelf.Abstract
import Derived.OwnWalkIn
import Derived.TacticsInMore
import Derived.LoopNIn
import Derived.LoopIn
import Derived.Test.YtbkjlohlfkokpaaHeap4
set_option linter.unusedVariables false
set_option linter.unusedSimpArgs false
namespace Go.Proofs.Ytbkjlohlfkokpaa
open Go.RowKit Go.Shelf
attribute [local go_sem] Oper.semAt_some

def aggs (x : It) : Array Value := #[.agg #[.int .i64 x.id, .int .i64 x.key, .int .i64 x.turn]]
section
variable {w : World}
set_option maxRecDepth 100000 in
set_option maxHeartbeats 2000000 in
/-- The iterator's closure: whatever the loop's body, if it keeps what lay below n0. -/
theorem values1_in (n : Nat) (hn : 1 ≤ n) (l Bs n0 g cap : Nat) (a : List It) (hlen : a.length < 1000000) (hg : g < n0) (J Jx : List It → World → Prop) (W : World) (hJa : AbidesFrom W.heap.size J)
    (hY : ∀ pre x W, J pre W → pre.length < a.length → YieldAt Fence.wide (n - 1) Try.prog l (aggs x) W fun e W' =>
      (e = .returned (.bool true) ∧ J (pre ++ [x]) W' ∧ Below n0 W W') ∨ (e = .returned (.bool false) ∧ Jx (pre ++ [x]) W'))
    (hn0 : n0 ≤ W.heap.size) (hBs : W.cell? ⟨Bs, 0, none⟩ = some (.slice (some ⟨g, 0, none⟩) a.length cap))
    (hc : ∀ j, j < a.length → W.cell? ⟨g, j * 3, none⟩ = some (.int .i64 (gl a j).id) ∧ W.cell? ⟨g, j * 3 + 1, none⟩ = some (.int .i64 (gl a j).key) ∧ W.cell? ⟨g, j * 3 + 2, none⟩ = some (.int .i64 (gl a j).turn)) (h0 : J [] W) :
    CallsIn Fence.wide n Try.prog 96 #[.func (.yield l) #[] #[], .pointer (some ⟨Bs, 0, none⟩)] W fun e W' => (∃ v, e = .returned v) ∧ (J a W' ∨ ∃ pre, Jx pre W') := by
  refine callsIn_of_wp Try.func96 rfl trivial ?_ rfl
  simp only [Try.ntmps96, List.size_toArray, List.length_cons, List.length_nil, Nat.reduceAdd, Nat.reduceSub, Array.replicate_succ, Array.replicate_zero, List.push_toArray, List.append_toArray, List.nil_append, List.cons_append]
  have HC := hid hc
  obtain ⟨m, hm⟩ : ∃ m, a.length = m := ⟨_, rfl⟩
  have HM := hid hm
  rw [hm] at hlen hBs
  clear hc hm
  gi_wp2
  gi_loopw [7] (fun i wr => ∃ k : Nat, k ≤ m ∧ i = .int .i64 k ∧ J (a.take k) wr ∧ Below n0 W wr ∧ W.heap.size ≤ wr.heap.size) (fun i _ => m - (intOf i).toNat)
  case atStart => exact ⟨0, Nat.zero_le _, rfl, h0, Below.refl _ _, Nat.le_refl _⟩
  case round =>
    obtain ⟨k, hk, rfl, hJs, hnx, hwsz⟩ := hrel
    by_cases hlt : k < m
    · obtain ⟨x0, x1, x2⟩ := HC.out k (by rw [HM.out]; exact hlt)
      have y0 := (hnx.cell (p := ⟨g, k * 3, none⟩) hg).trans x0
      have y1 := (hnx.cell (p := ⟨g, k * 3 + 1, none⟩) hg).trans x1
      have y2 := (hnx.cell (p := ⟨g, k * 3 + 2, none⟩) hg).trans x2
      have htk : a.take (k + 1) = a.take k ++ [gl a k] := by rw [List.take_add_one, gl_get (by rw [HM.out]; exact hlt)]; rfl
      have hJ2 : J (a.take k) (wr.alloc (.cells #[.int .i64 (gl a k).id, .int .i64 (gl a k).key, .int .i64 (gl a k).turn] 99)) := hJa _ _ _ none hJs (World.grownBy_alloc wr _ none) (fun r e => by cases e)
      obtain ⟨fn, tmps, assign, body, hy, hR⟩ := hY _ (gl a k) _ hJ2 (by rw [List.length_take, HM.out]; omega)
      have hb2 : Below n0 wr (wr.alloc (.cells #[.int .i64 (gl a k).id, .int .i64 (gl a k).key, .int .i64 (gl a k).turn] 99)) := (Below.refl n0 wr).alloc (by omega) _
      generalize gl a k = x at *
      obtain ⟨xi, xk, xt⟩ := x
      unfold aggs at hy
      simp only at y0 y1 y2 hy
      have HTK := hid htk
      clear x0 x1 x2 htk hJ2 hJs
      gi_wp2
      refine hR.mono ?_
      rintro e W3 (⟨rfl, hJ3, hk3⟩ | ⟨rfl, hJx3⟩)
      · have hsz3 : W.heap.size ≤ W3.heap.size := by have := hk3.size; simp at this; omega
        rw [← HTK.out] at hJ3
        clear hb2
        have hbb := hnx.trans (((Below.refl n0 wr).alloc (by omega) _).trans hk3)
        gi_wp2
        go_roundw
        case rel => exact ⟨k + 1, by omega, by go_num, hJ3, hbb, hsz3⟩
        case measure => simp [intOf]; omega
      · gi_wp2
        refine bodyPost_ret (results_none rfl _ _ _) rfl ?_
        exact ⟨⟨_, rfl⟩, .inr ⟨_, hJx3⟩⟩
    · obtain rfl : k = m := by omega
      have ht : a.take k = a := by rw [← HM.out]; exact List.take_length
      rw [ht] at hJs
      gi_wp2
      go_end0
      exact ⟨⟨_, rfl⟩, .inl hJs⟩
set_option maxRecDepth 100000 in
set_option maxHeartbeats 1000000 in
theorem values1_nil (n : Nat) (l Bs : Nat) (J : List It → World → Prop) (W : World) (hBs : W.cell? ⟨Bs, 0, none⟩ = some (.slice none 0 0)) (h0 : J [] W) :
    CallsIn Fence.wide n Try.prog 96 #[.func (.yield l) #[] #[], .pointer (some ⟨Bs, 0, none⟩)] W fun e W' => (∃ v, e = .returned v) ∧ J [] W' := by
  refine callsIn_of_wp Try.func96 rfl trivial ?_ rfl
  simp only [Try.ntmps96, List.size_toArray, List.length_cons, List.length_nil, Nat.reduceAdd, Nat.reduceSub, Array.replicate_succ, Array.replicate_zero, List.push_toArray, List.append_toArray, List.nil_append, List.cons_append]
  gi_wp2
  gi_loopw [7] (fun i wr => i = .int .i64 0 ∧ J [] wr) (fun _ _ => 0)
  case atStart => exact ⟨rfl, h0⟩
  case round =>
    obtain ⟨rfl, hJs⟩ := hrel
    gi_wp2
    go_end0
    exact ⟨⟨_, rfl⟩, hJs⟩
/-- The slice value holds the items a, in a block below n0. -/
def ItemsAt (n0 : Nat) (W : World) (v : Value) (a : List It) : Prop := ∃ base, W.ownsRow base 99 3 v a.length (flat encI a) ∧ ∀ k, v.ownBlock = some k → k < n0
theorem ItemsAt.below {n0 : Nat} {A B : World} (h : Below n0 A B) {v : Value} {a : List It} (H : ItemsAt n0 A v a) : ItemsAt n0 B v a := by
  obtain ⟨base, ⟨h1, h2⟩, h3⟩ := H
  refine ⟨base, ⟨h1, ?_⟩, h3⟩
  rcases h2 with h2 | ⟨g, cap, cur, rfl, hb, hg, r⟩
  · exact .inl h2
  · exact .inr ⟨g, cap, cur, rfl, hb, (h.block g (h3 g rfl)).trans hg, r⟩
/-- The iterator over a row of items gives them, in order. -/
theorem values_stops (n : Nat) (hn : 1 ≤ n) (Bs n0 : Nat) (v : Value) (a : List It) (hlen : a.length < 1000000) (w : World) (hBs : Bs < w.heap.size) (hn0 : n0 ≤ w.heap.size) (hc : w.cell? ⟨Bs, 0, none⟩ = some v) (hI : ItemsAt n0 w v a) :
    SeqStopsK Fence.wide n Try.prog 96 #[.pointer (some ⟨Bs, 0, none⟩)] aggs (Below n0) (fun ys => ys = a) (fun _ => True) a.length w := fun l J Jx W hW hJa hJxa hY h0 => by
  have hc' := (hW.cell (p := ⟨Bs, 0, none⟩) hBs).trans hc
  have hI' := hI.below (hW.mono hn0)
  obtain ⟨base, hrow, hlt⟩ := hI'
  rcases Nat.eq_zero_or_pos a.length with hz | hpos
  · have ha : a = [] := List.length_eq_zero_iff.1 hz
    subst ha
    rcases hrow.2 with ⟨hv, _⟩ | ⟨g, cap, cur, rfl, hb, hg, _⟩
    · rw [hv] at hc'
      exact (values1_nil n l Bs J W hc' h0).mono fun e W' ⟨he, hj⟩ => ⟨he, .inl ⟨_, rfl, hj⟩⟩
    · refine (values1_in n hn l Bs n0 g cap [] (by simp) (hlt g rfl) J Jx W hJa (fun pre x W1 h1 h2 => by simp at h2) (Nat.le_trans hn0 hW.size) hc' (fun j hj => by simp at hj) h0).mono ?_
      rintro e W' ⟨he, hj | ⟨pre, hj⟩⟩
      · exact ⟨he, .inl ⟨_, rfl, hj⟩⟩
      · exact ⟨he, .inr ⟨pre, trivial, hj⟩⟩
  · obtain ⟨g, cap, cur, rfl, _⟩ := own_shape hrow hpos
    refine (values1_in n hn l Bs n0 g cap a hlen (hlt g rfl) J Jx W hJa hY (Nat.le_trans hn0 hW.size) hc' (fun j hj => ?_) h0).mono ?_
    · have hx := gl_get hj
      obtain ⟨g0, e0, d0⟩ := row_cell (j := 0) encI_len hrow hx rfl
      obtain ⟨g1, e1, d1⟩ := row_cell (j := 1) encI_len hrow hx rfl
      obtain ⟨g2, e2, d2⟩ := row_cell (j := 2) encI_len hrow hx rfl
      cases e0
      cases e1
      cases e2
      exact ⟨by simpa using d0, d1, d2⟩
    · rintro e W' ⟨he, hj | ⟨pre, hj⟩⟩
      · exact ⟨he, .inl ⟨_, rfl, hj⟩⟩
      · exact ⟨he, .inr ⟨pre, trivial, hj⟩⟩
end
end Go.Proofs.Ytbkjlohlfkokpaa
