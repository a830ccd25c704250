/- The statements of chapter 2: pick, numbers, examples (contracts); a heap behind a call's start. -/
import Derived.Test.YtbkjlohlfkokpaaHeap6
import Derived.Test.YtbkjlohlfkokpaaHeapAll
set_option linter.unusedVariables false
set_option linter.unusedSimpArgs false
namespace Go.Proofs.Ytbkjlohlfkokpaa
open Go.RowKit

theorem heappick_any {w : World} (c n : Int) (h0 : -9223372036854775808 ≤ c) (h1 : c ≤ 9223372036854775807) (hn : 0 < n) (hn2 : n ≤ 1099511627776) :
    Calls Try.prog 32 #[.int .i64 c, .int .i64 n] w fun e w' => e = .returned (.int .i64 (pickN c n)) ∧ w' = w := by
  have hn0 : (n == 0) = false := beq_eq_false_iff_ne.2 (by omega)
  have hn1 : (n == -1) = false := beq_eq_false_iff_ne.2 (by omega)
  by_cases h : c < 0
  · have e := hid (show pickN c n = -((c + 1).tmod n) by unfold pickN; rw [if_pos h, ← Int.neg_tmod, Int.tmod_eq_emod_of_nonneg (by omega)])
    go_enter Try.func32, Try.ntmps32
    go_wp2
    go_ret
    exact ⟨ret_eq (by rw [e.out]; rfl), rfl⟩
  · have e := hid (show pickN c n = c % n by unfold pickN; rw [if_neg h])
    go_enter Try.func32, Try.ntmps32
    go_wp2
    go_ret
    exact ⟨ret_eq (by rw [e.out]; rfl), rfl⟩
set_option maxHeartbeats 400000 in
theorem heapnumbers_same {w : World} (A B : Option Addr) (n ca cb : Nat) (L : List Int) (hn : n = L.length) (hA : Holds w A L) (hB : Holds w B L) (hm : n < 4611686018427387904) :
    Calls Try.prog 35 #[.slice A n ca, .slice B n cb] w fun e w' => e = .returned (.bool true) ∧ ∃ q, w' = w.drewN q := by
  have HA := hid hA
  have HB := hid hB
  have HN := hid hn
  clear hA hB hn
  go_enter Try.func35, Try.ntmps35
  go_wp2_with fail
  go_loopw [5] (fun i wr => ∃ k q : Nat, k ≤ n ∧ i = .int .i64 k ∧ wr = w.drewN q) (fun i _ => n - (intOf i).toNat)
  case atStart => exact ⟨0, 0, by omega, rfl, rfl⟩
  case round =>
    obtain ⟨k, q, hk, rfl, rfl⟩ := hrel
    by_cases hlt : k < n
    · obtain ⟨x, hx⟩ : ∃ x, L[k]? = some x := ⟨_, List.getElem?_eq_getElem (by have := HN.out; omega)⟩
      obtain ⟨ba, oa, rfl, ca1⟩ := HA.out k x hx
      obtain ⟨bb, ob, rfl, cb1⟩ := HB.out k x hx
      clear hx
      go_wp2_with fail
      go_quiet (fail)
      go_wp2_with fail
      go_roundw
      case rel => exact ⟨k + 1, _, by omega, by go_num, rfl⟩
      case measure => simp [intOf]; omega
    · go_wp2_with fail
      go_ret
      exact ⟨rfl, _, rfl⟩
/-- A heap behind a call's start. -/
structure HW (w wx : World) (h : Nat) (Q : Nat → Prop) (room T : Nat) (L : List (Int × Int)) : Prop where
  below : Below w.heap.size w wx
  heap : IsHeap wx w.heap.size h Q room T L
section
variable {w wx w' : World} {h room T T' : Nat} {Q : Nat → Prop} {L L' : List (Int × Int)}
theorem HW.later (H : HW w wx h Q room T L) (k : Below wx.heap.size wx w') : HW w w' h Q room T L := ⟨below_then H.below k, H.heap.later k⟩
theorem HW.step (H : HW w wx h Q room T L) (hB : HBehind wx w.heap.size h Q room T' L' w') : ∃ Q', HW w w' h Q' room T' L' ∧ ∀ D o, wx.heap[D]? = some o → ¬ Q D → w'.heap[D]? = some o ∧ ¬ Q' D := by
  obtain ⟨Q', hI, hF, hN⟩ := hB
  refine ⟨Q', ⟨((Fr.of_below (S := NoB) H.below).trans hF (fun k hk => .inr (H.heap.lt k hk).1)).no, hI⟩, fun D o hD hn => ⟨hF.blk hD hn, fun e => (hN D e).elim hn (fun h => by have := blk_lt hD; omega)⟩⟩
theorem HW.kept {P : Nat → Prop} (H : HW w wx h Q room T L) (k : Fr P wx w') (hn : ∀ j, Q j → ¬ P j) (hlo : ∀ j, P j → w.heap.size ≤ j) : HW w w' h Q room T L :=
  ⟨((Fr.of_below (S := NoB) H.below).trans k (fun j hj => .inr (hlo j hj))).no, H.heap.kept k hn⟩
theorem HW.more (H : HW w wx h Q room T L) (hT : T ≤ T') : HW w wx h Q room T' L := ⟨H.below, H.heap.more hT⟩
end
set_option maxRecDepth 100000 in
set_option maxHeartbeats 1600000 in
/-- The chapter's examples. -/
theorem heapex_any {w : World} : Calls Try.prog 28 #[] w fun e w' => e = .returned (.bool true) ∧ Below w.heap.size w w' := by
  go_enter Try.func28, Try.ntmps28
  go_wp2_with fail
  refine (heap_new 5 (by omega)).mono ?_
  rintro e w1 ⟨h, Q0, rfl, H0, hb1⟩
  have H0' : HW w w1 h Q0 5 0 [] := ⟨hb1, H0⟩
  have HH0 := hid H0'
  clear H0 hb1 H0'
  go_wp2_with fail
  refine (heap_new_no 257 (by omega)).mono ?_
  rintro e w1' ⟨rfl, rfl⟩
  go_wp2_with fail
  refine (heap_push HH0.out.heap (t := 7) (k := 5) (by omega) (by omega) (r := 0) (L' := [(7, 5)]) (by decide)).mono ?_
  rintro e w2 ⟨rfl, hB⟩
  obtain ⟨Q1, hH1, -⟩ := HH0.out.step hB
  have HH1 := hid hH1
  clear hB hH1
  go_wp2_with fail
  refine (heap_push HH1.out.heap (t := 8) (k := 5) (by omega) (by omega) (r := 0) (L' := [(7, 5), (8, 5)]) (by decide)).mono ?_
  rintro e w3 ⟨rfl, hB⟩
  obtain ⟨Q2, hH2, -⟩ := HH1.out.step hB
  have HH2 := hid hH2
  clear hB hH2
  go_wp2_with fail
  refine (heap_push HH2.out.heap (t := 9) (k := 1) (by omega) (by omega) (r := 0) (L' := [(9, 1), (7, 5), (8, 5)]) (by decide)).mono ?_
  rintro e w4 ⟨rfl, hB⟩
  obtain ⟨Q3, hH3, -⟩ := HH2.out.step hB
  have HH3 := hid hH3
  clear hB hH3
  go_wp2_with fail
  refine (heap_all HH3.out.heap).mono ?_
  rintro e w5 ⟨u, rfl, hu, hb5⟩
  have hu2 : w5.ownsRow w4.heap.size 3 1 u 3 (intCells [9, 7, 8]) := hu
  obtain ⟨g, cu, cur, rfl, _⟩ := own_shape hu2 (by decide)
  have HU := hid hu2
  have HH4 := hid (HH3.out.later hb5)
  have HNQ := hid (show ¬ Q3 g from fun e => by have h1 := (HH3.out.heap.lt g e).2; have h2 := own_ge hu2 g rfl; omega)
  clear hu hu2 hb5
  go_wp2_with fail
  refine (heap_push HH4.out.heap (t := 7) (k := 1) (by omega) (by omega) (r := 4) (L' := [(9, 1), (7, 5), (8, 5)]) (by decide)).mono ?_
  rintro e w6 ⟨rfl, hB⟩
  obtain ⟨Q5, hH5, hK5⟩ := HH4.out.step hB
  have HH5 := hid hH5
  obtain ⟨C, hC⟩ := own_blk HU.out
  have hK5' := hK5 g _ hC.1 HNQ.out
  have HU5 := hid hK5'.1
  have HN5 := hid hK5'.2
  clear hB hH5 hK5 hK5'
  go_wp2_with fail
  refine (heap_change_yes HH5.out.heap (t := 7) (k := 5) (by decide) (by omega)).mono ?_
  rintro e w7 ⟨rfl, hB⟩
  obtain ⟨Q6, hH6, hK6⟩ := HH5.out.step hB
  have e6 : insP (7, 5) (offP 7 [(9, 1), (7, 5), (8, 5)]) = [(9, 1), (8, 5), (7, 5)] := by decide
  rw [e6] at hH6
  have HH6 := hid hH6
  have hK6' := hK6 g _ HU5.out HN5.out
  have HU6 := hid hK6'.1
  have HN6 := hid hK6'.2
  clear hB hH6 e6 hK6 hK6'
  go_wp2_with fail
  refine (heap_remove_yes HH6.out.heap (t := 9) (by decide) (by omega)).mono ?_
  rintro e w8 ⟨rfl, hB⟩
  obtain ⟨Q7, hH7, hK7⟩ := HH6.out.step hB
  have e7 : offP 9 [(9, 1), (8, 5), (7, 5)] = [(8, 5), (7, 5)] := by decide
  rw [e7] at hH7
  have HH7 := hid hH7
  have hK7' := hK7 g _ HU6.out HN6.out
  have HU7 := hid hK7'.1
  have HN7 := hid hK7'.2
  clear hB hH7 e7 hK7 hK7'
  go_wp2_with fail
  refine (heap_pop HH7.out.heap (by omega)).mono ?_
  rintro e w9 ⟨rfl, hB⟩
  obtain ⟨Q8, hH8, hK8⟩ := HH7.out.step hB
  have HH8 := hid hH8
  have hK8' := hK8 g _ HU7.out HN7.out
  have q0 : C[0]? = some (.int .i64 9) := by rw [← blk_cell hC.1 0]; exact own_cell0 HU.out rfl
  have q1 : C[1]? = some (.int .i64 7) := by rw [← blk_cell hC.1 1]; exact own_cell0 HU.out rfl
  have q2 : C[2]? = some (.int .i64 8) := by rw [← blk_cell hC.1 2]; exact own_cell0 HU.out rfl
  have r0 : w9.cell? ⟨g, 0, none⟩ = some (.int .i64 9) := by rw [blk_cell hK8'.1 0]; exact q0
  have r1 : w9.cell? ⟨g, 1, none⟩ = some (.int .i64 7) := by rw [blk_cell hK8'.1 1]; exact q1
  have r2 : w9.cell? ⟨g, 2, none⟩ = some (.int .i64 8) := by rw [blk_cell hK8'.1 2]; exact q2
  have e8 : headP [((8 : Int), (5 : Int)), (7, 5)] = (8, 5) := rfl
  rw [e8]
  clear hB hH8 hK8 hK8' q0 q1 q2 hC e8
  go_wp2_with fail
  go_ret
  exact ⟨rfl, HH8.out.below⟩
end Go.Proofs.Ytbkjlohlfkokpaa
