/- Package job: New (contracts). -/
import Derived.Test.YtcbpbgjngeemoaaJob
import Derived.Deep.DeepCutAuto
set_option linter.unusedVariables false
set_option linter.unusedSimpArgs false
namespace Go.Proofs.Ytcbpbgjngeemoaa
open Go.RowKit

theorem Try.info_row : (Try.prog.info? 105).map (fun i => (i.zero, i.size, i.bytes)) = some (some (.agg #[.bool false, .int .i64 0, .int .i64 0, .int .i64 0, .bool false, .int .i64 0, .int .i64 0, .int .i64 0, .int .i64 0, .int .i64 0]), 10, 80) := by kernel_rfl

set_option maxRecDepth 100000 in
set_option maxHeartbeats 400000 in
theorem job_new_nil {w : World} (A : Option Addr) (cap : Nat) :
    Calls Try.prog 23 #[.slice A 0 cap] w fun e w' => e = .returned (.tuple #[.pointer none, .int .i64 1]) ∧ w' = w := by
  go_enter Try.func23, Try.ntmps23
  go_wp2
  go_ret2
  exact ⟨rfl, rfl⟩
/-- A task: its period, its deadline, its work, and what its sections are. -/
structure TaskV where
  period : Int
  deadline : Int
  wcet : Int
  sections : Value
def tcells (t : TaskV) : List Value := [.int .i64 t.period, .int .i64 t.deadline, .int .i64 t.wcet, t.sections]
/-- A task's row, as it is made. -/
def newRow (t : TaskV) : JRow := ⟨false, 0, 0, 0, false, t.period, t.wcet, 0, 0, -1⟩
theorem jcells_one (x : JRow) : ∀ u ∈ (jcells x).toArray.toList, u.oneCell' = true := by
  intro u hu
  simp [jcells] at hu
  rcases hu with rfl | rfl | rfl | rfl | rfl | rfl | rfl | rfl | rfl | rfl <;> rfl
/-- A book has been made. -/
def NewBook (w : World) (ts : List TaskV) (e : Ending) (w' : World) : Prop :=
  ∃ b g cap, e = .returned (.tuple #[.pointer (some ⟨b, 0, none⟩), .int .i64 0]) ∧ IsBook w' b g cap (ts.map newRow) ∧ Below w.heap.size w w' ∧ w.heap.size ≤ b ∧ w.heap.size ≤ g
set_option maxRecDepth 100000 in
set_option maxHeartbeats 800000 in
theorem job_new {w : World} (tb cap : Nat) (ts : List TaskV) (hn : 1 ≤ ts.length) (hn2 : ts.length ≤ 24)
    (hc : ∀ (k : Nat) t, ts[k]? = some t → w.cell? ⟨tb, k * 4, none⟩ = some (.int .i64 t.period) ∧ w.cell? ⟨tb, k * 4 + 1, none⟩ = some (.int .i64 t.deadline) ∧ w.cell? ⟨tb, k * 4 + 2, none⟩ = some (.int .i64 t.wcet) ∧ w.cell? ⟨tb, k * 4 + 3, none⟩ = some t.sections)
    (hs : ∀ t, t ∈ ts → ∃ A n c, t.sections = .slice A n c)
    (ht : ∀ t, t ∈ ts → 1 ≤ t.period ∧ t.period ≤ 1099511627776 ∧ 1 ≤ t.wcet ∧ t.wcet ≤ 1099511627776) :
    Calls Try.prog 23 #[.slice (some ⟨tb, 0, none⟩) ts.length cap] w (NewBook w ts) := by
  obtain ⟨n, hl⟩ : ∃ n, n = ts.length := ⟨_, rfl⟩
  rw [← hl] at hn hn2 ⊢
  have HL := hid hl
  have HC := hid hc
  have HS := hid hs
  have HT := hid ht
  clear hl hc hs ht
  obtain ⟨i0, hi, hz0, hz1, hz2⟩ := info_parts Try.info_row
  go_enter Try.func23, Try.ntmps23
  go_wp2
  go_loopw [19] (fun i wr => ∃ (k cap : Nat) (A : Option Addr), k ≤ n ∧ i = .int .i64 k ∧ Below w.heap.size w wr ∧ Hid (wr.heap[w.heap.size]? = some (.cells #[.slice A k cap] 103 (0, 0))) ∧ Hid (wr.ownsRow (w.heap.size + 1) 105 10 (.slice A k cap) k (flat jcells ((ts.map newRow).take k)))) (fun i _ => n - (intOf i).toNat)
  case atStart => exact ⟨0, 0, none, by omega, rfl, below_new (Below.refl _ _) _, blk_new _ _, World.ownsRow_nil _ _ _ _⟩
  case round =>
    obtain ⟨k, cp, A, hk, rfl, hb, hB, hO⟩ := hrel
    by_cases hlt : k < n
    · obtain ⟨t, ht⟩ : ∃ t, ts[k]? = some t := ⟨ts[k]'(by rw [← HL.out]; exact hlt), by simp⟩
      obtain ⟨c0, c1, c2, c3⟩ := HC.out k t ht
      have htm := List.mem_of_getElem? ht
      obtain ⟨SA, sn, sc, hsec⟩ := HS.out t htm
      obtain ⟨hp1, hp2, hw1, hw2⟩ := HT.out t htm
      rw [hsec] at c3
      have hbt := World.block_lt_of_cell? w _ c0
      have d0 := (hb.cell hbt).trans c0
      have d1 := (hb.cell (p := ⟨tb, k * 4 + 1, none⟩) hbt).trans c1
      have d2 := (hb.cell (p := ⟨tb, k * 4 + 2, none⟩) hbt).trans c2
      have d3 := (hb.cell (p := ⟨tb, k * 4 + 3, none⟩) hbt).trans c3
      have b0 : wr.cell? ⟨w.heap.size, 0, none⟩ = some (.slice A k cp) := blk_cell hB.out 0
      have g0 : wr.frozen? ⟨w.heap.size, 0, none⟩ = false := blk_free hB.out 0
      have hbl := blk_lt hB.out
      have HX := hid ht
      clear c0 c1 c2 c3 ht htm hsec
      have hsz := hb.size
      go_upto_region 7 with fail
      go_cut [38] (fun v wx => v = .bool false ∧ wx = wr.alloc (.cells #[.int .i64 t.period, .int .i64 t.deadline, .int .i64 t.wcet, .slice SA sn sc] 36))
      case first =>
        go_wp2_with fail
        all_goals (go_meet; exact ⟨bool_eq (by simp; omega), rfl⟩)
      obtain ⟨rfl, rfl⟩ := hcut
      go_wp2
      go_region_law (first
        | (refine step_append_new rfl (.tmp 43) (.tmp 49) 101 rfl (w.heap.size + 1) 105 i0 _ 10 80 Try.underlying101 hi hz0 hz1 hz2 rfl (by decide) (jcells (newRow t)).toArray (.slice A k cp) k _ (by simp [Act.eval, Act.put]) (wr.heap.size + 1) (by simp [Act.eval, Act.put]) (by simp) (own_drewN ((hO.out).alloc _) 1) rfl (jcells_one _) (by unfold maxLen; omega) (by omega) (by simp; omega) ?_
           intro v' w2 hown' hfr hloc
           obtain ⟨gg, cc, cu, rfl, hgg, _⟩ := own_shape hown' (Nat.succ_pos _)
           have hb2 := hfr.blk (k := w.heap.size) (blk_old hB.out _) (fun h => by have := own_ge hO.out _ h; omega)
           have c02 : w2.cell? ⟨w.heap.size, 0, none⟩ = some (.slice A k cp) := blk_cell hb2 0
           have f02 : w2.frozen? ⟨w.heap.size, 0, none⟩ = false := blk_free hb2 0
           have HOWN := hid hown'
           have HFR := hid hfr
           have HB2 := hid hb2
           clear hown' hfr hloc hb2))
      all_goals
        go_wp2
        go_roundw
        case rel =>
          refine ⟨k + 1, cc, some ⟨gg, 0, none⟩, by omega, by go_num, ?_, ?_, ?_⟩
          · exact ((((Fr.of_below (S := NoB) hb).alloc _).drewN 1).trans HFR.out (fun x hx => .inr (by have := own_ge hO.out x hx; omega))).set (.inr (Nat.le_refl _)) _ |>.no
          · exact hid (one_setCell HB2.out)
          · have := own_set_ne HOWN.out (g := w.heap.size) (fun x hx => by have := own_ge HOWN.out x hx; omega) 0 (.slice (some ⟨gg, 0, none⟩) (k + 1) cc)
            rw [flat_take_succ (x := newRow t) (by simp [HX.out])]
            exact this
        case measure => simp [intOf]; omega
    · have hkn : k = n := by omega
      have HK := hid hkn
      have HB := hid hb
      clear hb hkn
      go_wp2
      go_ret2
      have hO2 := hO.out
      have hB2 := hB.out
      rw [HK.out] at hO2 hB2
      rw [List.take_of_length_le (by rw [List.length_map, ← HL.out]; omega)] at hO2
      obtain ⟨gg, cc, cu, hv, hgg, _⟩ := own_shape hO2 (by omega)
      cases hv
      have e : n = (ts.map newRow).length := by rw [List.length_map, ← HL.out]
      refine ⟨w.heap.size, gg, cp, rfl, ⟨?_, ?_⟩, HB.out, Nat.le_refl _, by omega⟩
      · rw [← e]; exact hB2
      · rw [← e]; exact own_mono hO2 (Nat.zero_le _)
end Go.Proofs.Ytcbpbgjngeemoaa
