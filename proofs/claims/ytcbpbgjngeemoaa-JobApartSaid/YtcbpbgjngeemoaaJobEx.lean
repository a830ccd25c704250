/- The statements of chapter 11: pick and examples (contracts). -/
import Derived.Test.YtcbpbgjngeemoaaJob2
set_option linter.unusedVariables false
set_option linter.unusedSimpArgs false
namespace Go.Proofs.Ytcbpbgjngeemoaa
open Go.RowKit

theorem ask_is {w : World} {b g cap : Nat} {l : List JRow} (H : IsBook w b g cap l) {k : Nat} {x : JRow} (hk : l[k]? = some x) (hl : l.length ≤ 1000) (n : Int) {r : Bool} {x' : JRow} {l' : List JRow} (h : askJ x n = (r, x')) (h' : l.set k x' = l') :
    Calls Try.prog 24 #[.pointer (some ⟨b, 0, none⟩), .int .i64 k, .int .i64 n] w fun e w' => e = .returned (.bool r) ∧ IsBook w' b g cap l' ∧ Fr (One g) w w' := by
  have := job_ask H hk hl n
  rwa [h, h'] at this
theorem next_is {w : World} {b g cap : Nat} {l : List JRow} (H : IsBook w b g cap l) {k : Nat} {x : JRow} (hk : l[k]? = some x) (hl : l.length ≤ 1000) (now : Int) (h0 : -9223372036854775808 ≤ now) (h1 : now ≤ 9223372036854775807) {r : Int} (h : nextJ x now = r) :
    Calls Try.prog 25 #[.pointer (some ⟨b, 0, none⟩), .int .i64 k, .int .i64 now] w fun e w' => e = .returned (.int .i64 r) ∧ w' = w := by
  have := job_next H hk hl now h0 h1
  rwa [h] at this
theorem start_is {w : World} {b g cap : Nat} {l : List JRow} (H : IsBook w b g cap l) {k : Nat} {x : JRow} (hk : l[k]? = some x) (hl : l.length ≤ 1000) (now : Int) (h0 : -9223372036854775808 ≤ now) (h1 : now ≤ 9223372036854775807) (hp0 : 0 ≤ x.period) (hp : x.period ≤ 1099511627776) {r : Bool} {x' : JRow} {l' : List JRow} (h : startJ x now = (r, x')) (h' : l.set k x' = l') :
    Calls Try.prog 26 #[.pointer (some ⟨b, 0, none⟩), .int .i64 k, .int .i64 now] w fun e w' => e = .returned (.bool r) ∧ IsBook w' b g cap l' ∧ Fr (One g) w w' := by
  have := job_start H hk hl now h0 h1 hp0 hp
  rwa [h, h'] at this
theorem work_is {w : World} {b g cap : Nat} {l : List JRow} (H : IsBook w b g cap l) {k : Nat} {x : JRow} (hk : l[k]? = some x) (hl : l.length ≤ 1000) (now : Int) (h0 : -9223372036854775808 ≤ now) (h1 : now ≤ 9223372036854775807) (hd0 : 0 ≤ x.done) (hd1 : x.done ≤ 9007199254740992) {r : Bool} {x' : JRow} {l' : List JRow} (h : workJ x now = (r, x')) (h' : l.set k x' = l') :
    Calls Try.prog 28 #[.pointer (some ⟨b, 0, none⟩), .int .i64 k, .int .i64 now] w fun e w' => e = .returned (.bool r) ∧ IsBook w' b g cap l' ∧ Fr (One g) w w' := by
  have := job_work H hk hl now h0 h1 hd0 hd1
  rwa [h, h'] at this
theorem over_is {w : World} {b g cap : Nat} {l : List JRow} (H : IsBook w b g cap l) {k : Nat} {x : JRow} (hk : l[k]? = some x) (hl : l.length ≤ 1000) {r : Bool} {x' : JRow} {l' : List JRow} (h : overJ x = (r, x')) (h' : l.set k x' = l') :
    Calls Try.prog 29 #[.pointer (some ⟨b, 0, none⟩), .int .i64 k] w fun e w' => e = .returned (.bool r) ∧ IsBook w' b g cap l' ∧ Fr (One g) w w' := by
  have := job_over H hk hl
  rwa [h, h'] at this
theorem below_one {w a b : World} {g : Nat} (h : Below w.heap.size w a) (hf : Fr (One g) a b) (hg : w.heap.size ≤ g) : Below w.heap.size w b :=
  ((Fr.of_below (S := NoB) h).trans hf (fun x hx => by rw [show x = g from hx]; exact .inr hg)).no
theorem one_task (W : World) (t : TaskV) : ∀ (k : Nat) t', [t][k]? = some t' → (W.alloc (.cells (tcells t).toArray 36)).cell? ⟨W.heap.size, k * 4, none⟩ = some (.int .i64 t'.period) ∧
    (W.alloc (.cells (tcells t).toArray 36)).cell? ⟨W.heap.size, k * 4 + 1, none⟩ = some (.int .i64 t'.deadline) ∧ (W.alloc (.cells (tcells t).toArray 36)).cell? ⟨W.heap.size, k * 4 + 2, none⟩ = some (.int .i64 t'.wcet) ∧
    (W.alloc (.cells (tcells t).toArray 36)).cell? ⟨W.heap.size, k * 4 + 3, none⟩ = some t'.sections := by
  intro k t' h
  match k, h with
  | 0, h =>
    simp at h
    subst h
    refine ⟨?_, ?_, ?_, ?_⟩ <;> (rw [blk_cell (blk_new W _)]; rfl)
  | k + 1, h => simp at h

set_option maxRecDepth 100000 in
set_option maxHeartbeats 1600000 in
/-- The chapter's examples are so. -/
theorem jobex_any {w : World} : Calls Try.prog 21 #[] w fun e w' => e = .returned (.bool true) ∧ Below w.heap.size w w' := by
  go_enter Try.func21, Try.ntmps21
  go_wp2_with fail
  refine (job_new w.heap.size 1 [⟨10, 0, 3, .slice none 0 0⟩] (by simp) (by simp) (one_task w ⟨10, 0, 3, .slice none 0 0⟩) (by intro t h; simp at h; subst h; exact ⟨_, _, _, rfl⟩) (by intro t h; simp at h; subst h; decide)).mono ?_
  rintro e w1 ⟨b, g, cap, rfl, H0, hb1, hbb, hgg⟩
  go_wp2_with fail
  refine (job_new_nil none 0).mono ?_
  rintro e w1' ⟨rfl, rfl⟩
  go_wp2_with fail
  refine (ask_is (k := 0) H0 rfl (by simp) 5 (r := true) (x' := ⟨false, 0, 0, 0, false, 10, 3, 5, 0, -1⟩) rfl rfl).mono ?_
  rintro e w2 ⟨rfl, H1, hf1⟩
  go_wp2_with fail
  refine (ask_is (k := 0) H1 rfl (by simp) 1 (r := false) (x' := ⟨false, 0, 0, 0, false, 10, 3, 5, 0, -1⟩) rfl rfl).mono ?_
  rintro e w3 ⟨rfl, H2, hf2⟩
  go_wp2_with fail
  refine (next_is (k := 0) H2 rfl (by simp) 4 (by decide) (by decide) (r := 4) (by decide)).mono ?_
  rintro e w4 ⟨rfl, rfl⟩
  go_wp2_with fail
  refine (start_is (k := 0) H2 rfl (by simp) 4 (by decide) (by decide) (by decide) (by decide) (r := true) (x' := ⟨true, 4, 3, 0, true, 10, 3, 0, 14, -1⟩) rfl rfl).mono ?_
  rintro e w5 ⟨rfl, H3, hf3⟩
  go_wp2_with fail
  refine (job_state (k := 0) H3 rfl (by simp)).mono ?_
  rintro e w6 ⟨rfl, hb6⟩
  have H4 := H3.kept (fr0 hb6) (fun h => h) (fun h => h)
  unfold stateV
  go_wp2_with fail
  have H5 := H4.kept ((Fr.refl NoB w6).alloc (.cells #[.bool true, .int .i64 4, .int .i64 3, .int .i64 0, .bool true] 43)) (fun h => h) (fun h => h)
  have hlg : g < w6.heap.size := by obtain ⟨cur, hg, _⟩ := own_blk H4.ho; exact blk_lt hg
  have hne : ¬ One g w6.heap.size := fun h => by have : w6.heap.size = g := h; omega
  have hS0 := blk_new w6 (.cells #[.bool true, .int .i64 4, .int .i64 3, .int .i64 0, .bool true] 43)
  have HB1 := hid (below_new (below_then (below_one (below_one (below_one (below_then (below_new (Below.refl _ w) _) hb1) hf1 (by simp at hgg; omega)) hf2 (by simp at hgg; omega)) hf3 (by simp at hgg; omega)) hb6) (.cells #[.bool true, .int .i64 4, .int .i64 3, .int .i64 0, .bool true] 43))
  have HG := hid (show w.heap.size ≤ g by simp at hgg; omega)
  have HS0 := hid hS0
  clear hS0 hb1 hb6 hf1 hf2 hf3
  refine (work_is (k := 0) H5 rfl (by simp) 4 (by decide) (by decide) (by decide) (by decide) (r := true) (x' := ⟨true, 4, 3, 1, true, 10, 3, 0, 14, 4⟩) rfl rfl).mono ?_
  rintro e w8 ⟨rfl, H6, hf8⟩
  go_wp2_with fail
  refine (work_is (k := 0) H6 rfl (by simp) 4 (by decide) (by decide) (by decide) (by decide) (r := false) (x' := ⟨true, 4, 3, 1, true, 10, 3, 0, 14, 4⟩) rfl rfl).mono ?_
  rintro e w9 ⟨rfl, H7, hf9⟩
  go_wp2_with fail
  refine (work_is (k := 0) H7 rfl (by simp) 5 (by decide) (by decide) (by decide) (by decide) (r := true) (x' := ⟨true, 4, 3, 2, true, 10, 3, 0, 14, 5⟩) rfl rfl).mono ?_
  rintro e w10 ⟨rfl, H8, hf10⟩
  go_wp2_with fail
  refine (over_is (k := 0) H8 rfl (by simp) (r := true) (x' := ⟨false, 0, 0, 0, false, 10, 3, 0, 14, 5⟩) rfl rfl).mono ?_
  rintro e w11 ⟨rfl, H9, hf11⟩
  go_wp2_with fail
  refine (ask_is (k := 0) H9 rfl (by simp) 1 (r := true) (x' := ⟨false, 0, 0, 0, false, 10, 3, 1, 14, 5⟩) rfl rfl).mono ?_
  rintro e w12 ⟨rfl, H10, hf12⟩
  have hS := hf12.blk (hf11.blk (hf10.blk (hf9.blk (hf8.blk HS0.out hne) hne) hne) hne) hne
  have c0 : w12.cell? ⟨w6.heap.size, 0, none⟩ = some (.bool true) := blk_cell hS 0
  have c1 : w12.cell? ⟨w6.heap.size, 1, none⟩ = some (.int .i64 4) := blk_cell hS 1
  have c2 : w12.cell? ⟨w6.heap.size, 2, none⟩ = some (.int .i64 3) := blk_cell hS 2
  have c3 : w12.cell? ⟨w6.heap.size, 3, none⟩ = some (.int .i64 0) := blk_cell hS 3
  have c4 : w12.cell? ⟨w6.heap.size, 4, none⟩ = some (.bool true) := blk_cell hS 4
  have HB2 := hid (below_one (below_one (below_one (below_one (below_one HB1.out hf8 HG.out) hf9 HG.out) hf10 HG.out) hf11 HG.out) hf12 HG.out)
  clear hS hf8 hf9 hf10 hf11 hf12
  go_wp2_with fail
  refine (next_is (k := 0) H10 rfl (by simp) 9 (by decide) (by decide) (r := 14) (by decide)).mono ?_
  rintro e w13 ⟨rfl, rfl⟩
  go_wp2_with fail
  go_ret
  exact ⟨rfl, HB2.out⟩

/-- Which of n things the raw number c speaks of. -/
def pickN (c n : Int) : Int := if c < 0 then (-(c + 1)) % n else c % n
theorem pickN_bd (c n : Int) (hn : 0 < n) : 0 ≤ pickN c n ∧ pickN c n < n := by
  unfold pickN
  split
  · exact ⟨Int.emod_nonneg _ (by omega), Int.emod_lt_of_pos _ hn⟩
  · exact ⟨Int.emod_nonneg _ (by omega), Int.emod_lt_of_pos _ hn⟩
set_option maxHeartbeats 400000 in
theorem jobpick_any {w : World} (c n : Int) (h0 : -9223372036854775808 ≤ c) (h1 : c ≤ 9223372036854775807) (hn : 0 < n) (hn2 : n ≤ 1099511627776) :
    Calls Try.prog 22 #[.int .i64 c, .int .i64 n] w fun e w' => e = .returned (.int .i64 (pickN c n)) ∧ w' = w := by
  have hn0 : (n == 0) = false := beq_eq_false_iff_ne.2 (by omega)
  have hn1 : (n == -1) = false := beq_eq_false_iff_ne.2 (by omega)
  by_cases h : c < 0
  · have e := hid (show pickN c n = -((c + 1).tmod n) by unfold pickN; rw [if_pos h, ← Int.neg_tmod, Int.tmod_eq_emod_of_nonneg (by omega)])
    go_enter Try.func22, Try.ntmps22
    go_wp2
    go_ret
    exact ⟨ret_eq (by rw [e.out]; rfl), rfl⟩
  · have e := hid (show pickN c n = c % n by unfold pickN; rw [if_neg h])
    go_enter Try.func22, Try.ntmps22
    go_wp2
    go_ret
    exact ⟨ret_eq (by rw [e.out]; rfl), rfl⟩
end Go.Proofs.Ytcbpbgjngeemoaa
