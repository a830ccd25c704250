/- JobCuts: a job has the demand that was asked for, or the declared work, if that is less; just then it is cut: the walk. Whatever period, work, demand and tick. -/
import Derived.Test.YtcbpbgjngeemoaaJobEx
namespace Go.Proofs.Ytcbpbgjngeemoaa
open Go.RowKit

set_option maxRecDepth 100000 in
set_option maxHeartbeats 1600000 in
theorem jobcuts_walk {w : World} (p q d n : Int) (hp : -9223372036854775808 ≤ p ∧ p ≤ 9223372036854775807) (hq : -9223372036854775808 ≤ q ∧ q ≤ 9223372036854775807) (hd : -9223372036854775808 ≤ d ∧ d ≤ 9223372036854775807) (hn : -9223372036854775808 ≤ n ∧ n ≤ 9223372036854775807) :
    Calls Try.prog 6 #[.int .i64 p, .int .i64 q, .int .i64 d, .int .i64 n] w fun e w' => e = .returned (.bool true) ∧ Below w.heap.size w w' := by
  obtain ⟨P, hP⟩ : ∃ P, P = pickN p 1000 := ⟨_, rfl⟩
  obtain ⟨Q, hQ⟩ : ∃ Q, Q = pickN q 1000 := ⟨_, rfl⟩
  obtain ⟨T, hT⟩ : ∃ T, T = pickN n 1099511627776 := ⟨_, rfl⟩
  have bP := pickN_bd p 1000 (by omega)
  have bQ := pickN_bd q 1000 (by omega)
  have bT := pickN_bd n 1099511627776 (by omega)
  have hpP := fun W => jobpick_any (w := W) p 1000 hp.1 hp.2 (by omega) (by omega)
  have hpQ := fun W => jobpick_any (w := W) q 1000 hq.1 hq.2 (by omega) (by omega)
  have hpT := fun W => jobpick_any (w := W) n 1099511627776 hn.1 hn.2 (by omega) (by omega)
  rw [← hP] at bP hpP
  rw [← hQ] at bQ hpQ
  rw [← hT] at bT hpT
  have HP := hid hpP
  have HQ := hid hpQ
  have HT := hid hpT
  obtain ⟨bP1, bP2⟩ := bP
  obtain ⟨bQ1, bQ2⟩ := bQ
  obtain ⟨bT1, bT2⟩ := bT
  obtain ⟨hd1, hd2⟩ := hd
  clear hP hQ hT hpP hpQ hpT hp hq hn
  go_enter Try.func6, Try.ntmps6
  go_wp2_with fail
  refine jobex_any.mono ?_
  rintro e w0 ⟨rfl, hb0⟩
  go_wp2_with fail
  refine (HP.out _).mono ?_
  rintro e w1 ⟨rfl, rfl⟩
  go_wp2_with fail
  refine (HQ.out _).mono ?_
  rintro e w1' ⟨rfl, rfl⟩
  go_wp2_with fail
  refine (HT.out _).mono ?_
  rintro e w1'' ⟨rfl, rfl⟩
  go_wp2_with fail
  refine (job_new w1''.heap.size 1 [⟨1 + P, 0, 1 + Q, .slice none 0 0⟩] (by simp) (by simp) (one_task w1'' ⟨1 + P, 0, 1 + Q, .slice none 0 0⟩) (by intro t h; simp at h; subst h; exact ⟨_, _, _, rfl⟩) (by intro t h; simp at h; subst h; simp; omega)).mono ?_
  rintro e w2 ⟨b, g, cap, rfl, H0, hb1, hbb, hgg⟩
  have hg0 : w.heap.size ≤ g := by have := hb0.size; simp at hgg; omega
  have HB := hid (below_then (below_new hb0 _) hb1)
  clear hb0 hb1
  by_cases h1 : d < 1
  · go_wp2_with fail
    refine (ask_is (k := 0) H0 rfl (by simp) d (r := false) (x' := ⟨false, 0, 0, 0, false, 1 + P, 1 + Q, 0, 0, -1⟩) (by unfold askJ; rw [if_pos (.inl h1)]; rfl) rfl).mono ?_
    rintro e w3 ⟨rfl, H1, hf1⟩
    go_wp2_with fail
    refine (start_is (k := 0) H1 rfl (by simp) T (by omega) (by omega) (by simp; omega) (by simp; omega) (r := false) (x' := ⟨false, 0, 0, 0, false, 1 + P, 1 + Q, 0, 0, -1⟩) (by unfold startJ; rw [if_pos (.inr (by simp [nextJ]; omega))]) rfl).mono ?_
    rintro e w4 ⟨rfl, H2, hf2⟩
    go_wp2_with fail
    refine (job_state (k := 0) H2 rfl (by simp)).mono ?_
    rintro e w5 ⟨rfl, hb5⟩
    unfold stateV
    have HB2 := hid (below_new (below_then (below_one (below_one HB.out hf1 hg0) hf2 hg0) hb5) (.cells #[.bool false, .int .i64 0, .int .i64 0, .int .i64 0, .bool false] 43))
    clear hf1 hf2 hb5
    go_wp2_with fail
    go_ret
    exact ⟨rfl, HB2.out⟩
  · have ht : tickB T = true := by simp [tickB]; omega
    have hx : nextJ ⟨false, 0, 0, 0, false, 1 + P, 1 + Q, d, 0, -1⟩ T = T := by
      unfold nextJ
      rw [if_neg (by simp [ht]; omega)]
      show max T 0 = T
      omega
    have HST := hid (startJ_yes ht hx)
    clear ht hx
    go_wp2_with fail
    refine (ask_is (k := 0) H0 rfl (by simp) d (r := true) (x' := ⟨false, 0, 0, 0, false, 1 + P, 1 + Q, d, 0, -1⟩) (by unfold askJ; rw [if_neg (by simp [newRow]; omega)]; rfl) rfl).mono ?_
    rintro e w3 ⟨rfl, H1, hf1⟩
    go_wp2_with fail
    refine (start_is (k := 0) H1 rfl (by simp) T (by omega) (by omega) (by simp; omega) (by simp; omega) HST.out rfl).mono ?_
    rintro e w4 ⟨rfl, H2, hf2⟩
    go_wp2_with fail
    refine (job_state (k := 0) H2 rfl (by simp)).mono ?_
    rintro e w5 ⟨rfl, hb5⟩
    unfold stateV
    have HB2 := hid (fun o => below_new (below_then (below_one (below_one HB.out hf1 hg0) hf2 hg0) hb5) o)
    clear hf1 hf2 hb5
    go_wp2_with fail
    all_goals go_ret
    all_goals exact ⟨rfl, HB2.out _⟩
end Go.Proofs.Ytcbpbgjngeemoaa
