/- Joined: Stab2. -/
import Derived.Test.YtmhochjpdedlgaaQ21
set_option linter.unusedVariables false
set_option linter.unusedSimpArgs false
/- slices.rotateCmpFunc at parts (contract). -/
set_option linter.unusedVariables false
set_option linter.unusedSimpArgs false
namespace Go.Proofs.Ytmhochjpdedlgaa
open Go.RowKit

section
variable {w : World} {base : Nat}
set_option maxRecDepth 100000 in
set_option maxHeartbeats 6400000 in
theorem rotate_any (d : Nat → Pt) (g n cap a m b : Nat) (cv : Value) (H : PR w base g n cap d) (h1 : a < m) (h2 : m < b) (hb : b ≤ n) (hn : n < 1000000) :
    Calls Try.prog 124 #[.slice (some ⟨g, 0, none⟩) n cap, .int .i64 a, .int .i64 m, .int .i64 b, cv] w fun e w' => e = .returned (.tuple #[]) ∧ PR w' base g n cap (rot d a m b) ∧ Fr (One g) w w' := by
  have HH := hid H
  have HSW := hid (fun (W : World) (dk : Nat → Pt) (x y z : Nat) (hx : PR W base g n cap dk) (h3 : x + z ≤ y) (h4 : y + z ≤ n) => swaprange_any (w := W) dk g n cap x y z cv hx h3 h4 hn)
  have hs1 : IntKind.i64.wrap ((m : Int) - (a : Int)) = ((m - a : Nat) : Int) := by rw [IntKind.wrap_i64]; omega
  have hs2 : IntKind.i64.wrap ((b : Int) - (m : Int)) = ((b - m : Nat) : Int) := by rw [IntKind.wrap_i64]; omega
  clear H
  go_enter Try.func124, Try.ntmps124
  go_wp2_with fail
  go_loopw [10, 11] (fun u v wr => ∃ (i j : Nat) (dk : Nat → Pt), u = .int .i64 i ∧ v = .int .i64 j ∧ 0 < i ∧ 0 < j ∧ i ≤ m ∧ m + j ≤ n ∧ Hid (PR wr base g n cap dk) ∧ Hid (rot dk (m - i) m (m + j) = rot d a m b) ∧ Hid (Fr (One g) w wr)) (fun u v _ => (intOf u).toNat + (intOf v).toNat)
  case atStart => exact ⟨m - a, b - m, d, by go_num, by go_num, by omega, by omega, by omega, by omega, HH, hid (by rw [show m - (m - a) = a by omega, show m + (b - m) = b by omega]), hid (Fr.refl _ _)⟩
  case round =>
    obtain ⟨i, j, dk, rfl, rfl, hi, hj, him, hjn, HP, HR, HF⟩ := hrel
    obtain ⟨A, hA⟩ : ∃ A, m - i = A := ⟨_, rfl⟩
    have hAw : IntKind.i64.wrap ((m : Int) - (i : Int)) = (A : Int) := by rw [IntKind.wrap_i64]; omega
    have HA := hid hA
    clear hs1 hs2
    by_cases hij : i = j
    · subst hij
      have hne : ((i : Int) != (i : Int)) = false := by simp
      clear hA
      go_wp2_with fail
      refine (HSW.out _ dk A m i HP.out (by have := HA.out; omega) (by omega)).mono ?_
      rintro e w1 ⟨rfl, hp, hf⟩
      have HP1 := hid hp
      have HF1 := hid (HF.out.trans hf (fun x hx => .inl hx))
      clear hp hf
      go_wp2_with fail
      go_end0
      refine ⟨rfl, ?_, HF1.out⟩
      rw [← HR.out, ← rot_last him, HA.out]
      exact HP1.out
    · have hne : ((i : Int) != (j : Int)) = true := bne_iff_ne.2 (by omega)
      rcases Nat.lt_or_ge j i with hlt | hge
      · have hgt : (j : Int) < (i : Int) := by omega
        clear hA
        go_wp2_with fail
        refine (HSW.out _ dk A m j HP.out (by have := HA.out; omega) (by omega)).mono ?_
        rintro e w1 ⟨rfl, hp, hf⟩
        have HP1 := hid hp
        have HF1 := hid (HF.out.trans hf (fun x hx => .inl hx))
        clear hp hf
        go_wp2_with fail
        go_roundw
        case rel => exact ⟨i - j, j, _, by go_num, rfl, by omega, by omega, by omega, by omega, HP1, hid (by rw [← HA.out, rot_left hlt him]; exact HR.out), HF1⟩
        case measure => simp [intOf]; omega
      · have hgt : ¬ (j : Int) < (i : Int) := by omega
        obtain ⟨B, hB⟩ : ∃ B, m + j - i = B := ⟨_, rfl⟩
        have hBw : IntKind.i64.wrap ((m : Int) + (j : Int) - (i : Int)) = (B : Int) := by rw [IntKind.wrap_i64]; omega
        have HB := hid hB
        clear hA hB
        go_wp2_with fail
        refine (HSW.out _ dk A B i HP.out (by have := HA.out; have := HB.out; omega) (by have := HB.out; omega)).mono ?_
        rintro e w1 ⟨rfl, hp, hf⟩
        have HP1 := hid hp
        have HF1 := hid (HF.out.trans hf (fun x hx => .inl hx))
        clear hp hf
        go_wp2_with fail
        go_roundw
        case rel => exact ⟨i, j - i, _, rfl, by go_num, by omega, by omega, by omega, by omega, HP1, hid (by rw [← HA.out, ← HB.out, rot_right (by omega) him]; exact HR.out), HF1⟩
        case measure => simp [intOf]; omega
end
end Go.Proofs.Ytmhochjpdedlgaa
