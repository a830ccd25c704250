/- Joined: Valid. -/
import Derived.Test.YtppildaahmlfmaaQ03
set_option linter.unusedVariables false
set_option linter.unusedSimpArgs false
/- Package valid: between, whole, Check, Right (contracts): whatever system. -/
set_option linter.unusedVariables false
set_option linter.unusedSimpArgs false
namespace Go.Proofs.Ytppildaahmlfmaa
open Go.RowKit

section
variable {w : World}
theorem btw_any (n a b : Int) : Calls Try.prog 67 #[.int .i64 n, .int .i64 a, .int .i64 b] w fun e w' => e = .returned (.bool (btw n a b)) ∧ w = w' := by
  by_cases h1 : a ≤ n
  · have h1' : decide (a ≤ n) = true := decide_eq_true h1
    have hE := hid (show btw n a b = decide (n ≤ b) by unfold btw; simp [h1])
    go_enter Try.func67, Try.ntmps67
    go_wp2_with fail
    go_ret
    exact ⟨by rw [hE.out]; rfl, rfl⟩
  · have h1' : decide (a ≤ n) = false := decide_eq_false h1
    have hE := hid (show btw n a b = false by unfold btw; simp [h1])
    go_enter Try.func67, Try.ntmps67
    go_wp2_with fail
    go_ret
    exact ⟨by rw [hE.out]; rfl, rfl⟩
attribute [local irreducible] btw
set_option maxRecDepth 100000 in
set_option maxHeartbeats 1600000 in
theorem whole_any (S : Sy) (A : Option Addr) (cap : Nat) (n : Nat) (hn : n = S.tasks.length) : Calls Try.prog 66 #[sysV S (.slice A n cap)] w fun e w' => e = .returned (.bool (wholeB S)) ∧ Below w.heap.size w w' := by
  have HE0 : Hid (wholeB S = (decide ((S.policy = 1 ∨ S.policy = 2) ∧ (S.prot = 1 ∨ (S.prot = 2 ∧ S.policy = 1))) && (btw S.rel 0 50 && btw S.sw 0 50 && btw S.fin 0 50 && btw S.cores 1 8 && btw S.lat 1 50 && btw S.resn 0 8 && btw (n : Int) 1 24))) := by rw [hn]; rfl
  unfold sysV
  generalize wholeB S = r at *
  generalize S.policy = pol at *
  generalize S.prot = pro at *
  generalize S.rel = x1 at *
  generalize S.sw = x2 at *
  generalize S.fin = x3 at *
  generalize S.cores = x4 at *
  generalize S.lat = x5 at *
  generalize S.resn = x6 at *
  clear hn
  go_enter Try.func66, Try.ntmps66
  by_cases h1 : pol = 1 ∨ pol = 2
  · by_cases h2 : pro = 1 ∨ (pro = 2 ∧ pol = 1)
    · have HE := hid (show r = (btw x1 0 50 && btw x2 0 50 && btw x3 0 50 && btw x4 1 8 && btw x5 1 50 && btw x6 0 8 && btw (n : Int) 1 24) by rw [HE0.out]; simp [h1, h2])
      have e1 : (pol != 1 && pol != 2) = false := by rcases h1 with rfl | rfl <;> rfl
      clear HE0
      rcases h2 with h2 | ⟨h2, h3⟩
      · subst h2
        rcases h1 with h1 | h1
        all_goals
          subst h1
          cases k1 : btw x1 0 50
          case false =>
            have HF := hid (show r = false by rw [HE.out]; simp [k1])
            clear HE
            go_wp2_with (go_at_call 67; (with_reducible refine (btw_any _ _ _).mono ?_); rintro e w' ⟨rfl, rfl⟩)
            go_ret
            exact ⟨by rw [HF.out]; rfl, (Below.refl _ _).alloc (Nat.le_refl _) _⟩
          cases k2 : btw x2 0 50
          case false =>
            have HF := hid (show r = false by rw [HE.out]; simp [k1, k2])
            clear HE
            go_wp2_with (go_at_call 67; (with_reducible refine (btw_any _ _ _).mono ?_); rintro e w' ⟨rfl, rfl⟩)
            go_ret
            exact ⟨by rw [HF.out]; rfl, (Below.refl _ _).alloc (Nat.le_refl _) _⟩
          cases k3 : btw x3 0 50
          case false =>
            have HF := hid (show r = false by rw [HE.out]; simp [k1, k2, k3])
            clear HE
            go_wp2_with (go_at_call 67; (with_reducible refine (btw_any _ _ _).mono ?_); rintro e w' ⟨rfl, rfl⟩)
            go_ret
            exact ⟨by rw [HF.out]; rfl, (Below.refl _ _).alloc (Nat.le_refl _) _⟩
          cases k4 : btw x4 1 8
          case false =>
            have HF := hid (show r = false by rw [HE.out]; simp [k1, k2, k3, k4])
            clear HE
            go_wp2_with (go_at_call 67; (with_reducible refine (btw_any _ _ _).mono ?_); rintro e w' ⟨rfl, rfl⟩)
            go_ret
            exact ⟨by rw [HF.out]; rfl, (Below.refl _ _).alloc (Nat.le_refl _) _⟩
          cases k5 : btw x5 1 50
          case false =>
            have HF := hid (show r = false by rw [HE.out]; simp [k1, k2, k3, k4, k5])
            clear HE
            go_wp2_with (go_at_call 67; (with_reducible refine (btw_any _ _ _).mono ?_); rintro e w' ⟨rfl, rfl⟩)
            go_ret
            exact ⟨by rw [HF.out]; rfl, (Below.refl _ _).alloc (Nat.le_refl _) _⟩
          cases k6 : btw x6 0 8
          case false =>
            have HF := hid (show r = false by rw [HE.out]; simp [k1, k2, k3, k4, k5, k6])
            clear HE
            go_wp2_with (go_at_call 67; (with_reducible refine (btw_any _ _ _).mono ?_); rintro e w' ⟨rfl, rfl⟩)
            go_ret
            exact ⟨by rw [HF.out]; rfl, (Below.refl _ _).alloc (Nat.le_refl _) _⟩
          cases k7 : btw (n : Int) 1 24
          case false =>
            have HF := hid (show r = false by rw [HE.out]; simp [k1, k2, k3, k4, k5, k6, k7])
            clear HE
            go_wp2_with (go_at_call 67; (with_reducible refine (btw_any _ _ _).mono ?_); rintro e w' ⟨rfl, rfl⟩)
            go_ret
            exact ⟨by rw [HF.out]; rfl, (Below.refl _ _).alloc (Nat.le_refl _) _⟩
          have HF := hid (show r = true by rw [HE.out]; simp [k1, k2, k3, k4, k5, k6, k7])
          clear HE
          go_wp2_with (go_at_call 67; (with_reducible refine (btw_any _ _ _).mono ?_); rintro e w' ⟨rfl, rfl⟩)
          go_ret
          exact ⟨by rw [HF.out]; rfl, (Below.refl _ _).alloc (Nat.le_refl _) _⟩
      · subst h2
        subst h3
        clear h1
        cases k1 : btw x1 0 50
        case false =>
          have HF := hid (show r = false by rw [HE.out]; simp [k1])
          clear HE
          go_wp2_with (go_at_call 67; (with_reducible refine (btw_any _ _ _).mono ?_); rintro e w' ⟨rfl, rfl⟩)
          go_ret
          exact ⟨by rw [HF.out]; rfl, (Below.refl _ _).alloc (Nat.le_refl _) _⟩
        cases k2 : btw x2 0 50
        case false =>
          have HF := hid (show r = false by rw [HE.out]; simp [k1, k2])
          clear HE
          go_wp2_with (go_at_call 67; (with_reducible refine (btw_any _ _ _).mono ?_); rintro e w' ⟨rfl, rfl⟩)
          go_ret
          exact ⟨by rw [HF.out]; rfl, (Below.refl _ _).alloc (Nat.le_refl _) _⟩
        cases k3 : btw x3 0 50
        case false =>
          have HF := hid (show r = false by rw [HE.out]; simp [k1, k2, k3])
          clear HE
          go_wp2_with (go_at_call 67; (with_reducible refine (btw_any _ _ _).mono ?_); rintro e w' ⟨rfl, rfl⟩)
          go_ret
          exact ⟨by rw [HF.out]; rfl, (Below.refl _ _).alloc (Nat.le_refl _) _⟩
        cases k4 : btw x4 1 8
        case false =>
          have HF := hid (show r = false by rw [HE.out]; simp [k1, k2, k3, k4])
          clear HE
          go_wp2_with (go_at_call 67; (with_reducible refine (btw_any _ _ _).mono ?_); rintro e w' ⟨rfl, rfl⟩)
          go_ret
          exact ⟨by rw [HF.out]; rfl, (Below.refl _ _).alloc (Nat.le_refl _) _⟩
        cases k5 : btw x5 1 50
        case false =>
          have HF := hid (show r = false by rw [HE.out]; simp [k1, k2, k3, k4, k5])
          clear HE
          go_wp2_with (go_at_call 67; (with_reducible refine (btw_any _ _ _).mono ?_); rintro e w' ⟨rfl, rfl⟩)
          go_ret
          exact ⟨by rw [HF.out]; rfl, (Below.refl _ _).alloc (Nat.le_refl _) _⟩
        cases k6 : btw x6 0 8
        case false =>
          have HF := hid (show r = false by rw [HE.out]; simp [k1, k2, k3, k4, k5, k6])
          clear HE
          go_wp2_with (go_at_call 67; (with_reducible refine (btw_any _ _ _).mono ?_); rintro e w' ⟨rfl, rfl⟩)
          go_ret
          exact ⟨by rw [HF.out]; rfl, (Below.refl _ _).alloc (Nat.le_refl _) _⟩
        cases k7 : btw (n : Int) 1 24
        case false =>
          have HF := hid (show r = false by rw [HE.out]; simp [k1, k2, k3, k4, k5, k6, k7])
          clear HE
          go_wp2_with (go_at_call 67; (with_reducible refine (btw_any _ _ _).mono ?_); rintro e w' ⟨rfl, rfl⟩)
          go_ret
          exact ⟨by rw [HF.out]; rfl, (Below.refl _ _).alloc (Nat.le_refl _) _⟩
        have HF := hid (show r = true by rw [HE.out]; simp [k1, k2, k3, k4, k5, k6, k7])
        clear HE
        go_wp2_with (go_at_call 67; (with_reducible refine (btw_any _ _ _).mono ?_); rintro e w' ⟨rfl, rfl⟩)
        go_ret
        exact ⟨by rw [HF.out]; rfl, (Below.refl _ _).alloc (Nat.le_refl _) _⟩
    · have HF := hid (show r = false by rw [HE0.out]; simp [h2])
      have q1 : (pro == 1) = false := beq_eq_false_iff_ne.2 (fun h => h2 (.inl h))
      have q2 : (pro != 1) = true := by rw [bne_iff_ne]; exact fun h => h2 (.inl h)
      clear HE0
      by_cases h3 : pro = 2
      · subst h3
        have h4 : pol = 2 := by
          rcases h1 with h1 | h1
          · exact absurd (.inr ⟨rfl, h1⟩) h2
          · exact h1
        subst h4
        clear h1 h2
        go_wp2_with fail
        go_ret
        exact ⟨by rw [HF.out]; rfl, (Below.refl _ _).alloc (Nat.le_refl _) _⟩
      · have q3 : (pro != 2) = true := by rw [bne_iff_ne]; exact h3
        rcases h1 with h1 | h1
        all_goals
          subst h1
          clear h2
          go_wp2_with fail
          go_ret
          exact ⟨by rw [HF.out]; rfl, (Below.refl _ _).alloc (Nat.le_refl _) _⟩
  · have HF := hid (show r = false by rw [HE0.out]; simp [h1])
    have q1 : (pol != 1) = true := by rw [bne_iff_ne]; exact fun h => h1 (.inl h)
    have q2 : (pol != 2) = true := by rw [bne_iff_ne]; exact fun h => h1 (.inr h)
    clear HE0 h1
    go_wp2_with fail
    go_ret
    exact ⟨by rw [HF.out]; rfl, (Below.refl _ _).alloc (Nat.le_refl _) _⟩
end
end Go.Proofs.Ytppildaahmlfmaa
