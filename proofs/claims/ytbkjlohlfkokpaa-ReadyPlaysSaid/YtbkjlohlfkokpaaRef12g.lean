/- The document's queue: First (contract). -/
import Derived.Test.YtbkjlohlfkokpaaRef12f
set_option linter.unusedVariables false
set_option linter.unusedSimpArgs false
namespace Go.Proofs.Ytbkjlohlfkokpaa
open Go.RowKit

section
variable {w w' : World} {base x : Nat} {v : Value} {policy : Int} {L : List Od}
set_option maxRecDepth 100000 in
theorem r12_first (H : R12 w base x v policy L) (hok : ∀ p ∈ L, 0 ≤ p.t ∧ p.t < 24) (hm : L.length ≤ 24) :
    Calls Try.prog 66 #[.pointer (some ⟨x, 0, none⟩)] w fun e w' => ∃ ts, Sel L ts ∧ e = .returned (.int .i64 (ts.headD (-1))) ∧ Below w.heap.size w w' := by
  have HALL := hid (r12_all H hok hm)
  clear H hok hm
  go_enter Try.func66, Try.ntmps66
  go_wp2_with fail
  refine HALL.out.mono ?_
  rintro e w1 ⟨u, ts, rfl, hsel, hu, hb⟩
  have HS := hid hsel
  have HB := hid hb
  rcases ts with _ | ⟨t, ts⟩
  · obtain ⟨A, c, e1⟩ := own_slice hu
    subst e1
    clear hsel hu hb HALL
    go_wp2_with fail
    go_ret
    exact ⟨[], HS.out, rfl, HB.out⟩
  · obtain ⟨g, c, cur, e1, _⟩ := own_shape hu (by simp)
    subst e1
    have c0 : w1.cell? ⟨g, 0, none⟩ = some (.int .i64 t) := own_cell0 hu rfl
    obtain ⟨m, hm⟩ : ∃ m, (t :: ts).length = m + 1 := ⟨ts.length, rfl⟩
    rw [hm]
    have hm0 : (((m + 1 : Nat) : Int) == 0) = false := beq_eq_false_iff_ne.2 (by omega)
    clear hsel hu hb HALL hm
    go_wp2_with fail
    go_ret
    exact ⟨t :: ts, HS.out, rfl, HB.out⟩
end
end Go.Proofs.Ytbkjlohlfkokpaa
