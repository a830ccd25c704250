/- Joined: EmptyPlain. -/
import Derived.Test.YtmhochjpdedlgaaQ44
import Derived.Test.YtmhochjpdedlgaaQ42
/- A trace in which nothing happens, plain: no rule is broken; one with a job in no ticks: the third one is. -/
set_option linter.unusedVariables false
set_option linter.unusedSimpArgs false
namespace Go.Proofs.Ytmhochjpdedlgaa
open Go.RowKit

/-- A slot in which nothing is done. -/
def sl0 : Sl := ⟨0, 0, 0⟩
theorem make_slots (C : Nat) (hC : C ≤ 8) : ∃ C0 : Array Value, (∀ w : World, (Instr.makeSlice 42 (.int .i64 (C : Int)) (.int .i64 (C : Int))).run Try.prog w = .ok (.slice (some ⟨w.heap.size, 0, none⟩) C C) (w.alloc (.cells C0 78))) ∧ C0.toList = flat encSl (List.replicate C sl0) ∧ C0.size = C * 3 := by
  obtain ⟨i0, hi, hz0, hz1, hz2⟩ := info_parts Try.info_slot
  refine ⟨madeCells (Value.agg #[.int .i64 0, .int .i64 0, .int .i64 0]).cells (C * 3), fun w => ?_, ?_, ?_⟩
  · have := run_make (P := Try.prog) (w := w) 42 78 i0 _ Try.underlying42 hi hz0 .i64 .i64 C C (by omega) (by omega) (by rw [hz2]; omega) (by omega)
    rw [hz1] at this
    simpa using this
  · have : C = 0 ∨ C = 1 ∨ C = 2 ∨ C = 3 ∨ C = 4 ∨ C = 5 ∨ C = 6 ∨ C = 7 ∨ C = 8 := by omega
    rcases this with rfl | rfl | rfl | rfl | rfl | rfl | rfl | rfl | rfl <;> (simp [madeCells, Value.cells, flat, encSl, sl0, List.replicate]; try rfl)
  · exact size_madeCells _ _
def emptyX (N C : Nat) (js : List Jb) : Tr := ⟨List.replicate N (List.replicate C sl0), js⟩
theorem empty_slot {N C t c : Nat} {s : Sl} {js : List Jb} (h : ((emptyX N C js).slots[t]?).bind (fun l => l[c]?) = some s) : s = sl0 := by
  unfold emptyX at h
  simp only [List.getElem?_replicate] at h
  split at h
  · simp only [Option.bind_some, List.getElem?_replicate] at h
    split at h
    · injection h with h; exact h.symm
    · cases h
  · cases h
theorem empty_rows {N C nt : Nat} {js : List Jb} : ∀ l ∈ (emptyX N C js).slots, rowOk C nt l := fun l hl c hc => by
  unfold emptyX at hl
  obtain ⟨_, rfl⟩ := List.mem_replicate.1 hl
  have h1 : c < C := by simpa using hc
  unfold okC
  rw [List.getElem?_replicate, if_pos h1, decide_eq_true h1]
  rfl
/-- Nothing happens, no job: no rule is broken. -/
theorem empty_none {T : Tb} {N : Nat} (h : tabB T = true) : Fnd T (emptyX N T.sys.cores.toNat []) 0 (-1) (-1) := by
  refine .none h (.inl ⟨rfl, rfl, rfl, empty_rows⟩) (fun r' k3 k7 => ?_)
  have : r' = 3 ∨ r' = 4 ∨ r' = 5 ∨ r' = 6 ∨ r' = 7 := by omega
  rcases this with rfl | rfl | rfl | rfl | rfl
  · intro t c ht hc; exact absurd hc (Nat.not_lt_zero _)
  · intro t c ht hc
    show onceB (((emptyX N T.sys.cores.toNat []).slots[t]?).getD []) [] t c = true
    have ht' : t < N := by simpa [ruleN, emptyX] using ht
    have hc' : c < T.sys.cores.toNat := hc
    unfold emptyX onceB
    simp only [List.getElem?_replicate, if_pos ht', Option.getD_some, if_pos hc', Option.map_some]
    rfl
  · intro t c ht hc; exact absurd hc (Nat.not_lt_zero _)
  · intro t c ht hc
    show placeB T (emptyX N T.sys.cores.toNat []) t c = true
    unfold placeB
    cases hs : ((emptyX N T.sys.cores.toNat []).slots[t]?).bind fun l => l[c]? with
    | none => rfl
    | some s =>
      rw [empty_slot hs]
      exact if_pos (.inl rfl)
  · intro t c ht hc; exact absurd hc (Nat.not_lt_zero _)
/-- A job in no ticks that is over breaks the third rule. -/
theorem empty_three {T : Tb} {N : Nat} {j : Jb} (h : tabB T = true) (hf : j.fin = (N : Int) + 1) : Fnd T (emptyX N T.sys.cores.toNat [j]) 3 0 0 := by
  refine .rule (r := 3) h (.inl ⟨rfl, rfl, rfl, empty_rows⟩) (by omega) (by omega) (fun r' k3 k7 => by omega) ⟨0, 0, ⟨by unfold ruleN; simp, Nat.lt_succ_self 0, ?_, fun c' hc => by omega, fun t' c' ht => by omega⟩, ?_⟩
  · show jobB T.sys (emptyX N T.sys.cores.toNat [j]) 0 = false
    rw [jobB_eq (j := j) rfl]
    have : jobHead T.sys.tasks.length (emptyX N T.sys.cores.toNat [j]).slots.length j = false := by
      unfold jobHead
      refine decide_eq_false (fun hh => ?_)
      have h1 := hh.2.2.2.2.1
      unfold emptyX at h1
      simp only [List.length_replicate] at h1
      omega
    rw [this]
    rfl
  · rw [if_pos (.inl rfl)]
    exact ⟨rfl, rfl⟩
end Go.Proofs.Ytmhochjpdedlgaa
