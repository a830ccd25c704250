/- Joined: Clear. -/
import Derived.Test.YtppildaahmlfmaaQ19
set_option linter.unusedVariables false
set_option linter.unusedSimpArgs false
/- 'clear' of the end of a row of parts that a call owns. -/
set_option linter.unusedVariables false
set_option linter.unusedSimpArgs false
namespace Go.Proofs.Ytppildaahmlfmaa
open Go.RowKit

theorem Try.zero_part (w : World) : (zeroValue 67).run Try.prog w = .ok (.agg #[.int .i64 0, .int .i64 0, .int .i64 0, .int .i64 0, .bool false, .int .i64 0, .int .i64 0]) w := by kernel_rfl
theorem zero_cells (z : Array Value) (n : Nat) (hz : ∀ v ∈ z, v.oneCell' = true) (h0 : 0 < z.size) : (Builtin.zeroCells z n).size = n * z.size ∧ ∀ v ∈ (Builtin.zeroCells z n).toList, v.oneCell' = true := by
  unfold Builtin.zeroCells
  refine ⟨by simp, fun v hv => ?_⟩
  simp at hv
  obtain ⟨i, _, rfl⟩ := hv
  have hlt : i % z.size < z.size := Nat.mod_lt _ h0
  rw [getElem!_pos z _ hlt]
  exact hz _ (Array.getElem_mem hlt)
section
variable {w : World} {base : Nat}
theorem run_clear_parts {ty : TypeId} {g i n c : Nat} {cur : Array Value} (hg : w.heap[g]? = some (.cells cur 67 (0, 0))) (hi : i < n) (hsz : n * 7 ≤ cur.size) :
    ∃ cur', (Builtin.clear_ #[61] ty #[.slice (some ⟨g, i * 7, none⟩) (n - i) c]).run Try.prog w = .ok (.tuple #[]) (w.setRow g cur') ∧ cur'.size = cur.size ∧ cur'.toList.take (i * 7) = cur.toList.take (i * 7) := by
  obtain ⟨m, hm⟩ : ∃ m, n - i = m + 1 := ⟨n - i - 1, by omega⟩
  rw [hm]
  obtain ⟨z1, z2⟩ := zero_cells #[.int .i64 0, .int .i64 0, .int .i64 0, .int .i64 0, .bool false, .int .i64 0, .int .i64 0] (m + 1) (by intro v hv; simp at hv; rcases hv with rfl | rfl | rfl <;> rfl) (by simp)
  have hlen : (Builtin.zeroCells #[.int .i64 0, .int .i64 0, .int .i64 0, .int .i64 0, .bool false, .int .i64 0, .int .i64 0] (m + 1)).toList.length = (m + 1) * 7 := by simpa using z1
  generalize hZ : Builtin.zeroCells #[.int .i64 0, .int .i64 0, .int .i64 0, .int .i64 0, .bool false, .int .i64 0, .int .i64 0] (m + 1) = ZC at *
  have hst := run_storeCells_at Try.prog g (i * 7) 67 ZC.toList 0 cur w hg (by rw [hlen]; omega) z2
  refine ⟨(cur.toList.take (i * 7 + 0) ++ ZC.toList ++ cur.toList.drop (i * 7 + 0 + ZC.toList.length)).toArray, ?_, ?_, ?_⟩
  · have hu := run_underlying Try.underlying61
    have hz := Try.zero_part w
    simp [Builtin.clear_, hu, hz, Value.cells, hZ, hst, Result.andThen]
  · simp only [List.size_toArray, List.length_append, List.length_take, List.length_drop, hlen, Array.length_toList]
    omega
  · simp only [Nat.add_zero, List.append_assoc]
    rw [List.take_append_of_le_length (by simp; omega), List.take_take, Nat.min_self]
end
end Go.Proofs.Ytppildaahmlfmaa
