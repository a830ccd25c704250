/- Joined: Clone. -/
import Derived.Test.YtppildaahmlfmaaQ22
import Derived.Lib.SliceRun
import Derived.Lib.Walk
set_option linter.unusedVariables false
set_option linter.unusedSimpArgs false
/- slices.Clone at a list of pieces (contract). -/
set_option linter.unusedVariables false
set_option linter.unusedSimpArgs false
namespace Go.Proofs.Ytppildaahmlfmaa
open Go.RowKit

theorem Rowp.pcCells {w : World} {b o n c : Nat} {q : List Pc} (h : Rowp 5 pcR w (.slice (some ⟨b, o, none⟩) n c) q) : ∀ j u, (flat encPc q)[j]? = some u → w.cell? ⟨b, o + j, none⟩ = some u := fun j u hj => by
  have hlt := (List.getElem?_eq_some_iff.1 hj).1
  rw [flat_length encPc_len] at hlt
  have h1 : j / 5 < q.length := by omega
  have h2 : j % 5 < 5 := Nat.mod_lt _ (by decide)
  have hx : q[j / 5]? = some q[j / 5] := List.getElem?_eq_getElem h1
  obtain ⟨b', o', cs, hA, _, _, hc, hr⟩ := h.at hx
  injection hA with hA
  injection hA with e1 e2
  subst e1
  subst e2
  have hf := flat_get encPc_len q (j / 5) (j % 5) _ hx h2
  rw [show j / 5 * 5 + j % 5 = j by omega] at hf
  rw [hf] at hj
  have hr' : cs = encPc q[j / 5] := hr
  rw [← hr'] at hj
  have := hc _ _ hj
  rwa [show o + j / 5 * 5 + j % 5 = o + j by omega] at this
section
variable {w : World}
set_option maxRecDepth 100000 in
set_option maxHeartbeats 1600000 in
theorem clone_any (q : List Pc) (A : Option Addr) (n c : Nat) (h : Rowp 5 pcR w (.slice A n c) q) (hn : n ≤ 1000) :
    Calls Try.prog 28 #[.slice A n c] w fun e w' => ∃ v', e = .returned v' ∧ w'.ownsRow w.heap.size 41 5 v' n (flat encPc q) ∧ Below w.heap.size w w' := by
  have hq := h.len
  have q22 : ∀ (w : World) (a : Option Addr) (n c n' c' : Nat), (binOp .eql 31 (.slice a n c) (.slice none n' c')).run Try.prog w = .ok (.bool a.isNone) w := fun w a n c n' c' => Lib.run_eql_slice_nil w _ _ a n c n' c' Try.underlying31
  obtain ⟨i0, hi, hz0, hz1, hz2⟩ := info_parts Try.info_piece
  cases A with
  | none =>
    have hl : q = [] := by
      cases q with
      | nil => rfl
      | cons p q =>
        obtain ⟨b, o, cs, hA, _⟩ := h.at (i := 0) (x := p) rfl
        cases hA
    subst hl
    simp at hq
    subst hq
    clear h hn
    go_enter Try.func28, Try.ntmps28
    go_wp2_with fail
    go_ret
    exact ⟨_, rfl, World.ownsRow_nil _ _ _ _, Below.refl _ _⟩
  | some ad =>
    obtain ⟨b, o, x⟩ := ad
    have hx : x = none ∨ q = [] := by
      cases q with
      | nil => exact .inr rfl
      | cons p q =>
        obtain ⟨b', o', cs, hA, _⟩ := h.at (i := 0) (x := p) rfl
        injection hA with hA
        injection hA with _ _ e
        exact .inl e
    have hcl : ∀ j u, (flat encPc q)[j]? = some u → w.cell? ((⟨b, o, x⟩ : Addr).add j) = some u := fun j u hj => by
      rcases hx with rfl | rfl
      · have hadd : (⟨b, o, none⟩ : Addr).add j = ⟨b, o + j, none⟩ := by unfold Addr.add; split <;> simp_all
        rw [hadd]
        exact h.pcCells j u hj
      · simp [flat] at hj
    have hlen : (flat encPc q).length = n * 5 := by rw [flat_length encPc_len, hq]
    have h1 : ∀ u ∈ flat encPc q, u.oneCell' = true := by
      intro u hu
      simp only [flat, List.mem_flatMap] at hu
      obtain ⟨p, _, hu⟩ := hu
      exact encPc_one p u hu
    generalize flat encPc q = news at *
    have HC := hid hcl
    clear h hq hx hcl
    go_enter Try.func28, Try.ntmps28
    go_wp2_with (at_builtin; refine wpList_append_own _ rfl _ _ 31 rfl w.heap.size 41 i0 _ 5 40 Try.underlying31 hi hz0 hz1 hz2 rfl (by decide) _ _ _ rfl (World.ownsRow_made w #[] 0 (Nat.le_refl _) (Nat.zero_le _) (by simp)) ⟨b, o, x⟩ n c news rfl ?qc1 ?qc2 ?qc3 ?qc4 ?qc5 ?qc6 ?_)
    case qc1 => exact hlen
    case qc2 => exact fun j u hj => Lib.cell?_alloc_some _ (HC.out j u hj)
    case qc3 => exact h1
    case qc4 => unfold maxLen; omega
    case qc5 => omega
    case qc6 => simp
    intro v' w1 hown hgrow hnil
    have HO := hid (show w1.ownsRow w.heap.size 41 5 v' n news by simpa using hown)
    have HB := hid (show Below w.heap.size w w1 from ((Below.refl _ w).alloc (Nat.le_refl _) _).grown hgrow (by simp) (by intro k hk; simp [Value.ownBlock] at hk; omega))
    obtain ⟨A', c', rfl⟩ := own_slice HO.out
    clear hown hgrow hnil
    go_wp2_with fail
    go_ret
    exact ⟨_, rfl, HO.out, HB.out⟩
end
end Go.Proofs.Ytppildaahmlfmaa
