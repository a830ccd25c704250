/- The document's locks: Holder, Has, Queue, Ask, Free (contracts). -/
import Derived.Test.YtcbpbgjngeemoaaRef13
import Derived.Test.YtcbpbgjngeemoaaRingDrops
set_option linter.unusedVariables false
set_option linter.unusedSimpArgs false
namespace Go.Proofs.Ytcbpbgjngeemoaa
open Go.RowKit
section
variable {w w' : World} {base x g : Nat} {vs : List Value} {Q : List (List Int)}
set_option maxHeartbeats 400000 in
theorem r13_holder (H : R13 w base x g vs Q) (res : Int) (h8 : Q.length ≤ 8) (hl : ∀ q ∈ Q, q.length < 4611686018427387904) :
    Calls Try.prog 51 #[.pointer (some ⟨x, 0, none⟩), .int .i64 res] w fun e w' => e = .returned (.int .i64 (holderQ Q res)) ∧ w' = w := by
  obtain ⟨n, hn⟩ : ∃ n, n = Q.length := ⟨_, rfl⟩
  have c0 : w.cell? ⟨x, 0, none⟩ = some (.slice (some ⟨g, 0, none⟩) n n) := by rw [blk_cell H.hx 0, hn]; rfl
  by_cases hr : 0 ≤ res ∧ res < (Q.length : Int)
  · obtain ⟨i, rfl⟩ : ∃ i : Nat, res = i := ⟨res.toNat, by omega⟩
    obtain ⟨q, hq⟩ : ∃ q, Q[i]? = some q := ⟨_, List.getElem?_eq_getElem (by omega)⟩
    obtain ⟨A, c, hv, hown, cg⟩ := H.row hq
    have hql := hl q (List.mem_of_getElem? hq)
    have e1 : holderQ Q i = headQ q := by unfold holderQ; rw [if_pos hr, List.getD_eq_getElem?_getD]; simp [hq]
    rw [e1]
    have hin : (i : Int) < (n : Int) := by omega
    cases q with
    | nil =>
      have cg : w.cell? ⟨g, i, none⟩ = some (.slice A 0 c) := cg
      clear H hn hr hq hv hown e1 hl hql
      go_enter Try.func51, Try.ntmps51
      go_wp2_with fail
      go_ret
      exact ⟨rfl, rfl⟩
    | cons y q' =>
      obtain ⟨m, hm⟩ : ∃ m, m = q'.length := ⟨_, rfl⟩
      obtain ⟨b1, o1, rfl, cy⟩ := own_holds hown 0 y rfl
      rw [Nat.add_zero] at cy
      rw [List.length_cons, ← hm] at cg hql
      have hmm : ((m : Int) + 1 == 0) = false := beq_eq_false_iff_ne.2 (by omega)
      clear H hn hr hq hv hown e1 hl hm
      go_enter Try.func51, Try.ntmps51
      go_wp2_with fail
      go_ret
      exact ⟨rfl, rfl⟩
  · have e1 : holderQ Q res = -1 := by unfold holderQ; rw [if_neg hr]
    rw [e1]
    by_cases h0 : res < 0
    · clear H hn hr e1 hl
      go_enter Try.func51, Try.ntmps51
      go_wp2_with fail
      go_ret
      exact ⟨rfl, rfl⟩
    · have h1 : (n : Int) ≤ res := by omega
      clear H hn hr e1 hl
      go_enter Try.func51, Try.ntmps51
      go_wp2_with fail
      go_ret
      exact ⟨rfl, rfl⟩
set_option maxHeartbeats 400000 in
theorem r13_has (H : R13 w base x g vs Q) (t : Int) (h8 : Q.length ≤ 8) (hl : ∀ q ∈ Q, q.length < 4611686018427387904) :
    Calls Try.prog 55 #[.pointer (some ⟨x, 0, none⟩), .int .i64 t] w fun e w' => e = .returned (.bool (hasQ Q t)) ∧ w' = w := by
  have HW := hid (r13_wants H t h8 hl)
  obtain ⟨n, hn⟩ : ∃ n, n = Q.length := ⟨_, rfl⟩
  have c0 : w.cell? ⟨x, 0, none⟩ = some (.slice (some ⟨g, 0, none⟩) n n) := by rw [blk_cell H.hx 0, hn]; rfl
  rcases wants_cases Q t with ⟨e1, _⟩ | ⟨i, q, e1, hq, hm⟩
  · have e2 := hid (show hasQ Q t = false by unfold hasQ; rw [e1]; rfl)
    rw [e1] at HW
    clear H e1 hl hn
    go_enter Try.func55, Try.ntmps55
    go_wp2_with fail
    refine HW.out.mono ?_
    rintro e w1 ⟨rfl, rfl⟩
    go_wp2_with fail
    go_ret
    exact ⟨ret_eq (by rw [e2.out]; rfl), rfl⟩
  · have hi := (List.getElem?_eq_some_iff.1 hq).1
    obtain ⟨A, c, hv, hown, cg⟩ := H.row hq
    have hql := hl q (List.mem_of_getElem? hq)
    cases q with
    | nil => cases hm
    | cons y q' =>
      obtain ⟨m, hm2⟩ : ∃ m, m = q'.length := ⟨_, rfl⟩
      obtain ⟨b1, o1, rfl, cy⟩ := own_holds hown 0 y rfl
      rw [Nat.add_zero] at cy
      rw [List.length_cons, ← hm2] at cg hql
      have hin : (i : Int) < (n : Int) := by omega
      have e2 := hid (show hasQ Q t = decide (y = t) by unfold hasQ; rw [e1, show holderQ Q i = y by unfold holderQ; rw [if_pos ⟨by omega, by omega⟩, List.getD_eq_getElem?_getD]; simp [hq, headQ]]; simp)
      rw [e1] at HW
      clear H hn hq hv hown e1 hl hm2 hm
      go_enter Try.func55, Try.ntmps55
      go_wp2_with fail
      refine HW.out.mono ?_
      rintro e w1 ⟨rfl, rfl⟩
      go_wp2_with fail
      go_ret
      exact ⟨ret_eq (by rw [e2.out]; rfl), rfl⟩
set_option maxRecDepth 100000 in
set_option maxHeartbeats 800000 in
theorem r13_queue (H : R13 w base x g vs Q) (res : Int) (h8 : Q.length ≤ 8) (hl : ∀ q ∈ Q, q.length < 100000) :
    Calls Try.prog 57 #[.pointer (some ⟨x, 0, none⟩), .int .i64 res] w fun e w' => ∃ v, e = .returned v ∧ Below w.heap.size w w' ∧ w'.ownsRow w.heap.size 3 1 v (queueQ Q res).length (intCells (queueQ Q res)) := by
  obtain ⟨n, hn⟩ : ∃ n, n = Q.length := ⟨_, rfl⟩
  have c0 : w.cell? ⟨x, 0, none⟩ = some (.slice (some ⟨g, 0, none⟩) n n) := by rw [blk_cell H.hx 0, hn]; rfl
  by_cases hr : 0 ≤ res ∧ res < (Q.length : Int)
  · obtain ⟨i, rfl⟩ : ∃ i : Nat, res = i := ⟨res.toNat, by omega⟩
    obtain ⟨q, hq⟩ : ∃ q, Q[i]? = some q := ⟨_, List.getElem?_eq_getElem (by omega)⟩
    obtain ⟨A, c, hv, hown, cg⟩ := H.row hq
    have hql := hl q (List.mem_of_getElem? hq)
    have e1 : queueQ Q i = q := by unfold queueQ; rw [if_pos hr, List.getD_eq_getElem?_getD]; simp [hq]
    rw [e1]
    have hin : (i : Int) < (n : Int) := by omega
    obtain ⟨i0, hi, hz0, hz1, hz2⟩ := info_parts Try.info_int
    cases q with
    | nil =>
      have hown0 := hown
      obtain ⟨m, hm⟩ : ∃ m : Nat, m = 0 := ⟨0, rfl⟩
      rw [show ([] : List Int).length = m from hm.symm] at cg
      rcases hown.2 with ⟨hvn, _⟩ | ⟨ga, ca, cua, hva, _⟩
      · cases hvn
        subst hm
        clear H hn hr hq hv hown hown0 e1 hl hql
        go_enter Try.func57, Try.ntmps57
        go_wp2_with fail
        go_ret
        exact ⟨_, rfl, Below.refl _ _, World.ownsRow_nil _ _ _ _⟩
      · cases hva
        subst hm
        clear H hn hr hq hv hown hown0 e1 hl hql
        go_enter Try.func57, Try.ntmps57
        go_wp2_with (at_builtin; refine wpList_append_own_at _ rfl _ _ 22 rfl w.heap.size 3 i0 _ 1 8 Try.underlying22 hi hz0 hz1 hz2 rfl (by decide) (.slice none 0 0) 0 [] rfl (World.ownsRow_nil _ _ _ _) ⟨ga, 0, none⟩ 0 c [] rfl rfl (fun j u hj => by simp at hj) (fun u hu => by simp at hu) (by decide) (by decide) (Nat.le_refl _) ?_)
        intro v' w1 hown1 hg1 _ _
        have HO := hid hown1
        have HB := hid (((Fr.refl NoB w).grown hg1 (fun k hk => by cases hk)).no)
        obtain ⟨A1, c1, rfl⟩ := own_slice hown1
        clear hown1 hg1
        go_wp2_with fail
        go_ret
        exact ⟨_, rfl, HB.out, HO.out⟩
    | cons y q' =>
      obtain ⟨ga, ca, cua, hva, _⟩ := own_shape hown (by simp)
      cases hva
      obtain ⟨m, hm⟩ : ∃ m, m = (y :: q').length := ⟨_, rfl⟩
      rw [← hm] at cg
      have hcells : ∀ j u, (intCells (y :: q'))[j]? = some u → w.cell? ((⟨ga, 0, none⟩ : Addr).add j) = some u := fun j u hj => by rw [add_off, Nat.zero_add]; exact own_cell0 hown hj
      have HC := hid hcells
      have HM := hid hm
      rw [← hm] at hql
      clear H hn hr hq hv hown e1 hl hm hcells
      go_enter Try.func57, Try.ntmps57
      go_wp2_with (at_builtin; refine wpList_append_own_at _ rfl _ _ 22 rfl w.heap.size 3 i0 _ 1 8 Try.underlying22 hi hz0 hz1 hz2 rfl (by decide) (.slice none 0 0) 0 [] rfl (World.ownsRow_nil _ _ _ _) ⟨ga, 0, none⟩ m c (intCells (y :: q')) rfl (by rw [HM.out]; simp [intCells]) HC.out (cells_one _) (by unfold maxLen; omega) (by omega) (Nat.le_refl _) ?_)
      intro v' w1 hown1 hg1 _ _
      have HO := hid hown1
      have HB := hid (((Fr.refl NoB w).grown hg1 (fun k hk => by cases hk)).no)
      obtain ⟨A1, c1, rfl⟩ := own_slice hown1
      clear hown1 hg1
      go_wp2_with fail
      go_ret
      refine ⟨_, rfl, HB.out, ?_⟩
      have hM : q'.length + 1 = m := HM.out.symm
      rw [hM]
      exact HO.out
  · have e1 : queueQ Q res = [] := by unfold queueQ; rw [if_neg hr]
    rw [e1]
    by_cases h0 : res < 0
    · have h00 : ¬ (0 ≤ res) := by omega
      clear H hn hr e1 hl
      go_enter Try.func57, Try.ntmps57
      go_wp2_with fail
      go_ret
      exact ⟨_, rfl, Below.refl _ _, World.ownsRow_nil _ _ _ _⟩
    · have h00 : 0 ≤ res := by omega
      have h1 : ¬ (res < (n : Int)) := by omega
      clear H hn hr e1 hl
      go_enter Try.func57, Try.ntmps57
      go_wp2_with fail
      go_ret
      exact ⟨_, rfl, Below.refl _ _, World.ownsRow_nil _ _ _ _⟩
end
end Go.Proofs.Ytcbpbgjngeemoaa
