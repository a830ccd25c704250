/- The document's queue: All, First (contracts). -/
import Derived.Test.YtbkjlohlfkokpaaSel
set_option linter.unusedVariables false
set_option linter.unusedSimpArgs false
namespace Go.Proofs.Ytbkjlohlfkokpaa
open Go.RowKit

def lenV : Value → Nat
  | .slice _ n _ => n
  | _ => 0
theorem rows_ne {w : World} {base base' : Nat} {e e' : TypeId} {s s' n n' : Nat} {v v' : Value} {xs xs' : List Value} (h1 : w.ownsRow base e s v n xs) (h2 : w.ownsRow base' e' s' v' n' xs') (hne : e ≠ e') : ∀ k, v.ownBlock = some k → v'.ownBlock ≠ some k := fun k hk hk' => by
  obtain ⟨C, hC⟩ := own_kind h1 hk
  obtain ⟨C', hC'⟩ := own_kind h2 hk'
  rw [hC] at hC'
  injection hC' with hC'
  injection hC' with _ h _
  exact hne h
section
variable {w w' : World} {base x : Nat} {v : Value} {policy : Int} {L : List Od}
set_option maxRecDepth 1000000 in
set_option maxHeartbeats 3200000 in
theorem r12_all (H : R12 w base x v policy L) (hok : ∀ p ∈ L, 0 ≤ p.t ∧ p.t < 24) (hm : L.length ≤ 24) :
    Calls Try.prog 65 #[.pointer (some ⟨x, 0, none⟩)] w fun e w' => ∃ u ts, e = .returned u ∧ Sel L ts ∧ w'.ownsRow w.heap.size 3 1 u ts.length (intCells ts) ∧ Below w.heap.size w w' := by
  have hrow := H.row
  obtain ⟨A, cap, rfl, c1⟩ := r12_len_cell H
  obtain ⟨m, hm2⟩ : ∃ m, L.length = m := ⟨_, rfl⟩
  rw [hm2] at c1 hrow hm
  have hsrc := own_src hrow
  have hl1 : (flat encO L).length = m * 4 := by rw [flat_length encO_len, hm2]
  obtain ⟨i0, hi, hz0, hz1, hz2⟩ := info_parts Try.info_od
  have HI := hid (And.intro hi (And.intro hz0 (And.intro hz1 hz2)))
  have HM := hid hm2
  have HOK := hid hok
  have hcap := own_cap hrow
  clear H hrow hok hm2
  go_enter Try.func65, Try.ntmps65
  go_wp2_with (at_builtin; refine append_src rfl _ _ 122 rfl w.heap.size 126 i0 _ 4 32 Try.underlying122 hi hz0 hz1 hz2 rfl (by decide) (.slice none 0 0) 0 [] rfl (World.ownsRow_nil _ _ _ _) A m cap (flat encO L) rfl hl1 hsrc (flat_one encO_one _) (by unfold maxLen; omega) (by omega) (Nat.le_refl _) ?_)
  intro v4 w1 hown1 hf1 hl4
  have hb1 : Below w.heap.size w w1 := hf1.to_below (fun x h => by cases h)
  have HO1 := hid hown1
  have HB1 := hid hb1
  clear hown1 hf1 hl4 hb1 hi hz0 hz1 hz2 hsrc hl1 c1 hcap
  go_wp2_with fail
  go_loopw [3, 4] (fun v3 v4 wr => ∃ (M : List Od) (o : List Int), Below w.heap.size w wr ∧ wr.ownsRow w.heap.size 126 4 v4 M.length (flat encO M) ∧ wr.ownsRow w.heap.size 3 1 v3 o.length (intCells o) ∧ Hid ((∀ ts, Sel M ts → Sel L (o ++ ts)) ∧ (∀ p ∈ M, 0 ≤ p.t ∧ p.t < 24) ∧ o.length + M.length ≤ 24)) (fun _ v4 _ => lenV v4)
  case atStart => exact ⟨L, [], HB1.out, by rw [HM.out]; exact HO1.out, World.ownsRow_nil _ _ _ _, hid ⟨fun ts h => h, HOK.out, by have := HM.out; simp; omega⟩⟩
  case round =>
    obtain ⟨M, o, hb, hM, ho, hS⟩ := hrel
    obtain ⟨A4, c4, rfl⟩ := own_slice hM
    obtain ⟨mm, hmm⟩ : ∃ mm, M.length = mm := ⟨_, rfl⟩
    rw [hmm] at hM ⊢
    have HMM := hid hmm
    have HB := hid hb
    have HROW := hid hM
    have HOUT := hid ho
    clear hb hM ho hmm
    rcases mm with _ | k
    · have hMn : M = [] := List.length_eq_zero_iff.1 HMM.out
      subst hMn
      have hsel := hS.out.1 [] Sel.nil
      rw [List.append_nil] at hsel
      have HSL := hid hsel
      clear hsel
      obtain ⟨A3, c3, e3⟩ := own_slice HOUT.out
      subst e3
      go_wp2_with fail
      go_ret
      exact ⟨_, o, rfl, HSL.out, HOUT.out, HB.out⟩
    · have hk24 : k + 1 ≤ 24 := by have := hS.out.2.2; have := HMM.out; omega
      obtain ⟨ws, hws⟩ : ∃ ws, ws = wr := ⟨_, rfl⟩
      subst hws
      go_wp2_with fail
      go_loopw [5, 6] (fun b i wr => ∃ (bb j : Nat), bb < k + 1 ∧ 1 ≤ j ∧ j ≤ k + 1 ∧ b = .int .i64 bb ∧ i = .int .i64 j ∧ Below ws.heap.size ws wr ∧ Hid (∀ q, M[bb]? = some q → ∀ n p, n < j → M[n]? = some p → keyO q ≤ keyO p)) (fun _ i _ => k + 1 - (intOf i).toNat)
      case atStart => exact ⟨0, 1, by omega, by omega, by omega, rfl, rfl, Below.refl _ _, hid (fun q hq n p hn hp => by
        obtain rfl : n = 0 := by omega
        rw [hq] at hp
        injection hp with hp
        rw [hp]
        exact Int.le_refl _)⟩
      case round =>
        obtain ⟨bb, j, hbb, hj1, hj2, rfl, rfl, hbi, hmin⟩ := hrel
        have HBI := hid hbi
        clear hbi
        by_cases hlt : j < k + 1
        · obtain ⟨y, hy⟩ : ∃ y, M[j]? = some y := ⟨_, List.getElem?_eq_getElem (by have := HMM.out; omega)⟩
          obtain ⟨q, hq⟩ : ∃ q, M[bb]? = some q := ⟨_, List.getElem?_eq_getElem (by have := HMM.out; omega)⟩
          have hrow2 := own_kept HROW.out (fr0 HBI.out) (fun _ _ h => h)
          obtain ⟨g, rfl, y0⟩ := row_cell (j := 0) encO_len hrow2 hy rfl
          obtain ⟨g1, e1, y1⟩ := row_cell (j := 1) encO_len hrow2 hy rfl
          obtain ⟨g2, e2, y2⟩ := row_cell (j := 2) encO_len hrow2 hy rfl
          obtain ⟨g3, e3, y3⟩ := row_cell (j := 3) encO_len hrow2 hy rfl
          cases e1
          cases e2
          cases e3
          obtain ⟨g0, e0, q0⟩ := row_cell (j := 0) encO_len hrow2 hq rfl
          obtain ⟨g1, e1, q1⟩ := row_cell (j := 1) encO_len hrow2 hq rfl
          obtain ⟨g2, e2, q2⟩ := row_cell (j := 2) encO_len hrow2 hq rfl
          obtain ⟨g3, e3, q3⟩ := row_cell (j := 3) encO_len hrow2 hq rfl
          cases e0
          cases e1
          cases e2
          cases e3
          simp only [Nat.add_zero] at y0 q0
          have hak := ahead_key (hS.out.2.1 y (List.mem_of_getElem? hy)) (hS.out.2.1 q (List.mem_of_getElem? hq))
          have HAK := hid hak
          obtain ⟨C, hC⟩ : ∃ C : World → Prop, ∀ W, C W ↔ Below wr.heap.size wr W := ⟨_, fun _ => Iff.rfl⟩
          have hcl : ∀ {p : Addr} {u : Value}, wr.cell? p = some u → Hid (∀ W, C W → W.cell? p = some u) := fun {p u} hc => hid (fun W hW => (((hC W).1 hW).cell (World.block_lt_of_cell? _ _ hc)).trans hc)
          have F0 := hcl y0
          have F1 := hcl y1
          have F2 := hcl y2
          have F3 := hcl y3
          have G0 := hcl q0
          have G1 := hcl q1
          have G2 := hcl q2
          have G3 := hcl q3
          have A1 := hid (fun W (hW : C W) => ((show Calls Try.prog 89 #[.agg #[.int .i64 y.t, .int .i64 y.r.own, .int .i64 y.r.up, .bool y.r.ra], .agg #[.int .i64 q.t, .int .i64 q.r.own, .int .i64 q.r.up, .bool q.r.ra]] W _ from r12_ahead (w := W) y q).mono fun e w' h => (show e = .returned (.bool (aheadB y q)) ∧ C w' from ⟨h.1, (hC w').2 (below_then ((hC W).1 hW) h.2)⟩)))
          have HC0 := hid ((hC wr.drew).2 (below_drewN' (Below.refl _ wr) 1))
          have HCB := hid (fun W (h : C W) => below_then HBI.out ((hC W).1 h))
          generalize aheadB y q = ab at *
          have HY := hid hy
          have HQ := hid hq
          clear hy hq hrow2 y0 y1 y2 y3 q0 q1 q2 q3 hak hcl hC
          have hjI : (j : Int) < (k : Int) + 1 := by omega
          have hbI : (bb : Int) < (k : Int) + 1 := by omega
          go_upto_region 9 with fail
          refine wp_region_class (C := C) (by kernel_rfl) (by kernel_rfl) (HC0.out) ?_
          refine wpQuiet_step (fun K hK => ?_)
          rw [if_pos (by rfl)]
          refine Exists.intro ?_ (And.intro (fun W HW => ?_) (hK _ ?_))
          rotate_left
          · ((go_simp); all_goals (with_reducible rfl))
          clear hK K
          try simp only [Act.put, List.setIfInBounds_toArray, List.set_cons_zero, List.set_cons_succ]
          refine wpQuiet_step (fun K hK => ?_)
          rw [if_pos (by rfl)]
          refine Exists.intro ?_ (And.intro (fun W HW => ?_) (hK _ ?_))
          rotate_left
          · ((go_simp); all_goals (with_reducible rfl))
          clear hK K
          try simp only [Act.put, List.setIfInBounds_toArray, List.set_cons_zero, List.set_cons_succ]
          refine wpQuiet_step (fun K hK => ?_)
          rw [if_pos (by rfl)]
          refine Exists.intro ?_ (And.intro (fun W HW => ?_) (hK _ ?_))
          rotate_left
          · ((go_simp); all_goals (with_reducible rfl))
          clear hK K
          try simp only [Act.put, List.setIfInBounds_toArray, List.set_cons_zero, List.set_cons_succ]
          refine wpQuiet_step (fun K hK => ?_)
          rw [if_pos (by rfl)]
          refine Exists.intro ?_ (And.intro (fun W HW => ?_) (hK _ ?_))
          rotate_left
          · (have q0 := F0.out W HW; have q1 := F1.out W HW; have q2 := F2.out W HW; have q3 := F3.out W HW; (go_simp); all_goals (with_reducible rfl))
          clear hK K
          try simp only [Act.put, List.setIfInBounds_toArray, List.set_cons_zero, List.set_cons_succ]
          refine wpQuiet_step (fun K hK => ?_)
          rw [if_pos (by rfl)]
          refine Exists.intro ?_ (And.intro (fun W HW => ?_) (hK _ ?_))
          rotate_left
          · ((go_simp); all_goals (with_reducible rfl))
          clear hK K
          try simp only [Act.put, List.setIfInBounds_toArray, List.set_cons_zero, List.set_cons_succ]
          refine wpQuiet_step (fun K hK => ?_)
          rw [if_pos (by rfl)]
          refine Exists.intro ?_ (And.intro (fun W HW => ?_) (hK _ ?_))
          rotate_left
          · ((go_simp); all_goals (with_reducible rfl))
          clear hK K
          try simp only [Act.put, List.setIfInBounds_toArray, List.set_cons_zero, List.set_cons_succ]
          refine wpQuiet_step (fun K hK => ?_)
          rw [if_pos (by rfl)]
          refine Exists.intro ?_ (And.intro (fun W HW => ?_) (hK _ ?_))
          rotate_left
          · ((go_simp); all_goals (with_reducible rfl))
          clear hK K
          try simp only [Act.put, List.setIfInBounds_toArray, List.set_cons_zero, List.set_cons_succ]
          refine wpQuiet_step (fun K hK => ?_)
          rw [if_pos (by rfl)]
          refine Exists.intro ?_ (And.intro (fun W HW => ?_) (hK _ ?_))
          rotate_left
          · (have q0 := G0.out W HW; have q1 := G1.out W HW; have q2 := G2.out W HW; have q3 := G3.out W HW; (go_simp); all_goals (with_reducible rfl))
          clear hK K
          try simp only [Act.put, List.setIfInBounds_toArray, List.set_cons_zero, List.set_cons_succ]
          refine wpQuiet_step (fun K hK => ?_)
          rw [if_pos (by rfl)]
          refine Exists.intro ?_ (And.intro (fun W HW => ?_) (hK _ ?_))
          rotate_left
          · (go_simp; exact A1.out W HW)
          clear hK K
          try simp only [Act.put, List.setIfInBounds_toArray, List.set_cons_zero, List.set_cons_succ]
          refine wpQuiet_nil ?_
          intro wd hCw
          have HBW := hid (HCB.out wd hCw)
          cases ab
          · have HMN := hid (show ∀ q', M[bb]? = some q' → ∀ n p, n < j + 1 → M[n]? = some p → keyO q' ≤ keyO p from fun q' hq' n p hn hp => by
              rcases Nat.lt_or_ge n j with h | h
              · exact hmin.out q' hq' n p h hp
              · obtain rfl : n = j := by omega
                rw [HY.out] at hp
                rw [HQ.out] at hq'
                injection hp with hp
                injection hq' with hq'
                have := of_decide_eq_false HAK.out.symm
                unfold keyO
                rw [← hp, ← hq']
                omega)
            clear hCw
            go_wp2_with fail
            go_roundw
            case rel => exact ⟨bb, j + 1, by omega, by omega, by omega, rfl, by go_num, HBW.out, HMN⟩
            case measure => simp [intOf]; omega
          · have HMN := hid (show ∀ q', M[j]? = some q' → ∀ n p, n < j + 1 → M[n]? = some p → keyO q' ≤ keyO p from fun q' hq' n p hn hp => by
              rw [HY.out] at hq'
              injection hq' with hq'
              have h5 := of_decide_eq_true HAK.out.symm
              rcases Nat.lt_or_ge n j with h | h
              · have := hmin.out q HQ.out n p h hp
                unfold keyO at *
                rw [← hq']
                omega
              · obtain rfl : n = j := by omega
                rw [HY.out] at hp
                injection hp with hp
                rw [← hp, ← hq']
                exact Int.le_refl _)
            clear hCw
            go_wp2_with fail
            go_roundw
            case rel => exact ⟨j, j + 1, by omega, by omega, by omega, rfl, by go_num, HBW.out, HMN⟩
            case measure => simp [intOf]; omega
        · obtain rfl : j = k + 1 := by omega
          obtain ⟨q, hq⟩ : ∃ q, M[bb]? = some q := ⟨_, List.getElem?_eq_getElem (by have := HMM.out; omega)⟩
          have hrow2 := own_kept HROW.out (fr0 HBI.out) (fun _ _ h => h)
          have hout2 := own_kept HOUT.out (fr0 HBI.out) (fun _ _ h => h)
          obtain ⟨g, rfl, q0⟩ := row_cell (j := 0) encO_len hrow2 hq rfl
          simp only [Nat.add_zero] at q0
          have HSEL := hid (show ∀ ts, Sel (M.eraseIdx bb) ts → Sel L ((o ++ [q.t]) ++ ts) from fun ts h => by
            rw [List.append_assoc]
            exact hS.out.1 _ (Sel.cons hq (fun p hp => by
              obtain ⟨n, hn⟩ := List.mem_iff_getElem?.1 hp
              exact hmin.out q hq n p (by have := (List.getElem?_eq_some_iff.1 hn).1; have := HMM.out; omega) hn) h))
          have HOK2 := hid (show ∀ p ∈ M.eraseIdx bb, 0 ≤ p.t ∧ p.t < 24 from fun p hp => hS.out.2.1 p (List.mem_of_mem_eraseIdx hp))
          have HEL := hid (show (M.eraseIdx bb).length = bb + (k + 1 - (bb + 1)) by rw [List.length_eraseIdx, HMM.out, if_pos hbb]; omega)
          have HER := hid (show flat encO (M.eraseIdx bb) = flat encO (M.take bb) ++ flat encO (M.drop (bb + 1)) by rw [← flat_append, List.eraseIdx_eq_take_drop_succ])
          have ho24 : o.length ≤ 24 := by have := hS.out.2.2; omega
          have HO24 := hid (show o.length + 1 + (bb + (k + 1 - (bb + 1))) ≤ 24 by have := hS.out.2.2; have := HMM.out; omega)
          have hwr := (below_then HB.out HBI.out)
          have hszr := hwr.size
          have HBR := hid hwr
          have HR2 := hid hrow2
          have HO2 := hid hout2
          have HONE := hid (And.intro (flat_one encO_one (M.take bb)) (flat_one encO_one (M.drop (bb + 1))))
          have hl1 : (flat encO (M.take bb)).length = bb * 4 := by rw [flat_length encO_len, List.length_take, HMM.out, Nat.min_eq_left (by omega)]
          have hl2 : (flat encO (M.drop (bb + 1))).length = (k + 1 - (bb + 1)) * 4 := by rw [flat_length encO_len, List.length_drop, HMM.out]
          have HTK := hid (flat_take encO_len M bb)
          have HDR := hid (flat_drop encO_len M (bb + 1))
          have HFL := hid (show (flat encO M).length = (k + 1) * 4 by rw [flat_length encO_len, HMM.out])
          generalize M.eraseIdx bb = M' at *
          obtain ⟨i1, hj, hy0, hy1, hy2⟩ := info_parts Try.info_int
          obtain ⟨hi, hz0, hz1, hz2⟩ := HI.out
          generalize flat encO (M.take bb) = fa at *
          generalize flat encO (M.drop (bb + 1)) = fb at *
          generalize q.t = qt at *
          clear hrow2 hwr hq
          go_wp2_with (at_builtin; refine append_new rfl _ _ 34 rfl w.heap.size 3 i1 _ 1 8 Try.underlying34 hj hy0 hy1 hy2 rfl (by decide) #[.int .i64 qt] u3 o.length (intCells o) rfl _ rfl rfl hout2 rfl (one_one _) (by unfold maxLen; omega) (by omega) hszr ?_)
          intro v5 w5 hown5 hf5 hl5
          have HROW5 := hid (own_kept HR2.out hf5 (fun b hb e => rows_ne HO2.out HR2.out (by decide) b e hb))
          have HB5 := hid (((Fr.of_below (S := NoB) HBR.out).trans hf5 (fun b hb => .inr (own_ge HO2.out b hb))).no)
          have HO5 := hid (show w5.ownsRow w.heap.size 3 1 v5 (o ++ [qt]).length (intCells (o ++ [qt])) by rw [int_snoc, List.length_append]; exact hown5)
          clear hown5 hf5 hl5 hout2 q0
          have hcap := own_cap HROW5.out
          have hsrc := own_src HROW5.out
          have hs1 : Src w5 (some ⟨g, 0, none⟩) fa := by rw [← HTK.out]; exact hsrc.take _
          have hs2 := Src.rest hsrc HFL.out hcap.1 (bb + 1)
          rw [HDR.out] at hs2
          have hc1 := hcap.1
          have hc2 : c4 ≤ 9223372036854775807 := by have := hcap.2; unfold maxLen at this; omega
          have hsz5 := HB5.out.size
          have HS2 := hid hs2
          obtain ⟨b1, hb1⟩ : ∃ b1, bb + 1 = b1 := ⟨_, rfl⟩
          rw [hb1] at HS2 hl2 HEL HO24
          have hwr1 : IntKind.i64.wrap ((bb : Int) + 1) = (b1 : Int) := by rw [wraps_i64 _ (by omega) (by omega)]; omega
          have hb1m : b1 ≤ k + 1 := by omega
          have HB1E := hid hb1
          clear hcap hsrc hs2 hb1
          obtain ⟨A5, c5, e5⟩ := own_slice HO5.out
          subst e5
          go_wp2_with (at_builtin; refine append_src rfl _ _ 122 rfl w.heap.size 126 i0 _ 4 32 Try.underlying122 hi hz0 hz1 hz2 rfl (by decide) (.slice none 0 0) 0 [] rfl (World.ownsRow_nil _ _ _ _) (some ⟨g, 0, none⟩) bb c4 fa rfl hl1 hs1 HONE.out.1 (by unfold maxLen; omega) (by omega) hsz5 ?_)
          intro v6 w6 hown6 hf6 hl6
          obtain ⟨A6, c6, rfl⟩ := own_slice hown6
          have hb6 : Below w5.heap.size w5 w6 := hf6.to_below (fun x h => by cases h)
          have HO6 := hid (own_kept HO5.out (fr0 hb6) (fun _ _ h => h))
          have hs6 := HS2.out.kept (fr0 hb6) (fun _ _ h => h)
          have HB6 := hid (below_then HB5.out hb6)
          have HV6 := hid hown6
          have hsz6 := HB6.out.size
          clear hf6 hl6 hb6 hs1 HROW5 HO5
          have hfin : ∀ (v7 : Value) (w7 : World), w7.ownsRow w.heap.size 126 4 v7 (bb + (k + 1 - b1)) (fa ++ fb) → Fr (fun k => (Value.slice A6 bb c6).ownBlock = some k) w6 w7 →
              Below w.heap.size w w7 ∧ w7.ownsRow w.heap.size 126 4 v7 M'.length (flat encO M') ∧ w7.ownsRow w.heap.size 3 1 (.slice A5 (o ++ [qt]).length c5) (o ++ [qt]).length (intCells (o ++ [qt])) := by
            intro v7 w7 h7 hf7
            refine ⟨((Fr.of_below (S := NoB) HB6.out).trans hf7 (fun b hb => .inr (own_ge HV6.out b hb))).no, ?_, own_kept HO6.out hf7 (fun b hb e => rows_ne HO6.out HV6.out (by decide) b hb e)⟩
            rw [HEL.out, HER.out]
            exact h7
          have HFIN := hid hfin
          have HDONE := hid (show (∀ ts, Sel M' ts → Sel L ((o ++ [qt]) ++ ts)) ∧ (∀ p ∈ M', 0 ≤ p.t ∧ p.t < 24) ∧ (o ++ [qt]).length + M'.length ≤ 24 from ⟨HSEL.out, HOK2.out, by rw [HEL.out, List.length_append]; exact HO24.out⟩)
          have hlm : M'.length < k + 1 := by rw [HEL.out]; have := HB1E.out; omega
          clear hfin
          by_cases hcs : c4 = b1
          · rw [if_pos hcs] at hs6
            obtain rfl : b1 = c4 := hcs.symm
            obtain rfl : b1 = k + 1 := by omega
            rw [Nat.sub_self] at hl2
            go_wp2_with (at_builtin; refine append_src rfl _ _ 122 rfl w.heap.size 126 i0 _ 4 32 Try.underlying122 hi hz0 hz1 hz2 rfl (by decide) (.slice A6 bb c6) bb _ rfl hown6 (some ⟨g, 0, none⟩) 0 0 fb rfl hl2 hs6 HONE.out.2 (by unfold maxLen; omega) (by omega) hsz6 ?_)
            intro v7 w7 hown7 hf7 hl7
            obtain ⟨h1, h2, h3⟩ := HFIN.out v7 w7 (by rw [Nat.sub_self]; exact hown7) hf7
            obtain ⟨A7, c7, e7⟩ := own_slice h2
            subst e7
            have H1 := hid h1
            have H2 := hid h2
            have H3 := hid h3
            clear hown7 hf7 hl7 h1 h2 h3 hown6 hs6
            go_wp2_with fail
            go_roundw
            case rel => exact ⟨M', o ++ [qt], H1.out, H2.out, by have h := H3.out; simp only [List.length_append, List.length_cons, List.length_nil] at h ⊢; exact h, HDONE⟩
            case measure => simp [lenV]; omega
          · rw [if_neg hcs] at hs6
            simp only [Option.map_some, add_off, Nat.zero_add] at hs6
            go_wp2_with (at_builtin; refine append_src rfl _ _ 122 rfl w.heap.size 126 i0 _ 4 32 Try.underlying122 hi hz0 hz1 hz2 rfl (by decide) (.slice A6 bb c6) bb _ rfl hown6 (some ⟨g, b1 * 4, none⟩) (k + 1 - b1) (c4 - b1) fb rfl hl2 hs6 HONE.out.2 (by unfold maxLen; omega) (by omega) hsz6 ?_)
            intro v7 w7 hown7 hf7 hl7
            obtain ⟨h1, h2, h3⟩ := HFIN.out v7 w7 hown7 hf7
            obtain ⟨A7, c7, e7⟩ := own_slice h2
            subst e7
            have H1 := hid h1
            have H2 := hid h2
            have H3 := hid h3
            clear hown7 hf7 hl7 h1 h2 h3 hown6 hs6
            go_wp2_with fail
            go_roundw
            case rel => exact ⟨M', o ++ [qt], H1.out, H2.out, by have h := H3.out; simp only [List.length_append, List.length_cons, List.length_nil] at h ⊢; exact h, HDONE⟩
            case measure => simp [lenV]; omega
end
end Go.Proofs.Ytbkjlohlfkokpaa
