/- Package ipi: the comparison that Take hands to the sort (contract). -/
import Derived.Test.YtbkjlohlfkokpaaIpi2
import Derived.Test.YtbkjlohlfkokpaaSort
import Derived.BigRegion
set_option linter.unusedVariables false
set_option linter.unusedSimpArgs false
namespace Go.Proofs.Ytbkjlohlfkokpaa
open Go.RowKit

section
variable {w w' : World} {b bm n : Nat} {f : Int × Int → Option (Int × Int)}
set_option maxRecDepth 100000 in
theorem MapP.look1 (H : MapP w bm n f) {p : Int × Int} (hw : pairW p) : (Instr.lookup 78 (.map (some bm)) (pairV p) false).run Try.prog w = .ok (pairV ((f p).getD (0, 0))) w := by
  obtain ⟨D, hown, hD⟩ := H
  obtain ⟨h1, h2⟩ := hD p _ (Try.key_mk hw)
  obtain ⟨v, ps, hrun, hv⟩ := hown.lookup Try.keyed_to Try.underlying78 (Try.zero_note w) (pairR_mk (0, 0)) (Try.key_mk hw)
  obtain ⟨q, rfl, hq⟩ := pairR_inv hv
  rw [h2] at hq
  injection hq with hq _
  rw [hrun, ← pairD_inj hq]
/-- cmp.Or of two. -/
theorem cmp_or {x y r : Int} {s : Nat} (hr : (if x = 0 then y else x) = r) (hb : w.heap[s]? = some (.cells #[.int .i64 x, .int .i64 y] 3 (0, 0))) :
    Calls Try.prog 69 #[.slice (some ⟨s, 0, none⟩) 2 2] w fun e w' => e = .returned (.int .i64 r) ∧ w' = w := by
  have k0 : w.cell? ⟨s, 0, none⟩ = some (.int .i64 x) := blk_cell hb 0
  have k1 : w.cell? ⟨s, 1, none⟩ = some (.int .i64 y) := blk_cell hb 1
  clear hb
  have HR := hid hr
  clear hr
  go_enter Try.func69, Try.ntmps69
  go_wp2_with fail
  refine wp_loop_rounds 3 ?_
  rw [rounds_succ]
  go_wp2_with fail
  · have h : x ≠ 0 := by simp_all
    go_ret
    exact ⟨ret_eq (int_eq (by rw [← HR.out, if_neg h])), rfl⟩
  · have h : x = 0 := by simp_all
    have HX := hid h
    clear h
    rw [rounds_succ]
    go_wp2_with fail
    · have h : y ≠ 0 := by simp_all
      go_ret
      exact ⟨ret_eq (int_eq (by rw [← HR.out, if_pos HX.out])), rfl⟩
    · have h : y = 0 := by simp_all
      have HY := hid h
      clear h
      rw [rounds_succ]
      go_wp2_with fail
      go_ret
      exact ⟨ret_eq (int_eq (by rw [← HR.out, if_pos HX.out, HY.out])), rfl⟩
/-- By the tick, and then by the turn. -/
def cmpN (p q : Int × Int) : Int := if Lib.compareInt p.1 q.1 = 0 then Lib.compareInt p.2 q.2 else Lib.compareInt p.1 q.1
/-- What stands in the two slots when both notes lie in blocks of their own. -/
def CutR (w : World) (p1 p2 q1 q2 : Int) (v7 v8 : Value) (wx : World) : Prop :=
  ∃ a7 a8, v7 = .pointer (some ⟨a7, 0, none⟩) ∧ v8 = .pointer (some ⟨a8, 0, none⟩) ∧ Grows w wx ∧ wx.heap[a7]? = some (.cells #[.int .i64 p1, .int .i64 p2] 87 (0, 0)) ∧ wx.heap[a8]? = some (.cells #[.int .i64 q1, .int .i64 q2] 87 (0, 0))
theorem cut_pq (w : World) (p1 p2 q1 q2 : Int) : CutR w p1 p2 q1 q2 (.pointer (some ⟨w.heap.size, 0, none⟩)) (.pointer (some ⟨w.heap.size + 1, 0, none⟩))
    ((w.alloc (.cells #[.int .i64 p1, .int .i64 p2] 87)).alloc (.cells #[.int .i64 q1, .int .i64 q2] 87)).drew := by
  refine ⟨_, _, rfl, rfl, (((Grows.refl w).alloc _).alloc _).drewN 1, blk_old (blk_new w _) _, ?_⟩
  have h := blk_new (w.alloc (.cells #[.int .i64 p1, .int .i64 p2] 87)) (.cells #[.int .i64 q1, .int .i64 q2] 87)
  have hs : (w.alloc (.cells #[.int .i64 p1, .int .i64 p2] 87)).heap.size = w.heap.size + 1 := by simp
  rw [hs] at h
  exact h
theorem cut_qp (w : World) (p1 p2 q1 q2 : Int) : CutR w p1 p2 q1 q2 (.pointer (some ⟨w.heap.size + 1, 0, none⟩)) (.pointer (some ⟨w.heap.size, 0, none⟩))
    ((w.alloc (.cells #[.int .i64 q1, .int .i64 q2] 87)).alloc (.cells #[.int .i64 p1, .int .i64 p2] 87)).drew := by
  obtain ⟨a, b, ha, hb, hg, h1, h2⟩ := cut_pq w q1 q2 p1 p2
  exact ⟨b, a, hb, ha, hg, h2, h1⟩
set_option maxRecDepth 100000 in
set_option maxHeartbeats 1600000 in
theorem take_cmp {B2 B3 : Nat} {core : Int} (h2 : w.cell? ⟨B2, 0, none⟩ = some (.pointer (some ⟨b, 0, none⟩))) (h3 : w.cell? ⟨B3, 0, none⟩ = some (.int .i64 core)) (c2 : w.cell? ⟨b, 2, none⟩ = some (.map (some bm)))
    (HM : MapP w bm n f) {x y : Int} (hx : pairW (core, x)) (hy : pairW (core, y)) :
    Calls Try.prog 68 #[.int .i64 x, .int .i64 y, .pointer (some ⟨B2, 0, none⟩), .pointer (some ⟨B3, 0, none⟩)] w fun e w' =>
      e = .returned (.int .i64 (cmpN ((f (core, x)).getD (0, 0)) ((f (core, y)).getD (0, 0)))) ∧ Grows w w' := by
  have F2 := hid (fun W (h : Grows w W) => h.cell h2)
  have F3 := hid (fun W (h : Grows w W) => h.cell h3)
  have FC := hid (fun W (h : Grows w W) => h.cell c2)
  have LX := hid (fun W (h : Grows w W) => (HM.kept (fr0 h.below) (fun h => h)).look1 hx)
  have LY := hid (fun W (h : Grows w W) => (HM.kept (fr0 h.below) (fun h => h)).look1 hy)
  obtain ⟨p, hp⟩ : ∃ p, (f (core, x)).getD (0, 0) = p := ⟨_, rfl⟩
  obtain ⟨q, hq⟩ : ∃ q, (f (core, y)).getD (0, 0) = q := ⟨_, rfl⟩
  rw [hp] at LX ⊢
  rw [hq] at LY ⊢
  obtain ⟨p1, p2⟩ := p
  obtain ⟨q1, q2⟩ := q
  simp only [pairV] at LX LY
  obtain ⟨r, hrr⟩ : ∃ r, cmpN (p1, p2) (q1, q2) = r := ⟨_, rfl⟩
  have HRR : Hid ((if Lib.compareInt p1 q1 = 0 then Lib.compareInt p2 q2 else Lib.compareInt p1 q1) = r) := by rw [← hrr]; exact hid rfl
  rw [hrr]
  clear hrr h2 h3 c2 HM hx hy hp hq
  go_enter Try.func68, Try.ntmps68
  go_upto_region 1 with fail
  go_cut [7, 8] (fun v7 v8 wx => CutR w p1 p2 q1 q2 v7 v8 wx)
  case first =>
    refine wp_region_held_drew (S := Grows w) (by kernel_rfl) (Grows.drew w) (fun hHeld => ?_)
    refine wpAnyH_take (i := 0) (oi := ?oi0) (v := ?v0) ?hi0 (by kernel_rfl) (by kernel_rfl) (by kernel_rfl) ?hq0 (Or.inl ⟨?wa0, ?hy0⟩) (by assumption) ?hr0
    case hi0 => (simp only [List.getElem?_toArray, List.getElem?_cons_succ, List.getElem?_cons_zero]; rfl)
    case wa0 => rfl
    case hy0 => ((intro w hSw; have q0 := F2.out w hSw; (try dsimp only at hSw); go_simp); all_goals (with_reducible rfl))
    case hq0 => exact fun _ _ _ h => h
    try simp only [Act.put, List.setIfInBounds_toArray, List.set_cons_zero, List.set_cons_succ]
    refine wpAnyH_take (i := 1) (oi := ?oi1) (v := ?v1) ?hi1 (by kernel_rfl) (by kernel_rfl) (by kernel_rfl) ?hq1 (Or.inl ⟨?wa1, ?hy1⟩) (by assumption) ?hr1
    case hi1 => (simp only [List.getElem?_toArray, List.getElem?_cons_succ, List.getElem?_cons_zero]; rfl)
    case wa1 => rfl
    case hy1 => ((intro w hSw; (try dsimp only at hSw); go_simp); all_goals (with_reducible rfl))
    case hq1 => exact fun _ _ _ h => h
    try simp only [Act.put, List.setIfInBounds_toArray, List.set_cons_zero, List.set_cons_succ]
    refine wpAnyH_take (i := 2) (oi := ?oi2) (v := ?v2) ?hi2 (by kernel_rfl) (by kernel_rfl) (by kernel_rfl) ?hq2 (Or.inl ⟨?wa2, ?hy2⟩) (by assumption) ?hr2
    case hi2 => (simp only [List.getElem?_toArray, List.getElem?_cons_succ, List.getElem?_cons_zero]; rfl)
    case wa2 => rfl
    case hy2 => ((intro w hSw; (try dsimp only at hSw); go_simp); all_goals (with_reducible rfl))
    case hq2 => exact fun _ _ _ h => h
    try simp only [Act.put, List.setIfInBounds_toArray, List.set_cons_zero, List.set_cons_succ]
    refine wpAnyH_take (i := 3) (oi := ?oi3) (v := ?v3) ?hi3 (by kernel_rfl) (by kernel_rfl) (by kernel_rfl) ?hq3 (Or.inl ⟨?wa3, ?hy3⟩) (by assumption) ?hr3
    case hi3 => (simp only [List.getElem?_toArray, List.getElem?_cons_succ, List.getElem?_cons_zero]; rfl)
    case wa3 => rfl
    case hy3 => ((intro w hSw; have q0 := FC.out w hSw; (try dsimp only at hSw); go_simp); all_goals (with_reducible rfl))
    case hq3 => exact fun _ _ _ h => h
    try simp only [Act.put, List.setIfInBounds_toArray, List.set_cons_zero, List.set_cons_succ]
    refine wpAnyH_take (i := 4) (oi := ?oi4) (v := ?v4) ?hi4 (by kernel_rfl) (by kernel_rfl) (by kernel_rfl) ?hq4 (Or.inl ⟨?wa4, ?hy4⟩) (by assumption) ?hr4
    case hi4 => (simp only [List.getElem?_toArray, List.getElem?_cons_succ, List.getElem?_cons_zero]; rfl)
    case wa4 => rfl
    case hy4 => ((intro w hSw; have q0 := F3.out w hSw; (try dsimp only at hSw); go_simp); all_goals (with_reducible rfl))
    case hq4 => exact fun _ _ _ h => h
    try simp only [Act.put, List.setIfInBounds_toArray, List.set_cons_zero, List.set_cons_succ]
    refine wpAnyH_take (i := 5) (oi := ?oi5) (v := ?v5) ?hi5 (by kernel_rfl) (by kernel_rfl) (by kernel_rfl) ?hq5 (Or.inl ⟨?wa5, ?hy5⟩) (by assumption) ?hr5
    case hi5 => (simp only [List.getElem?_toArray, List.getElem?_cons_succ, List.getElem?_cons_zero]; rfl)
    case wa5 => rfl
    case hy5 => ((intro w hSw; (try dsimp only at hSw); go_simp); all_goals (with_reducible rfl))
    case hq5 => exact fun _ _ _ h => h
    try simp only [Act.put, List.setIfInBounds_toArray, List.set_cons_zero, List.set_cons_succ]
    refine wpAnyH_take (i := 6) (oi := ?oi6) (v := ?v6) ?hi6 (by kernel_rfl) (by kernel_rfl) (by kernel_rfl) ?hq6 (Or.inl ⟨?wa6, ?hy6⟩) (by assumption) ?hr6
    case hi6 => (simp only [List.getElem?_toArray, List.getElem?_cons_succ, List.getElem?_cons_zero]; rfl)
    case wa6 => rfl
    case hy6 => ((intro w hSw; (try dsimp only at hSw); go_simp); all_goals (with_reducible rfl))
    case hq6 => exact fun _ _ _ h => h
    try simp only [Act.put, List.setIfInBounds_toArray, List.set_cons_zero, List.set_cons_succ]
    refine wpAnyH_take (i := 7) (oi := ?oi7) (v := ?v7) ?hi7 (by kernel_rfl) (by kernel_rfl) (by kernel_rfl) ?hq7 (Or.inl ⟨?wa7, ?hy7⟩) (by assumption) ?hr7
    case hi7 => (simp only [List.getElem?_toArray, List.getElem?_cons_succ, List.getElem?_cons_zero]; rfl)
    case wa7 => rfl
    case hy7 => ((intro w hSw; have q0 := LX.out w hSw; (try dsimp only at hSw); go_simp); all_goals (with_reducible rfl))
    case hq7 => exact fun _ _ _ h => h
    try simp only [Act.put, List.setIfInBounds_toArray, List.set_cons_zero, List.set_cons_succ]
    refine wpAnyH_take (i := 8) (oi := ?oi8) (v := ?v8) ?hi8 (by kernel_rfl) (by kernel_rfl) (by kernel_rfl) ?hq8 (Or.inl ⟨?wa8, ?hy8⟩) (by assumption) ?hr8
    case hi8 => (simp only [List.getElem?_toArray, List.getElem?_cons_succ, List.getElem?_cons_zero]; rfl)
    case wa8 => rfl
    case hy8 => ((intro w hSw; have q0 := F2.out w hSw; (try dsimp only at hSw); go_simp); all_goals (with_reducible rfl))
    case hq8 => exact fun _ _ _ h => h
    try simp only [Act.put, List.setIfInBounds_toArray, List.set_cons_zero, List.set_cons_succ]
    refine wpAnyH_take (i := 9) (oi := ?oi9) (v := ?v9) ?hi9 (by kernel_rfl) (by kernel_rfl) (by kernel_rfl) ?hq9 (Or.inl ⟨?wa9, ?hy9⟩) (by assumption) ?hr9
    case hi9 => (simp only [List.getElem?_toArray, List.getElem?_cons_succ, List.getElem?_cons_zero]; rfl)
    case wa9 => rfl
    case hy9 => ((intro w hSw; (try dsimp only at hSw); go_simp); all_goals (with_reducible rfl))
    case hq9 => exact fun _ _ _ h => h
    try simp only [Act.put, List.setIfInBounds_toArray, List.set_cons_zero, List.set_cons_succ]
    refine wpAnyH_take (i := 10) (oi := ?oi10) (v := ?v10) ?hi10 (by kernel_rfl) (by kernel_rfl) (by kernel_rfl) ?hq10 (Or.inl ⟨?wa10, ?hy10⟩) (by assumption) ?hr10
    case hi10 => (simp only [List.getElem?_toArray, List.getElem?_cons_succ, List.getElem?_cons_zero]; rfl)
    case wa10 => rfl
    case hy10 => ((intro w hSw; (try dsimp only at hSw); go_simp); all_goals (with_reducible rfl))
    case hq10 => exact fun _ _ _ h => h
    try simp only [Act.put, List.setIfInBounds_toArray, List.set_cons_zero, List.set_cons_succ]
    refine wpAnyH_take (i := 11) (oi := ?oi11) (v := ?v11) ?hi11 (by kernel_rfl) (by kernel_rfl) (by kernel_rfl) ?hq11 (Or.inl ⟨?wa11, ?hy11⟩) (by assumption) ?hr11
    case hi11 => (simp only [List.getElem?_toArray, List.getElem?_cons_succ, List.getElem?_cons_zero]; rfl)
    case wa11 => rfl
    case hy11 => ((intro w hSw; have q0 := FC.out w hSw; (try dsimp only at hSw); go_simp); all_goals (with_reducible rfl))
    case hq11 => exact fun _ _ _ h => h
    try simp only [Act.put, List.setIfInBounds_toArray, List.set_cons_zero, List.set_cons_succ]
    refine wpAnyH_take (i := 12) (oi := ?oi12) (v := ?v12) ?hi12 (by kernel_rfl) (by kernel_rfl) (by kernel_rfl) ?hq12 (Or.inl ⟨?wa12, ?hy12⟩) (by assumption) ?hr12
    case hi12 => (simp only [List.getElem?_toArray, List.getElem?_cons_succ, List.getElem?_cons_zero]; rfl)
    case wa12 => rfl
    case hy12 => ((intro w hSw; have q0 := F3.out w hSw; (try dsimp only at hSw); go_simp); all_goals (with_reducible rfl))
    case hq12 => exact fun _ _ _ h => h
    try simp only [Act.put, List.setIfInBounds_toArray, List.set_cons_zero, List.set_cons_succ]
    refine wpAnyH_take (i := 13) (oi := ?oi13) (v := ?v13) ?hi13 (by kernel_rfl) (by kernel_rfl) (by kernel_rfl) ?hq13 (Or.inl ⟨?wa13, ?hy13⟩) (by assumption) ?hr13
    case hi13 => (simp only [List.getElem?_toArray, List.getElem?_cons_succ, List.getElem?_cons_zero]; rfl)
    case wa13 => rfl
    case hy13 => ((intro w hSw; (try dsimp only at hSw); go_simp); all_goals (with_reducible rfl))
    case hq13 => exact fun _ _ _ h => h
    try simp only [Act.put, List.setIfInBounds_toArray, List.set_cons_zero, List.set_cons_succ]
    refine wpAnyH_take (i := 14) (oi := ?oi14) (v := ?v14) ?hi14 (by kernel_rfl) (by kernel_rfl) (by kernel_rfl) ?hq14 (Or.inl ⟨?wa14, ?hy14⟩) (by assumption) ?hr14
    case hi14 => (simp only [List.getElem?_toArray, List.getElem?_cons_succ, List.getElem?_cons_zero]; rfl)
    case wa14 => rfl
    case hy14 => ((intro w hSw; (try dsimp only at hSw); go_simp); all_goals (with_reducible rfl))
    case hq14 => exact fun _ _ _ h => h
    try simp only [Act.put, List.setIfInBounds_toArray, List.set_cons_zero, List.set_cons_succ]
    refine wpAnyH_take (i := 15) (oi := ?oi15) (v := ?v15) ?hi15 (by kernel_rfl) (by kernel_rfl) (by kernel_rfl) ?hq15 (Or.inl ⟨?wa15, ?hy15⟩) (by assumption) ?hr15
    case hi15 => (simp only [List.getElem?_toArray, List.getElem?_cons_succ, List.getElem?_cons_zero]; rfl)
    case wa15 => rfl
    case hy15 => ((intro w hSw; have q0 := LY.out w hSw; (try dsimp only at hSw); go_simp); all_goals (with_reducible rfl))
    case hq15 => exact fun _ _ _ h => h
    try simp only [Act.put, List.setIfInBounds_toArray, List.set_cons_zero, List.set_cons_succ]
    refine wpAnyH_ready (rs := [16, 17]) (by kernel_rfl) (by simp) ?_
    refine (AllReadyH.cons (i := 16) (o := ?o16) ?hi16 ?st16 (AllReadyH.cons (i := 17) (o := ?o17) ?hi17 ?st17 AllReadyH.nil))
    case hi16 => (simp only [List.getElem?_toArray, List.getElem?_cons_succ, List.getElem?_cons_zero]; rfl)
    case hi17 => (simp only [List.getElem?_toArray, List.getElem?_cons_succ, List.getElem?_cons_zero]; rfl)
    case st16 =>
      intro K hK
      go_simp
      go_wp2_with fail
      refine hK.out _ _ ?_ (fun hHeld => ?_)
      · first | exact Grows.drew w | exact ((Grows.refl w).alloc _).drewN 1 | exact (((Grows.refl w).alloc _).alloc _).drewN 1
      clear hK K
      try simp only [Act.put, List.setIfInBounds_toArray, List.set_cons_zero, List.set_cons_succ]
      refine wpAnyH_ready (rs := [17]) (by kernel_rfl) (by simp) ?_
      refine (AllReadyH.cons (i := 17) (o := ?o16_17) ?hi16_17 ?st16_17 AllReadyH.nil)
      case hi16_17 => (simp only [List.getElem?_toArray, List.getElem?_cons_succ, List.getElem?_cons_zero]; rfl)
      case st16_17 =>
        intro K hK
        go_simp
        go_wp2_with fail
        refine hK.out _ _ ?_ (fun hHeld => ?_)
        · first | exact Grows.drew w | exact ((Grows.refl w).alloc _).drewN 1 | exact (((Grows.refl w).alloc _).alloc _).drewN 1
        clear hK K
        try simp only [Act.put, List.setIfInBounds_toArray, List.set_cons_zero, List.set_cons_succ]
        refine wpAnyH_ready (rs := [18]) (by kernel_rfl) (by simp) ?_
        refine (AllReadyH.cons (i := 18) (o := ?o16_17_18) ?hi16_17_18 ?st16_17_18 AllReadyH.nil)
        case hi16_17_18 => (simp only [List.getElem?_toArray, List.getElem?_cons_succ, List.getElem?_cons_zero]; rfl)
        case st16_17_18 =>
          intro K hK
          go_simp
          go_wp2_with fail
          refine hK.out _ _ ?_ (fun hHeld => ?_)
          · first | exact Grows.drew w | exact ((Grows.refl w).alloc _).drewN 1 | exact (((Grows.refl w).alloc _).alloc _).drewN 1
          clear hK K
          try simp only [Act.put, List.setIfInBounds_toArray, List.set_cons_zero, List.set_cons_succ]
          refine wpAnyH_ready (rs := [19]) (by kernel_rfl) (by simp) ?_
          refine (AllReadyH.cons (i := 19) (o := ?o16_17_18_19) ?hi16_17_18_19 ?st16_17_18_19 AllReadyH.nil)
          case hi16_17_18_19 => (simp only [List.getElem?_toArray, List.getElem?_cons_succ, List.getElem?_cons_zero]; rfl)
          case st16_17_18_19 =>
            intro K hK
            go_simp
            go_wp2_with fail
            refine hK.out _ _ ?_ (fun hHeld => ?_)
            · first | exact Grows.drew w | exact ((Grows.refl w).alloc _).drewN 1 | exact (((Grows.refl w).alloc _).alloc _).drewN 1
            clear hK K
            try simp only [Act.put, List.setIfInBounds_toArray, List.set_cons_zero, List.set_cons_succ]
            refine wpAnyH_done (by kernel_rfl) ?_ _
            go_wp2_with fail
            go_meet
            exact cut_pq w p1 p2 q1 q2
    case st17 =>
      intro K hK
      go_simp
      go_wp2_with fail
      refine hK.out _ _ ?_ (fun hHeld => ?_)
      · first | exact Grows.drew w | exact ((Grows.refl w).alloc _).drewN 1 | exact (((Grows.refl w).alloc _).alloc _).drewN 1
      clear hK K
      try simp only [Act.put, List.setIfInBounds_toArray, List.set_cons_zero, List.set_cons_succ]
      refine wpAnyH_ready (rs := [16]) (by kernel_rfl) (by simp) ?_
      refine (AllReadyH.cons (i := 16) (o := ?o17_16) ?hi17_16 ?st17_16 AllReadyH.nil)
      case hi17_16 => (simp only [List.getElem?_toArray, List.getElem?_cons_succ, List.getElem?_cons_zero]; rfl)
      case st17_16 =>
        intro K hK
        go_simp
        go_wp2_with fail
        refine hK.out _ _ ?_ (fun hHeld => ?_)
        · first | exact Grows.drew w | exact ((Grows.refl w).alloc _).drewN 1 | exact (((Grows.refl w).alloc _).alloc _).drewN 1
        clear hK K
        try simp only [Act.put, List.setIfInBounds_toArray, List.set_cons_zero, List.set_cons_succ]
        refine wpAnyH_ready (rs := [18]) (by kernel_rfl) (by simp) ?_
        refine (AllReadyH.cons (i := 18) (o := ?o17_16_18) ?hi17_16_18 ?st17_16_18 AllReadyH.nil)
        case hi17_16_18 => (simp only [List.getElem?_toArray, List.getElem?_cons_succ, List.getElem?_cons_zero]; rfl)
        case st17_16_18 =>
          intro K hK
          go_simp
          go_wp2_with fail
          refine hK.out _ _ ?_ (fun hHeld => ?_)
          · first | exact Grows.drew w | exact ((Grows.refl w).alloc _).drewN 1 | exact (((Grows.refl w).alloc _).alloc _).drewN 1
          clear hK K
          try simp only [Act.put, List.setIfInBounds_toArray, List.set_cons_zero, List.set_cons_succ]
          refine wpAnyH_ready (rs := [19]) (by kernel_rfl) (by simp) ?_
          refine (AllReadyH.cons (i := 19) (o := ?o17_16_18_19) ?hi17_16_18_19 ?st17_16_18_19 AllReadyH.nil)
          case hi17_16_18_19 => (simp only [List.getElem?_toArray, List.getElem?_cons_succ, List.getElem?_cons_zero]; rfl)
          case st17_16_18_19 =>
            intro K hK
            go_simp
            go_wp2_with fail
            refine hK.out _ _ ?_ (fun hHeld => ?_)
            · first | exact Grows.drew w | exact ((Grows.refl w).alloc _).drewN 1 | exact (((Grows.refl w).alloc _).alloc _).drewN 1
            clear hK K
            try simp only [Act.put, List.setIfInBounds_toArray, List.set_cons_zero, List.set_cons_succ]
            refine wpAnyH_done (by kernel_rfl) ?_ _
            go_wp2_with fail
            go_meet
            exact cut_qp w p1 p2 q1 q2
  obtain ⟨a7, a8, rfl, rfl, hg, hb7, hb8⟩ := hcut
  have G70 := hid (fun W (h : Grows wc W) => h.cell (p := ⟨a7, 0, none⟩) (v := .int .i64 p1) (blk_cell hb7 0))
  have G71 := hid (fun W (h : Grows wc W) => h.cell (p := ⟨a7, 1, none⟩) (v := .int .i64 p2) (blk_cell hb7 1))
  have G80 := hid (fun W (h : Grows wc W) => h.cell (p := ⟨a8, 0, none⟩) (v := .int .i64 q1) (blk_cell hb8 0))
  have G81 := hid (fun W (h : Grows wc W) => h.cell (p := ⟨a8, 1, none⟩) (v := .int .i64 q2) (blk_cell hb8 1))
  have HG := hid hg
  have hr := HRR.out
  have HCI := hid (fun a b (W : World) => Try.cmp_Compare_int a b W)
  obtain ⟨r1, hr1⟩ : ∃ r, Lib.compareInt p1 q1 = r := ⟨_, rfl⟩
  obtain ⟨r2, hr2⟩ : ∃ r, Lib.compareInt p2 q2 = r := ⟨_, rfl⟩
  have HC1 : Hid (∀ W, Calls Try.prog 70 #[.int .i64 p1, .int .i64 q1] W fun e w' => e = .returned (.int .i64 r1) ∧ w' = W) := by rw [← hr1]; exact hid (fun W => HCI.out p1 q1 W)
  have HC2 : Hid (∀ W, Calls Try.prog 70 #[.int .i64 p2, .int .i64 q2] W fun e w' => e = .returned (.int .i64 r2) ∧ w' = W) := by rw [← hr2]; exact hid (fun W => HCI.out p2 q2 W)
  rw [hr1, hr2] at hr
  have HR := hid hr
  clear hg hb7 hb8 hr hr1 hr2 HCI F2 F3 FC LX LY
  go_upto_region 2 with fail
  refine wp_region_held_drew (S := Grows wc) (by kernel_rfl) (Grows.drew wc) (fun hHeld => ?_)
  refine wpAnyH_take (i := 0) (oi := ?oib0) (v := ?vb0) ?hib0 (by kernel_rfl) (by kernel_rfl) (by kernel_rfl) ?hqb0 (Or.inl ⟨?wab0, ?hyb0⟩) (by assumption) ?hrb0
  case hib0 => (simp only [List.getElem?_toArray, List.getElem?_cons_succ, List.getElem?_cons_zero]; rfl)
  case wab0 => rfl
  case hyb0 => ((intro w hSw; (try dsimp only at hSw); go_simp); all_goals (with_reducible rfl))
  case hqb0 => exact fun _ _ _ h => h
  try simp only [Act.put, List.setIfInBounds_toArray, List.set_cons_zero, List.set_cons_succ]
  refine wpAnyH_take (i := 1) (oi := ?oib1) (v := ?vb1) ?hib1 (by kernel_rfl) (by kernel_rfl) (by kernel_rfl) ?hqb1 (Or.inl ⟨?wab1, ?hyb1⟩) (by assumption) ?hrb1
  case hib1 => (simp only [List.getElem?_toArray, List.getElem?_cons_succ, List.getElem?_cons_zero]; rfl)
  case wab1 => rfl
  case hyb1 => ((intro w hSw; have q0 := G70.out w hSw; (try dsimp only at hSw); go_simp); all_goals (with_reducible rfl))
  case hqb1 => exact fun _ _ _ h => h
  try simp only [Act.put, List.setIfInBounds_toArray, List.set_cons_zero, List.set_cons_succ]
  refine wpAnyH_take (i := 2) (oi := ?oib2) (v := ?vb2) ?hib2 (by kernel_rfl) (by kernel_rfl) (by kernel_rfl) ?hqb2 (Or.inl ⟨?wab2, ?hyb2⟩) (by assumption) ?hrb2
  case hib2 => (simp only [List.getElem?_toArray, List.getElem?_cons_succ, List.getElem?_cons_zero]; rfl)
  case wab2 => rfl
  case hyb2 => ((intro w hSw; (try dsimp only at hSw); go_simp); all_goals (with_reducible rfl))
  case hqb2 => exact fun _ _ _ h => h
  try simp only [Act.put, List.setIfInBounds_toArray, List.set_cons_zero, List.set_cons_succ]
  refine wpAnyH_take (i := 3) (oi := ?oib3) (v := ?vb3) ?hib3 (by kernel_rfl) (by kernel_rfl) (by kernel_rfl) ?hqb3 (Or.inl ⟨?wab3, ?hyb3⟩) (by assumption) ?hrb3
  case hib3 => (simp only [List.getElem?_toArray, List.getElem?_cons_succ, List.getElem?_cons_zero]; rfl)
  case wab3 => rfl
  case hyb3 => ((intro w hSw; have q0 := G80.out w hSw; (try dsimp only at hSw); go_simp); all_goals (with_reducible rfl))
  case hqb3 => exact fun _ _ _ h => h
  try simp only [Act.put, List.setIfInBounds_toArray, List.set_cons_zero, List.set_cons_succ]
  refine wpAnyH_take (i := 5) (oi := ?oib5) (v := ?vb5) ?hib5 (by kernel_rfl) (by kernel_rfl) (by kernel_rfl) ?hqb5 (Or.inl ⟨?wab5, ?hyb5⟩) (by assumption) ?hrb5
  case hib5 => (simp only [List.getElem?_toArray, List.getElem?_cons_succ, List.getElem?_cons_zero]; rfl)
  case wab5 => rfl
  case hyb5 => ((intro w hSw; (try dsimp only at hSw); go_simp); all_goals (with_reducible rfl))
  case hqb5 => exact fun _ _ _ h => h
  try simp only [Act.put, List.setIfInBounds_toArray, List.set_cons_zero, List.set_cons_succ]
  refine wpAnyH_take (i := 6) (oi := ?oib6) (v := ?vb6) ?hib6 (by kernel_rfl) (by kernel_rfl) (by kernel_rfl) ?hqb6 (Or.inl ⟨?wab6, ?hyb6⟩) (by assumption) ?hrb6
  case hib6 => (simp only [List.getElem?_toArray, List.getElem?_cons_succ, List.getElem?_cons_zero]; rfl)
  case wab6 => rfl
  case hyb6 => ((intro w hSw; have q0 := G71.out w hSw; (try dsimp only at hSw); go_simp); all_goals (with_reducible rfl))
  case hqb6 => exact fun _ _ _ h => h
  try simp only [Act.put, List.setIfInBounds_toArray, List.set_cons_zero, List.set_cons_succ]
  refine wpAnyH_take (i := 7) (oi := ?oib7) (v := ?vb7) ?hib7 (by kernel_rfl) (by kernel_rfl) (by kernel_rfl) ?hqb7 (Or.inl ⟨?wab7, ?hyb7⟩) (by assumption) ?hrb7
  case hib7 => (simp only [List.getElem?_toArray, List.getElem?_cons_succ, List.getElem?_cons_zero]; rfl)
  case wab7 => rfl
  case hyb7 => ((intro w hSw; (try dsimp only at hSw); go_simp); all_goals (with_reducible rfl))
  case hqb7 => exact fun _ _ _ h => h
  try simp only [Act.put, List.setIfInBounds_toArray, List.set_cons_zero, List.set_cons_succ]
  refine wpAnyH_take (i := 8) (oi := ?oib8) (v := ?vb8) ?hib8 (by kernel_rfl) (by kernel_rfl) (by kernel_rfl) ?hqb8 (Or.inl ⟨?wab8, ?hyb8⟩) (by assumption) ?hrb8
  case hib8 => (simp only [List.getElem?_toArray, List.getElem?_cons_succ, List.getElem?_cons_zero]; rfl)
  case wab8 => rfl
  case hyb8 => ((intro w hSw; have q0 := G81.out w hSw; (try dsimp only at hSw); go_simp); all_goals (with_reducible rfl))
  case hqb8 => exact fun _ _ _ h => h
  try simp only [Act.put, List.setIfInBounds_toArray, List.set_cons_zero, List.set_cons_succ]
  refine wpAnyH_ready (rs := [4]) (by kernel_rfl) (by simp) ?_
  refine (AllReadyH.cons (i := 4) (o := ?ob4) ?hib4 ?stb4 AllReadyH.nil)
  case hib4 => (simp only [List.getElem?_toArray, List.getElem?_cons_succ, List.getElem?_cons_zero]; rfl)
  case stb4 =>
    intro K hK
    go_simp
    refine (HC1.out _).mono ?_
    rintro e w' ⟨rfl, rfl⟩
    go_wp2_with fail
    refine hK.out _ _ ?_ (fun hHeld => ?_)
    · first | exact Grows.drew wc | exact ((Grows.refl wc).alloc _).drewN 1
    clear hK K
    try simp only [Act.put, List.setIfInBounds_toArray, List.set_cons_zero, List.set_cons_succ]
    refine wpAnyH_ready (rs := [9]) (by kernel_rfl) (by simp) ?_
    refine (AllReadyH.cons (i := 9) (o := ?ob4_9) ?hib4_9 ?stb4_9 AllReadyH.nil)
    case hib4_9 => (simp only [List.getElem?_toArray, List.getElem?_cons_succ, List.getElem?_cons_zero]; rfl)
    case stb4_9 =>
      intro K hK
      go_simp
      refine (HC2.out _).mono ?_
      rintro e w' ⟨rfl, rfl⟩
      go_wp2_with fail
      refine hK.out _ _ ?_ (fun hHeld => ?_)
      · first | exact Grows.drew wc | exact ((Grows.refl wc).alloc _).drewN 1
      clear hK K
      try simp only [Act.put, List.setIfInBounds_toArray, List.set_cons_zero, List.set_cons_succ]
      refine wpAnyH_ready (rs := [10]) (by kernel_rfl) (by simp) ?_
      refine (AllReadyH.cons (i := 10) (o := ?ob4_9_10) ?hib4_9_10 ?stb4_9_10 AllReadyH.nil)
      case hib4_9_10 => (simp only [List.getElem?_toArray, List.getElem?_cons_succ, List.getElem?_cons_zero]; rfl)
      case stb4_9_10 =>
        intro K hK
        go_simp
        go_wp2_with fail
        refine hK.out _ _ ?_ (fun hHeld => ?_)
        · first | exact Grows.drew wc | exact ((Grows.refl wc).alloc _).drewN 1
        clear hK K
        try simp only [Act.put, List.setIfInBounds_toArray, List.set_cons_zero, List.set_cons_succ]
        refine wpAnyH_ready (rs := [11]) (by kernel_rfl) (by simp) ?_
        refine (AllReadyH.cons (i := 11) (o := ?ob4_9_10_11) ?hib4_9_10_11 ?stb4_9_10_11 AllReadyH.nil)
        case hib4_9_10_11 => (simp only [List.getElem?_toArray, List.getElem?_cons_succ, List.getElem?_cons_zero]; rfl)
        case stb4_9_10_11 =>
          intro K hK
          go_simp
          refine (cmp_or (w := (wc.alloc (.cells #[.int .i64 r1, .int .i64 r2] 3)).drew) (s := wc.heap.size) HR.out (blk_new wc _)).mono ?_
          rintro e w' ⟨rfl, rfl⟩
          go_wp2_with fail
          refine hK.out _ _ ?_ (fun hHeld => ?_)
          · first | exact Grows.drew wc | exact ((Grows.refl wc).alloc _).drewN 1
          clear hK K
          try simp only [Act.put, List.setIfInBounds_toArray, List.set_cons_zero, List.set_cons_succ]
          refine wpAnyH_ready (rs := [12]) (by kernel_rfl) (by simp) ?_
          refine (AllReadyH.cons (i := 12) (o := ?ob4_9_10_11_12) ?hib4_9_10_11_12 ?stb4_9_10_11_12 AllReadyH.nil)
          case hib4_9_10_11_12 => (simp only [List.getElem?_toArray, List.getElem?_cons_succ, List.getElem?_cons_zero]; rfl)
          case stb4_9_10_11_12 =>
            intro K hK
            go_simp
            go_wp2_with fail
            refine hK.out _ _ ?_ (fun hHeld => ?_)
            · first | exact Grows.drew wc | exact ((Grows.refl wc).alloc _).drewN 1
            clear hK K
            try simp only [Act.put, List.setIfInBounds_toArray, List.set_cons_zero, List.set_cons_succ]
            refine wpAnyH_done (by kernel_rfl) ?_ _
            go_wp2_with fail
            go_ret
            exact ⟨rfl, HG.out.trans (((Grows.refl wc).alloc _).drewN 1)⟩
end
end Go.Proofs.Ytbkjlohlfkokpaa
