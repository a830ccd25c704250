/- Joined: Exam22. -/
import Derived.Test.YtmhochjpdedlgaaQ49
import Derived.Test.YtmhochjpdedlgaaQ42
import Derived.Deep.RegionLaw
set_option linter.unusedVariables false
set_option linter.unusedSimpArgs false
/- Package tourbillonlaw22: examples (contract): they are so. -/
set_option linter.unusedVariables false
set_option linter.unusedSimpArgs false
namespace Go.Proofs.Ytmhochjpdedlgaa
open Go.RowKit Go.Shelf Go.Maps

/-- Two rows of two blocks. -/
def PwB (v v' : Value) : Prop := ∀ k, v.ownBlock = some k → v'.ownBlock ≠ some k
/-- One row more of two that are none the less apart. -/
theorem SG.put {w w1 : World} {base g cap : Nat} {vs : List Value} {Q : List (List Sl)} {i : Nat} {v v' : Value} {q' : List Sl} (h : SG w base (.slice (some ⟨g, 0, none⟩) vs.length cap) vs Q) (hp : vs.Pairwise PwB) (hi : vs[i]? = some v)
    (hF : Fr (fun k => v.ownBlock = some k) w w1) (ho : w1.ownsRow base 78 3 v' q'.length (flat encSl q')) (hv : v'.ownBlock = v.ownBlock ∨ v'.ownBlock = some w.heap.size ∨ v'.ownBlock = some (w.heap.size + 1)) :
    SG (w1.setCell ⟨g, i, none⟩ v') base (.slice (some ⟨g, 0, none⟩) vs.length cap) (vs.set i v') (Q.set i q') := by
  have hil := (List.getElem?_eq_some_iff.1 hi).1
  have hgl : g < w.heap.size := (h.out.lt g rfl).2
  have hvg : ∀ k, v.ownBlock = some k → k ≠ g := fun k hk e => h.apart v (List.mem_of_getElem? hi) k hk (by rw [e]; rfl)
  have ho1 := own_kept h.out hF (fun b hb e => hvg b e (by injection hb with hb; exact hb.symm))
  have hv'g : ∀ k, v'.ownBlock = some k → k ≠ g := fun k hk e => by
    rcases hv with h1 | h1 | h1
    · exact hvg k (by rw [← h1]; exact hk) e
    · rw [h1] at hk; injection hk with hk; omega
    · rw [h1] at hk; injection hk with hk; omega
  have hF2 : Fr (One g) w1 (w1.setCell ⟨g, i, none⟩ v') := (Fr.refl _ _).one i v'
  refine ⟨by rw [List.length_set]; exact own_set ho1 i v' (by omega), by simp [h.len], fun j x y hx hy => ?_, fun x hx k hk => ?_⟩
  · by_cases e : j = i
    · subst e
      rw [List.getElem?_set_self hil] at hx
      rw [List.getElem?_set_self (by have := h.len; omega)] at hy
      injection hx with hx
      injection hy with hy
      subst hx
      subst hy
      exact own_kept ho hF2 (fun k hk e => hv'g k hk e)
    · rw [List.getElem?_set_ne (fun h => e h.symm)] at hx hy
      refine own_kept (own_kept (h.rows j x y hx hy) hF (fun k hk e2 => ?_)) hF2 (fun k hk e2 => h.apart x (List.mem_of_getElem? hx) k hk (by rw [show k = g from e2]; rfl))
      obtain ⟨hjl, hje⟩ := List.getElem?_eq_some_iff.1 hx
      obtain ⟨_, hie⟩ := List.getElem?_eq_some_iff.1 hi
      rcases Nat.lt_or_gt_of_ne e with h1 | h1
      · have := List.pairwise_iff_getElem.1 hp j i hjl hil h1
        rw [hje, hie] at this
        exact this k hk e2
      · have := List.pairwise_iff_getElem.1 hp i j hil hjl h1
        rw [hje, hie] at this
        exact this k e2 hk
  · have h0 : k ≠ g := by
      rcases List.mem_or_eq_of_mem_set hx with h1 | h1
      · exact fun e => h.apart x h1 k hk (by rw [e]; rfl)
      · subst h1; exact hv'g k hk
    exact fun e => h0 (by have h1 : some g = some k := e; injection h1 with h1; exact h1.symm)
theorem ex_kind {i : Nat} (h : i < 6) : ∃ kd : Int, (#[Value.int .i64 1, .int .i64 1, .int .i64 1, .int .i64 2, .int .i64 2, .int .i64 1] : Array Value)[i]? = some (.int .i64 kd) ∧ exX.slots[i]? = some [⟨kd, 0, 0⟩] := by
  have : i = 0 ∨ i = 1 ∨ i = 2 ∨ i = 3 ∨ i = 4 ∨ i = 5 := by omega
  rcases this with rfl | rfl | rfl | rfl | rfl | rfl
  all_goals exact ⟨_, rfl, rfl⟩
theorem fr_own3 {w w2 : World} {D : Nat} (h : Below w.heap.size w w2) (hD : w.heap.size ≤ D) (v0 v1 v2 : Value) : Below w.heap.size w (((w2.setCell ⟨D, 0, none⟩ v0).setCell ⟨D, 1, none⟩ v1).setCell ⟨D, 2, none⟩ v2) :=
  ((Fr.of_below (S := NoB) h).trans ((((Fr.refl (One D) w2).one 0 v0).one 1 v1).one 2 v2) (fun x hx => .inr (by rw [show x = D from hx]; exact hD))).no
section
variable {w : World}
set_option maxRecDepth 100000 in
set_option maxHeartbeats 6400000 in
theorem examples22_any : Calls Try.prog 12 #[] w fun e w' => e = .returned (.bool true) ∧ Below w.heap.size w w' := by
  obtain ⟨i0, hi, hz0, hz1, hz2⟩ := info_parts Try.info_slots
  have q0 := blk_old (blk_new w (.cells #[.int .i64 1, .int .i64 1, .int .i64 1, .int .i64 2, .int .i64 2, .int .i64 1] 3)) (.cells #[.slice none 0 0, .slice none 0 0] 32)
  have q1 := blk_new (w.alloc (.cells #[.int .i64 1, .int .i64 1, .int .i64 1, .int .i64 2, .int .i64 2, .int .i64 1] 3)) (.cells #[.slice none 0 0, .slice none 0 0] 32)
  have hbe := below_new (below_new (Below.refl w.heap.size w) (.cells #[.int .i64 1, .int .i64 1, .int .i64 1, .int .i64 2, .int .i64 2, .int .i64 1] 3)) (.cells #[.slice none 0 0, .slice none 0 0] 32)
  simp only [show ∀ (w : World) o, (w.alloc o).heap.size = w.heap.size + 1 from fun w o => by simp] at q1
  go_enter Try.func12, Try.ntmps12
  go_upto_region 3 with fail
  generalize (w.alloc (.cells #[.int .i64 1, .int .i64 1, .int .i64 1, .int .i64 2, .int .i64 2, .int .i64 1] 3)).alloc (.cells #[.slice none 0 0, .slice none 0 0] 32) = w2 at *
  have HB2 := hid hbe
  have HQ0 := hid q0
  have HQ1 := hid q1
  clear hbe q0 q1
  go_wp2_with fail
  go_loopw [3] (fun v wr => ∃ (i : Nat) (u : Value) (vs : List Value), i ≤ 6 ∧ v = .int .i64 i ∧ Hid (SG wr (w.heap.size + 2) u vs (exX.slots.take i)) ∧ Hid (wr.heap[w.heap.size + 1]? = some (.cells #[u, .slice none 0 0] 32 (0, 0))) ∧ Hid (wr.heap[w.heap.size]? = some (.cells #[.int .i64 1, .int .i64 1, .int .i64 1, .int .i64 2, .int .i64 2, .int .i64 1] 3 (0, 0))) ∧ Hid (Below w.heap.size w wr) ∧ Hid (vs.Pairwise PwB)) (fun v _ => 6 - (intOf v).toNat)
  case atStart => exact ⟨0, _, [], by omega, rfl, hid (SG.nil _ _), HQ1, HQ0, HB2, hid List.Pairwise.nil⟩
  case round =>
    obtain ⟨i, u, vs, hi6, rfl, HG, HX, HK, HB, HPW⟩ := hrel
    by_cases hlt : i < 6
    case pos =>
      obtain ⟨kd, hkd, hsl⟩ := ex_kind hlt
      have hown := HG.out.out
      have hvl : vs.length = i := by have := HG.out.len; rw [List.length_take] at this; have : exX.slots.length = 6 := rfl; omega
      obtain ⟨Au, cu, rfl⟩ := own_slice hown
      rw [hvl] at hown HX HG
      have HOWN := hid hown
      have HSL := hid hsl
      have HVL := hid hvl
      have k0 : wr.cell? ⟨w.heap.size, i, none⟩ = some (.int .i64 kd) := (blk_cell HK.out i).trans hkd
      have k0d : wr.drew.cell? ⟨w.heap.size, i, none⟩ = some (.int .i64 kd) := k0
      have x0 : wr.cell? ⟨w.heap.size + 1, 0, none⟩ = some (.slice Au i cu) := blk_cell HX.out 0
      have x0d : wr.drew.cell? ⟨w.heap.size + 1, 0, none⟩ = some (.slice Au i cu) := x0
      have hXs : w.heap.size + 1 < wr.heap.size := blk_lt HX.out
      have x0a : (wr.alloc (.cells #[.int .i64 kd, .int .i64 0, .int .i64 0] 78)).cell? ⟨w.heap.size + 1, 0, none⟩ = some (.slice Au i cu) := blk_cell (blk_old HX.out _) 0
      have x0b : ((wr.alloc (.cells #[.int .i64 kd, .int .i64 0, .int .i64 0] 78)).alloc (.cells #[.slice (some ⟨wr.heap.size, 0, none⟩) 1 1] 42)).cell? ⟨w.heap.size + 1, 0, none⟩ = some (.slice Au i cu) := blk_cell (blk_old (blk_old HX.out _) _) 0
      have hneX : ∀ k, (Value.slice Au i cu).ownBlock = some k → k ≠ w.heap.size + 1 := fun k hk e => by have := (hown.lt k hk).1; omega
      have HNE := hid hneX
      clear hown hsl hkd hvl hneX
      go_upto_region 6 with fail
      go_region_law (first
        | (refine step_append_new (W := wr.drew.alloc (.cells #[.int .i64 kd, .int .i64 0, .int .i64 0] 78)) rfl (.tmp 13) (.tmp 20) 29 rfl (w.heap.size + 2) 42 i0 _ 1 24 Try.underlying29 hi hz0 hz1 hz2 rfl (by decide) #[.slice (some ⟨wr.heap.size, 0, none⟩) 1 1] (.slice Au i cu) i vs (by simp [Act.eval, Act.put]) (wr.heap.size + 1) (by simp [Act.eval, Act.put]) (by simp) (HOWN.out.alloc _) rfl (fun u hu => by simp at hu; subst hu; rfl) (by unfold maxLen; omega) (by omega) (by simp; omega) ?_
           intro v' w3 ho hf hv
           obtain ⟨A', c', rfl⟩ := own_slice ho
           have HO3 := hid ho
           have HF3 := hid hf
           have HV3 := hid hv
           have hr3 := hf.blk (blk_old HX.out _) (fun h => HNE.out _ h rfl)
           have g0 : w3.cell? ⟨w.heap.size + 1, 0, none⟩ = some (.slice Au i cu) := blk_cell hr3 0
           have zf0 : w3.frozen? ⟨w.heap.size + 1, 0, none⟩ = false := blk_free hr3 0
           clear ho hf hv hr3))
      all_goals
        have hg1 := HG.out.later (below_new (Below.refl wr.heap.size wr).drew (.cells #[.int .i64 kd, .int .i64 0, .int .i64 0] 78))
        have hv1 : (wr.drew.alloc (.cells #[.int .i64 kd, .int .i64 0, .int .i64 0] 78)).ownsRow (w.heap.size + 2) 78 3 (.slice (some ⟨wr.heap.size, 0, none⟩) 1 1) [(⟨kd, 0, 0⟩ : Sl)].length (flat encSl [(⟨kd, 0, 0⟩ : Sl)]) :=
          ⟨rfl, .inr ⟨wr.heap.size, 1, _, rfl, by omega, blk_new wr.drew _, Nat.le_refl _, by unfold maxLen; omega, rfl, rfl⟩⟩
        have hs3 := hg1.snoc hv1 (fun k hk e => by
          have h0 : some wr.heap.size = some k := hk
          injection h0 with h0
          have h1 := (HG.out.out.lt k e).2
          omega) (by rw [HVL.out]; exact HO3.out) HF3.out (HV3.out.elim .inl (fun h => .inr ⟨_, h, by simp⟩))
        rw [← take_next HSL.out] at hs3
        have hr3 := HF3.out.blk (blk_old HX.out (.cells #[.int .i64 kd, .int .i64 0, .int .i64 0] 78)) (fun h => HNE.out _ h rfl)
        have hk3 := HF3.out.blk (blk_old HK.out (.cells #[.int .i64 kd, .int .i64 0, .int .i64 0] 78)) (fun h => by have := (HOWN.out.lt _ h).1; omega)
        have hb3 := ((Fr.of_below (S := NoB) (below_new HB.out.drew (.cells #[.int .i64 kd, .int .i64 0, .int .i64 0] 78))).trans HF3.out (fun x hx => .inr (by have := (HOWN.out.lt x hx).1; omega))).no
        have hF4 := (Fr.refl (One (w.heap.size + 1)) w3).one 0 (.slice A' (i + 1) c')
        have HG4 := hid (hs3.kept hF4 (fun j hj e => by have h1 := (hs3.lt j hj).1; have h2 : j = w.heap.size + 1 := e; omega))
        have HX4 := hid (show (w3.setCell ⟨w.heap.size + 1, 0, none⟩ (.slice A' (i + 1) c')).heap[w.heap.size + 1]? = some (.cells #[.slice A' (i + 1) c', .slice none 0 0] 32 (0, 0)) from by have := blk_set hr3 0 (.slice A' (i + 1) c'); simpa using this)
        have HK4 := hid (hF4.blk hk3 (fun e => by have h2 : w.heap.size = w.heap.size + 1 := e; omega))
        have HB4 := hid (((Fr.of_below (S := NoB) hb3).trans hF4 (fun x hx => .inr (by rw [show x = w.heap.size + 1 from hx]; omega))).no)
        have HPW4 := hid (show (vs ++ [Value.slice (some ⟨wr.heap.size, 0, none⟩) 1 1]).Pairwise PwB from List.pairwise_append.2 ⟨HPW.out, List.pairwise_singleton _ _, fun v hv v' hv' k hk e => by
          simp at hv'
          subst hv'
          have h0 : some wr.heap.size = some k := e
          injection h0 with h0
          have h1 := (HG.out.lt k (.inr ⟨v, hv, hk⟩)).2
          omega⟩)
        clear hg1 hv1 hs3 hr3 hk3 hb3 hF4 k0 k0d x0 x0d x0a x0b g0 zf0
        go_wp2_with fail
        go_roundw
        case rel => exact ⟨i + 1, _, _, by omega, by go_num, HG4, HX4, HK4, HB4, HPW4⟩
        case measure => simp [intOf]; omega
    case neg =>
      obtain rfl : i = 6 := by omega
      have hvl : vs.length = 6 := by have := HG.out.len; rw [List.length_take] at this; have : exX.slots.length = 6 := rfl; omega
      have hown := HG.out.out
      obtain ⟨Au, cu, rfl⟩ := own_slice hown
      rw [hvl] at hown HX HG
      have hg := HG.out
      rw [show exX.slots.take 6 = exX.slots from rfl] at hg
      have hj1 := blk_new wr (.cells #[.int .i64 0, .int .i64 0, .int .i64 5, .bool true, .bool false] 45)
      have hx1 := blk_old HX.out (.cells #[.int .i64 0, .int .i64 0, .int .i64 5, .bool true, .bool false] 45)
      have hb1 := below_new HB.out (.cells #[.int .i64 0, .int .i64 0, .int .i64 5, .bool true, .bool false] 45)
      have hg1 := hg.later (below_new (Below.refl wr.heap.size wr) (.cells #[.int .i64 0, .int .i64 0, .int .i64 5, .bool true, .bool false] 45))
      have hXs : w.heap.size + 1 < wr.heap.size := blk_lt HX.out
      obtain ⟨w4, hw4⟩ : ∃ w4, w4 = wr.alloc (.cells #[.int .i64 0, .int .i64 0, .int .i64 5, .bool true, .bool false] 45) := ⟨_, rfl⟩
      obtain ⟨J, hJ⟩ : ∃ J, wr.heap.size = J := ⟨_, rfl⟩
      have x1 : (wr.alloc (.cells #[.int .i64 0, .int .i64 0, .int .i64 5, .bool true, .bool false] 45)).cell? ⟨w.heap.size + 1, 1, none⟩ = some (.slice none 0 0) := blk_cell hx1 1
      have z1 : (wr.alloc (.cells #[.int .i64 0, .int .i64 0, .int .i64 5, .bool true, .bool false] 45)).frozen? ⟨w.heap.size + 1, 1, none⟩ = false := blk_free hx1 1
      rw [← hw4] at hj1 hx1 hb1 hg1
      rw [hJ] at hj1
      have hF5 := (Fr.refl (One (w.heap.size + 1)) w4).one 1 (.slice (some ⟨J, 0, none⟩) 1 1)
      have hg5 := hg1.kept hF5 (fun j hj e => by have h1 := (hg1.lt j hj).1; have h2 : j = w.heap.size + 1 := e; omega)
      have hj5 := hF5.blk hj1 (fun e => by have h2 : J = w.heap.size + 1 := e; omega)
      have hx5 := blk_set hx1 1 (.slice (some ⟨J, 0, none⟩) 1 1)
      have hb5 := ((Fr.of_below (S := NoB) hb1).trans hF5 (fun x hx => .inr (by rw [show x = w.heap.size + 1 from hx]; omega))).no
      obtain ⟨w5, hw5⟩ : ∃ w5, w5 = w4.setCell ⟨w.heap.size + 1, 1, none⟩ (.slice (some ⟨J, 0, none⟩) 1 1) := ⟨_, rfl⟩
      rw [← hw5] at hg5 hj5 hx5 hb5
      have HG5 := hid hg5
      have HJ5 := hid hj5
      have HX5 := hid (show w5.heap[w.heap.size + 1]? = some (.cells #[.slice Au 6 cu, .slice (some ⟨J, 0, none⟩) 1 1] 32 (0, 0)) from by simpa using hx5)
      have HB5 := hid hb5
      have HTR5 := hid (show IsTr w5 (.slice Au 6 cu) (.slice (some ⟨J, 0, none⟩) 1 1) exX from ⟨hg5.plan, Rowp.built (fun j : Jb => [.int .i64 j.task, .int .i64 j.arr, .int .i64 j.fin, .bool j.cut, .bool j.miss]) _ 1 hj5 rfl rfl (fun x => rfl) (by decide) (by decide) (fun x hx => rfl)⟩)
      rw [hw4] at hw5
      have HW5 := hid hw5
      have HJS := hid hJ
      have HLTJ := hid (show ∀ k, SGSet (.slice Au 6 cu) vs k → k < J from fun k hk => by have h1 := (HG.out.lt k hk).2; omega)
      have HVL6 := hid hvl
      clear hown hg hj1 hx1 hb1 hg1 hw4 hF5 hg5 hj5 hx5 hb5 hw5 HG HX HK HB hXs
      go_upto_region 8 with fail
      rw [← HW5.out]
      obtain ⟨XB, hXB⟩ : ∃ XB, XB = w.heap.size + 1 := ⟨_, rfl⟩
      rw [← hXB] at HX5 ⊢
      have x50 : w5.cell? ⟨XB, 0, none⟩ = some (.slice Au 6 cu) := blk_cell HX5.out 0
      have x51 : w5.cell? ⟨XB, 1, none⟩ = some (.slice (some ⟨J, 0, none⟩) 1 1) := blk_cell HX5.out 1
      have hXl : XB < w5.heap.size := blk_lt HX5.out
      have HXB := hid hXB
      clear x1 z1 hXB hJ
      go_cut [4] (fun v wx => ∃ D, v = .pointer (some ⟨D, 0, none⟩) ∧ w5.heap.size ≤ D ∧ Hid (wx.heap[D]? = some (.cells #[.int .i64 0, .int .i64 (-1), .int .i64 (-1)] 35 (0, 0))) ∧ Hid (Below w5.heap.size w5 wx))
      case first =>
        go_region_with (first
          | (go_at_call 32
             refine only_any.mono ?_
             rintro e W1 ⟨A0, n0, c0, A1, n1, c1, A3, n3, c3, rfl, htab, hb1⟩
             have hbw : Below w5.heap.size w5 W1 := by first | exact below_then (Below.refl w5.heap.size w5).drew hb1 | exact below_then (below_new (Below.refl w5.heap.size w5).drew (.cells #[.int .i64 0, .int .i64 0, .int .i64 0] 35)) hb1
             have y0 : W1.cell? ⟨XB, 0, none⟩ = some (.slice Au 6 cu) := (hbw.cell (p := ⟨XB, 0, none⟩) hXl).trans x50
             have y1 : W1.cell? ⟨XB, 1, none⟩ = some (.slice (some ⟨J, 0, none⟩) 1 1) := (hbw.cell (p := ⟨XB, 1, none⟩) hXl).trans x51
             have hXl1 : XB < W1.heap.size := Nat.lt_of_lt_of_le hXl hbw.size
             have HBW := hid hbw
             have HTAB := hid htab
             try have HD1 : Hid (W1.heap[w5.heap.size]? = some (.cells #[.int .i64 0, .int .i64 0, .int .i64 0] 35 (0, 0))) := (fr0 hb1).blk (blk_new w5.drew (.cells #[.int .i64 0, .int .i64 0, .int .i64 0] 35)) (fun h => h)
             clear hb1 htab hbw)
          | (go_at_call 13
             refine (check_any exT exX A0 n0 c0 A1 n1 c1 A3 n3 c3 Au 6 cu (some ⟨J, 0, none⟩) 1 1 ?_ ?_ ?_ ?_ ?_ ?_).mono ?_
             · first
                 | exact HTAB.out
                 | exact HTAB.out.later (below_new (Below.refl _ _) _)
             · first
                 | exact HTR5.out.later HBW.out
                 | exact HTR5.out.later (below_new HBW.out _)
             · have h1 := HTAB.out.ents.len
               have h2 : exT.ents.length = 1 := rfl
               omega
             · omega
             · omega
             · intro y hy
               simp [exX] at hy
               subst hy
               unfold I64
               decide
             rintro e W2 ⟨r, t, c, rfl, hf, hb2⟩
             obtain ⟨rfl, rfl, rfl⟩ := hf.uniq ex_fnd
             have hbw2 : Below w5.heap.size w5 W2 := by first | exact below_then HBW.out hb2 | exact below_then (below_new HBW.out (.cells #[.int .i64 0, .int .i64 0, .int .i64 0] 35)) hb2
             have HBW2 := hid hbw2
             first
               | (have HD2 : Hid (W2.heap[w5.heap.size]? = some (.cells #[.int .i64 0, .int .i64 0, .int .i64 0] 35 (0, 0))) := (fr0 hb2).blk HD1.out (fun h => h)
                  have d0 : W2.cell? ⟨w5.heap.size, 0, none⟩ = some (.int .i64 0) := blk_cell HD2.out 0
                  have d1 : W2.cell? ⟨w5.heap.size, 1, none⟩ = some (.int .i64 0) := blk_cell HD2.out 1
                  have d2 : W2.cell? ⟨w5.heap.size, 2, none⟩ = some (.int .i64 0) := blk_cell HD2.out 2
                  have df : ∀ k, W2.frozen? ⟨w5.heap.size, k, none⟩ = false := fun k => blk_free HD2.out k)
               | (have HD2 : Hid (W2.heap[W1.heap.size]? = some (.cells #[.int .i64 0, .int .i64 0, .int .i64 0] 35 (0, 0))) := (fr0 hb2).blk (blk_new W1 (.cells #[.int .i64 0, .int .i64 0, .int .i64 0] 35)) (fun h => h)
                  have d0 : W2.cell? ⟨W1.heap.size, 0, none⟩ = some (.int .i64 0) := blk_cell HD2.out 0
                  have d1 : W2.cell? ⟨W1.heap.size, 1, none⟩ = some (.int .i64 0) := blk_cell HD2.out 1
                  have d2 : W2.cell? ⟨W1.heap.size, 2, none⟩ = some (.int .i64 0) := blk_cell HD2.out 2
                  have df : ∀ k, W2.frozen? ⟨W1.heap.size, k, none⟩ = false := fun k => blk_free HD2.out k)
               | skip
             clear hb2 hbw2 hf))
        all_goals
          go_wp2_with fail
          go_meet
          first
            | exact ⟨_, rfl, HBW2.out.size, hid (blk_new W2 _), hid (below_new HBW2.out _)⟩
            | exact ⟨_, rfl, Nat.le_refl _, hid (by simpa using blk_set (blk_set (blk_set HD2.out 0 (.int .i64 0)) 1 (.int .i64 (-1))) 2 (.int .i64 (-1))), hid (fr_own3 HBW2.out (Nat.le_refl _) _ _ _)⟩
            | exact ⟨_, rfl, HBW.out.size, hid (by simpa using blk_set (blk_set (blk_set HD2.out 0 (.int .i64 0)) 1 (.int .i64 (-1))) 2 (.int .i64 (-1))), hid (fr_own3 HBW2.out HBW.out.size _ _ _)⟩
      obtain ⟨D, rfl, hD, HFD, HBc⟩ := hcut
      obtain ⟨wp, hwp⟩ : ∃ x, x = wc := ⟨_, rfl⟩
      subst hwp
      have x60 : wp.cell? ⟨XB, 0, none⟩ = some (.slice Au 6 cu) := (HBc.out.cell (p := ⟨XB, 0, none⟩) hXl).trans x50
      have x61 : wp.cell? ⟨XB, 1, none⟩ = some (.slice (some ⟨J, 0, none⟩) 1 1) := (HBc.out.cell (p := ⟨XB, 1, none⟩) hXl).trans x51
      have HWK := hid (work_any (w := wp) exX Au 6 cu (some ⟨J, 0, none⟩) 1 1 0 (HTR5.out.later HBc.out) (by omega))
      unfold trV at HWK
      clear x50 x51
      go_wp2_with fail
      refine HWK.out.mono ?_
      rintro e w7 ⟨u, rfl, ho, hb7⟩
      rw [ex_work] at ho
      replace ho : w7.ownsRow wp.heap.size 3 1 u 2 (intCells [3, 4]) := ho
      obtain ⟨Aw, cw, rfl⟩ := own_slice ho
      have HOW := hid ho
      have HB7 := hid (below_then HBc.out hb7)
      have HFD7 := hid ((fr0 hb7).blk HFD.out (fun h => h))
      clear ho hb7 x60 x61
      obtain ⟨i1, hi1, hy0, hy1, hy2⟩ := info_parts Try.info_slot
      have hg7 := HG5.out.later HB7.out
      have hvl := HVL6.out
      obtain ⟨g, cap, cur, he, hge, _, _⟩ := own_shape hg7.out (by omega)
      injection he with e1 e2 e3
      subst e1
      subst e3
      obtain ⟨v, hv⟩ : ∃ v, vs[2]? = some v := ⟨_, List.getElem?_eq_getElem (by omega)⟩
      have hvr := hg7.rows 2 v _ hv rfl
      obtain ⟨g2, cap2, cur2, rfl, hge2, _, _⟩ := own_shape hvr (by decide)
      have hg2J := HLTJ.out g2 (.inr ⟨_, List.mem_of_getElem? hv, rfl⟩)
      have hgJ := HLTJ.out g (.inl rfl)
      have hJ5 : J < w5.heap.size := blk_lt HJ5.out
      have hXl7 : XB < w7.heap.size := Nat.lt_of_lt_of_le hXl HB7.out.size
      have hgl7 : g < w7.heap.size := (hg7.out.lt g rfl).2
      have hxb : XB = w.heap.size + 1 := HXB.out
      have hXg : XB ≠ g := by omega
      have hXg2 : XB ≠ g2 := by omega
      have hgg2 : g ≠ g2 := fun e => hg7.apart _ (List.mem_of_getElem? hv) g2 rfl (by rw [e]; rfl)
      have hxb7 := (fr0 HB7.out).blk HX5.out (fun h => h)
      have hgo : w7.ownsRow (w.heap.size + 2) 42 1 (.slice (some ⟨g, 0, none⟩) 6 cu) 6 vs := by have h1 := hg7.out; rw [HVL6.out] at h1; exact h1
      have HGO := hid (show w7.drew.ownsRow (w.heap.size + 2) 42 1 (.slice (some ⟨g, 0, none⟩) 6 cu) 6 vs from hgo)
      have c2 : w7.cell? ⟨g, 2, none⟩ = some (.slice (some ⟨g2, 0, none⟩) 1 cap2) := own_cell0 hgo hv
      have x0 : w7.cell? ⟨XB, 0, none⟩ = some (.slice (some ⟨g, 0, none⟩) 6 cu) := blk_cell hxb7 0
      have c2d : w7.drew.cell? ⟨g, 2, none⟩ = some (.slice (some ⟨g2, 0, none⟩) 1 cap2) := c2
      have x0d : w7.drew.cell? ⟨XB, 0, none⟩ = some (.slice (some ⟨g, 0, none⟩) 6 cu) := x0
      have HG7 := hid (hg7.later (Below.refl w7.heap.size w7).drew)
      have HOV := hid (show w7.drew.ownsRow (w.heap.size + 2) 78 3 (.slice (some ⟨g2, 0, none⟩) 1 cap2) 1 (flat encSl [(⟨1, 0, 0⟩ : Sl)]) from hvr)
      have HVI := hid hv
      have HXB7 := hid hxb7
      have HVL := hid hvl
      have HNN := hid (⟨hge, hge2, hg2J, hgJ, hJ5, hgg2⟩ : w.heap.size + 2 ≤ g ∧ w.heap.size + 2 ≤ g2 ∧ g2 < J ∧ g < J ∧ J < w5.heap.size ∧ g ≠ g2)
      have hsz7 : w.heap.size + 2 ≤ w7.heap.size := by omega
      clear e2 hgo hg7 hv hvr hxb hxb7 hge hge2 hg2J hgJ hJ5 hvl
      go_upto_region 10 with fail
      go_cut [5] (fun v wx => ∃ vs' : List Value, v = .slice Aw 2 cw ∧ Hid (SG wx (w.heap.size + 2) (.slice (some ⟨g, 0, none⟩) 6 cu) vs' exX2.slots) ∧ Hid (wx.heap[XB]? = some (.cells #[.slice (some ⟨g, 0, none⟩) 6 cu, .slice (some ⟨J, 0, none⟩) 1 1] 32 (0, 0))) ∧ Hid (wx.heap[J]? = some (.cells #[.int .i64 0, .int .i64 0, .int .i64 5, .bool true, .bool false] 45 (0, 0))) ∧ Hid (wx.heap[D]? = some (.cells #[.int .i64 0, .int .i64 (-1), .int .i64 (-1)] 35 (0, 0))) ∧ Hid (wx.ownsRow wp.heap.size 3 1 (.slice Aw 2 cw) 2 (intCells [3, 4])) ∧ Hid (Below w.heap.size w wx))
      case first =>
        go_region_law (first
          | (refine step_append_new (W := w7.drew) rfl (.tmp 36) (.tmp 38) 42 rfl (w.heap.size + 2) 78 i1 _ 3 24 Try.underlying42 hi1 hy0 hy1 hy2 rfl (by decide) #[.int .i64 2, .int .i64 0, .int .i64 0] (.slice (some ⟨g2, 0, none⟩) 1 cap2) 1 (flat encSl [(⟨1, 0, 0⟩ : Sl)]) (by simp [Act.eval, Act.put]) w7.heap.size (by simp [Act.eval, Act.put]) rfl HOV.out rfl (fun u hu => by simp at hu; rcases hu with rfl | rfl <;> rfl) (by unfold maxLen; omega) (by omega) hsz7 ?_
             intro v' w8 ho hf hv
             obtain ⟨A', c', rfl⟩ := own_slice ho
             have HO8 := hid ho
             have HF8 := hid hf
             have HV8 := hid hv
             have hg8 := own_kept HGO.out hf (fun b hb e => by
               have h0 : some g = some b := hb
               have h1 : some g2 = some b := e
               injection h0 with h0
               injection h1 with h1
               exact HNN.out.2.2.2.2.2 (h0.trans h1.symm))
             have c8 : w8.cell? ⟨g, 2, none⟩ = some (.slice (some ⟨g2, 0, none⟩) 1 cap2) := own_cell0 hg8 HVI.out
             have zf8 : ∀ k, w8.frozen? ⟨g, k, none⟩ = false := fun k => own_free hg8 k
             have x8 : w8.cell? ⟨XB, 0, none⟩ = some (.slice (some ⟨g, 0, none⟩) 6 cu) := hf.cell (p := ⟨XB, 0, none⟩) x0d (fun e => by have h0 : some g2 = some XB := e; injection h0 with h0; exact hXg2 h0.symm)
             clear ho hf hv hg8))
        all_goals
          have hF9 : Fr (One g) w8 (w8.setCell ⟨g, 2, none⟩ (.slice A' 2 c')) := (Fr.refl _ _).one 2 _
          have HG9 := hid (show SG (w8.setCell ⟨g, 2, none⟩ (.slice A' 2 c')) (w.heap.size + 2) (.slice (some ⟨g, 0, none⟩) 6 cu) (vs.set 2 (.slice A' 2 c')) exX2.slots from by
            have h1 := SG.put (q' := [⟨1, 0, 0⟩, ⟨2, 0, 0⟩]) (v' := .slice A' 2 c') (i := 2) (show SG w7.drew (w.heap.size + 2) (.slice (some ⟨g, 0, none⟩) vs.length cu) vs exX.slots from by rw [HVL6.out]; have h2 := HG7.out; exact h2) HPW.out HVI.out HF8.out HO8.out (HV8.out.elim .inl (fun h => .inr (.inr h)))
            rw [HVL6.out] at h1
            exact h1)
          have hn := HNN.out
          have hF78 : ∀ {k : Nat} {o : Obj}, w7.heap[k]? = some o → k ≠ g → k ≠ g2 → (w8.setCell ⟨g, 2, none⟩ (.slice A' 2 c')).heap[k]? = some o := fun {k o} hk h1 h2 => hF9.blk (HF8.out.blk hk (fun e => by have h0 : some g2 = some k := e; injection h0 with h0; exact h2 h0.symm)) h1
          have hj7 := (fr0 HB7.out).blk HJ5.out (fun h => h)
          have hb9 := ((Fr.of_below (S := NoB) (below_then HB5.out HB7.out).drew).trans HF8.out (fun x hx => .inr (by have h0 : some g2 = some x := hx; injection h0 with h0; omega))).no
          have HB9 := hid (((Fr.of_below (S := NoB) hb9).trans hF9 (fun x hx => .inr (by rw [show x = g from hx]; omega))).no)
          have HX9 := hid (hF78 HXB7.out hXg hXg2)
          have HJ9 := hid (hF78 hj7 (by omega) (by omega))
          have HFD9 := hid (hF78 HFD7.out (by omega) (by omega))
          have hw7 : w7.drew.ownsRow wp.heap.size 3 1 (.slice Aw 2 cw) 2 (intCells [3, 4]) := HOW.out
          have HOW9 := hid (own_kept (own_kept hw7 HF8.out (fun b hb e => by have h1 := (HOW.out.lt b hb).1; have h2 := HBc.out.size; have h0 : some g2 = some b := e; injection h0 with h0; omega)) hF9 (fun b hb e => by have h1 := (HOW.out.lt b hb).1; have h2 := HBc.out.size; have h3 : b = g := e; omega))
          go_wp2_with fail
          go_meet
          exact ⟨_, rfl, HG9, HX9, HJ9, HFD9, HOW9, HB9⟩
      obtain ⟨vs', rfl, HG9, HX9, HJ9, HFD9, HOW9, HB9⟩ := hcut
      clear c2 c2d x0 x0d hXl hXl7 hgl7 hXg hXg2 hgg2 hsz7
      generalize wc = w9 at *
      have HTR9 := hid (show IsTr w9 (.slice (some ⟨g, 0, none⟩) 6 cu) (.slice (some ⟨J, 0, none⟩) 1 1) exX2 from ⟨HG9.out.plan, Rowp.built (fun j : Jb => [.int .i64 j.task, .int .i64 j.arr, .int .i64 j.fin, .bool j.cut, .bool j.miss]) _ 1 HJ9.out rfl rfl (fun x => rfl) (by decide) (by decide) (fun x hx => rfl)⟩)
      have x90 : w9.cell? ⟨XB, 0, none⟩ = some (.slice (some ⟨g, 0, none⟩) 6 cu) := blk_cell HX9.out 0
      have x91 : w9.cell? ⟨XB, 1, none⟩ = some (.slice (some ⟨J, 0, none⟩) 1 1) := blk_cell HX9.out 1
      have hXl9 : XB < w9.heap.size := blk_lt HX9.out
      go_upto_region 11 with fail
      go_cut [6] (fun v wx => ∃ D, v = .pointer (some ⟨D, 0, none⟩) ∧ w9.heap.size ≤ D ∧ Hid (wx.heap[D]? = some (.cells #[.int .i64 2, .int .i64 2, .int .i64 1] 35 (0, 0))) ∧ Hid (Below w9.heap.size w9 wx))
      case first =>
        go_region_with (first
          | (go_at_call 32
             refine only_any.mono ?_
             rintro e W1 ⟨A0, n0, c0, A1, n1, c1, A3, n3, c3, rfl, htab, hb1⟩
             have hbw : Below w9.heap.size w9 W1 := by first | exact below_then (Below.refl w9.heap.size w9).drew hb1 | exact below_then (below_new (Below.refl w9.heap.size w9).drew (.cells #[.int .i64 0, .int .i64 0, .int .i64 0] 35)) hb1
             have y0 : W1.cell? ⟨XB, 0, none⟩ = some (.slice (some ⟨g, 0, none⟩) 6 cu) := (hbw.cell (p := ⟨XB, 0, none⟩) hXl9).trans x90
             have y1 : W1.cell? ⟨XB, 1, none⟩ = some (.slice (some ⟨J, 0, none⟩) 1 1) := (hbw.cell (p := ⟨XB, 1, none⟩) hXl9).trans x91
             have hXl1 : XB < W1.heap.size := Nat.lt_of_lt_of_le hXl9 hbw.size
             have HBW := hid hbw
             have HTAB := hid htab
             try have HD1 : Hid (W1.heap[w9.heap.size]? = some (.cells #[.int .i64 0, .int .i64 0, .int .i64 0] 35 (0, 0))) := (fr0 hb1).blk (blk_new w9.drew (.cells #[.int .i64 0, .int .i64 0, .int .i64 0] 35)) (fun h => h)
             clear hb1 htab hbw)
          | (go_at_call 13
             refine (check_any exT exX2 A0 n0 c0 A1 n1 c1 A3 n3 c3 (some ⟨g, 0, none⟩) 6 cu (some ⟨J, 0, none⟩) 1 1 ?_ ?_ ?_ ?_ ?_ ?_).mono ?_
             · first
                 | exact HTAB.out
                 | exact HTAB.out.later (below_new (Below.refl _ _) _)
             · first
                 | exact HTR9.out.later HBW.out
                 | exact HTR9.out.later (below_new HBW.out _)
             · have h1 := HTAB.out.ents.len
               have h2 : exT.ents.length = 1 := rfl
               omega
             · omega
             · omega
             · intro y hy
               simp [exX2] at hy
               subst hy
               unfold I64
               decide
             rintro e W2 ⟨r, t, c, rfl, hf, hb2⟩
             obtain ⟨rfl, rfl, rfl⟩ := hf.uniq ex_fnd2
             have hbw2 : Below w9.heap.size w9 W2 := by first | exact below_then HBW.out hb2 | exact below_then (below_new HBW.out (.cells #[.int .i64 0, .int .i64 0, .int .i64 0] 35)) hb2
             have HBW2 := hid hbw2
             first
               | (have HD2 : Hid (W2.heap[w9.heap.size]? = some (.cells #[.int .i64 0, .int .i64 0, .int .i64 0] 35 (0, 0))) := (fr0 hb2).blk HD1.out (fun h => h)
                  have d0 : W2.cell? ⟨w9.heap.size, 0, none⟩ = some (.int .i64 0) := blk_cell HD2.out 0
                  have d1 : W2.cell? ⟨w9.heap.size, 1, none⟩ = some (.int .i64 0) := blk_cell HD2.out 1
                  have d2 : W2.cell? ⟨w9.heap.size, 2, none⟩ = some (.int .i64 0) := blk_cell HD2.out 2
                  have df : ∀ k, W2.frozen? ⟨w9.heap.size, k, none⟩ = false := fun k => blk_free HD2.out k)
               | (have HD2 : Hid (W2.heap[W1.heap.size]? = some (.cells #[.int .i64 0, .int .i64 0, .int .i64 0] 35 (0, 0))) := (fr0 hb2).blk (blk_new W1 (.cells #[.int .i64 0, .int .i64 0, .int .i64 0] 35)) (fun h => h)
                  have d0 : W2.cell? ⟨W1.heap.size, 0, none⟩ = some (.int .i64 0) := blk_cell HD2.out 0
                  have d1 : W2.cell? ⟨W1.heap.size, 1, none⟩ = some (.int .i64 0) := blk_cell HD2.out 1
                  have d2 : W2.cell? ⟨W1.heap.size, 2, none⟩ = some (.int .i64 0) := blk_cell HD2.out 2
                  have df : ∀ k, W2.frozen? ⟨W1.heap.size, k, none⟩ = false := fun k => blk_free HD2.out k)
               | skip
             clear hb2 hbw2 hf))
        all_goals
          go_wp2_with fail
          go_meet
          first
            | exact ⟨_, rfl, HBW2.out.size, hid (blk_new W2 _), hid (below_new HBW2.out _)⟩
            | exact ⟨_, rfl, Nat.le_refl _, hid (by simpa using blk_set (blk_set (blk_set HD2.out 0 (.int .i64 2)) 1 (.int .i64 2)) 2 (.int .i64 1)), hid (fr_own3 HBW2.out (Nat.le_refl _) _ _ _)⟩
            | exact ⟨_, rfl, HBW.out.size, hid (by simpa using blk_set (blk_set (blk_set HD2.out 0 (.int .i64 2)) 1 (.int .i64 2)) 2 (.int .i64 1)), hid (fr_own3 HBW2.out HBW.out.size _ _ _)⟩
      obtain ⟨D2, rfl, hD2, HFE, HBe⟩ := hcut
      have HFDe := hid ((fr0 HBe.out).blk HFD9.out (fun h => h))
      have HOWe := hid (own_kept HOW9.out (fr0 HBe.out) (fun _ _ h => h))
      have HBz := hid (below_then HB9.out HBe.out)
      obtain ⟨gw, capw, curw, he, _, _, _⟩ := own_shape HOWe.out (by decide)
      injection he with e1 _ e3
      subst e1
      have l0 : wc.cell? ⟨gw, 0, none⟩ = some (.int .i64 3) := own_cell0 HOWe.out rfl
      have l1 : wc.cell? ⟨gw, 1, none⟩ = some (.int .i64 4) := own_cell0 HOWe.out rfl
      have a0 : wc.cell? ⟨D, 0, none⟩ = some (.int .i64 0) := blk_cell HFDe.out 0
      have a1 : wc.cell? ⟨D, 1, none⟩ = some (.int .i64 (-1)) := blk_cell HFDe.out 1
      have a2 : wc.cell? ⟨D, 2, none⟩ = some (.int .i64 (-1)) := blk_cell HFDe.out 2
      have b0 : wc.cell? ⟨D2, 0, none⟩ = some (.int .i64 2) := blk_cell HFE.out 0
      have b1 : wc.cell? ⟨D2, 1, none⟩ = some (.int .i64 2) := blk_cell HFE.out 1
      have b2 : wc.cell? ⟨D2, 2, none⟩ = some (.int .i64 1) := blk_cell HFE.out 2
      clear e3 x90 x91 hXl9
      go_wp2_with fail
      go_ret
      exact ⟨rfl, HBz.out⟩
end
end Go.Proofs.Ytmhochjpdedlgaa
