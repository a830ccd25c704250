/- LocksFirst: each resource is held by one at most, and those that asked have it in the order in which they asked: the walk. Whatever deeds. -/
import Derived.Test.YtcbpbgjngeemoaaGrid
import Derived.Test.YtcbpbgjngeemoaaLocksApart
import Derived.Deep.RegionHeld3
set_option linter.unusedVariables false
set_option linter.unusedSimpArgs false
namespace Go.Proofs.Ytcbpbgjngeemoaa
open Go.RowKit

/-- As: who asked, in order; hs: how many of them have had it; Q: the queues. -/
structure PI (Q As : List (List Int)) (hs : List Int) (c : Nat) : Prop where
  la : As.length = Q.length
  lh : hs.length = Q.length
  eq : ∀ (i : Nat) (q a : List Int) (h : Int), Q[i]? = some q → As[i]? = some a → hs[i]? = some h → 0 ≤ h ∧ h ≤ a.length ∧ q = a.drop h.toNat ∧ a.length ≤ c
theorem PI.mono {Q As : List (List Int)} {hs : List Int} {c c' : Nat} (h : PI Q As hs c) (hc : c ≤ c') : PI Q As hs c' :=
  ⟨h.la, h.lh, fun i q a x hq ha hx => by have := h.eq i q a x hq ha hx; exact ⟨this.1, this.2.1, this.2.2.1, by omega⟩⟩
theorem PI.get {Q As : List (List Int)} {hs : List Int} {c i : Nat} {q : List Int} (h : PI Q As hs c) (hq : Q[i]? = some q) : ∃ a x, As[i]? = some a ∧ hs[i]? = some x := by
  have hi := (List.getElem?_eq_some_iff.1 hq).1
  exact ⟨_, _, List.getElem?_eq_getElem (by rw [h.la]; exact hi), List.getElem?_eq_getElem (by rw [h.lh]; exact hi)⟩
theorem PI.ask {Q As : List (List Int)} {hs : List Int} {c i : Nat} {q a : List Int} (h : PI Q As hs c) (hq : Q[i]? = some q) (ha : As[i]? = some a) (t : Int) : PI (Q.set i (q ++ [t])) (As.set i (a ++ [t])) hs (c + 1) := by
  refine ⟨by simp [h.la], by simp [h.lh], fun j q2 a2 x hq2 ha2 hx => ?_⟩
  rcases set_get hq2 with ⟨rfl, rfl⟩ | ⟨hne, hq2⟩
  · rcases set_get ha2 with ⟨_, rfl⟩ | ⟨hne, _⟩
    · obtain ⟨h1, h2, h3, h4⟩ := h.eq j q a x hq ha hx
      refine ⟨h1, by simp; omega, ?_, by simp; omega⟩
      rw [h3, List.drop_append_of_le_length (by omega)]
    · exact absurd rfl hne
  · rcases set_get ha2 with ⟨e, _⟩ | ⟨_, ha2⟩
    · exact absurd e hne
    · obtain ⟨h1, h2, h3, h4⟩ := h.eq j q2 a2 x hq2 ha2 hx
      exact ⟨h1, h2, h3, by omega⟩
theorem PI.free {Q As : List (List Int)} {hs : List Int} {c i : Nat} {q : List Int} {t x : Int} (h : PI Q As hs c) (hq : Q[i]? = some (t :: q)) (hx : hs[i]? = some x) : PI (Q.set i q) As (hs.set i (x + 1)) c := by
  refine ⟨by simp [h.la], by simp [h.lh], fun j q2 a2 x2 hq2 ha2 hx2 => ?_⟩
  rcases set_get hq2 with ⟨rfl, rfl⟩ | ⟨hne, hq2⟩
  · rcases set_get hx2 with ⟨_, rfl⟩ | ⟨hne, _⟩
    · obtain ⟨h1, h2, h3, h4⟩ := h.eq j _ a2 x hq ha2 hx
      have hlt : x.toNat < a2.length := by
        have := congrArg List.length h3
        simp at this
        omega
      refine ⟨by omega, by omega, ?_, h4⟩
      have := congrArg List.tail h3
      rw [List.tail_drop] at this
      rw [show (x + 1).toNat = x.toNat + 1 by omega]
      exact this
    · exact absurd rfl hne
  · rcases set_get hx2 with ⟨e, _⟩ | ⟨_, hx2⟩
    · exact absurd e hne
    · exact h.eq j q2 a2 x2 hq2 ha2 hx2
/-- What the law looks at. -/
theorem PI.look {Q As : List (List Int)} {hs : List Int} {c i : Nat} {q a : List Int} {x : Int} (h : PI Q As hs c) (hq : Q[i]? = some q) (ha : As[i]? = some a) (hx : hs[i]? = some x) :
    0 ≤ x ∧ x ≤ a.length ∧ a.length ≤ c ∧ (q.length : Int) = a.length - x ∧ ((x = a.length ∧ q = [] ∧ headQ q = -1) ∨ (x < a.length ∧ ∃ y q', q = y :: q' ∧ a[x.toNat]? = some y)) := by
  obtain ⟨h1, h2, h3, h4⟩ := h.eq i q a x hq ha hx
  have hl : q.length = a.length - x.toNat := by rw [h3, List.length_drop]
  refine ⟨h1, h2, h4, by omega, ?_⟩
  by_cases e : x = a.length
  · have : q = [] := List.length_eq_zero_iff.1 (by omega)
    exact .inl ⟨e, this, by rw [this]; rfl⟩
  · refine .inr ⟨by omega, ?_⟩
    cases hq' : q with
    | nil => rw [hq'] at hl; simp at hl; omega
    | cons y q' =>
      refine ⟨y, q', rfl, ?_⟩
      have : (a.drop x.toNat)[0]? = some y := by rw [← h3, hq']; rfl
      simpa using this

/-- The law's world. -/
structure FF (w wx : World) (b bm : Nat) (qv : Value) (P : List (Nat × Nat)) (g : Nat) (vs : List Value) (g2 : Nat) (c : Nat) (Q As : List (List Int)) (hs : List Int) : Prop where
  below : Below w.heap.size w wx
  lock : LockAt wx w.heap.size b bm qv P c Q
  grid : GridAt wx w.heap.size g vs As
  had : wx.ownsRow w.heap.size 3 1 (.slice (some ⟨g2, 0, none⟩) 8 8) 8 (intCells hs)
  ap1 : ∀ k, LSet b bm qv P k → ¬ GSet g vs k ∧ k ≠ g2
  ap2 : ¬ GSet g vs g2
section
variable {w wx w' : World} {b bm : Nat} {qv : Value} {P : List (Nat × Nat)} {g g2 c : Nat} {vs : List Value} {Q As Q' : List (List Int)} {hs : List Int}
theorem FF.later (h : FF w wx b bm qv P g vs g2 c Q As hs) (hb : Below wx.heap.size wx w') : FF w w' b bm qv P g vs g2 c Q As hs :=
  ⟨below_then h.below hb, h.lock.later hb, h.grid.later hb, own_kept h.had (fr0 hb) (fun _ _ h => h), h.ap1, h.ap2⟩
theorem FF.lockStep (h : FF w wx b bm qv P g vs g2 c Q As hs) (hB : LockBehind wx w.heap.size b bm c qv P Q' w') : FF w w' b bm qv P g vs g2 (c + 2) Q' As hs :=
  ⟨((Fr.of_below (S := NoB) h.below).trans hB.2 (fun x hx => .inr (h.lock.part.lt x hx).1)).no, hB.1, h.grid.kept hB.2 (fun j hj hl => (h.ap1 j hl).1 hj), own_kept h.had hB.2 (fun j hj hl => (h.ap1 j hl).2 (by cases hj; rfl)), h.ap1, h.ap2⟩
theorem FF.mono (h : FF w wx b bm qv P g vs g2 c Q As hs) {c' : Nat} (hc : c ≤ c') : FF w wx b bm qv P g vs g2 c' Q As hs := ⟨h.below, h.lock.mono hc, h.grid, h.had, h.ap1, h.ap2⟩
theorem FF.gridStep (h : FF w wx b bm qv P g vs g2 c Q As hs) {vs' : List Value} {As' : List (List Int)} (hG : GridAt w' w.heap.size g vs' As') (hF : Fr (GSet g vs) wx w') (hN : ∀ k, GSet g vs' k → GSet g vs k ∨ wx.heap.size ≤ k) : FF w w' b bm qv P g vs' g2 c Q As' hs := by
  refine ⟨((Fr.of_below (S := NoB) h.below).trans hF (fun x hx => .inr (h.grid.lt x hx).1)).no, h.lock.kept hF (fun j hj hl => (h.ap1 j hj).1 hl), hG, own_kept h.had hF (fun j hj hl => h.ap2 (by cases hj; exact hl)), fun k hk => ⟨fun e => ?_, (h.ap1 k hk).2⟩, fun e => ?_⟩
  · rcases hN k e with e | e
    · exact (h.ap1 k hk).1 e
    · have := (h.lock.part.lt k hk).2; omega
  · rcases hN g2 e with e | e
    · exact h.ap2 e
    · have := (h.had.lt g2 rfl).2; omega
theorem FF.hadStep (h : FF w wx b bm qv P g vs g2 c Q As hs) {i : Nat} (hi : i < 8) (x : Int) : FF w (wx.setCell ⟨g2, i, none⟩ (.int .i64 x)) b bm qv P g vs g2 c Q As (hs.set i x) := by
  have hF : Fr (One g2) wx (wx.setCell ⟨g2, i, none⟩ (.int .i64 x)) := (Fr.refl (One g2) wx).one i _
  refine ⟨((Fr.of_below (S := NoB) h.below).trans hF (fun k hk => .inr (by rw [show k = g2 from hk]; exact (h.had.lt g2 rfl).1))).no, h.lock.kept hF (fun j hj e => (h.ap1 j hj).2 e), h.grid.kept hF (fun j hj e => h.ap2 (by rw [← show j = g2 from e]; exact hj)), ?_, h.ap1, h.ap2⟩
  have := own_set h.had i (.int .i64 x) (by omega)
  rw [show (intCells hs).set i (.int .i64 x) = intCells (hs.set i x) by simp [intCells, List.map_set]] at this
  exact this
end

set_option maxRecDepth 1000000 in
set_option maxHeartbeats 1600000 in
theorem locksfirst_walk {w : World} (A : Option Addr) (len cap : Nat) (hlen : len ≤ 9223372036854775807) (Z : Nat → Nat → Int) (hz : IntRows w A len 3 Z) :
    Calls Try.prog 11 #[.slice A len cap] w fun e w' => e = .returned (.bool true) ∧ Below w.heap.size w w' := by
  have HZ := hid hz
  clear hz
  obtain ⟨C1, hC1⟩ : ∃ C : Array Value, C = (List.replicate 8 (.slice none 0 0)).toArray := ⟨_, rfl⟩
  obtain ⟨C2, hC2⟩ : ∃ C : Array Value, C = (List.replicate 8 (.int .i64 0)).toArray := ⟨_, rfl⟩
  have hm1 : ∀ w : World, (Instr.makeSlice 80 (.int .i64 8) (.int .i64 8)).run Try.prog w = .ok (.slice (some ⟨w.heap.size, 0, none⟩) 8 8) (w.alloc (.cells C1 22)) := fun w => by rw [hC1]; exact make_grid 8 (by omega) w
  have hm2 : ∀ w : World, (Instr.makeSlice 22 (.int .i64 8) (.int .i64 8)).run Try.prog w = .ok (.slice (some ⟨w.heap.size, 0, none⟩) 8 8) (w.alloc (.cells C2 3)) := fun w => by rw [hC2]; exact make_ints 8 (by omega) w
  have HC := hid (And.intro hC1 hC2)
  clear hC1 hC2
  go_enter Try.func11, Try.ntmps11
  go_wp2_with fail
  refine lockex_any.mono ?_
  rintro e w1 ⟨rfl, hb1⟩
  go_wp2_with fail
  refine (locks_new_yes 8 (by omega)).mono ?_
  rintro e w2 ⟨b, bm, qv, P, rfl, H0, hb2⟩
  have hsz := hb1.size
  have hsz2 := hb2.size
  have hal : Below w2.heap.size w2 ((w2.alloc (.cells C1 22)).alloc (.cells C2 3)) := ((Below.refl _ w2).alloc (Nat.le_refl _) _).alloc (by simp) _
  have hg2e : (w2.alloc (.cells C1 22)).heap.size = w2.heap.size + 1 := by simp
  have hHA : FF w ((w2.alloc (.cells C1 22)).alloc (.cells C2 3)) b bm qv P w2.heap.size (List.replicate 8 (.slice none 0 0)) (w2.heap.size + 1) 0 (List.replicate 8 []) (List.replicate 8 []) (List.replicate 8 0) := by
    refine ⟨below_then (below_then hb1 hb2) hal, (H0.later hal).base hsz, ?_, ?_, fun k hk => ⟨fun e => ?_, fun e => ?_⟩, fun e => ?_⟩
    · rw [HC.out.1]
      exact ((GridAt.made w2 8).later ((Below.refl _ _).alloc (Nat.le_refl _) _)).base (by omega)
    · have := ints_made (w2.alloc (.cells C1 22)) 8 (by decide)
      rw [hg2e] at this
      rw [HC.out.2]
      exact own_mono this (by omega)
    · have := (H0.part.lt k hk).2
      rcases e with e | ⟨v, hv, e⟩
      · omega
      · rw [List.eq_of_mem_replicate hv] at e; cases e
    · have := (H0.part.lt k hk).2; omega
    · rcases e with e | ⟨v, hv, e⟩
      · omega
      · rw [List.eq_of_mem_replicate hv] at e; cases e
  have HA := hid hHA
  have HPI := hid (show PI (List.replicate 8 []) (List.replicate 8 []) (List.replicate 8 0) 0 from ⟨rfl, rfl, fun i q a h hq ha hh => by rw [rep_get hq, rep_get ha, rep_val hh]; simp⟩)
  clear H0 hb1 hb2 hsz hsz2 hHA hal hg2e
  obtain ⟨vs0, hvs0⟩ : ∃ v : List Value, v = List.replicate 8 (.slice none 0 0) := ⟨_, rfl⟩
  obtain ⟨Q0, hQ0⟩ : ∃ v : List (List Int), v = List.replicate 8 [] := ⟨_, rfl⟩
  obtain ⟨h0, hh0⟩ : ∃ v : List Int, v = List.replicate 8 0 := ⟨_, rfl⟩
  have hl0 : Q0.length = 8 := by rw [hQ0]; rfl
  rw [← hvs0, ← hQ0, ← hh0] at HA
  rw [← hQ0, ← hh0] at HPI
  clear hvs0 hQ0 hh0
  go_wp2_with fail
  go_loopw [8] (fun i wr => ∃ (k : Nat) (vs : List Value) (Q As : List (List Int)) (hs : List Int), k ≤ len ∧ k ≤ 300 ∧ i = .int .i64 k ∧ FF w wr b bm qv P w2.heap.size vs (w2.heap.size + 1) (4 * k) Q As hs ∧ Hid (PI Q As hs k ∧ Q.length = 8)) (fun i _ => 300 - (intOf i).toNat)
  case atStart => exact ⟨0, vs0, Q0, Q0, h0, by omega, by omega, rfl, HA.out, HPI.out, hl0⟩
  case round =>
    obtain ⟨k, vs, Q, As, hs, hk1, hk2, rfl, hI, hV⟩ := hrel
    by_cases h1 : k < len
    · by_cases h2 : k < 300
      · obtain ⟨ab, ao, rfl, hbl, hcs⟩ := HZ.out k h1
        obtain ⟨hc0, hd0, hd1⟩ := hcs 0 (by omega)
        obtain ⟨hc1, hr0, hr1⟩ := hcs 1 (by omega)
        obtain ⟨hc2, ht0, ht1⟩ := hcs 2 (by omega)
        have c0 : wr.cell? ⟨ab, ao + k * 3, none⟩ = some (.int .i64 (Z k 0)) := (hI.below.cell hbl).trans hc0
        have c1 : wr.cell? ⟨ab, ao + k * 3 + 1, none⟩ = some (.int .i64 (Z k 1)) := (hI.below.cell hbl).trans hc1
        have c2 : wr.cell? ⟨ab, ao + k * 3 + 2, none⟩ = some (.int .i64 (Z k 2)) := (hI.below.cell hbl).trans hc2
        clear hc0 hc1 hc2 hcs
        generalize Z k 0 = d0 at *
        generalize Z k 1 = d1 at *
        generalize Z k 2 = d2 at *
        have hK := pickN_bd d0 2 (by omega)
        have hR := pickN_bd d1 8 (by omega)
        have hT := pickN_bd d2 24 (by omega)
        have HKp := hid (fun W => lockpick_any (w := W) d0 2 hd0 hd1 (by omega) (by omega))
        have HRp := hid (fun W => lockpick_any (w := W) d1 8 hr0 hr1 (by omega) (by omega))
        have HTp := hid (fun W => lockpick_any (w := W) d2 24 ht0 ht1 (by omega) (by omega))
        generalize pickN d0 2 = K at *
        generalize pickN d1 8 = R at *
        generalize pickN d2 24 = T at *
        obtain ⟨r, rfl⟩ : ∃ r : Nat, R = r := ⟨R.toNat, by omega⟩
        have HI := hid (hI.later ((Below.refl _ wr).alloc (Nat.le_refl _) (.cells #[.int .i64 d0, .int .i64 d1, .int .i64 d2] 75)))
        clear hI
        go_upto_if 52 with (first | (go_at_call_of 45 (Value.int IntKind.i64 d1); refine (HRp.out _).mono ?_; rintro e w' ⟨rfl, rfl⟩) | (go_at_call_of 45 (Value.int IntKind.i64 d2); refine (HTp.out _).mono ?_; rintro e w' ⟨rfl, rfl⟩) | (go_at_call_of 45 (Value.int IntKind.i64 d0); refine (HKp.out _).mono ?_; rintro e w' ⟨rfl, rfl⟩))
        go_cut [12] (fun _ wx => ∃ vs Q As hs, FF w wx b bm qv P w2.heap.size vs (w2.heap.size + 1) (4 * (k + 1)) Q As hs ∧ Hid (PI Q As hs (k + 1) ∧ Q.length = 8))
        case first =>
          as_aux_lemma =>
            have hQ8 := hV.out.2
            obtain ⟨q, hq⟩ : ∃ q, Q[r]? = some q := ⟨_, List.getElem?_eq_getElem (by omega)⟩
            rcases (show K = 0 ∨ K = 1 by omega) with rfl | rfl
            · by_cases hw : 0 ≤ wantsQ Q T
              · have HQA := hid (show askQ Q r T = (0, 4, Q) by unfold askQ; rw [if_neg (by omega), if_pos hw])
                clear hw
                go_wp2_with fail
                refine (lock_ask HI.out.lock r T (by omega) (by omega) HQA.out).mono ?_
                rintro e w4 ⟨rfl, hB4⟩
                have HI4 := hid (HI.out.lockStep hB4)
                clear hB4
                go_wp2_with fail
                go_meet
                exact ⟨vs, Q, As, hs, HI4.out.mono (by omega), hV.out.1.mono (by omega), hQ8⟩
              · have hg : Q.getD ((r : Int)).toNat [] = q := by rw [List.getD_eq_getElem?_getD]; simp [hq]
                have HQA := hid (show askQ Q r T = (((q.length : Nat) : Int), 0, Q.set r (q ++ [T])) by unfold askQ; rw [if_neg (by omega), if_neg hw, hg]; rfl)
                clear hw hg
                obtain ⟨a, x, ha, hx⟩ := hV.out.1.get hq
                have hlook := hV.out.1.look hq ha hx
                obtain ⟨v, hv⟩ : ∃ v, vs[r]? = some v := ⟨_, List.getElem?_eq_getElem (by rw [HI.out.grid.len]; exact (List.getElem?_eq_some_iff.1 ha).1)⟩
                have HX := hid (And.intro ha (And.intro hx hv))
                have HQ := hid hq
                have hrows := HI.out.grid.rows r v a hv ha
                obtain ⟨Av, cv, hvv⟩ := own_slice hrows
                subst hvv
                clear ha hx hv hq hrows
                go_wp2_with fail
                refine (lock_ask HI.out.lock r T (by omega) (by omega) HQA.out).mono ?_
                rintro e w4 ⟨rfl, hB4⟩
                have HI4 := hid (HI.out.lockStep hB4)
                clear hB4
                have cg : w4.cell? ⟨w2.heap.size, r, none⟩ = some (.slice Av a.length cv) := HI4.out.grid.cell HX.out.2.2
                have ch : w4.cell? ⟨w2.heap.size + 1, r, none⟩ = some (.int .i64 x) := own_cell0 HI4.out.had (by simp [intCells, HX.out.2.1])
                have hsub : IntKind.i64.wrap ((a.length : Int) - x) = q.length := by rw [wraps_i64 _ (by omega) (by omega)]; omega
                have hr8 : (r : Int) < 8 := by omega
                have hbx : w.heap.size ≤ w4.heap.size := HI4.out.below.size
                obtain ⟨n, hn⟩ : ∃ n, n = a.length := ⟨_, rfl⟩
                rw [← hn] at cg hsub hlook
                have hown := HI4.out.grid.rows r _ a HX.out.2.2 HX.out.1
                rw [← hn] at hown
                have HOwn := hid hown
                have HN := hid hn
                obtain ⟨i0, hi, hz0, hz1, hz2⟩ := info_parts Try.info_int
                clear hn hown
                go_wp2_with fail
                go_quiet (fail)
                go_wp2_with (at_builtin; refine append_new rfl _ _ 22 rfl w.heap.size 3 i0 _ 1 8 Try.underlying22 hi hz0 hz1 hz2 rfl (by decide) #[.int .i64 T] (.slice Av n cv) n (intCells a) rfl _ rfl rfl (own_drewN HOwn.out nq) rfl (one_one _) (by unfold maxLen; omega) (by omega) hbx ?_)
                intro v' w5 hown5 hf5 hl5
                obtain ⟨g5, cc5, cu5, rfl, _⟩ := own_shape hown5 (Nat.succ_pos _)
                have HI5 := hid (HI4.out.later (w' := w4.drewN nq) (below_drewN' (Below.refl _ _) nq))
                have hv5 := HX.out.2.2
                rw [← HN.out] at hv5
                have HG := hid (HI5.out.grid.turn (q' := a ++ [T]) hv5 HX.out.1 (by rw [int_snoc2, List.length_append, ← HN.out]; exact hown5) hf5 (loc_back hl5 (Nat.le_refl _)))
                have hg5 := hf5.blk HI5.out.grid.hg (fun e => by
                  obtain ⟨C, hC⟩ := own_kind (HI5.out.grid.rows r _ a hv5 HX.out.1) e
                  exact blk_ne hC HI5.out.grid.hg (cells_ne (by decide)) rfl)
                have cg5 : w5.cell? ⟨w2.heap.size, r, none⟩ = some (.slice Av n cv) := by rw [blk_cell hg5 r]; simpa using hv5
                have fg5 : w5.frozen? ⟨w2.heap.size, r, none⟩ = false := blk_free hg5 r
                clear hown5 hf5 hl5 hg5 cg ch hv5
                go_wp2_with fail
                go_meet
                exact ⟨_, _, _, hs, (HI5.out.gridStep HG.out.1 HG.out.2.1 HG.out.2.2).mono (by omega), hV.out.1.ask HQ.out HX.out.1 T, by rw [List.length_set]; exact hQ8⟩
            · skip
              by_cases hh : hasQ Q T = true
              · obtain ⟨i, q', hqi, hwi⟩ := has_split HI.out.lock.inv hh
                have hi8 := (List.getElem?_eq_some_iff.1 hqi).1
                have hFQ : freeQ Q T = (headQ q', 0, Q.set i q') := by
                  unfold freeQ
                  have hfr : freedQ Q T = Q.set i q' := by
                    unfold freedQ
                    rw [hwi, Int.toNat_natCast, List.getD_eq_getElem?_getD, hqi]
                    rfl
                  rw [if_pos hh, hfr, hwi, holder_get (q := q') ⟨by omega, by rw [List.length_set]; omega⟩ (by rw [Int.toNat_natCast]; exact List.getElem?_set_self hi8)]
                obtain ⟨a, x, ha, hx⟩ := hV.out.1.get hqi
                have hlook := hV.out.1.look hqi ha hx
                have HW := hid (lock_wants HI.out.lock (t := T) (by omega) (by omega))
                rw [hwi] at HW
                have HHas := hid (lock_has HI.out.lock (t := T) (by omega) (by omega))
                rw [hh] at HHas
                have HFQ := hid hFQ
                have HX := hid (And.intro hqi hx)
                have hi9 : (i : Int) < 8 := by omega
                have hwx : IntKind.i64.wrap (x + 1) = x + 1 := wraps_i64 _ (by omega) (by omega)
                clear hh hqi hwi hFQ ha hx hq
                go_wp2_with fail
                refine HW.out.mono ?_
                rintro e w4 ⟨rfl, hw4⟩
                obtain rfl := hw4
                go_wp2_with fail
                refine HHas.out.mono ?_
                rintro e w5 ⟨rfl, n5, hw5⟩
                have HI5 := hid (HI.out.later (w' := w5) (by rw [hw5]; exact below_drewN' (Below.refl _ _) n5))
                clear hw5
                go_wp2_with fail
                refine (lock_free HI5.out.lock (t := T) (by omega) (by omega) (by omega) HFQ.out).mono ?_
                rintro e w6 ⟨rfl, hB6⟩
                have HI6 := hid (HI5.out.lockStep hB6)
                clear hB6
                have ch : w6.cell? ⟨w2.heap.size + 1, i, none⟩ = some (.int .i64 x) := own_cell0 HI6.out.had (by simp [intCells, HX.out.2])
                have fh : w6.frozen? ⟨w2.heap.size + 1, i, none⟩ = false := own_free HI6.out.had i
                go_wp2_with fail
                go_meet
                exact ⟨vs, _, As, _, (HI6.out.hadStep (by omega) (x + 1)).mono (by omega), (hV.out.1.free HX.out.1 HX.out.2).mono (by omega), by rw [List.length_set]; exact hQ8⟩
              · have hh2 : hasQ Q T = false := by simpa using hh
                have hFQ : freeQ Q T = (0, 5, Q) := by unfold freeQ; rw [if_neg hh]
                have HW := hid (lock_wants HI.out.lock (t := T) (by omega) (by omega))
                have HHas := hid (lock_has HI.out.lock (t := T) (by omega) (by omega))
                rw [hh2] at HHas
                have HFQ := hid hFQ
                clear hh hh2 hFQ hq
                generalize wantsQ Q T = wq at *
                go_wp2_with fail
                refine HW.out.mono ?_
                rintro e w4 ⟨rfl, hw4⟩
                obtain rfl := hw4
                go_wp2_with fail
                refine HHas.out.mono ?_
                rintro e w5 ⟨rfl, n5, hw5⟩
                have HI5 := hid (HI.out.later (w' := w5) (by rw [hw5]; exact below_drewN' (Below.refl _ _) n5))
                clear hw5
                go_wp2_with fail
                refine (lock_free HI5.out.lock (t := T) (by omega) (by omega) (by omega) HFQ.out).mono ?_
                rintro e w6 ⟨rfl, hB6⟩
                have HI6 := hid (HI5.out.lockStep hB6)
                clear hB6
                go_wp2_with fail
                go_meet
                exact ⟨vs, Q, As, hs, HI6.out.mono (by omega), hV.out.1.mono (by omega), hQ8⟩
        obtain ⟨vs', Q', As', hs', hJ, hV'⟩ := hcut
        have HJ := hid hJ
        clear hJ
        go_wp2_with fail
        go_loopw [18] (fun i wx => ∃ (j : Nat), j ≤ 8 ∧ i = .int .i64 j ∧ FF w wx b bm qv P w2.heap.size vs' (w2.heap.size + 1) (4 * (k + 1)) Q' As' hs') (fun i _ => 8 - (intOf i).toNat)
        case atStart => exact ⟨0, by omega, rfl, HJ.out⟩
        case round =>
          obtain ⟨j, hj, rfl, hJ8⟩ := hrel
          by_cases hj8 : j < 8
          · obtain ⟨q, hq⟩ : ∃ q, Q'[j]? = some q := ⟨_, List.getElem?_eq_getElem (by have := hV'.out.2; omega)⟩
            obtain ⟨a, x, ha, hx⟩ := hV'.out.1.get hq
            have hlook := hV'.out.1.look hq ha hx
            obtain ⟨v, hv⟩ : ∃ v, vs'[j]? = some v := ⟨_, List.getElem?_eq_getElem (by rw [hJ8.grid.len]; exact (List.getElem?_eq_some_iff.1 ha).1)⟩
            have hrows := hJ8.grid.rows j v a hv ha
            obtain ⟨Av, cv, hvv⟩ := own_slice hrows
            subst hvv
            obtain ⟨n, hn⟩ : ∃ n, n = a.length := ⟨_, rfl⟩
            rw [← hn] at hv hlook hrows
            have cg : wr.cell? ⟨w2.heap.size, j, none⟩ = some (.slice Av n cv) := hJ8.grid.cell hv
            have hxc : (intCells hs')[j]? = some (.int .i64 x) := by simp [intCells, hx]
            have ch : wr.cell? ⟨w2.heap.size + 1, j, none⟩ = some (.int .i64 x) := own_cell0 hJ8.had hxc
            have hsub : IntKind.i64.wrap ((n : Int) - x) = (n : Int) - x := wraps_i64 _ (by omega) (by omega)
            have hql : (q.length : Int) = (n : Int) - x := by omega
            have HHold := hid (fun W (h : FF w W b bm qv P w2.heap.size vs' (w2.heap.size + 1) (4 * (k + 1)) Q' As' hs') => lock_holder_in h.lock hq)
            have HQue := hid (fun W (h : FF w W b bm qv P w2.heap.size vs' (w2.heap.size + 1) (4 * (k + 1)) Q' As' hs') => (show Calls Try.prog 56 #[.pointer (some ⟨b, 0, none⟩), .int .i64 (j : Int)] W (fun e w' => ∃ A5 c5, e = .returned (.slice A5 q.length c5) ∧ Below W.heap.size W w') from (lock_queue h.lock j).mono fun e w' ⟨v5, he, hb, ho, _⟩ => by
              have hl : (queueQ Q' j).length = q.length := by unfold queueQ; rw [if_pos ⟨by omega, by have := (List.getElem?_eq_some_iff.1 hq).1; omega⟩, List.getD_eq_getElem?_getD]; simp [hq]
              rw [hl] at ho
              obtain ⟨A5, c5, rfl⟩ := own_slice ho
              exact ⟨A5, c5, he, hb⟩))
            have HV2 := hid hv
            have HXC := hid hxc
            have HRW := hid hrows
            have hJ8' := hid hJ8
            rcases hlook with ⟨l1, l2, l3, l4, ⟨l5, l6, l7⟩ | ⟨l5, y, q', l6, l7⟩⟩
            · rw [l7] at HHold
              have hd1 : decide (x < (n : Int)) = false := decide_eq_false (by omega)
              clear hq ha hx hv hrows hn hxc hJ8 l6 l7
              have hJ8 := hJ8'
              go_upto_region 30 with fail
              go_quiet (fail)
              go_upto_region 32 with fail
              generalize hm : (-1 : Int) = m at HHold ⊢
              have hm0 : decide (0 ≤ m) = false := decide_eq_false (by omega)
              have hm1 : ¬ (0 ≤ m) := by omega
              clear hm
              have HJ0 := hid (hJ8.out.later (w' := (wr.drewN nq).drew) (below_drewN' (Below.refl _ _) (nq + 1)))
              refine wp_region_held_drew (S := (fun w' => w'.cell? ⟨w2.heap.size, j, none⟩ = some (.slice Av n cv) ∧ w'.cell? ⟨w2.heap.size + 1, j, none⟩ = some (.int .i64 x))) (by kernel_rfl) ?_ (fun hHeld => ?_)
              · exact ⟨HJ0.out.grid.cell HV2.out, own_cell0 HJ0.out.had HXC.out⟩
              refine wpAnyH_take (i := 0) (oi := ?oi0) (v := ?v0) ?hi0 (by kernel_rfl) (by kernel_rfl) (by kernel_rfl) ?hq0 (Or.inl ⟨?wa0, ?hy0⟩) (by assumption) ?hr0
              case hi0 => (simp only [List.getElem?_toArray, List.getElem?_cons_succ, List.getElem?_cons_zero]; rfl)
              case wa0 => rfl
              case hy0 => ((intro w hSw; (try dsimp only at hSw); go_simp); all_goals (with_reducible rfl))
              case hq0 => exact fun _ _ _ h => h
              try simp only [Act.put, List.setIfInBounds_toArray, List.set_cons_zero, List.set_cons_succ]
              refine wpAnyH_take (i := 1) (oi := ?oi1) (v := ?v1) ?hi1 (by kernel_rfl) (by kernel_rfl) (by kernel_rfl) ?hq1 (Or.inl ⟨?wa1, ?hy1⟩) (by assumption) ?hr1
              case hi1 => (simp only [List.getElem?_toArray, List.getElem?_cons_succ, List.getElem?_cons_zero]; rfl)
              case wa1 => rfl
              case hy1 => ((intro w hSw; (try dsimp only at hSw); go_simp); all_goals (with_reducible rfl))
              case hq1 => exact fun _ _ _ h => h
              try simp only [Act.put, List.setIfInBounds_toArray, List.set_cons_zero, List.set_cons_succ]
              refine wpAnyH_take (i := 3) (oi := ?oi3) (v := ?v3) ?hi3 (by kernel_rfl) (by kernel_rfl) (by kernel_rfl) ?hq3 (Or.inl ⟨?wa3, ?hy3⟩) (by assumption) ?hr3
              case hi3 => (simp only [List.getElem?_toArray, List.getElem?_cons_succ, List.getElem?_cons_zero]; rfl)
              case wa3 => rfl
              case hy3 => ((intro w hSw; (try dsimp only at hSw); go_simp); all_goals (with_reducible rfl))
              case hq3 => exact fun _ _ _ h => h
              try simp only [Act.put, List.setIfInBounds_toArray, List.set_cons_zero, List.set_cons_succ]
              refine wpAnyH_ready (rs := [2]) (by kernel_rfl) (by simp) ?_
              refine AllReadyH.cons (i := 2) (o := ?oi2) ?hi2 ?st2 AllReadyH.nil
              case hi2 => (simp only [List.getElem?_toArray, List.getElem?_cons_succ, List.getElem?_cons_zero]; rfl)
              intro K hK
              go_simp
              refine (HHold.out _ HJ0.out).mono ?_
              rintro e w4 ⟨rfl, n4, hw4⟩
              have HJ4 := hid (HJ0.out.later (w' := w4) (by rw [hw4]; exact below_drewN' (Below.refl _ _) n4))
              clear hw4
              go_wp2_with fail
              refine hK.out _ _ ?_ (fun hHeld => ?_)
              · exact ⟨HJ4.out.grid.cell HV2.out, own_cell0 HJ4.out.had HXC.out⟩
              clear hK K
              try simp only [Act.put, List.setIfInBounds_toArray, List.set_cons_zero, List.set_cons_succ]
              refine wpAnyH_take (i := 4) (oi := ?oi4) (v := ?v4) ?hi4 (by kernel_rfl) (by kernel_rfl) (by kernel_rfl) ?hq4 (Or.inl ⟨?wa4, ?hy4⟩) (by assumption) ?hr4
              case hi4 => (simp only [List.getElem?_toArray, List.getElem?_cons_succ, List.getElem?_cons_zero]; rfl)
              case wa4 => rfl
              case hy4 => ((intro w hSw; (try dsimp only at hSw); go_simp); all_goals (with_reducible rfl))
              case hq4 => exact fun _ _ _ h => h
              try simp only [Act.put, List.setIfInBounds_toArray, List.set_cons_zero, List.set_cons_succ]
              refine wpAnyH_take (i := 5) (oi := ?oi5) (v := ?v5) ?hi5 (by kernel_rfl) (by kernel_rfl) (by kernel_rfl) ?hq5 (Or.inl ⟨?wa5, ?hy5⟩) (by assumption) ?hr5
              case hi5 => (simp only [List.getElem?_toArray, List.getElem?_cons_succ, List.getElem?_cons_zero]; rfl)
              case wa5 => rfl
              case hy5 => ((intro w hSw; (try dsimp only at hSw); go_simp); all_goals (with_reducible rfl))
              case hq5 => exact fun _ _ _ h => h
              try simp only [Act.put, List.setIfInBounds_toArray, List.set_cons_zero, List.set_cons_succ]
              refine wpAnyH_take (i := 6) (oi := ?oi6) (v := ?v6) ?hi6 (by kernel_rfl) (by kernel_rfl) (by kernel_rfl) ?hq6 (Or.inl ⟨?wa6, ?hy6⟩) (by assumption) ?hr6
              case hi6 => (simp only [List.getElem?_toArray, List.getElem?_cons_succ, List.getElem?_cons_zero]; rfl)
              case wa6 => rfl
              case hy6 => ((intro w hSw; (try dsimp only at hSw); go_simp); all_goals (with_reducible rfl))
              case hq6 => exact fun _ _ _ h => h
              try simp only [Act.put, List.setIfInBounds_toArray, List.set_cons_zero, List.set_cons_succ]
              refine wpAnyH_take (i := 7) (oi := ?oi7) (v := ?v7) ?hi7 (by kernel_rfl) (by kernel_rfl) (by kernel_rfl) ?hq7 (Or.inl ⟨?wa7, ?hy7⟩) (by assumption) ?hr7
              case hi7 => (simp only [List.getElem?_toArray, List.getElem?_cons_succ, List.getElem?_cons_zero]; rfl)
              case wa7 => rfl
              case hy7 => ((intro w hSw; (try dsimp only at hSw); go_simp); all_goals (with_reducible rfl))
              case hq7 => exact fun _ _ _ h => h
              try simp only [Act.put, List.setIfInBounds_toArray, List.set_cons_zero, List.set_cons_succ]
              refine wpAnyH_take (i := 10) (oi := ?oi10) (v := ?v10) ?hi10 (by kernel_rfl) (by kernel_rfl) (by kernel_rfl) ?hq10 (Or.inl ⟨?wa10, ?hy10⟩) (by assumption) ?hr10
              case hi10 => (simp only [List.getElem?_toArray, List.getElem?_cons_succ, List.getElem?_cons_zero]; rfl)
              case wa10 => rfl
              case hy10 => ((intro w hSw; (try dsimp only at hSw); go_simp); all_goals (with_reducible rfl))
              case hq10 => exact fun _ _ _ h => h
              try simp only [Act.put, List.setIfInBounds_toArray, List.set_cons_zero, List.set_cons_succ]
              refine wpAnyH_take (i := 11) (oi := ?oi11) (v := ?v11) ?hi11 (by kernel_rfl) (by kernel_rfl) (by kernel_rfl) ?hq11 (Or.inl ⟨?wa11, ?hy11⟩) (by assumption) ?hr11
              case hi11 => (simp only [List.getElem?_toArray, List.getElem?_cons_succ, List.getElem?_cons_zero]; rfl)
              case wa11 => rfl
              case hy11 => ((intro w hSw; (try dsimp only at hSw); go_simp); all_goals (with_reducible rfl))
              case hq11 => exact fun _ _ _ h => h
              try simp only [Act.put, List.setIfInBounds_toArray, List.set_cons_zero, List.set_cons_succ]
              refine wpAnyH_take (i := 12) (oi := ?oi12) (v := ?v12) ?hi12 (by kernel_rfl) (by kernel_rfl) (by kernel_rfl) ?hq12 (Or.inl ⟨?wa12, ?hy12⟩) (by assumption) ?hr12
              case hi12 => (simp only [List.getElem?_toArray, List.getElem?_cons_succ, List.getElem?_cons_zero]; rfl)
              case wa12 => rfl
              case hy12 => ((intro w hSw; (try dsimp only at hSw); go_simp); all_goals (with_reducible rfl))
              case hq12 => exact fun _ _ _ h => h
              try simp only [Act.put, List.setIfInBounds_toArray, List.set_cons_zero, List.set_cons_succ]
              refine wpAnyH_take (i := 13) (oi := ?oi13) (v := ?v13) ?hi13 (by kernel_rfl) (by kernel_rfl) (by kernel_rfl) ?hq13 (Or.inl ⟨?wa13, ?hy13⟩) (by assumption) ?hr13
              case hi13 => (simp only [List.getElem?_toArray, List.getElem?_cons_succ, List.getElem?_cons_zero]; rfl)
              case wa13 => rfl
              case hy13 => ((intro w hSw; (try dsimp only at hSw); go_simp); all_goals (with_reducible rfl))
              case hq13 => exact fun _ _ _ h => h
              try simp only [Act.put, List.setIfInBounds_toArray, List.set_cons_zero, List.set_cons_succ]
              refine wpAnyH_take (i := 14) (oi := ?oi14) (v := ?v14) ?hi14 (by kernel_rfl) (by kernel_rfl) (by kernel_rfl) ?hq14 (Or.inl ⟨?wa14, ?hy14⟩) (by assumption) ?hr14
              case hi14 => (simp only [List.getElem?_toArray, List.getElem?_cons_succ, List.getElem?_cons_zero]; rfl)
              case wa14 => rfl
              case hy14 => ((intro w hSw; (try dsimp only at hSw); go_simp); all_goals (with_reducible rfl))
              case hq14 => exact fun _ _ _ h => h
              try simp only [Act.put, List.setIfInBounds_toArray, List.set_cons_zero, List.set_cons_succ]
              refine wpAnyH_take (i := 15) (oi := ?oi15) (v := ?v15) ?hi15 (by kernel_rfl) (by kernel_rfl) (by kernel_rfl) ?hq15 (Or.inl ⟨?wa15, ?hy15⟩) (by assumption) ?hr15
              case hi15 => (simp only [List.getElem?_toArray, List.getElem?_cons_succ, List.getElem?_cons_zero]; rfl)
              case wa15 => rfl
              case hy15 => ((intro w hSw; (try dsimp only at hSw); go_simp); all_goals (with_reducible rfl))
              case hq15 => exact fun _ _ _ h => h
              try simp only [Act.put, List.setIfInBounds_toArray, List.set_cons_zero, List.set_cons_succ]
              refine wpAnyH_take (i := 16) (oi := ?oi16) (v := ?v16) ?hi16 (by kernel_rfl) (by kernel_rfl) (by kernel_rfl) ?hq16 (Or.inl ⟨?wa16, ?hy16⟩) (by assumption) ?hr16
              case hi16 => (simp only [List.getElem?_toArray, List.getElem?_cons_succ, List.getElem?_cons_zero]; rfl)
              case wa16 => rfl
              case hy16 => ((intro w hSw; (try dsimp only at hSw); go_simp); all_goals (with_reducible rfl))
              case hq16 => exact fun _ _ _ h => h
              try simp only [Act.put, List.setIfInBounds_toArray, List.set_cons_zero, List.set_cons_succ]
              refine wpAnyH_take (i := 17) (oi := ?oi17) (v := ?v17) ?hi17 (by kernel_rfl) (by kernel_rfl) (by kernel_rfl) ?hq17 (Or.inl ⟨?wa17, ?hy17⟩) (by assumption) ?hr17
              case hi17 => (simp only [List.getElem?_toArray, List.getElem?_cons_succ, List.getElem?_cons_zero]; rfl)
              case wa17 => rfl
              case hy17 => ((intro w hSw; (try dsimp only at hSw); go_simp); all_goals (with_reducible rfl))
              case hq17 => exact fun _ _ _ h => h
              try simp only [Act.put, List.setIfInBounds_toArray, List.set_cons_zero, List.set_cons_succ]
              refine wpAnyH_take (i := 18) (oi := ?oi18) (v := ?v18) ?hi18 (by kernel_rfl) (by kernel_rfl) (by kernel_rfl) ?hq18 (Or.inl ⟨?wa18, ?hy18⟩) (by assumption) ?hr18
              case hi18 => (simp only [List.getElem?_toArray, List.getElem?_cons_succ, List.getElem?_cons_zero]; rfl)
              case wa18 => rfl
              case hy18 => ((intro w hSw; (try dsimp only at hSw); go_simp); all_goals (with_reducible rfl))
              case hq18 => exact fun _ _ _ h => h
              try simp only [Act.put, List.setIfInBounds_toArray, List.set_cons_zero, List.set_cons_succ]
              refine wpAnyH_take (i := 19) (oi := ?oi19) (v := ?v19) ?hi19 (by kernel_rfl) (by kernel_rfl) (by kernel_rfl) ?hq19 (Or.inl ⟨?wa19, ?hy19⟩) (by assumption) ?hr19
              case hi19 => (simp only [List.getElem?_toArray, List.getElem?_cons_succ, List.getElem?_cons_zero]; rfl)
              case wa19 => rfl
              case hy19 => ((intro w hSw; (try dsimp only at hSw); go_simp); all_goals (with_reducible rfl))
              case hq19 => exact fun _ _ _ h => h
              try simp only [Act.put, List.setIfInBounds_toArray, List.set_cons_zero, List.set_cons_succ]
              refine wpAnyH_ready (rs := [8]) (by kernel_rfl) (by simp) ?_
              refine AllReadyH.cons (i := 8) (o := ?oi8) ?hi8 ?st8 AllReadyH.nil
              case hi8 => (simp only [List.getElem?_toArray, List.getElem?_cons_succ, List.getElem?_cons_zero]; rfl)
              intro K hK
              go_simp
              refine (HQue.out _ HJ4.out).mono ?_
              rintro e w5 ⟨A5, c5, rfl, hb5⟩
              have HJ5 := hid (HJ4.out.later hb5)
              clear hb5
              go_wp2_with fail
              refine hK.out _ _ ?_ (fun hHeld => ?_)
              · exact ⟨HJ5.out.grid.cell HV2.out, own_cell0 HJ5.out.had HXC.out⟩
              clear hK K
              try simp only [Act.put, List.setIfInBounds_toArray, List.set_cons_zero, List.set_cons_succ]
              refine wpAnyH_take (i := 9) (oi := ?oi9) (v := ?v9) ?hi9 (by kernel_rfl) (by kernel_rfl) (by kernel_rfl) ?hq9 (Or.inl ⟨?wa9, ?hy9⟩) (by assumption) ?hr9
              case hi9 => (simp only [List.getElem?_toArray, List.getElem?_cons_succ, List.getElem?_cons_zero]; rfl)
              case wa9 => rfl
              case hy9 => ((intro w hSw; (try dsimp only at hSw); go_simp); all_goals (with_reducible rfl))
              case hq9 => exact fun _ _ _ h => h
              try simp only [Act.put, List.setIfInBounds_toArray, List.set_cons_zero, List.set_cons_succ]
              refine wpAnyH_take (i := 20) (oi := ?oi20) (v := ?v20) ?hi20 (by kernel_rfl) (by kernel_rfl) (by kernel_rfl) ?hq20 (Or.inl ⟨?wa20, ?hy20⟩) (by assumption) ?hr20
              case hi20 => (simp only [List.getElem?_toArray, List.getElem?_cons_succ, List.getElem?_cons_zero]; rfl)
              case wa20 => rfl
              case hy20 => ((intro w hSw; (try dsimp only at hSw); go_simp); all_goals (with_reducible rfl))
              case hq20 => exact fun _ _ _ h => h
              try simp only [Act.put, List.setIfInBounds_toArray, List.set_cons_zero, List.set_cons_succ]
              refine wpAnyH_take (i := 21) (oi := ?oi21) (v := ?v21) ?hi21 (by kernel_rfl) (by kernel_rfl) (by kernel_rfl) ?hq21 (Or.inl ⟨?wa21, ?hy21⟩) (by assumption) ?hr21
              case hi21 => (simp only [List.getElem?_toArray, List.getElem?_cons_succ, List.getElem?_cons_zero]; rfl)
              case wa21 => rfl
              case hy21 => ((intro w hSw; (try dsimp only at hSw); go_simp); all_goals (with_reducible rfl))
              case hq21 => exact fun _ _ _ h => h
              try simp only [Act.put, List.setIfInBounds_toArray, List.set_cons_zero, List.set_cons_succ]
              refine wpAnyH_take (i := 22) (oi := ?oi22) (v := ?v22) ?hi22 (by kernel_rfl) (by kernel_rfl) (by kernel_rfl) ?hq22 (Or.inl ⟨?wa22, ?hy22⟩) (by assumption) ?hr22
              case hi22 => (simp only [List.getElem?_toArray, List.getElem?_cons_succ, List.getElem?_cons_zero]; rfl)
              case wa22 => rfl
              case hy22 => ((intro w hSw; (try dsimp only at hSw); go_simp); all_goals (with_reducible rfl))
              case hq22 => exact fun _ _ _ h => h
              try simp only [Act.put, List.setIfInBounds_toArray, List.set_cons_zero, List.set_cons_succ]
              refine wpAnyH_take (i := 23) (oi := ?oi23) (v := ?v23) ?hi23 (by kernel_rfl) (by kernel_rfl) (by kernel_rfl) ?hq23 (Or.inl ⟨?wa23, ?hy23⟩) (by assumption) ?hr23
              case hi23 => (simp only [List.getElem?_toArray, List.getElem?_cons_succ, List.getElem?_cons_zero]; rfl)
              case wa23 => rfl
              case hy23 => ((intro w hSw; (try dsimp only at hSw); go_simp); all_goals (with_reducible rfl))
              case hq23 => exact fun _ _ _ h => h
              try simp only [Act.put, List.setIfInBounds_toArray, List.set_cons_zero, List.set_cons_succ]
              refine wpAnyH_take (i := 24) (oi := ?oi24) (v := ?v24) ?hi24 (by kernel_rfl) (by kernel_rfl) (by kernel_rfl) ?hq24 (Or.inl ⟨?wa24, ?hy24⟩) (by assumption) ?hr24
              case hi24 => (simp only [List.getElem?_toArray, List.getElem?_cons_succ, List.getElem?_cons_zero]; rfl)
              case wa24 => rfl
              case hy24 => ((intro w hSw; (try dsimp only at hSw); go_simp); all_goals (with_reducible rfl))
              case hq24 => exact fun _ _ _ h => h
              try simp only [Act.put, List.setIfInBounds_toArray, List.set_cons_zero, List.set_cons_succ]
              refine wpAnyH_take (i := 25) (oi := ?oi25) (v := ?v25) ?hi25 (by kernel_rfl) (by kernel_rfl) (by kernel_rfl) ?hq25 (Or.inl ⟨?wa25, ?hy25⟩) (by assumption) ?hr25
              case hi25 => (simp only [List.getElem?_toArray, List.getElem?_cons_succ, List.getElem?_cons_zero]; rfl)
              case wa25 => rfl
              case hy25 => ((intro w hSw; (try dsimp only at hSw); go_simp); all_goals (with_reducible rfl))
              case hq25 => exact fun _ _ _ h => h
              try simp only [Act.put, List.setIfInBounds_toArray, List.set_cons_zero, List.set_cons_succ]
              refine wpAnyH_take (i := 26) (oi := ?oi26) (v := undef) ?hi26 (by kernel_rfl) (by kernel_rfl) (by kernel_rfl) ?hq26 (Or.inr ⟨?wa26, rfl⟩) (by assumption) ?hr26
              case hi26 => (simp only [List.getElem?_toArray, List.getElem?_cons_succ, List.getElem?_cons_zero]; rfl)
              case wa26 => rfl
              case hq26 => exact fun _ _ _ h => h
              try simp only [Act.put, List.setIfInBounds_toArray, List.set_cons_zero, List.set_cons_succ]
              refine wpAnyH_take (i := 27) (oi := ?oi27) (v := undef) ?hi27 (by kernel_rfl) (by kernel_rfl) (by kernel_rfl) ?hq27 (Or.inr ⟨?wa27, rfl⟩) (by assumption) ?hr27
              case hi27 => (simp only [List.getElem?_toArray, List.getElem?_cons_succ, List.getElem?_cons_zero]; rfl)
              case wa27 => rfl
              case hq27 => exact fun _ _ _ h => h
              try simp only [Act.put, List.setIfInBounds_toArray, List.set_cons_zero, List.set_cons_succ]
              refine wpAnyH_take (i := 28) (oi := ?oi28) (v := undef) ?hi28 (by kernel_rfl) (by kernel_rfl) (by kernel_rfl) ?hq28 (Or.inr ⟨?wa28, rfl⟩) (by assumption) ?hr28
              case hi28 => (simp only [List.getElem?_toArray, List.getElem?_cons_succ, List.getElem?_cons_zero]; rfl)
              case wa28 => rfl
              case hq28 => exact fun _ _ _ h => h
              try simp only [Act.put, List.setIfInBounds_toArray, List.set_cons_zero, List.set_cons_succ]
              refine wpAnyH_take (i := 29) (oi := ?oi29) (v := undef) ?hi29 (by kernel_rfl) (by kernel_rfl) (by kernel_rfl) ?hq29 (Or.inr ⟨?wa29, rfl⟩) (by assumption) ?hr29
              case hi29 => (simp only [List.getElem?_toArray, List.getElem?_cons_succ, List.getElem?_cons_zero]; rfl)
              case wa29 => rfl
              case hq29 => exact fun _ _ _ h => h
              try simp only [Act.put, List.setIfInBounds_toArray, List.set_cons_zero, List.set_cons_succ]
              refine wpAnyH_take (i := 30) (oi := ?oi30) (v := ?v30) ?hi30 (by kernel_rfl) (by kernel_rfl) (by kernel_rfl) ?hq30 (Or.inl ⟨?wa30, ?hy30⟩) (by assumption) ?hr30
              case hi30 => (simp only [List.getElem?_toArray, List.getElem?_cons_succ, List.getElem?_cons_zero]; rfl)
              case wa30 => rfl
              case hy30 => ((intro w hSw; (try dsimp only at hSw); go_simp); all_goals (with_reducible rfl))
              case hq30 => exact fun _ _ _ h => h
              try simp only [Act.put, List.setIfInBounds_toArray, List.set_cons_zero, List.set_cons_succ]
              refine wpAnyH_take (i := 31) (oi := ?oi31) (v := ?v31) ?hi31 (by kernel_rfl) (by kernel_rfl) (by kernel_rfl) ?hq31 (Or.inl ⟨?wa31, ?hy31⟩) (by assumption) ?hr31
              case hi31 => (simp only [List.getElem?_toArray, List.getElem?_cons_succ, List.getElem?_cons_zero]; rfl)
              case wa31 => rfl
              case hy31 => ((intro w hSw; (try dsimp only at hSw); go_simp); all_goals (with_reducible rfl))
              case hq31 => exact fun _ _ _ h => h
              try simp only [Act.put, List.setIfInBounds_toArray, List.set_cons_zero, List.set_cons_succ]
              refine wpAnyH_done (by kernel_rfl) ?_ _
              all_goals
                have HJF := HJ5
                clear HHold HQue HV2 HXC HRW
                go_wp2_with fail
                go_roundw
                case rel => exact ⟨j + 1, by omega, by go_num, HJF.out⟩
                case measure => simp [intOf]; omega
            · have hy0 : 0 ≤ y ∧ y < 24 := by have := (hJ8.lock.inv.nodup j q hq).2 y (by rw [l6]; simp); exact this
              have hhas : hasQ Q' y = true := by
                have hw := hJ8.lock.inv.wants hq (t := y) (by rw [l6]; simp)
                unfold hasQ
                rw [hw, holder_get ⟨by omega, by have := (List.getElem?_eq_some_iff.1 hq).1; omega⟩ (by simpa using hq), l6]
                simp [headQ]
              have HHas := hid (fun W (h : FF w W b bm qv P w2.heap.size vs' (w2.heap.size + 1) (4 * (k + 1)) Q' As' hs') => lock_has h.lock (t := y) (by omega) (by omega))
              rw [hhas] at HHas
              rw [show headQ q = y by rw [l6]; rfl] at HHold
              obtain ⟨xn, rfl⟩ : ∃ xn : Nat, x = xn := ⟨x.toNat, by omega⟩
              obtain ⟨ga, gca, cua, hva, _⟩ := own_shape hrows (by omega)
              cases hva
              have cy : wr.cell? ⟨ga, xn, none⟩ = some (.int .i64 y) := own_cell0 hrows (by simp [intCells]; simpa using l7)
              have hd1 : decide ((xn : Int) < (n : Int)) = true := decide_eq_true (by omega)
              clear hq ha hx hv hrows hn hxc hJ8 l6 l7
              have hJ8 := hJ8'
              go_upto_region 30 with fail
              go_quiet (fail)
              obtain ⟨na, rfl⟩ : ∃ na, na = nq := ⟨nq, rfl⟩
              go_upto_region 31 with fail
              go_quiet (fail)
              go_upto_region 32 with fail
              have HJ0 := hid (hJ8.out.later (w' := (wr.drewN (na + nq)).drew) (below_drewN' (Below.refl _ _) (na + nq + 1)))
              first
                | (go_region_held3 (fun w' => w'.cell? ⟨w2.heap.size, j, none⟩ = some (.slice (some ⟨ga, 0, none⟩) n cv) ∧ w'.cell? ⟨w2.heap.size + 1, j, none⟩ = some (.int .i64 ((xn : Nat) : Int))) (first | exact ⟨HJ6.out.grid.cell HV2.out, own_cell0 HJ6.out.had HXC.out⟩ | exact ⟨HJ5.out.grid.cell HV2.out, own_cell0 HJ5.out.had HXC.out⟩ | exact ⟨HJ4.out.grid.cell HV2.out, own_cell0 HJ4.out.had HXC.out⟩ | exact ⟨HJ0.out.grid.cell HV2.out, own_cell0 HJ0.out.had HXC.out⟩) (first
                | (go_at_call 50; refine (HHold.out _ HJ0.out).mono ?_; rintro e w4 ⟨rfl, n4, hw4⟩; have HJ4 := hid (HJ0.out.later (w' := w4) (by rw [hw4]; exact below_drewN' (Below.refl _ _) n4)); clear hw4)
                | (go_at_call 56; refine (HQue.out _ HJ4.out).mono ?_; rintro e w5 ⟨A5, c5, rfl, hb5⟩; have HJ5 := hid (HJ4.out.later hb5); clear hb5)
                | (go_at_call 54; refine (HHas.out _ HJ5.out).mono ?_; rintro e w6 ⟨rfl, n6, hw6⟩; have HJ6 := hid (HJ5.out.later (w' := w6) (by rw [hw6]; exact below_drewN' (Below.refl _ _) n6)); clear hw6)))
                | fail
              all_goals
                have HJF := HJ6
                clear HHold HQue HV2 HXC HRW
                go_wp2_with fail
                go_roundw
                case rel => exact ⟨j + 1, by omega, by go_num, HJF.out⟩
                case measure => simp [intOf]; omega
          · have HJ8 := hid hJ8
            clear hJ8
            go_wp2_with fail
            go_roundw
            case rel => exact ⟨k + 1, vs', Q', As', hs', by omega, by omega, by go_num, HJ8.out, hV'⟩
            case measure => simp [intOf]; omega
      · have HI := hid hI
        clear hI
        go_wp2_with fail
        go_ret
        exact ⟨rfl, HI.out.below⟩
    · have HI := hid hI
      clear hI
      go_wp2_with fail
      go_ret
      exact ⟨rfl, HI.out.below⟩
end Go.Proofs.Ytcbpbgjngeemoaa
