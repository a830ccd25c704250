/- Joined: RefRight. -/
import Derived.Test.YtppildaahmlfmaaQ20
import Derived.Test.YtppildaahmlfmaaQ16
set_option linter.unusedVariables false
set_option linter.unusedSimpArgs false
/- Package tourbillonref17: Right (contract). -/
set_option linter.unusedVariables false
set_option linter.unusedSimpArgs false
namespace Go.Proofs.Ytppildaahmlfmaa
open Go.RowKit

/-- A slice of counts. -/
structure Tally (w : World) (g n : Nat) (f : Nat → Int) : Prop where
  ex : ∃ C, w.heap[g]? = some (.cells C 3 (0, 0)) ∧ C.size = n ∧ ∀ j, j < n → C[j]? = some (.int .i64 (f j))
section
variable {w w' : World} {g n : Nat} {f f' : Nat → Int}
theorem Tally.kept (h : Tally w g n f) (k : ∀ o, w.heap[g]? = some o → w'.heap[g]? = some o) : Tally w' g n f := by
  obtain ⟨C, h1, h2⟩ := h.ex
  exact ⟨⟨C, k _ h1, h2⟩⟩
theorem Tally.cell (h : Tally w g n f) {j : Nat} (hj : j < n) : w.cell? ⟨g, j, none⟩ = some (.int .i64 (f j)) := by
  obtain ⟨C, h1, h2, h3⟩ := h.ex
  rw [blk_cell h1]
  exact h3 j hj
theorem Tally.free (h : Tally w g n f) (j : Nat) : w.frozen? ⟨g, j, none⟩ = false := by
  obtain ⟨C, h1, _⟩ := h.ex
  exact blk_free h1 j
theorem Tally.set (h : Tally w g n f) {j : Nat} (hj : j < n) (v : Int) (hf : ∀ i, i < n → f' i = if i = j then v else f i) : Tally (w.setCell ⟨g, j, none⟩ (.int .i64 v)) g n f' := by
  obtain ⟨C, h1, h2, h3⟩ := h.ex
  refine ⟨⟨_, blk_set h1 j _, by simpa using h2, fun i hi => ?_⟩⟩
  rw [hf i hi, Array.getElem?_setIfInBounds]
  by_cases e : i = j
  · subst e
    rw [if_pos rfl, if_pos (by omega), if_pos rfl]
  · rw [if_neg (fun h => e h.symm), if_neg e]
    exact h3 i hi
theorem Tally.congr (h : Tally w g n f) (hf : ∀ i, i < n → f' i = f i) : Tally w g n f' := by
  obtain ⟨C, h1, h2, h3⟩ := h.ex
  exact ⟨⟨C, h1, h2, fun j hj => by rw [hf j hj]; exact h3 j hj⟩⟩
theorem Tally.lt (h : Tally w g n f) : g < w.heap.size := by
  obtain ⟨C, h1, _⟩ := h.ex
  exact blk_lt h1
end
/-- The world within the document's Right. -/
structure R17W (w wr : World) (B X Y nc : Nat) (CS : Array Value) (f g : Nat → Int) : Prop where
  below : Below w.heap.size w wr
  b0 : wr.heap[B]? = some (.cells CS 24 (0, 0))
  tx : Tally wr X nc f
  ty : Tally wr Y nc g
  lo : w.heap.size ≤ B
  hx : B < X
  hy : X < Y
section
variable {w wr w' : World} {B X Y nc : Nat} {CS : Array Value} {f g f' g' : Nat → Int}
theorem R17W.later (H : R17W w wr B X Y nc CS f g) (h : Below wr.heap.size wr w') : R17W w w' B X Y nc CS f g :=
  ⟨below_then H.below h, (fr0 h).blk H.b0 (fun h => h), H.tx.kept (fun o ho => (fr0 h).blk ho (fun h => h)), H.ty.kept (fun o ho => (fr0 h).blk ho (fun h => h)), H.lo, H.hx, H.hy⟩
theorem R17W.congr (H : R17W w wr B X Y nc CS f g) (hf : ∀ i, i < nc → f' i = f i) (hg : ∀ i, i < nc → g' i = g i) : R17W w wr B X Y nc CS f' g' := ⟨H.below, H.b0, H.tx.congr hf, H.ty.congr hg, H.lo, H.hx, H.hy⟩
theorem R17W.setX (H : R17W w wr B X Y nc CS f g) {j : Nat} (hj : j < nc) (v : Int) (hf : ∀ i, i < nc → f' i = if i = j then v else f i) : R17W w (wr.setCell ⟨X, j, none⟩ (.int .i64 v)) B X Y nc CS f' g :=
  ⟨H.below.setCell (p := ⟨X, j, none⟩) (by have := H.lo; have := H.hx; simp; omega) _, blk_set_ne H.b0 (by have := H.hx; omega) _ _, H.tx.set hj v hf, H.ty.kept (fun o ho => blk_set_ne ho (by have := H.hy; omega) _ _), H.lo, H.hx, H.hy⟩
theorem R17W.setY (H : R17W w wr B X Y nc CS f g) {j : Nat} (hj : j < nc) (v : Int) (hg : ∀ i, i < nc → g' i = if i = j then v else g i) : R17W w (wr.setCell ⟨Y, j, none⟩ (.int .i64 v)) B X Y nc CS f g' :=
  ⟨H.below.setCell (p := ⟨Y, j, none⟩) (by have := H.lo; have := H.hx; have := H.hy; simp; omega) _, blk_set_ne H.b0 (by have := H.hx; have := H.hy; omega) _ _, H.tx.kept (fun o ho => blk_set_ne ho (by have := H.hy; omega) _ _), H.ty.set hj v hg, H.lo, H.hx, H.hy⟩
end
section
variable {w : World}
abbrev tiF (L : List Pt) : Nat → Int := fun j => (tightN L (j : Int) : Nat)
abbrev usF (S : Sy) (L : List Pt) : Nat → Int := fun j => (usersN S L (j : Int) : Nat)
set_option maxRecDepth 100000 in
set_option maxHeartbeats 6400000 in
theorem rright17_any (S : Sy) (A0 : Option Addr) (n0 c0 : Nat) (A : Option Addr) (n cap : Nat) (P : Pl) (hs : IsSys w (.slice A0 n0 c0) S) (hp : IsPlan w (.slice A n cap) P) :
    Calls Try.prog 22 #[sysV S (.slice A0 n0 c0), .slice A n cap] w fun e w' => e = .returned (.bool (planB S P)) ∧ Below w.heap.size w w' := by
  have hn0 := hs.tasks.len
  have hn := hp.rows.len
  have HS := hid hs
  have HP := hid hp
  have HN0 := hid hn0
  have HN := hid hn
  have hn0m : n0 ≤ 9223372036854775807 := by have := hs.tasks.room; unfold maxLen at this; omega
  have hnm : n ≤ 9223372036854775807 := by have := hp.rows.room; unfold maxLen at this; omega
  have HVR := hid (fun W (h : Below w.heap.size w W) => rright_any (w := W) S A0 c0 n0 (hs.later h))
  obtain ⟨CS, hCS⟩ : ∃ C, C = sysC S (.slice A0 n0 c0) := ⟨_, rfl⟩
  have HCS := hid hCS
  obtain ⟨rb, hrb⟩ : ∃ r, rightS S = r := ⟨_, rfl⟩
  have HRB := hid hrb
  rw [hrb] at HVR
  unfold sysV at *
  clear hs hp hn0 hn hCS hrb
  go_enter Try.func22, Try.ntmps22
  go_wp2_with fail
  refine (HVR.out _ (below_new (Below.refl _ _) _)).mono ?_
  rintro e w1 ⟨rfl, hb1⟩
  have q0 : w1.heap[w.heap.size]? = some (.cells (sysC S (.slice A0 n0 c0)) 24 (0, 0)) := (fr0 hb1).blk (blk_new w _) (fun h => h)
  have hbw := below_then (below_new (Below.refl _ _) _) hb1
  obtain ⟨B, hB⟩ : ∃ B, w.heap.size = B := ⟨_, rfl⟩
  rw [hB] at q0
  rw [← HCS.out] at q0
  have g0 : w1.cell? ⟨B, 8, none⟩ = some (.slice A0 n0 c0) := by rw [blk_cell q0 8, HCS.out]; rfl
  have g1 : w1.cell? ⟨B, 0, none⟩ = some (.int .i64 S.cores) := by rw [blk_cell q0 0, HCS.out]; rfl
  have HQ0 := hid q0
  have HBW := hid hbw
  have hBlt := blk_lt q0
  rw [hB]
  have HB := hid hB
  clear q0 hbw hb1 hB
  cases rb
  case false =>
    have HF := hid (show planB S P = false by unfold planB; rw [HRB.out]; rfl)
    clear HRB
    go_wp2_with fail
    go_ret
    exact ⟨by rw [HF.out]; rfl, HBW.out⟩
  case true =>
    by_cases hl : n = n0
    case neg =>
      have HF := hid (show planB S P = false by
        unfold planB
        rw [decide_eq_false (fun h => hl (by rw [HN.out, HN0.out]; exact h))]
        simp)
      have hne : ((n : Int) != (n0 : Int)) = true := by rw [bne_iff_ne]; omega
      clear HRB
      go_wp2_with fail
      go_ret
      exact ⟨by rw [HF.out]; rfl, HBW.out⟩
    subst hl
    have hne : ((n : Int) != (n : Int)) = false := by simp
    have HSO := hid (rightS_ok HRB.out)
    obtain ⟨nc, hnc⟩ : ∃ nc : Nat, S.cores = nc := ⟨S.cores.toNat, by have := HSO.out.cores; omega⟩
    have hnc8 : nc ≤ 8 := by have := HSO.out.cores; omega
    obtain ⟨C0, hC0⟩ : ∃ C, C = (List.replicate nc (.int .i64 0) : List Value).toArray := ⟨_, rfl⟩
    have hmake : ∀ w, (Instr.makeSlice 27 (.int .i64 S.cores) (.int .i64 S.cores)).run Try.prog w = .ok (.slice (some ⟨w.heap.size, 0, none⟩) nc nc) (w.alloc (.cells C0 3)) := fun w => by rw [hnc, hC0]; exact make_ints nc (by omega) w
    have HC0 := hid hC0
    have HNC := hid hnc
    clear hC0 hnc
    go_wp2_with fail
    clear g0 g1 hne hmake
    have hRW : R17W w ((w1.alloc (.cells C0 3)).alloc (.cells C0 3)) B w1.heap.size (w1.heap.size + 1) nc CS (tiF (partsOf (P.take 0))) (usF S (partsOf (P.take 0))) := by
      have hz : ∀ W : World, Tally (W.alloc (.cells C0 3)) W.heap.size nc (fun _ => 0) := fun W => ⟨⟨C0, blk_new W _, by rw [HC0.out]; simp, fun j hj => by rw [HC0.out]; simp [hj]⟩⟩
      have h2 := hz (w1.alloc (.cells C0 3))
      rw [World.size_alloc] at h2
      refine ⟨below_new (below_new HBW.out _) _, blk_old (blk_old HQ0.out _) _, ((hz w1).kept (fun o ho => blk_old ho _)).congr (fun i _ => by simp [tiF, partsOf, tightN]), h2.congr (fun i _ => by simp [usF, partsOf, usersN]), by have := HB.out; omega, hBlt, Nat.lt_succ_self _⟩
    have HRW := hid hRW
    clear hRW hBlt
    obtain ⟨X, hX⟩ : ∃ X, X = w1.heap.size := ⟨_, rfl⟩
    obtain ⟨Y, hY⟩ : ∃ Y, Y = w1.heap.size + 1 := ⟨_, rfl⟩
    rw [← hY, ← hX] at HRW
    try rw [← hY]
    rw [← hX]
    clear hX hY
    go_loopw [8] (fun i wr => ∃ k : Nat, k ≤ n ∧ i = .int .i64 k ∧ Hid (∀ (i : Nat) t l, i < k → S.tasks[i]? = some t → P[i]? = some l → refListB S t l = true) ∧ Hid (R17W w wr B X Y nc CS (tiF (partsOf (P.take k))) (usF S (partsOf (P.take k))))) (fun i _ => n - (intOf i).toNat)
    case atStart => exact ⟨0, by omega, rfl, hid (fun i t l hi => by omega), HRW⟩
    case round =>
      obtain ⟨k, hk, rfl, HALL, HVr⟩ := hrel
      by_cases hlt : k < n
      case pos =>
        obtain ⟨t, ht⟩ : ∃ t, S.tasks[k]? = some t := ⟨_, List.getElem?_eq_getElem (by have := HN0.out; omega)⟩
        obtain ⟨pl, hpl⟩ : ∃ pl, P[k]? = some pl := ⟨_, List.getElem?_eq_getElem (by have := HN.out; omega)⟩
        obtain ⟨b, o, cs, hA, hbl, _, hc, us, hu1, hu2⟩ := HS.out.tasks.at ht
        subst hA
        subst hu1
        obtain ⟨b2, o2, cs2, hA2, hbl2, _, hc2, ul, hv1, hv2⟩ := HP.out.rows.at hpl
        subst hA2
        subst hv1
        obtain ⟨A1, c1, hu3, hu4⟩ := hu2.shape
        obtain ⟨m1, hm1⟩ : ∃ m, m = t.secs.length := ⟨_, rfl⟩
        rw [← hm1] at hu3 hu4
        subst hu3
        obtain ⟨A3, c3, hv3, hv4⟩ := hv2.shape
        obtain ⟨m3, hm3⟩ : ∃ m, m = pl.length := ⟨_, rfl⟩
        rw [← hm3] at hv3 hv4
        subst hv3
        have hpw := HP.out.wf pl (List.mem_of_getElem? hpl)
        have hbr := HVr.out.below
        have hm3m : m3 ≤ 9223372036854775807 := by have := hv2.room; unfold maxLen at this; omega
        have HLI := hid (fun W (h : Below w.heap.size w W) => rlist_any (w := W) S (some ⟨b, o, none⟩) n c0 k t A3 m3 c3 pl (HS.out.later h) HSO.out ht (hv2.later pcR.stays h) hpw)
        have HX := hid ht
        have HY := hid hpl
        have HM3 := hid hm3
        have HV2 := hid hv2
        have HPW := hid hpw
        have HSEC := hid (show secOf S k = decide (0 < m1) by
          unfold secOf
          rw [ht, hm1]
          show (!t.secs.isEmpty) = _
          cases t.secs <;> rfl)
        have HSC := hid (show w.cell? ⟨b, o + k * 4 + 3, none⟩ = some (.slice A1 m1 c1) from hc 3 _ rfl)
        have HRC := hid (show w.cell? ⟨b2, o2 + k, none⟩ = some (.slice A3 m3 c3) from by simpa using hc2 0 _ rfl)
        have HBL := hid hbl
        have HBL2 := hid hbl2
        obtain ⟨v, hv⟩ : ∃ v, refListB S t pl = v := ⟨_, rfl⟩
        rw [hv] at HLI
        have HVV := hid hv
        unfold sysV at HLI
        try simp only at HLI
        obtain ⟨C, hC⟩ : ∃ C : World → Prop, C = fun W => Below wr.heap.size wr W := ⟨_, rfl⟩
        have FS0 := hid (fun W (h : C W) => (show W.cell? ⟨B, 0, none⟩ = some (.int .i64 S.cores) from by rw [hC] at h; rw [blk_cell (HVr.out.later h).b0 0, HCS.out]; rfl))
        have FS1 := hid (fun W (h : C W) => (show W.cell? ⟨B, 1, none⟩ = some (.int .i64 S.policy) from by rw [hC] at h; rw [blk_cell (HVr.out.later h).b0 1, HCS.out]; rfl))
        have FS2 := hid (fun W (h : C W) => (show W.cell? ⟨B, 2, none⟩ = some (.int .i64 S.prot) from by rw [hC] at h; rw [blk_cell (HVr.out.later h).b0 2, HCS.out]; rfl))
        have FS3 := hid (fun W (h : C W) => (show W.cell? ⟨B, 3, none⟩ = some (.int .i64 S.rel) from by rw [hC] at h; rw [blk_cell (HVr.out.later h).b0 3, HCS.out]; rfl))
        have FS4 := hid (fun W (h : C W) => (show W.cell? ⟨B, 4, none⟩ = some (.int .i64 S.sw) from by rw [hC] at h; rw [blk_cell (HVr.out.later h).b0 4, HCS.out]; rfl))
        have FS5 := hid (fun W (h : C W) => (show W.cell? ⟨B, 5, none⟩ = some (.int .i64 S.fin) from by rw [hC] at h; rw [blk_cell (HVr.out.later h).b0 5, HCS.out]; rfl))
        have FS6 := hid (fun W (h : C W) => (show W.cell? ⟨B, 6, none⟩ = some (.int .i64 S.lat) from by rw [hC] at h; rw [blk_cell (HVr.out.later h).b0 6, HCS.out]; rfl))
        have FS7 := hid (fun W (h : C W) => (show W.cell? ⟨B, 7, none⟩ = some (.int .i64 S.resn) from by rw [hC] at h; rw [blk_cell (HVr.out.later h).b0 7, HCS.out]; rfl))
        have FS8 := hid (fun W (h : C W) => (show W.cell? ⟨B, 8, none⟩ = some (.slice (some ⟨b, o, none⟩) n c0) from by rw [hC] at h; rw [blk_cell (HVr.out.later h).b0 8, HCS.out]; rfl))
        have FR := hid (fun W (h : C W) => (show W.cell? ⟨b2, o2 + k, none⟩ = some (.slice A3 m3 c3) from by rw [hC] at h; exact ((below_then hbr h).cell (p := ⟨b2, o2 + k, none⟩) hbl2).trans HRC.out))
        have FL := hid (fun W (h : C W) => ((HLI.out W (by rw [hC] at h; exact below_then hbr h)).mono (fun e w' q => (show e = .returned (.bool v) ∧ C w' from ⟨q.1, by rw [hC] at h ⊢; exact below_then h q.2⟩))))
        have HCC := hid hC
        clear hC hc hbl hbr hbl2 hv ht hpl hu2 hv2 hm1 hm3 hu4 hv4 hc2 hpw
        go_upto_region 9 with fail
        refine wp_region_class (C := C) (by kernel_rfl) (by kernel_rfl) (by rw [HCC.out]; exact (Below.refl _ _).drew) ?_
        repeat (refine wpQuiet_step (fun K hK => ?_); (first | (rw [if_neg (by decide)]; refine hK _ ?_) | (rw [if_pos (by rfl)]; refine Exists.intro ?_ (And.intro (fun W HW => ?_) (hK _ ?_)); rotate_left; (focus (first | (go_simp; exact FL.out W HW) | (have q0 := FS0.out W HW; have q1 := FS1.out W HW; have q2 := FS2.out W HW; have q3 := FS3.out W HW; have q4 := FS4.out W HW; have q5 := FS5.out W HW; have q6 := FS6.out W HW; have q7 := FS7.out W HW; have q8 := FS8.out W HW; have q9 := FR.out W HW; (go_simp); all_goals (with_reducible rfl)))))); clear hK K; try simp only [Act.put, List.setIfInBounds_toArray, List.set_cons_zero, List.set_cons_succ])
        refine wpQuiet_nil ?_
        intro wd hCw
        have HV3 : Hid (R17W w wd B X Y nc CS (tiF (partsOf (P.take k))) (usF S (partsOf (P.take k)))) := by rw [HCC.out] at hCw; exact hid (HVr.out.later hCw)
        clear hCw HCC FS0 FS1 FS2 FS3 FS4 FS5 FS6 FS7 FS8 FR FL HVr
        cases v
        case false =>
          have HF := hid (show planB S P = false from refLists_bad HX.out HY.out HVV.out)
          go_wp2_with fail
          go_ret
          exact ⟨by rw [HF.out]; rfl, HV3.out.below⟩
        case true =>
          have HALL2 := hid (show ∀ (i : Nat) t l, i < k + 1 → S.tasks[i]? = some t → P[i]? = some l → refListB S t l = true from fun i t l hi h1 h2 => by
            by_cases e : i = k
            · subst e
              rw [HX.out] at h1
              rw [HY.out] at h2
              injection h1 with h1
              injection h2 with h2
              rw [← h1, ← h2]
              exact HVV.out
            · exact HALL.out i t l (by omega) h1 h2)
          have HOK := hid (show ∀ (i : Nat) l, i ≤ k → P[i]? = some l → l.length ≤ 8 ∧ ∀ p ∈ l, 0 ≤ p.core ∧ p.core < nc from fun i l hi h2 => by
            have hi2 := (List.getElem?_eq_some_iff.1 h2).1
            have h1 : S.tasks[i]? = some (S.tasks[i]'(by have := HN.out; have := HN0.out; omega)) := List.getElem?_eq_getElem _
            have h3 := HALL2.out i _ l (by omega) h1 h2
            unfold refListB at h3
            rw [Bool.and_eq_true] at h3
            obtain ⟨h4, h5⟩ := listOk_pcs HSO.out (HSO.out.tasks _ (List.mem_of_getElem? h1)) h3.1
            exact ⟨h4, fun p hp => by have := h5 p hp; exact ⟨this.c0, by have := this.c1; have := HNC.out; omega⟩⟩)
          have hk24 : k < 24 := by have := HSO.out.len; have := HN0.out; omega
          have d0 : wd.cell? ⟨b2, o2 + k, none⟩ = some (.slice A3 m3 c3) := (HV3.out.below.cell (p := ⟨b2, o2 + k, none⟩) HBL2.out).trans HRC.out
          go_wp2_with fail
          clear d0
          go_loopw [10] (fun v wr => ∃ j : Nat, j ≤ m3 ∧ v = .int .i64 j ∧ Hid (R17W w wr B X Y nc CS (tiF (seen P k pl j)) (usF S (seen P k pl j)))) (fun v _ => m3 - (intOf v).toNat)
          case atStart => exact ⟨0, by omega, rfl, by rw [seen_zero]; exact HV3⟩
          case round =>
            obtain ⟨j, hj, rfl, HVi⟩ := hrel
            have d0 : wr.cell? ⟨b2, o2 + k, none⟩ = some (.slice A3 m3 c3) := (HVi.out.below.cell (p := ⟨b2, o2 + k, none⟩) HBL2.out).trans HRC.out
            by_cases hjm : j < m3
            case pos =>
              obtain ⟨p, hp⟩ : ∃ p, pl[j]? = some p := ⟨_, List.getElem?_eq_getElem (by have := HM3.out; omega)⟩
              obtain ⟨b4, o4, cs4, hA4, hbl4, _, hc4, hr4⟩ := HV2.out.at hp
              subst hA4
              have hr4' : cs4 = [.int .i64 p.core, .int .i64 p.bud, .int .i64 p.dl, .int .i64 p.prio, .bool p.tight] := hr4
              subst hr4'
              have hpc := (HOK.out k pl (Nat.le_refl _) HY.out).2 p (List.mem_of_getElem? hp)
              obtain ⟨pc, pb, pd, pp, ti⟩ := p
              simp only at hpc hc4
              obtain ⟨jc, rfl⟩ : ∃ jc : Nat, pc = (jc : Int) := ⟨pc.toNat, by omega⟩
              have hjc : jc < nc := by omega
              have HHP := hid hp
              have e0 : wr.cell? ⟨b4, o4 + j * 5, none⟩ = some (.int .i64 jc) := (HVi.out.below.cell (p := ⟨b4, o4 + j * 5, none⟩) hbl4).trans (by simpa using hc4 0 _ rfl)
              have e4 : wr.cell? ⟨b4, o4 + j * 5 + 4, none⟩ = some (.bool ti) := (HVi.out.below.cell (p := ⟨b4, o4 + j * 5 + 4, none⟩) hbl4).trans (hc4 4 _ rfl)
              have hln := seen_len (fun a l ha hl => (HOK.out a l ha hl).1) HY.out j
              obtain ⟨tv, htv⟩ : ∃ x, tiF (seen P k pl j) jc = x := ⟨_, rfl⟩
              obtain ⟨uv, huv⟩ : ∃ x, usF S (seen P k pl j) jc = x := ⟨_, rfl⟩
              have htv2 : 0 ≤ tv ∧ tv ≤ 200 := by rw [← htv]; have := tightN_le (seen P k pl j) (jc : Int); unfold tiF; omega
              have huv2 : 0 ≤ uv ∧ uv ≤ 200 := by rw [← huv]; have := usersN_le S (seen P k pl j) (jc : Int); unfold usF; omega
              have x0 : wr.cell? ⟨X, jc, none⟩ = some (.int .i64 tv) := by rw [HVi.out.tx.cell hjc, htv]
              have x1 : wr.frozen? ⟨X, jc, none⟩ = false := HVi.out.tx.free jc
              have HTV := hid htv
              have HUV := hid huv
              clear hp hbl4 hc4 hr4 hpc hln htv huv
              cases ti
              case true =>
                go_upto_region 18 with fail
                have HW2 : Hid (R17W w (wr.setCell ⟨X, jc, none⟩ (.int .i64 (tv + 1))) B X Y nc CS (tiF (seen P k pl (j + 1))) (usF S (seen P k pl j))) := hid (HVi.out.setX hjc _ (fun i hi => by
                  unfold tiF
                  rw [seen_succ HHP.out, tightN_snoc]
                  by_cases e : i = jc
                  · subst e
                    rw [if_pos ⟨rfl, rfl⟩, if_pos rfl]
                    have := HTV.out
                    unfold tiF at this
                    omega
                  · rw [if_neg (fun h => e (by have := h.1; simp only at this; omega)), if_neg e]))
                generalize wr.setCell ⟨X, jc, none⟩ (.int .i64 (tv + 1)) = w2 at *
                clear d0 e0 e4 x0 x1 HVi
                have s8 : w2.cell? ⟨B, 8, none⟩ = some (.slice (some ⟨b, o, none⟩) n c0) := by rw [blk_cell HW2.out.b0 8, HCS.out]; rfl
                have s3 : w2.cell? ⟨b, o + k * 4 + 3, none⟩ = some (.slice A1 m1 c1) := (HW2.out.below.cell (p := ⟨b, o + k * 4 + 3, none⟩) HBL.out).trans HSC.out
                have y0 : w2.cell? ⟨Y, jc, none⟩ = some (.int .i64 uv) := by rw [HW2.out.ty.cell hjc, HUV.out]
                have y1 : w2.frozen? ⟨Y, jc, none⟩ = false := HW2.out.ty.free jc
                by_cases hm0 : 0 < m1
                case pos =>
                  have hd : decide (0 < m1) = true := decide_eq_true hm0
                  have hd2 : decide (0 < (m1 : Int)) = true := decide_eq_true (by omega)
                  have HW4 : Hid (R17W w (w2.setCell ⟨Y, jc, none⟩ (.int .i64 (uv + 1))) B X Y nc CS (tiF (seen P k pl (j + 1))) (usF S (seen P k pl (j + 1)))) := hid (HW2.out.setY hjc _ (fun i hi => by
                    unfold usF
                    rw [seen_succ HHP.out, usersN_snoc]
                    by_cases e : i = jc
                    · subst e
                      rw [if_pos ⟨rfl, by show secOf S k = true; rw [HSEC.out]; exact hd⟩, if_pos rfl]
                      have := HUV.out
                      unfold usF at this
                      omega
                    · rw [if_neg (fun h => e (by have := h.1; simp only at this; omega)), if_neg e]))
                  go_wp2_with fail
                  go_roundw
                  case rel => exact ⟨j + 1, by omega, by go_num, HW4⟩
                  case measure => simp [intOf]; omega
                case neg =>
                  have hd : decide (0 < m1) = false := decide_eq_false hm0
                  have hd2 : decide (0 < (m1 : Int)) = false := decide_eq_false (by omega)
                  have HW4 : Hid (R17W w w2 B X Y nc CS (tiF (seen P k pl (j + 1))) (usF S (seen P k pl (j + 1)))) := hid (HW2.out.congr (fun _ _ => rfl) (fun i hi => by
                    unfold usF
                    rw [seen_succ HHP.out, usersN_snoc, if_neg (fun h => by have h2 : secOf S k = true := h.2; rw [HSEC.out, hd] at h2; cases h2)]))
                  go_wp2_with fail
                  go_roundw
                  case rel => exact ⟨j + 1, by omega, by go_num, HW4⟩
                  case measure => simp [intOf]; omega
              case false =>
                go_upto_region 18 with fail
                have HW2 : Hid (R17W w wr B X Y nc CS (tiF (seen P k pl (j + 1))) (usF S (seen P k pl j))) := hid (HVi.out.congr (fun i hi => by
                  unfold tiF
                  rw [seen_succ HHP.out, tightN_snoc, if_neg (fun h => by have := h.2; simp at this)]) (fun _ _ => rfl))
                generalize wr = w2 at *
                clear d0 e0 e4 x0 x1 HVi
                have s8 : w2.cell? ⟨B, 8, none⟩ = some (.slice (some ⟨b, o, none⟩) n c0) := by rw [blk_cell HW2.out.b0 8, HCS.out]; rfl
                have s3 : w2.cell? ⟨b, o + k * 4 + 3, none⟩ = some (.slice A1 m1 c1) := (HW2.out.below.cell (p := ⟨b, o + k * 4 + 3, none⟩) HBL.out).trans HSC.out
                have y0 : w2.cell? ⟨Y, jc, none⟩ = some (.int .i64 uv) := by rw [HW2.out.ty.cell hjc, HUV.out]
                have y1 : w2.frozen? ⟨Y, jc, none⟩ = false := HW2.out.ty.free jc
                by_cases hm0 : 0 < m1
                case pos =>
                  have hd : decide (0 < m1) = true := decide_eq_true hm0
                  have hd2 : decide (0 < (m1 : Int)) = true := decide_eq_true (by omega)
                  have HW4 : Hid (R17W w (w2.setCell ⟨Y, jc, none⟩ (.int .i64 (uv + 1))) B X Y nc CS (tiF (seen P k pl (j + 1))) (usF S (seen P k pl (j + 1)))) := hid (HW2.out.setY hjc _ (fun i hi => by
                    unfold usF
                    rw [seen_succ HHP.out, usersN_snoc]
                    by_cases e : i = jc
                    · subst e
                      rw [if_pos ⟨rfl, by show secOf S k = true; rw [HSEC.out]; exact hd⟩, if_pos rfl]
                      have := HUV.out
                      unfold usF at this
                      omega
                    · rw [if_neg (fun h => e (by have := h.1; simp only at this; omega)), if_neg e]))
                  go_wp2_with fail
                  go_roundw
                  case rel => exact ⟨j + 1, by omega, by go_num, HW4⟩
                  case measure => simp [intOf]; omega
                case neg =>
                  have hd : decide (0 < m1) = false := decide_eq_false hm0
                  have hd2 : decide (0 < (m1 : Int)) = false := decide_eq_false (by omega)
                  have HW4 : Hid (R17W w w2 B X Y nc CS (tiF (seen P k pl (j + 1))) (usF S (seen P k pl (j + 1)))) := hid (HW2.out.congr (fun _ _ => rfl) (fun i hi => by
                    unfold usF
                    rw [seen_succ HHP.out, usersN_snoc, if_neg (fun h => by have h2 : secOf S k = true := h.2; rw [HSEC.out, hd] at h2; cases h2)]))
                  go_wp2_with fail
                  go_roundw
                  case rel => exact ⟨j + 1, by omega, by go_num, HW4⟩
                  case measure => simp [intOf]; omega
            case neg =>
              obtain rfl : j = m3 := by omega
              have HV5 : Hid (R17W w wr B X Y nc CS (tiF (partsOf (P.take (k + 1)))) (usF S (partsOf (P.take (k + 1))))) := by
                rw [← seen_all HY.out, ← HM3.out]
                exact HVi
              go_wp2_with fail
              go_roundw
              case rel => exact ⟨k + 1, by omega, by go_num, HALL2, HV5⟩
              case measure => simp [intOf]; omega
      case neg =>
        obtain rfl : k = n := by omega
        obtain ⟨HLS, HDI⟩ := refLists (by rw [← HN.out, ← HN0.out]) (fun i t l h1 h2 => HALL.out i t l (by have := (List.getElem?_eq_some_iff.1 h2).1; rw [HN.out]; exact this) h1 h2)
        have hLS := hid HLS
        have hDI := hid HDI
        have HCO := hid (show ∀ x ∈ partsOf P, 0 ≤ x.p.core ∧ x.p.core < nc from fun x hx => by
          obtain ⟨l, hl, hk2⟩ := mem_parts.1 hx
          have hi2 := (List.getElem?_eq_some_iff.1 hl).1
          have h1 : S.tasks[x.task]? = some (S.tasks[x.task]'(by have := HN.out; have := HN0.out; omega)) := List.getElem?_eq_getElem _
          have := (listOk_pcs HSO.out (HSO.out.tasks _ (List.mem_of_getElem? h1)) (listsB_iff.1 HLS _ _ _ h1 hl)).2 _ (List.mem_of_getElem? hk2)
          exact ⟨this.c0, by have := this.c1; have := HNC.out; omega⟩)
        have HV4 : Hid (R17W w wr B X Y nc CS (tiF (partsOf P)) (usF S (partsOf P))) := by
          have e : P.take k = P := by rw [HN.out, List.take_length]
          rw [e] at HVr
          exact HVr
        clear HALL HVr HLS HDI
        go_wp2_with fail
        go_loopw [12] (fun v wr => ∃ c : Nat, c ≤ nc ∧ v = .int .i64 c ∧ Hid (∀ i : Nat, i < c → tightN (partsOf P) i ≤ 1 ∧ (tightN (partsOf P) i = 1 → usersN S (partsOf P) i = 0)) ∧ Hid (R17W w wr B X Y nc CS (tiF (partsOf P)) (usF S (partsOf P)))) (fun v _ => nc - (intOf v).toNat)
        case atStart => exact ⟨0, by omega, rfl, hid (fun i hi => by omega), HV4⟩
        case round =>
          obtain ⟨c, hc, rfl, HGO, HVi⟩ := hrel
          have s0 : wr.cell? ⟨B, 0, none⟩ = some (.int .i64 S.cores) := by rw [blk_cell HVi.out.b0 0, HCS.out]; rfl
          by_cases hcn : c < nc
          case pos =>
            have hcd : decide ((c : Int) < S.cores) = true := decide_eq_true (by have := HNC.out; omega)
            obtain ⟨tv, htv⟩ : ∃ x, tiF (partsOf P) c = x := ⟨_, rfl⟩
            obtain ⟨uv, huv⟩ : ∃ x, usF S (partsOf P) c = x := ⟨_, rfl⟩
            have x0 : wr.cell? ⟨X, c, none⟩ = some (.int .i64 tv) := by rw [HVi.out.tx.cell hcn, htv]
            have y0 : wr.cell? ⟨Y, c, none⟩ = some (.int .i64 uv) := by rw [HVi.out.ty.cell hcn, huv]
            have HTV := hid (show (tightN (partsOf P) (c : Int) : Int) = tv from htv)
            have HUV := hid (show (usersN S (partsOf P) (c : Int) : Int) = uv from huv)
            clear htv huv
            by_cases h1 : 1 < tv
            case pos =>
              have hd1 : decide (1 < tv) = true := decide_eq_true h1
              have HF := hid (show planB S P = false by
                unfold planB
                rw [cores_bad (c := (c : Int)) (.inl (by have := HTV.out; omega))]
                simp)
              go_wp2_with fail
              go_ret
              exact ⟨by rw [HF.out]; rfl, HVi.out.below⟩
            have hd1 : decide (1 < tv) = false := decide_eq_false h1
            by_cases h2 : tv = 1
            case pos =>
              have hd2 : (tv == 1) = true := beq_iff_eq.2 h2
              by_cases h3 : 0 < uv
              case pos =>
                have hd3 : decide (0 < uv) = true := decide_eq_true h3
                have HF := hid (show planB S P = false by
                  unfold planB
                  rw [cores_bad (c := (c : Int)) (.inr ⟨by have := HTV.out; omega, by have := HUV.out; omega⟩)]
                  simp)
                clear h2
                go_wp2_with fail
                go_ret
                exact ⟨by rw [HF.out]; rfl, HVi.out.below⟩
              have hd3 : decide (0 < uv) = false := decide_eq_false h3
              have HGO2 := hid (show ∀ i : Nat, i < c + 1 → tightN (partsOf P) i ≤ 1 ∧ (tightN (partsOf P) i = 1 → usersN S (partsOf P) i = 0) from fun i hi => by
                by_cases e : i = c
                · subst e
                  have := HTV.out
                  have := HUV.out
                  exact ⟨by omega, fun _ => by omega⟩
                · exact HGO.out i (by omega))
              clear h2
              go_wp2_with fail
              go_roundw
              case rel => exact ⟨c + 1, by omega, by go_num, HGO2, HVi⟩
              case measure => simp [intOf]; omega
            case neg =>
              have hd2 : (tv == 1) = false := beq_eq_false_iff_ne.2 h2
              have HGO2 := hid (show ∀ i : Nat, i < c + 1 → tightN (partsOf P) i ≤ 1 ∧ (tightN (partsOf P) i = 1 → usersN S (partsOf P) i = 0) from fun i hi => by
                by_cases e : i = c
                · subst e
                  have := HTV.out
                  exact ⟨by omega, fun _ => by omega⟩
                · exact HGO.out i (by omega))
              clear h2
              go_wp2_with fail
              go_roundw
              case rel => exact ⟨c + 1, by omega, by go_num, HGO2, HVi⟩
              case measure => simp [intOf]; omega
          case neg =>
            obtain rfl : c = nc := by omega
            have hcd : decide ((c : Int) < S.cores) = false := decide_eq_false (by have := HNC.out; omega)
            have HF := hid (show planB S P = true by
              unfold planB
              rw [HRB.out, decide_eq_true (show P.length = S.tasks.length by rw [← HN.out, ← HN0.out]), hLS.out, hDI.out, cores_good HCO.out HGO.out]
              rfl)
            go_wp2_with fail
            go_ret
            exact ⟨by rw [HF.out]; rfl, HVi.out.below⟩
end
end Go.Proofs.Ytppildaahmlfmaa
