/- Joined: PRight. -/
import Derived.Test.YtppildaahmlfmaaQ17
set_option linter.unusedVariables false
set_option linter.unusedSimpArgs false
/- analysis.Right (contract). -/
set_option linter.unusedVariables false
set_option linter.unusedSimpArgs false
namespace Go.Proofs.Ytppildaahmlfmaa
open Go.RowKit Go.Shelf Go.Maps
attribute [local go_sem] Oper.semAt_some
attribute [local irreducible] wpStill

theorem RI.snoc {w W : World} {B Z : Nat} {CS : Array Value} {S : Sy} {L : List Pt} {x : Pt} {v : Bool} (H : RI w W B Z CS (L.length + 1) (L.length + 1) (L.length + 1) (fun z => if z = ((x.task : Int), x.p.core) then some true else hasF L z) (tightF (L ++ [x])) (fun z => if z = x.p.core then some v else usersF S L z)) (hv : v = ((usersF S L x.p.core).getD false || secOf S x.task)) :
    RIL w W B Z CS S (L ++ [x]) :=
  H.congr (by simp) (by simp) (by simp) (fun q => (hasF_snoc L x q).symm) (fun _ => rfl) (fun c => by rw [usersF_snoc, hv])
theorem PW.close {w wr : World} {B D : Nat} {CS : Array Value} (H : PW w wr B CS) (hD : B + 1 < D) (b : Bool) :
    ((wr.setCell ⟨B + 1, 0, none⟩ (.bool b)).putObj D (.deferred none)).cell? ⟨B + 1, 0, none⟩ = some (.bool b) ∧ Below w.heap.size w ((wr.setCell ⟨B + 1, 0, none⟩ (.bool b)).putObj D (.deferred none)) := by
  have h1 := blk_grown (blk_set H.b1 0 (.bool b)) (grownBy_putObj' (wr.setCell ⟨B + 1, 0, none⟩ (.bool b)) D (.deferred none)) (fun e => by injection e with e; omega)
  have h2 := (H.put b).2
  exact ⟨blk_cell h1 0, h2.grown (grownBy_putObj' _ D _) h2.size (fun k e => by cases e; have := H.lo; omega)⟩
section
variable {w : World}
set_option maxRecDepth 100000 in
set_option maxHeartbeats 6400000 in
theorem pright_in (S : Sy) (A0 : Option Addr) (n0 c0 : Nat) (A : Option Addr) (n cap : Nat) (P : Pl) (hs : IsSys w (.slice A0 n0 c0) S) (hp : IsPlan w (.slice A n cap) P) :
    CallsIn Fence.wide 5 Try.prog 12 #[sysV S (.slice A0 n0 c0), .slice A n cap] w fun e w' => e = .returned (.bool (planB S P)) ∧ Below w.heap.size w w' := by
  have hn0 := hs.tasks.len
  have hn := hp.rows.len
  have HS := hid hs
  have HP := hid hp
  have HN0 := hid hn0
  have HN := hid hn
  have hn0m : n0 ≤ 9223372036854775807 := by have := hs.tasks.room; unfold maxLen at this; omega
  have hnm : n ≤ 9223372036854775807 := by have := hp.rows.room; unfold maxLen at this; omega
  have HVR := hid (fun W (h : Below w.heap.size w W) => vright_any (w := W) S A0 c0 n0 (hs.later h))
  obtain ⟨CS, hCS⟩ : ∃ C, C = sysC S (.slice A0 n0 c0) := ⟨_, rfl⟩
  have HCS := hid hCS
  obtain ⟨rb, hrb⟩ : ∃ r, rightS S = r := ⟨_, rfl⟩
  have HRB := hid hrb
  rw [hrb] at HVR
  unfold sysV at *
  clear hs hp hn0 hn hCS hrb
  refine callsIn_of_wp_marks Try.func12 rfl trivial ?_ rfl
  simp only [Try.ntmps12, List.size_toArray, List.length_cons, List.length_nil, Nat.reduceAdd, Nat.reduceSub, Array.replicate_succ, Array.replicate_zero, List.push_toArray, List.append_toArray, List.nil_append, List.cons_append]
  refine wpIn_wide.2 ?_
  go_wp2_with fail
  refine (HVR.out _ (below_new (below_new (Below.refl _ _) _) _)).mono ?_
  rintro e w1 ⟨rfl, hb1⟩
  have q0 : w1.heap[w.heap.size]? = some (.cells (sysC S (.slice A0 n0 c0)) 24 (0, 0)) := (fr0 hb1).blk (blk_old (blk_new w _) _) (fun h => h)
  have q1 : w1.heap[w.heap.size + 1]? = some (.cells #[.bool false] 4 (0, 0)) := by
    have := (fr0 hb1).blk (blk_new (w.alloc (.cells (sysC S (.slice A0 n0 c0)) 24)) (.cells #[.bool false] 4)) (fun h => h)
    simpa using this
  have hV : PW w w1 w.heap.size (sysC S (.slice A0 n0 c0)) := ⟨below_then (below_new (below_new (Below.refl _ _) _) _) hb1, Nat.le_refl _, q0, q1⟩
  obtain ⟨B, hB⟩ : ∃ B, w.heap.size = B := ⟨_, rfl⟩
  rw [hB] at hV
  rw [← HCS.out] at hV
  have HV := hid hV
  have g0 : w1.cell? ⟨B, 8, none⟩ = some (.slice A0 n0 c0) := by rw [← hB]; exact blk_cell q0 8
  have g1 : w1.cell? ⟨B + 1, 0, none⟩ = some (.bool false) := blk_cell hV.b1 0
  have g2 : w1.frozen? ⟨B + 1, 0, none⟩ = false := blk_free hV.b1 0
  rw [hB]
  have HB := hid hB
  clear hV q0 q1 hb1 hB
  cases rb
  case false =>
    have HF := hid (show planB S P = false by unfold planB; rw [HRB.out]; rfl)
    clear HRB
    go_wp2_with fail
    obtain ⟨y0, yb⟩ := HV.out.put false
    exact ⟨.bool false, by simp [results, Try.f12, go_sem, y0], by rw [HF.out], yb⟩
  case true =>
    by_cases hl : n = n0
    case neg =>
      have HF := hid (show planB S P = false by
        unfold planB
        rw [decide_eq_false (fun h => hl (by rw [HN.out, HN0.out]; exact h))]
        simp)
      have hne : ((n : Int) != (n0 : Int)) = true := by rw [bne_iff_ne]; omega
      clear HRB
      go_wp2_with fail
      obtain ⟨y0, yb⟩ := HV.out.put false
      exact ⟨.bool false, by simp [results, Try.f12, go_sem, y0], by rw [HF.out], yb⟩
    subst hl
    have hne : ((n : Int) != (n : Int)) = false := by simp
    go_wp2_with fail
    clear g0 g1 g2 hne
    have HSO := hid (rightS_ok HRB.out)
    go_loopw [27] (fun i wr => ∃ k : Nat, k ≤ n ∧ i = .int .i64 k ∧ Hid (∀ (i : Nat) t l, i < k → S.tasks[i]? = some t → P[i]? = some l → listOkB S t l = true) ∧ Hid (PW w wr B CS)) (fun i _ => n - (intOf i).toNat)
    case atStart => exact ⟨0, by omega, rfl, hid (fun i t l hi => by omega), HV⟩
    case round =>
      obtain ⟨k, hk, rfl, HALL, HVr⟩ := hrel
      by_cases hlt : k < n
      case pos =>
        obtain ⟨t, ht⟩ : ∃ t, S.tasks[k]? = some t := ⟨_, List.getElem?_eq_getElem (by have := HN0.out; omega)⟩
        obtain ⟨pl, hpl⟩ : ∃ pl, P[k]? = some pl := ⟨_, List.getElem?_eq_getElem (by have := HN.out; omega)⟩
        obtain ⟨b, o, cs, hA, hbl, _, hc, us, hu1, hu2⟩ := HS.out.tasks.at ht
        subst hA
        subst hu1
        obtain ⟨b2, o2, cs2, hA2, hbl2, _, hc2, ul, hv1, hv2⟩ := HP.out.rows.at hpl
        subst hA2
        subst hv1
        obtain ⟨A1, c1, hu3, hu4⟩ := hu2.shape
        obtain ⟨m1, hm1⟩ : ∃ m, m = t.secs.length := ⟨_, rfl⟩
        rw [← hm1] at hu3 hu4
        subst hu3
        obtain ⟨A3, c3, hv3, hv4⟩ := hv2.shape
        obtain ⟨m3, hm3⟩ : ∃ m, m = pl.length := ⟨_, rfl⟩
        rw [← hm3] at hv3 hv4
        subst hv3
        have htk := HSO.out.tasks t (List.mem_of_getElem? ht)
        have hpw := HP.out.wf pl (List.mem_of_getElem? hpl)
        have hbr := HVr.out.below
        have HLI := hid (fun W (h : Below w.heap.size w W) => list_any (w := W) S (.slice (some ⟨b, o, none⟩) n c0) t A1 c1 m1 A3 m3 c3 pl HSO.out htk hm1 (hv2.later pcR.stays h) hpw)
        have HX := hid ht
        have HY := hid hpl
        have d0 : wr.cell? ⟨b2, o2 + k, none⟩ = some (.slice A3 m3 c3) := (hbr.cell (p := ⟨b2, o2 + k, none⟩) hbl2).trans (by simpa using hc2 0 _ rfl)
        obtain ⟨v, hv⟩ : ∃ v, listOkB S t pl = v := ⟨_, rfl⟩
        rw [hv] at HLI
        have HVV := hid hv
        obtain ⟨tp, td, tw, ss⟩ := t
        unfold sysV tskV at HLI
        simp only at HLI hc
        obtain ⟨C, hC⟩ : ∃ C : World → Prop, C = fun W => Below wr.heap.size wr W := ⟨_, rfl⟩
        clear hv ht hpl hu2 hv2 htk hpw hm1 hm3 hu4 hv4 hc2 hbl2
        have FS0 := hid (fun W (h : C W) => (show W.cell? ⟨B, 0, none⟩ = some (.int .i64 S.cores) from by rw [hC] at h; rw [blk_cell ((HVr.out.later h).b0) 0, HCS.out]; rfl))
        have FS1 := hid (fun W (h : C W) => (show W.cell? ⟨B, 1, none⟩ = some (.int .i64 S.policy) from by rw [hC] at h; rw [blk_cell ((HVr.out.later h).b0) 1, HCS.out]; rfl))
        have FS2 := hid (fun W (h : C W) => (show W.cell? ⟨B, 2, none⟩ = some (.int .i64 S.prot) from by rw [hC] at h; rw [blk_cell ((HVr.out.later h).b0) 2, HCS.out]; rfl))
        have FS3 := hid (fun W (h : C W) => (show W.cell? ⟨B, 3, none⟩ = some (.int .i64 S.rel) from by rw [hC] at h; rw [blk_cell ((HVr.out.later h).b0) 3, HCS.out]; rfl))
        have FS4 := hid (fun W (h : C W) => (show W.cell? ⟨B, 4, none⟩ = some (.int .i64 S.sw) from by rw [hC] at h; rw [blk_cell ((HVr.out.later h).b0) 4, HCS.out]; rfl))
        have FS5 := hid (fun W (h : C W) => (show W.cell? ⟨B, 5, none⟩ = some (.int .i64 S.fin) from by rw [hC] at h; rw [blk_cell ((HVr.out.later h).b0) 5, HCS.out]; rfl))
        have FS6 := hid (fun W (h : C W) => (show W.cell? ⟨B, 6, none⟩ = some (.int .i64 S.lat) from by rw [hC] at h; rw [blk_cell ((HVr.out.later h).b0) 6, HCS.out]; rfl))
        have FS7 := hid (fun W (h : C W) => (show W.cell? ⟨B, 7, none⟩ = some (.int .i64 S.resn) from by rw [hC] at h; rw [blk_cell ((HVr.out.later h).b0) 7, HCS.out]; rfl))
        have FS8 := hid (fun W (h : C W) => (show W.cell? ⟨B, 8, none⟩ = some (.slice (some ⟨b, o, none⟩) n c0) from by rw [hC] at h; rw [blk_cell ((HVr.out.later h).b0) 8, HCS.out]; rfl))
        have FT0 := hid (fun W (h : C W) => (show W.cell? ⟨b, o + k * 4, none⟩ = some (.int .i64 tp) from by rw [hC] at h; exact ((below_then hbr h).cell (p := ⟨b, o + k * 4, none⟩) hbl).trans (by simpa using hc 0 _ rfl)))
        have FT1 := hid (fun W (h : C W) => (show W.cell? ⟨b, o + k * 4 + 1, none⟩ = some (.int .i64 td) from by rw [hC] at h; exact ((below_then hbr h).cell (p := ⟨b, o + k * 4 + 1, none⟩) hbl).trans (hc 1 _ rfl)))
        have FT2 := hid (fun W (h : C W) => (show W.cell? ⟨b, o + k * 4 + 2, none⟩ = some (.int .i64 tw) from by rw [hC] at h; exact ((below_then hbr h).cell (p := ⟨b, o + k * 4 + 2, none⟩) hbl).trans (hc 2 _ rfl)))
        have FT3 := hid (fun W (h : C W) => (show W.cell? ⟨b, o + k * 4 + 3, none⟩ = some (.slice A1 m1 c1) from by rw [hC] at h; exact ((below_then hbr h).cell (p := ⟨b, o + k * 4 + 3, none⟩) hbl).trans (hc 3 _ rfl)))
        have FL := hid (fun W (h : C W) => ((HLI.out W (by rw [hC] at h; exact below_then hbr h)).mono (fun e w' q => (show e = .returned (.bool v) ∧ C w' from ⟨q.1, by rw [hC] at h ⊢; exact below_then h q.2⟩))))
        have HCC := hid hC
        clear hC hc hbl hbr
        go_upto_region 6 with fail
        refine wp_region_class (C := C) (by kernel_rfl) (by kernel_rfl) (by rw [HCC.out]; exact (Below.refl _ _).drew) ?_
        repeat (refine wpQuiet_step (fun K hK => ?_); (first | (rw [if_neg (by decide)]; refine hK _ ?_) | (rw [if_pos (by rfl)]; refine Exists.intro ?_ (And.intro (fun W HW => ?_) (hK _ ?_)); rotate_left; (focus (first | (go_simp; exact FL.out W HW) | (have q0 := FS0.out W HW; have q1 := FS1.out W HW; have q2 := FS2.out W HW; have q3 := FS3.out W HW; have q4 := FS4.out W HW; have q5 := FS5.out W HW; have q6 := FS6.out W HW; have q7 := FS7.out W HW; have q8 := FS8.out W HW; have q9 := FT0.out W HW; have q10 := FT1.out W HW; have q11 := FT2.out W HW; have q12 := FT3.out W HW; (go_simp); all_goals (with_reducible rfl)))))); clear hK K; try simp only [Act.put, List.setIfInBounds_toArray, List.set_cons_zero, List.set_cons_succ])
        refine wpQuiet_nil ?_
        intro wd hCw
        have HV2 : Hid (PW w wd B CS) := by rw [HCC.out] at hCw; exact hid (HVr.out.later hCw)
        clear hCw d0
        cases v
        case false =>
          have HF := hid (show planB S P = false by
            unfold planB
            have : listsB S S.tasks P = false := by
              cases e : listsB S S.tasks P with
              | false => rfl
              | true => have := listsB_iff.1 e k _ _ HX.out HY.out; rw [HVV.out] at this; cases this
            rw [this]
            simp)
          have g1 : wd.cell? ⟨B + 1, 0, none⟩ = some (.bool false) := blk_cell HV2.out.b1 0
          have g2 : wd.frozen? ⟨B + 1, 0, none⟩ = false := blk_free HV2.out.b1 0
          go_wp2_with fail
          obtain ⟨y0, yb⟩ := HV2.out.put false
          exact ⟨.bool false, by simp [results, Try.f12, go_sem, y0], by rw [HF.out], yb⟩
        case true =>
          have HALL2 := hid (show ∀ (i : Nat) t l, i < k + 1 → S.tasks[i]? = some t → P[i]? = some l → listOkB S t l = true from fun i t l hi h1 h2 => by
            by_cases e : i = k
            · subst e
              rw [HX.out] at h1
              rw [HY.out] at h2
              injection h1 with h1
              injection h2 with h2
              rw [← h1, ← h2]
              exact HVV.out
            · exact HALL.out i t l (by omega) h1 h2)
          go_wp2_with fail
          go_roundw
          case rel => exact ⟨k + 1, by omega, by go_num, HALL2, HV2⟩
          case measure => simp [intOf]; omega
      case neg =>
        obtain rfl : k = n := by omega
        have HLS := hid (show listsB S S.tasks P = true from listsB_iff.2 (fun i t l h1 h2 => HALL.out i t l (by have := (List.getElem?_eq_some_iff.1 h2).1; rw [HN.out]; exact this) h1 h2))
        have HPL := hid (show (partsOf P).length ≤ 192 by
          have h1 : ∀ l ∈ P, l.length ≤ 8 := fun l hl => by
            obtain ⟨i, hi⟩ := List.mem_iff_getElem?.1 hl
            have hi2 := (List.getElem?_eq_some_iff.1 hi).1
            obtain ⟨t, ht⟩ : ∃ t, S.tasks[i]? = some t := ⟨_, List.getElem?_eq_getElem (by have := HN.out; have := HN0.out; omega)⟩
            exact (listOk_pcs HSO.out (HSO.out.tasks t (List.mem_of_getElem? ht)) (HALL.out i t l (by have := HN.out; omega) ht hi)).1
          have h2 := parts_len_le h1
          have h3 := HSO.out.len
          have := HN.out
          have := HN0.out
          omega)
        clear HALL
        have hmm := @run_makeMap Try.prog
        obtain ⟨Z, hZ⟩ : ∃ Z, wr.heap.size = Z := ⟨_, rfl⟩
        go_wp2_with fail
        refine (parts_any A k cap).mono ?_
        rintro e w' ⟨rfl, rfl⟩
        go_wp2_with fail
        have hRI0 := RI.start HVr.out hZ (.cells #[.slice A k cap] 25)
        have hS0 : (((((((wr.alloc (.map #[] 0)).alloc (.cells #[.map (some Z)] 77)).alloc (.map #[] 0)).alloc (.cells #[.map (some (Z + 1 + 1))] 78)).alloc (.map #[] 0)).alloc (.cells #[.map (some (Z + 1 + 1 + 1 + 1))] 79)).alloc (.cells #[.slice A k cap] 25)).heap.size = Z + 7 := by simp [hZ]
        have hbP : (((((((wr.alloc (.map #[] 0)).alloc (.cells #[.map (some Z)] 77)).alloc (.map #[] 0)).alloc (.cells #[.map (some (Z + 1 + 1))] 78)).alloc (.map #[] 0)).alloc (.cells #[.map (some (Z + 1 + 1 + 1 + 1))] 79)).alloc (.cells #[.slice A k cap] 25)).cell? ⟨Z + 1 + 1 + 1 + 1 + 1 + 1, 0, none⟩ = some (.slice A k cap) := by
          have h := blk_cell (blk_new ((((((wr.alloc (.map #[] 0)).alloc (.cells #[.map (some Z)] 77)).alloc (.map #[] 0)).alloc (.cells #[.map (some (Z + 1 + 1))] 78)).alloc (.map #[] 0)).alloc (.cells #[.map (some (Z + 1 + 1 + 1 + 1))] 79)) (.cells #[.slice A k cap] 25)) 0
          simpa [hZ] using h
        generalize hW0 : ((((((wr.alloc (.map #[] 0)).alloc (.cells #[.map (some Z)] 77)).alloc (.map #[] 0)).alloc (.cells #[.map (some (Z + 1 + 1))] 78)).alloc (.map #[] 0)).alloc (.cells #[.map (some (Z + 1 + 1 + 1 + 1))] 79)).alloc (.cells #[.slice A k cap] 25) = W0 at *
        have HZS := hid hS0
        clear hW0 hZ hmm hS0
        refine (wpIn_wide (n := 5)).1 ?_
        refine wpIn_rangeFunc_ownH (F := Fence.wide) rfl (by omega) (gf := 53) (lb := #[.pointer (some ⟨Z + 1 + 1 + 1 + 1 + 1 + 1, 0, none⟩)]) rfl trivial (enters_of Try.func53 (by kernel_rfl) rfl)
          (parts_stops (5 - 1) (by omega) (Z + 1 + 1 + 1 + 1 + 1 + 1) w P A k cap HP.out _ hRI0.pw.below (by have := HZS.out; omega) hbP) belowK_t (belowK_b (by have := HZS.out; have := hRI0.lo; have := hRI0.pw.lo; omega)) (Below.refl _ _) (fun _ => rfl)
          (fun (pre : List (PtOf P)) W => (RIL w W B Z CS S (valsOf pre) ∧ Z + 7 ≤ W.heap.size) ∧ ((valsOf pre).map keyPt).Nodup)
          (fun c (pre : List (PtOf P)) W => PW w W B CS ∧ c = .ret ∧ ¬ ((valsOf pre).map keyPt).Nodup)
          (OwnFrom.and (fun s X Y row hs hg hr => ⟨hs.1.grown hg (fun r e => by have := (hr r e).1; have := HZS.out; omega), Nat.le_trans hs.2 hg.size⟩) (ownFrom_pure _ (fun pre : List (PtOf P) => ((valsOf pre).map keyPt).Nodup)))
          (fun c => OwnFrom.and (fun s X Y row hs hg hr => hs.grown hg (fun r e => by have := (hr r e).1; have := HZS.out; have := hRI0.lo; omega)) (ownFrom_pure _ (fun pre : List (PtOf P) => c = .ret ∧ ¬ ((valsOf pre).map keyPt).Nodup)))
          ⟨⟨hRI0, by have := HZS.out; omega⟩, List.nodup_nil⟩
          (fun x a' W => ∃ Bx, Z + 6 < Bx ∧ W.heap[Bx]? = some (.cells (encPt x.1).toArray 67 (0, 0)) ∧ a' = { tmps := #[.agg #[.int .i64 S.cores, .int .i64 S.policy, .int .i64 S.prot, .int .i64 S.rel, .int .i64 S.sw, .int .i64 S.fin, .int .i64 S.lat, .int .i64 S.resn, .slice A0 k c0], .slice A k cap, .pointer (some ⟨B, 0, none⟩), undef, .pointer (some ⟨B + 1, 0, none⟩), u5, u6, .pointer (some ⟨Z + 1, 0, none⟩), .pointer (some ⟨Z + 1 + 1 + 1, 0, none⟩), .pointer (some ⟨Z + 1 + 1 + 1 + 1 + 1, 0, none⟩), .pointer (some ⟨Bx, 0, none⟩), undef, undef, undef, .agg #[.int .i64 S.cores, .int .i64 S.policy, .int .i64 S.prot, .int .i64 S.rel, .int .i64 S.sw, .int .i64 S.fin, .int .i64 S.lat, .int .i64 S.resn, .slice A0 k c0], .bool true, .bool false, .bool false, .slice A k cap, .int .i64 k, .pointer (some ⟨B, 8, none⟩), .slice A0 k c0, .int .i64 k, .bool false, .bool false, .slice A k cap, .int .i64 k, .int .i64 k, .bool false, u29, u30, u31, u32, u33, u34, u35, u36, u37, u38, u39, u40, u41, .map (some Z), .map (some (Z + 1 + 1)), .map (some (Z + 1 + 1 + 1 + 1)), .slice A k cap, .func (.func 53) #[] #[.pointer (some ⟨Z + 1 + 1 + 1 + 1 + 1 + 1, 0, none⟩)], ptV x.1, undef, undef, undef, undef, undef, undef, undef, undef, undef, undef, undef, undef, undef, undef, undef, undef, undef, undef, undef, undef, undef, undef, undef, undef, undef, undef, undef, undef, undef, undef, undef, undef, undef, undef, undef, undef, undef, undef, undef, undef, undef, undef, undef, undef, undef, undef, undef, undef, undef, undef, undef, undef, undef, undef], defers := [] })
          (fun x a' _ X Y row hs hg hr => by
            obtain ⟨Bx, hlt, hb, ha⟩ := hs
            exact ⟨Bx, hlt, cells_own Bx _ (fun _ : Unit => (encPt x.1).toArray) () X Y row hb hg (fun r e => (hr r e).2), ha⟩) ?assign ?body ?done ?stop
        case assign =>
          rintro l pre ⟨⟨⟨pc, pb, pd, pp, ti⟩, tk, kk⟩, hx⟩ W K ⟨⟨hR, hsz⟩, hnd⟩ hK
          unfold ptA ptV
          gi_wp2
          refine hK _ _ ((KeepsOthers.alloc _ _).from _) ((Below.refl _ W).alloc hR.pw.below.size _) ⟨⟨hR.new _, by simp; omega⟩, hnd⟩ ⟨W.heap.size, by omega, blk_new W _, rfl⟩
        case body =>
          rintro l pre x a' W hl hr ⟨⟨hR, hsz⟩, hnd⟩ ⟨Bx, hBx, hbx, rfl⟩ hlt
          have HSN := hid (vals_snoc pre x)
          have hLL := vals_length pre
          obtain ⟨L, hL⟩ : ∃ L, valsOf pre = L := ⟨_, rfl⟩
          rw [hL] at HSN hR hnd hLL
          obtain ⟨⟨⟨pc, pb, pd, pp, ti⟩, tk, kk⟩, hx⟩ := x
          obtain ⟨pl, hpl, hpk⟩ := mem_parts.1 hx
          simp only at hpl hpk
          have htn : tk < k := by have := (List.getElem?_eq_some_iff.1 hpl).1; rw [HN.out]; exact this
          obtain ⟨t, ht⟩ : ∃ t, S.tasks[tk]? = some t := ⟨_, List.getElem?_eq_getElem (by have := HN0.out; omega)⟩
          obtain ⟨b, o, cs, hA, hbl, _, hc, us, hu1, hu2⟩ := HS.out.tasks.at ht
          subst hA
          subst hu1
          obtain ⟨A1, c1, hu3, _⟩ := hu2.shape
          obtain ⟨m1, hm1⟩ : ∃ m, m = t.secs.length := ⟨_, rfl⟩
          rw [← hm1] at hu3
          subst hu3
          have hsec0 : w.cell? ⟨b, o + tk * 4 + 3, none⟩ = some (.slice A1 m1 c1) := hc 3 _ rfl
          have hSEC := hid (show secOf S tk = decide (0 < m1) by
            unfold secOf
            rw [ht, hm1]
            show (!t.secs.isEmpty) = _
            cases t.secs <;> rfl)
          have hpw := HP.out.wf pl (List.mem_of_getElem? hpl) _ (List.mem_of_getElem? hpk)
          have hpc := hpw.c
          unfold I64 at hpc
          simp only at hpc
          have hk24 : k ≤ 24 := by have := HSO.out.len; have := HN0.out; omega
          have kpc : kwI pc := kwI_mk hpc.1 hpc.2
          have ktk : kwI (tk : Int) := kwI_mk (by omega) (by omega)
          have hq : pairW ((tk : Int), pc) := ⟨ktk, kpc⟩
          have hll : L.length ≤ 192 := by have := HPL.out; omega
          have hmx : L.length < maxLen := by unfold maxLen; omega
          have hhas := hasF_get L ⟨⟨pc, pb, pd, pp, ti⟩, tk, kk⟩
          have hlo := hR.lo
          have hlo2 := hR.pw.lo
          have hR1 := hR.new (.cells #[.int .i64 tk, .int .i64 pc] 83)
          have hb1 := blk_old hbx (.cells #[.int .i64 tk, .int .i64 pc] 83)
          have lk1 := hR1.lk1 hq
          rw [show (hasF L ((tk : Int), pc)).getD false = decide (keyPt ⟨⟨pc, pb, pd, pp, ti⟩, tk, kk⟩ ∈ L.map keyPt) from hhas] at lk1
          have q0 : W.cell? ⟨Bx, 0, none⟩ = some (.int .i64 pc) := blk_cell hbx 0
          have q5 : W.cell? ⟨Bx, 5, none⟩ = some (.int .i64 tk) := blk_cell hbx 5
          have y7 := hR1.x1c
          have K1 := hid ((KeepsOthers.alloc W (.cells #[.int .i64 tk, .int .i64 pc] 83)).from W0.heap.size)
          unfold pairV at lk1
          simp only at lk1
          by_cases hin : keyPt ⟨⟨pc, pb, pd, pp, ti⟩, tk, kk⟩ ∈ L.map keyPt
          case pos =>
            rw [decide_eq_true hin] at lk1
            have z0 := blk_cell hR1.pw.b1 0
            have z1 := blk_free hR1.pw.b1 0
            have HRR := hid hR1
            have HND := hid (show ¬ ((valsOf (pre ++ [(⟨⟨⟨pc, pb, pd, pp, ti⟩, tk, kk⟩, hx⟩ : PtOf P)])).map keyPt).Nodup from by
              rw [HSN.out, List.map_append, List.nodup_append]
              rintro ⟨_, _, h3⟩
              exact h3 _ hin _ (by simp) rfl)
            clear hR hR1 hb1 hbx hnd hL hhas hsec0 hc hbl hu2 ht hpl hpk hpw hm1 hr
            gi_wp2
            exact ⟨K1.out.trans ((KeepsOthers.setCell _ _ _).from _), HRR.out.pw.putF, rfl, HND.out⟩
          case neg =>
            rw [decide_eq_false hin] at lk1
            obtain ⟨W2, st1, hR2, hg1⟩ := hR1.st1 hmx hq
            unfold pairV at st1
            simp only at st1
            have hb2 := blk_grown hb1 hg1 (fun e => by injection e with e; omega)
            have K2 := hid (K1.out.trans (KeepsFrom.of_grownBy hg1 (fun j e => by cases e; have := HZS.out; omega)))
            have hkp2 : Below w.heap.size W W2 := ((Below.refl _ W).alloc hR.pw.below.size _).grown hg1 (by simp; have := hR.pw.below.size; omega) (fun j e => by cases e; omega)
            have hND2 := hid (show ((valsOf (pre ++ [(⟨⟨⟨pc, pb, pd, pp, ti⟩, tk, kk⟩, hx⟩ : PtOf P)])).map keyPt).Nodup from by
              rw [HSN.out, List.map_append, List.nodup_append]
              refine ⟨hnd, by simp, fun a ha b hb e => ?_⟩
              simp at hb
              subst hb
              exact hin (by rw [← e]; exact ha))
            have p0 : W2.cell? ⟨Bx, 0, none⟩ = some (.int .i64 pc) := blk_cell hb2 0
            have p4 : W2.cell? ⟨Bx, 4, none⟩ = some (.bool ti) := blk_cell hb2 4
            have HNL := hid (show (valsOf (pre ++ [(⟨⟨⟨pc, pb, pd, pp, ti⟩, tk, kk⟩, hx⟩ : PtOf P)])) = L ++ [⟨⟨pc, pb, pd, pp, ti⟩, tk, kk⟩] from HSN.out)
            have HKP2 := hid hkp2
            have HLLH := hid hLL
            have HSE0 := hid hsec0
            have HBL := hid hbl
            have HMX := hid hmx
            have KPC := hid kpc
            have hrs := hR.pw.below.size
            clear hR1 hb1 hbx hnd hL hhas hc hu2 ht hpl hpk hpw hm1 hkp2 HSN hr hLL hin hsec0 hbl hR hmx hq ktk kpc
            cases ti
            case true =>
              obtain ⟨nt, hnt⟩ : ∃ nt, (tightF L pc).getD 0 = nt := ⟨_, rfl⟩
              have hnt2 : 0 ≤ nt ∧ nt ≤ 192 := by
                rw [← hnt]
                unfold tightF
                have := tightN_le L pc
                split
                · simp
                · simp; omega
              have lk2 := hR2.lk2 KPC.out
              rw [hnt] at lk2
              obtain ⟨W3, st2, hR3, hg2⟩ := hR2.st2 HMX.out KPC.out (nt + 1)
              have y8 := hR2.x2c
              have hb3 := blk_grown hb2 hg2 (fun e => by injection e with e; omega)
              have K3 := hid (K2.out.trans (KeepsFrom.of_grownBy hg2 (fun j e => by cases e; have := HZS.out; omega)))
              have HKP3 := hid (HKP2.out.grown hg2 (by have := HKP2.out.size; omega) (fun j e => by cases e; omega))
              have hR4 := hR3.congr (Nat.le_refl _) (Nat.le_refl _) (Nat.le_refl _) (fun _ => rfl) (g2 := tightF (L ++ [⟨⟨pc, pb, pd, pp, true⟩, tk, kk⟩])) (fun c => by rw [tightF_snoc _ _ rfl, hnt]) (fun _ => rfl)
              have HNT := hid hnt
              clear hR2 hR3 hnt hg1 hg2
              obtain ⟨u, hu⟩ : ∃ u, (usersF S L pc).getD false = u := ⟨_, rfl⟩
              have lk3 := hR4.drew.lk3 KPC.out
              rw [hu] at lk3
              have y9 := hR4.x3c
              have q0 : W3.cell? ⟨Bx, 0, none⟩ = some (.int .i64 pc) := blk_cell hb3 0
              have q5 : W3.cell? ⟨Bx, 5, none⟩ = some (.int .i64 tk) := blk_cell hb3 5
              have s8 : W3.cell? ⟨B, 8, none⟩ = some (.slice (some ⟨b, o, none⟩) k c0) := by rw [blk_cell hR4.pw.b0 8, HCS.out]; rfl
              have hsec : W3.cell? ⟨b, o + tk * 4 + 3, none⟩ = some (.slice A1 m1 c1) := (hR4.pw.below.cell (p := ⟨b, o + tk * 4 + 3, none⟩) HBL.out).trans HSE0.out
              obtain ⟨v, hv⟩ : ∃ v, (u || decide (0 < m1)) = v := ⟨_, rfl⟩
              have HVV2 := hid hv
              clear hv
              obtain ⟨W4, st3, hR5, hg3⟩ := hR4.drew.st3 HMX.out KPC.out v
              have HG4 := hid hg3
              have HR5 := hid hR5
              have HU := hid hu
              have ST1 := hid st1
              clear hR4 hR5 hg3 hu hlt st1 hb2 hRI0 hbP hk
              cases u
              case true =>
                obtain rfl : v = true := by rw [← HVV2.out]; rfl
                gi_wp2
                rename_i Ks hKs Kf hKf
                have st1 := ST1.out
                simp only [st1, go_sem]
                refine hKf _ _ ?_
                refine hKs _ _ ?_
                simp only [Act.put]
                refine wpIn_seq_k (fun Kr hKr => ?_)
                have HKR := hid hKr
                clear hKr
                gi_wp2
                refine HKR.out _ _ ?_
                refine wpIn_round_still_tail 20 (by kernel_rfl) (by kernel_rfl) (by kernel_rfl) ?_
                simp only [List.take_succ_cons, List.take_zero, List.drop_succ_cons, List.drop_zero]
                repeat still_step
                refine wpStill_nil ?_
                gi_wp2
                have HB3 := HKP3.out
                have HB4 := (HB3.grown (grownBy_drew W3) (by have := HB3.size; show w.heap.size ≤ W3.heap.size; omega) (fun j e => by cases e)).grown HG4.out (by have := HB3.size; show w.heap.size ≤ W3.heap.size; omega) (fun j e => by cases e; omega)
                refine ⟨(K3.out.trans ((KeepsOthers.drew _).from _)).trans (KeepsFrom.of_grownBy HG4.out (fun j e => by cases e; have := HZS.out; omega)), HB4, ⟨?_, Nat.le_trans hsz HB4.size⟩, hND2.out⟩
                rw [HNL.out]
                exact HR5.out.snoc (by rw [HU.out, hSEC.out]; exact HVV2.out.symm)
              case false =>
                by_cases hm0 : 0 < m1
                case pos =>
                  obtain rfl : v = true := by rw [← HVV2.out, decide_eq_true hm0]; rfl
                  have hd : decide (0 < m1) = true := decide_eq_true hm0
                  gi_wp2
                  rename_i Ks hKs Kf hKf
                  have st1 := ST1.out
                  simp only [st1, go_sem]
                  refine hKf _ _ ?_
                  refine hKs _ _ ?_
                  simp only [Act.put]
                  refine wpIn_seq_k (fun Kr hKr => ?_)
                  have HKR := hid hKr
                  clear hKr
                  gi_wp2
                  refine HKR.out _ _ ?_
                  refine wpIn_round_still_tail 20 (by kernel_rfl) (by kernel_rfl) (by kernel_rfl) ?_
                  simp only [List.take_succ_cons, List.take_zero, List.drop_succ_cons, List.drop_zero]
                  repeat still_step
                  refine wpStill_nil ?_
                  gi_wp2
                  have HB3 := HKP3.out
                  have HB4 := (HB3.grown (grownBy_drew W3) (by have := HB3.size; show w.heap.size ≤ W3.heap.size; omega) (fun j e => by cases e)).grown HG4.out (by have := HB3.size; show w.heap.size ≤ W3.heap.size; omega) (fun j e => by cases e; omega)
                  refine ⟨(K3.out.trans ((KeepsOthers.drew _).from _)).trans (KeepsFrom.of_grownBy HG4.out (fun j e => by cases e; have := HZS.out; omega)), HB4, ⟨?_, Nat.le_trans hsz HB4.size⟩, hND2.out⟩
                  rw [HNL.out]
                  exact HR5.out.snoc (by rw [HU.out, hSEC.out]; exact HVV2.out.symm)
                case neg =>
                  obtain rfl : v = false := by rw [← HVV2.out, decide_eq_false hm0]; rfl
                  have hd : decide (0 < m1) = false := decide_eq_false hm0
                  gi_wp2
                  rename_i Ks hKs Kf hKf
                  have st1 := ST1.out
                  simp only [st1, go_sem]
                  refine hKf _ _ ?_
                  refine hKs _ _ ?_
                  simp only [Act.put]
                  refine wpIn_seq_k (fun Kr hKr => ?_)
                  have HKR := hid hKr
                  clear hKr
                  gi_wp2
                  refine HKR.out _ _ ?_
                  refine wpIn_round_still_tail 20 (by kernel_rfl) (by kernel_rfl) (by kernel_rfl) ?_
                  simp only [List.take_succ_cons, List.take_zero, List.drop_succ_cons, List.drop_zero]
                  repeat still_step
                  refine wpStill_nil ?_
                  gi_wp2
                  have HB3 := HKP3.out
                  have HB4 := (HB3.grown (grownBy_drew W3) (by have := HB3.size; show w.heap.size ≤ W3.heap.size; omega) (fun j e => by cases e)).grown HG4.out (by have := HB3.size; show w.heap.size ≤ W3.heap.size; omega) (fun j e => by cases e; omega)
                  refine ⟨(K3.out.trans ((KeepsOthers.drew _).from _)).trans (KeepsFrom.of_grownBy HG4.out (fun j e => by cases e; have := HZS.out; omega)), HB4, ⟨?_, Nat.le_trans hsz HB4.size⟩, hND2.out⟩
                  rw [HNL.out]
                  exact HR5.out.snoc (by rw [HU.out, hSEC.out]; exact HVV2.out.symm)
            case false =>
              have hR4 := hR2.congr (Nat.le_refl _) (Nat.le_succ _) (Nat.le_refl _) (fun _ => rfl) (g2 := tightF (L ++ [⟨⟨pc, pb, pd, pp, false⟩, tk, kk⟩])) (fun c => by rw [tightF_same _ _ rfl]) (fun _ => rfl)
              clear hR2 hg1
              obtain ⟨u, hu⟩ : ∃ u, (usersF S L pc).getD false = u := ⟨_, rfl⟩
              have lk3 := hR4.drew.lk3 KPC.out
              rw [hu] at lk3
              have y9 := hR4.x3c
              have q0 : W2.cell? ⟨Bx, 0, none⟩ = some (.int .i64 pc) := blk_cell hb2 0
              have q5 : W2.cell? ⟨Bx, 5, none⟩ = some (.int .i64 tk) := blk_cell hb2 5
              have s8 : W2.cell? ⟨B, 8, none⟩ = some (.slice (some ⟨b, o, none⟩) k c0) := by rw [blk_cell hR4.pw.b0 8, HCS.out]; rfl
              have hsec : W2.cell? ⟨b, o + tk * 4 + 3, none⟩ = some (.slice A1 m1 c1) := (hR4.pw.below.cell (p := ⟨b, o + tk * 4 + 3, none⟩) HBL.out).trans HSE0.out
              obtain ⟨v, hv⟩ : ∃ v, (u || decide (0 < m1)) = v := ⟨_, rfl⟩
              have HVV2 := hid hv
              clear hv
              obtain ⟨W4, st3, hR5, hg3⟩ := hR4.drew.st3 HMX.out KPC.out v
              have HG4 := hid hg3
              have HR5 := hid hR5
              have HU := hid hu
              have ST1 := hid st1
              clear hR4 hR5 hg3 hu hlt st1 hb2 hRI0 hbP hk
              cases u
              case true =>
                obtain rfl : v = true := by rw [← HVV2.out]; rfl
                gi_wp2
                rename_i Ks hKs Kf hKf
                have st1 := ST1.out
                simp only [st1, go_sem]
                refine hKf _ _ ?_
                refine hKs _ _ ?_
                simp only [Act.put]
                refine wpIn_seq_k (fun Kr hKr => ?_)
                have HKR := hid hKr
                clear hKr
                gi_wp2
                refine HKR.out _ _ ?_
                refine wpIn_round_still_tail 20 (by kernel_rfl) (by kernel_rfl) (by kernel_rfl) ?_
                simp only [List.take_succ_cons, List.take_zero, List.drop_succ_cons, List.drop_zero]
                repeat still_step
                refine wpStill_nil ?_
                gi_wp2
                have HB3 := HKP2.out
                have HB4 := (HB3.grown (grownBy_drew W2) (by have := HB3.size; show w.heap.size ≤ W2.heap.size; omega) (fun j e => by cases e)).grown HG4.out (by have := HB3.size; show w.heap.size ≤ W2.heap.size; omega) (fun j e => by cases e; omega)
                refine ⟨(K2.out.trans ((KeepsOthers.drew _).from _)).trans (KeepsFrom.of_grownBy HG4.out (fun j e => by cases e; have := HZS.out; omega)), HB4, ⟨?_, Nat.le_trans hsz HB4.size⟩, hND2.out⟩
                rw [HNL.out]
                exact HR5.out.snoc (by rw [HU.out, hSEC.out]; exact HVV2.out.symm)
              case false =>
                by_cases hm0 : 0 < m1
                case pos =>
                  obtain rfl : v = true := by rw [← HVV2.out, decide_eq_true hm0]; rfl
                  have hd : decide (0 < m1) = true := decide_eq_true hm0
                  gi_wp2
                  rename_i Ks hKs Kf hKf
                  have st1 := ST1.out
                  simp only [st1, go_sem]
                  refine hKf _ _ ?_
                  refine hKs _ _ ?_
                  simp only [Act.put]
                  refine wpIn_seq_k (fun Kr hKr => ?_)
                  have HKR := hid hKr
                  clear hKr
                  gi_wp2
                  refine HKR.out _ _ ?_
                  refine wpIn_round_still_tail 20 (by kernel_rfl) (by kernel_rfl) (by kernel_rfl) ?_
                  simp only [List.take_succ_cons, List.take_zero, List.drop_succ_cons, List.drop_zero]
                  repeat still_step
                  refine wpStill_nil ?_
                  gi_wp2
                  have HB3 := HKP2.out
                  have HB4 := (HB3.grown (grownBy_drew W2) (by have := HB3.size; show w.heap.size ≤ W2.heap.size; omega) (fun j e => by cases e)).grown HG4.out (by have := HB3.size; show w.heap.size ≤ W2.heap.size; omega) (fun j e => by cases e; omega)
                  refine ⟨(K2.out.trans ((KeepsOthers.drew _).from _)).trans (KeepsFrom.of_grownBy HG4.out (fun j e => by cases e; have := HZS.out; omega)), HB4, ⟨?_, Nat.le_trans hsz HB4.size⟩, hND2.out⟩
                  rw [HNL.out]
                  exact HR5.out.snoc (by rw [HU.out, hSEC.out]; exact HVV2.out.symm)
                case neg =>
                  obtain rfl : v = false := by rw [← HVV2.out, decide_eq_false hm0]; rfl
                  have hd : decide (0 < m1) = false := decide_eq_false hm0
                  gi_wp2
                  rename_i Ks hKs Kf hKf
                  have st1 := ST1.out
                  simp only [st1, go_sem]
                  refine hKf _ _ ?_
                  refine hKs _ _ ?_
                  simp only [Act.put]
                  refine wpIn_seq_k (fun Kr hKr => ?_)
                  have HKR := hid hKr
                  clear hKr
                  gi_wp2
                  refine HKR.out _ _ ?_
                  refine wpIn_round_still_tail 20 (by kernel_rfl) (by kernel_rfl) (by kernel_rfl) ?_
                  simp only [List.take_succ_cons, List.take_zero, List.drop_succ_cons, List.drop_zero]
                  repeat still_step
                  refine wpStill_nil ?_
                  gi_wp2
                  have HB3 := HKP2.out
                  have HB4 := (HB3.grown (grownBy_drew W2) (by have := HB3.size; show w.heap.size ≤ W2.heap.size; omega) (fun j e => by cases e)).grown HG4.out (by have := HB3.size; show w.heap.size ≤ W2.heap.size; omega) (fun j e => by cases e; omega)
                  refine ⟨(K2.out.trans ((KeepsOthers.drew _).from _)).trans (KeepsFrom.of_grownBy HG4.out (fun j e => by cases e; have := HZS.out; omega)), HB4, ⟨?_, Nat.le_trans hsz HB4.size⟩, hND2.out⟩
                  rw [HNL.out]
                  exact HR5.out.snoc (by rw [HU.out, hSEC.out]; exact HVV2.out.symm)
        case done =>
          rintro D xs W hD rfl ⟨⟨hR, hsz⟩, hnd⟩ hDD
          rw [vals_all] at hR hnd
          have hx2 := hR.x2c
          have hx3 := hR.x3c
          have hlo := hR.lo
          have HR := hid hR
          have HDI := hid (show distB P = true from keys_nodup.2 hnd)
          have HKW := hid (show ∀ c v, tightF (partsOf P) c = some v → kwI c ∧ 0 ≤ v ∧ v ≤ 192 from fun c v h => by
            unfold tightF at h
            by_cases h0 : tightN (partsOf P) c = 0
            · rw [if_pos h0] at h; cases h
            · rw [if_neg h0] at h
              obtain ⟨x, hx, rfl⟩ := tightN_pos (Nat.pos_of_ne_zero h0)
              obtain ⟨pl, hpl, hpk⟩ := mem_parts.1 hx
              have hpc := (HP.out.wf pl (List.mem_of_getElem? hpl) _ (List.mem_of_getElem? hpk)).c
              unfold I64 at hpc
              injection h with h
              have := tightN_le (partsOf P) x.p.core
              have := HPL.out
              exact ⟨kwI_mk hpc.1 hpc.2, by omega, by omega⟩)
          have hDl := blk_lt hDD
          have HDL := hid hDl
          have HDS := hid hsz
          have HDD := hid hDD
          have HDW := hid hD
          clear hR hnd hRI0 hbP hDD hDl hk hlt hsz hD
          go_wp2_with (at_range; refine Try.mapII.range rfl _ _ rfl Try.underlying78 HR.out.m2 rfl ?_; intro w0 cnt hR0 hF0 hs0)
          go_frame
          have hst : (∃ (L : Int → Bool) (cnt : Nat), RIL w w0 B Z CS S (partsOf P) ∧ RangeG Try.prog 3 eI dI eIntR 0 w0 (Z + 1 + 1) W.heap.size (partsOf P).length (tightF (partsOf P)) L cnt ∧ w0.heap[D]? = some (.deferred (some [])) ∧ Hid (∀ c v, tightF (partsOf P) c = some v → L c = false → v ≤ 1 ∧ (usersF S (partsOf P) c).getD false = false)) :=
            ⟨_, cnt, HR.out.fr hF0 (fun k h => h.elim), hR0, hF0.blk HDD.out (fun h => h), hid (fun c v h h2 => by rw [h] at h2; cases h2)⟩
          have HST := hid hst
          clear hst hR0 hF0 hs0
          go_loopw [12] (fun _ wr => (∃ (L : Int → Bool) (cnt : Nat), RIL w wr B Z CS S (partsOf P) ∧ RangeG Try.prog 3 eI dI eIntR 0 wr (Z + 1 + 1) W.heap.size (partsOf P).length (tightF (partsOf P)) L cnt ∧ wr.heap[D]? = some (.deferred (some [])) ∧ Hid (∀ c v, tightF (partsOf P) c = some v → L c = false → v ≤ 1 ∧ (usersF S (partsOf P) c).getD false = false))) (fun _ wr => wr.rangeLeft (Z + 1 + 1) W.heap.size)
          case atStart => exact HST.out
          case round =>
            obtain ⟨L, cnt2, hRr, hRG, hDr, hall⟩ := hrel
            go_wp2_with (at_next; refine Try.mapII.next rfl _ rfl hRG rfl ?_ ?_)
            · intro hdone
              have HC := hid (show planB S P = true by
                unfold planB
                rw [HRB.out, decide_eq_true (show P.length = S.tasks.length by rw [← HN.out, ← HN0.out]), HLS.out, HDI.out, coresB_true (fun c v h => hall.out c v h (hdone c (HKW.out c v h).1))]
                rfl)
              have z0 := blk_cell hRr.pw.b1 0
              have z1 := blk_free hRr.pw.b1 0
              have HDr := hid (show (wr.setCell ⟨B + 1, 0, none⟩ (.bool true)).heap[D]? = some (.deferred (some [])) from blk_set_ne hDr (by have := HDW.out; have := HZS.out; omega) _ _)
              have HPW := hid hRr.pw
              clear hRr hRG hDr hall hdone hx2 hx3
              go_wp2_with fail
              refine ⟨by simp, .inl ⟨_, _, rfl, run_takeDeferred HDr.out, ?_⟩⟩
              obtain ⟨y0, yb⟩ := HPW.out.close (D := D) (by have := HDW.out; have := HZS.out; omega) true
              exact ⟨.bool true, by simp [results, Try.f12, go_sem, y0], by rw [HC.out], yb⟩
            · intro p q w1 cnt1 hkp hL hfp hR1 hlt hF1 hs1 hen
              unfold eI at hen ⊢
              have hne : ∀ k, k < W.heap.size → ¬ One W.heap.size k := fun k hk e => by rw [show k = W.heap.size from e] at hk; exact Nat.lt_irrefl _ hk
              have hRn := hRr.fr hF1 (fun k e => by rw [show k = W.heap.size from e]; have := HDS.out; omega)
              have hDn := hF1.blk hDr (hne D HDL.out)
              have HLT := hid (show cnt1 < wr.rangeLeft (Z + 1 + 1) W.heap.size by rw [hRG.left_eq]; exact hlt)
              have HDr := hid (show (w1.setCell ⟨B + 1, 0, none⟩ (.bool false)).heap[D]? = some (.deferred (some [])) from blk_set_ne hDn (by have := HDW.out; have := HZS.out; omega) _ _)
              have hq := (HKW.out p q hfp).2
              obtain ⟨u, hu⟩ : ∃ u, (usersF S (partsOf P) p).getD false = u := ⟨_, rfl⟩
              have lk3 := hRn.lk3 hkp
              rw [hu] at lk3
              have z0 := blk_cell hRn.pw.b1 0
              have z1 := blk_free hRn.pw.b1 0
              have y9 := hRn.x3c
              have HBAD := hid (fun (h : 1 < q ∨ u = true) => show planB S P = false by
                unfold planB
                rw [coresB_false hfp (by rw [hu]; exact h)]
                simp)
              have HNEXT := hid (fun (h : q ≤ 1 ∧ u = false) (c : Int) (v : Int) (h1 : tightF (partsOf P) c = some v) (h2 : (L c && !decide (c = p)) = false) => show v ≤ 1 ∧ (usersF S (partsOf P) c).getD false = false by
                by_cases e : c = p
                · subst e
                  rw [hfp] at h1
                  injection h1 with h1
                  rw [← h1, hu]
                  exact h
                · rw [decide_eq_false e, Bool.not_false, Bool.and_true] at h2
                  exact hall.out c v h1 h2)
              have HR1 := hid hR1
              have HRN := hid hRn
              have HDN := hid hDn
              have HPW := hid hRn.pw
              clear hRr hRG hDr hall hx2 hx3 hfp hR1 hlt hF1 hRn hDn hu hkp hL hne
              by_cases hgt : 1 < q
              case pos =>
                have hgd : decide (1 < q) = true := decide_eq_true hgt
                go_wp2_with fail
                refine ⟨by simp, .inl ⟨_, _, rfl, run_takeDeferred HDr.out, ?_⟩⟩
                obtain ⟨y0, yb⟩ := HPW.out.close (D := D) (by have := HDW.out; have := HZS.out; omega) false
                exact ⟨.bool false, by simp [results, Try.f12, go_sem, y0], by rw [HBAD.out (.inl hgt)], yb⟩
              case neg =>
                have hgd : decide (1 < q) = false := decide_eq_false hgt
                cases u
                case true =>
                  go_wp2_with fail
                  refine ⟨by simp, .inl ⟨_, _, rfl, run_takeDeferred HDr.out, ?_⟩⟩
                  obtain ⟨y0, yb⟩ := HPW.out.close (D := D) (by have := HDW.out; have := HZS.out; omega) false
                  exact ⟨.bool false, by simp [results, Try.f12, go_sem, y0], by rw [HBAD.out (.inr (by simp))], yb⟩
                case false =>
                  go_wp2_with fail
                  go_roundw
                  case rel => exact ⟨_, cnt1, HRN.out, HR1.out, HDN.out, hid (HNEXT.out ⟨by omega, rfl⟩)⟩
                  case measure => rw [HR1.out.left_eq]; exact HLT.out
        case stop =>
          rintro D c pre W hD hpre ⟨hpw, rfl, hnd⟩ hK
          have HF := hid (show planB S P = false by
            unfold planB
            have : distB P = false := by
              cases e : distB P with
              | false => rfl
              | true => exact absurd (nodup_prefix (vals_prefix hpre) (keys_nodup.1 e)) hnd
            rw [this]
            simp)
          have hlo := hRI0.lo
          have hpw2 := hpw.grown (grownBy_putObj' W D (.deferred none)) (fun r e => by cases e; have := HZS.out; omega)
          have y0 := blk_cell hpw2.b1 0
          have HPW := hid hpw2
          clear hpw hpw2 hnd hpre hRI0 hbP hk
          gi_wp2
          refine ⟨by simp, .inl ⟨_, _, rfl, run_takeDeferred hK, ?_⟩⟩
          exact ⟨.bool false, by simp [results, Try.f12, go_sem, y0], by rw [HF.out], HPW.out.below⟩
/-- The contract. -/
theorem pright_any (S : Sy) (A0 : Option Addr) (n0 c0 : Nat) (A : Option Addr) (n cap : Nat) (P : Pl) (hs : IsSys w (.slice A0 n0 c0) S) (hp : IsPlan w (.slice A n cap) P) :
    Calls Try.prog 12 #[sysV S (.slice A0 n0 c0), .slice A n cap] w fun e w' => e = .returned (.bool (planB S P)) ∧ Below w.heap.size w w' :=
  callsIn_wide.1 (pright_in S A0 n0 c0 A n cap P hs hp)
end
end Go.Proofs.Ytppildaahmlfmaa
