/- Joined: PRank2. -/
import Derived.Test.YtppildaahmlfmaaQ48
set_option linter.unusedVariables false
set_option linter.unusedSimpArgs false
/- analysis.rank (contract): the walk. -/
set_option linter.unusedVariables false
set_option linter.unusedSimpArgs false
namespace Go.Proofs.Ytppildaahmlfmaa
open Go.RowKit

section
variable {w : World}
set_option maxRecDepth 100000 in
set_option maxHeartbeats 6400000 in
theorem prank_any (S : Sy) (A0 : Option Addr) (n0 c0 : Nat) (A : Option Addr) (n cap : Nat) (P : Pl) (hs : IsSys w (.slice A0 n0 c0) S) (hp : IsPlan w (.slice A n cap) P) :
    Calls Try.prog 24 #[sysV S (.slice A0 n0 c0), .slice A n cap] w fun e w' =>
      (planB S P = false ∧ e = .returned (.tuple #[.pointer none, .int .i64 1]) ∧ Below w.heap.size w w') ∨
      (planB S P = true ∧ ∃ R g V uw uc X, e = .returned (.tuple #[.pointer (some ⟨R, 0, none⟩), .int .i64 0]) ∧ IsRk w' w.heap.size R S (.slice A0 n0 c0) P n g V uw uc X ∧ Below w.heap.size w w') := by
  have hn := hp.rows.len
  have hn0 := hs.tasks.len
  have HP := hid hp
  have HS := hid hs
  have HN := hid hn
  have HN0 := hid hn0
  have hnm : n ≤ 9223372036854775807 := by have := hp.rows.room; unfold maxLen at this; omega
  have hn0m : n0 ≤ 9223372036854775807 := by have := hs.tasks.room; unfold maxLen at this; omega
  have HVR := hid (fun W (h : Below w.heap.size w W) => rank_any (w := W) S A0 n0 c0 A n cap P (hs.later h) (hp.later h))
  obtain ⟨CS, hCS⟩ : ∃ C, C = sysC S (.slice A0 n0 c0) := ⟨_, rfl⟩
  have HCS := hid hCS
  obtain ⟨i0, hi, hz0, hz1, hz2⟩ := info_parts Try.info_ints
  obtain ⟨i1, hi', hy0, hy1, hy2⟩ := info_parts Try.info_int
  have hq0 := blk_new w (.cells (sysC S (.slice A0 n0 c0)) 24)
  have HQ0 := hid hq0
  unfold sysV at *
  clear hs hp hn hn0 hCS hq0
  go_enter Try.func24, Try.ntmps24
  go_wp2_with fail
  refine (HVR.out _ (below_new (Below.refl _ _) _)).mono ?_
  intro e w1 hor
  rcases hor with ⟨hpb, rfl, hb1⟩ | ⟨hpb, g, V, rfl, hgr, hb1⟩
  · have HB := hid (below_then (below_new (Below.refl _ _) _) hb1)
    have HPB := hid hpb
    clear hb1 hpb
    go_wp2_with fail
    go_ret2
    exact .inl ⟨HPB.out, rfl, HB.out⟩
  · have q0 : w1.heap[w.heap.size]? = some (.cells (sysC S (.slice A0 n0 c0)) 24 (0, 0)) := (fr0 hb1).blk HQ0.out (fun h => h)
    have hbw := below_then (below_new (Below.refl _ _) _) hb1
    have hsz : ∀ o, (w.alloc o).heap.size = w.heap.size + 1 := fun o => by simp
    rw [hsz] at hgr
    clear hsz
    have hRk0 := blk_new w1 (.cells (rkC S (.slice A0 n0 c0) (.slice (some ⟨g, 0, none⟩) n n) (.slice none 0 0) (.slice none 0 0)) 64)
    have hK : RkW w (w1.alloc (.cells (rkC S (.slice A0 n0 c0) (.slice (some ⟨g, 0, none⟩) n n) (.slice none 0 0) (.slice none 0 0)) 64)) w.heap.size w1.heap.size (w.heap.size + 1) (sysC S (.slice A0 n0 c0)) S P (.slice A0 n0 c0) n g V (.slice none 0 0) (.slice none 0 0) (fun _ => 0) 0 0 (fun c => topF (upsN S P c 0)) :=
      ⟨below_new hbw _, by omega, by omega, by have := blk_lt q0; omega, blk_old q0 _, hRk0, hgr.later (below_new (Below.refl _ _) _), World.ownsRow_nil _ _ _ _, CT.nil _ _ _, fun h => by have := (hgr.lt _ h).2; omega, (fun h => by cases h), (fun h => by rcases h with h | ⟨i, hi, _⟩; cases h; omega), (fun b h => by cases h), (fun b h => by rcases h with h | ⟨i, hi, _⟩; cases h; omega), (fun b h => by cases h)⟩
    have HK0 := hid hK
    have HOK := hid (planB_ok hpb)
    have HPB := hid hpb
    rw [← HCS.out] at q0 HK0
    have s0 : w1.cell? ⟨w.heap.size, 0, none⟩ = some (.int .i64 S.cores) := by rw [blk_cell q0 0, HCS.out]; rfl
    have s1 : w1.cell? ⟨w.heap.size, 1, none⟩ = some (.int .i64 S.policy) := by rw [blk_cell q0 1, HCS.out]; rfl
    have s2 : w1.cell? ⟨w.heap.size, 2, none⟩ = some (.int .i64 S.prot) := by rw [blk_cell q0 2, HCS.out]; rfl
    have s3 : w1.cell? ⟨w.heap.size, 3, none⟩ = some (.int .i64 S.rel) := by rw [blk_cell q0 3, HCS.out]; rfl
    have s4 : w1.cell? ⟨w.heap.size, 4, none⟩ = some (.int .i64 S.sw) := by rw [blk_cell q0 4, HCS.out]; rfl
    have s5 : w1.cell? ⟨w.heap.size, 5, none⟩ = some (.int .i64 S.fin) := by rw [blk_cell q0 5, HCS.out]; rfl
    have s6 : w1.cell? ⟨w.heap.size, 6, none⟩ = some (.int .i64 S.lat) := by rw [blk_cell q0 6, HCS.out]; rfl
    have s7 : w1.cell? ⟨w.heap.size, 7, none⟩ = some (.int .i64 S.resn) := by rw [blk_cell q0 7, HCS.out]; rfl
    have s8 : w1.cell? ⟨w.heap.size, 8, none⟩ = some (.slice A0 n0 c0) := by rw [blk_cell q0 8, HCS.out]; rfl
    clear hgr hb1 hbw hK hpb q0 hRk0
    unfold rkC at HK0
    go_upto_region 5 with fail
    obtain ⟨R, hR⟩ : ∃ R, R = w1.heap.size := ⟨_, rfl⟩
    rw [← hR] at HK0 ⊢
    generalize w1.alloc (.cells #[.int .i64 S.cores, .int .i64 S.policy, .int .i64 S.prot, .int .i64 S.rel, .int .i64 S.sw, .int .i64 S.fin, .int .i64 S.lat, .int .i64 S.resn, .slice A0 n0 c0, .slice (some ⟨g, 0, none⟩) n n, .slice none 0 0, .slice none 0 0] 64) = w2 at HK0 ⊢
    clear s0 s1 s2 s3 s4 s5 s6 s7 s8 hR HVR HQ0
    obtain ⟨nc, hnc⟩ : ∃ nc : Nat, S.cores = nc := ⟨S.cores.toNat, by have := HOK.out.sys.cores; omega⟩
    obtain ⟨rn, hrn⟩ : ∃ rn : Nat, S.resn = rn := ⟨S.resn.toNat, by have := HOK.out.sys.resn; omega⟩
    have hnc8 : nc ≤ 8 := by have := HOK.out.sys.cores; omega
    have hrn8 : rn ≤ 8 := by have := HOK.out.sys.resn; omega
    have hn24 : n ≤ 24 := by have h1 := HOK.out.len; have h2 := HOK.out.sys.len; have := HN.out; omega
    have HNC := hid hnc
    have HRN := hid hrn
    have hrnt : S.resn.toNat = rn := by omega
    have HRT := hid hrnt
    have c0' : w2.cell? ⟨w.heap.size, 0, none⟩ = some (.int .i64 S.cores) := by rw [blk_cell HK0.out.b0 0, HCS.out]; rfl
    rw [hnc] at c0'
    obtain ⟨C0, hC0⟩ : ∃ C, C = (List.replicate rn (.int .i64 0) : List Value).toArray := ⟨_, rfl⟩
    have hmake : ∀ w, (Instr.makeSlice 27 (.int .i64 (rn : Int)) (.int .i64 (rn : Int))).run Try.prog w = .ok (.slice (some ⟨w.heap.size, 0, none⟩) rn rn) (w.alloc (.cells C0 3)) := fun w => by rw [hC0]; exact make_ints rn (by omega) w
    have HMK := hid hmake
    have HC0 := hid hC0
    clear hmake hC0 hnc hrn hrnt
    go_wp2_with fail
    clear c0'
    go_loopw [30] (fun v wr => ∃ (c : Nat) (uc : Value) (X : Nat → Nat), c ≤ nc ∧ v = .int .i64 c ∧ Hid (RkW w wr w.heap.size R (w.heap.size + 1) CS S P (.slice A0 n0 c0) n g V (.slice none 0 0) uc X 0 c (fun c => topF (upsN S P c 0)))) (fun v _ => nc - (intOf v).toNat)
    case atStart => exact ⟨0, _, _, by omega, rfl, HK0⟩
    case round =>
      obtain ⟨c, uc, X, hc, rfl, HK⟩ := hrel
      by_cases hcl : c < nc
      case pos =>
        have hmake := HMK.out
        have hcell := blk_cell HK.out.hr 11
        have hrd := HK.out.drew
        have x7 : wr.cell? ⟨w.heap.size, 7, none⟩ = some (.int .i64 rn) := by rw [blk_cell HK.out.b0 7, HCS.out, ← HRN.out]; rfl
        have x7d : wr.drew.cell? ⟨w.heap.size, 7, none⟩ = some (.int .i64 rn) := x7
        have r11 : wr.cell? ⟨R, 11, none⟩ = some uc := hcell
        have r11d : wr.drew.cell? ⟨R, 11, none⟩ = some uc := hcell
        have hown := hrd.ce.out
        have hbz : R < wr.heap.size := blk_lt HK.out.hr
        have hbs : w.heap.size < wr.heap.size := blk_lt HK.out.b0
        obtain ⟨Au, cu, rfl⟩ := own_slice hown
        have HRD := hid hrd
        have HOWN := hid hown
        clear hcell hrd hown
        go_upto_region 7 with fail
        go_region_law (first
          | (refine step_append_new (W := wr.drew.alloc (.cells C0 3)) rfl (.tmp 36) (.tmp 40) 46 rfl (w.heap.size + 1) 27 i0 _ 1 24 Try.underlying46 hi hz0 hz1 hz2 rfl (by decide) #[.slice (some ⟨wr.heap.size, 0, none⟩) rn rn] (.slice Au c cu) c (cV X S.resn.toNat c) (by simp [Act.eval, Act.put]) (wr.heap.size + 1) (by simp [Act.eval, Act.put]) (by simp) (HOWN.out.alloc _) rfl (fun u hu => by simp at hu; subst hu; rfl) (by unfold maxLen; omega) (by omega) (by simp; omega) ?_
             intro v' w3 ho hf hv
             obtain ⟨A', c', rfl⟩ := own_slice ho
             have HO3 := hid ho
             have HF3 := hid hf
             have HV3 := hid hv
             have hr3 := hf.blk (blk_old HRD.out.hr _) (fun h => HRD.out.rc (.inl h))
             have g11 : w3.cell? ⟨R, 11, none⟩ = some (.slice Au c cu) := blk_cell hr3 11
             have z11 : w3.frozen? ⟨R, 11, none⟩ = false := blk_free hr3 11
             clear ho hf hv hr3))
        all_goals
          have HCN := hid (HRD.out.ceil (uc' := .slice A' (c + 1) c') (w1 := wr.drew.alloc (.cells C0 3)) (w' := w3) (h := fun _ => 0) (x := wr.heap.size) (below_new (Below.refl _ _) _) ⟨⟨C0, blk_new wr.drew _, by rw [HC0.out, HRT.out]; simp, fun j hj => by rw [HRT.out] at hj; rw [HC0.out]; simp [hj]⟩⟩ (Nat.le_refl _) (by rw [HRT.out]; have h := HO3.out; rw [HRT.out] at h; exact h) HF3.out (HV3.out.elim .inl (fun h => .inr ⟨_, h, Nat.le_succ _⟩)))
          have HCN2 := hid (HCN.out.congr (f' := fun c => topF (upsN S P c 0)) (fun i hi j hj => by
            by_cases e : i = c
            · rw [if_pos e]; rfl
            · rw [if_neg e]))
          clear r11 r11d g11 z11 x7 x7d hmake HCN
          generalize w3.setCell ⟨R, 11, none⟩ (.slice A' (c + 1) c') = w4 at HCN2 ⊢
          go_wp2_with fail
          go_roundw
          case rel => exact ⟨c + 1, _, _, by omega, by go_num, HCN2⟩
          case measure => simp [intOf]; omega
      case neg =>
        obtain rfl : c = nc := by omega
        have hown := HK.out.ce.out
        obtain ⟨Au, cu, rfl⟩ := own_slice hown
        clear hown
        have HPO := hid (show ∀ l ∈ P, l.length ≤ 8 ∧ ∀ p ∈ l, 0 ≤ p.core ∧ p.core < S.cores from fun l hl => by
          obtain ⟨i, hi⟩ := List.mem_iff_getElem?.1 hl
          have hi2 := (List.getElem?_eq_some_iff.1 hi).1
          have ok := HOK.out
          have h1 := ok.len
          have ht : S.tasks[i]? = some (S.tasks[i]'(by omega)) := List.getElem?_eq_getElem _
          have := listOk_pcs ok.sys (ok.sys.tasks _ (List.mem_of_getElem? ht)) (ok.lists i _ l ht hi)
          exact ⟨this.1, fun p hp => ⟨(this.2 p hp).c0, (this.2 p hp).c1⟩⟩)
        have HALL := hid (show ∀ x ∈ partsOf P, x.p.core < S.cores from fun x hx => by
          obtain ⟨l, hl, hk2⟩ := mem_parts.1 hx
          exact ((HPO.out l (List.mem_of_getElem? hl)).2 _ (List.mem_of_getElem? hk2)).2)
        go_wp2_with fail
        go_loopw [47] (fun v wr => ∃ (i : Nat) (uw : Value), i ≤ n ∧ v = .int .i64 i ∧ Hid (RkW w wr w.heap.size R (w.heap.size + 1) CS S P (.slice A0 n0 c0) n g V uw (.slice Au c cu) X i c (fun c => topF (upsN S P c i)))) (fun v _ => n - (intOf v).toNat)
        case atStart => exact ⟨0, _, by omega, rfl, HK⟩
        case round =>
          obtain ⟨i, uw, hin, rfl, HKi⟩ := hrel
          by_cases hil : i < n
          case pos =>
            obtain ⟨pl, hpl⟩ : ∃ pl, P[i]? = some pl := ⟨_, List.getElem?_eq_getElem (by have := HN.out; omega)⟩
            obtain ⟨t, ht⟩ : ∃ t, S.tasks[i]? = some t := ⟨_, List.getElem?_eq_getElem (by have h1 := HOK.out.len; have := HN.out; omega)⟩
            have hQi : rowsC S P S.cores i = rankRow S (partsOf P) i pl := rowsC_all HALL.out i pl hpl
            have hrow := HKi.out.gr.rows i hil
            obtain ⟨m, hm⟩ : ∃ m, (rowsC S P S.cores i).length = m := ⟨_, rfl⟩
            rw [hm] at hrow
            obtain ⟨Av, cv, hVi⟩ := own_slice hrow
            have hmp : m = pl.length := by rw [← hm, hQi]; unfold rankRow; rw [List.length_map]
            have v0 : wr.cell? ⟨g, i, none⟩ = some (.slice Av m cv) := by rw [← hVi]; exact HKi.out.gr.cell hil
            obtain ⟨wv, hwv⟩ : ∃ x, whereOf pl = x := ⟨_, rfl⟩
            have hwhole : 0 ≤ wv → m = 1 ∧ ∃ p, pl[0]? = some p ∧ p.tight = false ∧ p.core = wv := fun h => by
              by_cases e : pl.length = 1
              · obtain ⟨p, hp⟩ : ∃ p, pl[0]? = some p := ⟨_, List.getElem?_eq_getElem (by omega)⟩
                rw [whereOf_one e hp] at hwv
                cases ht : p.tight with
                | true => rw [ht, if_pos rfl] at hwv; omega
                | false => rw [ht] at hwv; exact ⟨by omega, p, hp, ht, by simpa using hwv⟩
              · rw [whereOf_no e] at hwv; omega
            have hother : ¬ 0 ≤ wv → wv = -1 := fun h => by
              by_cases e : pl.length = 1
              · obtain ⟨p, hp⟩ : ∃ p, pl[0]? = some p := ⟨_, List.getElem?_eq_getElem (by omega)⟩
                rw [whereOf_one e hp] at hwv
                have h2 := ((HPO.out pl (List.mem_of_getElem? hpl)).2 p (List.mem_of_getElem? hp)).1
                split at hwv <;> omega
              · rw [whereOf_no e] at hwv; omega
            have hrk : ∀ p, pl[0]? = some p → m = 1 → ∃ b, Av = some ⟨b, 0, none⟩ ∧ b < wr.heap.size ∧ wr.cell? ⟨b, 0, none⟩ = some (.int .i64 p.core) ∧ wr.cell? ⟨b, 3, none⟩ = some (.int .i64 (rankOne S (partsOf P) i p).prio) ∧ wr.cell? ⟨b, 4, none⟩ = some (.bool p.tight) := fun p hp hm1 => by
              rw [hVi] at hrow
              obtain ⟨b, cap2, cur, hv, _, hb, _⟩ := own_shape hrow (by omega)
              injection hv with e1 _ _
              have hx : (rowsC S P S.cores i)[0]? = some (rankOne S (partsOf P) i p) := by rw [hQi]; unfold rankRow; rw [List.getElem?_map, hp]; rfl
              have hc : ∀ (k : Nat) (u : Value), (encPc (rankOne S (partsOf P) i p))[k]? = some u → wr.cell? ⟨b, k, none⟩ = some u := fun k u hk => by
                rw [e1] at hrow
                obtain ⟨g', e2, hc2⟩ := row_cell encPc_len hrow hx hk
                injection e2 with e2
                injection e2 with e2
                subst e2
                simpa using hc2
              exact ⟨b, e1, blk_lt hb, hc 0 _ rfl, hc 3 _ rfl, hc 4 _ rfl⟩
            have HWH := hid hwhole
            have HOT := hid hother
            have HRKC := hid hrk
            have HPL := hid hpl
            have HT := hid ht
            have HWV := hid hwv
            have HQI := hid hQi
            have HVI := hid hVi
            have HMP := hid hmp
            have hm8 : m ≤ 8 := by rw [hmp]; exact (HPO.out pl (List.mem_of_getElem? hpl)).1
            clear hwhole hother hrk hpl ht hwv hQi hrow hm hVi hmp
            go_upto_region 13 with fail
            clear v0
            go_cut [61] (fun v wx => ∃ gb : Bool, v = .bool gb ∧ Hid (gb = decide (0 ≤ wv)) ∧ wr = wx)
            case first =>
              by_cases hm1 : m = 1
              case pos =>
                obtain ⟨p, hp⟩ : ∃ p, pl[0]? = some p := ⟨_, List.getElem?_eq_getElem (by have := HMP.out; omega)⟩
                obtain ⟨b, rfl, _, _, _, p4⟩ := HRKC.out p hp hm1
                have HE := hid (show (!p.tight) = decide (0 ≤ wv) from by
                  have h1 := HWV.out
                  rw [whereOf_one (by have := HMP.out; omega) hp] at h1
                  cases ht : p.tight with
                  | true => rw [ht, if_pos rfl] at h1; rw [← h1]; rfl
                  | false =>
                    rw [ht] at h1
                    have h2 := ((HPO.out pl (List.mem_of_getElem? HPL.out)).2 p (List.mem_of_getElem? hp)).1
                    have h3 : p.core = wv := by simpa using h1
                    rw [decide_eq_true (by omega)]
                    rfl)
                subst hm1
                clear hp
                go_wp2_with fail
                go_meet
                exact ⟨_, rfl, HE, rfl⟩
              case neg =>
                have hmb : ((m : Int) == 1) = false := beq_eq_false_iff_ne.2 (by omega)
                have HE := hid (show decide (0 ≤ wv) = false from decide_eq_false (fun h => hm1 (HWH.out h).1))
                clear hm1
                go_wp2_with fail
                go_meet
                exact ⟨_, rfl, hid HE.out.symm, rfl⟩
            obtain ⟨gb, rfl, HGB, rfl⟩ := hcut
            go_upto_if 61 with fail
            go_cut [10] (fun v wx => v = .int .i64 wv ∧ Hid (RkW w wx w.heap.size R (w.heap.size + 1) CS S P (.slice A0 n0 c0) n g V uw (.slice Au c cu) X i c (fun c => topF (upsN S P c (i + 1)))))
            case first =>
              cases gb
              case false =>
                have hw : ¬ 0 ≤ wv := of_decide_eq_false HGB.out.symm
                have hwe := HOT.out hw
                have HKN := hid (HKi.out.congr (f' := fun c => topF (upsN S P c (i + 1))) (fun a ha b hb => by
                  have h1 : whereAt P i = wv := by unfold whereAt; rw [List.getElem?_map, HPL.out]; exact HWV.out
                  have h2 := upsK_no (S := S) (P := P) (c := (a : Int)) (i := i) (by rw [h1]; omega) 0
                  rw [upsK_zero] at h2
                  show topF (upsN S P a (i + 1)) b = topF (upsN S P a i) b
                  rw [h2]))
                have HWE := hid hwe
                clear hw hwe
                go_wp2_with fail
                go_meet
                exact ⟨int_eq HWE.out.symm, HKN⟩
              case true =>
                have hw : 0 ≤ wv := of_decide_eq_true HGB.out.symm
                obtain ⟨hm1, p, hp, hpt, hpc⟩ := HWH.out hw
                subst hm1
                obtain ⟨b7, rfl, hb7, k0, k3, k4⟩ := HRKC.out p hp rfl
                obtain ⟨cw, hcw⟩ : ∃ cw : Nat, wv = cw := ⟨wv.toNat, by omega⟩
                have hcwc : cw < c := by
                  have h2 := ((HPO.out pl (List.mem_of_getElem? HPL.out)).2 p (List.mem_of_getElem? hp)).2
                  have := HNC.out
                  omega
                rw [hpc, hcw] at k0
                have HCW := hid hcw
                obtain ⟨pr, hpr⟩ : ∃ x, (rankOne S (partsOf P) i p).prio = x := ⟨_, rfl⟩
                rw [hpr] at k3
                have HPR := hid (show prioOf S P i = pr from by
                  unfold prioOf rankL
                  rw [List.getElem?_mapIdx, HPL.out]
                  show (((rankRow S (partsOf P) i pl).head?.map Pc.prio).getD 0) = _
                  rw [List.head?_eq_getElem?]
                  unfold rankRow
                  rw [List.getElem?_map, hp]
                  exact hpr)
                obtain ⟨b1, o1, cs1, hA1, hbl1, _, hcs1, us1, hu1, hu2⟩ := HS.out.tasks.at HT.out
                subst hA1
                subst hu1
                obtain ⟨A1, c1, hu3, _⟩ := hu2.shape
                obtain ⟨m1, hm1⟩ : ∃ m, m = t.secs.length := ⟨_, rfl⟩
                rw [← hm1] at hu3
                subst hu3
                have HSO := hid (show secsOf S i = t.secs by unfold secsOf; rw [HT.out]; rfl)
                have HTO := hid (HOK.out.sys.tasks t (List.mem_of_getElem? HT.out))
                have hm4 : m1 ≤ 4 := by rw [hm1]; exact HTO.out.n
                have HU2 := hid hu2
                have HM1 := hid hm1
                have s8 : wr.cell? ⟨w.heap.size, 8, none⟩ = some (.slice (some ⟨b1, o1, none⟩) n0 c0) := by rw [blk_cell HKi.out.b0 8, HCS.out]; rfl
                have s9 : wr.cell? ⟨b1, o1 + i * 4 + 3, none⟩ = some (.slice A1 m1 c1) := (HKi.out.below.cell (p := ⟨b1, o1 + i * 4 + 3, none⟩) hbl1).trans (hcs1 3 _ rfl)
                have hin0 : i < n0 := by have h1 := HOK.out.len; have := HN.out; have := HN0.out; omega
                have HK0' := hid (HKi.out.congr (f' := fun c => topF (upsK S P c i 0)) (fun a ha b hb => by rw [upsK_zero]))
                have HX3 := hid (fun W (h : GR W (w.heap.size + 1) g n n V (rowsC S P S.cores)) => show W.cell? ⟨b7, 3, none⟩ = some (.int .i64 pr) from by
                  have hrow := h.rows i hil
                  have hx : (rowsC S P S.cores i)[0]? = some (rankOne S (partsOf P) i p) := by rw [HQI.out]; unfold rankRow; rw [List.getElem?_map, hp]; rfl
                  rw [HVI.out] at hrow
                  have hl : (rowsC S P S.cores i).length = 1 := by rw [HQI.out]; unfold rankRow; rw [List.length_map]; exact HMP.out.symm
                  rw [hl] at hrow
                  obtain ⟨g', e2, hc2⟩ := row_cell encPc_len hrow hx (j := 3) (u := .int .i64 (rankOne S (partsOf P) i p).prio) rfl
                  injection e2 with e2
                  injection e2 with e2
                  subst e2
                  rw [← hpr]
                  simpa using hc2)
                have HBW1 := hid (fun W (h : Below w.heap.size w W) (k : Nat) (x : Sec) (hx : t.secs[k]? = some x) => (HU2.out.later secR.stays h).at hx)
                clear hw hp hpt hpc hcw hpr hbl1 hcs1 hu2 hm1 hb7
                go_wp2_with fail
                clear s8 s9 k0 k3 k4
                obtain ⟨ws, hws⟩ : ∃ ws, ws = wr := ⟨_, rfl⟩
                subst hws
                go_loopw [73] (fun v wr => ∃ k : Nat, k ≤ m1 ∧ v = .int .i64 k ∧ Hid (RkW w wr w.heap.size R (w.heap.size + 1) CS S P (.slice (some ⟨b1, o1, none⟩) n0 c0) n g V uw (.slice Au c cu) X i c (fun c => topF (upsK S P c i k)))) (fun v _ => m1 - (intOf v).toNat)
                case atStart => exact ⟨0, by omega, rfl, HK0'⟩
                case round =>
                  obtain ⟨k, hk, rfl, HKk⟩ := hrel
                  by_cases hkm : k < m1
                  case neg =>
                    obtain rfl : k = m1 := by omega
                    have HKN := hid (HKk.out.congr (f' := fun c => topF (upsN S P c (i + 1))) (fun a ha b hb => by
                      have h1 : whereAt P i = wv := by unfold whereAt; rw [List.getElem?_map, HPL.out]; exact HWV.out
                      show topF (upsN S P a (i + 1)) b = topF (upsK S P a i k) b
                      by_cases e : a = cw
                      · have h2 := upsK_all S P (a : Int) i
                        rw [HSO.out, ← HM1.out] at h2
                        rw [h2]
                      · rw [upsK_no (by rw [h1, HCW.out]; omega)]))
                    go_wp2_with fail
                    go_meet
                    exact ⟨int_eq HCW.out.symm, HKN⟩
                  case pos =>
                    obtain ⟨x, hx⟩ : ∃ x, t.secs[k]? = some x := ⟨_, List.getElem?_eq_getElem (by have := HM1.out; omega)⟩
                    obtain ⟨b8, o8, cs8, hA8, hbl8, _, hcs8, hr8⟩ := HBW1.out wr HKk.out.below k x hx
                    subst hA8
                    have hr8' : cs8 = [.int .i64 x.at_, .int .i64 x.res, .int .i64 x.len] := hr8
                    subst hr8'
                    have hxo := HTO.out.s x (List.mem_of_getElem? hx)
                    obtain ⟨jr, hjr⟩ : ∃ j : Nat, x.res = j := ⟨x.res.toNat, by have := hxo.r0; omega⟩
                    have hjn : jr < rn := by have := hxo.r1; have := HRN.out; omega
                    have HUS := hid (show topF (upsK S P cw i (k + 1)) = upd (topF (upsK S P cw i k)) jr (max 1 pr) by
                      rw [upsK_succ (by unfold whereAt; rw [List.getElem?_map, HPL.out]; exact HWV.out.trans HCW.out) (by rw [HSO.out]; exact hx), topF_snoc, HPR.out, hjr]
                      rfl)
                    have HUN := hid (show ∀ a : Nat, a ≠ cw → topF (upsK S P a i (k + 1)) = topF (upsK S P a i k) from fun a ha => by
                      have h1 : whereAt P i ≠ (a : Int) := by unfold whereAt; rw [List.getElem?_map, HPL.out]; show whereOf pl ≠ _; rw [HWV.out, HCW.out]; omega
                      rw [upsK_no h1, upsK_no h1])
                    rw [hjr] at hcs8
                    have e0 : wr.cell? ⟨b8, o8 + k * 3, none⟩ = some (.int .i64 x.at_) := by simpa using hcs8 0 _ rfl
                    have e1 : wr.cell? ⟨b8, o8 + k * 3 + 1, none⟩ = some (.int .i64 jr) := hcs8 1 _ rfl
                    have e2 : wr.cell? ⟨b8, o8 + k * 3 + 2, none⟩ = some (.int .i64 x.len) := hcs8 2 _ rfl
                    clear hx hbl8 hcs8 hr8 hxo hjr
                    obtain ⟨xa, hxa⟩ : ∃ v, x.at_ = v := ⟨_, rfl⟩
                    obtain ⟨xl, hxl⟩ : ∃ v, x.len = v := ⟨_, rfl⟩
                    rw [hxa] at e0
                    rw [hxl] at e2
                    clear hxa hxl
                    go_upto_region 18 with fail
                    obtain ⟨D, hD⟩ : ∃ D, D = wr.heap.size := ⟨_, rfl⟩
                    rw [← hD]
                    generalize hw6 : wr.alloc (.cells #[.int .i64 xa, .int .i64 jr, .int .i64 xl] 88) = w6
                    have hbel : Below wr.heap.size wr w6 := by rw [← hw6]; exact below_new (Below.refl _ _) _
                    have hblk : w6.heap[D]? = some (.cells #[.int .i64 xa, .int .i64 jr, .int .i64 xl] 88 (0, 0)) := by rw [← hw6, hD]; exact blk_new _ _
                    have HK6 := hid (HKk.out.later hbel)
                    have f1 : w6.cell? ⟨D, 1, none⟩ = some (.int .i64 jr) := blk_cell hblk 1
                    have f1d : w6.drew.cell? ⟨D, 1, none⟩ = some (.int .i64 jr) := f1
                    clear hw6 hD hbel hblk e0 e1 e2
                    obtain ⟨gu, cap2, hu5, hu6⟩ := HK6.out.ce.cell hcwc
                    injection hu5 with e3 _ _
                    subst e3
                    rw [HRT.out] at hu6
                    have hu6d : w6.drew.cell? ⟨gu, cw, none⟩ = some (.slice (some ⟨X cw, 0, none⟩) rn rn) := hu6
                    have r11 : w6.cell? ⟨R, 11, none⟩ = some (.slice (some ⟨gu, 0, none⟩) c cu) := blk_cell HK6.out.hr 11
                    have r11d : w6.drew.cell? ⟨R, 11, none⟩ = some (.slice (some ⟨gu, 0, none⟩) c cu) := r11
                    have HK7 := hid HK6.out.drew
                    go_region
                    clear f1 f1d hu6 hu6d r11 r11d
                    generalize w6.drew = w7 at HK7 ⊢
                    have p3 := HX3.out w7 HK7.out.gr
                    go_upto_region 20 with fail
                    clear p3
                    obtain ⟨pm, hpm⟩ : ∃ y, max 1 pr = y := ⟨_, rfl⟩
                    rw [hpm] at HUS
                    have hpe : (if 1 < pr then pr else 1) = pm := by rw [← hpm]; split <;> omega
                    first | rw [hpm] | rw [hpe]
                    clear hpe hpm
                    obtain ⟨tv, htv⟩ : ∃ y, topF (upsK S P cw i k) jr = y := ⟨_, rfl⟩
                    have x0 : w7.cell? ⟨X cw, jr, none⟩ = some (.int .i64 tv) := by rw [(HK7.out.ce.rows cw hcwc).cell (by rw [HRT.out]; exact hjn), htv]
                    have x1 : w7.frozen? ⟨X cw, jr, none⟩ = false := (HK7.out.ce.rows cw hcwc).free jr
                    have HTV := hid htv
                    clear htv
                    have HPUT := hid (fun (hp : tv = 0 ∨ pm < tv) => HK7.out.put (f' := fun c => topF (upsK S P c i (k + 1))) hcwc (r := jr) (by rw [HRT.out]; exact hjn) pm (fun a ha b hb => by
                      by_cases e : a = cw
                      · subst e
                        simp only [HUS.out]
                        unfold upd
                        by_cases e2 : b = jr
                        · rw [if_pos e2, HTV.out, if_pos hp]
                          simp [e2]
                        · rw [if_neg e2]
                          simp [e2]
                      · rw [if_neg (fun h => e h.1)]
                        simp only [HUN.out a e]))
                    have HSKIP := hid (fun (hp : ¬ (tv = 0 ∨ pm < tv)) => HK7.out.congr (f' := fun c => topF (upsK S P c i (k + 1))) (fun a ha b hb => by
                      by_cases e : a = cw
                      · subst e
                        simp only [HUS.out]
                        unfold upd
                        by_cases e2 : b = jr
                        · rw [if_pos e2, HTV.out, if_neg hp, e2, HTV.out]
                        · rw [if_neg e2]
                      · simp only [HUN.out a e]))
                    by_cases hz : tv = 0
                    case pos =>
                      have hzb : (tv == 0) = true := beq_iff_eq.2 hz
                      have HC4 := hid (HPUT.out (.inl hz))
                      clear hz HPUT HSKIP
                      go_wp2_with fail
                      go_roundw
                      case rel => exact ⟨k + 1, by omega, by go_num, HC4⟩
                      case measure => simp [intOf]; omega
                    case neg =>
                      have hzb : (tv == 0) = false := beq_eq_false_iff_ne.2 hz
                      by_cases hl : pm < tv
                      case pos =>
                        have hlb : decide (pm < tv) = true := decide_eq_true hl
                        have HC4 := hid (HPUT.out (.inr hl))
                        clear hz HPUT HSKIP
                        go_wp2_with fail
                        go_roundw
                        case rel => exact ⟨k + 1, by omega, by go_num, HC4⟩
                        case measure => simp [intOf]; omega
                      case neg =>
                        have hlb : decide (pm < tv) = false := decide_eq_false hl
                        have HC4 := hid (HSKIP.out (fun h => h.elim hz hl))
                        clear hz HPUT HSKIP
                        go_wp2_with fail
                        go_roundw
                        case rel => exact ⟨k + 1, by omega, by go_num, HC4⟩
                        case measure => simp [intOf]; omega
            obtain ⟨rfl, HKC⟩ := hcut
            obtain ⟨w8, hw8⟩ : ∃ x, x = wc := ⟨_, rfl⟩
            subst hw8
            have hwm := hid (show (P.map whereOf)[i]? = some wv by rw [List.getElem?_map, HPL.out]; exact congrArg some HWV.out)
            have hown := HKC.out.wh
            obtain ⟨Aw, cw2, rfl⟩ := own_slice hown
            have HOWN := hid hown
            have r10 : w8.cell? ⟨R, 10, none⟩ = some (.slice Aw i cw2) := blk_cell HKC.out.hr 10
            have hbs : w.heap.size < w8.heap.size := blk_lt HKC.out.b0
            clear hown
            go_wp2_with (at_builtin; refine append_new rfl _ _ 27 rfl (w.heap.size + 1) 3 i1 _ 1 8 Try.underlying27 hi' hy0 hy1 hy2 rfl (by decide) #[.int .i64 wv] (.slice Aw i cw2) i (intCells ((P.map whereOf).take i)) rfl _ rfl rfl HOWN.out rfl (one_one _) (by unfold maxLen; omega) (by omega) (by omega) ?_; intro v' w9 ho hf hv; obtain ⟨A', c', rfl⟩ := own_slice ho; have HO9 := hid ho; have HF9 := hid hf; have HV9 := hid hv; have hr9 := hf.blk HKC.out.hr (fun h => HKC.out.rw h); have g10 : w9.cell? ⟨R, 10, none⟩ = some (.slice Aw i cw2) := blk_cell hr9 10; have z10 : w9.frozen? ⟨R, 10, none⟩ = false := blk_free hr9 10; clear ho hf hv hr9)
            have HKN := hid (HKC.out.where_ hwm.out HO9.out HF9.out (HV9.out.elim .inl (fun h => .inr ⟨_, h, Nat.le_succ _⟩)))
            go_roundw
            case rel => exact ⟨i + 1, _, by omega, by go_num, HKN⟩
            case measure => simp [intOf]; omega
          case neg =>
            obtain rfl : i = n := by omega
            have HEND := hid (show IsRk wr w.heap.size R S (.slice A0 n0 c0) P i g V uw (.slice Au c cu) X from
              ⟨HKi.out.hr, by have := HKi.out.rz; omega, HKi.out.gr.mono (Nat.le_succ _), by
                have h := own_mono HKi.out.wh (Nat.le_succ w.heap.size)
                rw [List.take_of_length_le (by rw [List.length_map, HN.out]; exact Nat.le_refl _)] at h
                exact h, by
                have h := HKi.out.ce.mono (Nat.le_succ w.heap.size)
                rw [show S.cores.toNat = c by rw [HNC.out]; rfl, ← HN.out]
                exact h⟩)
            have HBE := hid HKi.out.below
            go_wp2_with fail
            go_ret2
            exact .inr ⟨HPB.out, R, g, V, uw, _, X, rfl, HEND.out, HBE.out⟩
end
end Go.Proofs.Ytppildaahmlfmaa
