/- Joined: Owns. -/
import Derived.Test.YtppildaahmlfmaaQ50
import Derived.Test.YtppildaahmlfmaaQ52
import Derived.Deep.QuietTactic
import Derived.BigQuiet
set_option linter.unusedVariables false
set_option linter.unusedSimpArgs false
/- AnalysisOwns: the law's walk: it returns true. -/
set_option linter.unusedVariables false
set_option linter.unusedSimpArgs false
namespace Go.Proofs.Ytppildaahmlfmaa
open Go.RowKit
section
variable {w : World}
set_option maxRecDepth 100000 in
set_option maxHeartbeats 12800000 in
theorem owns_any (S : Sy) (A0 : Option Addr) (n0 c0 : Nat) (A : Option Addr) (n cap : Nat) (P : Pl) (hs : IsSys w (.slice A0 n0 c0) S) (hp : IsPlan w (.slice A n cap) P) (t k : Int) :
    Calls Try.prog 6 #[sysV S (.slice A0 n0 c0), .slice A n cap, .int .i64 t, .int .i64 k] w fun e w' => e = .returned (.bool true) ∧ Below w.heap.size w w' := by
  have hn := hp.rows.len
  have hn0 := hs.tasks.len
  have HS := hid hs
  have HP := hid hp
  have HN := hid hn
  have HN0 := hid hn0
  have HEX := hid (fun W => examples17_any (w := W))
  have HOW := hid (fun W (h : Below w.heap.size w W) => own17_any (w := W) S A0 n0 c0 A n cap P (hs.later h) (hp.later h) t k)
  have HPR := hid (fun W (h : Below w.heap.size w W) => pright_any (w := W) S A0 n0 c0 A n cap P (hs.later h) (hp.later h))
  have HNO := hid (fun h => @ownR_no S P t k h)
  have HYES := hid (fun (p : Pc) (h1 : planB S P = true) (h2 : pcAt P t k = some p) => show ownR S P t k = (ownV S P ⟨p, t.toNat, k.toNat⟩, 0) by unfold ownR; rw [if_pos h1, h2])
  obtain ⟨⟨V0, V1⟩, hV⟩ : ∃ V, ownR S P t k = V := ⟨_, rfl⟩
  rw [hV] at HNO HYES HOW
  obtain ⟨pB, hpB⟩ : ∃ b, planB S P = b := ⟨_, rfl⟩
  rw [hpB] at HNO HYES HPR
  have HPB := hid hpB
  have hq0 := blk_new w (.cells (sysC S (.slice A0 n0 c0)) 24)
  have HSY := hid (show SyAt w (w.alloc (.cells (sysC S (.slice A0 n0 c0)) 24)) w.heap.size S (.slice A0 n0 c0) from ⟨hq0, below_new (Below.refl w.heap.size w) _⟩)
  have hnm : n ≤ 9223372036854775807 := by have := hp.rows.room; unfold maxLen at this; omega
  clear hs hp hn hn0 hV hq0 hpB
  obtain ⟨i0, hi, hz0, hz1, hz2⟩ := info_parts Try.info_int
  simp only at HOW
  unfold sysV at HOW HPR ⊢
  unfold sysC at HSY
  go_enter Try.func6, Try.ntmps6
  go_upto_region 1 with fail
  obtain ⟨w1, hw1⟩ : ∃ w1, w.alloc (.cells #[.int .i64 S.cores, .int .i64 S.policy, .int .i64 S.prot, .int .i64 S.rel, .int .i64 S.sw, .int .i64 S.fin, .int .i64 S.lat, .int .i64 S.resn, .slice A0 n0 c0] 24) = w1 := ⟨_, rfl⟩
  rw [hw1] at HSY ⊢
  clear hw1
  go_wp2_with fail
  refine (HEX.out w1).mono ?_
  rintro e w2 ⟨rfl, hb2⟩
  have HSY2 := hid (HSY.out.later hb2)
  clear hb2 HSY HEX
  obtain ⟨s00, s01, s02, s03, s04, s05, s06, s07, s08⟩ := HSY2.out.cells
  go_wp2_with fail
  refine (HOW.out w2 HSY2.out.below).mono ?_
  rintro e w3 ⟨rfl, hb3⟩
  have HSY3 := hid (HSY2.out.later hb3)
  clear hb3 HSY2 HOW s00 s01 s02 s03 s04 s05 s06 s07 s08
  obtain ⟨s00, s01, s02, s03, s04, s05, s06, s07, s08⟩ := HSY3.out.cells
  go_wp2_with fail
  refine (HPR.out w3 HSY3.out.below).mono ?_
  rintro e w4 ⟨rfl, hb4⟩
  have HSY4 := hid (HSY3.out.later hb4)
  have HB := hid HSY4.out.below
  clear hb4 HSY3 HPR s00 s01 s02 s03 s04 s05 s06 s07 s08
  cases pB
  case false =>
    obtain ⟨rfl, rfl⟩ : V0 = 0 ∧ V1 = 1 := Prod.mk.inj (HNO.out (.inl rfl))
    clear HNO HYES 
    go_wp2_with fail
    go_ret
    exact ⟨rfl, HB.out⟩
  case true =>
    have HOK := hid (planB_ok HPB.out)
    have HRS := hid (HOK.out.sys)
    have hnn : n = n0 := by have := HOK.out.len; have := HN.out; have := HN0.out; omega
    subst hnn
    have hn24 : n ≤ 24 := by have := HOK.out.sys.len; have := HOK.out.len; have := HN.out; omega
    have HRT := hid (show rightS S = true by have hpb := HPB.out; unfold planB at hpb; simp only [Bool.and_eq_true] at hpb; exact hpb.1.1.1.1)
    by_cases ht0 : 0 ≤ t
    case neg =>
      have d0 : decide (t < 0) = true := decide_eq_true (by omega)
      obtain ⟨rfl, rfl⟩ : V0 = 0 ∧ V1 = 1 := Prod.mk.inj (HNO.out (.inr (by unfold pcAt; rw [if_neg (fun h => ht0 h.1)])))
      clear HNO HYES 
      go_wp2_with fail
      go_ret
      exact ⟨rfl, HB.out⟩
    case pos =>
      have d0 : decide (t < 0) = false := decide_eq_false (by omega)
      obtain ⟨i, rfl⟩ : ∃ i : Nat, t = i := ⟨t.toNat, by omega⟩
      by_cases htn : i < n
      case neg =>
        have d1 : decide ((n : Int) ≤ i) = true := decide_eq_true (by omega)
        obtain ⟨rfl, rfl⟩ : V0 = 0 ∧ V1 = 1 := Prod.mk.inj (HNO.out (.inr (by unfold pcAt; rw [Int.toNat_natCast, List.getElem?_eq_none (by have := HN.out; omega)]; split <;> rfl)))
        clear HNO HYES 
        go_wp2_with fail
        go_ret
        exact ⟨rfl, HB.out⟩
      case pos =>
        have d1 : decide ((n : Int) ≤ i) = false := decide_eq_false (by omega)
        by_cases hk0 : 0 ≤ k
        case neg =>
          have d2 : decide (k < 0) = true := decide_eq_true (by omega)
          obtain ⟨rfl, rfl⟩ : V0 = 0 ∧ V1 = 1 := Prod.mk.inj (HNO.out (.inr (by unfold pcAt; rw [if_neg (fun h => hk0 h.2)])))
          clear HNO HYES 
          go_wp2_with fail
          go_ret
          exact ⟨rfl, HB.out⟩
        case pos =>
          have d2 : decide (k < 0) = false := decide_eq_false (by omega)
          obtain ⟨j, rfl⟩ : ∃ j : Nat, k = j := ⟨k.toNat, by omega⟩
          obtain ⟨pl, hpl⟩ : ∃ pl, P[i]? = some pl := ⟨_, List.getElem?_eq_getElem (by have := HN.out; omega)⟩
          obtain ⟨b2, o2, cs2, hA2, hbl2, _, hc2, ul, hv1, hv2⟩ := HP.out.rows.at hpl
          subst hA2
          subst hv1
          obtain ⟨A3, c3, hv3, _⟩ := hv2.shape
          obtain ⟨m3, hm3⟩ : ∃ m, m = pl.length := ⟨_, rfl⟩
          rw [← hm3] at hv3
          subst hv3
          have HM3 := hid hm3
          have q0 : w4.cell? ⟨b2, o2 + i, none⟩ = some (.slice A3 m3 c3) := (HB.out.cell (p := ⟨b2, o2 + i, none⟩) hbl2).trans (by simpa using hc2 0 _ rfl)
          have HPL := hid hpl
          clear hm3 hc2 hbl2 hpl
          by_cases hkm : j < m3
          case neg =>
            have d3 : decide ((m3 : Int) ≤ j) = true := decide_eq_true (by omega)
            clear hv2
            obtain ⟨rfl, rfl⟩ : V0 = 0 ∧ V1 = 1 := Prod.mk.inj (HNO.out (.inr (by unfold pcAt; rw [if_pos (by omega), Int.toNat_natCast, HPL.out]; exact List.getElem?_eq_none (by rw [Int.toNat_natCast, ← HM3.out]; omega))))
            clear HNO HYES 
            go_wp2_with fail
            go_ret
            exact ⟨rfl, HB.out⟩
          case pos =>
            have d3 : decide ((m3 : Int) ≤ j) = false := decide_eq_false (by omega)
            obtain ⟨p, hp⟩ : ∃ p, pl[j]? = some p := ⟨_, List.getElem?_eq_getElem (by have := HM3.out; omega)⟩
            have hVV := HYES.out p rfl (by unfold pcAt; rw [if_pos (by omega), Int.toNat_natCast, HPL.out]; exact hp)
            rw [Int.toNat_natCast, Int.toNat_natCast] at hVV
            obtain ⟨hV0, rfl⟩ := Prod.mk.inj hVV
            have hbud : 0 ≤ p.bud ∧ p.bud ≤ 1099511627776 := by
              obtain ⟨t, ht⟩ : ∃ t, S.tasks[i]? = some t := ⟨_, List.getElem?_eq_getElem (by have := HN0.out; omega)⟩
              have hto := HOK.out.sys.tasks t (List.mem_of_getElem? ht)
              have h4 := (listOk_pcs HOK.out.sys hto (HOK.out.lists i t pl ht HPL.out)).2 p (List.mem_of_getElem? hp)
              have := h4.b0; have := h4.b1; have := hto.w1; have := hto.d1; have := hto.p1
              omega
            obtain ⟨b6, o6, cs6, hA8, hbl6, _, hc6, hr6⟩ := hv2.at hp
            subst hA8
            obtain ⟨pc, pb, pd, pr, pt⟩ := p
            simp only at hV0 hbud
            have hr6' : cs6 = [.int .i64 pc, .int .i64 pb, .int .i64 pd, .int .i64 pr, .bool pt] := hr6
            subst hr6'
            have e1 : w4.cell? ⟨b6, o6 + j * 5 + 1, none⟩ = some (.int .i64 pb) := (HB.out.cell (p := ⟨b6, o6 + j * 5 + 1, none⟩) hbl6).trans (hc6 1 _ rfl)
            obtain ⟨c, hc⟩ : ∃ c, (whereL P)[i]? = some c := ⟨_, List.getElem?_eq_getElem (by rw [whereL_len]; have := HN.out; omega)⟩
            have HC := hid hc
            obtain ⟨y, hy⟩ : ∃ y, extraV S (whereL P) i = y := ⟨_, rfl⟩
            have hEB := extraV_bound HRS.out (whereL P) i
            rw [hy] at hEB
            have HY := hid hy
            have HVV := hid (show V0 = pb + S.fin + 2 * S.sw + (if 0 ≤ c then y else 0) by
              rw [hV0]
              unfold ownV whereAt
              show pb + S.fin + 2 * S.sw + (if 0 ≤ ((P.map whereOf)[i]?).getD (-1) then extraV S (whereL P) i else 0) = _
              rw [show (P.map whereOf)[i]? = some c from hc, hy]; rfl)
            have hfin := HRS.out.fin
            have hsw := HRS.out.sw
            have x1 : IntKind.i64.wrap (pb + S.fin) = pb + S.fin := wraps_i64 _ (by omega) (by omega)
            have x2 : IntKind.i64.wrap (2 * S.sw) = 2 * S.sw := wraps_i64 _ (by omega) (by omega)
            have x3 : IntKind.i64.wrap (pb + S.fin + 2 * S.sw) = pb + S.fin + 2 * S.sw := wraps_i64 _ (by omega) (by omega)
            have x4 : IntKind.i64.wrap (pb + S.fin + 2 * S.sw + y) = pb + S.fin + 2 * S.sw + y := wraps_i64 _ (by omega) (by omega)
            have HX4 := hid x4
            obtain ⟨s00, s01, s02, s03, s04, s05, s06, s07, s08⟩ := HSY4.out.cells
            clear hp hVV hV0 hbud hv2 hbl6 hc6 hr6 hc hy hEB hfin hsw x4 HNO HYES
            go_upto_region 5 with fail
            go_quiet (fail)
            have HSY5 := hid (show SyAt w (w4.drewN nq) w.heap.size S (.slice A0 n c0) from ⟨HSY4.out.blk, ((Fr.of_below (S := NoB) HB.out).drewN nq).no⟩)
            obtain ⟨w5, hw5⟩ : ∃ w5, w4.drewN nq = w5 := ⟨_, rfl⟩
            rw [hw5] at HSY5 ⊢
            clear hw5 s00 s01 s02 s03 s04 s05 s06 s07 s08 e1 q0 x1 x2 x3 d0 d1 d2 d3 HB HSY4
            obtain ⟨Z, hZ⟩ : ∃ Z, w5.heap.size = Z := ⟨_, rfl⟩
            go_wp2_with fail
            simp only [decide_eq_false (show ¬ n ≤ i by omega), decide_eq_false (show ¬ m3 ≤ j by omega), Bool.or_false]
            go_loopw [13, 14] (fun u i wr => ∃ k : Nat, k ≤ n ∧ i = .int .i64 k ∧ wr.ownsRow Z 3 1 u k (intCells ((P.map whereOf).take k)) ∧ Below Z w5 wr) (fun _ i _ => n - (intOf i).toNat)
            case atStart => exact ⟨0, by omega, rfl, World.ownsRow_nil _ _ _ _, by rw [← hZ]; exact Below.refl _ _⟩
            case round =>
              obtain ⟨q, hq, rfl, hown, hb⟩ := hrel
              have HB := hid hb
              have HO := hid hown
              have hszx : Z ≤ wr.heap.size := by rw [← hZ]; exact hb.size
              have HBW := hid (below_then HSY5.out.below (by rw [hZ]; exact hb))
              by_cases hlt : q < n
              case pos =>
                obtain ⟨pl2, hpl⟩ : ∃ pl, P[q]? = some pl := ⟨_, List.getElem?_eq_getElem (by have := HN.out; omega)⟩
                obtain ⟨b7, o7, cs7, hA7, hbl7, _, hc7, ul, hv1, hv2⟩ := HP.out.rows.at hpl
                injection hA7 with hA7
                injection hA7 with hA7 hA9 _
                subst hA7 hA9
                subst hv1
                obtain ⟨A5, c5, hv3, hv4⟩ := hv2.shape
                obtain ⟨m5, hm5⟩ : ∃ m, m = pl2.length := ⟨_, rfl⟩
                rw [← hm5] at hv3 hv4
                subst hv3
                have hp2 : (P.map whereOf)[q]? = some (whereOf pl2) := by rw [List.getElem?_map, hpl]; rfl
                have HIT := hid (int_take hp2)
                have HM5 := hid hm5
                have HV2 := hid hv2
                have g0 : wr.cell? ⟨b2, o2 + q, none⟩ = some (.slice A5 m5 c5) := (HBW.out.cell (p := ⟨b2, o2 + q, none⟩) hbl7).trans (by simpa using hc7 0 _ rfl)
                clear hpl hm5 hv2 hv4 hc7 hbl7 hp2
                by_cases h1 : m5 = 1
                case pos =>
                  have hb1 : ((m5 : Int) == 1) = true := by rw [h1]; rfl
                  have h0 : 0 < m5 := by omega
                  obtain ⟨p, hp⟩ : ∃ p, pl2[0]? = some p := ⟨_, List.getElem?_eq_getElem (by have := HM5.out; omega)⟩
                  obtain ⟨b4, o4, cs4, hA4, hbl4, _, hc4, hr4⟩ := HV2.out.at hp
                  subst hA4
                  have hr4' : cs4 = [.int .i64 p.core, .int .i64 p.bud, .int .i64 p.dl, .int .i64 p.prio, .bool p.tight] := hr4
                  subst hr4'
                  have HWH := hid (whereOf_one (by rw [← HM5.out]; exact h1) hp)
                  obtain ⟨qc, qb, qd, qp, ti⟩ := p
                  simp only at hc4 HWH
                  have f0 : wr.cell? ⟨b4, o4, none⟩ = some (.int .i64 qc) := (HBW.out.cell (p := ⟨b4, o4, none⟩) hbl4).trans (by simpa using hc4 0 _ rfl)
                  have f4 : wr.cell? ⟨b4, o4 + 4, none⟩ = some (.bool ti) := (HBW.out.cell (p := ⟨b4, o4 + 4, none⟩) hbl4).trans (by simpa using hc4 4 _ rfl)
                  clear hp hbl4 hc4 hr4 h1 hb
                  cases ti
                  case true =>
                    have HV := hid (show whereOf pl2 = -1 by rw [HWH.out]; rfl)
                    go_wp2_with (at_builtin; refine append_new rfl _ _ 27 rfl Z 3 i0 _ 1 8 Try.underlying27 hi hz0 hz1 hz2 rfl (by decide) #[.int .i64 (-1)] u13 q (intCells ((P.map whereOf).take q)) rfl _ rfl rfl hown rfl (one_one _) (by unfold maxLen; omega) (by omega) hszx ?_)
                    intro v6 w6 hown6 hf6 hl6
                    have HO6 : Hid (w6.ownsRow Z 3 1 v6 (q + 1) (intCells ((P.map whereOf).take (q + 1)))) := by rw [HIT.out, HV.out]; exact hid hown6
                    have HB6 : Hid (Below Z w5 w6) := hid (by have h := HB.out; rw [← hZ] at h ⊢; exact ((Fr.of_below (S := NoB) h).trans hf6 (fun b hb => .inr (by rw [hZ]; exact own_ge HO.out b hb))).no)
                    clear hown6 hf6 hl6 hown
                    go_wp2_with fail
                    go_roundw
                    case rel => exact ⟨q + 1, by omega, by go_num, HO6.out, HB6.out⟩
                    case measure => simp [intOf]; omega
                  case false =>
                    have HV := hid (show whereOf pl2 = qc by rw [HWH.out]; rfl)
                    go_wp2_with (at_builtin; refine append_new rfl _ _ 27 rfl Z 3 i0 _ 1 8 Try.underlying27 hi hz0 hz1 hz2 rfl (by decide) #[.int .i64 (qc)] u13 q (intCells ((P.map whereOf).take q)) rfl _ rfl rfl hown rfl (one_one _) (by unfold maxLen; omega) (by omega) hszx ?_)
                    intro v6 w6 hown6 hf6 hl6
                    have HO6 : Hid (w6.ownsRow Z 3 1 v6 (q + 1) (intCells ((P.map whereOf).take (q + 1)))) := by rw [HIT.out, HV.out]; exact hid hown6
                    have HB6 : Hid (Below Z w5 w6) := hid (by have h := HB.out; rw [← hZ] at h ⊢; exact ((Fr.of_below (S := NoB) h).trans hf6 (fun b hb => .inr (by rw [hZ]; exact own_ge HO.out b hb))).no)
                    clear hown6 hf6 hl6 hown
                    go_wp2_with fail
                    go_roundw
                    case rel => exact ⟨q + 1, by omega, by go_num, HO6.out, HB6.out⟩
                    case measure => simp [intOf]; omega
                case neg =>
                  have hb1 : ((m5 : Int) == 1) = false := beq_eq_false_iff_ne.2 (by omega)
                  have HV := hid (show whereOf pl2 = -1 from whereOf_no (by rw [← HM5.out]; exact h1))
                  clear h1 hb
                  go_wp2_with (at_builtin; refine append_new rfl _ _ 27 rfl Z 3 i0 _ 1 8 Try.underlying27 hi hz0 hz1 hz2 rfl (by decide) #[.int .i64 (-1)] u13 q (intCells ((P.map whereOf).take q)) rfl _ rfl rfl hown rfl (one_one _) (by unfold maxLen; omega) (by omega) hszx ?_)
                  intro v6 w6 hown6 hf6 hl6
                  have HO6 : Hid (w6.ownsRow Z 3 1 v6 (q + 1) (intCells ((P.map whereOf).take (q + 1)))) := by rw [HIT.out, HV.out]; exact hid hown6
                  have HB6 : Hid (Below Z w5 w6) := hid (by have h := HB.out; rw [← hZ] at h ⊢; exact ((Fr.of_below (S := NoB) h).trans hf6 (fun b hb => .inr (by rw [hZ]; exact own_ge HO.out b hb))).no)
                  clear hown6 hf6 hl6 hown
                  go_wp2_with fail
                  go_roundw
                  case rel => exact ⟨q + 1, by omega, by go_num, HO6.out, HB6.out⟩
                  case measure => simp [intOf]; omega
              case neg =>
                obtain rfl : q = n := by omega
                rw [List.take_of_length_le (by rw [List.length_map]; have := HN.out; omega)] at hown
                obtain ⟨Aw, cw, rfl⟩ := own_slice hown
                have hwr : Rowp 1 IntR wr (.slice Aw q cw) (whereL P) := Rowp.ints hown (by rw [whereL_len]; exact HN.out)
                have HWX := hid (extra_any (w := wr) S A0 q c0 (HS.out.later HBW.out) HRT.out (whereL P) Aw cw hwr (whereL_wf HP.out.wf) i)
                obtain ⟨b9, o9, cs9, hA9, _, _, hc9, hr9⟩ := hwr.at HC.out
                subst hA9
                have hr9' : cs9 = [.int .i64 c] := hr9
                subst hr9'
                have g0 : wr.cell? ⟨b9, o9 + i, none⟩ = some (.int .i64 c) := by simpa using hc9 0 _ rfl
                obtain ⟨ts, hts⟩ : ∃ t, S.tasks[i]? = some t := ⟨_, List.getElem?_eq_getElem (by have := HN0.out; omega)⟩
                have HXA := hid (HWX.out ts hts)
                rw [HY.out] at HXA
                unfold sysV at HXA
                have HSY6 := hid (HSY5.out.later (by rw [hZ]; exact hb))
                obtain ⟨s00, s01, s02, s03, s04, s05, s06, s07, s08⟩ := HSY6.out.cells
                clear hown HO hb hwr hc9 hr9 hts HWX
                by_cases h0 : 0 ≤ c
                case neg =>
                  have hd0 : decide (0 ≤ c) = false := decide_eq_false h0
                  obtain rfl : V0 = pb + S.fin + 2 * S.sw := by rw [HVV.out, if_neg h0]; omega
                  have hbe : (pb + S.fin + 2 * S.sw == pb + S.fin + 2 * S.sw) = true := beq_self_eq_true _
                  clear HVV HXA
                  go_wp2_with fail
                  go_ret
                  exact ⟨rfl, HBW.out⟩
                case pos =>
                  have hd0 : decide (0 ≤ c) = true := decide_eq_true h0
                  obtain rfl : V0 = pb + S.fin + 2 * S.sw + y := by rw [HVV.out, if_pos h0]
                  have hbe : (pb + S.fin + 2 * S.sw + y == pb + S.fin + 2 * S.sw + y) = true := beq_self_eq_true _
                  have x4 := HX4.out
                  clear HVV
                  go_wp2_with fail
                  refine HXA.out.mono ?_
                  rintro e w7 ⟨rfl, hb7⟩
                  have HB7 := hid (below_then HBW.out hb7)
                  clear hb7 HXA
                  go_wp2_with fail
                  go_ret
                  exact ⟨rfl, HB7.out⟩
end
end Go.Proofs.Ytppildaahmlfmaa
