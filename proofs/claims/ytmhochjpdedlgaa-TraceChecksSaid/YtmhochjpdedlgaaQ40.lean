/- Joined: RefOwn. -/
import Derived.Test.YtmhochjpdedlgaaQ35
set_option linter.unusedVariables false
set_option linter.unusedSimpArgs false
/- Package tourbillonref17: Rank, Ceilings (contracts): what comes is the call's own. -/
set_option linter.unusedVariables false
set_option linter.unusedSimpArgs false
namespace Go.Proofs.Ytmhochjpdedlgaa
open Go.RowKit

theorem OG.mono {w : World} {base base' : Nat} {u : Value} {vs : List Value} {Q : Pl} (h : OG w base u vs Q) (hb : base' ≤ base) : OG w base' u vs Q := ⟨own_mono h.out hb, h.len, fun i v q hv hq => own_mono (h.rows i v q hv hq) hb, h.apart⟩
theorem OI.mono {w : World} {base base' : Nat} {u : Value} {vs : List Value} {Q : List (List Int)} (h : OI w base u vs Q) (hb : base' ≤ base) : OI w base' u vs Q := ⟨own_mono h.out hb, h.len, fun i v q hv hq => own_mono (h.rows i v q hv hq) hb, h.apart⟩
section
variable {w : World}
set_option maxRecDepth 100000 in
set_option maxHeartbeats 6400000 in
theorem rrank_og (S : Sy) (A0 : Option Addr) (n0 c0 : Nat) (A : Option Addr) (n cap : Nat) (P : Pl) (hs : IsSys w (.slice A0 n0 c0) S) (hp : IsPlan w (.slice A n cap) P) :
    Calls Try.prog 27 #[sysV S (.slice A0 n0 c0), .slice A n cap] w fun e w' => ∃ u, e = .returned (.tuple #[u, .bool (planB S P)]) ∧ (planB S P = true → ∃ vs, OG w' w.heap.size u vs (rankL S P)) ∧ Below w.heap.size w w' := by
  have hn := hp.rows.len
  have HP := hid hp
  have HN := hid hn
  have hnm : n ≤ 9223372036854775807 := by have := hp.rows.room; unfold maxLen at this; omega
  have HVR := hid (fun W (h : Below w.heap.size w W) => rright17_any (w := W) S A0 n0 c0 A n cap P (hs.later h) (hp.later h))
  obtain ⟨CS, hCS⟩ : ∃ C, C = sysC S (.slice A0 n0 c0) := ⟨_, rfl⟩
  have HCS := hid hCS
  obtain ⟨rb, hrb⟩ : ∃ r, planB S P = r := ⟨_, rfl⟩
  have HRB := hid hrb
  rw [hrb] at HVR ⊢
  obtain ⟨i0, hi, hz0, hz1, hz2⟩ := info_parts Try.info_piece
  obtain ⟨i1, hi', hy0, hy1, hy2⟩ := info_parts Try.info_pieces
  unfold sysV at *
  have hn24 : rb = true → n ≤ 24 ∧ (partsOf P).length ≤ 192 ∧ ∀ l ∈ P, l.length ≤ 8 := fun e => by
    have ok := planB_ok (hrb.trans e)
    have h1 := ok.len
    have h2 := ok.sys.len
    have h3 : ∀ l ∈ P, l.length ≤ 8 := fun l hl => by
      obtain ⟨i, hi⟩ := List.mem_iff_getElem?.1 hl
      have hi2 := (List.getElem?_eq_some_iff.1 hi).1
      have ht : S.tasks[i]? = some (S.tasks[i]'(by omega)) := List.getElem?_eq_getElem _
      exact (listOk_pcs ok.sys (ok.sys.tasks _ (List.mem_of_getElem? ht)) (ok.lists i _ l ht hi)).1
    have h4 := parts_len_le h3
    exact ⟨by omega, by omega, h3⟩
  have HN24 := hid hn24
  clear hs hp hn hCS hrb hn24
  go_enter Try.func27, Try.ntmps27
  go_wp2_with fail
  refine (HVR.out _ (below_new (Below.refl _ _) _)).mono ?_
  rintro e w1 ⟨rfl, hb1⟩
  have q0 : w1.heap[w.heap.size]? = some (.cells (sysC S (.slice A0 n0 c0)) 24 (0, 0)) := (fr0 hb1).blk (blk_new w _) (fun h => h)
  have hbw := below_then (below_new (Below.refl _ _) _) hb1
  rw [← HCS.out] at q0
  have HRK := hid (show RKW w w1 w.heap.size w1.heap.size CS from ⟨hbw, q0, hbw.size, blk_lt q0, Nat.le_refl _⟩)
  obtain ⟨B, hB⟩ : ∃ B, w.heap.size = B := ⟨_, rfl⟩
  obtain ⟨Z, hZ⟩ : ∃ Z, w1.heap.size = Z := ⟨_, rfl⟩
  rw [hB] at HRK ⊢
  rw [hZ] at HRK
  clear q0 hbw hb1 hB hZ
  cases rb
  case false =>
    go_wp2_with fail
    go_ret2
    exact ⟨_, rfl, (fun h => by cases h), HRK.out.below⟩
  case true =>
    obtain ⟨hn24, hpl192, hl8⟩ := HN24.out rfl
    have HL8 := hid hl8
    clear hl8
    go_wp2_with fail
    go_loopw [7, 8] (fun u i wr => ∃ (k : Nat) (vs : List Value), k ≤ n ∧ i = .int .i64 k ∧ Hid (OG wr Z u vs ((rankL S P).take k)) ∧ Hid (RKW w wr B Z CS)) (fun _ i _ => n - (intOf i).toNat)
    case atStart => exact ⟨0, [], by omega, rfl, hid (OG.nil _ _), HRK⟩
    case round =>
      obtain ⟨k, vs, hk, rfl, HOG, HVr⟩ := hrel
      by_cases hlt : k < n
      case pos =>
        obtain ⟨pl, hpl⟩ : ∃ pl, P[k]? = some pl := ⟨_, List.getElem?_eq_getElem (by have := HN.out; omega)⟩
        obtain ⟨b2, o2, cs2, hA2, hbl2, _, hc2, ul, hv1, hv2⟩ := HP.out.rows.at hpl
        subst hA2
        subst hv1
        obtain ⟨A3, c3, hv3, hv4⟩ := hv2.shape
        obtain ⟨m3, hm3⟩ : ∃ m, m = pl.length := ⟨_, rfl⟩
        rw [← hm3] at hv3 hv4
        subst hv3
        have hm8 : m3 ≤ 8 := by rw [hm3]; exact HL8.out pl (List.mem_of_getElem? hpl)
        have HY := hid hpl
        have HM3 := hid hm3
        have HV2 := hid hv2
        have HRC := hid (show w.cell? ⟨b2, o2 + k, none⟩ = some (.slice A3 m3 c3) from by simpa using hc2 0 _ rfl)
        have HBL2 := hid hbl2
        have HW0 := hid (show ∀ W, Below w.heap.size w W → W.cell? ⟨b2, o2 + k, none⟩ = some (.slice A3 m3 c3) from fun W h => (h.cell (p := ⟨b2, o2 + k, none⟩) HBL2.out).trans HRC.out)
        have HAH := hid (fun W (h : Below w.heap.size w W) (pc pb pd : Int) => ahead_any (w := W) P (some ⟨b2, o2, none⟩) n cap (HP.out.later h) k ⟨pc, pb, pd, 0, false⟩ (by omega) (by omega))
        unfold pieceC at HAH
        simp only at HAH
        have hvl : vs.length = k := by
          have h1 := HOG.out.len
          rw [List.length_take] at h1
          have h2 : (rankL S P).length = P.length := by unfold rankL; rw [List.length_mapIdx]
          have := HN.out
          omega
        have d0 := HW0.out wr HVr.out.below
        clear hpl hm3 hv2 hv4 hc2 hbl2
        go_wp2_with fail
        clear d0
        go_loopw [9, 10] (fun v jv wr => ∃ j : Nat, j ≤ m3 ∧ jv = .int .i64 j ∧ Hid (wr.ownsRow Z 62 5 v j (flat encPc ((rankRow S (partsOf P) k pl).take j))) ∧ Hid (OG wr Z u7 vs ((rankL S P).take k)) ∧ Hid (RKW w wr B Z CS) ∧ Hid (∀ b, v.ownBlock = some b → ¬ OGSet u7 vs b)) (fun _ jv _ => m3 - (intOf jv).toNat)
        case atStart => exact ⟨0, by omega, rfl, hid (World.ownsRow_nil _ _ _ _), HOG, HVr, hid (fun b hb => by simp [Value.ownBlock] at hb)⟩
        case round =>
          obtain ⟨j, hj, rfl, HOW, HOI, HVi, HDJ⟩ := hrel
          have d0 := HW0.out wr HVi.out.below
          by_cases hjm : j < m3
          case pos =>
            obtain ⟨q, hq⟩ : ∃ q, pl[j]? = some q := ⟨_, List.getElem?_eq_getElem (by have := HM3.out; omega)⟩
            obtain ⟨b4, o4, cs4, hA4, hbl4, _, hc4, hr4⟩ := HV2.out.at hq
            subst hA4
            have hr4' : cs4 = [.int .i64 q.core, .int .i64 q.bud, .int .i64 q.dl, .int .i64 q.prio, .bool q.tight] := hr4
            subst hr4'
            obtain ⟨pc, pb, pd, pp, ti⟩ := q
            have HRT := hid (show flat encPc ((rankRow S (partsOf P) k pl).take (j + 1)) = flat encPc ((rankRow S (partsOf P) k pl).take j) ++ [.int .i64 pc, .int .i64 pb, .int .i64 pd, .int .i64 (if S.policy = 1 ∧ ti = false then 1 + ((aheadL k ⟨pc, pb, pd, pp, ti⟩ (partsOf P) : Nat) : Int) else 0), .bool ti] from row_take hq)
            simp only at hc4
            have hbr := HVi.out.below
            have e0 : wr.cell? ⟨b4, o4 + j * 5, none⟩ = some (.int .i64 pc) := (hbr.cell (p := ⟨b4, o4 + j * 5, none⟩) hbl4).trans (by simpa using hc4 0 _ rfl)
            have e1 : wr.cell? ⟨b4, o4 + j * 5 + 1, none⟩ = some (.int .i64 pb) := (hbr.cell (p := ⟨b4, o4 + j * 5 + 1, none⟩) hbl4).trans (hc4 1 _ rfl)
            have e2 : wr.cell? ⟨b4, o4 + j * 5 + 2, none⟩ = some (.int .i64 pd) := (hbr.cell (p := ⟨b4, o4 + j * 5 + 2, none⟩) hbl4).trans (hc4 2 _ rfl)
            have e3 : wr.cell? ⟨b4, o4 + j * 5 + 3, none⟩ = some (.int .i64 pp) := (hbr.cell (p := ⟨b4, o4 + j * 5 + 3, none⟩) hbl4).trans (hc4 3 _ rfl)
            have e4 : wr.cell? ⟨b4, o4 + j * 5 + 4, none⟩ = some (.bool ti) := (hbr.cell (p := ⟨b4, o4 + j * 5 + 4, none⟩) hbl4).trans (hc4 4 _ rfl)
            clear hq hbr hbl4 hc4 hr4
            go_upto_region 13 with fail
            obtain ⟨D, hD⟩ : ∃ D, D = wr.heap.size := ⟨_, rfl⟩
            rw [← hD]
            generalize hw3 : wr.alloc (.cells #[.int .i64 pc, .int .i64 pb, .int .i64 pd, .int .i64 pp, .bool ti] 62) = w3
            have hbel : Below wr.heap.size wr w3 := by rw [← hw3]; exact below_new (Below.refl _ _) _
            have hblk : w3.heap[D]? = some (.cells #[.int .i64 pc, .int .i64 pb, .int .i64 pd, .int .i64 pp, .bool ti] 62 (0, 0)) := by rw [← hw3, hD]; exact blk_new _ _
            have f3 : w3.cell? ⟨D, 3, none⟩ = some (.int .i64 pp) := blk_cell hblk 3
            have z3 : w3.frozen? ⟨D, 3, none⟩ = false := blk_free hblk 3
            have HDB := hid hblk
            have HBE := hid hbel
            have HDL := hid (show wr.heap.size ≤ D by omega)
            clear hw3 hD hblk hbel d0 e0 e1 e2 e3 e4
            go_upto_region 14 with fail
            have HB4 := hid (show Below wr.heap.size wr (w3.setCell ⟨D, 3, none⟩ (.int .i64 0)) from HBE.out.setCell (p := ⟨D, 3, none⟩) HDL.out _)
            have HD4 := hid (show (w3.setCell ⟨D, 3, none⟩ (.int .i64 0)).heap[D]? = some (.cells #[.int .i64 pc, .int .i64 pb, .int .i64 pd, .int .i64 0, .bool ti] 62 (0, 0)) from by have := blk_set HDB.out 3 (.int .i64 0); simpa using this)
            generalize w3.setCell ⟨D, 3, none⟩ (.int .i64 0) = w4 at *
            clear f3 z3
            have HV4 := hid (HVi.out.later HB4.out)
            have g1 : w4.cell? ⟨B, 1, none⟩ = some (.int .i64 S.policy) := by rw [blk_cell HV4.out.b0 1, HCS.out]; rfl
            have f0 : w4.cell? ⟨D, 0, none⟩ = some (.int .i64 pc) := blk_cell HD4.out 0
            have f1 : w4.cell? ⟨D, 1, none⟩ = some (.int .i64 pb) := blk_cell HD4.out 1
            have f2 : w4.cell? ⟨D, 2, none⟩ = some (.int .i64 pd) := blk_cell HD4.out 2
            have f3 : w4.cell? ⟨D, 3, none⟩ = some (.int .i64 0) := blk_cell HD4.out 3
            have f4 : w4.cell? ⟨D, 4, none⟩ = some (.bool ti) := blk_cell HD4.out 4
            by_cases hpo : S.policy = 1
            case neg =>
              have hpb : (S.policy == 1) = false := beq_eq_false_iff_ne.2 hpo
              have HPR := hid (show (if S.policy = 1 ∧ ti = false then 1 + ((aheadL k ⟨pc, pb, pd, pp, ti⟩ (partsOf P) : Nat) : Int) else 0) = 0 from if_neg (fun h => hpo h.1))
              clear hpo
              have hown := HOW.out
              have hown := own_kept hown (fr0 HB4.out) (fun _ _ h => h)
              have hszx : Z ≤ w4.heap.size := Nat.le_trans HVi.out.sz HB4.out.size
              have HON := hid (encPc_one ⟨pc, pb, pd, 0, ti⟩)
              unfold encPc at HON
              go_wp2_with (at_builtin; refine append_new rfl _ _ 52 rfl Z 62 i0 _ 5 40 Try.underlying52 hi hz0 hz1 hz2 rfl (by decide) #[.int .i64 pc, .int .i64 pb, .int .i64 pd, .int .i64 (0), .bool ti] u9 j (flat encPc ((rankRow S (partsOf P) k pl).take j)) rfl _ rfl rfl hown rfl HON.out (by unfold maxLen; omega) (by omega) hszx ?_)
              intro v7 w7 hown7 hf7 hl7
              have HO7 : Hid (w7.ownsRow Z 62 5 v7 (j + 1) (flat encPc ((rankRow S (partsOf P) k pl).take (j + 1)))) := by rw [HRT.out, HPR.out]; exact hid hown7
              have HO8 := hid ((HOI.out.later HB4.out).kept hf7 (fun b hb h => HDJ.out b h hb))
              have HV8 := hid ((HVi.out.later HB4.out).fr hf7 (fun b hb => (hown.lt b hb).1) hf7.size)
              have HD8 := hid (show ∀ b, v7.ownBlock = some b → ¬ OGSet u7 vs b from fun b hb h => by
                rcases hl7 with e | e
                · exact HDJ.out b (by rw [← e]; exact hb) h
                · rw [e] at hb
                  injection hb with hb
                  have := (HOI.out.lt b h).2
                  have := HB4.out.size
                  omega)
              clear hown7 hf7 hl7 hown
              go_wp2_with fail
              go_roundw
              case rel => exact ⟨j + 1, by omega, by go_num, HO7, HO8, HV8, HD8⟩
              case measure => simp [intOf]; omega
            case pos =>
              have hpb : (S.policy == 1) = true := beq_iff_eq.2 hpo
              cases ti
              case true =>
                have HPR := hid (show (if S.policy = 1 ∧ true = false then 1 + ((aheadL k ⟨pc, pb, pd, pp, true⟩ (partsOf P) : Nat) : Int) else 0) = 0 from if_neg (fun h => by cases h.2))
                clear hpo
                have hown := HOW.out
                have hown := own_kept hown (fr0 HB4.out) (fun _ _ h => h)
                have hszx : Z ≤ w4.heap.size := Nat.le_trans HVi.out.sz HB4.out.size
                have HON := hid (encPc_one ⟨pc, pb, pd, 0, true⟩)
                unfold encPc at HON
                go_wp2_with (at_builtin; refine append_new rfl _ _ 52 rfl Z 62 i0 _ 5 40 Try.underlying52 hi hz0 hz1 hz2 rfl (by decide) #[.int .i64 pc, .int .i64 pb, .int .i64 pd, .int .i64 (0), .bool true] u9 j (flat encPc ((rankRow S (partsOf P) k pl).take j)) rfl _ rfl rfl hown rfl HON.out (by unfold maxLen; omega) (by omega) hszx ?_)
                intro v7 w7 hown7 hf7 hl7
                have HO7 : Hid (w7.ownsRow Z 62 5 v7 (j + 1) (flat encPc ((rankRow S (partsOf P) k pl).take (j + 1)))) := by rw [HRT.out, HPR.out]; exact hid hown7
                have HO8 := hid ((HOI.out.later HB4.out).kept hf7 (fun b hb h => HDJ.out b h hb))
                have HV8 := hid ((HVi.out.later HB4.out).fr hf7 (fun b hb => (hown.lt b hb).1) hf7.size)
                have HD8 := hid (show ∀ b, v7.ownBlock = some b → ¬ OGSet u7 vs b from fun b hb h => by
                  rcases hl7 with e | e
                  · exact HDJ.out b (by rw [← e]; exact hb) h
                  · rw [e] at hb
                    injection hb with hb
                    have := (HOI.out.lt b h).2
                    have := HB4.out.size
                    omega)
                clear hown7 hf7 hl7 hown
                go_wp2_with fail
                go_roundw
                case rel => exact ⟨j + 1, by omega, by go_num, HO7, HO8, HV8, HD8⟩
                case measure => simp [intOf]; omega
              case false =>
                obtain ⟨r, hr⟩ : ∃ r, aheadL k ⟨pc, pb, pd, 0, false⟩ (partsOf P) = r := ⟨_, rfl⟩
                have hr2 : r ≤ 192 := by
                  rw [← hr]
                  have : aheadL k ⟨pc, pb, pd, 0, false⟩ (partsOf P) ≤ (partsOf P).length := List.length_filter_le _ _
                  omega
                have HPR := hid (show (if S.policy = 1 ∧ false = false then 1 + ((aheadL k ⟨pc, pb, pd, pp, false⟩ (partsOf P) : Nat) : Int) else 0) = 1 + (r : Int) by rw [if_pos ⟨hpo, rfl⟩, aheadL_prio k pc pb pd pp 0 false false, hr])
                have HAC := hid (HAH.out w4 HV4.out.below pc pb pd)
                rw [hr] at HAC
                have hs0 : IntKind.i64.wrap (1 + (r : Int)) = 1 + (r : Int) := wraps_i64 _ (by omega) (by omega)
                clear hpo hr
                go_wp2_with fail
                refine HAC.out.mono ?_
                rintro e w5 ⟨rfl, hb5⟩
                have hD5 := (fr0 hb5).blk HD4.out (fun h => h)
                have t3 : w5.cell? ⟨D, 3, none⟩ = some (.int .i64 0) := blk_cell hD5 3
                have s3 : w5.frozen? ⟨D, 3, none⟩ = false := blk_free hD5 3
                have HD5 := hid hD5
                have HB5 := hid (below_then HB4.out hb5)
                clear g1 f0 f1 f2 f3 f4 hb5 hD5
                go_upto_region 16 with fail
                have HB6 := hid (show Below wr.heap.size wr (w5.setCell ⟨D, 3, none⟩ (.int .i64 (1 + (r : Int)))) from HB5.out.setCell (p := ⟨D, 3, none⟩) HDL.out _)
                have HD6 := hid (show (w5.setCell ⟨D, 3, none⟩ (.int .i64 (1 + (r : Int)))).heap[D]? = some (.cells #[.int .i64 pc, .int .i64 pb, .int .i64 pd, .int .i64 (1 + (r : Int)), .bool false] 62 (0, 0)) from by have := blk_set HD5.out 3 (.int .i64 (1 + (r : Int))); simpa using this)
                generalize w5.setCell ⟨D, 3, none⟩ (.int .i64 (1 + (r : Int))) = w6 at *
                have HV6 := hid (HVi.out.later HB6.out)
                have f0 : w6.cell? ⟨D, 0, none⟩ = some (.int .i64 pc) := blk_cell HD6.out 0
                have f1 : w6.cell? ⟨D, 1, none⟩ = some (.int .i64 pb) := blk_cell HD6.out 1
                have f2 : w6.cell? ⟨D, 2, none⟩ = some (.int .i64 pd) := blk_cell HD6.out 2
                have f3 : w6.cell? ⟨D, 3, none⟩ = some (.int .i64 (1 + (r : Int))) := blk_cell HD6.out 3
                have f4 : w6.cell? ⟨D, 4, none⟩ = some (.bool false) := blk_cell HD6.out 4
                clear t3 s3
                have hown := HOW.out
                have hown := own_kept hown (fr0 HB6.out) (fun _ _ h => h)
                have hszx : Z ≤ w6.heap.size := Nat.le_trans HVi.out.sz HB6.out.size
                have HON := hid (encPc_one ⟨pc, pb, pd, 1 + (r : Int), false⟩)
                unfold encPc at HON
                go_wp2_with (at_builtin; refine append_new rfl _ _ 52 rfl Z 62 i0 _ 5 40 Try.underlying52 hi hz0 hz1 hz2 rfl (by decide) #[.int .i64 pc, .int .i64 pb, .int .i64 pd, .int .i64 (1 + (r : Int)), .bool false] u9 j (flat encPc ((rankRow S (partsOf P) k pl).take j)) rfl _ rfl rfl hown rfl HON.out (by unfold maxLen; omega) (by omega) hszx ?_)
                intro v7 w7 hown7 hf7 hl7
                have HO7 : Hid (w7.ownsRow Z 62 5 v7 (j + 1) (flat encPc ((rankRow S (partsOf P) k pl).take (j + 1)))) := by rw [HRT.out, HPR.out]; exact hid hown7
                have HO8 := hid ((HOI.out.later HB6.out).kept hf7 (fun b hb h => HDJ.out b h hb))
                have HV8 := hid ((HVi.out.later HB6.out).fr hf7 (fun b hb => (hown.lt b hb).1) hf7.size)
                have HD8 := hid (show ∀ b, v7.ownBlock = some b → ¬ OGSet u7 vs b from fun b hb h => by
                  rcases hl7 with e | e
                  · exact HDJ.out b (by rw [← e]; exact hb) h
                  · rw [e] at hb
                    injection hb with hb
                    have := (HOI.out.lt b h).2
                    have := HB6.out.size
                    omega)
                clear hown7 hf7 hl7 hown
                go_wp2_with fail
                go_roundw
                case rel => exact ⟨j + 1, by omega, by go_num, HO7, HO8, HV8, HD8⟩
                case measure => simp [intOf]; omega
          case neg =>
            obtain rfl : j = m3 := by omega
            obtain ⟨A9, cap9, hv9⟩ := own_slice HOW.out
            subst hv9
            have HRK2 := hid (rank_take (S := S) HY.out)
            have hszx := HVi.out.sz
            have hlen3 : (rankRow S (partsOf P) k pl).length = j := by unfold rankRow; rw [List.length_map]; exact HM3.out.symm
            have HOW2 : Hid (wr.ownsRow Z 62 5 (.slice A9 j cap9) (rankRow S (partsOf P) k pl).length (flat encPc (rankRow S (partsOf P) k pl))) := by
              rw [hlen3]
              have h := HOW.out
              rw [List.take_of_length_le (by rw [hlen3]; exact Nat.le_refl _)] at h
              exact h
            have hown := HOI.out.out
            rw [hvl] at hown
            clear hlen3
            go_wp2_with (at_builtin; refine append_new rfl _ _ 48 rfl Z 52 i1 _ 1 24 Try.underlying48 hi' hy0 hy1 hy2 rfl (by decide) #[.slice A9 j cap9] u7 k vs rfl _ rfl rfl hown rfl (fun u hu => by simp at hu; subst hu; rfl) (by unfold maxLen; omega) (by omega) hszx ?_)
            intro v6 w6 hown6 hf6 hl6
            have HO6 := hid (HOI.out.snoc HOW2.out (fun b hb e => HDJ.out b hb (.inl e)) (by rw [hvl]; exact hown6) hf6 (hl6.imp id (fun h => ⟨_, h, Nat.le_succ _⟩)))
            have HV6 := hid (HVi.out.fr hf6 (fun b hb => (HOI.out.lt b (.inl hb)).1) hf6.size)
            clear hown6 hf6 hl6 hown
            go_wp2_with fail
            go_roundw
            case rel => exact ⟨k + 1, _, by omega, by go_num, by rw [HRK2.out]; exact HO6, HV6⟩
            case measure => simp [intOf]; omega
      case neg =>
        obtain rfl : k = n := by omega
        have HO2 : Hid (OG wr Z u7 vs (rankL S P)) := by
          have h := HOG.out
          rw [List.take_of_length_le (by unfold rankL; rw [List.length_mapIdx]; have := HN.out; omega)] at h
          exact h
        go_wp2_with fail
        go_ret2
        exact ⟨_, rfl, ⟨_, HO2.out.mono (by have := HVr.out.lo; omega)⟩, HVr.out.below⟩
set_option maxRecDepth 100000 in
set_option maxHeartbeats 6400000 in
theorem rceil_oi (S : Sy) (A0 : Option Addr) (n0 c0 : Nat) (A : Option Addr) (n cap : Nat) (P : Pl) (hs : IsSys w (.slice A0 n0 c0) S) (hp : IsPlan w (.slice A n cap) P) :
    Calls Try.prog 28 #[sysV S (.slice A0 n0 c0), .slice A n cap] w fun e w' => ∃ u, e = .returned (.tuple #[u, .bool (planB S P)]) ∧ (planB S P = true → ∃ vs, OI w' w.heap.size u vs (ceilL S P)) ∧ Below w.heap.size w w' := by
  have hn := hp.rows.len
  have hn0 := hs.tasks.len
  have HS := hid hs
  have HP := hid hp
  have HN := hid hn
  have HN0 := hid hn0
  have hnm : n ≤ 9223372036854775807 := by have := hp.rows.room; unfold maxLen at this; omega
  have hn0m : n0 ≤ 9223372036854775807 := by have := hs.tasks.room; unfold maxLen at this; omega
  have HVR := hid (fun W (h : Below w.heap.size w W) => rrank_any (w := W) S A0 n0 c0 A n cap P (hs.later h) (hp.later h))
  obtain ⟨CS, hCS⟩ : ∃ C, C = sysC S (.slice A0 n0 c0) := ⟨_, rfl⟩
  have HCS := hid hCS
  obtain ⟨rb, hrb⟩ : ∃ r, planB S P = r := ⟨_, rfl⟩
  have HRB := hid hrb
  rw [hrb] at HVR ⊢
  obtain ⟨i0, hi, hz0, hz1, hz2⟩ := info_parts Try.info_ints
  unfold sysV at *
  have hok : rb = true → PlanOk S P := fun e => planB_ok (hrb.trans e)
  have HOK := hid hok
  clear hs hp hn hn0 hCS hrb hok
  go_enter Try.func28, Try.ntmps28
  go_wp2_with fail
  refine (HVR.out _ (below_new (Below.refl _ _) _)).mono ?_
  rintro e w1 ⟨ur, rfl, hrk, hb1⟩
  have q0 : w1.heap[w.heap.size]? = some (.cells (sysC S (.slice A0 n0 c0)) 24 (0, 0)) := (fr0 hb1).blk (blk_new w _) (fun h => h)
  have hbw := below_then (below_new (Below.refl _ _) _) hb1
  rw [← HCS.out] at q0
  have HQ0 := hid q0
  have HBW := hid hbw
  have HBL := hid (blk_lt q0)
  obtain ⟨B, hB⟩ : ∃ B, w.heap.size = B := ⟨_, rfl⟩
  rw [hB] at HQ0 HBL ⊢
  have HB := hid hB
  clear q0 hbw hb1 hB
  cases rb
  case false =>
    have HRK := hid hrk
    clear hrk
    go_wp2_with fail
    go_ret2
    exact ⟨_, rfl, (fun h => by cases h), HBW.out⟩
  case true =>
    have HO := hid (HOK.out rfl)
    rw [if_pos rfl] at hrk
    obtain ⟨Ar, cr, hur, _⟩ := hrk.shape
    have hrl : (rankL S P).length = n := by unfold rankL; rw [List.length_mapIdx, HN.out]
    rw [hrl] at hur
    subst hur
    have hnn : n = n0 := by have := HO.out.len; have := HN.out; have := HN0.out; omega
    subst hnn
    have hn24 : n ≤ 24 := by have := HO.out.sys.len; have := HN0.out; omega
    have HRK := hid hrk
    have HWH := hid (fun W (h : Below w1.heap.size w1 W) => where_any (w := W) P A n cap (HP.out.later (below_then HBW.out h)) (by omega))
    obtain ⟨nc, hnc⟩ : ∃ nc : Nat, S.cores = nc := ⟨S.cores.toNat, by have := HO.out.sys.cores; omega⟩
    obtain ⟨rn, hrn⟩ : ∃ rn : Nat, S.resn = rn := ⟨S.resn.toNat, by have := HO.out.sys.resn; omega⟩
    have hnc8 : nc ≤ 8 := by have := HO.out.sys.cores; omega
    have hrn8 : rn ≤ 8 := by have := HO.out.sys.resn; omega
    have HNC := hid hnc
    have HRN := hid hrn
    obtain ⟨C0, hC0⟩ : ∃ C, C = (List.replicate rn (.int .i64 0) : List Value).toArray := ⟨_, rfl⟩
    have hmake : ∀ w, (Instr.makeSlice 39 (.int .i64 S.resn) (.int .i64 S.resn)).run Try.prog w = .ok (.slice (some ⟨w.heap.size, 0, none⟩) rn rn) (w.alloc (.cells C0 3)) := fun w => by rw [hrn, hC0]; exact make_ints rn (by omega) w
    have HMK := hid hmake
    have HC0 := hid hC0
    clear hC0 hnc hrn hrk hrl hmake
    go_wp2_with fail
    refine (HWH.out _ (Below.refl _ _)).mono ?_
    rintro e w2 ⟨uw, rfl, hwo, hb2⟩
    obtain ⟨Aw, cw, huw⟩ := own_slice hwo
    subst huw
    have HWI := hid (Rowp.ints hwo (by rw [List.length_map]; exact HN.out))
    have HB2 := hid hb2
    have HBW2 := hid (below_then HBW.out hb2)
    have HQ2 := hid ((fr0 hb2).blk HQ0.out (fun h => h))
    have HRK2 := hid (HRK.out.later (RowR.stays pcR.stays) hb2)
    have HSZ := hid hb2.size
    clear hwo hb2 HRK HQ0 HWH
    obtain ⟨Z, hZ⟩ : ∃ Z, w2.heap.size = Z := ⟨_, rfl⟩
    have HZ := hid hZ
    clear hZ
    go_wp2_with fail
    go_loopw [9, 10] (fun u v wr => ∃ (c : Nat) (vs : List Value), c ≤ nc ∧ v = .int .i64 c ∧ Hid (OI wr Z u vs ((ceilL S P).take c)) ∧ Hid (Below w2.heap.size w2 wr)) (fun _ v _ => nc - (intOf v).toNat)
    case atStart => exact ⟨0, [], by omega, rfl, hid (OI.nil _ _), hid (Below.refl _ _)⟩
    case round =>
      obtain ⟨c, vs, hc, rfl, HOI, HBR⟩ := hrel
      have hq := (fr0 HBR.out).blk HQ2.out (fun h => h)
      have s0 : wr.cell? ⟨B, 0, none⟩ = some (.int .i64 S.cores) := by rw [blk_cell hq 0, HCS.out]; rfl
      have s7 : wr.cell? ⟨B, 7, none⟩ = some (.int .i64 S.resn) := by rw [blk_cell hq 7, HCS.out]; rfl
      have HQR := hid hq
      clear hq
      by_cases hcn : c < nc
      case pos =>
        have hcd : decide ((c : Int) < S.cores) = true := decide_eq_true (by have := HNC.out; omega)
        have hmake := HMK.out
        obtain ⟨w8, hw8⟩ : ∃ w8, w8 = wr := ⟨_, rfl⟩
        subst hw8
        go_upto_region 10 with fail
        clear hmake s0 s7
        have hZt : Tally (w8.alloc (.cells C0 3)) w8.heap.size rn (fun _ => 0) := ⟨⟨C0, blk_new _ _, by rw [HC0.out]; simp, fun j hj => by rw [HC0.out]; simp [hj]⟩⟩
        have HCE0 := hid (show CEW w8 (w8.alloc (.cells C0 3)) w8.heap.size rn (topF (upsN S P c 0)) from ⟨below_new (Below.refl _ _) _, hZt, Nat.le_refl _⟩)
        clear hZt
        obtain ⟨X, hX⟩ : ∃ X, X = w8.heap.size := ⟨_, rfl⟩
        rw [← hX] at HCE0 ⊢
        have HX := hid hX
        clear hX
        generalize w8.alloc (.cells C0 3) = w9 at HCE0 ⊢
        have HBWR := hid (below_then HBW2.out HBR.out)
        go_wp2_with fail
        clear hcd
        go_loopw [12] (fun v wr => ∃ i : Nat, i ≤ n ∧ v = .int .i64 i ∧ Hid (CEW w8 wr X rn (topF (upsN S P c i)))) (fun v _ => n - (intOf v).toNat)
        case atStart => exact ⟨0, by omega, rfl, HCE0⟩
        case round =>
          obtain ⟨i, hin, rfl, HCI⟩ := hrel
          by_cases hil : i < n
          case pos =>
            obtain ⟨t, ht⟩ : ∃ t, S.tasks[i]? = some t := ⟨_, List.getElem?_eq_getElem (by have := HN0.out; omega)⟩
            obtain ⟨pl, hpl⟩ : ∃ pl, P[i]? = some pl := ⟨_, List.getElem?_eq_getElem (by have := HN.out; omega)⟩
            obtain ⟨b, o, cs, hA, hbl, _, hcs, us, hu1, hu2⟩ := HS.out.tasks.at ht
            subst hA
            subst hu1
            obtain ⟨A1, c1, hu3, _⟩ := hu2.shape
            obtain ⟨m1, hm1⟩ : ∃ m, m = t.secs.length := ⟨_, rfl⟩
            rw [← hm1] at hu3
            subst hu3
            have hso : secsOf S i = t.secs := by unfold secsOf; rw [ht]; rfl
            have hm4 : m1 ≤ 4 := by rw [hm1]; exact (HO.out.sys.tasks t (List.mem_of_getElem? ht)).n
            have HTO := hid (HO.out.sys.tasks t (List.mem_of_getElem? ht))
            have hwm : (P.map whereOf)[i]? = some (whereOf pl) := by rw [List.getElem?_map, hpl]; rfl
            obtain ⟨b5, o5, cs5, hA5, hbl5, _, hcs5, hr5⟩ := HWI.out.at hwm
            subst hA5
            have hr5' : cs5 = [.int .i64 (whereOf pl)] := hr5
            subst hr5'
            have hwa : whereAt P i = whereOf pl := by unfold whereAt; rw [hwm]; rfl
            have hrm : (rankL S P)[i]? = some (rankRow S (partsOf P) i pl) := by unfold rankL; rw [List.getElem?_mapIdx, hpl]; rfl
            obtain ⟨b6, o6, cs6, hA6, hbl6, _, hcs6, ul6, hv61, hv62⟩ := HRK2.out.at hrm
            subst hA6
            subst hv61
            obtain ⟨A7, c7, hv7, _⟩ := hv62.shape
            obtain ⟨m7, hm7⟩ : ∃ m, m = pl.length := ⟨_, rfl⟩
            rw [show (rankRow S (partsOf P) i pl).length = m7 by unfold rankRow; rw [List.length_map, hm7]] at hv7
            subst hv7
            have HRM := hid hrm
            have HV62 := hid hv62
            have HU2 := hid hu2
            have HM1 := hid hm1
            have HM7 := hid hm7
            have HSO := hid hso
            have HWA := hid hwa
            obtain ⟨wv, hwv⟩ : ∃ x, whereOf pl = x := ⟨_, rfl⟩
            have HWV := hid hwv
            rw [hwv] at hcs5 HWA
            have HF3 := hid (show ∀ W, Below w8.heap.size w8 W → W.cell? ⟨b, o + i * 4 + 3, none⟩ = some (.slice A1 m1 c1) ∧ W.cell? ⟨b5, o5 + i, none⟩ = some (.int .i64 wv) ∧ W.cell? ⟨b6, o6 + i, none⟩ = some (.slice A7 m7 c7) ∧ W.cell? ⟨B, 8, none⟩ = some (.slice (some ⟨b, o, none⟩) n c0) from fun W h => by
              have h0 := below_then HBWR.out h
              have h2 := below_then HBR.out h
              refine ⟨(h0.cell (p := ⟨b, o + i * 4 + 3, none⟩) hbl).trans (hcs 3 _ rfl), (h2.cell (p := ⟨b5, o5 + i, none⟩) hbl5).trans (by simpa using hcs5 0 _ rfl), (h2.cell (p := ⟨b6, o6 + i, none⟩) hbl6).trans (by simpa using hcs6 0 _ rfl), ?_⟩
              rw [blk_cell ((fr0 h).blk HQR.out (fun h => h)) 8, HCS.out]
              rfl)
            clear ht hpl hbl hcs hu2 hm1 hso hwm hbl5 hcs5 hr5 hwa hrm hbl6 hcs6 hv62 hm7 hwv
            go_wp2_with fail
            go_loopw [13] (fun v wr => ∃ k : Nat, k ≤ m1 ∧ v = .int .i64 k ∧ Hid (CEW w8 wr X rn (topF (upsK S P c i k)))) (fun v _ => m1 - (intOf v).toNat)
            case atStart => exact ⟨0, by omega, rfl, by rw [upsK_zero]; exact HCI⟩
            case round =>
              obtain ⟨k, hk, rfl, HCK⟩ := hrel
              obtain ⟨f0, f1, f2, f3⟩ := HF3.out wr HCK.out.below
              by_cases hkm : k < m1
              case neg =>
                obtain rfl : k = m1 := by omega
                have HCN : Hid (CEW w8 wr X rn (topF (upsN S P c (i + 1)))) := by
                  have h := upsK_all S P (c : Int) i
                  rw [HSO.out, ← HM1.out] at h
                  rw [← h]
                  exact HCK
                go_wp2_with fail
                go_roundw
                case rel => exact ⟨i + 1, by omega, by go_num, HCN⟩
                case measure => simp [intOf]; omega
              case pos =>
                by_cases hwc : wv = c
                case neg =>
                  have hwb : (wv == (c : Int)) = false := beq_eq_false_iff_ne.2 hwc
                  have HCN : Hid (CEW w8 wr X rn (topF (upsN S P c (i + 1)))) := by
                    rw [← upsK_no (by rw [HWA.out]; exact hwc) k]
                    exact HCK
                  clear hwc
                  go_wp2_with fail
                  go_roundw
                  case rel => exact ⟨i + 1, by omega, by go_num, HCN⟩
                  case measure => simp [intOf]; omega
                case pos =>
                  have hwb : (wv == (c : Int)) = true := beq_iff_eq.2 hwc
                  have hm71 : m7 = 1 := by
                    by_cases e : pl.length = 1
                    · rw [HM7.out, e]
                    · have := whereOf_no e
                      rw [HWV.out, hwc] at this
                      omega
                  have h07 : 0 < m7 := by omega
                  obtain ⟨p, hp⟩ : ∃ p, (rankRow S (partsOf P) i pl)[0]? = some p := ⟨_, List.getElem?_eq_getElem (by unfold rankRow; rw [List.length_map, ← HM7.out]; omega)⟩
                  obtain ⟨b7, o7, cs7, hA7, hbl7, _, hcs7, hr7⟩ := HV62.out.at hp
                  subst hA7
                  have hr7' : cs7 = [.int .i64 p.core, .int .i64 p.bud, .int .i64 p.dl, .int .i64 p.prio, .bool p.tight] := hr7
                  subst hr7'
                  have hpr : prioOf S P i = p.prio := by
                    unfold prioOf
                    rw [HRM.out]
                    show (((rankRow S (partsOf P) i pl).head?.map Pc.prio).getD 0) = _
                    rw [List.head?_eq_getElem?, hp]
                    rfl
                  obtain ⟨pr, hprr⟩ : ∃ x, p.prio = x := ⟨_, rfl⟩
                  rw [hprr] at hpr hcs7
                  have g3 : wr.cell? ⟨b7, o7 + 3, none⟩ = some (.int .i64 pr) := ((below_then HBR.out HCK.out.below).cell (p := ⟨b7, o7 + 3, none⟩) hbl7).trans (by simpa using hcs7 3 _ rfl)
                  obtain ⟨x, hx⟩ : ∃ x, t.secs[k]? = some x := ⟨_, List.getElem?_eq_getElem (by have := HM1.out; omega)⟩
                  obtain ⟨b8, o8, cs8, hA8, hbl8, _, hcs8, hr8⟩ := HU2.out.at hx
                  subst hA8
                  have hr8' : cs8 = [.int .i64 x.at_, .int .i64 x.res, .int .i64 x.len] := hr8
                  subst hr8'
                  have hxo := HTO.out.s x (List.mem_of_getElem? hx)
                  obtain ⟨jr, hjr⟩ : ∃ j : Nat, x.res = j := ⟨x.res.toNat, by have := hxo.r0; omega⟩
                  have hjn : jr < rn := by have := hxo.r1; have := HRN.out; omega
                  rw [hjr] at hcs8
                  have g1 : wr.cell? ⟨b8, o8 + k * 3 + 1, none⟩ = some (.int .i64 jr) := ((below_then HBWR.out HCK.out.below).cell (p := ⟨b8, o8 + k * 3 + 1, none⟩) hbl8).trans (hcs8 1 _ rfl)
                  have HUS := hid (show topF (upsK S P c i (k + 1)) = upd (topF (upsK S P c i k)) jr (max 1 pr) by
                    rw [upsK_succ (by rw [HWA.out]; exact hwc) (by rw [HSO.out]; exact hx), topF_snoc, hpr, hjr]
                    rfl)
                  obtain ⟨tv, htv⟩ : ∃ y, topF (upsK S P c i k) jr = y := ⟨_, rfl⟩
                  have x0 : wr.cell? ⟨X, jr, none⟩ = some (.int .i64 tv) := by rw [HCK.out.t.cell hjn, htv]
                  have x1 : wr.frozen? ⟨X, jr, none⟩ = false := HCK.out.t.free jr
                  have HTV := hid htv
                  obtain ⟨pm, hpm⟩ : ∃ y, max 1 pr = y := ⟨_, rfl⟩
                  rw [hpm] at HUS
                  have HPM := hid hpm
                  clear hp hbl7 hcs7 hr7 hx hbl8 hcs8 hr8 hxo hjr hpr hprr htv hwc hm71
                  go_upto_region 18 with fail
                  have hpe : (if 1 < pr then pr else 1) = pm := by rw [← HPM.out]; split <;> omega
                  rw [hpe]
                  clear hpe hpm
                  by_cases hz : tv = 0
                  case pos =>
                    have hzb : (tv == 0) = true := beq_iff_eq.2 hz
                    have HC4 := hid (show CEW w8 (wr.setCell ⟨X, jr, none⟩ (.int .i64 pm)) X rn (topF (upsK S P c i (k + 1))) from HCK.out.set hjn pm (fun a ha => by
                      rw [HUS.out]
                      unfold upd
                      by_cases e : a = jr
                      · rw [if_pos e, if_pos e, HTV.out, if_pos (.inl hz)]
                      · rw [if_neg e, if_neg e]))
                    clear hz
                    go_wp2_with fail
                    go_roundw
                    case rel => exact ⟨k + 1, by omega, by go_num, HC4⟩
                    case measure => simp [intOf]; omega
                  case neg =>
                    have hzb : (tv == 0) = false := beq_eq_false_iff_ne.2 hz
                    by_cases hl : pm < tv
                    case pos =>
                      have hlb : decide (pm < tv) = true := decide_eq_true hl
                      have HC4 := hid (show CEW w8 (wr.setCell ⟨X, jr, none⟩ (.int .i64 pm)) X rn (topF (upsK S P c i (k + 1))) from HCK.out.set hjn pm (fun a ha => by
                        rw [HUS.out]
                        unfold upd
                        by_cases e : a = jr
                        · rw [if_pos e, if_pos e, HTV.out, if_pos (.inr hl)]
                        · rw [if_neg e, if_neg e]))
                      clear hz
                      go_wp2_with fail
                      go_roundw
                      case rel => exact ⟨k + 1, by omega, by go_num, HC4⟩
                      case measure => simp [intOf]; omega
                    case neg =>
                      have hlb : decide (pm < tv) = false := decide_eq_false hl
                      have HC4 := hid (show CEW w8 wr X rn (topF (upsK S P c i (k + 1))) from HCK.out.congr (fun a ha => by
                        rw [HUS.out]
                        unfold upd
                        by_cases e : a = jr
                        · rw [if_pos e, HTV.out, if_neg (fun h => by rcases h with h | h; exact hz h; exact hl h), e, HTV.out]
                        · rw [if_neg e]))
                      clear hz
                      go_wp2_with fail
                      go_roundw
                      case rel => exact ⟨k + 1, by omega, by go_num, HC4⟩
                      case measure => simp [intOf]; omega
          case neg =>
            obtain rfl : i = n := by omega
            have hXZ : Z ≤ X := by have := HX.out; have := HZ.out; have := HBR.out.size; omega
            have hROW := HCI.out.t.own hXZ (by unfold maxLen; omega)
            have HROW : Hid (wr.ownsRow Z 3 1 (.slice (some ⟨X, 0, none⟩) rn rn) (ceilRow S P c).length (intCells (ceilRow S P c))) := by
              have e : ceilRow S P c = (List.range rn).map (topF (upsN S P c i)) := by
                unfold ceilRow
                rw [HN.out, HRN.out]
                rfl
              rw [e, List.length_map, List.length_range]
              exact hROW
            have HCT := hid (show (ceilL S P).take (c + 1) = (ceilL S P).take c ++ [ceilRow S P c] from take_next (by
              unfold ceilL
              rw [List.getElem?_map, List.getElem?_range (by rw [HNC.out]; simpa using hcn)]
              rfl))
            have HOL := hid (HOI.out.later HCI.out.below)
            have hvl : vs.length = c := by
              have h1 := HOI.out.len
              rw [List.length_take] at h1
              have h2 : (ceilL S P).length = nc := by unfold ceilL; rw [List.length_map, List.length_range, HNC.out]; simp
              omega
            have hown := HOL.out.out
            rw [hvl] at hown
            have hszx : Z ≤ wr.heap.size := by have := HCI.out.below.size; have := HBR.out.size; have := HZ.out; omega
            clear hROW
            go_wp2_with (at_builtin; refine append_new rfl _ _ 26 rfl Z 39 i0 _ 1 24 Try.underlying26 hi hz0 hz1 hz2 rfl (by decide) #[.slice (some ⟨X, 0, none⟩) rn rn] u9 c vs rfl _ rfl rfl hown rfl (fun u hu => by simp at hu; subst hu; rfl) (by unfold maxLen; omega) (by omega) hszx ?_)
            intro v6 w6 hown6 hf6 hl6
            have HO6 := hid (HOL.out.snoc HROW.out (fun b hb e => by
              have h1 := (HOI.out.lt b (.inl e)).2
              simp [Value.ownBlock] at hb
              have := HX.out
              omega) (by rw [hvl]; exact hown6) hf6 (hl6.imp id (fun h => ⟨_, h, Nat.le_succ _⟩)))
            have HB6 := hid (show Below w2.heap.size w2 w6 from ((Fr.of_below (S := NoB) (below_then HBR.out HCI.out.below)).trans hf6 (fun b hb => .inr (by have := (HOL.out.lt b (.inl hb)).1; have := HZ.out; omega))).no)
            clear hown6 hf6 hl6 hown
            go_wp2_with fail
            go_roundw
            case rel => exact ⟨c + 1, _, by omega, by go_num, by rw [HCT.out]; exact HO6, HB6⟩
            case measure => simp [intOf]; omega
      case neg =>
        obtain rfl : c = nc := by omega
        have hcd : decide ((c : Int) < S.cores) = false := decide_eq_false (by have := HNC.out; omega)
        have HO2 : Hid (OI wr Z u9 vs (ceilL S P)) := by
          have h := HOI.out
          rw [List.take_of_length_le (by unfold ceilL; rw [List.length_map, List.length_range, HNC.out]; simp)] at h
          exact h
        go_wp2_with fail
        go_ret2
        exact ⟨_, rfl, ⟨_, HO2.out.mono (by have h1 := HZ.out; have h2 := HBW2.out.size; have h3 := HB.out; omega)⟩, below_then HBW2.out HBR.out⟩
end
end Go.Proofs.Ytmhochjpdedlgaa
