/- Joined: RefRank. -/
import Derived.Test.YtmhochjpdedlgaaQ13
set_option linter.unusedVariables false
set_option linter.unusedSimpArgs false
/- Package tourbillonref17: Rank (contract). -/
set_option linter.unusedVariables false
set_option linter.unusedSimpArgs false
namespace Go.Proofs.Ytmhochjpdedlgaa
open Go.RowKit

theorem Try.info_piece : (Try.prog.info? 62).map (fun i => (i.zero, i.size, i.bytes)) = some (some (.agg #[.int .i64 0, .int .i64 0, .int .i64 0, .int .i64 0, .bool false]), 5, 40) := by kernel_rfl
theorem Try.info_pieces : (Try.prog.info? 52).map (fun i => (i.zero, i.size, i.bytes)) = some (some (.slice none 0 0), 1, 24) := by kernel_rfl
def rankOne (S : Sy) (L : List Pt) (i : Nat) (p : Pc) : Pc := ⟨p.core, p.bud, p.dl, if S.policy = 1 ∧ p.tight = false then 1 + (aheadL i p L : Nat) else 0, p.tight⟩
def rankRow (S : Sy) (L : List Pt) (i : Nat) (l : List Pc) : List Pc := l.map (rankOne S L i)
def rankL (S : Sy) (P : Pl) : Pl := P.mapIdx (rankRow S (partsOf P))
theorem aheadL_prio (task : Nat) (a b c d e : Int) (t t' : Bool) (L : List Pt) : aheadL task ⟨a, b, c, d, t⟩ L = aheadL task ⟨a, b, c, e, t'⟩ L := rfl
theorem rank_take {S : Sy} {P : Pl} {k : Nat} {pl : List Pc} (h : P[k]? = some pl) : (rankL S P).take (k + 1) = (rankL S P).take k ++ [rankRow S (partsOf P) k pl] :=
  take_next (by unfold rankL; rw [List.getElem?_mapIdx, h]; rfl)
theorem row_take {S : Sy} {L : List Pt} {i j : Nat} {pl : List Pc} {p : Pc} (h : pl[j]? = some p) : flat encPc ((rankRow S L i pl).take (j + 1)) = flat encPc ((rankRow S L i pl).take j) ++ encPc (rankOne S L i p) := by
  rw [take_next (x := rankOne S L i p) (by unfold rankRow; rw [List.getElem?_map, h]; rfl), flat_snoc]
/-- The world within Rank: the system's box; the results lie behind Z. -/
structure RKW (w wr : World) (B Z : Nat) (C : Array Value) : Prop where
  below : Below w.heap.size w wr
  b0 : wr.heap[B]? = some (.cells C 24 (0, 0))
  lo : w.heap.size ≤ Z
  bz : B < Z
  sz : Z ≤ wr.heap.size
section
variable {w wr w' : World} {B Z : Nat} {C : Array Value}
theorem RKW.later (H : RKW w wr B Z C) (h : Below wr.heap.size wr w') : RKW w w' B Z C := ⟨below_then H.below h, (fr0 h).blk H.b0 (fun h => h), H.lo, H.bz, Nat.le_trans H.sz h.size⟩
theorem RKW.fr {T : Nat → Prop} (H : RKW w wr B Z C) (hF : Fr T wr w') (hn : ∀ k, T k → Z ≤ k) (hs : wr.heap.size ≤ w'.heap.size) : RKW w w' B Z C :=
  ⟨((Fr.of_below (S := NoB) H.below).trans hF (fun x hx => .inr (by have := hn x hx; have := H.lo; omega))).no, hF.blk H.b0 (fun h => by have := hn _ h; have := H.bz; omega), H.lo, H.bz, Nat.le_trans H.sz hs⟩
end
section
variable {w : World}
set_option maxRecDepth 100000 in
set_option maxHeartbeats 6400000 in
theorem rrank_any (S : Sy) (A0 : Option Addr) (n0 c0 : Nat) (A : Option Addr) (n cap : Nat) (P : Pl) (hs : IsSys w (.slice A0 n0 c0) S) (hp : IsPlan w (.slice A n cap) P) :
    Calls Try.prog 27 #[sysV S (.slice A0 n0 c0), .slice A n cap] w fun e w' => ∃ u, e = .returned (.tuple #[u, .bool (planB S P)]) ∧ Rowp 1 (RowR 5 pcR) w' u (if planB S P = true then rankL S P else []) ∧ Below w.heap.size w w' := by
  have hn := hp.rows.len
  have HP := hid hp
  have HN := hid hn
  have hnm : n ≤ 9223372036854775807 := by have := hp.rows.room; unfold maxLen at this; omega
  have HVR := hid (fun W (h : Below w.heap.size w W) => rright17_any (w := W) S A0 n0 c0 A n cap P (hs.later h) (hp.later h))
  obtain ⟨CS, hCS⟩ : ∃ C, C = sysC S (.slice A0 n0 c0) := ⟨_, rfl⟩
  have HCS := hid hCS
  obtain ⟨rb, hrb⟩ : ∃ r, planB S P = r := ⟨_, rfl⟩
  have HRB := hid hrb
  rw [hrb] at HVR ⊢
  obtain ⟨i0, hi, hz0, hz1, hz2⟩ := info_parts Try.info_piece
  obtain ⟨i1, hi', hy0, hy1, hy2⟩ := info_parts Try.info_pieces
  unfold sysV at *
  have hn24 : rb = true → n ≤ 24 ∧ (partsOf P).length ≤ 192 ∧ ∀ l ∈ P, l.length ≤ 8 := fun e => by
    have ok := planB_ok (hrb.trans e)
    have h1 := ok.len
    have h2 := ok.sys.len
    have h3 : ∀ l ∈ P, l.length ≤ 8 := fun l hl => by
      obtain ⟨i, hi⟩ := List.mem_iff_getElem?.1 hl
      have hi2 := (List.getElem?_eq_some_iff.1 hi).1
      have ht : S.tasks[i]? = some (S.tasks[i]'(by omega)) := List.getElem?_eq_getElem _
      exact (listOk_pcs ok.sys (ok.sys.tasks _ (List.mem_of_getElem? ht)) (ok.lists i _ l ht hi)).1
    have h4 := parts_len_le h3
    exact ⟨by omega, by omega, h3⟩
  have HN24 := hid hn24
  clear hs hp hn hCS hrb hn24
  go_enter Try.func27, Try.ntmps27
  go_wp2_with fail
  refine (HVR.out _ (below_new (Below.refl _ _) _)).mono ?_
  rintro e w1 ⟨rfl, hb1⟩
  have q0 : w1.heap[w.heap.size]? = some (.cells (sysC S (.slice A0 n0 c0)) 24 (0, 0)) := (fr0 hb1).blk (blk_new w _) (fun h => h)
  have hbw := below_then (below_new (Below.refl _ _) _) hb1
  rw [← HCS.out] at q0
  have HRK := hid (show RKW w w1 w.heap.size w1.heap.size CS from ⟨hbw, q0, hbw.size, blk_lt q0, Nat.le_refl _⟩)
  obtain ⟨B, hB⟩ : ∃ B, w.heap.size = B := ⟨_, rfl⟩
  obtain ⟨Z, hZ⟩ : ∃ Z, w1.heap.size = Z := ⟨_, rfl⟩
  rw [hB] at HRK ⊢
  rw [hZ] at HRK
  clear q0 hbw hb1 hB hZ
  cases rb
  case false =>
    go_wp2_with fail
    go_ret2
    exact ⟨_, rfl, Rowp.nil _ _ _, HRK.out.below⟩
  case true =>
    obtain ⟨hn24, hpl192, hl8⟩ := HN24.out rfl
    have HL8 := hid hl8
    clear hl8
    go_wp2_with fail
    go_loopw [7, 8] (fun u i wr => ∃ (k : Nat) (vs : List Value), k ≤ n ∧ i = .int .i64 k ∧ Hid (OG wr Z u vs ((rankL S P).take k)) ∧ Hid (RKW w wr B Z CS)) (fun _ i _ => n - (intOf i).toNat)
    case atStart => exact ⟨0, [], by omega, rfl, hid (OG.nil _ _), HRK⟩
    case round =>
      obtain ⟨k, vs, hk, rfl, HOG, HVr⟩ := hrel
      by_cases hlt : k < n
      case pos =>
        obtain ⟨pl, hpl⟩ : ∃ pl, P[k]? = some pl := ⟨_, List.getElem?_eq_getElem (by have := HN.out; omega)⟩
        obtain ⟨b2, o2, cs2, hA2, hbl2, _, hc2, ul, hv1, hv2⟩ := HP.out.rows.at hpl
        subst hA2
        subst hv1
        obtain ⟨A3, c3, hv3, hv4⟩ := hv2.shape
        obtain ⟨m3, hm3⟩ : ∃ m, m = pl.length := ⟨_, rfl⟩
        rw [← hm3] at hv3 hv4
        subst hv3
        have hm8 : m3 ≤ 8 := by rw [hm3]; exact HL8.out pl (List.mem_of_getElem? hpl)
        have HY := hid hpl
        have HM3 := hid hm3
        have HV2 := hid hv2
        have HRC := hid (show w.cell? ⟨b2, o2 + k, none⟩ = some (.slice A3 m3 c3) from by simpa using hc2 0 _ rfl)
        have HBL2 := hid hbl2
        have HW0 := hid (show ∀ W, Below w.heap.size w W → W.cell? ⟨b2, o2 + k, none⟩ = some (.slice A3 m3 c3) from fun W h => (h.cell (p := ⟨b2, o2 + k, none⟩) HBL2.out).trans HRC.out)
        have HAH := hid (fun W (h : Below w.heap.size w W) (pc pb pd : Int) => ahead_any (w := W) P (some ⟨b2, o2, none⟩) n cap (HP.out.later h) k ⟨pc, pb, pd, 0, false⟩ (by omega) (by omega))
        unfold pieceC at HAH
        simp only at HAH
        have hvl : vs.length = k := by
          have h1 := HOG.out.len
          rw [List.length_take] at h1
          have h2 : (rankL S P).length = P.length := by unfold rankL; rw [List.length_mapIdx]
          have := HN.out
          omega
        have d0 := HW0.out wr HVr.out.below
        clear hpl hm3 hv2 hv4 hc2 hbl2
        go_wp2_with fail
        clear d0
        go_loopw [9, 10] (fun v jv wr => ∃ j : Nat, j ≤ m3 ∧ jv = .int .i64 j ∧ Hid (wr.ownsRow Z 62 5 v j (flat encPc ((rankRow S (partsOf P) k pl).take j))) ∧ Hid (OG wr Z u7 vs ((rankL S P).take k)) ∧ Hid (RKW w wr B Z CS) ∧ Hid (∀ b, v.ownBlock = some b → ¬ OGSet u7 vs b)) (fun _ jv _ => m3 - (intOf jv).toNat)
        case atStart => exact ⟨0, by omega, rfl, hid (World.ownsRow_nil _ _ _ _), HOG, HVr, hid (fun b hb => by simp [Value.ownBlock] at hb)⟩
        case round =>
          obtain ⟨j, hj, rfl, HOW, HOI, HVi, HDJ⟩ := hrel
          have d0 := HW0.out wr HVi.out.below
          by_cases hjm : j < m3
          case pos =>
            obtain ⟨q, hq⟩ : ∃ q, pl[j]? = some q := ⟨_, List.getElem?_eq_getElem (by have := HM3.out; omega)⟩
            obtain ⟨b4, o4, cs4, hA4, hbl4, _, hc4, hr4⟩ := HV2.out.at hq
            subst hA4
            have hr4' : cs4 = [.int .i64 q.core, .int .i64 q.bud, .int .i64 q.dl, .int .i64 q.prio, .bool q.tight] := hr4
            subst hr4'
            obtain ⟨pc, pb, pd, pp, ti⟩ := q
            have HRT := hid (show flat encPc ((rankRow S (partsOf P) k pl).take (j + 1)) = flat encPc ((rankRow S (partsOf P) k pl).take j) ++ [.int .i64 pc, .int .i64 pb, .int .i64 pd, .int .i64 (if S.policy = 1 ∧ ti = false then 1 + ((aheadL k ⟨pc, pb, pd, pp, ti⟩ (partsOf P) : Nat) : Int) else 0), .bool ti] from row_take hq)
            simp only at hc4
            have hbr := HVi.out.below
            have e0 : wr.cell? ⟨b4, o4 + j * 5, none⟩ = some (.int .i64 pc) := (hbr.cell (p := ⟨b4, o4 + j * 5, none⟩) hbl4).trans (by simpa using hc4 0 _ rfl)
            have e1 : wr.cell? ⟨b4, o4 + j * 5 + 1, none⟩ = some (.int .i64 pb) := (hbr.cell (p := ⟨b4, o4 + j * 5 + 1, none⟩) hbl4).trans (hc4 1 _ rfl)
            have e2 : wr.cell? ⟨b4, o4 + j * 5 + 2, none⟩ = some (.int .i64 pd) := (hbr.cell (p := ⟨b4, o4 + j * 5 + 2, none⟩) hbl4).trans (hc4 2 _ rfl)
            have e3 : wr.cell? ⟨b4, o4 + j * 5 + 3, none⟩ = some (.int .i64 pp) := (hbr.cell (p := ⟨b4, o4 + j * 5 + 3, none⟩) hbl4).trans (hc4 3 _ rfl)
            have e4 : wr.cell? ⟨b4, o4 + j * 5 + 4, none⟩ = some (.bool ti) := (hbr.cell (p := ⟨b4, o4 + j * 5 + 4, none⟩) hbl4).trans (hc4 4 _ rfl)
            clear hq hbr hbl4 hc4 hr4
            go_upto_region 13 with fail
            obtain ⟨D, hD⟩ : ∃ D, D = wr.heap.size := ⟨_, rfl⟩
            rw [← hD]
            generalize hw3 : wr.alloc (.cells #[.int .i64 pc, .int .i64 pb, .int .i64 pd, .int .i64 pp, .bool ti] 62) = w3
            have hbel : Below wr.heap.size wr w3 := by rw [← hw3]; exact below_new (Below.refl _ _) _
            have hblk : w3.heap[D]? = some (.cells #[.int .i64 pc, .int .i64 pb, .int .i64 pd, .int .i64 pp, .bool ti] 62 (0, 0)) := by rw [← hw3, hD]; exact blk_new _ _
            have f3 : w3.cell? ⟨D, 3, none⟩ = some (.int .i64 pp) := blk_cell hblk 3
            have z3 : w3.frozen? ⟨D, 3, none⟩ = false := blk_free hblk 3
            have HDB := hid hblk
            have HBE := hid hbel
            have HDL := hid (show wr.heap.size ≤ D by omega)
            clear hw3 hD hblk hbel d0 e0 e1 e2 e3 e4
            go_upto_region 14 with fail
            have HB4 := hid (show Below wr.heap.size wr (w3.setCell ⟨D, 3, none⟩ (.int .i64 0)) from HBE.out.setCell (p := ⟨D, 3, none⟩) HDL.out _)
            have HD4 := hid (show (w3.setCell ⟨D, 3, none⟩ (.int .i64 0)).heap[D]? = some (.cells #[.int .i64 pc, .int .i64 pb, .int .i64 pd, .int .i64 0, .bool ti] 62 (0, 0)) from by have := blk_set HDB.out 3 (.int .i64 0); simpa using this)
            generalize w3.setCell ⟨D, 3, none⟩ (.int .i64 0) = w4 at *
            clear f3 z3
            have HV4 := hid (HVi.out.later HB4.out)
            have g1 : w4.cell? ⟨B, 1, none⟩ = some (.int .i64 S.policy) := by rw [blk_cell HV4.out.b0 1, HCS.out]; rfl
            have f0 : w4.cell? ⟨D, 0, none⟩ = some (.int .i64 pc) := blk_cell HD4.out 0
            have f1 : w4.cell? ⟨D, 1, none⟩ = some (.int .i64 pb) := blk_cell HD4.out 1
            have f2 : w4.cell? ⟨D, 2, none⟩ = some (.int .i64 pd) := blk_cell HD4.out 2
            have f3 : w4.cell? ⟨D, 3, none⟩ = some (.int .i64 0) := blk_cell HD4.out 3
            have f4 : w4.cell? ⟨D, 4, none⟩ = some (.bool ti) := blk_cell HD4.out 4
            by_cases hpo : S.policy = 1
            case neg =>
              have hpb : (S.policy == 1) = false := beq_eq_false_iff_ne.2 hpo
              have HPR := hid (show (if S.policy = 1 ∧ ti = false then 1 + ((aheadL k ⟨pc, pb, pd, pp, ti⟩ (partsOf P) : Nat) : Int) else 0) = 0 from if_neg (fun h => hpo h.1))
              clear hpo
              have hown := HOW.out
              have hown := own_kept hown (fr0 HB4.out) (fun _ _ h => h)
              have hszx : Z ≤ w4.heap.size := Nat.le_trans HVi.out.sz HB4.out.size
              have HON := hid (encPc_one ⟨pc, pb, pd, 0, ti⟩)
              unfold encPc at HON
              go_wp2_with (at_builtin; refine append_new rfl _ _ 52 rfl Z 62 i0 _ 5 40 Try.underlying52 hi hz0 hz1 hz2 rfl (by decide) #[.int .i64 pc, .int .i64 pb, .int .i64 pd, .int .i64 (0), .bool ti] u9 j (flat encPc ((rankRow S (partsOf P) k pl).take j)) rfl _ rfl rfl hown rfl HON.out (by unfold maxLen; omega) (by omega) hszx ?_)
              intro v7 w7 hown7 hf7 hl7
              have HO7 : Hid (w7.ownsRow Z 62 5 v7 (j + 1) (flat encPc ((rankRow S (partsOf P) k pl).take (j + 1)))) := by rw [HRT.out, HPR.out]; exact hid hown7
              have HO8 := hid ((HOI.out.later HB4.out).kept hf7 (fun b hb h => HDJ.out b h hb))
              have HV8 := hid ((HVi.out.later HB4.out).fr hf7 (fun b hb => (hown.lt b hb).1) hf7.size)
              have HD8 := hid (show ∀ b, v7.ownBlock = some b → ¬ OGSet u7 vs b from fun b hb h => by
                rcases hl7 with e | e
                · exact HDJ.out b (by rw [← e]; exact hb) h
                · rw [e] at hb
                  injection hb with hb
                  have := (HOI.out.lt b h).2
                  have := HB4.out.size
                  omega)
              clear hown7 hf7 hl7 hown
              go_wp2_with fail
              go_roundw
              case rel => exact ⟨j + 1, by omega, by go_num, HO7, HO8, HV8, HD8⟩
              case measure => simp [intOf]; omega
            case pos =>
              have hpb : (S.policy == 1) = true := beq_iff_eq.2 hpo
              cases ti
              case true =>
                have HPR := hid (show (if S.policy = 1 ∧ true = false then 1 + ((aheadL k ⟨pc, pb, pd, pp, true⟩ (partsOf P) : Nat) : Int) else 0) = 0 from if_neg (fun h => by cases h.2))
                clear hpo
                have hown := HOW.out
                have hown := own_kept hown (fr0 HB4.out) (fun _ _ h => h)
                have hszx : Z ≤ w4.heap.size := Nat.le_trans HVi.out.sz HB4.out.size
                have HON := hid (encPc_one ⟨pc, pb, pd, 0, true⟩)
                unfold encPc at HON
                go_wp2_with (at_builtin; refine append_new rfl _ _ 52 rfl Z 62 i0 _ 5 40 Try.underlying52 hi hz0 hz1 hz2 rfl (by decide) #[.int .i64 pc, .int .i64 pb, .int .i64 pd, .int .i64 (0), .bool true] u9 j (flat encPc ((rankRow S (partsOf P) k pl).take j)) rfl _ rfl rfl hown rfl HON.out (by unfold maxLen; omega) (by omega) hszx ?_)
                intro v7 w7 hown7 hf7 hl7
                have HO7 : Hid (w7.ownsRow Z 62 5 v7 (j + 1) (flat encPc ((rankRow S (partsOf P) k pl).take (j + 1)))) := by rw [HRT.out, HPR.out]; exact hid hown7
                have HO8 := hid ((HOI.out.later HB4.out).kept hf7 (fun b hb h => HDJ.out b h hb))
                have HV8 := hid ((HVi.out.later HB4.out).fr hf7 (fun b hb => (hown.lt b hb).1) hf7.size)
                have HD8 := hid (show ∀ b, v7.ownBlock = some b → ¬ OGSet u7 vs b from fun b hb h => by
                  rcases hl7 with e | e
                  · exact HDJ.out b (by rw [← e]; exact hb) h
                  · rw [e] at hb
                    injection hb with hb
                    have := (HOI.out.lt b h).2
                    have := HB4.out.size
                    omega)
                clear hown7 hf7 hl7 hown
                go_wp2_with fail
                go_roundw
                case rel => exact ⟨j + 1, by omega, by go_num, HO7, HO8, HV8, HD8⟩
                case measure => simp [intOf]; omega
              case false =>
                obtain ⟨r, hr⟩ : ∃ r, aheadL k ⟨pc, pb, pd, 0, false⟩ (partsOf P) = r := ⟨_, rfl⟩
                have hr2 : r ≤ 192 := by
                  rw [← hr]
                  have : aheadL k ⟨pc, pb, pd, 0, false⟩ (partsOf P) ≤ (partsOf P).length := List.length_filter_le _ _
                  omega
                have HPR := hid (show (if S.policy = 1 ∧ false = false then 1 + ((aheadL k ⟨pc, pb, pd, pp, false⟩ (partsOf P) : Nat) : Int) else 0) = 1 + (r : Int) by rw [if_pos ⟨hpo, rfl⟩, aheadL_prio k pc pb pd pp 0 false false, hr])
                have HAC := hid (HAH.out w4 HV4.out.below pc pb pd)
                rw [hr] at HAC
                have hs0 : IntKind.i64.wrap (1 + (r : Int)) = 1 + (r : Int) := wraps_i64 _ (by omega) (by omega)
                clear hpo hr
                go_wp2_with fail
                refine HAC.out.mono ?_
                rintro e w5 ⟨rfl, hb5⟩
                have hD5 := (fr0 hb5).blk HD4.out (fun h => h)
                have t3 : w5.cell? ⟨D, 3, none⟩ = some (.int .i64 0) := blk_cell hD5 3
                have s3 : w5.frozen? ⟨D, 3, none⟩ = false := blk_free hD5 3
                have HD5 := hid hD5
                have HB5 := hid (below_then HB4.out hb5)
                clear g1 f0 f1 f2 f3 f4 hb5 hD5
                go_upto_region 16 with fail
                have HB6 := hid (show Below wr.heap.size wr (w5.setCell ⟨D, 3, none⟩ (.int .i64 (1 + (r : Int)))) from HB5.out.setCell (p := ⟨D, 3, none⟩) HDL.out _)
                have HD6 := hid (show (w5.setCell ⟨D, 3, none⟩ (.int .i64 (1 + (r : Int)))).heap[D]? = some (.cells #[.int .i64 pc, .int .i64 pb, .int .i64 pd, .int .i64 (1 + (r : Int)), .bool false] 62 (0, 0)) from by have := blk_set HD5.out 3 (.int .i64 (1 + (r : Int))); simpa using this)
                generalize w5.setCell ⟨D, 3, none⟩ (.int .i64 (1 + (r : Int))) = w6 at *
                have HV6 := hid (HVi.out.later HB6.out)
                have f0 : w6.cell? ⟨D, 0, none⟩ = some (.int .i64 pc) := blk_cell HD6.out 0
                have f1 : w6.cell? ⟨D, 1, none⟩ = some (.int .i64 pb) := blk_cell HD6.out 1
                have f2 : w6.cell? ⟨D, 2, none⟩ = some (.int .i64 pd) := blk_cell HD6.out 2
                have f3 : w6.cell? ⟨D, 3, none⟩ = some (.int .i64 (1 + (r : Int))) := blk_cell HD6.out 3
                have f4 : w6.cell? ⟨D, 4, none⟩ = some (.bool false) := blk_cell HD6.out 4
                clear t3 s3
                have hown := HOW.out
                have hown := own_kept hown (fr0 HB6.out) (fun _ _ h => h)
                have hszx : Z ≤ w6.heap.size := Nat.le_trans HVi.out.sz HB6.out.size
                have HON := hid (encPc_one ⟨pc, pb, pd, 1 + (r : Int), false⟩)
                unfold encPc at HON
                go_wp2_with (at_builtin; refine append_new rfl _ _ 52 rfl Z 62 i0 _ 5 40 Try.underlying52 hi hz0 hz1 hz2 rfl (by decide) #[.int .i64 pc, .int .i64 pb, .int .i64 pd, .int .i64 (1 + (r : Int)), .bool false] u9 j (flat encPc ((rankRow S (partsOf P) k pl).take j)) rfl _ rfl rfl hown rfl HON.out (by unfold maxLen; omega) (by omega) hszx ?_)
                intro v7 w7 hown7 hf7 hl7
                have HO7 : Hid (w7.ownsRow Z 62 5 v7 (j + 1) (flat encPc ((rankRow S (partsOf P) k pl).take (j + 1)))) := by rw [HRT.out, HPR.out]; exact hid hown7
                have HO8 := hid ((HOI.out.later HB6.out).kept hf7 (fun b hb h => HDJ.out b h hb))
                have HV8 := hid ((HVi.out.later HB6.out).fr hf7 (fun b hb => (hown.lt b hb).1) hf7.size)
                have HD8 := hid (show ∀ b, v7.ownBlock = some b → ¬ OGSet u7 vs b from fun b hb h => by
                  rcases hl7 with e | e
                  · exact HDJ.out b (by rw [← e]; exact hb) h
                  · rw [e] at hb
                    injection hb with hb
                    have := (HOI.out.lt b h).2
                    have := HB6.out.size
                    omega)
                clear hown7 hf7 hl7 hown
                go_wp2_with fail
                go_roundw
                case rel => exact ⟨j + 1, by omega, by go_num, HO7, HO8, HV8, HD8⟩
                case measure => simp [intOf]; omega
          case neg =>
            obtain rfl : j = m3 := by omega
            obtain ⟨A9, cap9, hv9⟩ := own_slice HOW.out
            subst hv9
            have HRK2 := hid (rank_take (S := S) HY.out)
            have hszx := HVi.out.sz
            have hlen3 : (rankRow S (partsOf P) k pl).length = j := by unfold rankRow; rw [List.length_map]; exact HM3.out.symm
            have HOW2 : Hid (wr.ownsRow Z 62 5 (.slice A9 j cap9) (rankRow S (partsOf P) k pl).length (flat encPc (rankRow S (partsOf P) k pl))) := by
              rw [hlen3]
              have h := HOW.out
              rw [List.take_of_length_le (by rw [hlen3]; exact Nat.le_refl _)] at h
              exact h
            have hown := HOI.out.out
            rw [hvl] at hown
            clear hlen3
            go_wp2_with (at_builtin; refine append_new rfl _ _ 48 rfl Z 52 i1 _ 1 24 Try.underlying48 hi' hy0 hy1 hy2 rfl (by decide) #[.slice A9 j cap9] u7 k vs rfl _ rfl rfl hown rfl (fun u hu => by simp at hu; subst hu; rfl) (by unfold maxLen; omega) (by omega) hszx ?_)
            intro v6 w6 hown6 hf6 hl6
            have HO6 := hid (HOI.out.snoc HOW2.out (fun b hb e => HDJ.out b hb (.inl e)) (by rw [hvl]; exact hown6) hf6 (hl6.imp id (fun h => ⟨_, h, Nat.le_succ _⟩)))
            have HV6 := hid (HVi.out.fr hf6 (fun b hb => (HOI.out.lt b (.inl hb)).1) hf6.size)
            clear hown6 hf6 hl6 hown
            go_wp2_with fail
            go_roundw
            case rel => exact ⟨k + 1, _, by omega, by go_num, by rw [HRK2.out]; exact HO6, HV6⟩
            case measure => simp [intOf]; omega
      case neg =>
        obtain rfl : k = n := by omega
        have HO2 : Hid (OG wr Z u7 vs (rankL S P)) := by
          have h := HOG.out
          rw [List.take_of_length_le (by unfold rankL; rw [List.length_mapIdx]; have := HN.out; omega)] at h
          exact h
        go_wp2_with fail
        go_ret2
        exact ⟨_, rfl, HO2.out.plan, HVr.out.below⟩
end
end Go.Proofs.Ytmhochjpdedlgaa
