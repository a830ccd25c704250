/- Joined: Ahead, Where, OGrid, RefRank, OGridI, RefCeil. -/
import Derived.Test.YtppildaahmlfmaaQ21
set_option linter.unusedVariables false
set_option linter.unusedSimpArgs false
/- Package tourbillonref17: ahead (contract). -/
set_option linter.unusedVariables false
set_option linter.unusedSimpArgs false
namespace Go.Proofs.Ytppildaahmlfmaa
open Go.RowKit

/-- Does a part go ahead of a task's piece? -/
def aheadQ (task : Nat) (p : Pc) (x : Pt) : Bool := decide (x.p.core = p.core) && (!x.p.tight && (!decide (x.task = task) && (decide (x.p.dl < p.dl) || (decide (x.p.dl = p.dl) && decide (x.task < task)))))
def aheadL (task : Nat) (p : Pc) (L : List Pt) : Nat := (L.filter (aheadQ task p)).length
theorem aheadL_snoc (task : Nat) (p : Pc) (L : List Pt) (x : Pt) : aheadL task p (L ++ [x]) = if aheadQ task p x = true then aheadL task p L + 1 else aheadL task p L := by
  unfold aheadL
  rw [List.filter_append, List.length_append]
  cases h : aheadQ task p x <;> simp [h]
theorem seen_prefix {P : Pl} {k : Nat} {pl : List Pc} (h : P[k]? = some pl) (j : Nat) : seen P k pl j <+: partsOf P := by
  refine List.IsPrefix.trans ?_ (parts_prefix (k + 1) P)
  rw [parts_take_succ h]
  unfold seen
  obtain ⟨r, hr⟩ := pts_prefix k j pl
  exact ⟨r, by rw [List.append_assoc, hr]⟩
def pieceC (p : Pc) : Array Value := #[.int .i64 p.core, .int .i64 p.bud, .int .i64 p.dl, .int .i64 p.prio, .bool p.tight]
/-- The world within ahead: the piece's box. -/
structure AW (w wr : World) (B : Nat) (C : Array Value) : Prop where
  below : Below w.heap.size w wr
  b0 : wr.heap[B]? = some (.cells C 41 (0, 0))
theorem AW.later {w wr w' : World} {B : Nat} {C : Array Value} (H : AW w wr B C) (h : Below wr.heap.size wr w') : AW w w' B C := ⟨below_then H.below h, (fr0 h).blk H.b0 (fun h => h)⟩
section
variable {w : World}
set_option maxRecDepth 100000 in
set_option maxHeartbeats 6400000 in
theorem ahead_any (P : Pl) (A : Option Addr) (n cap : Nat) (hI : IsPlan w (.slice A n cap) P) (task : Nat) (p : Pc) (htask : task < 1000000) (hlen : (partsOf P).length < 1000000) :
    Calls Try.prog 40 #[.slice A n cap, .int .i64 task, .agg (pieceC p)] w fun e w' => e = .returned (.int .i64 (aheadL task p (partsOf P) : Nat)) ∧ Below w.heap.size w w' := by
  have hn := hI.rows.len
  have hnm : n ≤ 9223372036854775807 := by have := hI.rows.room; unfold maxLen at this; omega
  have HI := hid hI
  have HN := hid hn
  have HLN := hid hlen
  obtain ⟨pc, pb, pd, pp, pt⟩ := p
  unfold pieceC
  obtain ⟨CS, hCS⟩ : ∃ C : Array Value, C = #[.int .i64 pc, .int .i64 pb, .int .i64 pd, .int .i64 pp, .bool pt] := ⟨_, rfl⟩
  have hV : AW w (w.alloc (.cells #[.int .i64 pc, .int .i64 pb, .int .i64 pd, .int .i64 pp, .bool pt] 41)) w.heap.size CS := by rw [hCS]; exact ⟨below_new (Below.refl _ _) _, blk_new _ _⟩
  have HV := hid hV
  have HCS := hid hCS
  clear hI hn hlen hV hCS
  go_enter Try.func40, Try.ntmps40
  go_upto_region 1 with fail
  obtain ⟨B, hB⟩ : ∃ B, w.heap.size = B := ⟨_, rfl⟩
  rw [hB] at HV ⊢
  generalize w.alloc (.cells #[.int .i64 pc, .int .i64 pb, .int .i64 pd, .int .i64 pp, .bool pt] 41) = w1 at HV ⊢
  have HB := hid hB
  clear hB
  go_wp2_with fail
  go_loopw [7, 8] (fun c i wr => ∃ k : Nat, k ≤ n ∧ i = .int .i64 k ∧ c = .int .i64 (aheadL task ⟨pc, pb, pd, pp, pt⟩ (partsOf (P.take k)) : Nat) ∧ Hid (AW w wr B CS)) (fun _ i _ => n - (intOf i).toNat)
  case atStart => exact ⟨0, by omega, rfl, rfl, HV⟩
  case round =>
    obtain ⟨k, hk, rfl, rfl, HVr⟩ := hrel
    by_cases hlt : k < n
    case pos =>
      obtain ⟨pl, hpl⟩ : ∃ pl, P[k]? = some pl := ⟨_, List.getElem?_eq_getElem (by have := HN.out; omega)⟩
      obtain ⟨b2, o2, cs2, hA2, hbl2, _, hc2, ul, hv1, hv2⟩ := HI.out.rows.at hpl
      subst hA2
      subst hv1
      obtain ⟨A3, c3, hv3, hv4⟩ := hv2.shape
      obtain ⟨m3, hm3⟩ : ∃ m, m = pl.length := ⟨_, rfl⟩
      rw [← hm3] at hv3 hv4
      subst hv3
      have hm3m : m3 ≤ 9223372036854775807 := by have := hv2.room; unfold maxLen at this; omega
      have HY := hid hpl
      have HM3 := hid hm3
      have HV2 := hid hv2
      have HRC := hid (show w.cell? ⟨b2, o2 + k, none⟩ = some (.slice A3 m3 c3) from by simpa using hc2 0 _ rfl)
      have HBL2 := hid hbl2
      have hw0 : ∀ W, Below w.heap.size w W → W.cell? ⟨b2, o2 + k, none⟩ = some (.slice A3 m3 c3) := fun W h => (h.cell (p := ⟨b2, o2 + k, none⟩) HBL2.out).trans HRC.out
      have HW0 := hid hw0
      have d0 := hw0 wr HVr.out.below
      clear hpl hm3 hv2 hv4 hc2 hbl2 hw0
      go_wp2_with fail
      clear d0
      go_loopw [7, 9] (fun c v wr => ∃ j : Nat, j ≤ m3 ∧ v = .int .i64 j ∧ c = .int .i64 (aheadL task ⟨pc, pb, pd, pp, pt⟩ (seen P k pl j) : Nat) ∧ Hid (AW w wr B CS)) (fun _ v _ => m3 - (intOf v).toNat)
      case atStart => exact ⟨0, by omega, rfl, by rw [seen_zero], HVr⟩
      case round =>
        obtain ⟨j, hj, rfl, rfl, HVi⟩ := hrel
        have d0 := HW0.out wr HVi.out.below
        by_cases hjm : j < m3
        case pos =>
          obtain ⟨q, hq⟩ : ∃ q, pl[j]? = some q := ⟨_, List.getElem?_eq_getElem (by have := HM3.out; omega)⟩
          obtain ⟨b4, o4, cs4, hA4, hbl4, _, hc4, hr4⟩ := HV2.out.at hq
          subst hA4
          have hr4' : cs4 = [.int .i64 q.core, .int .i64 q.bud, .int .i64 q.dl, .int .i64 q.prio, .bool q.tight] := hr4
          subst hr4'
          obtain ⟨qc, qb, qd, qp, ti⟩ := q
          simp only at hc4
          have HQ := hid hq
          have hbr := HVi.out.below
          have e0 : wr.cell? ⟨b4, o4 + j * 5, none⟩ = some (.int .i64 qc) := (hbr.cell (p := ⟨b4, o4 + j * 5, none⟩) hbl4).trans (by simpa using hc4 0 _ rfl)
          have e1 : wr.cell? ⟨b4, o4 + j * 5 + 1, none⟩ = some (.int .i64 qb) := (hbr.cell (p := ⟨b4, o4 + j * 5 + 1, none⟩) hbl4).trans (hc4 1 _ rfl)
          have e2 : wr.cell? ⟨b4, o4 + j * 5 + 2, none⟩ = some (.int .i64 qd) := (hbr.cell (p := ⟨b4, o4 + j * 5 + 2, none⟩) hbl4).trans (hc4 2 _ rfl)
          have e3 : wr.cell? ⟨b4, o4 + j * 5 + 3, none⟩ = some (.int .i64 qp) := (hbr.cell (p := ⟨b4, o4 + j * 5 + 3, none⟩) hbl4).trans (hc4 3 _ rfl)
          have e4 : wr.cell? ⟨b4, o4 + j * 5 + 4, none⟩ = some (.bool ti) := (hbr.cell (p := ⟨b4, o4 + j * 5 + 4, none⟩) hbl4).trans (hc4 4 _ rfl)
          obtain ⟨cv, hcv⟩ : ∃ cv, aheadL task ⟨pc, pb, pd, pp, pt⟩ (seen P k pl j) = cv := ⟨_, rfl⟩
          have hcv2 : cv < 1000000 := by
            rw [← hcv]
            have h1 := (seen_prefix HY.out j).length_le
            have h2 : aheadL task ⟨pc, pb, pd, pp, pt⟩ (seen P k pl j) ≤ (seen P k pl j).length := List.length_filter_le _ _
            have := HLN.out
            omega
          have HCV := hid hcv
          rw [hcv]
          have HSN := hid (show aheadL task ⟨pc, pb, pd, pp, pt⟩ (seen P k pl (j + 1)) = if aheadQ task ⟨pc, pb, pd, pp, pt⟩ ⟨⟨qc, qb, qd, qp, ti⟩, k, j⟩ = true then cv + 1 else cv by rw [seen_succ hq, aheadL_snoc, hcv])
          clear hq hbr hbl4 hc4 hr4 hcv
          go_upto_region 9 with fail
          obtain ⟨D, hD⟩ : ∃ D, D = wr.heap.size := ⟨_, rfl⟩
          rw [← hD]
          generalize hw3 : wr.alloc (.cells #[.int .i64 qc, .int .i64 qb, .int .i64 qd, .int .i64 qp, .bool ti] 41) = w3
          have HV3 : Hid (AW w w3 B CS) := by rw [← hw3]; exact hid (HVi.out.later (below_new (Below.refl _ _) _))
          have hblk : w3.heap[D]? = some (.cells #[.int .i64 qc, .int .i64 qb, .int .i64 qd, .int .i64 qp, .bool ti] 41 (0, 0)) := by rw [← hw3, hD]; exact blk_new _ _
          have f0 : w3.cell? ⟨D, 0, none⟩ = some (.int .i64 qc) := blk_cell hblk 0
          have f2 : w3.cell? ⟨D, 2, none⟩ = some (.int .i64 qd) := blk_cell hblk 2
          have f4 : w3.cell? ⟨D, 4, none⟩ = some (.bool ti) := blk_cell hblk 4
          have g0 : w3.cell? ⟨B, 0, none⟩ = some (.int .i64 pc) := by rw [blk_cell HV3.out.b0 0, HCS.out]; rfl
          have g2 : w3.cell? ⟨B, 2, none⟩ = some (.int .i64 pd) := by rw [blk_cell HV3.out.b0 2, HCS.out]; rfl
          clear hw3 hD hblk d0 e0 e1 e2 e3 e4 HVi
          have hs0 : IntKind.i64.wrap ((cv : Int) + 1) = (cv : Int) + 1 := wraps_i64 _ (by omega) (by omega)
          by_cases h1 : qc = pc
          case neg =>
            have hb1 : (qc == pc) = false := beq_eq_false_iff_ne.2 h1
            have HC2 := hid (show aheadL task ⟨pc, pb, pd, pp, pt⟩ (seen P k pl (j + 1)) = cv by rw [HSN.out, show aheadQ task ⟨pc, pb, pd, pp, pt⟩ _ = false by simp [aheadQ, h1]]; rfl)
            clear HSN
            clear h1
            go_wp2_with fail
            go_roundw
            case rel => exact ⟨j + 1, by omega, by go_num, by rw [HC2.out], HV3⟩
            case measure => simp [intOf]; omega
          case pos =>
            have hb1 : (qc == pc) = true := beq_iff_eq.2 h1
            cases ti
            case true =>
              have HC2 := hid (show aheadL task ⟨pc, pb, pd, pp, pt⟩ (seen P k pl (j + 1)) = cv by rw [HSN.out, show aheadQ task ⟨pc, pb, pd, pp, pt⟩ _ = false by simp [aheadQ, h1]]; rfl)
              clear HSN
              clear h1
              go_wp2_with fail
              go_roundw
              case rel => exact ⟨j + 1, by omega, by go_num, by rw [HC2.out], HV3⟩
              case measure => simp [intOf]; omega
            case false =>
              by_cases h2 : k = task
              case pos =>
                have hb2 : ((k : Int) != (task : Int)) = false := by rw [h2]; simp
                have HC2 := hid (show aheadL task ⟨pc, pb, pd, pp, pt⟩ (seen P k pl (j + 1)) = cv by rw [HSN.out, show aheadQ task ⟨pc, pb, pd, pp, pt⟩ _ = false by simp [aheadQ, h1, h2]]; rfl)
                clear HSN
                clear h1
                clear h2
                go_wp2_with fail
                go_roundw
                case rel => exact ⟨j + 1, by omega, by go_num, by rw [HC2.out], HV3⟩
                case measure => simp [intOf]; omega
              case neg =>
                have hb2 : ((k : Int) != (task : Int)) = true := by rw [bne_iff_ne]; omega
                by_cases h3 : qd < pd
                case pos =>
                  have hb3 : decide (qd < pd) = true := decide_eq_true h3
                  have HC2 := hid (show aheadL task ⟨pc, pb, pd, pp, pt⟩ (seen P k pl (j + 1)) = cv + 1 by rw [HSN.out, show aheadQ task ⟨pc, pb, pd, pp, pt⟩ _ = true by simp [aheadQ, h1, h2, h3]]; rfl)
                  clear HSN
                  clear h1
                  clear h2
                  go_wp2_with fail
                  go_roundw
                  case rel => exact ⟨j + 1, by omega, by go_num, by rw [HC2.out]; simp, HV3⟩
                  case measure => simp [intOf]; omega
                case neg =>
                  have hb3 : decide (qd < pd) = false := decide_eq_false h3
                  by_cases h4 : qd = pd
                  case neg =>
                    have hb4 : (qd == pd) = false := beq_eq_false_iff_ne.2 h4
                    have HC2 := hid (show aheadL task ⟨pc, pb, pd, pp, pt⟩ (seen P k pl (j + 1)) = cv by rw [HSN.out, show aheadQ task ⟨pc, pb, pd, pp, pt⟩ _ = false by simp [aheadQ, h1, h2, h3, h4]]; rfl)
                    clear HSN
                    clear h1
                    clear h2
                    clear h4
                    go_wp2_with fail
                    go_roundw
                    case rel => exact ⟨j + 1, by omega, by go_num, by rw [HC2.out], HV3⟩
                    case measure => simp [intOf]; omega
                  case pos =>
                    have hb4 : (qd == pd) = true := beq_iff_eq.2 h4
                    by_cases h5 : k < task
                    case pos =>
                      have hb5 : decide ((k : Int) < (task : Int)) = true := decide_eq_true (by omega)
                      have hb6 : decide (k < task) = true := decide_eq_true h5
                      have HC2 := hid (show aheadL task ⟨pc, pb, pd, pp, pt⟩ (seen P k pl (j + 1)) = cv + 1 by rw [HSN.out, show aheadQ task ⟨pc, pb, pd, pp, pt⟩ _ = true by simp [aheadQ, h1, h2, h3, h4, h5]]; rfl)
                      clear HSN
                      clear h1
                      clear h2
                      clear h4
                      go_wp2_with fail
                      go_roundw
                      case rel => exact ⟨j + 1, by omega, by go_num, by rw [HC2.out]; simp, HV3⟩
                      case measure => simp [intOf]; omega
                    case neg =>
                      have hb5 : decide ((k : Int) < (task : Int)) = false := decide_eq_false (by omega)
                      have hb6 : decide (k < task) = false := decide_eq_false h5
                      have HC2 := hid (show aheadL task ⟨pc, pb, pd, pp, pt⟩ (seen P k pl (j + 1)) = cv by rw [HSN.out, show aheadQ task ⟨pc, pb, pd, pp, pt⟩ _ = false by simp [aheadQ, h1, h2, h3, h4, h5]]; rfl)
                      clear HSN
                      clear h1
                      clear h2
                      clear h4
                      go_wp2_with fail
                      go_roundw
                      case rel => exact ⟨j + 1, by omega, by go_num, by rw [HC2.out], HV3⟩
                      case measure => simp [intOf]; omega
        case neg =>
          obtain rfl : j = m3 := by omega
          have HC2 := hid (show aheadL task ⟨pc, pb, pd, pp, pt⟩ (partsOf (P.take (k + 1))) = aheadL task ⟨pc, pb, pd, pp, pt⟩ (seen P k pl j) by rw [← seen_all HY.out, ← HM3.out])
          go_wp2_with fail
          go_roundw
          case rel => exact ⟨k + 1, by omega, by go_num, by rw [HC2.out], HVi⟩
          case measure => simp [intOf]; omega
    case neg =>
      obtain rfl : k = n := by omega
      have HE := hid (show P.take k = P by rw [HN.out, List.take_length])
      go_wp2_with fail
      go_ret
      exact ⟨by rw [HE.out]; rfl, HVr.out.below⟩
end
end Go.Proofs.Ytppildaahmlfmaa
/- Package tourbillonref17: where (contract). -/
set_option linter.unusedVariables false
set_option linter.unusedSimpArgs false
namespace Go.Proofs.Ytppildaahmlfmaa
open Go.RowKit

/-- A whole task's core, else -1. -/
def whereOf : List Pc → Int
  | [p] => if p.tight = true then -1 else p.core
  | _ => -1
theorem whereOf_one {l : List Pc} {p : Pc} (h1 : l.length = 1) (hp : l[0]? = some p) : whereOf l = if p.tight = true then -1 else p.core := by
  match l, h1, hp with
  | [q], _, hp => simp at hp; subst hp; rfl
theorem whereOf_no {l : List Pc} (h : l.length ≠ 1) : whereOf l = -1 := by
  match l, h with
  | [], _ => rfl
  | [q], h => simp at h
  | p :: q :: l, _ => rfl
section
variable {w : World}
set_option maxRecDepth 100000 in
set_option maxHeartbeats 6400000 in
theorem where_any (P : Pl) (A : Option Addr) (n cap : Nat) (hI : IsPlan w (.slice A n cap) P) (hn24 : n < 1000000) :
    Calls Try.prog 41 #[.slice A n cap] w fun e w' => ∃ u, e = .returned u ∧ w'.ownsRow w.heap.size 3 1 u n (intCells (P.map whereOf)) ∧ Below w.heap.size w w' := by
  have hn := hI.rows.len
  have HI := hid hI
  have HN := hid hn
  obtain ⟨i0, hi, hz0, hz1, hz2⟩ := info_parts Try.info_int
  clear hI hn
  go_enter Try.func41, Try.ntmps41
  go_wp2_with fail
  go_loopw [3, 4] (fun u i wr => ∃ k : Nat, k ≤ n ∧ i = .int .i64 k ∧ wr.ownsRow w.heap.size 3 1 u k (intCells ((P.map whereOf).take k)) ∧ Below w.heap.size w wr) (fun _ i _ => n - (intOf i).toNat)
  case atStart => exact ⟨0, by omega, rfl, World.ownsRow_nil _ _ _ _, Below.refl _ _⟩
  case round =>
    obtain ⟨k, hk, rfl, hown, hb⟩ := hrel
    have HB := hid hb
    have HO := hid hown
    have hszx := hb.size
    by_cases hlt : k < n
    case pos =>
      obtain ⟨pl, hpl⟩ : ∃ pl, P[k]? = some pl := ⟨_, List.getElem?_eq_getElem (by have := HN.out; omega)⟩
      obtain ⟨b2, o2, cs2, hA2, hbl2, _, hc2, ul, hv1, hv2⟩ := HI.out.rows.at hpl
      subst hA2
      subst hv1
      obtain ⟨A3, c3, hv3, hv4⟩ := hv2.shape
      obtain ⟨m3, hm3⟩ : ∃ m, m = pl.length := ⟨_, rfl⟩
      rw [← hm3] at hv3 hv4
      subst hv3
      have hp2 : (P.map whereOf)[k]? = some (whereOf pl) := by rw [List.getElem?_map, hpl]; rfl
      have HIT := hid (int_take hp2)
      have HM3 := hid hm3
      have HV2 := hid hv2
      have d0 : wr.cell? ⟨b2, o2 + k, none⟩ = some (.slice A3 m3 c3) := (hb.cell (p := ⟨b2, o2 + k, none⟩) hbl2).trans (by simpa using hc2 0 _ rfl)
      clear hpl hm3 hv2 hv4 hc2 hbl2 hp2
      by_cases h1 : m3 = 1
      case pos =>
        have hb1 : ((m3 : Int) == 1) = true := by rw [h1]; rfl
        have h0 : 0 < m3 := by omega
        obtain ⟨p, hp⟩ : ∃ p, pl[0]? = some p := ⟨_, List.getElem?_eq_getElem (by have := HM3.out; omega)⟩
        obtain ⟨b4, o4, cs4, hA4, hbl4, _, hc4, hr4⟩ := HV2.out.at hp
        subst hA4
        have hr4' : cs4 = [.int .i64 p.core, .int .i64 p.bud, .int .i64 p.dl, .int .i64 p.prio, .bool p.tight] := hr4
        subst hr4'
        have HWH := hid (whereOf_one (by rw [← HM3.out]; exact h1) hp)
        obtain ⟨pc, pb, pd, pp, ti⟩ := p
        simp only at hc4 HWH
        have e0 : wr.cell? ⟨b4, o4, none⟩ = some (.int .i64 pc) := (hb.cell (p := ⟨b4, o4, none⟩) hbl4).trans (by simpa using hc4 0 _ rfl)
        have e4 : wr.cell? ⟨b4, o4 + 4, none⟩ = some (.bool ti) := (hb.cell (p := ⟨b4, o4 + 4, none⟩) hbl4).trans (by simpa using hc4 4 _ rfl)
        clear hp hbl4 hc4 hr4 h1 hb
        cases ti
        case true =>
          have HV := hid (show whereOf pl = -1 by rw [HWH.out]; rfl)
          go_wp2_with (at_builtin; refine append_new rfl _ _ 27 rfl w.heap.size 3 i0 _ 1 8 Try.underlying27 hi hz0 hz1 hz2 rfl (by decide) #[.int .i64 (-1)] u3 k (intCells ((P.map whereOf).take k)) rfl _ rfl rfl hown rfl (one_one _) (by unfold maxLen; omega) (by omega) hszx ?_)
          intro v6 w6 hown6 hf6 hl6
          have HO6 : Hid (w6.ownsRow w.heap.size 3 1 v6 (k + 1) (intCells ((P.map whereOf).take (k + 1)))) := by rw [HIT.out, HV.out]; exact hid hown6
          have HB6 : Hid (Below w.heap.size w w6) := hid ((Fr.of_below (S := NoB) HB.out).trans hf6 (fun b hb => .inr (own_ge HO.out b hb))).no
          clear hown6 hf6 hl6 hown
          go_wp2_with fail
          go_roundw
          case rel => exact ⟨k + 1, by omega, by go_num, HO6.out, HB6.out⟩
          case measure => simp [intOf]; omega
        case false =>
          have HV := hid (show whereOf pl = pc by rw [HWH.out]; rfl)
          go_wp2_with (at_builtin; refine append_new rfl _ _ 27 rfl w.heap.size 3 i0 _ 1 8 Try.underlying27 hi hz0 hz1 hz2 rfl (by decide) #[.int .i64 (pc)] u3 k (intCells ((P.map whereOf).take k)) rfl _ rfl rfl hown rfl (one_one _) (by unfold maxLen; omega) (by omega) hszx ?_)
          intro v6 w6 hown6 hf6 hl6
          have HO6 : Hid (w6.ownsRow w.heap.size 3 1 v6 (k + 1) (intCells ((P.map whereOf).take (k + 1)))) := by rw [HIT.out, HV.out]; exact hid hown6
          have HB6 : Hid (Below w.heap.size w w6) := hid ((Fr.of_below (S := NoB) HB.out).trans hf6 (fun b hb => .inr (own_ge HO.out b hb))).no
          clear hown6 hf6 hl6 hown
          go_wp2_with fail
          go_roundw
          case rel => exact ⟨k + 1, by omega, by go_num, HO6.out, HB6.out⟩
          case measure => simp [intOf]; omega
      case neg =>
        have hb1 : ((m3 : Int) == 1) = false := beq_eq_false_iff_ne.2 (by omega)
        have HV := hid (show whereOf pl = -1 from whereOf_no (by rw [← HM3.out]; exact h1))
        clear h1 hb
        go_wp2_with (at_builtin; refine append_new rfl _ _ 27 rfl w.heap.size 3 i0 _ 1 8 Try.underlying27 hi hz0 hz1 hz2 rfl (by decide) #[.int .i64 (-1)] u3 k (intCells ((P.map whereOf).take k)) rfl _ rfl rfl hown rfl (one_one _) (by unfold maxLen; omega) (by omega) hszx ?_)
        intro v6 w6 hown6 hf6 hl6
        have HO6 : Hid (w6.ownsRow w.heap.size 3 1 v6 (k + 1) (intCells ((P.map whereOf).take (k + 1)))) := by rw [HIT.out, HV.out]; exact hid hown6
        have HB6 : Hid (Below w.heap.size w w6) := hid ((Fr.of_below (S := NoB) HB.out).trans hf6 (fun b hb => .inr (own_ge HO.out b hb))).no
        clear hown6 hf6 hl6 hown
        go_wp2_with fail
        go_roundw
        case rel => exact ⟨k + 1, by omega, by go_num, HO6.out, HB6.out⟩
        case measure => simp [intOf]; omega
    case neg =>
      obtain rfl : k = n := by omega
      rw [List.take_of_length_le (by rw [List.length_map]; have := HN.out; omega)] at hown
      have HO2 := hid hown
      clear hown HO hb
      go_wp2_with fail
      go_ret
      exact ⟨_, rfl, HO2.out, HB.out⟩
end
end Go.Proofs.Ytppildaahmlfmaa
/- A list of lists of pieces that a call has made: the outer row and its rows, each the call's own. -/
set_option linter.unusedVariables false
set_option linter.unusedSimpArgs false
namespace Go.Proofs.Ytppildaahmlfmaa
open Go.RowKit

def encPc (p : Pc) : List Value := [.int .i64 p.core, .int .i64 p.bud, .int .i64 p.dl, .int .i64 p.prio, .bool p.tight]
theorem encPc_len (p : Pc) : (encPc p).length = 5 := rfl
theorem encPc_one (p : Pc) : ∀ v ∈ encPc p, v.oneCell' = true := by
  intro v hv
  simp [encPc] at hv
  rcases hv with rfl | rfl | rfl | rfl | rfl <;> rfl
structure OG (w : World) (base : Nat) (u : Value) (vs : List Value) (Q : Pl) : Prop where
  out : w.ownsRow base 31 1 u vs.length vs
  len : vs.length = Q.length
  rows : ∀ (i : Nat) v q, vs[i]? = some v → Q[i]? = some q → w.ownsRow base 41 5 v q.length (flat encPc q)
  apart : ∀ v ∈ vs, ∀ k, v.ownBlock = some k → u.ownBlock ≠ some k
def OGSet (u : Value) (vs : List Value) (k : Nat) : Prop := u.ownBlock = some k ∨ ∃ v ∈ vs, v.ownBlock = some k
section
variable {w w' : World} {base : Nat} {u u' : Value} {vs : List Value} {Q : Pl}
theorem OG.nil (w : World) (base : Nat) : OG w base (.slice none 0 0) [] [] := ⟨World.ownsRow_nil _ _ _ _, rfl, fun i v q h => by simp at h, fun v h => by simp at h⟩
theorem OG.row (h : OG w base u vs Q) {v : Value} (hv : v ∈ vs) : ∃ q, w.ownsRow base 41 5 v q.length (flat encPc q) := by
  obtain ⟨i, hi⟩ := List.mem_iff_getElem?.1 hv
  have hq : i < Q.length := by have := h.len; have := (List.getElem?_eq_some_iff.1 hi).1; omega
  exact ⟨Q[i], h.rows i _ _ hi (List.getElem?_eq_getElem hq)⟩
theorem OG.lt (h : OG w base u vs Q) : ∀ k, OGSet u vs k → base ≤ k ∧ k < w.heap.size := by
  intro k hk
  rcases hk with hk | ⟨v, hv, hk⟩
  · exact h.out.lt k hk
  · obtain ⟨q, hq⟩ := h.row hv
    exact hq.lt k hk
theorem OG.kept {S : Nat → Prop} (h : OG w base u vs Q) (k : Fr S w w') (hn : ∀ j, OGSet u vs j → ¬ S j) : OG w' base u vs Q :=
  ⟨own_kept h.out k (fun j hj => hn j (.inl hj)), h.len, fun i v q hv hq => own_kept (h.rows i v q hv hq) k (fun j hj => hn j (.inr ⟨v, List.mem_of_getElem? hv, hj⟩)), h.apart⟩
theorem OG.later (h : OG w base u vs Q) (k : Below w.heap.size w w') : OG w' base u vs Q := h.kept (fr0 k) (fun _ _ h => h)
/-- One more row. -/
theorem OG.snoc (h : OG w base u vs Q) {v : Value} {q : List Pc} (hv : w.ownsRow base 41 5 v q.length (flat encPc q)) (hd : ∀ k, v.ownBlock = some k → u.ownBlock ≠ some k)
    (hown : w'.ownsRow base 31 1 u' (vs.length + 1) (vs ++ [v])) (hF : Fr (fun k => u.ownBlock = some k) w w') (hu : u'.ownBlock = u.ownBlock ∨ ∃ k, u'.ownBlock = some k ∧ w.heap.size ≤ k) : OG w' base u' (vs ++ [v]) (Q ++ [q]) := by
  have key : ∀ x ∈ vs ++ [v], ∃ q, w.ownsRow base 41 5 x q.length (flat encPc q) ∧ ∀ k, x.ownBlock = some k → u.ownBlock ≠ some k := by
    intro x hx
    rcases List.mem_append.1 hx with hx | hx
    · obtain ⟨q, hq⟩ := h.row hx
      exact ⟨q, hq, h.apart x hx⟩
    · simp at hx
      subst hx
      exact ⟨q, hv, hd⟩
  refine ⟨by rw [List.length_append]; exact hown, by simp [h.len], fun i x y hx hy => ?_, fun x hx k hk e => ?_⟩
  · by_cases hi : i < vs.length
    · rw [List.getElem?_append_left hi] at hx
      rw [List.getElem?_append_left (by have := h.len; omega)] at hy
      exact own_kept (h.rows i x y hx hy) hF (fun k hk e => h.apart x (List.mem_of_getElem? hx) k hk e)
    · have hi2 : i = vs.length := by have := (List.getElem?_eq_some_iff.1 hx).1; simp at this; omega
      subst hi2
      rw [List.getElem?_append_right (Nat.le_refl _)] at hx
      rw [List.getElem?_append_right (by have := h.len; omega)] at hy
      simp at hx
      rw [h.len] at hy
      simp at hy
      subst hx
      subst hy
      exact own_kept hv hF (fun k hk e => hd k hk e)
  · obtain ⟨q2, hq2, hap⟩ := key x hx
    rcases hu with hu | ⟨j, hu, hj⟩
    · exact hap k hk (by rw [← hu]; exact e)
    · rw [hu] at e
      injection e with e
      have := (hq2.lt k hk).2
      omega
theorem flat_fst : ∀ (vs : List Value) (Q : Pl), vs.length = Q.length → flat (fun x : Value × List Pc => [x.1]) (vs.zip Q) = vs
  | [], _, _ => by simp [flat]
  | v :: vs, [], h => by simp at h
  | v :: vs, q :: Q, h => by
    have := flat_fst vs Q (by simpa using h)
    simp [flat] at this ⊢
    exact this
/-- It is a plan. -/
theorem OG.plan (h : OG w base u vs Q) : Rowp 1 (RowR 5 pcR) w u Q := by
  have h1 : Rowp 1 (fun w cs (x : Value × List Pc) => cs = [x.1] ∧ Rowp 5 pcR w x.1 x.2) w u (vs.zip Q) := by
    refine Rowp.of_own (base := base) (e := 31) (n := vs.length) (enc := fun x => [x.1]) (fun x => rfl) (by rw [flat_fst vs Q h.len]; exact h.out) (by rw [List.length_zip, h.len]; simp) (by decide) (fun x hx => ⟨rfl, ?_⟩)
    obtain ⟨i, hi⟩ := List.mem_iff_getElem?.1 hx
    rw [List.getElem?_zip_eq_some] at hi
    exact Rowp.of_own encPc_len (h.rows i _ _ hi.1 hi.2) rfl (by decide) (fun p _ => rfl)
  have h2 := h1.mono (R' := RowR 5 pcR) (f := Prod.snd) (fun cs x _ hr => ⟨x.1, hr.1, hr.2⟩)
  rwa [List.map_snd_zip (by rw [h.len]; exact Nat.le_refl _)] at h2
end
end Go.Proofs.Ytppildaahmlfmaa
/- Package tourbillonref17: Rank (contract). -/
set_option linter.unusedVariables false
set_option linter.unusedSimpArgs false
namespace Go.Proofs.Ytppildaahmlfmaa
open Go.RowKit

theorem Try.info_piece : (Try.prog.info? 41).map (fun i => (i.zero, i.size, i.bytes)) = some (some (.agg #[.int .i64 0, .int .i64 0, .int .i64 0, .int .i64 0, .bool false]), 5, 40) := by kernel_rfl
theorem Try.info_pieces : (Try.prog.info? 31).map (fun i => (i.zero, i.size, i.bytes)) = some (some (.slice none 0 0), 1, 24) := by kernel_rfl
def rankOne (S : Sy) (L : List Pt) (i : Nat) (p : Pc) : Pc := ⟨p.core, p.bud, p.dl, if S.policy = 1 ∧ p.tight = false then 1 + (aheadL i p L : Nat) else 0, p.tight⟩
def rankRow (S : Sy) (L : List Pt) (i : Nat) (l : List Pc) : List Pc := l.map (rankOne S L i)
def rankL (S : Sy) (P : Pl) : Pl := P.mapIdx (rankRow S (partsOf P))
theorem aheadL_prio (task : Nat) (a b c d e : Int) (t t' : Bool) (L : List Pt) : aheadL task ⟨a, b, c, d, t⟩ L = aheadL task ⟨a, b, c, e, t'⟩ L := rfl
theorem rank_take {S : Sy} {P : Pl} {k : Nat} {pl : List Pc} (h : P[k]? = some pl) : (rankL S P).take (k + 1) = (rankL S P).take k ++ [rankRow S (partsOf P) k pl] :=
  take_next (by unfold rankL; rw [List.getElem?_mapIdx, h]; rfl)
theorem row_take {S : Sy} {L : List Pt} {i j : Nat} {pl : List Pc} {p : Pc} (h : pl[j]? = some p) : flat encPc ((rankRow S L i pl).take (j + 1)) = flat encPc ((rankRow S L i pl).take j) ++ encPc (rankOne S L i p) := by
  rw [take_next (x := rankOne S L i p) (by unfold rankRow; rw [List.getElem?_map, h]; rfl), flat_snoc]
/-- The world within Rank: the system's box; the results lie behind Z. -/
structure RKW (w wr : World) (B Z : Nat) (C : Array Value) : Prop where
  below : Below w.heap.size w wr
  b0 : wr.heap[B]? = some (.cells C 24 (0, 0))
  lo : w.heap.size ≤ Z
  bz : B < Z
  sz : Z ≤ wr.heap.size
section
variable {w wr w' : World} {B Z : Nat} {C : Array Value}
theorem RKW.later (H : RKW w wr B Z C) (h : Below wr.heap.size wr w') : RKW w w' B Z C := ⟨below_then H.below h, (fr0 h).blk H.b0 (fun h => h), H.lo, H.bz, Nat.le_trans H.sz h.size⟩
theorem RKW.fr {T : Nat → Prop} (H : RKW w wr B Z C) (hF : Fr T wr w') (hn : ∀ k, T k → Z ≤ k) (hs : wr.heap.size ≤ w'.heap.size) : RKW w w' B Z C :=
  ⟨((Fr.of_below (S := NoB) H.below).trans hF (fun x hx => .inr (by have := hn x hx; have := H.lo; omega))).no, hF.blk H.b0 (fun h => by have := hn _ h; have := H.bz; omega), H.lo, H.bz, Nat.le_trans H.sz hs⟩
end
section
variable {w : World}
set_option maxRecDepth 100000 in
set_option maxHeartbeats 6400000 in
theorem rrank_any (S : Sy) (A0 : Option Addr) (n0 c0 : Nat) (A : Option Addr) (n cap : Nat) (P : Pl) (hs : IsSys w (.slice A0 n0 c0) S) (hp : IsPlan w (.slice A n cap) P) :
    Calls Try.prog 18 #[sysV S (.slice A0 n0 c0), .slice A n cap] w fun e w' => ∃ u, e = .returned (.tuple #[u, .bool (planB S P)]) ∧ Rowp 1 (RowR 5 pcR) w' u (if planB S P = true then rankL S P else []) ∧ Below w.heap.size w w' := by
  have hn := hp.rows.len
  have HP := hid hp
  have HN := hid hn
  have hnm : n ≤ 9223372036854775807 := by have := hp.rows.room; unfold maxLen at this; omega
  have HVR := hid (fun W (h : Below w.heap.size w W) => rright17_any (w := W) S A0 n0 c0 A n cap P (hs.later h) (hp.later h))
  obtain ⟨CS, hCS⟩ : ∃ C, C = sysC S (.slice A0 n0 c0) := ⟨_, rfl⟩
  have HCS := hid hCS
  obtain ⟨rb, hrb⟩ : ∃ r, planB S P = r := ⟨_, rfl⟩
  have HRB := hid hrb
  rw [hrb] at HVR ⊢
  obtain ⟨i0, hi, hz0, hz1, hz2⟩ := info_parts Try.info_piece
  obtain ⟨i1, hi', hy0, hy1, hy2⟩ := info_parts Try.info_pieces
  unfold sysV at *
  have hn24 : rb = true → n ≤ 24 ∧ (partsOf P).length ≤ 192 ∧ ∀ l ∈ P, l.length ≤ 8 := fun e => by
    have ok := planB_ok (hrb.trans e)
    have h1 := ok.len
    have h2 := ok.sys.len
    have h3 : ∀ l ∈ P, l.length ≤ 8 := fun l hl => by
      obtain ⟨i, hi⟩ := List.mem_iff_getElem?.1 hl
      have hi2 := (List.getElem?_eq_some_iff.1 hi).1
      have ht : S.tasks[i]? = some (S.tasks[i]'(by omega)) := List.getElem?_eq_getElem _
      exact (listOk_pcs ok.sys (ok.sys.tasks _ (List.mem_of_getElem? ht)) (ok.lists i _ l ht hi)).1
    have h4 := parts_len_le h3
    exact ⟨by omega, by omega, h3⟩
  have HN24 := hid hn24
  clear hs hp hn hCS hrb hn24
  go_enter Try.func18, Try.ntmps18
  go_wp2_with fail
  refine (HVR.out _ (below_new (Below.refl _ _) _)).mono ?_
  rintro e w1 ⟨rfl, hb1⟩
  have q0 : w1.heap[w.heap.size]? = some (.cells (sysC S (.slice A0 n0 c0)) 24 (0, 0)) := (fr0 hb1).blk (blk_new w _) (fun h => h)
  have hbw := below_then (below_new (Below.refl _ _) _) hb1
  rw [← HCS.out] at q0
  have HRK := hid (show RKW w w1 w.heap.size w1.heap.size CS from ⟨hbw, q0, hbw.size, blk_lt q0, Nat.le_refl _⟩)
  obtain ⟨B, hB⟩ : ∃ B, w.heap.size = B := ⟨_, rfl⟩
  obtain ⟨Z, hZ⟩ : ∃ Z, w1.heap.size = Z := ⟨_, rfl⟩
  rw [hB] at HRK ⊢
  rw [hZ] at HRK
  clear q0 hbw hb1 hB hZ
  cases rb
  case false =>
    go_wp2_with fail
    go_ret2
    exact ⟨_, rfl, Rowp.nil _ _ _, HRK.out.below⟩
  case true =>
    obtain ⟨hn24, hpl192, hl8⟩ := HN24.out rfl
    have HL8 := hid hl8
    clear hl8
    go_wp2_with fail
    go_loopw [7, 8] (fun u i wr => ∃ (k : Nat) (vs : List Value), k ≤ n ∧ i = .int .i64 k ∧ Hid (OG wr Z u vs ((rankL S P).take k)) ∧ Hid (RKW w wr B Z CS)) (fun _ i _ => n - (intOf i).toNat)
    case atStart => exact ⟨0, [], by omega, rfl, hid (OG.nil _ _), HRK⟩
    case round =>
      obtain ⟨k, vs, hk, rfl, HOG, HVr⟩ := hrel
      by_cases hlt : k < n
      case pos =>
        obtain ⟨pl, hpl⟩ : ∃ pl, P[k]? = some pl := ⟨_, List.getElem?_eq_getElem (by have := HN.out; omega)⟩
        obtain ⟨b2, o2, cs2, hA2, hbl2, _, hc2, ul, hv1, hv2⟩ := HP.out.rows.at hpl
        subst hA2
        subst hv1
        obtain ⟨A3, c3, hv3, hv4⟩ := hv2.shape
        obtain ⟨m3, hm3⟩ : ∃ m, m = pl.length := ⟨_, rfl⟩
        rw [← hm3] at hv3 hv4
        subst hv3
        have hm8 : m3 ≤ 8 := by rw [hm3]; exact HL8.out pl (List.mem_of_getElem? hpl)
        have HY := hid hpl
        have HM3 := hid hm3
        have HV2 := hid hv2
        have HRC := hid (show w.cell? ⟨b2, o2 + k, none⟩ = some (.slice A3 m3 c3) from by simpa using hc2 0 _ rfl)
        have HBL2 := hid hbl2
        have HW0 := hid (show ∀ W, Below w.heap.size w W → W.cell? ⟨b2, o2 + k, none⟩ = some (.slice A3 m3 c3) from fun W h => (h.cell (p := ⟨b2, o2 + k, none⟩) HBL2.out).trans HRC.out)
        have HAH := hid (fun W (h : Below w.heap.size w W) (pc pb pd : Int) => ahead_any (w := W) P (some ⟨b2, o2, none⟩) n cap (HP.out.later h) k ⟨pc, pb, pd, 0, false⟩ (by omega) (by omega))
        unfold pieceC at HAH
        simp only at HAH
        have hvl : vs.length = k := by
          have h1 := HOG.out.len
          rw [List.length_take] at h1
          have h2 : (rankL S P).length = P.length := by unfold rankL; rw [List.length_mapIdx]
          have := HN.out
          omega
        have d0 := HW0.out wr HVr.out.below
        clear hpl hm3 hv2 hv4 hc2 hbl2
        go_wp2_with fail
        clear d0
        go_loopw [9, 10] (fun v jv wr => ∃ j : Nat, j ≤ m3 ∧ jv = .int .i64 j ∧ Hid (wr.ownsRow Z 41 5 v j (flat encPc ((rankRow S (partsOf P) k pl).take j))) ∧ Hid (OG wr Z u7 vs ((rankL S P).take k)) ∧ Hid (RKW w wr B Z CS) ∧ Hid (∀ b, v.ownBlock = some b → ¬ OGSet u7 vs b)) (fun _ jv _ => m3 - (intOf jv).toNat)
        case atStart => exact ⟨0, by omega, rfl, hid (World.ownsRow_nil _ _ _ _), HOG, HVr, hid (fun b hb => by simp [Value.ownBlock] at hb)⟩
        case round =>
          obtain ⟨j, hj, rfl, HOW, HOI, HVi, HDJ⟩ := hrel
          have d0 := HW0.out wr HVi.out.below
          by_cases hjm : j < m3
          case pos =>
            obtain ⟨q, hq⟩ : ∃ q, pl[j]? = some q := ⟨_, List.getElem?_eq_getElem (by have := HM3.out; omega)⟩
            obtain ⟨b4, o4, cs4, hA4, hbl4, _, hc4, hr4⟩ := HV2.out.at hq
            subst hA4
            have hr4' : cs4 = [.int .i64 q.core, .int .i64 q.bud, .int .i64 q.dl, .int .i64 q.prio, .bool q.tight] := hr4
            subst hr4'
            obtain ⟨pc, pb, pd, pp, ti⟩ := q
            have HRT := hid (show flat encPc ((rankRow S (partsOf P) k pl).take (j + 1)) = flat encPc ((rankRow S (partsOf P) k pl).take j) ++ [.int .i64 pc, .int .i64 pb, .int .i64 pd, .int .i64 (if S.policy = 1 ∧ ti = false then 1 + ((aheadL k ⟨pc, pb, pd, pp, ti⟩ (partsOf P) : Nat) : Int) else 0), .bool ti] from row_take hq)
            simp only at hc4
            have hbr := HVi.out.below
            have e0 : wr.cell? ⟨b4, o4 + j * 5, none⟩ = some (.int .i64 pc) := (hbr.cell (p := ⟨b4, o4 + j * 5, none⟩) hbl4).trans (by simpa using hc4 0 _ rfl)
            have e1 : wr.cell? ⟨b4, o4 + j * 5 + 1, none⟩ = some (.int .i64 pb) := (hbr.cell (p := ⟨b4, o4 + j * 5 + 1, none⟩) hbl4).trans (hc4 1 _ rfl)
            have e2 : wr.cell? ⟨b4, o4 + j * 5 + 2, none⟩ = some (.int .i64 pd) := (hbr.cell (p := ⟨b4, o4 + j * 5 + 2, none⟩) hbl4).trans (hc4 2 _ rfl)
            have e3 : wr.cell? ⟨b4, o4 + j * 5 + 3, none⟩ = some (.int .i64 pp) := (hbr.cell (p := ⟨b4, o4 + j * 5 + 3, none⟩) hbl4).trans (hc4 3 _ rfl)
            have e4 : wr.cell? ⟨b4, o4 + j * 5 + 4, none⟩ = some (.bool ti) := (hbr.cell (p := ⟨b4, o4 + j * 5 + 4, none⟩) hbl4).trans (hc4 4 _ rfl)
            clear hq hbr hbl4 hc4 hr4
            go_upto_region 13 with fail
            obtain ⟨D, hD⟩ : ∃ D, D = wr.heap.size := ⟨_, rfl⟩
            rw [← hD]
            generalize hw3 : wr.alloc (.cells #[.int .i64 pc, .int .i64 pb, .int .i64 pd, .int .i64 pp, .bool ti] 41) = w3
            have hbel : Below wr.heap.size wr w3 := by rw [← hw3]; exact below_new (Below.refl _ _) _
            have hblk : w3.heap[D]? = some (.cells #[.int .i64 pc, .int .i64 pb, .int .i64 pd, .int .i64 pp, .bool ti] 41 (0, 0)) := by rw [← hw3, hD]; exact blk_new _ _
            have f3 : w3.cell? ⟨D, 3, none⟩ = some (.int .i64 pp) := blk_cell hblk 3
            have z3 : w3.frozen? ⟨D, 3, none⟩ = false := blk_free hblk 3
            have HDB := hid hblk
            have HBE := hid hbel
            have HDL := hid (show wr.heap.size ≤ D by omega)
            clear hw3 hD hblk hbel d0 e0 e1 e2 e3 e4
            go_upto_region 14 with fail
            have HB4 := hid (show Below wr.heap.size wr (w3.setCell ⟨D, 3, none⟩ (.int .i64 0)) from HBE.out.setCell (p := ⟨D, 3, none⟩) HDL.out _)
            have HD4 := hid (show (w3.setCell ⟨D, 3, none⟩ (.int .i64 0)).heap[D]? = some (.cells #[.int .i64 pc, .int .i64 pb, .int .i64 pd, .int .i64 0, .bool ti] 41 (0, 0)) from by have := blk_set HDB.out 3 (.int .i64 0); simpa using this)
            generalize w3.setCell ⟨D, 3, none⟩ (.int .i64 0) = w4 at *
            clear f3 z3
            have HV4 := hid (HVi.out.later HB4.out)
            have g1 : w4.cell? ⟨B, 1, none⟩ = some (.int .i64 S.policy) := by rw [blk_cell HV4.out.b0 1, HCS.out]; rfl
            have f0 : w4.cell? ⟨D, 0, none⟩ = some (.int .i64 pc) := blk_cell HD4.out 0
            have f1 : w4.cell? ⟨D, 1, none⟩ = some (.int .i64 pb) := blk_cell HD4.out 1
            have f2 : w4.cell? ⟨D, 2, none⟩ = some (.int .i64 pd) := blk_cell HD4.out 2
            have f3 : w4.cell? ⟨D, 3, none⟩ = some (.int .i64 0) := blk_cell HD4.out 3
            have f4 : w4.cell? ⟨D, 4, none⟩ = some (.bool ti) := blk_cell HD4.out 4
            by_cases hpo : S.policy = 1
            case neg =>
              have hpb : (S.policy == 1) = false := beq_eq_false_iff_ne.2 hpo
              have HPR := hid (show (if S.policy = 1 ∧ ti = false then 1 + ((aheadL k ⟨pc, pb, pd, pp, ti⟩ (partsOf P) : Nat) : Int) else 0) = 0 from if_neg (fun h => hpo h.1))
              clear hpo
              have hown := HOW.out
              have hown := own_kept hown (fr0 HB4.out) (fun _ _ h => h)
              have hszx : Z ≤ w4.heap.size := Nat.le_trans HVi.out.sz HB4.out.size
              have HON := hid (encPc_one ⟨pc, pb, pd, 0, ti⟩)
              unfold encPc at HON
              go_wp2_with (at_builtin; refine append_new rfl _ _ 31 rfl Z 41 i0 _ 5 40 Try.underlying31 hi hz0 hz1 hz2 rfl (by decide) #[.int .i64 pc, .int .i64 pb, .int .i64 pd, .int .i64 (0), .bool ti] u9 j (flat encPc ((rankRow S (partsOf P) k pl).take j)) rfl _ rfl rfl hown rfl HON.out (by unfold maxLen; omega) (by omega) hszx ?_)
              intro v7 w7 hown7 hf7 hl7
              have HO7 : Hid (w7.ownsRow Z 41 5 v7 (j + 1) (flat encPc ((rankRow S (partsOf P) k pl).take (j + 1)))) := by rw [HRT.out, HPR.out]; exact hid hown7
              have HO8 := hid ((HOI.out.later HB4.out).kept hf7 (fun b hb h => HDJ.out b h hb))
              have HV8 := hid ((HVi.out.later HB4.out).fr hf7 (fun b hb => (hown.lt b hb).1) hf7.size)
              have HD8 := hid (show ∀ b, v7.ownBlock = some b → ¬ OGSet u7 vs b from fun b hb h => by
                rcases hl7 with e | e
                · exact HDJ.out b (by rw [← e]; exact hb) h
                · rw [e] at hb
                  injection hb with hb
                  have := (HOI.out.lt b h).2
                  have := HB4.out.size
                  omega)
              clear hown7 hf7 hl7 hown
              go_wp2_with fail
              go_roundw
              case rel => exact ⟨j + 1, by omega, by go_num, HO7, HO8, HV8, HD8⟩
              case measure => simp [intOf]; omega
            case pos =>
              have hpb : (S.policy == 1) = true := beq_iff_eq.2 hpo
              cases ti
              case true =>
                have HPR := hid (show (if S.policy = 1 ∧ true = false then 1 + ((aheadL k ⟨pc, pb, pd, pp, true⟩ (partsOf P) : Nat) : Int) else 0) = 0 from if_neg (fun h => by cases h.2))
                clear hpo
                have hown := HOW.out
                have hown := own_kept hown (fr0 HB4.out) (fun _ _ h => h)
                have hszx : Z ≤ w4.heap.size := Nat.le_trans HVi.out.sz HB4.out.size
                have HON := hid (encPc_one ⟨pc, pb, pd, 0, true⟩)
                unfold encPc at HON
                go_wp2_with (at_builtin; refine append_new rfl _ _ 31 rfl Z 41 i0 _ 5 40 Try.underlying31 hi hz0 hz1 hz2 rfl (by decide) #[.int .i64 pc, .int .i64 pb, .int .i64 pd, .int .i64 (0), .bool true] u9 j (flat encPc ((rankRow S (partsOf P) k pl).take j)) rfl _ rfl rfl hown rfl HON.out (by unfold maxLen; omega) (by omega) hszx ?_)
                intro v7 w7 hown7 hf7 hl7
                have HO7 : Hid (w7.ownsRow Z 41 5 v7 (j + 1) (flat encPc ((rankRow S (partsOf P) k pl).take (j + 1)))) := by rw [HRT.out, HPR.out]; exact hid hown7
                have HO8 := hid ((HOI.out.later HB4.out).kept hf7 (fun b hb h => HDJ.out b h hb))
                have HV8 := hid ((HVi.out.later HB4.out).fr hf7 (fun b hb => (hown.lt b hb).1) hf7.size)
                have HD8 := hid (show ∀ b, v7.ownBlock = some b → ¬ OGSet u7 vs b from fun b hb h => by
                  rcases hl7 with e | e
                  · exact HDJ.out b (by rw [← e]; exact hb) h
                  · rw [e] at hb
                    injection hb with hb
                    have := (HOI.out.lt b h).2
                    have := HB4.out.size
                    omega)
                clear hown7 hf7 hl7 hown
                go_wp2_with fail
                go_roundw
                case rel => exact ⟨j + 1, by omega, by go_num, HO7, HO8, HV8, HD8⟩
                case measure => simp [intOf]; omega
              case false =>
                obtain ⟨r, hr⟩ : ∃ r, aheadL k ⟨pc, pb, pd, 0, false⟩ (partsOf P) = r := ⟨_, rfl⟩
                have hr2 : r ≤ 192 := by
                  rw [← hr]
                  have : aheadL k ⟨pc, pb, pd, 0, false⟩ (partsOf P) ≤ (partsOf P).length := List.length_filter_le _ _
                  omega
                have HPR := hid (show (if S.policy = 1 ∧ false = false then 1 + ((aheadL k ⟨pc, pb, pd, pp, false⟩ (partsOf P) : Nat) : Int) else 0) = 1 + (r : Int) by rw [if_pos ⟨hpo, rfl⟩, aheadL_prio k pc pb pd pp 0 false false, hr])
                have HAC := hid (HAH.out w4 HV4.out.below pc pb pd)
                rw [hr] at HAC
                have hs0 : IntKind.i64.wrap (1 + (r : Int)) = 1 + (r : Int) := wraps_i64 _ (by omega) (by omega)
                clear hpo hr
                go_wp2_with fail
                refine HAC.out.mono ?_
                rintro e w5 ⟨rfl, hb5⟩
                have hD5 := (fr0 hb5).blk HD4.out (fun h => h)
                have t3 : w5.cell? ⟨D, 3, none⟩ = some (.int .i64 0) := blk_cell hD5 3
                have s3 : w5.frozen? ⟨D, 3, none⟩ = false := blk_free hD5 3
                have HD5 := hid hD5
                have HB5 := hid (below_then HB4.out hb5)
                clear g1 f0 f1 f2 f3 f4 hb5 hD5
                go_upto_region 16 with fail
                have HB6 := hid (show Below wr.heap.size wr (w5.setCell ⟨D, 3, none⟩ (.int .i64 (1 + (r : Int)))) from HB5.out.setCell (p := ⟨D, 3, none⟩) HDL.out _)
                have HD6 := hid (show (w5.setCell ⟨D, 3, none⟩ (.int .i64 (1 + (r : Int)))).heap[D]? = some (.cells #[.int .i64 pc, .int .i64 pb, .int .i64 pd, .int .i64 (1 + (r : Int)), .bool false] 41 (0, 0)) from by have := blk_set HD5.out 3 (.int .i64 (1 + (r : Int))); simpa using this)
                generalize w5.setCell ⟨D, 3, none⟩ (.int .i64 (1 + (r : Int))) = w6 at *
                have HV6 := hid (HVi.out.later HB6.out)
                have f0 : w6.cell? ⟨D, 0, none⟩ = some (.int .i64 pc) := blk_cell HD6.out 0
                have f1 : w6.cell? ⟨D, 1, none⟩ = some (.int .i64 pb) := blk_cell HD6.out 1
                have f2 : w6.cell? ⟨D, 2, none⟩ = some (.int .i64 pd) := blk_cell HD6.out 2
                have f3 : w6.cell? ⟨D, 3, none⟩ = some (.int .i64 (1 + (r : Int))) := blk_cell HD6.out 3
                have f4 : w6.cell? ⟨D, 4, none⟩ = some (.bool false) := blk_cell HD6.out 4
                clear t3 s3
                have hown := HOW.out
                have hown := own_kept hown (fr0 HB6.out) (fun _ _ h => h)
                have hszx : Z ≤ w6.heap.size := Nat.le_trans HVi.out.sz HB6.out.size
                have HON := hid (encPc_one ⟨pc, pb, pd, 1 + (r : Int), false⟩)
                unfold encPc at HON
                go_wp2_with (at_builtin; refine append_new rfl _ _ 31 rfl Z 41 i0 _ 5 40 Try.underlying31 hi hz0 hz1 hz2 rfl (by decide) #[.int .i64 pc, .int .i64 pb, .int .i64 pd, .int .i64 (1 + (r : Int)), .bool false] u9 j (flat encPc ((rankRow S (partsOf P) k pl).take j)) rfl _ rfl rfl hown rfl HON.out (by unfold maxLen; omega) (by omega) hszx ?_)
                intro v7 w7 hown7 hf7 hl7
                have HO7 : Hid (w7.ownsRow Z 41 5 v7 (j + 1) (flat encPc ((rankRow S (partsOf P) k pl).take (j + 1)))) := by rw [HRT.out, HPR.out]; exact hid hown7
                have HO8 := hid ((HOI.out.later HB6.out).kept hf7 (fun b hb h => HDJ.out b h hb))
                have HV8 := hid ((HVi.out.later HB6.out).fr hf7 (fun b hb => (hown.lt b hb).1) hf7.size)
                have HD8 := hid (show ∀ b, v7.ownBlock = some b → ¬ OGSet u7 vs b from fun b hb h => by
                  rcases hl7 with e | e
                  · exact HDJ.out b (by rw [← e]; exact hb) h
                  · rw [e] at hb
                    injection hb with hb
                    have := (HOI.out.lt b h).2
                    have := HB6.out.size
                    omega)
                clear hown7 hf7 hl7 hown
                go_wp2_with fail
                go_roundw
                case rel => exact ⟨j + 1, by omega, by go_num, HO7, HO8, HV8, HD8⟩
                case measure => simp [intOf]; omega
          case neg =>
            obtain rfl : j = m3 := by omega
            obtain ⟨A9, cap9, hv9⟩ := own_slice HOW.out
            subst hv9
            have HRK2 := hid (rank_take (S := S) HY.out)
            have hszx := HVi.out.sz
            have hlen3 : (rankRow S (partsOf P) k pl).length = j := by unfold rankRow; rw [List.length_map]; exact HM3.out.symm
            have HOW2 : Hid (wr.ownsRow Z 41 5 (.slice A9 j cap9) (rankRow S (partsOf P) k pl).length (flat encPc (rankRow S (partsOf P) k pl))) := by
              rw [hlen3]
              have h := HOW.out
              rw [List.take_of_length_le (by rw [hlen3]; exact Nat.le_refl _)] at h
              exact h
            have hown := HOI.out.out
            rw [hvl] at hown
            clear hlen3
            go_wp2_with (at_builtin; refine append_new rfl _ _ 25 rfl Z 31 i1 _ 1 24 Try.underlying25 hi' hy0 hy1 hy2 rfl (by decide) #[.slice A9 j cap9] u7 k vs rfl _ rfl rfl hown rfl (fun u hu => by simp at hu; subst hu; rfl) (by unfold maxLen; omega) (by omega) hszx ?_)
            intro v6 w6 hown6 hf6 hl6
            have HO6 := hid (HOI.out.snoc HOW2.out (fun b hb e => HDJ.out b hb (.inl e)) (by rw [hvl]; exact hown6) hf6 (hl6.imp id (fun h => ⟨_, h, Nat.le_succ _⟩)))
            have HV6 := hid (HVi.out.fr hf6 (fun b hb => (HOI.out.lt b (.inl hb)).1) hf6.size)
            clear hown6 hf6 hl6 hown
            go_wp2_with fail
            go_roundw
            case rel => exact ⟨k + 1, _, by omega, by go_num, by rw [HRK2.out]; exact HO6, HV6⟩
            case measure => simp [intOf]; omega
      case neg =>
        obtain rfl : k = n := by omega
        have HO2 : Hid (OG wr Z u7 vs (rankL S P)) := by
          have h := HOG.out
          rw [List.take_of_length_le (by unfold rankL; rw [List.length_mapIdx]; have := HN.out; omega)] at h
          exact h
        go_wp2_with fail
        go_ret2
        exact ⟨_, rfl, HO2.out.plan, HVr.out.below⟩
end
end Go.Proofs.Ytppildaahmlfmaa
/- A list of lists that a call has made, of whole numbers: the outer row and its rows, each the call's own. -/
set_option linter.unusedVariables false
set_option linter.unusedSimpArgs false
namespace Go.Proofs.Ytppildaahmlfmaa
open Go.RowKit

structure OI (w : World) (base : Nat) (u : Value) (vs : List Value) (Q : List (List Int)) : Prop where
  out : w.ownsRow base 27 1 u vs.length vs
  len : vs.length = Q.length
  rows : ∀ (i : Nat) v q, vs[i]? = some v → Q[i]? = some q → w.ownsRow base 3 1 v q.length (intCells q)
  apart : ∀ v ∈ vs, ∀ k, v.ownBlock = some k → u.ownBlock ≠ some k
def OISet (u : Value) (vs : List Value) (k : Nat) : Prop := u.ownBlock = some k ∨ ∃ v ∈ vs, v.ownBlock = some k
section
variable {w w' : World} {base : Nat} {u u' : Value} {vs : List Value} {Q : List (List Int)}
theorem OI.nil (w : World) (base : Nat) : OI w base (.slice none 0 0) [] [] := ⟨World.ownsRow_nil _ _ _ _, rfl, fun i v q h => by simp at h, fun v h => by simp at h⟩
theorem OI.row (h : OI w base u vs Q) {v : Value} (hv : v ∈ vs) : ∃ q, w.ownsRow base 3 1 v q.length (intCells q) := by
  obtain ⟨i, hi⟩ := List.mem_iff_getElem?.1 hv
  have hq : i < Q.length := by have := h.len; have := (List.getElem?_eq_some_iff.1 hi).1; omega
  exact ⟨Q[i], h.rows i _ _ hi (List.getElem?_eq_getElem hq)⟩
theorem OI.lt (h : OI w base u vs Q) : ∀ k, OISet u vs k → base ≤ k ∧ k < w.heap.size := by
  intro k hk
  rcases hk with hk | ⟨v, hv, hk⟩
  · exact h.out.lt k hk
  · obtain ⟨q, hq⟩ := h.row hv
    exact hq.lt k hk
theorem OI.kept {S : Nat → Prop} (h : OI w base u vs Q) (k : Fr S w w') (hn : ∀ j, OISet u vs j → ¬ S j) : OI w' base u vs Q :=
  ⟨own_kept h.out k (fun j hj => hn j (.inl hj)), h.len, fun i v q hv hq => own_kept (h.rows i v q hv hq) k (fun j hj => hn j (.inr ⟨v, List.mem_of_getElem? hv, hj⟩)), h.apart⟩
theorem OI.later (h : OI w base u vs Q) (k : Below w.heap.size w w') : OI w' base u vs Q := h.kept (fr0 k) (fun _ _ h => h)
/-- One more row. -/
theorem OI.snoc (h : OI w base u vs Q) {v : Value} {q : List Int} (hv : w.ownsRow base 3 1 v q.length (intCells q)) (hd : ∀ k, v.ownBlock = some k → u.ownBlock ≠ some k)
    (hown : w'.ownsRow base 27 1 u' (vs.length + 1) (vs ++ [v])) (hF : Fr (fun k => u.ownBlock = some k) w w') (hu : u'.ownBlock = u.ownBlock ∨ ∃ k, u'.ownBlock = some k ∧ w.heap.size ≤ k) : OI w' base u' (vs ++ [v]) (Q ++ [q]) := by
  have key : ∀ x ∈ vs ++ [v], ∃ q, w.ownsRow base 3 1 x q.length (intCells q) ∧ ∀ k, x.ownBlock = some k → u.ownBlock ≠ some k := by
    intro x hx
    rcases List.mem_append.1 hx with hx | hx
    · obtain ⟨q, hq⟩ := h.row hx
      exact ⟨q, hq, h.apart x hx⟩
    · simp at hx
      subst hx
      exact ⟨q, hv, hd⟩
  refine ⟨by rw [List.length_append]; exact hown, by simp [h.len], fun i x y hx hy => ?_, fun x hx k hk e => ?_⟩
  · by_cases hi : i < vs.length
    · rw [List.getElem?_append_left hi] at hx
      rw [List.getElem?_append_left (by have := h.len; omega)] at hy
      exact own_kept (h.rows i x y hx hy) hF (fun k hk e => h.apart x (List.mem_of_getElem? hx) k hk e)
    · have hi2 : i = vs.length := by have := (List.getElem?_eq_some_iff.1 hx).1; simp at this; omega
      subst hi2
      rw [List.getElem?_append_right (Nat.le_refl _)] at hx
      rw [List.getElem?_append_right (by have := h.len; omega)] at hy
      simp at hx
      rw [h.len] at hy
      simp at hy
      subst hx
      subst hy
      exact own_kept hv hF (fun k hk e => hd k hk e)
  · obtain ⟨q2, hq2, hap⟩ := key x hx
    rcases hu with hu | ⟨j, hu, hj⟩
    · exact hap k hk (by rw [← hu]; exact e)
    · rw [hu] at e
      injection e with e
      have := (hq2.lt k hk).2
      omega
theorem flat_fsti : ∀ (vs : List Value) (Q : List (List Int)), vs.length = Q.length → flat (fun x : Value × List Int => [x.1]) (vs.zip Q) = vs
  | [], _, _ => by simp [flat]
  | v :: vs, [], h => by simp at h
  | v :: vs, q :: Q, h => by
    have := flat_fsti vs Q (by simpa using h)
    simp [flat] at this ⊢
    exact this
/-- It is a plan. -/
theorem OI.plan (h : OI w base u vs Q) : Rowp 1 (RowR 1 IntR) w u Q := by
  have h1 : Rowp 1 (fun w cs (x : Value × List Int) => cs = [x.1] ∧ Rowp 1 IntR w x.1 x.2) w u (vs.zip Q) := by
    refine Rowp.of_own (base := base) (e := 27) (n := vs.length) (enc := fun x => [x.1]) (fun x => rfl) (by rw [flat_fsti vs Q h.len]; exact h.out) (by rw [List.length_zip, h.len]; simp) (by decide) (fun x hx => ⟨rfl, ?_⟩)
    obtain ⟨i, hi⟩ := List.mem_iff_getElem?.1 hx
    rw [List.getElem?_zip_eq_some] at hi
    exact Rowp.ints (h.rows i _ _ hi.1 hi.2) rfl
  have h2 := h1.mono (R' := RowR 1 IntR) (f := Prod.snd) (fun cs x _ hr => ⟨x.1, hr.1, hr.2⟩)
  rwa [List.map_snd_zip (by rw [h.len]; exact Nat.le_refl _)] at h2
end
/-! Ceilings, plain. -/
def upd (f : Nat → Int) (r : Nat) (p : Int) : Nat → Int := fun j => if j = r then (if f r = 0 ∨ p < f r then p else f r) else f j
def topF (L : List (Nat × Int)) : Nat → Int := L.foldl (fun f u => upd f u.1 u.2) (fun _ => 0)
theorem topF_snoc (L : List (Nat × Int)) (u : Nat × Int) : topF (L ++ [u]) = upd (topF L) u.1 u.2 := by unfold topF; rw [List.foldl_append]; rfl
def secsOf (S : Sy) (i : Nat) : List Sec := (S.tasks[i]?.map Tsk.secs).getD []
def prioOf (S : Sy) (P : Pl) (i : Nat) : Int := (((rankL S P)[i]?.getD []).head?.map Pc.prio).getD 0
def whereAt (P : Pl) (i : Nat) : Int := ((P.map whereOf)[i]?).getD (-1)
/-- What task i does to the ceilings of a core. -/
def upsT (S : Sy) (P : Pl) (c : Int) (i : Nat) : List (Nat × Int) := if whereAt P i = c then (secsOf S i).map (fun x => (x.res.toNat, max 1 (prioOf S P i))) else []
def upsN (S : Sy) (P : Pl) (c : Int) (k : Nat) : List (Nat × Int) := (List.range k).flatMap (upsT S P c)
theorem upsN_succ (S : Sy) (P : Pl) (c : Int) (k : Nat) : upsN S P c (k + 1) = upsN S P c k ++ upsT S P c k := by
  unfold upsN
  rw [List.range_succ, List.flatMap_append]
  simp
def ceilRow (S : Sy) (P : Pl) (c : Int) : List Int := (List.range S.resn.toNat).map (topF (upsN S P c P.length))
def ceilL (S : Sy) (P : Pl) : List (List Int) := (List.range S.cores.toNat).map fun c : Nat => ceilRow S P (c : Int)
/-- Within task i: k of its sections are done. -/
def upsK (S : Sy) (P : Pl) (c : Int) (i k : Nat) : List (Nat × Int) := upsN S P c i ++ (if whereAt P i = c then ((secsOf S i).take k).map (fun x => (x.res.toNat, max 1 (prioOf S P i))) else [])
theorem upsK_zero (S : Sy) (P : Pl) (c : Int) (i : Nat) : upsK S P c i 0 = upsN S P c i := by unfold upsK; simp
theorem upsK_all (S : Sy) (P : Pl) (c : Int) (i : Nat) : upsK S P c i (secsOf S i).length = upsN S P c (i + 1) := by
  unfold upsK
  rw [upsN_succ, List.take_length]
  rfl
theorem upsK_no {S : Sy} {P : Pl} {c : Int} {i : Nat} (h : whereAt P i ≠ c) (k : Nat) : upsK S P c i k = upsN S P c (i + 1) := by
  unfold upsK
  rw [upsN_succ, if_neg h]
  unfold upsT
  rw [if_neg h]
theorem upsK_succ {S : Sy} {P : Pl} {c : Int} {i k : Nat} {x : Sec} (h : whereAt P i = c) (hx : (secsOf S i)[k]? = some x) : upsK S P c i (k + 1) = upsK S P c i k ++ [(x.res.toNat, max 1 (prioOf S P i))] := by
  unfold upsK
  rw [if_pos h, if_pos h, take_next hx, List.map_append, List.append_assoc]
  rfl
end Go.Proofs.Ytppildaahmlfmaa
/- Package tourbillonref17: Ceilings (contract). -/
set_option linter.unusedVariables false
set_option linter.unusedSimpArgs false
namespace Go.Proofs.Ytppildaahmlfmaa
open Go.RowKit

theorem Try.info_ints : (Try.prog.info? 27).map (fun i => (i.zero, i.size, i.bytes)) = some (some (.slice none 0 0), 1, 24) := by kernel_rfl
/-- A core's row while it is made: nothing else is written. -/
structure CEW (w8 wr : World) (X rn : Nat) (f : Nat → Int) : Prop where
  below : Below w8.heap.size w8 wr
  t : Tally wr X rn f
  hx : w8.heap.size ≤ X
theorem CEW.set {w8 wr : World} {X rn : Nat} {f f' : Nat → Int} (H : CEW w8 wr X rn f) {j : Nat} (hj : j < rn) (v : Int) (hf : ∀ i, i < rn → f' i = if i = j then v else f i) : CEW w8 (wr.setCell ⟨X, j, none⟩ (.int .i64 v)) X rn f' :=
  ⟨H.below.setCell (p := ⟨X, j, none⟩) H.hx _, H.t.set hj v hf, H.hx⟩
theorem CEW.congr {w8 wr : World} {X rn : Nat} {f f' : Nat → Int} (H : CEW w8 wr X rn f) (hf : ∀ i, i < rn → f' i = f i) : CEW w8 wr X rn f' := ⟨H.below, H.t.congr hf, H.hx⟩
/-- It is a row of the call's own. -/
theorem Tally.own {w : World} {g n base : Nat} {f : Nat → Int} (h : Tally w g n f) (hb : base ≤ g) (hn : n ≤ maxLen) : w.ownsRow base 3 1 (.slice (some ⟨g, 0, none⟩) n n) n (intCells ((List.range n).map f)) := by
  obtain ⟨C, h1, h2, h3⟩ := h.ex
  have e : C.toList = intCells ((List.range n).map f) := by
    apply List.ext_getElem?
    intro i
    by_cases hi : i < n
    · have := h3 i hi
      simp only [intCells, List.getElem?_map, List.getElem?_range hi]
      simpa using this
    · rw [List.getElem?_eq_none (by simpa [h2] using hi), List.getElem?_eq_none (by simpa [intCells] using hi)]
  refine ⟨by simp [intCells], .inr ⟨g, n, C, rfl, hb, h1, Nat.le_refl _, hn, by simpa using h2, ?_⟩⟩
  rw [← e, List.take_of_length_le (by simp [h2])]
section
variable {w : World}
set_option maxRecDepth 100000 in
set_option maxHeartbeats 6400000 in
theorem rceil_any (S : Sy) (A0 : Option Addr) (n0 c0 : Nat) (A : Option Addr) (n cap : Nat) (P : Pl) (hs : IsSys w (.slice A0 n0 c0) S) (hp : IsPlan w (.slice A n cap) P) :
    Calls Try.prog 19 #[sysV S (.slice A0 n0 c0), .slice A n cap] w fun e w' => ∃ u, e = .returned (.tuple #[u, .bool (planB S P)]) ∧ Rowp 1 (RowR 1 IntR) w' u (if planB S P = true then ceilL S P else []) ∧ Below w.heap.size w w' := by
  have hn := hp.rows.len
  have hn0 := hs.tasks.len
  have HS := hid hs
  have HP := hid hp
  have HN := hid hn
  have HN0 := hid hn0
  have hnm : n ≤ 9223372036854775807 := by have := hp.rows.room; unfold maxLen at this; omega
  have hn0m : n0 ≤ 9223372036854775807 := by have := hs.tasks.room; unfold maxLen at this; omega
  have HVR := hid (fun W (h : Below w.heap.size w W) => rrank_any (w := W) S A0 n0 c0 A n cap P (hs.later h) (hp.later h))
  obtain ⟨CS, hCS⟩ : ∃ C, C = sysC S (.slice A0 n0 c0) := ⟨_, rfl⟩
  have HCS := hid hCS
  obtain ⟨rb, hrb⟩ : ∃ r, planB S P = r := ⟨_, rfl⟩
  have HRB := hid hrb
  rw [hrb] at HVR ⊢
  obtain ⟨i0, hi, hz0, hz1, hz2⟩ := info_parts Try.info_ints
  unfold sysV at *
  have hok : rb = true → PlanOk S P := fun e => planB_ok (hrb.trans e)
  have HOK := hid hok
  clear hs hp hn hn0 hCS hrb hok
  go_enter Try.func19, Try.ntmps19
  go_wp2_with fail
  refine (HVR.out _ (below_new (Below.refl _ _) _)).mono ?_
  rintro e w1 ⟨ur, rfl, hrk, hb1⟩
  have q0 : w1.heap[w.heap.size]? = some (.cells (sysC S (.slice A0 n0 c0)) 24 (0, 0)) := (fr0 hb1).blk (blk_new w _) (fun h => h)
  have hbw := below_then (below_new (Below.refl _ _) _) hb1
  rw [← HCS.out] at q0
  have HQ0 := hid q0
  have HBW := hid hbw
  have HBL := hid (blk_lt q0)
  obtain ⟨B, hB⟩ : ∃ B, w.heap.size = B := ⟨_, rfl⟩
  rw [hB] at HQ0 HBL ⊢
  have HB := hid hB
  clear q0 hbw hb1 hB
  cases rb
  case false =>
    have HRK := hid hrk
    clear hrk
    go_wp2_with fail
    go_ret2
    exact ⟨_, rfl, Rowp.nil _ _ _, HBW.out⟩
  case true =>
    have HO := hid (HOK.out rfl)
    rw [if_pos rfl] at hrk
    obtain ⟨Ar, cr, hur, _⟩ := hrk.shape
    have hrl : (rankL S P).length = n := by unfold rankL; rw [List.length_mapIdx, HN.out]
    rw [hrl] at hur
    subst hur
    have hnn : n = n0 := by have := HO.out.len; have := HN.out; have := HN0.out; omega
    subst hnn
    have hn24 : n ≤ 24 := by have := HO.out.sys.len; have := HN0.out; omega
    have HRK := hid hrk
    have HWH := hid (fun W (h : Below w1.heap.size w1 W) => where_any (w := W) P A n cap (HP.out.later (below_then HBW.out h)) (by omega))
    obtain ⟨nc, hnc⟩ : ∃ nc : Nat, S.cores = nc := ⟨S.cores.toNat, by have := HO.out.sys.cores; omega⟩
    obtain ⟨rn, hrn⟩ : ∃ rn : Nat, S.resn = rn := ⟨S.resn.toNat, by have := HO.out.sys.resn; omega⟩
    have hnc8 : nc ≤ 8 := by have := HO.out.sys.cores; omega
    have hrn8 : rn ≤ 8 := by have := HO.out.sys.resn; omega
    have HNC := hid hnc
    have HRN := hid hrn
    obtain ⟨C0, hC0⟩ : ∃ C, C = (List.replicate rn (.int .i64 0) : List Value).toArray := ⟨_, rfl⟩
    have hmake : ∀ w, (Instr.makeSlice 27 (.int .i64 S.resn) (.int .i64 S.resn)).run Try.prog w = .ok (.slice (some ⟨w.heap.size, 0, none⟩) rn rn) (w.alloc (.cells C0 3)) := fun w => by rw [hrn, hC0]; exact make_ints rn (by omega) w
    have HMK := hid hmake
    have HC0 := hid hC0
    clear hC0 hnc hrn hrk hrl hmake
    go_wp2_with fail
    refine (HWH.out _ (Below.refl _ _)).mono ?_
    rintro e w2 ⟨uw, rfl, hwo, hb2⟩
    obtain ⟨Aw, cw, huw⟩ := own_slice hwo
    subst huw
    have HWI := hid (Rowp.ints hwo (by rw [List.length_map]; exact HN.out))
    have HB2 := hid hb2
    have HBW2 := hid (below_then HBW.out hb2)
    have HQ2 := hid ((fr0 hb2).blk HQ0.out (fun h => h))
    have HRK2 := hid (HRK.out.later (RowR.stays pcR.stays) hb2)
    have HSZ := hid hb2.size
    clear hwo hb2 HRK HQ0 HWH
    obtain ⟨Z, hZ⟩ : ∃ Z, w2.heap.size = Z := ⟨_, rfl⟩
    have HZ := hid hZ
    clear hZ
    go_wp2_with fail
    go_loopw [9, 10] (fun u v wr => ∃ (c : Nat) (vs : List Value), c ≤ nc ∧ v = .int .i64 c ∧ Hid (OI wr Z u vs ((ceilL S P).take c)) ∧ Hid (Below w2.heap.size w2 wr)) (fun _ v _ => nc - (intOf v).toNat)
    case atStart => exact ⟨0, [], by omega, rfl, hid (OI.nil _ _), hid (Below.refl _ _)⟩
    case round =>
      obtain ⟨c, vs, hc, rfl, HOI, HBR⟩ := hrel
      have hq := (fr0 HBR.out).blk HQ2.out (fun h => h)
      have s0 : wr.cell? ⟨B, 0, none⟩ = some (.int .i64 S.cores) := by rw [blk_cell hq 0, HCS.out]; rfl
      have s7 : wr.cell? ⟨B, 7, none⟩ = some (.int .i64 S.resn) := by rw [blk_cell hq 7, HCS.out]; rfl
      have HQR := hid hq
      clear hq
      by_cases hcn : c < nc
      case pos =>
        have hcd : decide ((c : Int) < S.cores) = true := decide_eq_true (by have := HNC.out; omega)
        have hmake := HMK.out
        obtain ⟨w8, hw8⟩ : ∃ w8, w8 = wr := ⟨_, rfl⟩
        subst hw8
        go_upto_region 10 with fail
        clear hmake s0 s7
        have hZt : Tally (w8.alloc (.cells C0 3)) w8.heap.size rn (fun _ => 0) := ⟨⟨C0, blk_new _ _, by rw [HC0.out]; simp, fun j hj => by rw [HC0.out]; simp [hj]⟩⟩
        have HCE0 := hid (show CEW w8 (w8.alloc (.cells C0 3)) w8.heap.size rn (topF (upsN S P c 0)) from ⟨below_new (Below.refl _ _) _, hZt, Nat.le_refl _⟩)
        clear hZt
        obtain ⟨X, hX⟩ : ∃ X, X = w8.heap.size := ⟨_, rfl⟩
        rw [← hX] at HCE0 ⊢
        have HX := hid hX
        clear hX
        generalize w8.alloc (.cells C0 3) = w9 at HCE0 ⊢
        have HBWR := hid (below_then HBW2.out HBR.out)
        go_wp2_with fail
        clear hcd
        go_loopw [12] (fun v wr => ∃ i : Nat, i ≤ n ∧ v = .int .i64 i ∧ Hid (CEW w8 wr X rn (topF (upsN S P c i)))) (fun v _ => n - (intOf v).toNat)
        case atStart => exact ⟨0, by omega, rfl, HCE0⟩
        case round =>
          obtain ⟨i, hin, rfl, HCI⟩ := hrel
          by_cases hil : i < n
          case pos =>
            obtain ⟨t, ht⟩ : ∃ t, S.tasks[i]? = some t := ⟨_, List.getElem?_eq_getElem (by have := HN0.out; omega)⟩
            obtain ⟨pl, hpl⟩ : ∃ pl, P[i]? = some pl := ⟨_, List.getElem?_eq_getElem (by have := HN.out; omega)⟩
            obtain ⟨b, o, cs, hA, hbl, _, hcs, us, hu1, hu2⟩ := HS.out.tasks.at ht
            subst hA
            subst hu1
            obtain ⟨A1, c1, hu3, _⟩ := hu2.shape
            obtain ⟨m1, hm1⟩ : ∃ m, m = t.secs.length := ⟨_, rfl⟩
            rw [← hm1] at hu3
            subst hu3
            have hso : secsOf S i = t.secs := by unfold secsOf; rw [ht]; rfl
            have hm4 : m1 ≤ 4 := by rw [hm1]; exact (HO.out.sys.tasks t (List.mem_of_getElem? ht)).n
            have HTO := hid (HO.out.sys.tasks t (List.mem_of_getElem? ht))
            have hwm : (P.map whereOf)[i]? = some (whereOf pl) := by rw [List.getElem?_map, hpl]; rfl
            obtain ⟨b5, o5, cs5, hA5, hbl5, _, hcs5, hr5⟩ := HWI.out.at hwm
            subst hA5
            have hr5' : cs5 = [.int .i64 (whereOf pl)] := hr5
            subst hr5'
            have hwa : whereAt P i = whereOf pl := by unfold whereAt; rw [hwm]; rfl
            have hrm : (rankL S P)[i]? = some (rankRow S (partsOf P) i pl) := by unfold rankL; rw [List.getElem?_mapIdx, hpl]; rfl
            obtain ⟨b6, o6, cs6, hA6, hbl6, _, hcs6, ul6, hv61, hv62⟩ := HRK2.out.at hrm
            subst hA6
            subst hv61
            obtain ⟨A7, c7, hv7, _⟩ := hv62.shape
            obtain ⟨m7, hm7⟩ : ∃ m, m = pl.length := ⟨_, rfl⟩
            rw [show (rankRow S (partsOf P) i pl).length = m7 by unfold rankRow; rw [List.length_map, hm7]] at hv7
            subst hv7
            have HRM := hid hrm
            have HV62 := hid hv62
            have HU2 := hid hu2
            have HM1 := hid hm1
            have HM7 := hid hm7
            have HSO := hid hso
            have HWA := hid hwa
            obtain ⟨wv, hwv⟩ : ∃ x, whereOf pl = x := ⟨_, rfl⟩
            have HWV := hid hwv
            rw [hwv] at hcs5 HWA
            have HF3 := hid (show ∀ W, Below w8.heap.size w8 W → W.cell? ⟨b, o + i * 4 + 3, none⟩ = some (.slice A1 m1 c1) ∧ W.cell? ⟨b5, o5 + i, none⟩ = some (.int .i64 wv) ∧ W.cell? ⟨b6, o6 + i, none⟩ = some (.slice A7 m7 c7) ∧ W.cell? ⟨B, 8, none⟩ = some (.slice (some ⟨b, o, none⟩) n c0) from fun W h => by
              have h0 := below_then HBWR.out h
              have h2 := below_then HBR.out h
              refine ⟨(h0.cell (p := ⟨b, o + i * 4 + 3, none⟩) hbl).trans (hcs 3 _ rfl), (h2.cell (p := ⟨b5, o5 + i, none⟩) hbl5).trans (by simpa using hcs5 0 _ rfl), (h2.cell (p := ⟨b6, o6 + i, none⟩) hbl6).trans (by simpa using hcs6 0 _ rfl), ?_⟩
              rw [blk_cell ((fr0 h).blk HQR.out (fun h => h)) 8, HCS.out]
              rfl)
            clear ht hpl hbl hcs hu2 hm1 hso hwm hbl5 hcs5 hr5 hwa hrm hbl6 hcs6 hv62 hm7 hwv
            go_wp2_with fail
            go_loopw [13] (fun v wr => ∃ k : Nat, k ≤ m1 ∧ v = .int .i64 k ∧ Hid (CEW w8 wr X rn (topF (upsK S P c i k)))) (fun v _ => m1 - (intOf v).toNat)
            case atStart => exact ⟨0, by omega, rfl, by rw [upsK_zero]; exact HCI⟩
            case round =>
              obtain ⟨k, hk, rfl, HCK⟩ := hrel
              obtain ⟨f0, f1, f2, f3⟩ := HF3.out wr HCK.out.below
              by_cases hkm : k < m1
              case neg =>
                obtain rfl : k = m1 := by omega
                have HCN : Hid (CEW w8 wr X rn (topF (upsN S P c (i + 1)))) := by
                  have h := upsK_all S P (c : Int) i
                  rw [HSO.out, ← HM1.out] at h
                  rw [← h]
                  exact HCK
                go_wp2_with fail
                go_roundw
                case rel => exact ⟨i + 1, by omega, by go_num, HCN⟩
                case measure => simp [intOf]; omega
              case pos =>
                by_cases hwc : wv = c
                case neg =>
                  have hwb : (wv == (c : Int)) = false := beq_eq_false_iff_ne.2 hwc
                  have HCN : Hid (CEW w8 wr X rn (topF (upsN S P c (i + 1)))) := by
                    rw [← upsK_no (by rw [HWA.out]; exact hwc) k]
                    exact HCK
                  clear hwc
                  go_wp2_with fail
                  go_roundw
                  case rel => exact ⟨i + 1, by omega, by go_num, HCN⟩
                  case measure => simp [intOf]; omega
                case pos =>
                  have hwb : (wv == (c : Int)) = true := beq_iff_eq.2 hwc
                  have hm71 : m7 = 1 := by
                    by_cases e : pl.length = 1
                    · rw [HM7.out, e]
                    · have := whereOf_no e
                      rw [HWV.out, hwc] at this
                      omega
                  have h07 : 0 < m7 := by omega
                  obtain ⟨p, hp⟩ : ∃ p, (rankRow S (partsOf P) i pl)[0]? = some p := ⟨_, List.getElem?_eq_getElem (by unfold rankRow; rw [List.length_map, ← HM7.out]; omega)⟩
                  obtain ⟨b7, o7, cs7, hA7, hbl7, _, hcs7, hr7⟩ := HV62.out.at hp
                  subst hA7
                  have hr7' : cs7 = [.int .i64 p.core, .int .i64 p.bud, .int .i64 p.dl, .int .i64 p.prio, .bool p.tight] := hr7
                  subst hr7'
                  have hpr : prioOf S P i = p.prio := by
                    unfold prioOf
                    rw [HRM.out]
                    show (((rankRow S (partsOf P) i pl).head?.map Pc.prio).getD 0) = _
                    rw [List.head?_eq_getElem?, hp]
                    rfl
                  obtain ⟨pr, hprr⟩ : ∃ x, p.prio = x := ⟨_, rfl⟩
                  rw [hprr] at hpr hcs7
                  have g3 : wr.cell? ⟨b7, o7 + 3, none⟩ = some (.int .i64 pr) := ((below_then HBR.out HCK.out.below).cell (p := ⟨b7, o7 + 3, none⟩) hbl7).trans (by simpa using hcs7 3 _ rfl)
                  obtain ⟨x, hx⟩ : ∃ x, t.secs[k]? = some x := ⟨_, List.getElem?_eq_getElem (by have := HM1.out; omega)⟩
                  obtain ⟨b8, o8, cs8, hA8, hbl8, _, hcs8, hr8⟩ := HU2.out.at hx
                  subst hA8
                  have hr8' : cs8 = [.int .i64 x.at_, .int .i64 x.res, .int .i64 x.len] := hr8
                  subst hr8'
                  have hxo := HTO.out.s x (List.mem_of_getElem? hx)
                  obtain ⟨jr, hjr⟩ : ∃ j : Nat, x.res = j := ⟨x.res.toNat, by have := hxo.r0; omega⟩
                  have hjn : jr < rn := by have := hxo.r1; have := HRN.out; omega
                  rw [hjr] at hcs8
                  have g1 : wr.cell? ⟨b8, o8 + k * 3 + 1, none⟩ = some (.int .i64 jr) := ((below_then HBWR.out HCK.out.below).cell (p := ⟨b8, o8 + k * 3 + 1, none⟩) hbl8).trans (hcs8 1 _ rfl)
                  have HUS := hid (show topF (upsK S P c i (k + 1)) = upd (topF (upsK S P c i k)) jr (max 1 pr) by
                    rw [upsK_succ (by rw [HWA.out]; exact hwc) (by rw [HSO.out]; exact hx), topF_snoc, hpr, hjr]
                    rfl)
                  obtain ⟨tv, htv⟩ : ∃ y, topF (upsK S P c i k) jr = y := ⟨_, rfl⟩
                  have x0 : wr.cell? ⟨X, jr, none⟩ = some (.int .i64 tv) := by rw [HCK.out.t.cell hjn, htv]
                  have x1 : wr.frozen? ⟨X, jr, none⟩ = false := HCK.out.t.free jr
                  have HTV := hid htv
                  obtain ⟨pm, hpm⟩ : ∃ y, max 1 pr = y := ⟨_, rfl⟩
                  rw [hpm] at HUS
                  have HPM := hid hpm
                  clear hp hbl7 hcs7 hr7 hx hbl8 hcs8 hr8 hxo hjr hpr hprr htv hwc hm71
                  go_upto_region 18 with fail
                  have hpe : (if 1 < pr then pr else 1) = pm := by rw [← HPM.out]; split <;> omega
                  rw [hpe]
                  clear hpe hpm
                  by_cases hz : tv = 0
                  case pos =>
                    have hzb : (tv == 0) = true := beq_iff_eq.2 hz
                    have HC4 := hid (show CEW w8 (wr.setCell ⟨X, jr, none⟩ (.int .i64 pm)) X rn (topF (upsK S P c i (k + 1))) from HCK.out.set hjn pm (fun a ha => by
                      rw [HUS.out]
                      unfold upd
                      by_cases e : a = jr
                      · rw [if_pos e, if_pos e, HTV.out, if_pos (.inl hz)]
                      · rw [if_neg e, if_neg e]))
                    clear hz
                    go_wp2_with fail
                    go_roundw
                    case rel => exact ⟨k + 1, by omega, by go_num, HC4⟩
                    case measure => simp [intOf]; omega
                  case neg =>
                    have hzb : (tv == 0) = false := beq_eq_false_iff_ne.2 hz
                    by_cases hl : pm < tv
                    case pos =>
                      have hlb : decide (pm < tv) = true := decide_eq_true hl
                      have HC4 := hid (show CEW w8 (wr.setCell ⟨X, jr, none⟩ (.int .i64 pm)) X rn (topF (upsK S P c i (k + 1))) from HCK.out.set hjn pm (fun a ha => by
                        rw [HUS.out]
                        unfold upd
                        by_cases e : a = jr
                        · rw [if_pos e, if_pos e, HTV.out, if_pos (.inr hl)]
                        · rw [if_neg e, if_neg e]))
                      clear hz
                      go_wp2_with fail
                      go_roundw
                      case rel => exact ⟨k + 1, by omega, by go_num, HC4⟩
                      case measure => simp [intOf]; omega
                    case neg =>
                      have hlb : decide (pm < tv) = false := decide_eq_false hl
                      have HC4 := hid (show CEW w8 wr X rn (topF (upsK S P c i (k + 1))) from HCK.out.congr (fun a ha => by
                        rw [HUS.out]
                        unfold upd
                        by_cases e : a = jr
                        · rw [if_pos e, HTV.out, if_neg (fun h => by rcases h with h | h; exact hz h; exact hl h), e, HTV.out]
                        · rw [if_neg e]))
                      clear hz
                      go_wp2_with fail
                      go_roundw
                      case rel => exact ⟨k + 1, by omega, by go_num, HC4⟩
                      case measure => simp [intOf]; omega
          case neg =>
            obtain rfl : i = n := by omega
            have hXZ : Z ≤ X := by have := HX.out; have := HZ.out; have := HBR.out.size; omega
            have hROW := HCI.out.t.own hXZ (by unfold maxLen; omega)
            have HROW : Hid (wr.ownsRow Z 3 1 (.slice (some ⟨X, 0, none⟩) rn rn) (ceilRow S P c).length (intCells (ceilRow S P c))) := by
              have e : ceilRow S P c = (List.range rn).map (topF (upsN S P c i)) := by
                unfold ceilRow
                rw [HN.out, HRN.out]
                rfl
              rw [e, List.length_map, List.length_range]
              exact hROW
            have HCT := hid (show (ceilL S P).take (c + 1) = (ceilL S P).take c ++ [ceilRow S P c] from take_next (by
              unfold ceilL
              rw [List.getElem?_map, List.getElem?_range (by rw [HNC.out]; simpa using hcn)]
              rfl))
            have HOL := hid (HOI.out.later HCI.out.below)
            have hvl : vs.length = c := by
              have h1 := HOI.out.len
              rw [List.length_take] at h1
              have h2 : (ceilL S P).length = nc := by unfold ceilL; rw [List.length_map, List.length_range, HNC.out]; simp
              omega
            have hown := HOL.out.out
            rw [hvl] at hown
            have hszx : Z ≤ wr.heap.size := by have := HCI.out.below.size; have := HBR.out.size; have := HZ.out; omega
            clear hROW
            go_wp2_with (at_builtin; refine append_new rfl _ _ 46 rfl Z 27 i0 _ 1 24 Try.underlying46 hi hz0 hz1 hz2 rfl (by decide) #[.slice (some ⟨X, 0, none⟩) rn rn] u9 c vs rfl _ rfl rfl hown rfl (fun u hu => by simp at hu; subst hu; rfl) (by unfold maxLen; omega) (by omega) hszx ?_)
            intro v6 w6 hown6 hf6 hl6
            have HO6 := hid (HOL.out.snoc HROW.out (fun b hb e => by
              have h1 := (HOI.out.lt b (.inl e)).2
              simp [Value.ownBlock] at hb
              have := HX.out
              omega) (by rw [hvl]; exact hown6) hf6 (hl6.imp id (fun h => ⟨_, h, Nat.le_succ _⟩)))
            have HB6 := hid (show Below w2.heap.size w2 w6 from ((Fr.of_below (S := NoB) (below_then HBR.out HCI.out.below)).trans hf6 (fun b hb => .inr (by have := (HOL.out.lt b (.inl hb)).1; have := HZ.out; omega))).no)
            clear hown6 hf6 hl6 hown
            go_wp2_with fail
            go_roundw
            case rel => exact ⟨c + 1, _, by omega, by go_num, by rw [HCT.out]; exact HO6, HB6⟩
            case measure => simp [intOf]; omega
      case neg =>
        obtain rfl : c = nc := by omega
        have hcd : decide ((c : Int) < S.cores) = false := decide_eq_false (by have := HNC.out; omega)
        have HO2 : Hid (OI wr Z u9 vs (ceilL S P)) := by
          have h := HOI.out
          rw [List.take_of_length_le (by unfold ceilL; rw [List.length_map, List.length_range, HNC.out]; simp)] at h
          exact h
        go_wp2_with fail
        go_ret2
        exact ⟨_, rfl, HO2.out.plan, below_then HBW2.out HBR.out⟩
end
end Go.Proofs.Ytppildaahmlfmaa
