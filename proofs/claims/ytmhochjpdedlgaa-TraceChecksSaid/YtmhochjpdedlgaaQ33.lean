/- Joined: Where. -/
import Derived.Test.YtmhochjpdedlgaaQ13
set_option linter.unusedVariables false
set_option linter.unusedSimpArgs false
/- Package tourbillonref17: where (contract). -/
set_option linter.unusedVariables false
set_option linter.unusedSimpArgs false
namespace Go.Proofs.Ytmhochjpdedlgaa
open Go.RowKit

/-- A whole task's core, else -1. -/
def whereOf : List Pc → Int
  | [p] => if p.tight = true then -1 else p.core
  | _ => -1
theorem whereOf_one {l : List Pc} {p : Pc} (h1 : l.length = 1) (hp : l[0]? = some p) : whereOf l = if p.tight = true then -1 else p.core := by
  match l, h1, hp with
  | [q], _, hp => simp at hp; subst hp; rfl
theorem whereOf_no {l : List Pc} (h : l.length ≠ 1) : whereOf l = -1 := by
  match l, h with
  | [], _ => rfl
  | [q], h => simp at h
  | p :: q :: l, _ => rfl
section
variable {w : World}
set_option maxRecDepth 100000 in
set_option maxHeartbeats 6400000 in
theorem where_any (P : Pl) (A : Option Addr) (n cap : Nat) (hI : IsPlan w (.slice A n cap) P) (hn24 : n < 1000000) :
    Calls Try.prog 69 #[.slice A n cap] w fun e w' => ∃ u, e = .returned u ∧ w'.ownsRow w.heap.size 3 1 u n (intCells (P.map whereOf)) ∧ Below w.heap.size w w' := by
  have hn := hI.rows.len
  have HI := hid hI
  have HN := hid hn
  obtain ⟨i0, hi, hz0, hz1, hz2⟩ := info_parts Try.info_int
  clear hI hn
  go_enter Try.func69, Try.ntmps69
  go_wp2_with fail
  go_loopw [3, 4] (fun u i wr => ∃ k : Nat, k ≤ n ∧ i = .int .i64 k ∧ wr.ownsRow w.heap.size 3 1 u k (intCells ((P.map whereOf).take k)) ∧ Below w.heap.size w wr) (fun _ i _ => n - (intOf i).toNat)
  case atStart => exact ⟨0, by omega, rfl, World.ownsRow_nil _ _ _ _, Below.refl _ _⟩
  case round =>
    obtain ⟨k, hk, rfl, hown, hb⟩ := hrel
    have HB := hid hb
    have HO := hid hown
    have hszx := hb.size
    by_cases hlt : k < n
    case pos =>
      obtain ⟨pl, hpl⟩ : ∃ pl, P[k]? = some pl := ⟨_, List.getElem?_eq_getElem (by have := HN.out; omega)⟩
      obtain ⟨b2, o2, cs2, hA2, hbl2, _, hc2, ul, hv1, hv2⟩ := HI.out.rows.at hpl
      subst hA2
      subst hv1
      obtain ⟨A3, c3, hv3, hv4⟩ := hv2.shape
      obtain ⟨m3, hm3⟩ : ∃ m, m = pl.length := ⟨_, rfl⟩
      rw [← hm3] at hv3 hv4
      subst hv3
      have hp2 : (P.map whereOf)[k]? = some (whereOf pl) := by rw [List.getElem?_map, hpl]; rfl
      have HIT := hid (int_take hp2)
      have HM3 := hid hm3
      have HV2 := hid hv2
      have d0 : wr.cell? ⟨b2, o2 + k, none⟩ = some (.slice A3 m3 c3) := (hb.cell (p := ⟨b2, o2 + k, none⟩) hbl2).trans (by simpa using hc2 0 _ rfl)
      clear hpl hm3 hv2 hv4 hc2 hbl2 hp2
      by_cases h1 : m3 = 1
      case pos =>
        have hb1 : ((m3 : Int) == 1) = true := by rw [h1]; rfl
        have h0 : 0 < m3 := by omega
        obtain ⟨p, hp⟩ : ∃ p, pl[0]? = some p := ⟨_, List.getElem?_eq_getElem (by have := HM3.out; omega)⟩
        obtain ⟨b4, o4, cs4, hA4, hbl4, _, hc4, hr4⟩ := HV2.out.at hp
        subst hA4
        have hr4' : cs4 = [.int .i64 p.core, .int .i64 p.bud, .int .i64 p.dl, .int .i64 p.prio, .bool p.tight] := hr4
        subst hr4'
        have HWH := hid (whereOf_one (by rw [← HM3.out]; exact h1) hp)
        obtain ⟨pc, pb, pd, pp, ti⟩ := p
        simp only at hc4 HWH
        have e0 : wr.cell? ⟨b4, o4, none⟩ = some (.int .i64 pc) := (hb.cell (p := ⟨b4, o4, none⟩) hbl4).trans (by simpa using hc4 0 _ rfl)
        have e4 : wr.cell? ⟨b4, o4 + 4, none⟩ = some (.bool ti) := (hb.cell (p := ⟨b4, o4 + 4, none⟩) hbl4).trans (by simpa using hc4 4 _ rfl)
        clear hp hbl4 hc4 hr4 h1 hb
        cases ti
        case true =>
          have HV := hid (show whereOf pl = -1 by rw [HWH.out]; rfl)
          go_wp2_with (at_builtin; refine append_new rfl _ _ 39 rfl w.heap.size 3 i0 _ 1 8 Try.underlying39 hi hz0 hz1 hz2 rfl (by decide) #[.int .i64 (-1)] u3 k (intCells ((P.map whereOf).take k)) rfl _ rfl rfl hown rfl (one_one _) (by unfold maxLen; omega) (by omega) hszx ?_)
          intro v6 w6 hown6 hf6 hl6
          have HO6 : Hid (w6.ownsRow w.heap.size 3 1 v6 (k + 1) (intCells ((P.map whereOf).take (k + 1)))) := by rw [HIT.out, HV.out]; exact hid hown6
          have HB6 : Hid (Below w.heap.size w w6) := hid ((Fr.of_below (S := NoB) HB.out).trans hf6 (fun b hb => .inr (own_ge HO.out b hb))).no
          clear hown6 hf6 hl6 hown
          go_wp2_with fail
          go_roundw
          case rel => exact ⟨k + 1, by omega, by go_num, HO6.out, HB6.out⟩
          case measure => simp [intOf]; omega
        case false =>
          have HV := hid (show whereOf pl = pc by rw [HWH.out]; rfl)
          go_wp2_with (at_builtin; refine append_new rfl _ _ 39 rfl w.heap.size 3 i0 _ 1 8 Try.underlying39 hi hz0 hz1 hz2 rfl (by decide) #[.int .i64 (pc)] u3 k (intCells ((P.map whereOf).take k)) rfl _ rfl rfl hown rfl (one_one _) (by unfold maxLen; omega) (by omega) hszx ?_)
          intro v6 w6 hown6 hf6 hl6
          have HO6 : Hid (w6.ownsRow w.heap.size 3 1 v6 (k + 1) (intCells ((P.map whereOf).take (k + 1)))) := by rw [HIT.out, HV.out]; exact hid hown6
          have HB6 : Hid (Below w.heap.size w w6) := hid ((Fr.of_below (S := NoB) HB.out).trans hf6 (fun b hb => .inr (own_ge HO.out b hb))).no
          clear hown6 hf6 hl6 hown
          go_wp2_with fail
          go_roundw
          case rel => exact ⟨k + 1, by omega, by go_num, HO6.out, HB6.out⟩
          case measure => simp [intOf]; omega
      case neg =>
        have hb1 : ((m3 : Int) == 1) = false := beq_eq_false_iff_ne.2 (by omega)
        have HV := hid (show whereOf pl = -1 from whereOf_no (by rw [← HM3.out]; exact h1))
        clear h1 hb
        go_wp2_with (at_builtin; refine append_new rfl _ _ 39 rfl w.heap.size 3 i0 _ 1 8 Try.underlying39 hi hz0 hz1 hz2 rfl (by decide) #[.int .i64 (-1)] u3 k (intCells ((P.map whereOf).take k)) rfl _ rfl rfl hown rfl (one_one _) (by unfold maxLen; omega) (by omega) hszx ?_)
        intro v6 w6 hown6 hf6 hl6
        have HO6 : Hid (w6.ownsRow w.heap.size 3 1 v6 (k + 1) (intCells ((P.map whereOf).take (k + 1)))) := by rw [HIT.out, HV.out]; exact hid hown6
        have HB6 : Hid (Below w.heap.size w w6) := hid ((Fr.of_below (S := NoB) HB.out).trans hf6 (fun b hb => .inr (own_ge HO.out b hb))).no
        clear hown6 hf6 hl6 hown
        go_wp2_with fail
        go_roundw
        case rel => exact ⟨k + 1, by omega, by go_num, HO6.out, HB6.out⟩
        case measure => simp [intOf]; omega
    case neg =>
      obtain rfl : k = n := by omega
      rw [List.take_of_length_le (by rw [List.length_map]; have := HN.out; omega)] at hown
      have HO2 := hid hown
      clear hown HO hb
      go_wp2_with fail
      go_ret
      exact ⟨_, rfl, HO2.out, HB.out⟩
end
end Go.Proofs.Ytmhochjpdedlgaa
