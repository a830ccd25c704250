/- The document's heap: Pop, Change, Remove, ids (contracts). -/
import Derived.Test.YtbkjlohlfkokpaaRef02
set_option linter.unusedVariables false
set_option linter.unusedSimpArgs false
namespace Go.Proofs.Ytbkjlohlfkokpaa
open Go.RowKit

section
variable {w w' : World} {base x room : Nat} {v : Value} {L L' : List (Int × Int)}
theorem R02Behind.drew (h : R02Behind w base x v room L w') (q : Nat) : R02Behind w base x v room L (w'.drewN q) := by
  obtain ⟨v', h1, h2, h3⟩ := h
  exact ⟨v', ⟨h1.hx, h1.row, h1.bx⟩, h2.drewN q, h3⟩
theorem R02Behind.from {w0 : World} (h : R02Behind w base x v room L w') (k : Below w0.heap.size w0 w) : R02Behind w0 base x v room L w' := by
  obtain ⟨v', h1, h2, h3⟩ := h
  exact ⟨v', h1, (Fr.of_below k).trans h2 (fun _ h => .inl h), fun j hj => (h3 j hj).imp id (fun h => Nat.le_trans k.size h)⟩
set_option maxRecDepth 100000 in
set_option maxHeartbeats 800000 in
theorem r02_pop (H : R02 w base x v room L) (hm : L.length < 1000) :
    Calls Try.prog 40 #[.pointer (some ⟨x, 0, none⟩)] w fun e w' => e = .returned (.tuple #[.int .i64 (headP L).1, .int .i64 (headP L).2, .bool (!L.isEmpty)]) ∧ R02Behind w base x v room L.tail w' := by
  have HB := hid H.behind
  rcases L with _ | ⟨p, L⟩
  · obtain ⟨A, cap, rfl, c1⟩ := r02_len_cell H
    clear H
    go_enter Try.func40, Try.ntmps40
    go_wp2_with fail
    go_ret3
    exact ⟨rfl, HB.out⟩
  · have hb1 : Below w.heap.size w (w.alloc (.cells #[.int .i64 p.1, .int .i64 p.2] 111)) := (Below.refl _ _).alloc (Nat.le_refl _) _
    have xk := blk_new w (.cells #[.int .i64 p.1, .int .i64 p.2] 111)
    have hoff := r02_off (H.later hb1) 0 (by simp) hm
    rw [show (p :: L).eraseIdx 0 = L from rfl] at hoff
    have HOFF := hid hoff
    have HB1 := hid hb1
    have HXK := hid xk
    have HNX := hid (show ¬ R02Set x v w.heap.size from fun e => Nat.lt_irrefl _ (H.lt _ e).2)
    have hrow := H.row
    obtain ⟨A, cap, rfl, c1⟩ := r02_len_cell H
    obtain ⟨m, hm2⟩ : ∃ m, (p :: L).length = m + 1 := ⟨L.length, rfl⟩
    rw [hm2] at c1 hrow hm HOFF
    obtain ⟨g, rfl, d0⟩ := row_cell (j := 0) (k := 0) enc2_len hrow rfl rfl
    obtain ⟨g', e1, d1⟩ := row_cell (j := 1) (k := 0) enc2_len hrow rfl rfl
    cases e1
    simp only [Nat.zero_mul, Nat.add_zero, Nat.zero_add] at d0 d1
    have hm0 : (((m + 1 : Nat) : Int) == 0) = false := beq_eq_false_iff_ne.2 (by omega)
    rw [show headP (p :: L) = p from rfl, show (!(p :: L).isEmpty) = true from rfl, show (p :: L).tail = L from rfl]
    rw [hm2] at HNX ⊢
    obtain ⟨p1, p2⟩ := p
    simp only at d0 d1 HOFF HB1 HXK ⊢
    clear H hrow hoff hb1 xk hm2 HB
    go_enter Try.func40, Try.ntmps40
    go_wp2_with fail
    refine HOFF.out.mono ?_
    rintro e w5 ⟨rfl, hB⟩
    have HB5 := hid hB
    obtain ⟨v', h1, h2, h3⟩ := hB
    have hk := h2.blk HXK.out HNX.out
    have k0 : w5.cell? ⟨w.heap.size, 0, none⟩ = some (.int .i64 p1) := blk_cell hk 0
    have k1 : w5.cell? ⟨w.heap.size, 1, none⟩ = some (.int .i64 p2) := blk_cell hk 1
    clear h1 h2 h3 hk d0 d1 c1
    go_wp2_with fail
    go_quiet (fail)
    go_wp2_with fail
    go_ret3
    exact ⟨rfl, (HB5.out.from HB1.out).drew _⟩
set_option maxRecDepth 100000 in
set_option maxHeartbeats 800000 in
theorem r02_remove (H : R02 w base x v room L) (hn : (fsts L).Nodup) (t : Int) (hm : L.length < 1000) :
    Calls Try.prog 42 #[.pointer (some ⟨x, 0, none⟩), .int .i64 t] w fun e w' => e = .returned (.int .i64 (if t ∈ fsts L then 0 else 5)) ∧ R02Behind w base x v room (offP t L) w' := by
  by_cases hin : t ∈ fsts L
  · obtain ⟨j, p, hj, hp, hc⟩ := r02_at_yes H hn hm hin
    have hoff := r02_off H j (List.getElem?_eq_some_iff.1 hj).1 hm
    rw [eraseIdx_off hn hj, hp] at hoff
    rw [if_pos hin]
    have HC := hid hc
    have HO := hid hoff
    clear H hn hin hj hp hc hoff hm
    go_enter Try.func42, Try.ntmps42
    go_wp2_with fail
    refine HC.out.mono ?_
    rintro e w' ⟨rfl, rfl⟩
    go_wp2_with fail
    refine HO.out.mono ?_
    rintro e w5 ⟨rfl, hB⟩
    have HB := hid hB
    clear hB HO HC
    go_wp2_with fail
    go_ret
    exact ⟨rfl, HB.out⟩
  · have HC := hid (r02_at_no H hm hin)
    have HB := hid H.behind
    rw [if_neg hin, offP_out hin]
    clear H hn hin hm
    go_enter Try.func42, Try.ntmps42
    go_wp2_with fail
    refine HC.out.mono ?_
    rintro e w' ⟨rfl, rfl⟩
    go_wp2_with fail
    go_ret
    exact ⟨rfl, HB.out⟩
/-- What Change leaves. -/
def chgP (L : List (Int × Int)) (t k : Int) : Int × List (Int × Int) := if t ∈ fsts L then (0, insP (t, k) (offP t L)) else (5, L)
set_option maxRecDepth 100000 in
set_option maxHeartbeats 800000 in
theorem r02_change (H : R02 w base x v room L) (hs : L.Pairwise (fun p q => p.2 ≤ q.2)) (hn : (fsts L).Nodup) (t k : Int) (hm : L.length < 1000) :
    Calls Try.prog 41 #[.pointer (some ⟨x, 0, none⟩), .int .i64 t, .int .i64 k] w fun e w' => e = .returned (.int .i64 (chgP L t k).1) ∧ R02Behind w base x v room (chgP L t k).2 w' := by
  by_cases hin : t ∈ fsts L
  · obtain ⟨j, p, hj, hp, hc⟩ := r02_at_yes H hn hm hin
    have hoff := r02_off H j (List.getElem?_eq_some_iff.1 hj).1 hm
    rw [eraseIdx_off hn hj, hp] at hoff
    have e : chgP L t k = (0, insP (t, k) (offP t L)) := by unfold chgP; rw [if_pos hin]
    rw [e]
    have HC := hid hc
    have HO := hid hoff
    have HS := hid (offP_sorted (t := t) hs)
    have hl : (offP t L).length < 1000 := Nat.lt_of_le_of_lt (offP_len t L) hm
    generalize offP t L = L1 at *
    clear H hn hin hj hp hc hoff hm hs e
    go_enter Try.func41, Try.ntmps41
    go_wp2_with fail
    refine HC.out.mono ?_
    rintro e w' ⟨rfl, rfl⟩
    go_wp2_with fail
    refine HO.out.mono ?_
    rintro e w5 ⟨rfl, hB⟩
    obtain ⟨v1, hR1, hF1, hN1⟩ := hB
    have HR1 := hid hR1
    have HF1 := hid hF1
    have HN1 := hid hN1
    clear hR1 hF1 hN1 HO HC
    go_wp2_with fail
    refine (r02_put HR1.out t k HS.out hl).mono ?_
    rintro e w6 ⟨rfl, hB⟩
    have HB := hid (R02Behind.trans HR1.out HF1.out HN1.out hB)
    clear hB
    go_wp2_with fail
    go_ret
    exact ⟨rfl, HB.out⟩
  · have HC := hid (r02_at_no H hm hin)
    have HB := hid H.behind
    have e : chgP L t k = (5, L) := by unfold chgP; rw [if_neg hin]
    rw [e]
    clear H hn hin hm hs e
    go_enter Try.func41, Try.ntmps41
    go_wp2_with fail
    refine HC.out.mono ?_
    rintro e w' ⟨rfl, rfl⟩
    go_wp2_with fail
    go_ret
    exact ⟨rfl, HB.out⟩
set_option maxRecDepth 100000 in
set_option maxHeartbeats 800000 in
theorem r02_ids (H : R02 w base x v room L) (hm : L.length < 1000) :
    Calls Try.prog 45 #[.pointer (some ⟨x, 0, none⟩)] w fun e w' => ∃ u, e = .returned u ∧ w'.ownsRow w.heap.size 3 1 u L.length (intCells (fsts L)) ∧ Below w.heap.size w w' := by
  have hrow := H.row
  have hxx := H.hx
  obtain ⟨A, cap, rfl, c1⟩ := r02_len_cell H
  obtain ⟨m, hm2⟩ : ∃ m, L.length = m := ⟨_, rfl⟩
  rw [hm2] at c1 hrow hm hxx ⊢
  have HROW := hid hrow
  have HXX := hid hxx
  have HM := hid hm2
  obtain ⟨i0, hi, hz0, hz1, hz2⟩ := info_parts Try.info_int
  clear H hrow hxx hm2 c1
  go_enter Try.func45, Try.ntmps45
  go_wp2_with fail
  go_loopw [3, 4] (fun u i wr => ∃ j : Nat, j ≤ m ∧ i = .int .i64 j ∧ wr.ownsRow w.heap.size 3 1 u j (intCells ((fsts L).take j)) ∧ Below w.heap.size w wr) (fun _ i _ => m - (intOf i).toNat)
  case atStart => exact ⟨0, by omega, rfl, World.ownsRow_nil _ _ _ _, Below.refl _ _⟩
  case round =>
    obtain ⟨j, hj, rfl, hown, hb⟩ := hrel
    have HB := hid hb
    have HO := hid hown
    have hszx := hb.size
    have hx := (fr0 hb).blk HXX.out (fun h => h)
    have c1 : wr.cell? ⟨x, 1, none⟩ = some (.slice A m cap) := blk_cell hx 1
    by_cases hlt : j < m
    · obtain ⟨p, hp⟩ : ∃ p, L[j]? = some p := ⟨_, List.getElem?_eq_getElem (by have := HM.out; omega)⟩
      obtain ⟨g, rfl, d0⟩ := row_cell (j := 0) enc2_len HROW.out hp rfl
      simp only [Nat.add_zero] at d0
      have e0 := (hb.cell (World.block_lt_of_cell? _ _ d0)).trans d0
      have hp2 : (fsts L)[j]? = some p.1 := by unfold fsts; rw [List.getElem?_map, hp]; rfl
      have HIT := hid (int_take hp2)
      generalize p.1 = p1 at *
      clear hp hp2 d0 hb hx
      go_wp2_with (at_builtin; refine append_new rfl _ _ 34 rfl w.heap.size 3 i0 _ 1 8 Try.underlying34 hi hz0 hz1 hz2 rfl (by decide) #[.int .i64 p1] u3 j (intCells ((fsts L).take j)) rfl _ rfl rfl hown rfl (one_one _) (by unfold maxLen; omega) (by omega) hszx ?_)
      intro v6 w6 hown6 hf6 hl6
      have HO6 : Hid (w6.ownsRow w.heap.size 3 1 v6 (j + 1) (intCells ((fsts L).take (j + 1)))) := by rw [HIT.out]; exact hid hown6
      have HB6 : Hid (Below w.heap.size w w6) := hid ((Fr.of_below (S := NoB) HB.out).trans hf6 (fun b hb => .inr (own_ge HO.out b hb))).no
      clear hown6 hf6 hl6 hown
      go_wp2_with fail
      go_roundw
      case rel => exact ⟨j + 1, by omega, by go_num, HO6.out, HB6.out⟩
      case measure => simp [intOf]; omega
    · obtain rfl : j = m := by omega
      rw [List.take_of_length_le (by unfold fsts; rw [List.length_map]; have := HM.out; omega)] at hown
      have HO2 := hid hown
      clear hown HO hb hx
      go_wp2_with fail
      go_ret
      exact ⟨_, rfl, HO2.out, HB.out⟩
end
end Go.Proofs.Ytbkjlohlfkokpaa
