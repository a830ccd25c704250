/- Joined: PCeil, Asks. -/
import Derived.Test.YtppildaahmlfmaaQ49
import Derived.Test.YtppildaahmlfmaaQ50
set_option linter.unusedVariables false
set_option linter.unusedSimpArgs false
/- analysis.Ceilings (contract). -/
set_option linter.unusedVariables false
set_option linter.unusedSimpArgs false
namespace Go.Proofs.Ytppildaahmlfmaa
open Go.RowKit

section
variable {w : World}
set_option maxRecDepth 100000 in
set_option maxHeartbeats 1600000 in
theorem pceil_any (S : Sy) (A0 : Option Addr) (n0 c0 : Nat) (A : Option Addr) (n cap : Nat) (P : Pl) (hs : IsSys w (.slice A0 n0 c0) S) (hp : IsPlan w (.slice A n cap) P) :
    Calls Try.prog 16 #[sysV S (.slice A0 n0 c0), .slice A n cap] w fun e w' =>
      (planB S P = false ∧ e = .returned (.tuple #[.slice none 0 0, .int .i64 1]) ∧ Below w.heap.size w w') ∨
      (planB S P = true ∧ ∃ uc X, e = .returned (.tuple #[uc, .int .i64 0]) ∧ CT w' w.heap.size uc S.cores.toNat X S.resn.toNat (fun c => topF (upsN S P c P.length)) ∧ Below w.heap.size w w') := by
  have HR := hid (fun W (h : Below w.heap.size w W) => prank_any (w := W) S A0 n0 c0 A n cap P (hs.later h) (hp.later h))
  unfold sysV at *
  clear hs hp
  go_enter Try.func16, Try.ntmps16
  go_wp2_with fail
  refine (HR.out _ (below_new (Below.refl _ _) _)).mono ?_
  intro e w1 hor
  rcases hor with ⟨hpb, rfl, hb1⟩ | ⟨hpb, R, g, V, uw, uc, X, rfl, hk, hb1⟩
  · have HB := hid (below_then (below_new (Below.refl _ _) _) hb1)
    have HPB := hid hpb
    clear hb1 hpb
    go_wp2_with fail
    go_ret2
    exact .inl ⟨HPB.out, rfl, HB.out⟩
  · have HB := hid (below_then (below_new (Below.refl _ _) _) hb1)
    have HPB := hid hpb
    have HK := hid hk
    obtain ⟨Au, cu, rfl⟩ := own_slice hk.ce.out
    have r11 : w1.cell? ⟨R, 11, none⟩ = some (.slice Au S.cores.toNat cu) := blk_cell hk.hr 11
    clear hb1 hpb hk
    go_wp2_with fail
    go_ret2
    exact .inr ⟨HPB.out, _, X, rfl, HK.out.ce.mono (by simp), HB.out⟩
end
end Go.Proofs.Ytppildaahmlfmaa
/- Package tourbillonlaw17: asks (contract); ceilings, plain. -/
set_option linter.unusedVariables false
set_option linter.unusedSimpArgs false
namespace Go.Proofs.Ytppildaahmlfmaa
open Go.RowKit

def asksB (L : List Sec) (r : Int) : Bool := L.any fun x => decide (x.res = r)
theorem asksB_yes {L : List Sec} {r : Int} {k : Nat} {x : Sec} (hx : L[k]? = some x) (h : x.res = r) : asksB L r = true := by
  unfold asksB
  rw [List.any_eq_true]
  exact ⟨x, List.mem_of_getElem? hx, decide_eq_true h⟩
theorem asksB_no {L : List Sec} {r : Int} (h : ∀ (k : Nat) (x : Sec), L[k]? = some x → x.res ≠ r) : asksB L r = false := by
  unfold asksB
  rw [List.any_eq_false]
  intro x hx
  obtain ⟨k, hk⟩ := List.mem_iff_getElem?.1 hx
  rw [decide_eq_false (h k x hk)]
  simp
/-- A ceiling: no user's priority is below it, and a user has it. -/
theorem topF_le {L : List (Nat × Int)} (h1 : ∀ u ∈ L, 1 ≤ u.2) : ∀ r, (∀ u ∈ L, u.1 = r → topF L r ≠ 0 ∧ topF L r ≤ u.2) ∧ (topF L r = 0 ∨ ∃ u ∈ L, u.1 = r ∧ u.2 = topF L r) := by
  induction L using snoc_induct with
  | h0 => intro r; exact ⟨fun u hu => (by cases hu), .inl rfl⟩
  | h1 L u ih =>
    intro r
    have ih := ih (fun v hv => h1 v (List.mem_append_left _ hv)) r
    have hu1 := h1 u (by simp)
    rw [topF_snoc]
    unfold upd
    by_cases e : r = u.1
    · subst e
      rw [if_pos rfl]
      split
      · rename_i hc
        refine ⟨fun v hv he => ?_, .inr ⟨u, by simp, rfl, rfl⟩⟩
        rcases List.mem_append.1 hv with hv | hv
        · have := ih.1 v hv he
          omega
        · simp at hv
          subst hv
          omega
      · rename_i hc
        refine ⟨fun v hv he => ?_, ?_⟩
        · rcases List.mem_append.1 hv with hv | hv
          · exact ih.1 v hv he
          · simp at hv
            subst hv
            omega
        · rcases ih.2 with h | ⟨v, hv, he, h⟩
          · exact .inl h
          · exact .inr ⟨v, List.mem_append_left _ hv, he, h⟩
    · rw [if_neg e]
      refine ⟨fun v hv he => ?_, ?_⟩
      · rcases List.mem_append.1 hv with hv | hv
        · exact ih.1 v hv he
        · simp at hv
          subst hv
          exact absurd he.symm e
      · rcases ih.2 with h | ⟨v, hv, he, h⟩
        · exact .inl h
        · exact .inr ⟨v, List.mem_append_left _ hv, he, h⟩
section
variable {w : World}
set_option maxRecDepth 100000 in
set_option maxHeartbeats 3200000 in
theorem asks_any (t0 t1 t2 : Int) (A : Option Addr) (m c : Nat) (L : List Sec) (r : Int) (h : Rowp 3 secR w (.slice A m c) L) :
    Calls Try.prog 17 #[.agg #[.int .i64 t0, .int .i64 t1, .int .i64 t2, .slice A m c], .int .i64 r] w fun e w' => e = .returned (.bool (asksB L r)) ∧ Below w.heap.size w w' := by
  have hm := h.len
  have HM := hid hm
  have H := hid h
  have hmm : m ≤ 9223372036854775807 := by have := h.room; unfold maxLen at this; omega
  have hq := blk_new w (.cells #[.int .i64 t0, .int .i64 t1, .int .i64 t2, .slice A m c] 34)
  have hb := below_new (Below.refl w.heap.size w) (.cells #[.int .i64 t0, .int .i64 t1, .int .i64 t2, .slice A m c] 34)
  clear h hm
  go_enter Try.func17, Try.ntmps17
  go_upto_region 1 with fail
  generalize w.alloc (.cells #[.int .i64 t0, .int .i64 t1, .int .i64 t2, .slice A m c] 34) = w1 at *
  have z3 : w1.cell? ⟨w.heap.size, 3, none⟩ = some (.slice A m c) := blk_cell hq 3
  have HB := hid hb
  clear hq hb
  go_wp2_with fail
  go_loop [5] (fun i => ∃ k : Nat, k ≤ m ∧ i = .int .i64 k ∧ Hid (∀ (j : Nat) (x : Sec), j < k → L[j]? = some x → x.res ≠ r)) (fun i => m - (intOf i).toNat)
  case atStart => exact ⟨0, by omega, rfl, hid (fun j x hj => by omega)⟩
  case round =>
    obtain ⟨k, hk, rfl, HK⟩ := hrel
    by_cases hlt : k < m
    case neg =>
      obtain rfl : k = m := by omega
      have HR := hid (asksB_no (L := L) (r := r) (fun j x hx => HK.out j x (by have := (List.getElem?_eq_some_iff.1 hx).1; have := HM.out; omega) hx))
      go_wp2_with fail
      go_ret
      exact ⟨by rw [HR.out]; rfl, HB.out⟩
    case pos =>
      obtain ⟨x, hx⟩ : ∃ x, L[k]? = some x := ⟨_, List.getElem?_eq_getElem (by have := HM.out; omega)⟩
      obtain ⟨b2, o2, cs2, hA2, hbl2, _, hc2, hr2⟩ := H.out.at hx
      subst hA2
      have hr2' : cs2 = [.int .i64 x.at_, .int .i64 x.res, .int .i64 x.len] := hr2
      subst hr2'
      have e1 : w1.cell? ⟨b2, o2 + k * 3 + 1, none⟩ = some (.int .i64 x.res) := (HB.out.cell (p := ⟨b2, o2 + k * 3 + 1, none⟩) hbl2).trans (hc2 1 _ rfl)
      by_cases hx1 : x.res = r
      case pos =>
        have HR := hid (asksB_yes hx hx1)
        have hbe : (x.res == r) = true := by rw [hx1]; exact beq_self_eq_true r
        clear hx1 hx hc2 hr2 hbl2
        go_wp2_with fail
        go_ret
        exact ⟨by rw [HR.out]; rfl, HB.out⟩
      case neg =>
        have hbe : (x.res == r) = false := beq_eq_false_iff_ne.2 hx1
        have HN := hid (show ∀ (j : Nat) (y : Sec), j < k + 1 → L[j]? = some y → y.res ≠ r from fun j y hj hy => by
          by_cases e : j = k
          · subst e
            rw [hx] at hy
            injection hy with hy
            rw [← hy]
            exact hx1
          · exact HK.out j y (by omega) hy)
        clear hx1 hx hc2 hr2 hbl2
        go_wp2_with fail
        go_round
        case rel => exact ⟨k + 1, by omega, by go_num, HN⟩
        case measure => simp [intOf]; omega
end
end Go.Proofs.Ytppildaahmlfmaa
