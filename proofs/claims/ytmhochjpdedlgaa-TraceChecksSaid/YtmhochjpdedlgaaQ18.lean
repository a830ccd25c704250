/- Joined: Idx. -/
import Derived.Test.YtmhochjpdedlgaaQ17
set_option linter.unusedVariables false
set_option linter.unusedSimpArgs false
/- slices.IndexFunc at analysis's parts, with Rank's first closure (contract). -/
set_option linter.unusedVariables false
set_option linter.unusedSimpArgs false
namespace Go.Proofs.Ytmhochjpdedlgaa
open Go.RowKit

/-- What a part's cells say. -/
def ptR : Reads Pt := fun _ cs x => cs = encPt x
theorem ptR.stays : Stays ptR := fun _ _ _ _ _ h => h
def outB (pol : Int) (x : Pt) : Bool := x.p.tight || decide (pol = 2)
/-- Where the first one is that is left out. -/
def FirstOut (D : Pt → Bool) (l : List Pt) (r : Int) : Prop := (r = -1 ∧ ∀ x ∈ l, D x = false) ∨ ∃ (k : Nat) (x : Pt), r = k ∧ l[k]? = some x ∧ D x = true ∧ ∀ (i : Nat) y, i < k → l[i]? = some y → D y = false
section
variable {w : World}
set_option maxRecDepth 100000 in
set_option maxHeartbeats 1600000 in
theorem idx_any (l : List Pt) (A : Option Addr) (n cap : Nat) (B : Nat) (pol : Int) (hl : Rowp 7 ptR w (.slice A n cap) l) (hb : B < w.heap.size) (h : w.cell? ⟨B, 1, none⟩ = some (.int .i64 pol)) :
    Calls Try.prog 90 #[.slice A n cap, .func (.func 58) #[] #[.pointer (some ⟨B, 0, none⟩)]] w fun e w' => ∃ r, e = .returned (.int .i64 r) ∧ FirstOut (outB pol) l r ∧ Below w.heap.size w w' := by
  have hn := hl.len
  have hnm : n ≤ 9223372036854775807 := by have := hl.room; unfold maxLen at this; omega
  have HN := hid hn
  have HL := hid hl
  have HD := hid (fun W (k : Below w.heap.size w W) (x : Pt) => del_any (w := W) x B pol (Nat.lt_of_lt_of_le hb k.size) ((k.cell (p := ⟨B, 1, none⟩) hb).trans h))
  clear hl hn hb h
  go_enter Try.func90, Try.ntmps90
  go_wp2_with fail
  go_loopw [8] (fun v wr => ∃ k : Nat, k ≤ n ∧ v = .int .i64 k ∧ Hid (Below w.heap.size w wr) ∧ Hid (∀ (i : Nat) y, i < k → l[i]? = some y → outB pol y = false)) (fun v _ => n - (intOf v).toNat)
  case atStart => exact ⟨0, by omega, rfl, hid (Below.refl _ _), hid (fun i y hi => by omega)⟩
  case round =>
    obtain ⟨k, hk, rfl, HB, HF⟩ := hrel
    by_cases hlt : k < n
    case pos =>
      obtain ⟨x, hx⟩ : ∃ x, l[k]? = some x := ⟨_, List.getElem?_eq_getElem (by have := HN.out; omega)⟩
      obtain ⟨b, o, cs, hA, hbl, _, hc, hr⟩ := HL.out.at hx
      subst hA
      have hr' : cs = encPt x := hr
      subst hr'
      have HX := hid hx
      have HE := hid (HD.out wr HB.out x)
      have HO := hid (show outB pol x = (x.p.tight || decide (pol = 2)) from rfl)
      obtain ⟨v, hv⟩ : ∃ v, outB pol x = v := ⟨_, rfl⟩
      have HV := hid hv
      rw [show (x.p.tight || decide (pol = 2)) = v from hv] at HE
      obtain ⟨⟨pc, pb, pd, pp, ti⟩, tk, kk⟩ := x
      unfold encPt at hc HE
      simp only at hc HE
      have e0 : wr.cell? ⟨b, o + k * 7, none⟩ = some (.int .i64 pc) := (HB.out.cell (p := ⟨b, o + k * 7, none⟩) hbl).trans (by simpa using hc 0 _ rfl)
      have e1 : wr.cell? ⟨b, o + k * 7 + 1, none⟩ = some (.int .i64 pb) := (HB.out.cell (p := ⟨b, o + k * 7 + 1, none⟩) hbl).trans (hc 1 _ rfl)
      have e2 : wr.cell? ⟨b, o + k * 7 + 2, none⟩ = some (.int .i64 pd) := (HB.out.cell (p := ⟨b, o + k * 7 + 2, none⟩) hbl).trans (hc 2 _ rfl)
      have e3 : wr.cell? ⟨b, o + k * 7 + 3, none⟩ = some (.int .i64 pp) := (HB.out.cell (p := ⟨b, o + k * 7 + 3, none⟩) hbl).trans (hc 3 _ rfl)
      have e4 : wr.cell? ⟨b, o + k * 7 + 4, none⟩ = some (.bool ti) := (HB.out.cell (p := ⟨b, o + k * 7 + 4, none⟩) hbl).trans (hc 4 _ rfl)
      have e5 : wr.cell? ⟨b, o + k * 7 + 5, none⟩ = some (.int .i64 tk) := (HB.out.cell (p := ⟨b, o + k * 7 + 5, none⟩) hbl).trans (hc 5 _ rfl)
      have e6 : wr.cell? ⟨b, o + k * 7 + 6, none⟩ = some (.int .i64 kk) := (HB.out.cell (p := ⟨b, o + k * 7 + 6, none⟩) hbl).trans (hc 6 _ rfl)
      clear hx hbl hc hr hv HO
      go_wp2_with fail
      refine HE.out.mono ?_
      rintro e w1 ⟨rfl, hb1⟩
      have HB1 := hid (below_then HB.out hb1)
      clear hb1 e0 e1 e2 e3 e4 e5 e6
      cases v
      case true =>
        go_wp2_with fail
        go_ret
        exact ⟨_, rfl, .inr ⟨k, _, rfl, HX.out, HV.out, HF.out⟩, HB1.out⟩
      case false =>
        have HF2 := hid (show ∀ (i : Nat) y, i < k + 1 → l[i]? = some y → outB pol y = false from fun i y hi hy => by
          by_cases e : i = k
          · subst e
            rw [HX.out] at hy
            injection hy with hy
            rw [← hy]
            exact HV.out
          · exact HF.out i y (by omega) hy)
        go_wp2_with fail
        go_roundw
        case rel => exact ⟨k + 1, by omega, by go_num, HB1, HF2⟩
        case measure => simp [intOf]; omega
    case neg =>
      obtain rfl : k = n := by omega
      have HA := hid (show ∀ x ∈ l, outB pol x = false from fun x hx => by
        obtain ⟨i, hi⟩ := List.mem_iff_getElem?.1 hx
        exact HF.out i x (by have := (List.getElem?_eq_some_iff.1 hi).1; have := HN.out; omega) hi)
      go_wp2_with fail
      go_ret
      exact ⟨_, rfl, .inl ⟨rfl, HA.out⟩, HB.out⟩
end
end Go.Proofs.Ytmhochjpdedlgaa
