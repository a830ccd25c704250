/- Joined: Del, Idx, OwnPart. -/
import Derived.Test.YtppildaahmlfmaaQ18
set_option linter.unusedVariables false
set_option linter.unusedSimpArgs false
/- analysis.Rank's closures (contracts). -/
set_option linter.unusedVariables false
set_option linter.unusedSimpArgs false
namespace Go.Proofs.Ytppildaahmlfmaa
open Go.RowKit

section
variable {w : World}
set_option maxRecDepth 100000 in
set_option maxHeartbeats 1600000 in
/-- Which parts are left out. -/
theorem del_any (x : Pt) (B : Nat) (pol : Int) (hb : B < w.heap.size) (h : w.cell? ⟨B, 1, none⟩ = some (.int .i64 pol)) :
    Calls Try.prog 30 #[.agg (encPt x).toArray, .pointer (some ⟨B, 0, none⟩)] w fun e w' => e = .returned (.bool (x.p.tight || decide (pol = 2))) ∧ Below w.heap.size w w' := by
  obtain ⟨⟨pc, pb, pd, pp, ti⟩, tk, kk⟩ := x
  unfold encPt
  have HC := hid h
  have HBL := hid hb
  clear h hb
  go_enter Try.func30, Try.ntmps30
  go_upto_region 1 with fail
  have hbel := below_new (Below.refl w.heap.size w) (.cells #[.int .i64 pc, .int .i64 pb, .int .i64 pd, .int .i64 pp, .bool ti, .int .i64 tk, .int .i64 kk] 67)
  have hblk := blk_new w (.cells #[.int .i64 pc, .int .i64 pb, .int .i64 pd, .int .i64 pp, .bool ti, .int .i64 tk, .int .i64 kk] 67)
  generalize w.alloc (.cells #[.int .i64 pc, .int .i64 pb, .int .i64 pd, .int .i64 pp, .bool ti, .int .i64 tk, .int .i64 kk] 67) = w1 at hbel hblk ⊢
  have c4 : w1.cell? ⟨w.heap.size, 4, none⟩ = some (.bool ti) := blk_cell hblk 4
  have b1 : w1.cell? ⟨B, 1, none⟩ = some (.int .i64 pol) := (hbel.cell (p := ⟨B, 1, none⟩) HBL.out).trans HC.out
  have HBE := hid hbel
  clear hbel hblk
  cases ti
  case true =>
    go_wp2_with fail
    go_ret
    exact ⟨rfl, HBE.out⟩
  case false =>
    by_cases hp : pol = 2
    case pos =>
      have hpb : (pol == 2) = true := beq_iff_eq.2 hp
      have HD := hid (decide_eq_true hp)
      clear hp
      go_wp2_with fail
      go_ret
      exact ⟨by rw [HD.out]; rfl, HBE.out⟩
    case neg =>
      have hpb : (pol == 2) = false := beq_eq_false_iff_ne.2 hp
      have HD := hid (decide_eq_false hp)
      clear hp
      go_wp2_with fail
      go_ret
      exact ⟨by rw [HD.out]; rfl, HBE.out⟩
end
end Go.Proofs.Ytppildaahmlfmaa
/- slices.IndexFunc at analysis's parts, with Rank's first closure (contract). -/
set_option linter.unusedVariables false
set_option linter.unusedSimpArgs false
namespace Go.Proofs.Ytppildaahmlfmaa
open Go.RowKit

/-- What a part's cells say. -/
def ptR : Reads Pt := fun _ cs x => cs = encPt x
theorem ptR.stays : Stays ptR := fun _ _ _ _ _ h => h
def outB (pol : Int) (x : Pt) : Bool := x.p.tight || decide (pol = 2)
/-- Where the first one is that is left out. -/
def FirstOut (D : Pt → Bool) (l : List Pt) (r : Int) : Prop := (r = -1 ∧ ∀ x ∈ l, D x = false) ∨ ∃ (k : Nat) (x : Pt), r = k ∧ l[k]? = some x ∧ D x = true ∧ ∀ (i : Nat) y, i < k → l[i]? = some y → D y = false
section
variable {w : World}
set_option maxRecDepth 100000 in
set_option maxHeartbeats 1600000 in
theorem idx_any (l : List Pt) (A : Option Addr) (n cap : Nat) (B : Nat) (pol : Int) (hl : Rowp 7 ptR w (.slice A n cap) l) (hb : B < w.heap.size) (h : w.cell? ⟨B, 1, none⟩ = some (.int .i64 pol)) :
    Calls Try.prog 49 #[.slice A n cap, .func (.func 30) #[] #[.pointer (some ⟨B, 0, none⟩)]] w fun e w' => ∃ r, e = .returned (.int .i64 r) ∧ FirstOut (outB pol) l r ∧ Below w.heap.size w w' := by
  have hn := hl.len
  have hnm : n ≤ 9223372036854775807 := by have := hl.room; unfold maxLen at this; omega
  have HN := hid hn
  have HL := hid hl
  have HD := hid (fun W (k : Below w.heap.size w W) (x : Pt) => del_any (w := W) x B pol (Nat.lt_of_lt_of_le hb k.size) ((k.cell (p := ⟨B, 1, none⟩) hb).trans h))
  clear hl hn hb h
  go_enter Try.func49, Try.ntmps49
  go_wp2_with fail
  go_loopw [8] (fun v wr => ∃ k : Nat, k ≤ n ∧ v = .int .i64 k ∧ Hid (Below w.heap.size w wr) ∧ Hid (∀ (i : Nat) y, i < k → l[i]? = some y → outB pol y = false)) (fun v _ => n - (intOf v).toNat)
  case atStart => exact ⟨0, by omega, rfl, hid (Below.refl _ _), hid (fun i y hi => by omega)⟩
  case round =>
    obtain ⟨k, hk, rfl, HB, HF⟩ := hrel
    by_cases hlt : k < n
    case pos =>
      obtain ⟨x, hx⟩ : ∃ x, l[k]? = some x := ⟨_, List.getElem?_eq_getElem (by have := HN.out; omega)⟩
      obtain ⟨b, o, cs, hA, hbl, _, hc, hr⟩ := HL.out.at hx
      subst hA
      have hr' : cs = encPt x := hr
      subst hr'
      have HX := hid hx
      have HE := hid (HD.out wr HB.out x)
      have HO := hid (show outB pol x = (x.p.tight || decide (pol = 2)) from rfl)
      obtain ⟨v, hv⟩ : ∃ v, outB pol x = v := ⟨_, rfl⟩
      have HV := hid hv
      rw [show (x.p.tight || decide (pol = 2)) = v from hv] at HE
      obtain ⟨⟨pc, pb, pd, pp, ti⟩, tk, kk⟩ := x
      unfold encPt at hc HE
      simp only at hc HE
      have e0 : wr.cell? ⟨b, o + k * 7, none⟩ = some (.int .i64 pc) := (HB.out.cell (p := ⟨b, o + k * 7, none⟩) hbl).trans (by simpa using hc 0 _ rfl)
      have e1 : wr.cell? ⟨b, o + k * 7 + 1, none⟩ = some (.int .i64 pb) := (HB.out.cell (p := ⟨b, o + k * 7 + 1, none⟩) hbl).trans (hc 1 _ rfl)
      have e2 : wr.cell? ⟨b, o + k * 7 + 2, none⟩ = some (.int .i64 pd) := (HB.out.cell (p := ⟨b, o + k * 7 + 2, none⟩) hbl).trans (hc 2 _ rfl)
      have e3 : wr.cell? ⟨b, o + k * 7 + 3, none⟩ = some (.int .i64 pp) := (HB.out.cell (p := ⟨b, o + k * 7 + 3, none⟩) hbl).trans (hc 3 _ rfl)
      have e4 : wr.cell? ⟨b, o + k * 7 + 4, none⟩ = some (.bool ti) := (HB.out.cell (p := ⟨b, o + k * 7 + 4, none⟩) hbl).trans (hc 4 _ rfl)
      have e5 : wr.cell? ⟨b, o + k * 7 + 5, none⟩ = some (.int .i64 tk) := (HB.out.cell (p := ⟨b, o + k * 7 + 5, none⟩) hbl).trans (hc 5 _ rfl)
      have e6 : wr.cell? ⟨b, o + k * 7 + 6, none⟩ = some (.int .i64 kk) := (HB.out.cell (p := ⟨b, o + k * 7 + 6, none⟩) hbl).trans (hc 6 _ rfl)
      clear hx hbl hc hr hv HO
      go_wp2_with fail
      refine HE.out.mono ?_
      rintro e w1 ⟨rfl, hb1⟩
      have HB1 := hid (below_then HB.out hb1)
      clear hb1 e0 e1 e2 e3 e4 e5 e6
      cases v
      case true =>
        go_wp2_with fail
        go_ret
        exact ⟨_, rfl, .inr ⟨k, _, rfl, HX.out, HV.out, HF.out⟩, HB1.out⟩
      case false =>
        have HF2 := hid (show ∀ (i : Nat) y, i < k + 1 → l[i]? = some y → outB pol y = false from fun i y hi hy => by
          by_cases e : i = k
          · subst e
            rw [HX.out] at hy
            injection hy with hy
            rw [← hy]
            exact HV.out
          · exact HF.out i y (by omega) hy)
        go_wp2_with fail
        go_roundw
        case rel => exact ⟨k + 1, by omega, by go_num, HB1, HF2⟩
        case measure => simp [intOf]; omega
    case neg =>
      obtain rfl : k = n := by omega
      have HA := hid (show ∀ x ∈ l, outB pol x = false from fun x hx => by
        obtain ⟨i, hi⟩ := List.mem_iff_getElem?.1 hx
        exact HF.out i x (by have := (List.getElem?_eq_some_iff.1 hi).1; have := HN.out; omega) hi)
      go_wp2_with fail
      go_ret
      exact ⟨_, rfl, .inl ⟨rfl, HA.out⟩, HB.out⟩
end
end Go.Proofs.Ytppildaahmlfmaa
/- A row of parts that a call owns: a part is stored. -/
set_option linter.unusedVariables false
set_option linter.unusedSimpArgs false
namespace Go.Proofs.Ytppildaahmlfmaa
open Go.RowKit

section
variable {w : World} {base : Nat}
/-- Seven stores put a part into a row that is owned. -/
theorem own_part {l : List Pt} {g n cap : Nat} (H : w.ownsRow base 67 7 (.slice (some ⟨g, 0, none⟩) n cap) n (flat encPt l)) {i : Nat} {y : Pt} (hy : l[i]? = some y) (hn : n = l.length) (x : Pt) :
    (((((((w.setCell ⟨g, i * 7, none⟩ (.int .i64 x.p.core)).setCell ⟨g, i * 7 + 1, none⟩ (.int .i64 x.p.bud)).setCell ⟨g, i * 7 + 2, none⟩ (.int .i64 x.p.dl)).setCell ⟨g, i * 7 + 3, none⟩ (.int .i64 x.p.prio)).setCell ⟨g, i * 7 + 4, none⟩ (.bool x.p.tight)).setCell ⟨g, i * 7 + 5, none⟩ (.int .i64 x.task)).setCell ⟨g, i * 7 + 6, none⟩ (.int .i64 x.k)).ownsRow base 67 7 (.slice (some ⟨g, 0, none⟩) n cap) n (flat encPt (l.set i x)) := by
  have hi : i < l.length := (List.getElem?_eq_some_iff.1 hy).1
  have h0 := H
  have h1 := own_set h0 (i * 7) (.int .i64 x.p.core) (by omega)
  have e0 := flat_set encPt_len l i 0 y (⟨⟨x.p.core, y.p.bud, y.p.dl, y.p.prio, y.p.tight⟩, y.task, y.k⟩ : Pt) (.int .i64 x.p.core) hy (by omega) rfl
  rw [Nat.add_zero] at e0
  rw [e0] at h1
  have h2 := own_set h1 (i * 7 + 1) (.int .i64 x.p.bud) (by omega)
  have e1 := flat_set encPt_len (l.set i (⟨⟨x.p.core, y.p.bud, y.p.dl, y.p.prio, y.p.tight⟩, y.task, y.k⟩ : Pt)) i 1 (⟨⟨x.p.core, y.p.bud, y.p.dl, y.p.prio, y.p.tight⟩, y.task, y.k⟩ : Pt) (⟨⟨x.p.core, x.p.bud, y.p.dl, y.p.prio, y.p.tight⟩, y.task, y.k⟩ : Pt) (.int .i64 x.p.bud) (List.getElem?_set_self hi) (by omega) rfl
  rw [e1, List.set_set] at h2
  have h3 := own_set h2 (i * 7 + 2) (.int .i64 x.p.dl) (by omega)
  have e2 := flat_set encPt_len (l.set i (⟨⟨x.p.core, x.p.bud, y.p.dl, y.p.prio, y.p.tight⟩, y.task, y.k⟩ : Pt)) i 2 (⟨⟨x.p.core, x.p.bud, y.p.dl, y.p.prio, y.p.tight⟩, y.task, y.k⟩ : Pt) (⟨⟨x.p.core, x.p.bud, x.p.dl, y.p.prio, y.p.tight⟩, y.task, y.k⟩ : Pt) (.int .i64 x.p.dl) (List.getElem?_set_self hi) (by omega) rfl
  rw [e2, List.set_set] at h3
  have h4 := own_set h3 (i * 7 + 3) (.int .i64 x.p.prio) (by omega)
  have e3 := flat_set encPt_len (l.set i (⟨⟨x.p.core, x.p.bud, x.p.dl, y.p.prio, y.p.tight⟩, y.task, y.k⟩ : Pt)) i 3 (⟨⟨x.p.core, x.p.bud, x.p.dl, y.p.prio, y.p.tight⟩, y.task, y.k⟩ : Pt) (⟨⟨x.p.core, x.p.bud, x.p.dl, x.p.prio, y.p.tight⟩, y.task, y.k⟩ : Pt) (.int .i64 x.p.prio) (List.getElem?_set_self hi) (by omega) rfl
  rw [e3, List.set_set] at h4
  have h5 := own_set h4 (i * 7 + 4) (.bool x.p.tight) (by omega)
  have e4 := flat_set encPt_len (l.set i (⟨⟨x.p.core, x.p.bud, x.p.dl, x.p.prio, y.p.tight⟩, y.task, y.k⟩ : Pt)) i 4 (⟨⟨x.p.core, x.p.bud, x.p.dl, x.p.prio, y.p.tight⟩, y.task, y.k⟩ : Pt) (⟨⟨x.p.core, x.p.bud, x.p.dl, x.p.prio, x.p.tight⟩, y.task, y.k⟩ : Pt) (.bool x.p.tight) (List.getElem?_set_self hi) (by omega) rfl
  rw [e4, List.set_set] at h5
  have h6 := own_set h5 (i * 7 + 5) (.int .i64 x.task) (by omega)
  have e5 := flat_set encPt_len (l.set i (⟨⟨x.p.core, x.p.bud, x.p.dl, x.p.prio, x.p.tight⟩, y.task, y.k⟩ : Pt)) i 5 (⟨⟨x.p.core, x.p.bud, x.p.dl, x.p.prio, x.p.tight⟩, y.task, y.k⟩ : Pt) (⟨⟨x.p.core, x.p.bud, x.p.dl, x.p.prio, x.p.tight⟩, x.task, y.k⟩ : Pt) (.int .i64 x.task) (List.getElem?_set_self hi) (by omega) rfl
  rw [e5, List.set_set] at h6
  have h7 := own_set h6 (i * 7 + 6) (.int .i64 x.k) (by omega)
  have e6 := flat_set encPt_len (l.set i (⟨⟨x.p.core, x.p.bud, x.p.dl, x.p.prio, x.p.tight⟩, x.task, y.k⟩ : Pt)) i 6 (⟨⟨x.p.core, x.p.bud, x.p.dl, x.p.prio, x.p.tight⟩, x.task, y.k⟩ : Pt) x (.int .i64 x.k) (List.getElem?_set_self hi) (by omega) rfl
  rw [e6, List.set_set] at h7
  exact h7
end
end Go.Proofs.Ytppildaahmlfmaa
