/- Joined: Stab1. -/
import Derived.Test.YtmhochjpdedlgaaQ01
import Derived.Test.YtmhochjpdedlgaaQ19
import Derived.Test.YtmhochjpdedlgaaQ20
import Derived.BigRegion
import Derived.Shelf.SlSortCmp.QuietGrown
set_option linter.unusedVariables false
set_option linter.unusedSimpArgs false
/- slices.swapRangeCmpFunc and slices.rotateCmpFunc at parts (contracts). -/
set_option linter.unusedVariables false
set_option linter.unusedSimpArgs false
namespace Go.Proofs.Ytmhochjpdedlgaa
open Go.RowKit

def rowL (d : Nat → Pt) (n : Nat) : List Pt := (List.range n).map d
theorem rowL_len (d : Nat → Pt) (n : Nat) : (rowL d n).length = n := by simp [rowL]
theorem rowL_get (d : Nat → Pt) {n i : Nat} (h : i < n) : (rowL d n)[i]? = some (d i) := by simp [rowL, h]
theorem rowL_swap (d : Nat → Pt) (n : Nat) {i j : Nat} : ((rowL d n).set i (d j)).set j (d i) = rowL (swf d i j) n := by
  apply List.ext_getElem?
  intro k
  unfold rowL swf
  simp only [List.getElem?_set, List.length_set, List.length_map, List.length_range, List.getElem?_map]
  by_cases hk : k < n
  · by_cases h1 : j = k
    · subst h1
      by_cases h2 : i = j
      · subst h2; simp [hk]
      · rw [if_pos rfl]; simp [hk, Ne.symm h2]
    · by_cases h2 : i = k
      · subst h2; simp [hk, h1]
      · simp [hk, h1, h2, Ne.symm h1, Ne.symm h2]
  · by_cases h1 : j = k
    · subst h1; simp [hk]
    · by_cases h2 : i = k
      · subst h2; simp [hk, h1]
      · simp [hk, h1, h2]
/-- A row of parts as a function of the index. -/
def PR (w : World) (base g n cap : Nat) (d : Nat → Pt) : Prop := w.ownsRow base 107 7 (.slice (some ⟨g, 0, none⟩) n cap) n (flat encPt (rowL d n))
section
variable {w : World} {base g n cap : Nat} {d : Nat → Pt}
theorem PR.cells (H : PR w base g n cap d) {i : Nat} (hi : i < n) : w.cell? ⟨g, i * 7, none⟩ = some (.int .i64 (d i).p.core) ∧ w.cell? ⟨g, i * 7 + 1, none⟩ = some (.int .i64 (d i).p.bud) ∧ w.cell? ⟨g, i * 7 + 2, none⟩ = some (.int .i64 (d i).p.dl) ∧
    w.cell? ⟨g, i * 7 + 3, none⟩ = some (.int .i64 (d i).p.prio) ∧ w.cell? ⟨g, i * 7 + 4, none⟩ = some (.bool (d i).p.tight) ∧ w.cell? ⟨g, i * 7 + 5, none⟩ = some (.int .i64 (d i).task) ∧ w.cell? ⟨g, i * 7 + 6, none⟩ = some (.int .i64 (d i).k) := by
  have h : ∀ k u, (encPt (d i))[k]? = some u → w.cell? ⟨g, i * 7 + k, none⟩ = some u := fun k u hk => by
    obtain ⟨g', e, hc⟩ := row_cell encPt_len H (rowL_get d hi) hk
    injection e with e
    injection e with e
    subst e
    exact hc
  exact ⟨by simpa using h 0 _ rfl, h 1 _ rfl, h 2 _ rfl, h 3 _ rfl, h 4 _ rfl, h 5 _ rfl, h 6 _ rfl⟩
theorem PR.room (H : PR w base g n cap d) (h : 0 < n) : n ≤ cap ∧ cap ≤ maxLen ∧ g < w.heap.size := by
  obtain ⟨g', cap', cur, hv, hbg, hg, hcap, hcm, hsz, htk⟩ := own_shape H h
  injection hv with e1 _ e2
  injection e1 with e1
  injection e1 with e1
  subst e1
  subst e2
  exact ⟨hcap, hcm, blk_lt hg⟩
theorem PR.kept {w' : World} {S : Nat → Prop} (H : PR w base g n cap d) (k : Fr S w w') (h : ¬ S g) : PR w' base g n cap d := own_kept H k (fun b hb => by injection hb with hb; subst hb; exact h)
theorem PR.drew (H : PR w base g n cap d) : PR w.drew base g n cap d := H
/-- Seven stores. -/
def stPt (w : World) (g q : Nat) (x : Pt) : World := (((((((w.setCell ⟨g, q * 7, none⟩ (.int .i64 x.p.core)).setCell ⟨g, q * 7 + 1, none⟩ (.int .i64 x.p.bud)).setCell ⟨g, q * 7 + 2, none⟩ (.int .i64 x.p.dl)).setCell ⟨g, q * 7 + 3, none⟩ (.int .i64 x.p.prio)).setCell ⟨g, q * 7 + 4, none⟩ (.bool x.p.tight)).setCell ⟨g, q * 7 + 5, none⟩ (.int .i64 x.task)).setCell ⟨g, q * 7 + 6, none⟩ (.int .i64 x.k))
theorem stPt_fr {w0 W : World} {g : Nat} (h : Fr (One g) w0 W) (q : Nat) (x : Pt) : Fr (One g) w0 (stPt W g q x) := (((((((h.one (q * 7) (.int .i64 x.p.core)).one (q * 7 + 1) (.int .i64 x.p.bud)).one (q * 7 + 2) (.int .i64 x.p.dl)).one (q * 7 + 3) (.int .i64 x.p.prio)).one (q * 7 + 4) (.bool x.p.tight)).one (q * 7 + 5) (.int .i64 x.task)).one (q * 7 + 6) (.int .i64 x.k))
theorem stPt_own {w : World} {base g n cap : Nat} {l : List Pt} (H : w.ownsRow base 107 7 (.slice (some ⟨g, 0, none⟩) n cap) n (flat encPt l)) {i : Nat} {y : Pt} (hy : l[i]? = some y) (hn : n = l.length) (x : Pt) :
    (stPt w g i x).ownsRow base 107 7 (.slice (some ⟨g, 0, none⟩) n cap) n (flat encPt (l.set i x)) := own_part H hy hn x
/-- The two runs of stores of an exchange, in a region that draws. -/
theorem PR.swapped (H : PR w base g n cap d) {i j : Nat} (hi : i < n) (hj : j < n) :
    ∃ wz : World, wz = (stPt (stPt w g i (d j)) g j (d i)).drew ∧ PR wz base g n cap (swf d i j) ∧ ∀ w0, Fr (One g) w0 w → Fr (One g) w0 wz := by
  have h1 := stPt_own H (rowL_get d hi) (rowL_len d n).symm (d j)
  have hj2 : ∃ y, ((rowL d n).set i (d j))[j]? = some y := ⟨_, List.getElem?_eq_getElem (by rw [List.length_set, rowL_len]; exact hj)⟩
  obtain ⟨y, hy⟩ := hj2
  have h2 := stPt_own h1 hy (by rw [List.length_set, rowL_len]) (d i)
  rw [rowL_swap] at h2
  exact ⟨_, rfl, PR.drew h2, fun w0 h0 => (stPt_fr (stPt_fr h0 i (d j)) j (d i)).drew⟩
end
section
variable {w : World} {base : Nat}
set_option maxRecDepth 100000 in
set_option maxHeartbeats 6400000 in
theorem swaprange_any (d : Nat → Pt) (g n cap a b m : Nat) (cv : Value) (H : PR w base g n cap d) (hab : a + m ≤ b) (hb : b + m ≤ n) (hn : n < 1000000) :
    Calls Try.prog 135 #[.slice (some ⟨g, 0, none⟩) n cap, .int .i64 a, .int .i64 b, .int .i64 m, cv] w fun e w' => e = .returned (.tuple #[]) ∧ PR w' base g n cap (swr d a b m) ∧ Fr (One g) w w' := by
  have HH := hid H
  have H0 := hid (show PR w base g n cap (swr d a b 0) by rw [swr_zero]; exact H)
  clear H
  go_enter Try.func135, Try.ntmps135
  go_wp2_with fail
  go_loopw [10] (fun v wr => ∃ i : Nat, i ≤ m ∧ v = .int .i64 i ∧ Hid (PR wr base g n cap (swr d a b i)) ∧ Hid (Fr (One g) w wr)) (fun v _ => m - (intOf v).toNat)
  case atStart => exact ⟨0, by omega, rfl, H0, hid (Fr.refl _ _)⟩
  case round =>
    obtain ⟨i, hi, rfl, HP, HF⟩ := hrel
    by_cases hlt : i < m
    case pos =>
      have hai : a + i < n := by omega
      have hbi : b + i < n := by omega
      obtain ⟨wz, hwz, hsz, hfz⟩ := HP.out.swapped (i := a + i) (j := b + i) hai hbi
      rw [swr_step hab hlt] at hsz
      have HSZ := hid hsz
      have HFZ := hid (hfz _ HF.out)
      clear hsz hfz
      have HP2 : PR wr.drew base g n cap (swr d a b i) := HP.out
      obtain ⟨p0, p1, p2, p3, p4, p5, p6⟩ := HP2.cells hai
      obtain ⟨q0, q1, q2, q3, q4, q5, q6⟩ := HP2.cells hbi
      obtain ⟨r0, r1, r2, r3, r4, r5, r6⟩ := HP.out.cells hai
      obtain ⟨s0, s1, s2, s3, s4, s5, s6⟩ := HP.out.cells hbi
      have hfz : ∀ k, wr.drew.frozen? ⟨g, k, none⟩ = false := fun k => own_free HP2 k
      have hfz2 : ∀ k, wr.frozen? ⟨g, k, none⟩ = false := fun k => own_free HP.out k
      clear HP2
      generalize swr d a b i (a + i) = x at *
      generalize swr d a b i (b + i) = y at *
      obtain ⟨⟨xc, xb, xd, xp, xt⟩, xk, xj⟩ := x
      obtain ⟨⟨yc, yb, yd, yp, yt⟩, yk, yj⟩ := y
      simp only at p0 p1 p2 p3 p4 p5 p6 q0 q1 q2 q3 q4 q5 q6 r0 r1 r2 r3 r4 r5 r6 s0 s1 s2 s3 s4 s5 s6
      unfold stPt at hwz
      simp only at hwz
      obtain ⟨A, hA⟩ : ∃ A, a + i = A := ⟨_, rfl⟩
      obtain ⟨B, hB⟩ : ∃ B, b + i = B := ⟨_, rfl⟩
      have hAw : IntKind.i64.wrap ((a : Int) + (i : Int)) = (A : Int) := by rw [IntKind.wrap_i64]; omega
      have hBw : IntKind.i64.wrap ((b : Int) + (i : Int)) = (B : Int) := by rw [IntKind.wrap_i64]; omega
      rw [hA] at p0 p1 p2 p3 p4 p5 p6 r0 r1 r2 r3 r4 r5 r6 hwz hai
      rw [hB] at q0 q1 q2 q3 q4 q5 q6 s0 s1 s2 s3 s4 s5 s6 hwz hbi
      have hne : A ≠ B := by omega
      have HWZ := hid hwz
      clear hA hB hwz
      go_wp2_with fail
      go_region
      rw [← HWZ.out]
      clear p0 p1 p2 p3 p4 p5 p6 q0 q1 q2 q3 q4 q5 q6 r0 r1 r2 r3 r4 r5 r6 s0 s1 s2 s3 s4 s5 s6 hfz hfz2 HWZ
      go_wp2_with fail
      go_roundw
      case rel => exact ⟨i + 1, by omega, by go_num, HSZ, HFZ⟩
      case measure => simp [intOf]; omega
    case neg =>
      obtain rfl : i = m := by omega
      go_wp2_with fail
      go_end0
      exact ⟨rfl, HP.out, HF.out⟩
end
end Go.Proofs.Ytmhochjpdedlgaa
