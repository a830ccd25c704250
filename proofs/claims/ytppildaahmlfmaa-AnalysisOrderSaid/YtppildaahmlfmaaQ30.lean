/- Joined: Stab1, Stab2, Stab3. -/
import Derived.Test.YtppildaahmlfmaaQ28
import Derived.Test.YtppildaahmlfmaaQ19
import Derived.Test.YtppildaahmlfmaaQ29
import Derived.BigRegion
import Derived.Shelf.SlSortCmp.QuietGrown
set_option linter.unusedVariables false
set_option linter.unusedSimpArgs false
/- slices.swapRangeCmpFunc and slices.rotateCmpFunc at parts (contracts). -/
set_option linter.unusedVariables false
set_option linter.unusedSimpArgs false
namespace Go.Proofs.Ytppildaahmlfmaa
open Go.RowKit

def rowL (d : Nat → Pt) (n : Nat) : List Pt := (List.range n).map d
theorem rowL_len (d : Nat → Pt) (n : Nat) : (rowL d n).length = n := by simp [rowL]
theorem rowL_get (d : Nat → Pt) {n i : Nat} (h : i < n) : (rowL d n)[i]? = some (d i) := by simp [rowL, h]
theorem rowL_swap (d : Nat → Pt) (n : Nat) {i j : Nat} : ((rowL d n).set i (d j)).set j (d i) = rowL (swf d i j) n := by
  apply List.ext_getElem?
  intro k
  unfold rowL swf
  simp only [List.getElem?_set, List.length_set, List.length_map, List.length_range, List.getElem?_map]
  by_cases hk : k < n
  · by_cases h1 : j = k
    · subst h1
      by_cases h2 : i = j
      · subst h2; simp [hk]
      · rw [if_pos rfl]; simp [hk, Ne.symm h2]
    · by_cases h2 : i = k
      · subst h2; simp [hk, h1]
      · simp [hk, h1, h2, Ne.symm h1, Ne.symm h2]
  · by_cases h1 : j = k
    · subst h1; simp [hk]
    · by_cases h2 : i = k
      · subst h2; simp [hk, h1]
      · simp [hk, h1, h2]
/-- A row of parts as a function of the index. -/
def PR (w : World) (base g n cap : Nat) (d : Nat → Pt) : Prop := w.ownsRow base 67 7 (.slice (some ⟨g, 0, none⟩) n cap) n (flat encPt (rowL d n))
section
variable {w : World} {base g n cap : Nat} {d : Nat → Pt}
theorem PR.cells (H : PR w base g n cap d) {i : Nat} (hi : i < n) : w.cell? ⟨g, i * 7, none⟩ = some (.int .i64 (d i).p.core) ∧ w.cell? ⟨g, i * 7 + 1, none⟩ = some (.int .i64 (d i).p.bud) ∧ w.cell? ⟨g, i * 7 + 2, none⟩ = some (.int .i64 (d i).p.dl) ∧
    w.cell? ⟨g, i * 7 + 3, none⟩ = some (.int .i64 (d i).p.prio) ∧ w.cell? ⟨g, i * 7 + 4, none⟩ = some (.bool (d i).p.tight) ∧ w.cell? ⟨g, i * 7 + 5, none⟩ = some (.int .i64 (d i).task) ∧ w.cell? ⟨g, i * 7 + 6, none⟩ = some (.int .i64 (d i).k) := by
  have h : ∀ k u, (encPt (d i))[k]? = some u → w.cell? ⟨g, i * 7 + k, none⟩ = some u := fun k u hk => by
    obtain ⟨g', e, hc⟩ := row_cell encPt_len H (rowL_get d hi) hk
    injection e with e
    injection e with e
    subst e
    exact hc
  exact ⟨by simpa using h 0 _ rfl, h 1 _ rfl, h 2 _ rfl, h 3 _ rfl, h 4 _ rfl, h 5 _ rfl, h 6 _ rfl⟩
theorem PR.room (H : PR w base g n cap d) (h : 0 < n) : n ≤ cap ∧ cap ≤ maxLen ∧ g < w.heap.size := by
  obtain ⟨g', cap', cur, hv, hbg, hg, hcap, hcm, hsz, htk⟩ := own_shape H h
  injection hv with e1 _ e2
  injection e1 with e1
  injection e1 with e1
  subst e1
  subst e2
  exact ⟨hcap, hcm, blk_lt hg⟩
theorem PR.kept {w' : World} {S : Nat → Prop} (H : PR w base g n cap d) (k : Fr S w w') (h : ¬ S g) : PR w' base g n cap d := own_kept H k (fun b hb => by injection hb with hb; subst hb; exact h)
theorem PR.drew (H : PR w base g n cap d) : PR w.drew base g n cap d := H
/-- Seven stores. -/
def stPt (w : World) (g q : Nat) (x : Pt) : World := (((((((w.setCell ⟨g, q * 7, none⟩ (.int .i64 x.p.core)).setCell ⟨g, q * 7 + 1, none⟩ (.int .i64 x.p.bud)).setCell ⟨g, q * 7 + 2, none⟩ (.int .i64 x.p.dl)).setCell ⟨g, q * 7 + 3, none⟩ (.int .i64 x.p.prio)).setCell ⟨g, q * 7 + 4, none⟩ (.bool x.p.tight)).setCell ⟨g, q * 7 + 5, none⟩ (.int .i64 x.task)).setCell ⟨g, q * 7 + 6, none⟩ (.int .i64 x.k))
theorem stPt_fr {w0 W : World} {g : Nat} (h : Fr (One g) w0 W) (q : Nat) (x : Pt) : Fr (One g) w0 (stPt W g q x) := (((((((h.one (q * 7) (.int .i64 x.p.core)).one (q * 7 + 1) (.int .i64 x.p.bud)).one (q * 7 + 2) (.int .i64 x.p.dl)).one (q * 7 + 3) (.int .i64 x.p.prio)).one (q * 7 + 4) (.bool x.p.tight)).one (q * 7 + 5) (.int .i64 x.task)).one (q * 7 + 6) (.int .i64 x.k))
theorem stPt_own {w : World} {base g n cap : Nat} {l : List Pt} (H : w.ownsRow base 67 7 (.slice (some ⟨g, 0, none⟩) n cap) n (flat encPt l)) {i : Nat} {y : Pt} (hy : l[i]? = some y) (hn : n = l.length) (x : Pt) :
    (stPt w g i x).ownsRow base 67 7 (.slice (some ⟨g, 0, none⟩) n cap) n (flat encPt (l.set i x)) := own_part H hy hn x
/-- The two runs of stores of an exchange, in a region that draws. -/
theorem PR.swapped (H : PR w base g n cap d) {i j : Nat} (hi : i < n) (hj : j < n) :
    ∃ wz : World, wz = (stPt (stPt w g i (d j)) g j (d i)).drew ∧ PR wz base g n cap (swf d i j) ∧ ∀ w0, Fr (One g) w0 w → Fr (One g) w0 wz := by
  have h1 := stPt_own H (rowL_get d hi) (rowL_len d n).symm (d j)
  have hj2 : ∃ y, ((rowL d n).set i (d j))[j]? = some y := ⟨_, List.getElem?_eq_getElem (by rw [List.length_set, rowL_len]; exact hj)⟩
  obtain ⟨y, hy⟩ := hj2
  have h2 := stPt_own h1 hy (by rw [List.length_set, rowL_len]) (d i)
  rw [rowL_swap] at h2
  exact ⟨_, rfl, PR.drew h2, fun w0 h0 => (stPt_fr (stPt_fr h0 i (d j)) j (d i)).drew⟩
end
section
variable {w : World} {base : Nat}
set_option maxRecDepth 100000 in
set_option maxHeartbeats 6400000 in
theorem swaprange_any (d : Nat → Pt) (g n cap a b m : Nat) (cv : Value) (H : PR w base g n cap d) (hab : a + m ≤ b) (hb : b + m ≤ n) (hn : n < 1000000) :
    Calls Try.prog 92 #[.slice (some ⟨g, 0, none⟩) n cap, .int .i64 a, .int .i64 b, .int .i64 m, cv] w fun e w' => e = .returned (.tuple #[]) ∧ PR w' base g n cap (swr d a b m) ∧ Fr (One g) w w' := by
  have HH := hid H
  have H0 := hid (show PR w base g n cap (swr d a b 0) by rw [swr_zero]; exact H)
  clear H
  go_enter Try.func92, Try.ntmps92
  go_wp2_with fail
  go_loopw [10] (fun v wr => ∃ i : Nat, i ≤ m ∧ v = .int .i64 i ∧ Hid (PR wr base g n cap (swr d a b i)) ∧ Hid (Fr (One g) w wr)) (fun v _ => m - (intOf v).toNat)
  case atStart => exact ⟨0, by omega, rfl, H0, hid (Fr.refl _ _)⟩
  case round =>
    obtain ⟨i, hi, rfl, HP, HF⟩ := hrel
    by_cases hlt : i < m
    case pos =>
      have hai : a + i < n := by omega
      have hbi : b + i < n := by omega
      obtain ⟨wz, hwz, hsz, hfz⟩ := HP.out.swapped (i := a + i) (j := b + i) hai hbi
      rw [swr_step hab hlt] at hsz
      have HSZ := hid hsz
      have HFZ := hid (hfz _ HF.out)
      clear hsz hfz
      have HP2 : PR wr.drew base g n cap (swr d a b i) := HP.out
      obtain ⟨p0, p1, p2, p3, p4, p5, p6⟩ := HP2.cells hai
      obtain ⟨q0, q1, q2, q3, q4, q5, q6⟩ := HP2.cells hbi
      obtain ⟨r0, r1, r2, r3, r4, r5, r6⟩ := HP.out.cells hai
      obtain ⟨s0, s1, s2, s3, s4, s5, s6⟩ := HP.out.cells hbi
      have hfz : ∀ k, wr.drew.frozen? ⟨g, k, none⟩ = false := fun k => own_free HP2 k
      have hfz2 : ∀ k, wr.frozen? ⟨g, k, none⟩ = false := fun k => own_free HP.out k
      clear HP2
      generalize swr d a b i (a + i) = x at *
      generalize swr d a b i (b + i) = y at *
      obtain ⟨⟨xc, xb, xd, xp, xt⟩, xk, xj⟩ := x
      obtain ⟨⟨yc, yb, yd, yp, yt⟩, yk, yj⟩ := y
      simp only at p0 p1 p2 p3 p4 p5 p6 q0 q1 q2 q3 q4 q5 q6 r0 r1 r2 r3 r4 r5 r6 s0 s1 s2 s3 s4 s5 s6
      unfold stPt at hwz
      simp only at hwz
      obtain ⟨A, hA⟩ : ∃ A, a + i = A := ⟨_, rfl⟩
      obtain ⟨B, hB⟩ : ∃ B, b + i = B := ⟨_, rfl⟩
      have hAw : IntKind.i64.wrap ((a : Int) + (i : Int)) = (A : Int) := by rw [IntKind.wrap_i64]; omega
      have hBw : IntKind.i64.wrap ((b : Int) + (i : Int)) = (B : Int) := by rw [IntKind.wrap_i64]; omega
      rw [hA] at p0 p1 p2 p3 p4 p5 p6 r0 r1 r2 r3 r4 r5 r6 hwz hai
      rw [hB] at q0 q1 q2 q3 q4 q5 q6 s0 s1 s2 s3 s4 s5 s6 hwz hbi
      have hne : A ≠ B := by omega
      have HWZ := hid hwz
      clear hA hB hwz
      go_wp2_with fail
      go_region
      rw [← HWZ.out]
      clear p0 p1 p2 p3 p4 p5 p6 q0 q1 q2 q3 q4 q5 q6 r0 r1 r2 r3 r4 r5 r6 s0 s1 s2 s3 s4 s5 s6 hfz hfz2 HWZ
      go_wp2_with fail
      go_roundw
      case rel => exact ⟨i + 1, by omega, by go_num, HSZ, HFZ⟩
      case measure => simp [intOf]; omega
    case neg =>
      obtain rfl : i = m := by omega
      go_wp2_with fail
      go_end0
      exact ⟨rfl, HP.out, HF.out⟩
end
end Go.Proofs.Ytppildaahmlfmaa
/- slices.rotateCmpFunc at parts (contract). -/
set_option linter.unusedVariables false
set_option linter.unusedSimpArgs false
namespace Go.Proofs.Ytppildaahmlfmaa
open Go.RowKit

section
variable {w : World} {base : Nat}
set_option maxRecDepth 100000 in
set_option maxHeartbeats 6400000 in
theorem rotate_any (d : Nat → Pt) (g n cap a m b : Nat) (cv : Value) (H : PR w base g n cap d) (h1 : a < m) (h2 : m < b) (hb : b ≤ n) (hn : n < 1000000) :
    Calls Try.prog 81 #[.slice (some ⟨g, 0, none⟩) n cap, .int .i64 a, .int .i64 m, .int .i64 b, cv] w fun e w' => e = .returned (.tuple #[]) ∧ PR w' base g n cap (rot d a m b) ∧ Fr (One g) w w' := by
  have HH := hid H
  have HSW := hid (fun (W : World) (dk : Nat → Pt) (x y z : Nat) (hx : PR W base g n cap dk) (h3 : x + z ≤ y) (h4 : y + z ≤ n) => swaprange_any (w := W) dk g n cap x y z cv hx h3 h4 hn)
  have hs1 : IntKind.i64.wrap ((m : Int) - (a : Int)) = ((m - a : Nat) : Int) := by rw [IntKind.wrap_i64]; omega
  have hs2 : IntKind.i64.wrap ((b : Int) - (m : Int)) = ((b - m : Nat) : Int) := by rw [IntKind.wrap_i64]; omega
  clear H
  go_enter Try.func81, Try.ntmps81
  go_wp2_with fail
  go_loopw [10, 11] (fun u v wr => ∃ (i j : Nat) (dk : Nat → Pt), u = .int .i64 i ∧ v = .int .i64 j ∧ 0 < i ∧ 0 < j ∧ i ≤ m ∧ m + j ≤ n ∧ Hid (PR wr base g n cap dk) ∧ Hid (rot dk (m - i) m (m + j) = rot d a m b) ∧ Hid (Fr (One g) w wr)) (fun u v _ => (intOf u).toNat + (intOf v).toNat)
  case atStart => exact ⟨m - a, b - m, d, by go_num, by go_num, by omega, by omega, by omega, by omega, HH, hid (by rw [show m - (m - a) = a by omega, show m + (b - m) = b by omega]), hid (Fr.refl _ _)⟩
  case round =>
    obtain ⟨i, j, dk, rfl, rfl, hi, hj, him, hjn, HP, HR, HF⟩ := hrel
    obtain ⟨A, hA⟩ : ∃ A, m - i = A := ⟨_, rfl⟩
    have hAw : IntKind.i64.wrap ((m : Int) - (i : Int)) = (A : Int) := by rw [IntKind.wrap_i64]; omega
    have HA := hid hA
    clear hs1 hs2
    by_cases hij : i = j
    · subst hij
      have hne : ((i : Int) != (i : Int)) = false := by simp
      clear hA
      go_wp2_with fail
      refine (HSW.out _ dk A m i HP.out (by have := HA.out; omega) (by omega)).mono ?_
      rintro e w1 ⟨rfl, hp, hf⟩
      have HP1 := hid hp
      have HF1 := hid (HF.out.trans hf (fun x hx => .inl hx))
      clear hp hf
      go_wp2_with fail
      go_end0
      refine ⟨rfl, ?_, HF1.out⟩
      rw [← HR.out, ← rot_last him, HA.out]
      exact HP1.out
    · have hne : ((i : Int) != (j : Int)) = true := bne_iff_ne.2 (by omega)
      rcases Nat.lt_or_ge j i with hlt | hge
      · have hgt : (j : Int) < (i : Int) := by omega
        clear hA
        go_wp2_with fail
        refine (HSW.out _ dk A m j HP.out (by have := HA.out; omega) (by omega)).mono ?_
        rintro e w1 ⟨rfl, hp, hf⟩
        have HP1 := hid hp
        have HF1 := hid (HF.out.trans hf (fun x hx => .inl hx))
        clear hp hf
        go_wp2_with fail
        go_roundw
        case rel => exact ⟨i - j, j, _, by go_num, rfl, by omega, by omega, by omega, by omega, HP1, hid (by rw [← HA.out, rot_left hlt him]; exact HR.out), HF1⟩
        case measure => simp [intOf]; omega
      · have hgt : ¬ (j : Int) < (i : Int) := by omega
        obtain ⟨B, hB⟩ : ∃ B, m + j - i = B := ⟨_, rfl⟩
        have hBw : IntKind.i64.wrap ((m : Int) + (j : Int) - (i : Int)) = (B : Int) := by rw [IntKind.wrap_i64]; omega
        have HB := hid hB
        clear hA hB
        go_wp2_with fail
        refine (HSW.out _ dk A B i HP.out (by have := HA.out; have := HB.out; omega) (by have := HB.out; omega)).mono ?_
        rintro e w1 ⟨rfl, hp, hf⟩
        have HP1 := hid hp
        have HF1 := hid (HF.out.trans hf (fun x hx => .inl hx))
        clear hp hf
        go_wp2_with fail
        go_roundw
        case rel => exact ⟨i, j - i, _, rfl, by go_num, by omega, by omega, by omega, by omega, HP1, hid (by rw [← HA.out, ← HB.out, rot_right (by omega) him]; exact HR.out), HF1⟩
        case measure => simp [intOf]; omega
end
end Go.Proofs.Ytppildaahmlfmaa
/- slices.insertionSortCmpFunc at parts, by deadlines (contract). -/
set_option linter.unusedVariables false
set_option linter.unusedSimpArgs false
namespace Go.Proofs.Ytppildaahmlfmaa
open Go.RowKit Go.Sort

theorem Try.mixed_ : Try.prog.follows .mixedOrders = true := by kernel_rfl
/-- Parts by their deadlines, ties by their tasks. -/
def ptO : Order Pt where
  lo x y := decide (x.p.dl < y.p.dl)
  tk x := x.task
  asym x y h := by simp at h ⊢; omega
  tr x y z h k := by simp at h k ⊢; omega
theorem ptO_lo (x y : Pt) : ptO.lo x y = decide (cmp3 x.p.dl y.p.dl < 0) := by
  show decide _ = decide _
  unfold cmp3
  split
  · simp [*]
  · split <;> simp [*]
theorem ptO_true {x y : Pt} (h : cmp3 x.p.dl y.p.dl < 0) : ptO.lo x y = true := by rw [ptO_lo]; exact decide_eq_true h
theorem ptO_false {x y : Pt} (h : ¬ cmp3 x.p.dl y.p.dl < 0) : ptO.lo x y = false := by rw [ptO_lo]; exact decide_eq_false h
section
variable {w : World} {base g n cap : Nat} {d : Nat → Pt}
theorem fr_grown (w : World) (q : Nat) (os : Array Obj) : Fr NoB w (grow (w.drewN q) os) :=
  ⟨rfl, rfl, rfl, by rw [size_grow]; exact Nat.le_add_right _ _, fun k hk _ => heap_grow_old (w.drewN q) os hk⟩
theorem PR.grown (H : PR w base g n cap d) (q : Nat) (os : Array Obj) : PR (grow (w.drewN q) os) base g n cap d := H.kept (fr_grown w q os) (fun h => h)
theorem cmp_class (w : World) (x y : Pt) : Calls Try.prog 32 #[.agg (encPt x).toArray, .agg (encPt y).toArray] w fun e w' => e = .returned (.int .i64 (cmp3 x.p.dl y.p.dl)) ∧ ∃ q os', w' = grow (w.drewN q) os' := by
  refine (rankcmp_any x y).mono ?_
  rintro e w' ⟨rfl, rfl⟩
  exact ⟨rfl, 0, #[_, _], by rw [alloc_eq_grow, alloc_eq_grow, grow_grow]; rfl⟩
theorem Mv.single {α : Type} {d d' : Nat → α} {a : Nat} (h : Mv a (a + 1) d d') : d' = d := by
  funext k
  by_cases e : a ≤ k ∧ k < a + 1
  · obtain ⟨j, h1, h2, h3⟩ := h.fro k e.1 e.2
    rw [h3, show j = k by omega]
  · exact h.out k e
set_option maxRecDepth 100000 in
set_option maxHeartbeats 6400000 in
theorem insertion_any (d : Nat → Pt) (g n cap a b : Nat) (H : PR w base g n cap d) (hr : Rising ptO d a b) (hab : a ≤ b) (hb : b ≤ n) (hn : n < 1000000) :
    Calls Try.prog 64 #[.slice (some ⟨g, 0, none⟩) n cap, .int .i64 a, .int .i64 b, .func (.func 32) #[] #[]] w fun e w' => e = .returned (.tuple #[]) ∧ ∃ d', PR w' base g n cap d' ∧ Mv a b d d' ∧ Sd ptO d' a b ∧ Fr (One g) w w' := by
  have HH := hid H
  have HRI := hid hr
  have HIN := hid (InsO.start (O := ptO) (d := d) hab)
  have mixed := Try.mixed_
  clear H hr
  go_enter Try.func64, Try.ntmps64
  go_wp2_with fail
  go_loopw [8] (fun v wr => ∃ (i : Nat) (dk : Nat → Pt), v = .int .i64 i ∧ (i ≤ b ∨ i = a + 1) ∧ Hid (PR wr base g n cap dk) ∧ Hid (InsO ptO a b d i dk) ∧ Hid (Fr (One g) w wr)) (fun v _ => b - (intOf v).toNat)
  case atStart => exact ⟨a + 1, d, by go_num, .inr rfl, HH, HIN, hid (Fr.refl _ _)⟩
  case round =>
    obtain ⟨i, dk, rfl, hib, HP, HO, HF⟩ := hrel
    by_cases hlt : i < b
    case pos =>
      have hai := HO.out.ai
      have HI := hid (HO.out.next HRI.out hlt)
      clear hib
      go_wp2_with fail
      obtain ⟨ws, hws⟩ : ∃ ws, ws = wr := ⟨_, rfl⟩
      subst hws
      go_loopw [9] (fun v wr => ∃ (j : Nat) (dj : Nat → Pt), v = .int .i64 j ∧ a ≤ j ∧ j ≤ i ∧ Hid (PR wr base g n cap dj) ∧ Hid (InsI ptO a b d i j dj) ∧ Hid (Fr (One g) w wr)) (fun v _ => (intOf v).toNat)
      case atStart => exact ⟨i, dk, rfl, hai, Nat.le_refl _, HP, HI, HF⟩
      case round =>
        obtain ⟨j, dj, rfl, haj, hji, HPj, HIj, HFj⟩ := hrel
        by_cases hja : a < j
        case pos =>
          obtain ⟨jp, rfl⟩ : ∃ jp, j = jp + 1 := ⟨j - 1, by omega⟩
          have hj1 : jp + 1 < n := by omega
          have hj0 : jp < n := by omega
          have hwp : IntKind.i64.wrap (((jp + 1 : Nat) : Int) - 1) = (jp : Int) := by rw [IntKind.wrap_i64]; omega
          have hgt : (a : Int) < ((jp + 1 : Nat) : Int) := by omega
          obtain ⟨J, hJ⟩ : ∃ J, jp + 1 = J := ⟨_, rfl⟩
          have HSW := hid (fun (q : Nat) (os : Array Obj) => (HPj.out.grown q os).swapped (i := J) (j := jp) (by omega) hj0)
          have HG := hid (fun (q : Nat) (os : Array Obj) => HPj.out.grown q os)
          have hFG := fun (q : Nat) (os : Array Obj) => HFj.out.trans (fr_grown wr q os) (fun _ h => h.elim)
          have HFG := hid hFG
          have hcg := fun (q : Nat) (os : Array Obj) => cmp_class (grow (wr.drewN q) os) (dj J) (dj jp)
          have hp := fun (q : Nat) (os : Array Obj) => (HPj.out.grown q os).cells (i := J) (by omega)
          have hq := fun (q : Nat) (os : Array Obj) => (HPj.out.grown q os).cells (i := jp) hj0
          have p0 := fun q os => (hp q os).1
          have p1 := fun q os => (hp q os).2.1
          have p2 := fun q os => (hp q os).2.2.1
          have p3 := fun q os => (hp q os).2.2.2.1
          have p4 := fun q os => (hp q os).2.2.2.2.1
          have p5 := fun q os => (hp q os).2.2.2.2.2.1
          have p6 := fun q os => (hp q os).2.2.2.2.2.2
          have q0 := fun q os => (hq q os).1
          have q1 := fun q os => (hq q os).2.1
          have q2 := fun q os => (hq q os).2.2.1
          have q3 := fun q os => (hq q os).2.2.2.1
          have q4 := fun q os => (hq q os).2.2.2.2.1
          have q5 := fun q os => (hq q os).2.2.2.2.2.1
          have q6 := fun q os => (hq q os).2.2.2.2.2.2
          clear hp hq hFG
          rw [hJ] at hj1 hwp hgt hji haj hja HIj ⊢
          have HJ := hid hJ
          have HSTOP := hid (fun (h : ¬ cmp3 (dj J).p.dl (dj jp).p.dl < 0) => HIj.out.stop (.inr (by rw [← HJ.out]; rw [← HJ.out] at h; exact ptO_false h)))
          have HGO := hid (fun (h : cmp3 (dj J).p.dl (dj jp).p.dl < 0) => HIj.out.swap hja (by rw [← HJ.out]; rw [← HJ.out] at h; exact ptO_true h))
          clear hJ
          generalize dj J = x at *
          generalize dj jp = y at *
          obtain ⟨⟨xc, xb, xd, xp, xt⟩, xk, xj⟩ := x
          obtain ⟨⟨yc, yb, yd, yp, yt⟩, yk, yj⟩ := y
          unfold encPt at hcg
          simp only at p0 p1 p2 p3 p4 p5 p6 q0 q1 q2 q3 q4 q5 q6 hcg HSTOP HGO HSW
          by_cases hc : cmp3 xd yd < 0
          case pos =>
            obtain ⟨c, hcc⟩ : ∃ c, cmp3 xd yd = c := ⟨_, rfl⟩
            have HGO2 := hid (HGO.out hc)
            rw [hcc] at hc hcg
            clear hcc HGO HSTOP
            go_wp2_with fail
            go_quiet_grown (first | (go_at_call 32; refine Calls.grown_of (hcg _ _)))
            have a0 := p0 nq osq
            have a1 := p1 nq osq
            have a2 := p2 nq osq
            have a3 := p3 nq osq
            have a4 := p4 nq osq
            have a5 := p5 nq osq
            have a6 := p6 nq osq
            have b0 := q0 nq osq
            have b1 := q1 nq osq
            have b2 := q2 nq osq
            have b3 := q3 nq osq
            have b4 := q4 nq osq
            have b5 := q5 nq osq
            have b6 := q6 nq osq
            clear p0 p1 p2 p3 p4 p5 p6 q0 q1 q2 q3 q4 q5 q6 hcg
            have hPW := HG.out nq osq
            obtain ⟨wz, hwz, hsz, hfz⟩ := HSW.out nq osq
            have HFZ := hid (hfz _ (HFG.out nq osq))
            have HSZ := hid hsz
            clear HG HSW HFG hsz hfz
            generalize grow (wr.drewN nq) osq = W2 at *
            unfold stPt at hwz
            simp only at hwz
            have hfz1 : ∀ k, W2.frozen? ⟨g, k, none⟩ = false := fun k => own_free hPW k
            have hfz2 : ∀ k, W2.drew.frozen? ⟨g, k, none⟩ = false := fun k => own_free hPW k
            have r0 : W2.drew.cell? ⟨g, J * 7, none⟩ = some (.int .i64 xc) := a0
            have r1 : W2.drew.cell? ⟨g, J * 7 + 1, none⟩ = some (.int .i64 xb) := a1
            have r2 : W2.drew.cell? ⟨g, J * 7 + 2, none⟩ = some (.int .i64 xd) := a2
            have r3 : W2.drew.cell? ⟨g, J * 7 + 3, none⟩ = some (.int .i64 xp) := a3
            have r4 : W2.drew.cell? ⟨g, J * 7 + 4, none⟩ = some (.bool xt) := a4
            have r5 : W2.drew.cell? ⟨g, J * 7 + 5, none⟩ = some (.int .i64 xk) := a5
            have r6 : W2.drew.cell? ⟨g, J * 7 + 6, none⟩ = some (.int .i64 xj) := a6
            have s0 : W2.drew.cell? ⟨g, jp * 7, none⟩ = some (.int .i64 yc) := b0
            have s1 : W2.drew.cell? ⟨g, jp * 7 + 1, none⟩ = some (.int .i64 yb) := b1
            have s2 : W2.drew.cell? ⟨g, jp * 7 + 2, none⟩ = some (.int .i64 yd) := b2
            have s3 : W2.drew.cell? ⟨g, jp * 7 + 3, none⟩ = some (.int .i64 yp) := b3
            have s4 : W2.drew.cell? ⟨g, jp * 7 + 4, none⟩ = some (.bool yt) := b4
            have s5 : W2.drew.cell? ⟨g, jp * 7 + 5, none⟩ = some (.int .i64 yk) := b5
            have s6 : W2.drew.cell? ⟨g, jp * 7 + 6, none⟩ = some (.int .i64 yj) := b6
            have hne : J ≠ jp := by have := HJ.out; omega
            have HWZ := hid hwz
            clear hPW hwz
            go_wp2_with fail
            go_region
            rw [← HWZ.out]
            clear a0 a1 a2 a3 a4 a5 a6 b0 b1 b2 b3 b4 b5 b6 r0 r1 r2 r3 r4 r5 r6 s0 s1 s2 s3 s4 s5 s6 hfz1 hfz2 HWZ
            go_wp2_with fail
            go_roundw
            case rel => exact ⟨jp, _, by go_num, by have := HJ.out; omega, by have := HJ.out; omega, HSZ, hid (by have h := HGO2.out; rw [show J - 1 = jp by have := HJ.out; omega] at h; exact h), HFZ⟩
            case measure => have := HJ.out; simp [intOf]; omega
          case neg =>
            obtain ⟨c, hcc⟩ : ∃ c, cmp3 xd yd = c := ⟨_, rfl⟩
            have HST := hid (HSTOP.out hc)
            rw [hcc] at hc hcg
            clear hcc HGO HSTOP
            go_wp2_with fail
            go_quiet_grown (first | (go_at_call 32; refine Calls.grown_of (hcg _ _)))
            clear p0 p1 p2 p3 p4 p5 p6 q0 q1 q2 q3 q4 q5 q6 hcg
            have HPW := hid (HG.out nq osq)
            have HFZ := hid (HFG.out nq osq)
            clear HG HSW HFG
            generalize grow (wr.drewN nq) osq = W2 at *
            go_wp2_with fail
            go_roundw
            case rel => exact ⟨i + 1, _, by go_num, by omega, HPW, HST, HFZ⟩
            case measure => simp [intOf]; omega
        case neg =>
          obtain rfl : j = a := by omega
          have HST := hid (HIj.out.stop (.inl rfl))
          have HPW := hid (PR.drew HPj.out)
          have HFZ := hid HFj.out.drew
          go_wp2_with fail
          go_region
          go_wp2_with fail
          go_roundw
          case rel => exact ⟨i + 1, _, by go_num, by omega, HPW, HST, HFZ⟩
          case measure => simp [intOf]; omega
    case neg =>
      go_wp2_with fail
      go_end0
      refine ⟨rfl, dk, HP.out, ?_, ?_, HF.out⟩
      · rcases Nat.lt_or_ge b i with h | h
        · obtain rfl : i = a + 1 := by omega
          obtain rfl : a = b := by omega
          rw [HO.out.mv.single]
          exact Mv.refl _ _ _
        · rw [show b = i by omega]
          exact HO.out.mv
      · exact fun p q h1 h2 h3 => HO.out.sd p q h1 h2 (by omega)
end
end Go.Proofs.Ytppildaahmlfmaa
