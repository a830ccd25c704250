/- Joined: Trace13. -/
import Derived.Test.YtmhochjpdedlgaaQ44
import Derived.Deep.QuietTactic
import Derived.BigQuiet
import Derived.BigRegion
set_option linter.unusedVariables false
set_option linter.unusedSimpArgs false
/- Package trace: the look's amount (contract). -/
set_option linter.unusedVariables false
set_option linter.unusedSimpArgs false
namespace Go.Proofs.Ytmhochjpdedlgaa
open Go.RowKit Go.Shelf Go.Maps

attribute [local irreducible] wpQuiet
section
variable {w : World}
set_option maxRecDepth 100000 in
set_option maxHeartbeats 6400000 in
theorem amount_any (K Z : Nat) (T : Tb) (X : Tr) (At : Option Addr) (nt ct : Nat) (Ae : Option Addr) (ne ce : Nat) (cv : Value) (A : Option Addr) (n cp : Nat) (A2 : Option Addr) (m c2 : Nat) (i : Nat) (j : Jb)
    (H : LkW w K Z T X At nt ct Ae ne ce cv A n cp A2 m c2) (hj : X.jobs[i]? = some j) (hh : jobHead T.sys.tasks.length X.slots.length j = true) :
    Calls Try.prog 77 #[.pointer (some ⟨K, 0, none⟩), .int .i64 i] w fun e w' => e = .returned (.bool (amountB T.sys X i)) ∧ Below w.heap.size w w' := by
  have hn := H.tr.slots.len
  have hm := H.tr.jobs.len
  have hnt := H.ts.len
  have hn6 := H.n6
  have hm6 := H.m6
  have hntm : nt ≤ 9223372036854775807 := by have := H.ts.room; unfold maxLen at this; omega
  have hi : i < m := by have := (List.getElem?_eq_some_iff.1 hj).1; omega
  have hh' := of_decide_eq_true hh
  obtain ⟨q, hq⟩ : ∃ q : Nat, j.task = q := ⟨j.task.toNat, by omega⟩
  have hqn : q < nt := by omega
  obtain ⟨t, ht⟩ : ∃ t, T.sys.tasks[q]? = some t := ⟨_, List.getElem?_eq_getElem (by omega)⟩
  have HAM := hid (show amountB T.sys X i = (decide ((unitN X j n : Int) ≤ t.wc) && (decide (j.fin = -1) || decide (unitN X j (j.fin.toNat - 1) < unitN X j j.fin.toNat))) from by
    unfold amountB tskAt
    rw [hj]
    simp only [hq, Int.toNat_natCast, ht, Option.getD_some, ← hn])
  obtain ⟨b, o, cs, hA, hbl, _, hc, hr⟩ := H.tr.jobs.at hj
  subst hA
  have hr' : cs = [.int .i64 j.task, .int .i64 j.arr, .int .i64 j.fin, .bool j.cut, .bool j.miss] := hr
  subst hr'
  obtain ⟨b3, o3, cs3, hA3, hbl3, _, hc3, u3, hr3, hru3⟩ := H.ts.at ht
  subst hA3
  subst hr3
  have HH := hid H
  have HJ := hid hj
  have HF := hid (show -1 ≤ j.fin ∧ j.fin ≤ n ∧ (j.fin = -1 ∨ 0 < j.fin) from by omega)
  rw [hq] at hc
  obtain ⟨un, hun⟩ : ∃ v, unitN X j n = v := ⟨_, rfl⟩
  have HUN := hid hun
  have hunb : un ≤ n := by rw [← hun]; exact unitN_bound n
  have l1 := H.look hj (Nat.le_refl n)
  rw [hun] at l1 HAM
  have k0 : w.cell? ⟨b, o + i * 5, none⟩ = some (.int .i64 q) := by simpa using hc 0 _ rfl
  have k1 : w.cell? ⟨b, o + i * 5 + 1, none⟩ = some (.int .i64 j.arr) := hc 1 _ rfl
  have k2 : w.cell? ⟨b, o + i * 5 + 2, none⟩ = some (.int .i64 j.fin) := hc 2 _ rfl
  have k3 : w.cell? ⟨b, o + i * 5 + 3, none⟩ = some (.bool j.cut) := hc 3 _ rfl
  have k4 : w.cell? ⟨b, o + i * 5 + 4, none⟩ = some (.bool j.miss) := hc 4 _ rfl
  have k11 : w.cell? ⟨K, 11, none⟩ = some (.slice A n cp) := blk_cell H.blk 11
  have k12 : w.cell? ⟨K, 12, none⟩ = some (.slice (some ⟨b, o, none⟩) m c2) := blk_cell H.blk 12
  have d0 : w.drew.cell? ⟨b, o + i * 5, none⟩ = some (.int .i64 q) := k0
  have d1 : w.drew.cell? ⟨b, o + i * 5 + 1, none⟩ = some (.int .i64 j.arr) := k1
  have d2 : w.drew.cell? ⟨b, o + i * 5 + 2, none⟩ = some (.int .i64 j.fin) := k2
  have d3 : w.drew.cell? ⟨b, o + i * 5 + 3, none⟩ = some (.bool j.cut) := k3
  have d4 : w.drew.cell? ⟨b, o + i * 5 + 4, none⟩ = some (.bool j.miss) := k4
  have d11 : w.drew.cell? ⟨K, 11, none⟩ = some (.slice A n cp) := k11
  have d12 : w.drew.cell? ⟨K, 12, none⟩ = some (.slice (some ⟨b, o, none⟩) m c2) := k12
  have hza := below_new (Below.refl w.heap.size w) (.cells #[.int .i64 0, .int .i64 0, .int .i64 0, .bool false, .bool false] 45)
  have hKl := blk_lt H.blk
  have z0 : (w.alloc (.cells #[.int .i64 0, .int .i64 0, .int .i64 0, .bool false, .bool false] 45)).drew.cell? ⟨b, o + i * 5, none⟩ = some (.int .i64 q) := (hza.cell (p := ⟨b, o + i * 5, none⟩) hbl).trans k0
  have z1 : (w.alloc (.cells #[.int .i64 0, .int .i64 0, .int .i64 0, .bool false, .bool false] 45)).drew.cell? ⟨b, o + i * 5 + 1, none⟩ = some (.int .i64 j.arr) := (hza.cell (p := ⟨b, o + i * 5 + 1, none⟩) hbl).trans k1
  have z2 : (w.alloc (.cells #[.int .i64 0, .int .i64 0, .int .i64 0, .bool false, .bool false] 45)).drew.cell? ⟨b, o + i * 5 + 2, none⟩ = some (.int .i64 j.fin) := (hza.cell (p := ⟨b, o + i * 5 + 2, none⟩) hbl).trans k2
  have z3 : (w.alloc (.cells #[.int .i64 0, .int .i64 0, .int .i64 0, .bool false, .bool false] 45)).drew.cell? ⟨b, o + i * 5 + 3, none⟩ = some (.bool j.cut) := (hza.cell (p := ⟨b, o + i * 5 + 3, none⟩) hbl).trans k3
  have z4 : (w.alloc (.cells #[.int .i64 0, .int .i64 0, .int .i64 0, .bool false, .bool false] 45)).drew.cell? ⟨b, o + i * 5 + 4, none⟩ = some (.bool j.miss) := (hza.cell (p := ⟨b, o + i * 5 + 4, none⟩) hbl).trans k4
  have z11 : (w.alloc (.cells #[.int .i64 0, .int .i64 0, .int .i64 0, .bool false, .bool false] 45)).drew.cell? ⟨K, 11, none⟩ = some (.slice A n cp) := (hza.cell (p := ⟨K, 11, none⟩) hKl).trans k11
  have z12 : (w.alloc (.cells #[.int .i64 0, .int .i64 0, .int .i64 0, .bool false, .bool false] 45)).drew.cell? ⟨K, 12, none⟩ = some (.slice (some ⟨b, o, none⟩) m c2) := (hza.cell (p := ⟨K, 12, none⟩) hKl).trans k12
  clear hza
  have HTC := hid (show w.cell? ⟨b3, o3 + q * 4 + 2, none⟩ = some (.int .i64 t.wc) from hc3 2 _ rfl)
  have HBL3 := hid hbl3
  clear hn hm hnt hh hh' hq ht hc hr hbl3 hc3 hru3 hun l1 H hj
  obtain ⟨jt, ja, jf, jc, jm⟩ := j
  simp only at k0 k1 k2 k3 k4 d0 d1 d2 d3 d4 z0 z1 z2 z3 z4 HAM HF
  go_enter Try.func77, Try.ntmps77
  go_wp2_with fail
  go_region
  have HB0 := hid (show Below w.heap.size w (w.alloc (.cells #[.int .i64 q, .int .i64 ja, .int .i64 jf, .bool jc, .bool jm] 45)).drew from (below_new (Below.refl w.heap.size w) _).drew)
  have HQ0 := hid (show (w.alloc (.cells #[.int .i64 q, .int .i64 ja, .int .i64 jf, .bool jc, .bool jm] 45)).drew.heap[w.heap.size]? = some (.cells #[.int .i64 q, .int .i64 ja, .int .i64 jf, .bool jc, .bool jm] 45 (0, 0)) from blk_new w _)
  generalize (w.alloc (.cells #[.int .i64 q, .int .i64 ja, .int .i64 jf, .bool jc, .bool jm] 45)).drew = w1 at *
  clear k0 k1 k2 k3 k4 k11 k12 d0 d1 d2 d3 d4 d11 d12 z0 z1 z2 z3 z4 z11 z12 hbl
  have H1 := HH.out.later HB0.out
  have H1d := H1.later (Below.refl w1.heap.size w1).drew
  have f0 : w1.cell? ⟨w.heap.size, 0, none⟩ = some (.int .i64 q) := blk_cell HQ0.out 0
  have f2 : w1.cell? ⟨w.heap.size, 2, none⟩ = some (.int .i64 jf) := blk_cell HQ0.out 2
  have f0d : w1.drew.cell? ⟨w.heap.size, 0, none⟩ = some (.int .i64 q) := f0
  have f2d : w1.drew.cell? ⟨w.heap.size, 2, none⟩ = some (.int .i64 jf) := f2
  have g8 : w1.cell? ⟨K, 8, none⟩ = some (.slice (some ⟨b3, o3, none⟩) nt ct) := blk_cell H1.blk 8
  have g13 : w1.cell? ⟨K, 13, none⟩ = some (.map (some Z)) := blk_cell H1.blk 13
  have g8d : w1.drew.cell? ⟨K, 8, none⟩ = some (.slice (some ⟨b3, o3, none⟩) nt ct) := g8
  have g13d : w1.drew.cell? ⟨K, 13, none⟩ = some (.map (some Z)) := g13
  have t2 : w1.cell? ⟨b3, o3 + q * 4 + 2, none⟩ = some (.int .i64 t.wc) := (HB0.out.cell (p := ⟨b3, o3 + q * 4 + 2, none⟩) HBL3.out).trans HTC.out
  have t2d : w1.drew.cell? ⟨b3, o3 + q * 4 + 2, none⟩ = some (.int .i64 t.wc) := t2
  have l1 := H1.look HJ.out (Nat.le_refl n)
  have l1d := H1d.look HJ.out (Nat.le_refl n)
  rw [HUN.out] at l1 l1d
  have HH1 := hid H1
  clear H1 H1d hKl
  obtain ⟨twc, htwc⟩ : ∃ v, t.wc = v := ⟨_, rfl⟩
  rw [htwc] at t2 t2d HAM
  clear htwc
  by_cases hw : (un : Int) ≤ twc
  case neg =>
    have hw' : twc < (un : Int) := by omega
    have HFA := hid (show amountB T.sys X i = false from by rw [HAM.out, decide_eq_false hw]; rfl)
    go_upto_region 2 with fail
    go_region
    all_goals
      clear l1 l1d g8 g13 g8d g13d t2 t2d f0 f2 f0d f2d
      go_wp2_with fail
      go_ret
      exact ⟨by rw [HFA.out]; rfl, below_drewN' HB0.out 1⟩
  case pos =>
    have hw' : ¬ twc < (un : Int) := by omega
    have HAM2 := hid (show amountB T.sys X i = (decide (jf = -1) || decide (unitN X ⟨jt, ja, jf, jc, jm⟩ (jf.toNat - 1) < unitN X ⟨jt, ja, jf, jc, jm⟩ jf.toNat)) from by rw [HAM.out, decide_eq_true hw, Bool.true_and])
    go_upto_region 2 with fail
    go_region
    all_goals
      have HB2 := hid (show Below w.heap.size w w1.drew from below_drewN' HB0.out 1)
      have HQ2 := hid (show w1.drew.heap[w.heap.size]? = _ from HQ0.out)
      have HH2 := hid (HH1.out.later (Below.refl w1.heap.size w1).drew)
      generalize w1.drew = w2 at *
      clear l1 l1d g8 g13 g8d g13d t2 t2d f0 f2 f0d f2d
      have f2 : w2.cell? ⟨w.heap.size, 2, none⟩ = some (.int .i64 jf) := blk_cell HQ2.out 2
      have f2d : w2.drew.cell? ⟨w.heap.size, 2, none⟩ = some (.int .i64 jf) := f2
      have g13 : w2.cell? ⟨K, 13, none⟩ = some (.map (some Z)) := blk_cell HH2.out.blk 13
      have g13d : w2.drew.cell? ⟨K, 13, none⟩ = some (.map (some Z)) := g13
      by_cases y6 : jf = -1
      case pos =>
        have y6b : (jf == -1) = true := beq_iff_eq.2 y6
        have HFA := hid (show amountB T.sys X i = true from by rw [HAM2.out, decide_eq_true y6]; rfl)
        clear y6
        go_upto_region 4 with fail
        go_region
        all_goals
          clear f2 f2d g13 g13d
          go_wp2_with fail
          go_ret
          exact ⟨by rw [HFA.out]; rfl, below_drewN' HB2.out 1⟩
      case neg =>
        have y6b : (jf == -1) = false := beq_eq_false_iff_ne.2 y6
        obtain ⟨g, hg⟩ : ∃ g : Nat, jf = ((g + 1 : Nat) : Int) := ⟨jf.toNat - 1, by have := HF.out; omega⟩
        obtain ⟨f, hf⟩ : ∃ f : Nat, f = g + 1 := ⟨_, rfl⟩
        have hfn : f ≤ n := by have := HF.out; omega
        rw [← hf] at hg
        subst hg
        have hw1 : IntKind.i64.wrap ((f : Int) - 1) = ((g : Nat) : Int) := by rw [IntKind.wrap_i64]; omega
        have HAM3 := hid (show amountB T.sys X i = decide (unitN X ⟨jt, ja, f, jc, jm⟩ g < unitN X ⟨jt, ja, f, jc, jm⟩ f) from by
          rw [HAM2.out, decide_eq_false y6, Bool.false_or, Int.toNat_natCast, show f - 1 = g by omega])
        obtain ⟨uf, huf⟩ : ∃ v, unitN X ⟨jt, ja, f, jc, jm⟩ f = v := ⟨_, rfl⟩
        obtain ⟨ug, hug⟩ : ∃ v, unitN X ⟨jt, ja, f, jc, jm⟩ g = v := ⟨_, rfl⟩
        rw [huf, hug] at HAM3
        obtain ⟨C, hC⟩ : ∃ C : World → Prop, C = fun W => Below w2.heap.size w2 W := ⟨_, rfl⟩
        have FA := hid (fun W (h : C W) => (show W.cell? ⟨w.heap.size, 2, none⟩ = some (.int .i64 (f : Int)) from by rw [hC] at h; exact blk_cell ((fr0 h).blk HQ2.out (fun h => h)) 2))
        have FB := hid (fun W (h : C W) => (show W.cell? ⟨K, 13, none⟩ = some (.map (some Z)) from by rw [hC] at h; exact blk_cell ((fr0 h).blk HH2.out.blk (fun h => h)) 13))
        have L2 := hid (fun W (h : C W) => by rw [hC] at h; exact (HH2.out.later h).look HJ.out hfn)
        have L3 := hid (fun W (h : C W) => by rw [hC] at h; exact (HH2.out.later h).look HJ.out (show g ≤ n by omega))
        rw [huf] at L2
        rw [hug] at L3
        have HFF := hid hf
        have HCC := hid hC
        clear huf hug hf y6 hC
        by_cases hlt : ug < uf
        case pos =>
          have HFA := hid (show amountB T.sys X i = true from by rw [HAM3.out, decide_eq_true hlt])
          have hlt' : decide (ug < uf) = true := decide_eq_true hlt
          go_upto_region 4 with fail
          clear f2 f2d g13 g13d
          refine wp_region_class (C := C) (by kernel_rfl) (by kernel_rfl) (by rw [HCC.out]; exact (Below.refl _ _).drew) ?_
          repeat (refine wpQuiet_step (fun K hK => ?_); (first | (rw [if_neg (by exact Bool.false_ne_true)]; refine hK _ ?_) | (rw [if_pos (by rfl)]; refine Exists.intro ?_ (And.intro (fun W HW => ?_) (hK _ ?_)); rotate_left; (focus (first | (have q0 := FA.out W HW; have q1 := FB.out W HW; have q2 := L2.out W HW; have q3 := L3.out W HW; (go_simp); all_goals (with_reducible rfl)))))); clear hK K; try simp only [Act.put, List.setIfInBounds_toArray, List.set_cons_zero, List.set_cons_succ])
          refine wpQuiet_nil ?_
          intro wd hCw
          have HBW := hid (show Below w.heap.size w wd from by rw [HCC.out] at hCw; exact below_then HB2.out hCw)
          clear hCw
          go_wp2_with fail
          go_ret
          exact ⟨by rw [HFA.out]; rfl, HBW.out⟩
        case neg =>
          have HFA := hid (show amountB T.sys X i = false from by rw [HAM3.out, decide_eq_false hlt])
          have hlt' : decide (ug < uf) = false := decide_eq_false hlt
          go_upto_region 4 with fail
          clear f2 f2d g13 g13d
          refine wp_region_class (C := C) (by kernel_rfl) (by kernel_rfl) (by rw [HCC.out]; exact (Below.refl _ _).drew) ?_
          repeat (refine wpQuiet_step (fun K hK => ?_); (first | (rw [if_neg (by exact Bool.false_ne_true)]; refine hK _ ?_) | (rw [if_pos (by rfl)]; refine Exists.intro ?_ (And.intro (fun W HW => ?_) (hK _ ?_)); rotate_left; (focus (first | (have q0 := FA.out W HW; have q1 := FB.out W HW; have q2 := L2.out W HW; have q3 := L3.out W HW; (go_simp); all_goals (with_reducible rfl)))))); clear hK K; try simp only [Act.put, List.setIfInBounds_toArray, List.set_cons_zero, List.set_cons_succ])
          refine wpQuiet_nil ?_
          intro wd hCw
          have HBW := hid (show Below w.heap.size w wd from by rw [HCC.out] at hCw; exact below_then HB2.out hCw)
          clear hCw
          go_wp2_with fail
          go_ret
          exact ⟨by rw [HFA.out]; rfl, HBW.out⟩
end
end Go.Proofs.Ytmhochjpdedlgaa
