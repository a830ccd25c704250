/- Joined: Valid2. -/
import Derived.Test.YtppildaahmlfmaaQ06
import Derived.Deep.LoopGhost
set_option linter.unusedVariables false
set_option linter.unusedSimpArgs false
/- Package valid: Check, Right (contracts): whatever system. -/
set_option linter.unusedVariables false
set_option linter.unusedSimpArgs false
namespace Go.Proofs.Ytppildaahmlfmaa
open Go.RowKit

/-- A system's cells. -/
def sysC (S : Sy) (u : Value) : Array Value := #[.int .i64 S.cores, .int .i64 S.policy, .int .i64 S.prot, .int .i64 S.rel, .int .i64 S.sw, .int .i64 S.fin, .int .i64 S.lat, .int .i64 S.resn, u]
section
variable {w w1 wr : World} {o1 o2 o3 : Obj}
theorem blks3 (hb : Below (((w.alloc o1).alloc o2).alloc o3).heap.size (((w.alloc o1).alloc o2).alloc o3) w1) :
    w1.heap[w.heap.size]? = some o1 ∧ w1.heap[w.heap.size + 1]? = some o2 ∧ w1.heap[w.heap.size + 1 + 1]? = some o3 ∧ Below w.heap.size w w1 := by
  have h1 := blk_old (blk_old (blk_new w o1) o2) o3
  have h2 := blk_old (blk_new (w.alloc o1) o2) o3
  have h3 := blk_new ((w.alloc o1).alloc o2) o3
  have f := fr0 hb
  have s1 : (w.alloc o1).heap.size = w.heap.size + 1 := by simp
  have s2 : ((w.alloc o1).alloc o2).heap.size = w.heap.size + 1 + 1 := by simp
  rw [s1] at h2
  rw [s2] at h3
  exact ⟨f.blk h1 (fun h => h), f.blk h2 (fun h => h), f.blk h3 (fun h => h), below_then (below_new (below_new (below_new (Below.refl _ _) o1) o2) o3) hb⟩
/-- The world within Check: the system's box, the result's cells, what is said at last. -/
structure VW (w wr : World) (B : Nat) (C : Array Value) (t s : Int) : Prop where
  below : Below w.heap.size w wr
  lo : w.heap.size ≤ B
  b0 : wr.heap[B]? = some (.cells C 24 (0, 0))
  b1 : wr.heap[B + 1]? = some (.cells #[.int .i64 0, .int .i64 0, .int .i64 0] 103 (0, 0))
  b2 : wr.heap[B + 1 + 1]? = some (.cells #[.int .i64 10, .int .i64 t, .int .i64 s] 103 (0, 0))
section
variable {B : Nat} {C : Array Value} {t s : Int} {D : Nat} {o : Obj}
theorem VW.setT (H : VW w wr B C t s) (x : Int) : VW w (wr.setCell ⟨B + 1 + 1, 1, none⟩ (.int .i64 x)) B C x s :=
  ⟨H.below.setCell (p := ⟨B + 1 + 1, 1, none⟩) (by have := H.lo; simp; omega) _, H.lo, blk_set_ne H.b0 (by omega) _ _, blk_set_ne H.b1 (by omega) _ _, by have := blk_set H.b2 1 (.int .i64 x); simpa using this⟩
theorem VW.setS (H : VW w wr B C t s) (x : Int) : VW w (wr.setCell ⟨B + 1 + 1, 2, none⟩ (.int .i64 x)) B C t x :=
  ⟨H.below.setCell (p := ⟨B + 1 + 1, 2, none⟩) (by have := H.lo; simp; omega) _, H.lo, blk_set_ne H.b0 (by omega) _ _, blk_set_ne H.b1 (by omega) _ _, by have := blk_set H.b2 2 (.int .i64 x); simpa using this⟩
theorem VW.new (H : VW w wr B C t s) (o : Obj) : VW w (wr.alloc o) B C t s := ⟨below_new H.below o, H.lo, blk_old H.b0 o, blk_old H.b1 o, blk_old H.b2 o⟩
/-- What is said is copied to the result's cells. -/
theorem VW.put (H : VW w wr B C t s) (x y z : Int) :
    (((wr.setCell ⟨B + 1, 0, none⟩ (.int .i64 x)).setCell ⟨B + 1, 1, none⟩ (.int .i64 y)).setCell ⟨B + 1, 2, none⟩ (.int .i64 z)).cell? ⟨B + 1, 0, none⟩ = some (.int .i64 x) ∧
    (((wr.setCell ⟨B + 1, 0, none⟩ (.int .i64 x)).setCell ⟨B + 1, 1, none⟩ (.int .i64 y)).setCell ⟨B + 1, 2, none⟩ (.int .i64 z)).cell? ⟨B + 1, 1, none⟩ = some (.int .i64 y) ∧
    (((wr.setCell ⟨B + 1, 0, none⟩ (.int .i64 x)).setCell ⟨B + 1, 1, none⟩ (.int .i64 y)).setCell ⟨B + 1, 2, none⟩ (.int .i64 z)).cell? ⟨B + 1, 2, none⟩ = some (.int .i64 z) ∧
    Below w.heap.size w (((wr.setCell ⟨B + 1, 0, none⟩ (.int .i64 x)).setCell ⟨B + 1, 1, none⟩ (.int .i64 y)).setCell ⟨B + 1, 2, none⟩ (.int .i64 z)) := by
  have h := blk_set (blk_set (blk_set H.b1 0 (.int .i64 x)) 1 (.int .i64 y)) 2 (.int .i64 z)
  have hl : w.heap.size ≤ B + 1 := by have := H.lo; omega
  exact ⟨blk_cell h 0, blk_cell h 1, blk_cell h 2, ((H.below.setCell (p := ⟨B + 1, 0, none⟩) hl _).setCell (p := ⟨B + 1, 1, none⟩) hl _).setCell (p := ⟨B + 1, 2, none⟩) hl _⟩
theorem VW.drewN (H : VW w wr B C t s) (q : Nat) : VW w (wr.drewN q) B C t s := ⟨below_drewN' H.below q, H.lo, H.b0, H.b1, H.b2⟩
/-- A block beside. -/
structure VB (wr : World) (B D : Nat) (o : Obj) : Prop where
  gt : B + 1 + 1 < D
  blk : wr.heap[D]? = some o
theorem VB.set (H : VB wr B D o) (i : Nat) (u : Value) : VB (wr.setCell ⟨B + 1 + 1, i, none⟩ u) B D o := ⟨H.gt, blk_set_ne H.blk (by have := H.gt; omega) i u⟩
theorem VB.new (H : VB wr B D o) (o2 : Obj) : VB (wr.alloc o2) B D o := ⟨H.gt, blk_old H.blk o2⟩
theorem VW.beside (H : VW w wr B C t s) (o : Obj) : VB (wr.alloc o) B wr.heap.size o := ⟨by have := blk_lt H.b2; omega, blk_new _ _⟩
end
theorem all_false {α : Type} {p : α → Bool} {l : List α} {k : Nat} {x : α} (h : l[k]? = some x) (hx : p x = false) : l.all p = false := by
  rw [List.all_eq_false]
  exact ⟨x, List.mem_of_getElem? h, by rw [hx]; decide⟩
theorem sec_false {res wc e : Int} {l : List Sec} {k : Nat} {x : Sec} (h : l[k]? = some x) (hx : secB res wc (secEnd e (l.take k)) x = false) : secsB res wc e l = false := by
  cases hs : secsB res wc e l with
  | false => rfl
  | true =>
    have e1 : l = l.take (k + 1) ++ l.drop (k + 1) := (List.take_append_drop _ _).symm
    rw [e1] at hs
    have := secsB_prefix hs
    rw [take_next h, secsB_snoc, hx, Bool.and_false] at this
    cases this
attribute [local irreducible] btw
set_option maxRecDepth 100000 in
set_option maxHeartbeats 6400000 in
theorem vcheck_any (S : Sy) (A : Option Addr) (cap : Nat) (n : Nat) (hs : IsSys w (.slice A n cap) S) :
    Calls Try.prog 52 #[sysV S (.slice A n cap)] w fun e w' => ∃ er t k : Int, e = .returned (.agg #[.int .i64 er, .int .i64 t, .int .i64 k]) ∧ (er == 0) = rightS S ∧ Below w.heap.size w w' := by
  have hn := hs.tasks.len
  have HS := hid hs
  have HN := hid hn
  have hnm : n ≤ 9223372036854775807 := by have := hs.tasks.room; unfold maxLen at this; omega
  have HWH := hid (fun W => whole_any (w := W) S A cap n hn)
  have HR := hid (show rightS S = (wholeB S && S.tasks.all (tskB S.resn)) from rfl)
  obtain ⟨C, hC⟩ : ∃ C, C = sysC S (.slice A n cap) := ⟨_, rfl⟩
  have HC := hid hC
  have r1 : I64 S.resn := hs.wf.resn
  unfold I64 at r1
  generalize wholeB S = wb at *
  unfold sysV at *
  clear hs hn hC
  go_enter Try.func52, Try.ntmps52
  go_wp2_with fail
  go_step3
  go_wp2_with fail
  refine (HWH.out _).mono ?_
  rintro e w1 ⟨rfl, hb1⟩
  obtain ⟨q0, q1, q2, hbw⟩ := blks3 hb1
  obtain ⟨B, hB⟩ : ∃ B, w.heap.size = B := ⟨_, rfl⟩
  have hV : VW w w1 w.heap.size (sysC S (.slice A n cap)) (-1) (-1) := ⟨hbw, Nat.le_refl _, q0, q1, q2⟩
  have hlo : w.heap.size ≤ B := by omega
  rw [hB] at hV
  rw [← HC.out] at hV
  have HV := hid hV
  have g0 : w1.cell? ⟨B, 8, none⟩ = some (.slice A n cap) := by rw [← hB]; exact blk_cell q0 8
  have g1 : w1.cell? ⟨B + 1 + 1, 0, none⟩ = some (.int .i64 10) := blk_cell hV.b2 0
  have g2 : w1.cell? ⟨B + 1 + 1, 1, none⟩ = some (.int .i64 (-1)) := blk_cell hV.b2 1
  have g3 : w1.cell? ⟨B + 1 + 1, 2, none⟩ = some (.int .i64 (-1)) := blk_cell hV.b2 2
  have z0 : w1.cell? ⟨B + 1, 0, none⟩ = some (.int .i64 0) := blk_cell hV.b1 0
  have z1 : w1.cell? ⟨B + 1, 1, none⟩ = some (.int .i64 0) := blk_cell hV.b1 1
  have z2 : w1.cell? ⟨B + 1, 2, none⟩ = some (.int .i64 0) := blk_cell hV.b1 2
  have f0 : ∀ i, w1.frozen? ⟨B + 1, i, none⟩ = false := blk_free hV.b1
  rw [hB]
  have HB := hid hB
  clear hV q0 q1 q2 hbw hb1 hB
  cases wb
  · have HF := hid (show rightS S = false by rw [HR.out]; rfl)
    clear HR
    go_wp2_with fail
    rw [Exit.noGoto_ret]
    obtain ⟨y0, y1, y2, yb⟩ := HV.out.put 10 (-1) (-1)
    exact bodyPost_ret (v := .agg #[.int .i64 10, .int .i64 (-1), .int .i64 (-1)]) (by simp [results, Try.results52, go_sem, y0, y1, y2]) rfl ⟨10, -1, -1, rfl, by rw [HF.out]; rfl, yb⟩
  · have HR2 := hid (show rightS S = S.tasks.all (tskB S.resn) by rw [HR.out]; rfl)
    clear HR
    go_wp2_with fail
    go_step3
    go_wp2_with fail
    clear g0 g1 g2 g3 z0 z1 z2 f0
    go_loopw [17] (fun i wr => ∃ k : Nat, k ≤ n ∧ i = .int .i64 k ∧ Hid ((S.tasks.take k).all (tskB S.resn) = true) ∧ Hid (VW w wr B C (-1) (-1))) (fun i _ => n - (intOf i).toNat)
    case atStart => exact ⟨0, by omega, rfl, hid rfl, HV⟩
    case round =>
      obtain ⟨k, hk, rfl, HALL, HVr⟩ := hrel
      by_cases hlt : k < n
      · obtain ⟨t, ht⟩ : ∃ t, S.tasks[k]? = some t := ⟨_, List.getElem?_eq_getElem (by have := HN.out; omega)⟩
        obtain ⟨b, o, cs, hA, hbl, _, hc, u, hu1, hu2⟩ := HS.out.tasks.at ht
        subst hA
        subst hu1
        have htw := HS.out.wf.tasks t (List.mem_of_getElem? ht)
        obtain ⟨A2, c2, hu3, hu4⟩ := hu2.shape
        obtain ⟨tp, td, tw, ss⟩ := t
        simp only at hu3 hc hu4
        obtain ⟨m, hm⟩ : ∃ m, m = ss.length := ⟨_, rfl⟩
        rw [← hm] at hu3 hu4
        subst hu3
        have hmm : m ≤ 9223372036854775807 := by have := hu4; unfold maxLen at this; omega
        have hbr := HVr.out.below
        have m0 : wr.cell? ⟨b, o + k * 4, none⟩ = some (.int .i64 tp) := (hbr.cell (p := ⟨b, o + k * 4, none⟩) hbl).trans (by simpa using hc 0 _ rfl)
        have m1 : wr.cell? ⟨b, o + k * 4 + 1, none⟩ = some (.int .i64 td) := (hbr.cell (p := ⟨b, o + k * 4 + 1, none⟩) hbl).trans (hc 1 _ rfl)
        have m2 : wr.cell? ⟨b, o + k * 4 + 2, none⟩ = some (.int .i64 tw) := (hbr.cell (p := ⟨b, o + k * 4 + 2, none⟩) hbl).trans (hc 2 _ rfl)
        have m3 : wr.cell? ⟨b, o + k * 4 + 3, none⟩ = some (.slice A2 m c2) := (hbr.cell (p := ⟨b, o + k * 4 + 3, none⟩) hbl).trans (hc 3 _ rfl)
        have hI1 := htw.p
        have hI2 := htw.d
        have hI3 := htw.w
        unfold I64 at hI1 hI2 hI3
        simp only at hI1 hI2 hI3
        have HWF := hid htw.s
        have HU := hid hu2
        have HX := hid ht
        have HM := hid hm
        clear htw hu2 hu4 ht hm hbr hc hbl
        go_upto_region 7 with fail
        obtain ⟨D, hD⟩ : ∃ D, D = wr.heap.size := ⟨_, rfl⟩
        rw [← hD]
        generalize hw7 : wr.alloc (.cells #[.int .i64 tp, .int .i64 td, .int .i64 tw, .slice A2 m c2] 34) = w7
        have HV7 : Hid (VW w w7 B C (-1) (-1)) := by rw [← hw7]; exact hid (HVr.out.new _)
        obtain ⟨O, hO⟩ : ∃ O, O = Obj.cells #[.int .i64 tp, .int .i64 td, .int .i64 tw, .slice A2 m c2] 34 (0, 0) := ⟨_, rfl⟩
        have HO := hid hO
        have HD7 : Hid (VB w7 B D O) := by rw [← hw7, hD, hO]; exact hid (HVr.out.beside _)
        clear hO
        have g1 : w7.cell? ⟨B + 1 + 1, 1, none⟩ = some (.int .i64 (-1)) := blk_cell HV7.out.b2 1
        have g2 : w7.cell? ⟨B + 1 + 1, 2, none⟩ = some (.int .i64 (-1)) := blk_cell HV7.out.b2 2
        have g4 : w7.frozen? ⟨B + 1 + 1, 1, none⟩ = false := blk_free HV7.out.b2 1
        have g5 : w7.frozen? ⟨B + 1 + 1, 2, none⟩ = false := blk_free HV7.out.b2 2
        clear hw7 hD m0 m1 m2 m3
        go_upto_region 8 with fail
        generalize hw2 : (w7.setCell ⟨B + 1 + 1, 1, none⟩ (.int .i64 k)).setCell ⟨B + 1 + 1, 2, none⟩ (.int .i64 (-1)) = w2
        have HV2 : Hid (VW w w2 B C k (-1)) := by rw [← hw2]; exact hid ((HV7.out.setT k).setS (-1))
        have HD2 : Hid (VB w2 B D O) := by rw [← hw2]; exact hid ((HD7.out.set 1 _).set 2 _)
        have e0 : w2.cell? ⟨D, 0, none⟩ = some (.int .i64 tp) := blk_cell (HO.out ▸ HD2.out.blk) 0
        have e1 : w2.cell? ⟨D, 1, none⟩ = some (.int .i64 td) := blk_cell (HO.out ▸ HD2.out.blk) 1
        have e2 : w2.cell? ⟨D, 2, none⟩ = some (.int .i64 tw) := blk_cell (HO.out ▸ HD2.out.blk) 2
        have e3 : w2.cell? ⟨D, 3, none⟩ = some (.slice A2 m c2) := blk_cell (HO.out ▸ HD2.out.blk) 3
        clear hw2 g1 g2 g4 g5
        cases k1 : btw tp 1 1099511627776
        case false =>
          have HF := hid (show rightS S = false by rw [HR2.out]; exact all_false HX.out (by have hml := HM.out; unfold tskB tskHeadB; simp [k1]))
          have g1 : w2.cell? ⟨B + 1 + 1, 0, none⟩ = some (.int .i64 10) := blk_cell HV2.out.b2 0
          have g2 : w2.cell? ⟨B + 1 + 1, 1, none⟩ = some (.int .i64 k) := blk_cell HV2.out.b2 1
          have g3 : w2.cell? ⟨B + 1 + 1, 2, none⟩ = some (.int .i64 (-1)) := blk_cell HV2.out.b2 2
          have z0 : w2.cell? ⟨B + 1, 0, none⟩ = some (.int .i64 0) := blk_cell HV2.out.b1 0
          have z1 : w2.cell? ⟨B + 1, 1, none⟩ = some (.int .i64 0) := blk_cell HV2.out.b1 1
          have z2 : w2.cell? ⟨B + 1, 2, none⟩ = some (.int .i64 0) := blk_cell HV2.out.b1 2
          have z3 : w2.frozen? ⟨B + 1, 0, none⟩ = false := blk_free HV2.out.b1 0
          have z4 : w2.frozen? ⟨B + 1, 1, none⟩ = false := blk_free HV2.out.b1 1
          have z5 : w2.frozen? ⟨B + 1, 2, none⟩ = false := blk_free HV2.out.b1 2
          go_wp2_with (go_at_call 67; (with_reducible refine (btw_any _ _ _).mono ?_); rintro e w' ⟨rfl, rfl⟩)
          try rw [Exit.noGoto_ret]
          obtain ⟨y0, y1, y2, yb⟩ := HV2.out.put 10 k (-1)
          exact bodyPost_ret (v := .agg #[.int .i64 10, .int .i64 k, .int .i64 (-1)]) (by simp [results, Try.results52, go_sem, y0, y1, y2]) rfl ⟨10, k, -1, rfl, by rw [HF.out]; rfl, yb⟩
        cases k2 : btw td 1 tp
        case false =>
          have HF := hid (show rightS S = false by rw [HR2.out]; exact all_false HX.out (by have hml := HM.out; unfold tskB tskHeadB; simp [k1, k2]))
          have g1 : w2.cell? ⟨B + 1 + 1, 0, none⟩ = some (.int .i64 10) := blk_cell HV2.out.b2 0
          have g2 : w2.cell? ⟨B + 1 + 1, 1, none⟩ = some (.int .i64 k) := blk_cell HV2.out.b2 1
          have g3 : w2.cell? ⟨B + 1 + 1, 2, none⟩ = some (.int .i64 (-1)) := blk_cell HV2.out.b2 2
          have z0 : w2.cell? ⟨B + 1, 0, none⟩ = some (.int .i64 0) := blk_cell HV2.out.b1 0
          have z1 : w2.cell? ⟨B + 1, 1, none⟩ = some (.int .i64 0) := blk_cell HV2.out.b1 1
          have z2 : w2.cell? ⟨B + 1, 2, none⟩ = some (.int .i64 0) := blk_cell HV2.out.b1 2
          have z3 : w2.frozen? ⟨B + 1, 0, none⟩ = false := blk_free HV2.out.b1 0
          have z4 : w2.frozen? ⟨B + 1, 1, none⟩ = false := blk_free HV2.out.b1 1
          have z5 : w2.frozen? ⟨B + 1, 2, none⟩ = false := blk_free HV2.out.b1 2
          go_wp2_with (go_at_call 67; (with_reducible refine (btw_any _ _ _).mono ?_); rintro e w' ⟨rfl, rfl⟩)
          try rw [Exit.noGoto_ret]
          obtain ⟨y0, y1, y2, yb⟩ := HV2.out.put 10 k (-1)
          exact bodyPost_ret (v := .agg #[.int .i64 10, .int .i64 k, .int .i64 (-1)]) (by simp [results, Try.results52, go_sem, y0, y1, y2]) rfl ⟨10, k, -1, rfl, by rw [HF.out]; rfl, yb⟩
        cases k3 : btw tw 1 td
        case false =>
          have HF := hid (show rightS S = false by rw [HR2.out]; exact all_false HX.out (by have hml := HM.out; unfold tskB tskHeadB; simp [k1, k2, k3]))
          have g1 : w2.cell? ⟨B + 1 + 1, 0, none⟩ = some (.int .i64 10) := blk_cell HV2.out.b2 0
          have g2 : w2.cell? ⟨B + 1 + 1, 1, none⟩ = some (.int .i64 k) := blk_cell HV2.out.b2 1
          have g3 : w2.cell? ⟨B + 1 + 1, 2, none⟩ = some (.int .i64 (-1)) := blk_cell HV2.out.b2 2
          have z0 : w2.cell? ⟨B + 1, 0, none⟩ = some (.int .i64 0) := blk_cell HV2.out.b1 0
          have z1 : w2.cell? ⟨B + 1, 1, none⟩ = some (.int .i64 0) := blk_cell HV2.out.b1 1
          have z2 : w2.cell? ⟨B + 1, 2, none⟩ = some (.int .i64 0) := blk_cell HV2.out.b1 2
          have z3 : w2.frozen? ⟨B + 1, 0, none⟩ = false := blk_free HV2.out.b1 0
          have z4 : w2.frozen? ⟨B + 1, 1, none⟩ = false := blk_free HV2.out.b1 1
          have z5 : w2.frozen? ⟨B + 1, 2, none⟩ = false := blk_free HV2.out.b1 2
          go_wp2_with (go_at_call 67; (with_reducible refine (btw_any _ _ _).mono ?_); rintro e w' ⟨rfl, rfl⟩)
          try rw [Exit.noGoto_ret]
          obtain ⟨y0, y1, y2, yb⟩ := HV2.out.put 10 k (-1)
          exact bodyPost_ret (v := .agg #[.int .i64 10, .int .i64 k, .int .i64 (-1)]) (by simp [results, Try.results52, go_sem, y0, y1, y2]) rfl ⟨10, k, -1, rfl, by rw [HF.out]; rfl, yb⟩
        cases k4 : decide (m ≤ 4)
        case false =>
          have k4' := of_decide_eq_false k4
          have HF := hid (show rightS S = false by rw [HR2.out]; exact all_false HX.out (by have hml := HM.out; unfold tskB tskHeadB; rw [show decide (ss.length ≤ 4) = false by rw [← hml]; exact k4]; simp))
          have g1 : w2.cell? ⟨B + 1 + 1, 0, none⟩ = some (.int .i64 10) := blk_cell HV2.out.b2 0
          have g2 : w2.cell? ⟨B + 1 + 1, 1, none⟩ = some (.int .i64 k) := blk_cell HV2.out.b2 1
          have g3 : w2.cell? ⟨B + 1 + 1, 2, none⟩ = some (.int .i64 (-1)) := blk_cell HV2.out.b2 2
          have z0 : w2.cell? ⟨B + 1, 0, none⟩ = some (.int .i64 0) := blk_cell HV2.out.b1 0
          have z1 : w2.cell? ⟨B + 1, 1, none⟩ = some (.int .i64 0) := blk_cell HV2.out.b1 1
          have z2 : w2.cell? ⟨B + 1, 2, none⟩ = some (.int .i64 0) := blk_cell HV2.out.b1 2
          have z3 : w2.frozen? ⟨B + 1, 0, none⟩ = false := blk_free HV2.out.b1 0
          have z4 : w2.frozen? ⟨B + 1, 1, none⟩ = false := blk_free HV2.out.b1 1
          have z5 : w2.frozen? ⟨B + 1, 2, none⟩ = false := blk_free HV2.out.b1 2
          go_wp2_with (go_at_call 67; (with_reducible refine (btw_any _ _ _).mono ?_); rintro e w' ⟨rfl, rfl⟩)
          try rw [Exit.noGoto_ret]
          obtain ⟨y0, y1, y2, yb⟩ := HV2.out.put 10 k (-1)
          exact bodyPost_ret (v := .agg #[.int .i64 10, .int .i64 k, .int .i64 (-1)]) (by simp [results, Try.results52, go_sem, y0, y1, y2]) rfl ⟨10, k, -1, rfl, by rw [HF.out]; rfl, yb⟩
        have k4' := of_decide_eq_true k4
        have HHB := hid (show tskHeadB ⟨tp, td, tw, ss⟩ = true by unfold tskHeadB; rw [k1, k2, k3]; exact decide_eq_true (by rw [← HM.out]; exact k4'))
        have htw : 1 ≤ tw := by have h := k3; unfold btw at h; have := of_decide_eq_true h; omega
        go_wp2_with (go_at_call 67; (with_reducible refine (btw_any _ _ _).mono ?_); rintro e w' ⟨rfl, rfl⟩)
        clear e0 e1 e2 k1 k2 k3 k4
        clear e3
        obtain ⟨wo, hwo⟩ : ∃ wo, wo = wr := ⟨_, rfl⟩
        subst hwo
        go_loopw [55, 6] (fun i e wx => ∃ j : Nat, j ≤ m ∧ i = .int .i64 j ∧ e = .int .i64 (secEnd 0 (ss.take j)) ∧ Hid (secsB S.resn tw 0 (ss.take j) = true) ∧ Hid (VW w wx B C k (-1)) ∧ Hid (VB wx B D O)) (fun i _ _ => m - (intOf i).toNat)
        case atStart => exact ⟨0, by omega, rfl, rfl, hid rfl, HV2, HD2⟩
        case round =>
          obtain ⟨j, hj, rfl, rfl, HSB, HVx, HDx⟩ := hrel
          by_cases hlt2 : j < m
          · obtain ⟨y, hy⟩ : ∃ y, ss[j]? = some y := ⟨_, List.getElem?_eq_getElem (by have := HM.out; omega)⟩
            obtain ⟨b3, o3, cs3, hA3, hb3, _, hc3, hr3⟩ := HU.out.at hy
            have hr3' : cs3 = [.int .i64 y.at_, .int .i64 y.res, .int .i64 y.len] := hr3
            subst hr3'
            subst hA3
            have hbx := HVx.out.below
            have m0 : wr.cell? ⟨b3, o3 + j * 3, none⟩ = some (.int .i64 y.at_) := (hbx.cell (p := ⟨b3, o3 + j * 3, none⟩) hb3).trans (by simpa using hc3 0 _ rfl)
            have m1 : wr.cell? ⟨b3, o3 + j * 3 + 1, none⟩ = some (.int .i64 y.res) := (hbx.cell (p := ⟨b3, o3 + j * 3 + 1, none⟩) hb3).trans (hc3 1 _ rfl)
            have m2 : wr.cell? ⟨b3, o3 + j * 3 + 2, none⟩ = some (.int .i64 y.len) := (hbx.cell (p := ⟨b3, o3 + j * 3 + 2, none⟩) hb3).trans (hc3 2 _ rfl)
            have hyw := HWF.out y (List.mem_of_getElem? hy)
            have hya := hyw.a
            have hyr := hyw.r
            have hyl := hyw.l
            unfold I64 at hya hyr hyl
            have hed := secsB_end HSB.out ⟨by omega, by omega⟩
            obtain ⟨ed, hed2⟩ : ∃ ed, secEnd 0 (ss.take j) = ed := ⟨_, rfl⟩
            rw [hed2] at hed
            have HED := hid hed2
            rw [hed2]
            obtain ⟨sa, sr, sl⟩ := y
            simp only at m0 m1 m2 hya hyr hyl
            have HY := hid hy
            clear hy hc3 hr3 hbx hyw hed2 hb3
            go_upto_region 14 with fail
            obtain ⟨D2, hD2⟩ : ∃ D2, D2 = wr.heap.size := ⟨_, rfl⟩
            rw [← hD2]
            generalize hw4 : wr.alloc (.cells #[.int .i64 sa, .int .i64 sr, .int .i64 sl] 88) = w4
            have HV4 : Hid (VW w w4 B C k (-1)) := by rw [← hw4]; exact hid (HVx.out.new _)
            have HD4 : Hid (VB w4 B D O) := by rw [← hw4]; exact hid (HDx.out.new _)
            have hblk : w4.heap[D2]? = some (.cells #[.int .i64 sa, .int .i64 sr, .int .i64 sl] 88 (0, 0)) := by rw [← hw4, hD2]; exact blk_new _ _
            have d0 : w4.cell? ⟨D2, 0, none⟩ = some (.int .i64 sa) := blk_cell hblk 0
            have d1 : w4.cell? ⟨D2, 1, none⟩ = some (.int .i64 sr) := blk_cell hblk 1
            have d2 : w4.cell? ⟨D2, 2, none⟩ = some (.int .i64 sl) := blk_cell hblk 2
            have d3 : w4.cell? ⟨D, 2, none⟩ = some (.int .i64 tw) := blk_cell (HO.out ▸ HD4.out.blk) 2
            have d4 : w4.cell? ⟨B, 7, none⟩ = some (.int .i64 S.resn) := by rw [blk_cell HV4.out.b0 7, HC.out]; rfl
            clear hw4 hD2 hblk m0 m1 m2
            cases x1 : decide (sa < ed)
            case true =>
              have x1' := of_decide_eq_true x1
              have HF := hid (show rightS S = false by rw [HR2.out]; exact all_false HX.out (by unfold tskB; rw [sec_false HY.out (e := 0) (by unfold secB; exact decide_eq_false (fun h => by have a1 := of_decide_eq_true x1; have he := HED.out; rw [he] at h; dsimp only at h; omega))]; simp))
              have g1 : w4.cell? ⟨B + 1 + 1, 0, none⟩ = some (.int .i64 10) := blk_cell HV4.out.b2 0
              have g2 : w4.cell? ⟨B + 1 + 1, 1, none⟩ = some (.int .i64 k) := blk_cell HV4.out.b2 1
              have g3 : w4.cell? ⟨B + 1 + 1, 2, none⟩ = some (.int .i64 (-1)) := blk_cell HV4.out.b2 2
              have g4 : w4.frozen? ⟨B + 1 + 1, 1, none⟩ = false := blk_free HV4.out.b2 1
              have g5 : w4.frozen? ⟨B + 1 + 1, 2, none⟩ = false := blk_free HV4.out.b2 2
              have z0 : w4.cell? ⟨B + 1, 0, none⟩ = some (.int .i64 0) := blk_cell HV4.out.b1 0
              have z1 : w4.cell? ⟨B + 1, 1, none⟩ = some (.int .i64 0) := blk_cell HV4.out.b1 1
              have z2 : w4.cell? ⟨B + 1, 2, none⟩ = some (.int .i64 0) := blk_cell HV4.out.b1 2
              have z3 : w4.frozen? ⟨B + 1, 0, none⟩ = false := blk_free HV4.out.b1 0
              have z4 : w4.frozen? ⟨B + 1, 1, none⟩ = false := blk_free HV4.out.b1 1
              have z5 : w4.frozen? ⟨B + 1, 2, none⟩ = false := blk_free HV4.out.b1 2
              go_wp2_with fail
              try rw [Exit.noGoto_ret]
              obtain ⟨y0, y1, y2, yb⟩ := (HV4.out.setS j).put 10 k j
              exact bodyPost_ret (v := .agg #[.int .i64 10, .int .i64 k, .int .i64 j]) (by simp [results, Try.results52, go_sem, y0, y1, y2]) rfl ⟨10, k, j, rfl, by rw [HF.out]; rfl, yb⟩
            have x1' := of_decide_eq_false x1
            cases x2 : decide (tw < sa)
            case true =>
              have x2' := of_decide_eq_true x2
              have HF := hid (show rightS S = false by rw [HR2.out]; exact all_false HX.out (by unfold tskB; rw [sec_false HY.out (e := 0) (by unfold secB; exact decide_eq_false (fun h => by have a1 := of_decide_eq_true x2; have he := HED.out; rw [he] at h; dsimp only at h; omega))]; simp))
              have g1 : w4.cell? ⟨B + 1 + 1, 0, none⟩ = some (.int .i64 10) := blk_cell HV4.out.b2 0
              have g2 : w4.cell? ⟨B + 1 + 1, 1, none⟩ = some (.int .i64 k) := blk_cell HV4.out.b2 1
              have g3 : w4.cell? ⟨B + 1 + 1, 2, none⟩ = some (.int .i64 (-1)) := blk_cell HV4.out.b2 2
              have g4 : w4.frozen? ⟨B + 1 + 1, 1, none⟩ = false := blk_free HV4.out.b2 1
              have g5 : w4.frozen? ⟨B + 1 + 1, 2, none⟩ = false := blk_free HV4.out.b2 2
              have z0 : w4.cell? ⟨B + 1, 0, none⟩ = some (.int .i64 0) := blk_cell HV4.out.b1 0
              have z1 : w4.cell? ⟨B + 1, 1, none⟩ = some (.int .i64 0) := blk_cell HV4.out.b1 1
              have z2 : w4.cell? ⟨B + 1, 2, none⟩ = some (.int .i64 0) := blk_cell HV4.out.b1 2
              have z3 : w4.frozen? ⟨B + 1, 0, none⟩ = false := blk_free HV4.out.b1 0
              have z4 : w4.frozen? ⟨B + 1, 1, none⟩ = false := blk_free HV4.out.b1 1
              have z5 : w4.frozen? ⟨B + 1, 2, none⟩ = false := blk_free HV4.out.b1 2
              go_wp2_with fail
              try rw [Exit.noGoto_ret]
              obtain ⟨y0, y1, y2, yb⟩ := (HV4.out.setS j).put 10 k j
              exact bodyPost_ret (v := .agg #[.int .i64 10, .int .i64 k, .int .i64 j]) (by simp [results, Try.results52, go_sem, y0, y1, y2]) rfl ⟨10, k, j, rfl, by rw [HF.out]; rfl, yb⟩
            have x2' := of_decide_eq_false x2
            cases x3 : decide (sr < 0)
            case true =>
              have x3' := of_decide_eq_true x3
              have HF := hid (show rightS S = false by rw [HR2.out]; exact all_false HX.out (by unfold tskB; rw [sec_false HY.out (e := 0) (by unfold secB; exact decide_eq_false (fun h => by have a1 := of_decide_eq_true x3; have he := HED.out; rw [he] at h; dsimp only at h; omega))]; simp))
              have g1 : w4.cell? ⟨B + 1 + 1, 0, none⟩ = some (.int .i64 10) := blk_cell HV4.out.b2 0
              have g2 : w4.cell? ⟨B + 1 + 1, 1, none⟩ = some (.int .i64 k) := blk_cell HV4.out.b2 1
              have g3 : w4.cell? ⟨B + 1 + 1, 2, none⟩ = some (.int .i64 (-1)) := blk_cell HV4.out.b2 2
              have g4 : w4.frozen? ⟨B + 1 + 1, 1, none⟩ = false := blk_free HV4.out.b2 1
              have g5 : w4.frozen? ⟨B + 1 + 1, 2, none⟩ = false := blk_free HV4.out.b2 2
              have z0 : w4.cell? ⟨B + 1, 0, none⟩ = some (.int .i64 0) := blk_cell HV4.out.b1 0
              have z1 : w4.cell? ⟨B + 1, 1, none⟩ = some (.int .i64 0) := blk_cell HV4.out.b1 1
              have z2 : w4.cell? ⟨B + 1, 2, none⟩ = some (.int .i64 0) := blk_cell HV4.out.b1 2
              have z3 : w4.frozen? ⟨B + 1, 0, none⟩ = false := blk_free HV4.out.b1 0
              have z4 : w4.frozen? ⟨B + 1, 1, none⟩ = false := blk_free HV4.out.b1 1
              have z5 : w4.frozen? ⟨B + 1, 2, none⟩ = false := blk_free HV4.out.b1 2
              go_wp2_with fail
              try rw [Exit.noGoto_ret]
              obtain ⟨y0, y1, y2, yb⟩ := (HV4.out.setS j).put 10 k j
              exact bodyPost_ret (v := .agg #[.int .i64 10, .int .i64 k, .int .i64 j]) (by simp [results, Try.results52, go_sem, y0, y1, y2]) rfl ⟨10, k, j, rfl, by rw [HF.out]; rfl, yb⟩
            have x3' := of_decide_eq_false x3
            cases x4 : decide (S.resn ≤ sr)
            case true =>
              have x4' := of_decide_eq_true x4
              have HF := hid (show rightS S = false by rw [HR2.out]; exact all_false HX.out (by unfold tskB; rw [sec_false HY.out (e := 0) (by unfold secB; exact decide_eq_false (fun h => by have a1 := of_decide_eq_true x4; have he := HED.out; rw [he] at h; dsimp only at h; omega))]; simp))
              have g1 : w4.cell? ⟨B + 1 + 1, 0, none⟩ = some (.int .i64 10) := blk_cell HV4.out.b2 0
              have g2 : w4.cell? ⟨B + 1 + 1, 1, none⟩ = some (.int .i64 k) := blk_cell HV4.out.b2 1
              have g3 : w4.cell? ⟨B + 1 + 1, 2, none⟩ = some (.int .i64 (-1)) := blk_cell HV4.out.b2 2
              have g4 : w4.frozen? ⟨B + 1 + 1, 1, none⟩ = false := blk_free HV4.out.b2 1
              have g5 : w4.frozen? ⟨B + 1 + 1, 2, none⟩ = false := blk_free HV4.out.b2 2
              have z0 : w4.cell? ⟨B + 1, 0, none⟩ = some (.int .i64 0) := blk_cell HV4.out.b1 0
              have z1 : w4.cell? ⟨B + 1, 1, none⟩ = some (.int .i64 0) := blk_cell HV4.out.b1 1
              have z2 : w4.cell? ⟨B + 1, 2, none⟩ = some (.int .i64 0) := blk_cell HV4.out.b1 2
              have z3 : w4.frozen? ⟨B + 1, 0, none⟩ = false := blk_free HV4.out.b1 0
              have z4 : w4.frozen? ⟨B + 1, 1, none⟩ = false := blk_free HV4.out.b1 1
              have z5 : w4.frozen? ⟨B + 1, 2, none⟩ = false := blk_free HV4.out.b1 2
              go_wp2_with fail
              try rw [Exit.noGoto_ret]
              obtain ⟨y0, y1, y2, yb⟩ := (HV4.out.setS j).put 10 k j
              exact bodyPost_ret (v := .agg #[.int .i64 10, .int .i64 k, .int .i64 j]) (by simp [results, Try.results52, go_sem, y0, y1, y2]) rfl ⟨10, k, j, rfl, by rw [HF.out]; rfl, yb⟩
            have x4' := of_decide_eq_false x4
            cases x5 : decide (sl < 1)
            case true =>
              have x5' := of_decide_eq_true x5
              have HF := hid (show rightS S = false by rw [HR2.out]; exact all_false HX.out (by unfold tskB; rw [sec_false HY.out (e := 0) (by unfold secB; exact decide_eq_false (fun h => by have a1 := of_decide_eq_true x5; have he := HED.out; rw [he] at h; dsimp only at h; omega))]; simp))
              have g1 : w4.cell? ⟨B + 1 + 1, 0, none⟩ = some (.int .i64 10) := blk_cell HV4.out.b2 0
              have g2 : w4.cell? ⟨B + 1 + 1, 1, none⟩ = some (.int .i64 k) := blk_cell HV4.out.b2 1
              have g3 : w4.cell? ⟨B + 1 + 1, 2, none⟩ = some (.int .i64 (-1)) := blk_cell HV4.out.b2 2
              have g4 : w4.frozen? ⟨B + 1 + 1, 1, none⟩ = false := blk_free HV4.out.b2 1
              have g5 : w4.frozen? ⟨B + 1 + 1, 2, none⟩ = false := blk_free HV4.out.b2 2
              have z0 : w4.cell? ⟨B + 1, 0, none⟩ = some (.int .i64 0) := blk_cell HV4.out.b1 0
              have z1 : w4.cell? ⟨B + 1, 1, none⟩ = some (.int .i64 0) := blk_cell HV4.out.b1 1
              have z2 : w4.cell? ⟨B + 1, 2, none⟩ = some (.int .i64 0) := blk_cell HV4.out.b1 2
              have z3 : w4.frozen? ⟨B + 1, 0, none⟩ = false := blk_free HV4.out.b1 0
              have z4 : w4.frozen? ⟨B + 1, 1, none⟩ = false := blk_free HV4.out.b1 1
              have z5 : w4.frozen? ⟨B + 1, 2, none⟩ = false := blk_free HV4.out.b1 2
              go_wp2_with fail
              try rw [Exit.noGoto_ret]
              obtain ⟨y0, y1, y2, yb⟩ := (HV4.out.setS j).put 10 k j
              exact bodyPost_ret (v := .agg #[.int .i64 10, .int .i64 k, .int .i64 j]) (by simp [results, Try.results52, go_sem, y0, y1, y2]) rfl ⟨10, k, j, rfl, by rw [HF.out]; rfl, yb⟩
            have x5' := of_decide_eq_false x5
            cases x6 : decide (tw - sa < sl)
            case true =>
              have x6' := of_decide_eq_true x6
              have HF := hid (show rightS S = false by rw [HR2.out]; exact all_false HX.out (by unfold tskB; rw [sec_false HY.out (e := 0) (by unfold secB; exact decide_eq_false (fun h => by have a1 := of_decide_eq_true x6; have he := HED.out; rw [he] at h; dsimp only at h; omega))]; simp))
              have g1 : w4.cell? ⟨B + 1 + 1, 0, none⟩ = some (.int .i64 10) := blk_cell HV4.out.b2 0
              have g2 : w4.cell? ⟨B + 1 + 1, 1, none⟩ = some (.int .i64 k) := blk_cell HV4.out.b2 1
              have g3 : w4.cell? ⟨B + 1 + 1, 2, none⟩ = some (.int .i64 (-1)) := blk_cell HV4.out.b2 2
              have g4 : w4.frozen? ⟨B + 1 + 1, 1, none⟩ = false := blk_free HV4.out.b2 1
              have g5 : w4.frozen? ⟨B + 1 + 1, 2, none⟩ = false := blk_free HV4.out.b2 2
              have z0 : w4.cell? ⟨B + 1, 0, none⟩ = some (.int .i64 0) := blk_cell HV4.out.b1 0
              have z1 : w4.cell? ⟨B + 1, 1, none⟩ = some (.int .i64 0) := blk_cell HV4.out.b1 1
              have z2 : w4.cell? ⟨B + 1, 2, none⟩ = some (.int .i64 0) := blk_cell HV4.out.b1 2
              have z3 : w4.frozen? ⟨B + 1, 0, none⟩ = false := blk_free HV4.out.b1 0
              have z4 : w4.frozen? ⟨B + 1, 1, none⟩ = false := blk_free HV4.out.b1 1
              have z5 : w4.frozen? ⟨B + 1, 2, none⟩ = false := blk_free HV4.out.b1 2
              go_wp2_with fail
              try rw [Exit.noGoto_ret]
              obtain ⟨y0, y1, y2, yb⟩ := (HV4.out.setS j).put 10 k j
              exact bodyPost_ret (v := .agg #[.int .i64 10, .int .i64 k, .int .i64 j]) (by simp [results, Try.results52, go_sem, y0, y1, y2]) rfl ⟨10, k, j, rfl, by rw [HF.out]; rfl, yb⟩
            have x6' := of_decide_eq_false x6
            have HK := hid (show secsB S.resn tw 0 (ss.take (j + 1)) = true by rw [take_next HY.out, secsB_snoc, HSB.out, Bool.true_and, HED.out]; unfold secB; exact decide_eq_true (by dsimp only; omega))
            have HE2 := hid (show secEnd 0 (ss.take (j + 1)) = sa + sl by rw [take_next HY.out, secEnd_snoc])
            go_wp2_with fail
            go_roundw
            case rel => exact ⟨j + 1, by omega, by go_num, by rw [HE2.out], HK, HV4, HD4⟩
            case measure => simp [intOf]; omega
            
          · obtain rfl : j = m := by omega
            have HTB := hid (show (S.tasks.take (k + 1)).all (tskB S.resn) = true by
              rw [take_next HX.out, List.all_append, HALL.out, Bool.true_and]
              have := HSB.out
              rw [List.take_of_length_le (by rw [HM.out]; exact Nat.le_refl _)] at this
              simp only [List.all_cons, List.all_nil, Bool.and_true]
              unfold tskB
              rw [HHB.out, this]
              rfl)
            have g1 : wr.cell? ⟨B + 1 + 1, 1, none⟩ = some (.int .i64 k) := blk_cell HVx.out.b2 1
            have g4 : wr.frozen? ⟨B + 1 + 1, 1, none⟩ = false := blk_free HVx.out.b2 1
            have g5 : wr.frozen? ⟨B + 1 + 1, 2, none⟩ = false := blk_free HVx.out.b2 2
            go_wp2_with fail
            go_roundw
            case rel => exact ⟨k + 1, by omega, by go_num, HTB, hid (HVx.out.setT (-1))⟩
            case measure => simp [intOf]; omega
        
      · obtain rfl : k = n := by omega
        have HF := hid (show rightS S = true by
          rw [HR2.out]
          have := HALL.out
          rwa [List.take_of_length_le (by rw [← HN.out]; exact Nat.le_refl _)] at this)
        have g1 : wr.cell? ⟨B + 1 + 1, 1, none⟩ = some (.int .i64 (-1)) := blk_cell HVr.out.b2 1
        have z0 : wr.cell? ⟨B + 1, 0, none⟩ = some (.int .i64 0) := blk_cell HVr.out.b1 0
        have z1 : wr.cell? ⟨B + 1, 1, none⟩ = some (.int .i64 0) := blk_cell HVr.out.b1 1
        have z2 : wr.cell? ⟨B + 1, 2, none⟩ = some (.int .i64 0) := blk_cell HVr.out.b1 2
        have z3 : wr.frozen? ⟨B + 1, 0, none⟩ = false := blk_free HVr.out.b1 0
        have z4 : wr.frozen? ⟨B + 1, 1, none⟩ = false := blk_free HVr.out.b1 1
        have z5 : wr.frozen? ⟨B + 1, 2, none⟩ = false := blk_free HVr.out.b1 2
        go_wp2_with fail
        try rw [Exit.noGoto_ret]
        obtain ⟨y0, y1, y2, yb⟩ := HVr.out.put 0 (-1) (-1)
        exact bodyPost_ret (v := .agg #[.int .i64 0, .int .i64 (-1), .int .i64 (-1)]) (by simp [results, Try.results52, go_sem, y0, y1, y2]) rfl ⟨0, -1, -1, rfl, by rw [HF.out]; rfl, yb⟩
end
end Go.Proofs.Ytppildaahmlfmaa
