/- Joined: Ref08. -/
import Derived.Test.YtppildaahmlfmaaQ07
set_option linter.unusedVariables false
set_option linter.unusedSimpArgs false
/- The document's answer to chapter 8 (contracts): whatever system. -/
set_option linter.unusedVariables false
set_option linter.unusedSimpArgs false
namespace Go.Proofs.Ytppildaahmlfmaa
open Go.RowKit

section
variable {w : World}
theorem Try.field_finding (a b c : Int) (w : World) : (Instr.field 103 (.agg #[.int .i64 a, .int .i64 b, .int .i64 c]) 0).run Try.prog w = .ok (.int .i64 a) w := by kernel_rfl
set_option maxRecDepth 100000 in
theorem vright_any (S : Sy) (A : Option Addr) (cap : Nat) (n : Nat) (hs : IsSys w (.slice A n cap) S) :
    Calls Try.prog 34 #[sysV S (.slice A n cap)] w fun e w' => e = .returned (.bool (rightS S)) ∧ Below w.heap.size w w' := by
  have HC := hid (fun W (h : Below w.heap.size w W) => vcheck_any (w := W) S A cap n (hs.later h))
  have HB1 := hid (below_new (Below.refl w.heap.size w) (.cells #[.int .i64 S.cores, .int .i64 S.policy, .int .i64 S.prot, .int .i64 S.rel, .int .i64 S.sw, .int .i64 S.fin, .int .i64 S.lat, .int .i64 S.resn, .slice A n cap] 24))
  unfold sysV at *
  generalize rightS S = r at *
  clear hs
  go_enter Try.func34, Try.ntmps34
  go_wp2_with fail
  refine (HC.out _ HB1.out).mono ?_
  rintro e w1 ⟨er, t, k, rfl, he, hb⟩
  have HB := hid (below_then HB1.out hb)
  have hfd := Try.field_finding er t k w1
  subst he
  clear hb
  go_wp2_with fail
  go_ret
  exact ⟨rfl, HB.out⟩
theorem rbtw_any (n a b : Int) : Calls Try.prog 70 #[.int .i64 n, .int .i64 a, .int .i64 b] w fun e w' => e = .returned (.bool (btw n a b)) ∧ w = w' := by
  by_cases h1 : a ≤ n
  · have h1' : decide (a ≤ n) = true := decide_eq_true h1
    have hE := hid (show btw n a b = decide (n ≤ b) by unfold btw; simp [h1])
    go_enter Try.func70, Try.ntmps70
    go_wp2_with fail
    go_ret
    exact ⟨by rw [hE.out]; rfl, rfl⟩
  · have h1' : decide (a ≤ n) = false := decide_eq_false h1
    have hE := hid (show btw n a b = false by unfold btw; simp [h1])
    go_enter Try.func70, Try.ntmps70
    go_wp2_with fail
    go_ret
    exact ⟨by rw [hE.out]; rfl, rfl⟩
theorem wholeB_ref (S : Sy) : wholeB S = (btw S.cores 1 8 && btw S.policy 1 2 && btw S.prot 1 2 && !(S.prot == 2 && S.policy != 1) && btw S.rel 0 50 && btw S.sw 0 50 && btw S.fin 0 50 && btw S.lat 1 50 && btw S.resn 0 8 && btw (S.tasks.length : Int) 1 24) := by
  unfold wholeB btw
  rw [Bool.eq_iff_iff]
  simp only [Bool.and_eq_true, decide_eq_true_eq, Bool.not_eq_true', Bool.and_eq_false_iff, beq_eq_false_iff_ne, bne_eq_false_iff_eq]
  omega
attribute [local irreducible] btw
set_option maxRecDepth 100000 in
set_option maxHeartbeats 1600000 in
theorem rwhole_any (S : Sy) (A : Option Addr) (cap : Nat) (n : Nat) (hn : n = S.tasks.length) : Calls Try.prog 69 #[sysV S (.slice A n cap)] w fun e w' => e = .returned (.bool (wholeB S)) ∧ Below w.heap.size w w' := by
  have HE := hid (wholeB_ref S)
  rw [← hn] at HE
  unfold sysV
  generalize wholeB S = r at *
  generalize S.policy = pol at *
  generalize S.prot = pro at *
  generalize S.rel = x1 at *
  generalize S.sw = x2 at *
  generalize S.fin = x3 at *
  generalize S.cores = x4 at *
  generalize S.lat = x5 at *
  generalize S.resn = x6 at *
  clear hn
  go_enter Try.func69, Try.ntmps69
  cases k1 : btw x4 1 8
  case false =>
    have HF := hid (show r = false by rw [HE.out]; simp [k1])
    clear HE
    go_wp2_with (go_at_call 70; (with_reducible refine (rbtw_any _ _ _).mono ?_); rintro e w' ⟨rfl, rfl⟩)
    go_ret
    exact ⟨by rw [HF.out]; rfl, (Below.refl _ _).alloc (Nat.le_refl _) _⟩
  cases k2 : btw pol 1 2
  case false =>
    have HF := hid (show r = false by rw [HE.out]; simp [k1, k2])
    clear HE
    go_wp2_with (go_at_call 70; (with_reducible refine (rbtw_any _ _ _).mono ?_); rintro e w' ⟨rfl, rfl⟩)
    go_ret
    exact ⟨by rw [HF.out]; rfl, (Below.refl _ _).alloc (Nat.le_refl _) _⟩
  cases k3 : btw pro 1 2
  case false =>
    have HF := hid (show r = false by rw [HE.out]; simp [k1, k2, k3])
    clear HE
    go_wp2_with (go_at_call 70; (with_reducible refine (rbtw_any _ _ _).mono ?_); rintro e w' ⟨rfl, rfl⟩)
    go_ret
    exact ⟨by rw [HF.out]; rfl, (Below.refl _ _).alloc (Nat.le_refl _) _⟩
  cases k4 : (pro == 2 && pol != 1)
  case true =>
    have HF := hid (show r = false by rw [HE.out]; simp [k1, k2, k3, k4])
    clear HE
    obtain ⟨y1, y2⟩ := Bool.and_eq_true_iff.1 k4
    go_wp2_with (go_at_call 70; (with_reducible refine (rbtw_any _ _ _).mono ?_); rintro e w' ⟨rfl, rfl⟩)
    go_ret
    exact ⟨by rw [HF.out]; rfl, (Below.refl _ _).alloc (Nat.le_refl _) _⟩
  cases k5 : btw x1 0 50
  case false =>
    have HF := hid (show r = false by rw [HE.out]; simp [k1, k2, k3, k4, k5])
    clear HE
    rcases Bool.and_eq_false_iff.1 k4 with y1 | y1
    · go_wp2_with (go_at_call 70; (with_reducible refine (rbtw_any _ _ _).mono ?_); rintro e w' ⟨rfl, rfl⟩)
      go_ret
      exact ⟨by rw [HF.out]; rfl, (Below.refl _ _).alloc (Nat.le_refl _) _⟩
    · cases y2 : (pro == 2)
      · go_wp2_with (go_at_call 70; (with_reducible refine (rbtw_any _ _ _).mono ?_); rintro e w' ⟨rfl, rfl⟩)
        go_ret
        exact ⟨by rw [HF.out]; rfl, (Below.refl _ _).alloc (Nat.le_refl _) _⟩
      · go_wp2_with (go_at_call 70; (with_reducible refine (rbtw_any _ _ _).mono ?_); rintro e w' ⟨rfl, rfl⟩)
        go_ret
        exact ⟨by rw [HF.out]; rfl, (Below.refl _ _).alloc (Nat.le_refl _) _⟩
  cases k6 : btw x2 0 50
  case false =>
    have HF := hid (show r = false by rw [HE.out]; simp [k1, k2, k3, k4, k5, k6])
    clear HE
    rcases Bool.and_eq_false_iff.1 k4 with y1 | y1
    · go_wp2_with (go_at_call 70; (with_reducible refine (rbtw_any _ _ _).mono ?_); rintro e w' ⟨rfl, rfl⟩)
      go_ret
      exact ⟨by rw [HF.out]; rfl, (Below.refl _ _).alloc (Nat.le_refl _) _⟩
    · cases y2 : (pro == 2)
      · go_wp2_with (go_at_call 70; (with_reducible refine (rbtw_any _ _ _).mono ?_); rintro e w' ⟨rfl, rfl⟩)
        go_ret
        exact ⟨by rw [HF.out]; rfl, (Below.refl _ _).alloc (Nat.le_refl _) _⟩
      · go_wp2_with (go_at_call 70; (with_reducible refine (rbtw_any _ _ _).mono ?_); rintro e w' ⟨rfl, rfl⟩)
        go_ret
        exact ⟨by rw [HF.out]; rfl, (Below.refl _ _).alloc (Nat.le_refl _) _⟩
  cases k7 : btw x3 0 50
  case false =>
    have HF := hid (show r = false by rw [HE.out]; simp [k1, k2, k3, k4, k5, k6, k7])
    clear HE
    rcases Bool.and_eq_false_iff.1 k4 with y1 | y1
    · go_wp2_with (go_at_call 70; (with_reducible refine (rbtw_any _ _ _).mono ?_); rintro e w' ⟨rfl, rfl⟩)
      go_ret
      exact ⟨by rw [HF.out]; rfl, (Below.refl _ _).alloc (Nat.le_refl _) _⟩
    · cases y2 : (pro == 2)
      · go_wp2_with (go_at_call 70; (with_reducible refine (rbtw_any _ _ _).mono ?_); rintro e w' ⟨rfl, rfl⟩)
        go_ret
        exact ⟨by rw [HF.out]; rfl, (Below.refl _ _).alloc (Nat.le_refl _) _⟩
      · go_wp2_with (go_at_call 70; (with_reducible refine (rbtw_any _ _ _).mono ?_); rintro e w' ⟨rfl, rfl⟩)
        go_ret
        exact ⟨by rw [HF.out]; rfl, (Below.refl _ _).alloc (Nat.le_refl _) _⟩
  cases k8 : btw x5 1 50
  case false =>
    have HF := hid (show r = false by rw [HE.out]; simp [k1, k2, k3, k4, k5, k6, k7, k8])
    clear HE
    rcases Bool.and_eq_false_iff.1 k4 with y1 | y1
    · go_wp2_with (go_at_call 70; (with_reducible refine (rbtw_any _ _ _).mono ?_); rintro e w' ⟨rfl, rfl⟩)
      go_ret
      exact ⟨by rw [HF.out]; rfl, (Below.refl _ _).alloc (Nat.le_refl _) _⟩
    · cases y2 : (pro == 2)
      · go_wp2_with (go_at_call 70; (with_reducible refine (rbtw_any _ _ _).mono ?_); rintro e w' ⟨rfl, rfl⟩)
        go_ret
        exact ⟨by rw [HF.out]; rfl, (Below.refl _ _).alloc (Nat.le_refl _) _⟩
      · go_wp2_with (go_at_call 70; (with_reducible refine (rbtw_any _ _ _).mono ?_); rintro e w' ⟨rfl, rfl⟩)
        go_ret
        exact ⟨by rw [HF.out]; rfl, (Below.refl _ _).alloc (Nat.le_refl _) _⟩
  cases k9 : btw x6 0 8
  case false =>
    have HF := hid (show r = false by rw [HE.out]; simp [k1, k2, k3, k4, k5, k6, k7, k8, k9])
    clear HE
    rcases Bool.and_eq_false_iff.1 k4 with y1 | y1
    · go_wp2_with (go_at_call 70; (with_reducible refine (rbtw_any _ _ _).mono ?_); rintro e w' ⟨rfl, rfl⟩)
      go_ret
      exact ⟨by rw [HF.out]; rfl, (Below.refl _ _).alloc (Nat.le_refl _) _⟩
    · cases y2 : (pro == 2)
      · go_wp2_with (go_at_call 70; (with_reducible refine (rbtw_any _ _ _).mono ?_); rintro e w' ⟨rfl, rfl⟩)
        go_ret
        exact ⟨by rw [HF.out]; rfl, (Below.refl _ _).alloc (Nat.le_refl _) _⟩
      · go_wp2_with (go_at_call 70; (with_reducible refine (rbtw_any _ _ _).mono ?_); rintro e w' ⟨rfl, rfl⟩)
        go_ret
        exact ⟨by rw [HF.out]; rfl, (Below.refl _ _).alloc (Nat.le_refl _) _⟩
  cases k10 : btw (n : Int) 1 24
  case false =>
    have HF := hid (show r = false by rw [HE.out]; simp [k1, k2, k3, k4, k5, k6, k7, k8, k9, k10])
    clear HE
    rcases Bool.and_eq_false_iff.1 k4 with y1 | y1
    · go_wp2_with (go_at_call 70; (with_reducible refine (rbtw_any _ _ _).mono ?_); rintro e w' ⟨rfl, rfl⟩)
      go_ret
      exact ⟨by rw [HF.out]; rfl, (Below.refl _ _).alloc (Nat.le_refl _) _⟩
    · cases y2 : (pro == 2)
      · go_wp2_with (go_at_call 70; (with_reducible refine (rbtw_any _ _ _).mono ?_); rintro e w' ⟨rfl, rfl⟩)
        go_ret
        exact ⟨by rw [HF.out]; rfl, (Below.refl _ _).alloc (Nat.le_refl _) _⟩
      · go_wp2_with (go_at_call 70; (with_reducible refine (rbtw_any _ _ _).mono ?_); rintro e w' ⟨rfl, rfl⟩)
        go_ret
        exact ⟨by rw [HF.out]; rfl, (Below.refl _ _).alloc (Nat.le_refl _) _⟩
  have HF := hid (show r = true by rw [HE.out]; simp [k1, k2, k3, k4, k5, k6, k7, k8, k9, k10])
  clear HE
  rcases Bool.and_eq_false_iff.1 k4 with y1 | y1
  · go_wp2_with (go_at_call 70; (with_reducible refine (rbtw_any _ _ _).mono ?_); rintro e w' ⟨rfl, rfl⟩)
    go_ret
    exact ⟨by rw [HF.out]; rfl, (Below.refl _ _).alloc (Nat.le_refl _) _⟩
  · cases y2 : (pro == 2)
    · go_wp2_with (go_at_call 70; (with_reducible refine (rbtw_any _ _ _).mono ?_); rintro e w' ⟨rfl, rfl⟩)
      go_ret
      exact ⟨by rw [HF.out]; rfl, (Below.refl _ _).alloc (Nat.le_refl _) _⟩
    · go_wp2_with (go_at_call 70; (with_reducible refine (rbtw_any _ _ _).mono ?_); rintro e w' ⟨rfl, rfl⟩)
      go_ret
      exact ⟨by rw [HF.out]; rfl, (Below.refl _ _).alloc (Nat.le_refl _) _⟩
/-- The world within the document's Check: the system's box. -/
structure RW (w wr : World) (B : Nat) (C : Array Value) : Prop where
  below : Below w.heap.size w wr
  b0 : wr.heap[B]? = some (.cells C 24 (0, 0))
section
variable {wr w1 : World} {B D : Nat} {C : Array Value} {o : Obj}
theorem RW.new (H : RW w wr B C) (o : Obj) : RW w (wr.alloc o) B C := ⟨below_new H.below o, blk_old H.b0 o⟩
theorem blks1 {o1 : Obj} (hb : Below (w.alloc o1).heap.size (w.alloc o1) w1) : w1.heap[w.heap.size]? = some o1 ∧ Below w.heap.size w w1 :=
  ⟨(fr0 hb).blk (blk_new w o1) (fun h => h), below_then (below_new (Below.refl _ _) o1) hb⟩
end
set_option maxRecDepth 100000 in
set_option maxHeartbeats 6400000 in
theorem rcheck_any (S : Sy) (A : Option Addr) (cap : Nat) (n : Nat) (hs : IsSys w (.slice A n cap) S) :
    Calls Try.prog 57 #[sysV S (.slice A n cap)] w fun e w' => ∃ (er : Bool) (t k : Int), e = .returned (.tuple #[.bool er, .int .i64 t, .int .i64 k]) ∧ (!er) = rightS S ∧ Below w.heap.size w w' := by
  have hn := hs.tasks.len
  have HS := hid hs
  have HN := hid hn
  have hnm : n ≤ 9223372036854775807 := by have := hs.tasks.room; unfold maxLen at this; omega
  have HWH := hid (fun W => rwhole_any (w := W) S A cap n hn)
  have HR := hid (show rightS S = (wholeB S && S.tasks.all (tskB S.resn)) from rfl)
  obtain ⟨C, hC⟩ : ∃ C, C = sysC S (.slice A n cap) := ⟨_, rfl⟩
  have HC := hid hC
  have r1 : I64 S.resn := hs.wf.resn
  unfold I64 at r1
  have HRN := hid (show wholeB S = true → 0 ≤ S.resn from fun h => by unfold wholeB at h; simp only [Bool.and_eq_true] at h; have h2 := h.2.1.2; unfold btw at h2; have := of_decide_eq_true h2; omega)
  generalize wholeB S = wb at *
  unfold sysV at *
  clear hs hn hC
  go_enter Try.func57, Try.ntmps57
  go_wp2_with fail
  refine (HWH.out _).mono ?_
  rintro e w1 ⟨rfl, hb1⟩
  obtain ⟨q0, hbw⟩ := blks1 hb1
  obtain ⟨B, hB⟩ : ∃ B, w.heap.size = B := ⟨_, rfl⟩
  have hV : RW w w1 w.heap.size (sysC S (.slice A n cap)) := ⟨hbw, q0⟩
  rw [hB] at hV
  rw [← HC.out] at hV
  have HV := hid hV
  rw [hB]
  have HB := hid hB
  clear hV q0 hbw hb1 hB
  cases wb
  · have HF := hid (show rightS S = false by rw [HR.out]; rfl)
    clear HR
    go_wp2_with fail
    go_ret3
    exact ⟨true, -1, -1, rfl, by rw [HF.out]; rfl, HV.out.below⟩
  · have HR2 := hid (show rightS S = S.tasks.all (tskB S.resn) by rw [HR.out]; rfl)
    have r0 := HRN.out rfl
    clear HR HRN
    go_wp2_with fail
    go_loopw [5] (fun i wr => ∃ k : Nat, k ≤ n ∧ i = .int .i64 k ∧ Hid ((S.tasks.take k).all (tskB S.resn) = true) ∧ Hid (RW w wr B C)) (fun i _ => n - (intOf i).toNat)
    case atStart => exact ⟨0, by omega, rfl, hid rfl, HV⟩
    case round =>
      obtain ⟨k, hk, rfl, HALL, HVr⟩ := hrel
      have g0 : wr.cell? ⟨B, 8, none⟩ = some (.slice A n cap) := by rw [blk_cell HVr.out.b0 8, HC.out]; rfl
      by_cases hlt : k < n
      · obtain ⟨t, ht⟩ : ∃ t, S.tasks[k]? = some t := ⟨_, List.getElem?_eq_getElem (by have := HN.out; omega)⟩
        obtain ⟨b, o, cs, hA, hbl, _, hc, u, hu1, hu2⟩ := HS.out.tasks.at ht
        subst hA
        subst hu1
        have htw := HS.out.wf.tasks t (List.mem_of_getElem? ht)
        obtain ⟨A2, c2, hu3, hu4⟩ := hu2.shape
        obtain ⟨tp, td, tw, ss⟩ := t
        simp only at hu3 hc hu4
        obtain ⟨m, hm⟩ : ∃ m, m = ss.length := ⟨_, rfl⟩
        rw [← hm] at hu3 hu4
        subst hu3
        have hmm : m ≤ 9223372036854775807 := by have := hu4; unfold maxLen at this; omega
        have hbr := HVr.out.below
        have m0 : wr.cell? ⟨b, o + k * 4, none⟩ = some (.int .i64 tp) := (hbr.cell (p := ⟨b, o + k * 4, none⟩) hbl).trans (by simpa using hc 0 _ rfl)
        have m1 : wr.cell? ⟨b, o + k * 4 + 1, none⟩ = some (.int .i64 td) := (hbr.cell (p := ⟨b, o + k * 4 + 1, none⟩) hbl).trans (hc 1 _ rfl)
        have m2 : wr.cell? ⟨b, o + k * 4 + 2, none⟩ = some (.int .i64 tw) := (hbr.cell (p := ⟨b, o + k * 4 + 2, none⟩) hbl).trans (hc 2 _ rfl)
        have m3 : wr.cell? ⟨b, o + k * 4 + 3, none⟩ = some (.slice A2 m c2) := (hbr.cell (p := ⟨b, o + k * 4 + 3, none⟩) hbl).trans (hc 3 _ rfl)
        have hI1 := htw.p
        have hI2 := htw.d
        have hI3 := htw.w
        unfold I64 at hI1 hI2 hI3
        simp only at hI1 hI2 hI3
        have HWF := hid htw.s
        have HU := hid hu2
        have HX := hid ht
        have HM := hid hm
        clear htw hu2 hu4 ht hm hbr hc hbl
        go_upto_region 7 with fail
        obtain ⟨D, hD⟩ : ∃ D, D = wr.heap.size := ⟨_, rfl⟩
        rw [← hD]
        generalize hw2 : wr.alloc (.cells #[.int .i64 tp, .int .i64 td, .int .i64 tw, .slice A2 m c2] 34) = w2
        obtain ⟨O, hO⟩ : ∃ O, O = Obj.cells #[.int .i64 tp, .int .i64 td, .int .i64 tw, .slice A2 m c2] 34 (0, 0) := ⟨_, rfl⟩
        have HO := hid hO
        have HV2 : Hid (RW w w2 B C) := by rw [← hw2]; exact hid (HVr.out.new _)
        have HD2 : Hid (w2.heap[D]? = some O) := by rw [← hw2, hD, hO]; exact hid (blk_new _ _)
        have e0 : w2.cell? ⟨D, 0, none⟩ = some (.int .i64 tp) := blk_cell (HO.out ▸ HD2.out) 0
        have e1 : w2.cell? ⟨D, 1, none⟩ = some (.int .i64 td) := blk_cell (HO.out ▸ HD2.out) 1
        have e2 : w2.cell? ⟨D, 2, none⟩ = some (.int .i64 tw) := blk_cell (HO.out ▸ HD2.out) 2
        have e3 : w2.cell? ⟨D, 3, none⟩ = some (.slice A2 m c2) := blk_cell (HO.out ▸ HD2.out) 3
        clear hO hw2 hD m0 m1 m2 m3 g0
        cases k1 : btw tp 1 1099511627776
        case false =>
          have HF := hid (show rightS S = false by rw [HR2.out]; exact all_false HX.out (by have hml := HM.out; unfold tskB tskHeadB; simp [k1]))
          go_wp2_with (go_at_call 70; (with_reducible refine (rbtw_any _ _ _).mono ?_); rintro e w' ⟨rfl, rfl⟩)
          go_ret3
          exact ⟨true, k, -1, rfl, by rw [HF.out]; rfl, HV2.out.below⟩
        cases k2 : btw td 1 tp
        case false =>
          have HF := hid (show rightS S = false by rw [HR2.out]; exact all_false HX.out (by have hml := HM.out; unfold tskB tskHeadB; simp [k1, k2]))
          go_wp2_with (go_at_call 70; (with_reducible refine (rbtw_any _ _ _).mono ?_); rintro e w' ⟨rfl, rfl⟩)
          go_ret3
          exact ⟨true, k, -1, rfl, by rw [HF.out]; rfl, HV2.out.below⟩
        cases k3 : btw tw 1 td
        case false =>
          have HF := hid (show rightS S = false by rw [HR2.out]; exact all_false HX.out (by have hml := HM.out; unfold tskB tskHeadB; simp [k1, k2, k3]))
          go_wp2_with (go_at_call 70; (with_reducible refine (rbtw_any _ _ _).mono ?_); rintro e w' ⟨rfl, rfl⟩)
          go_ret3
          exact ⟨true, k, -1, rfl, by rw [HF.out]; rfl, HV2.out.below⟩
        cases k4 : decide (m ≤ 4)
        case false =>
          have k4' := of_decide_eq_false k4
          have HF := hid (show rightS S = false by rw [HR2.out]; exact all_false HX.out (by have hml := HM.out; unfold tskB tskHeadB; rw [show decide (ss.length ≤ 4) = false by rw [← hml]; exact k4]; simp))
          go_wp2_with (go_at_call 70; (with_reducible refine (rbtw_any _ _ _).mono ?_); rintro e w' ⟨rfl, rfl⟩)
          go_ret3
          exact ⟨true, k, -1, rfl, by rw [HF.out]; rfl, HV2.out.below⟩
        have k4' := of_decide_eq_true k4
        have HHB := hid (show tskHeadB ⟨tp, td, tw, ss⟩ = true by unfold tskHeadB; rw [k1, k2, k3]; exact decide_eq_true (by rw [← HM.out]; exact k4'))
        have htw : 1 ≤ tw := by have h := k3; unfold btw at h; have := of_decide_eq_true h; omega
        go_wp2_with (go_at_call 70; (with_reducible refine (rbtw_any _ _ _).mono ?_); rintro e w' ⟨rfl, rfl⟩)
        clear e0 e1 e2 e3 k1 k2 k3 k4
        obtain ⟨wo, hwo⟩ : ∃ wo, wo = wr := ⟨_, rfl⟩
        subst hwo
        go_loopw [8, 7] (fun i e wx => ∃ j : Nat, j ≤ m ∧ i = .int .i64 j ∧ e = .int .i64 (secEnd 0 (ss.take j)) ∧ Hid (secsB S.resn tw 0 (ss.take j) = true) ∧ Hid (RW w wx B C) ∧ Hid (wx.heap[D]? = some O)) (fun i _ _ => m - (intOf i).toNat)
        case atStart => exact ⟨0, by omega, rfl, rfl, hid rfl, HV2, HD2⟩
        case round =>
          obtain ⟨j, hj, rfl, rfl, HSB, HVx, HDx⟩ := hrel
          have e3 : wr.cell? ⟨D, 3, none⟩ = some (.slice A2 m c2) := blk_cell (HO.out ▸ HDx.out) 3
          by_cases hlt2 : j < m
          · obtain ⟨y, hy⟩ : ∃ y, ss[j]? = some y := ⟨_, List.getElem?_eq_getElem (by have := HM.out; omega)⟩
            obtain ⟨b3, o3, cs3, hA3, hb3, _, hc3, hr3⟩ := HU.out.at hy
            have hr3' : cs3 = [.int .i64 y.at_, .int .i64 y.res, .int .i64 y.len] := hr3
            subst hr3'
            subst hA3
            have hbx := HVx.out.below
            have m0 : wr.cell? ⟨b3, o3 + j * 3, none⟩ = some (.int .i64 y.at_) := (hbx.cell (p := ⟨b3, o3 + j * 3, none⟩) hb3).trans (by simpa using hc3 0 _ rfl)
            have m1 : wr.cell? ⟨b3, o3 + j * 3 + 1, none⟩ = some (.int .i64 y.res) := (hbx.cell (p := ⟨b3, o3 + j * 3 + 1, none⟩) hb3).trans (hc3 1 _ rfl)
            have m2 : wr.cell? ⟨b3, o3 + j * 3 + 2, none⟩ = some (.int .i64 y.len) := (hbx.cell (p := ⟨b3, o3 + j * 3 + 2, none⟩) hb3).trans (hc3 2 _ rfl)
            have hyw := HWF.out y (List.mem_of_getElem? hy)
            have hya := hyw.a
            have hyr := hyw.r
            have hyl := hyw.l
            unfold I64 at hya hyr hyl
            have hed := secsB_end HSB.out ⟨by omega, by omega⟩
            obtain ⟨ed, hed2⟩ : ∃ ed, secEnd 0 (ss.take j) = ed := ⟨_, rfl⟩
            rw [hed2] at hed
            have HED := hid hed2
            rw [hed2]
            obtain ⟨sa, sr, sl⟩ := y
            simp only at m0 m1 m2 hya hyr hyl
            have HY := hid hy
            clear hy hc3 hr3 hbx hyw hed2 hb3
            go_upto_region 14 with fail
            obtain ⟨D2, hD2⟩ : ∃ D2, D2 = wr.heap.size := ⟨_, rfl⟩
            rw [← hD2]
            generalize hw4 : wr.alloc (.cells #[.int .i64 sa, .int .i64 sr, .int .i64 sl] 88) = w4
            have HV4 : Hid (RW w w4 B C) := by rw [← hw4]; exact hid (HVx.out.new _)
            have HD4 : Hid (w4.heap[D]? = some O) := by rw [← hw4]; exact hid (blk_old HDx.out _)
            have hblk : w4.heap[D2]? = some (.cells #[.int .i64 sa, .int .i64 sr, .int .i64 sl] 88 (0, 0)) := by rw [← hw4, hD2]; exact blk_new _ _
            have d0 : w4.cell? ⟨D2, 0, none⟩ = some (.int .i64 sa) := blk_cell hblk 0
            have d1 : w4.cell? ⟨D2, 1, none⟩ = some (.int .i64 sr) := blk_cell hblk 1
            have d2 : w4.cell? ⟨D2, 2, none⟩ = some (.int .i64 sl) := blk_cell hblk 2
            have d3 : w4.cell? ⟨D, 2, none⟩ = some (.int .i64 tw) := blk_cell (HO.out ▸ HD4.out) 2
            have d4 : w4.cell? ⟨B, 7, none⟩ = some (.int .i64 S.resn) := by rw [blk_cell HV4.out.b0 7, HC.out]; rfl
            clear hw4 hD2 hblk m0 m1 m2 e3
            cases x1 : btw sa ed tw
            case false =>
              have HF := hid (show rightS S = false by rw [HR2.out]; exact all_false HX.out (by unfold tskB; rw [sec_false HY.out (e := 0) (by unfold secB; exact decide_eq_false (fun h => by have a1 := x1; unfold btw at a1; have a1 := of_decide_eq_false a1; have he := HED.out; rw [he] at h; dsimp only at h; omega))]; simp))
              go_wp2_with (go_at_call 70; (with_reducible refine (rbtw_any _ _ _).mono ?_); rintro e w' ⟨rfl, rfl⟩)
              go_ret3
              exact ⟨true, k, j, rfl, by rw [HF.out]; rfl, HV4.out.below⟩
            cases x2 : btw sr 0 (S.resn - 1)
            case false =>
              have h1 : ed ≤ sa ∧ sa ≤ tw := by have h := x1; unfold btw at h; exact of_decide_eq_true h
              have HF := hid (show rightS S = false by rw [HR2.out]; exact all_false HX.out (by unfold tskB; rw [sec_false HY.out (e := 0) (by unfold secB; exact decide_eq_false (fun h => by have a1 := x2; unfold btw at a1; have a1 := of_decide_eq_false a1; have he := HED.out; rw [he] at h; dsimp only at h; omega))]; simp))
              go_wp2_with (go_at_call 70; (with_reducible refine (rbtw_any _ _ _).mono ?_); rintro e w' ⟨rfl, rfl⟩)
              go_ret3
              exact ⟨true, k, j, rfl, by rw [HF.out]; rfl, HV4.out.below⟩
            cases x3 : btw sl 1 (tw - sa)
            case false =>
              have h1 : ed ≤ sa ∧ sa ≤ tw := by have h := x1; unfold btw at h; exact of_decide_eq_true h
              have HF := hid (show rightS S = false by rw [HR2.out]; exact all_false HX.out (by unfold tskB; rw [sec_false HY.out (e := 0) (by unfold secB; exact decide_eq_false (fun h => by have a1 := x3; unfold btw at a1; have a1 := of_decide_eq_false a1; have he := HED.out; rw [he] at h; dsimp only at h; omega))]; simp))
              go_wp2_with (go_at_call 70; (with_reducible refine (rbtw_any _ _ _).mono ?_); rintro e w' ⟨rfl, rfl⟩)
              go_ret3
              exact ⟨true, k, j, rfl, by rw [HF.out]; rfl, HV4.out.below⟩
            have h1 : ed ≤ sa ∧ sa ≤ tw := by have h := x1; unfold btw at h; exact of_decide_eq_true h
            have h2 : 0 ≤ sr ∧ sr ≤ S.resn - 1 := by have h := x2; unfold btw at h; exact of_decide_eq_true h
            have h3 : 1 ≤ sl ∧ sl ≤ tw - sa := by have h := x3; unfold btw at h; exact of_decide_eq_true h
            have HK := hid (show secsB S.resn tw 0 (ss.take (j + 1)) = true by rw [take_next HY.out, secsB_snoc, HSB.out, Bool.true_and, HED.out]; unfold secB; exact decide_eq_true (by dsimp only; omega))
            have HE2 := hid (show secEnd 0 (ss.take (j + 1)) = sa + sl by rw [take_next HY.out, secEnd_snoc])
            go_wp2_with (go_at_call 70; (with_reducible refine (rbtw_any _ _ _).mono ?_); rintro e w' ⟨rfl, rfl⟩)
            go_roundw
            case rel => exact ⟨j + 1, by omega, by go_num, by rw [HE2.out], HK, HV4, HD4⟩
            case measure => simp [intOf]; omega
            
          · obtain rfl : j = m := by omega
            have HTB := hid (show (S.tasks.take (k + 1)).all (tskB S.resn) = true by
              rw [take_next HX.out, List.all_append, HALL.out, Bool.true_and]
              have := HSB.out
              rw [List.take_of_length_le (by rw [HM.out]; exact Nat.le_refl _)] at this
              simp only [List.all_cons, List.all_nil, Bool.and_true]
              unfold tskB
              rw [HHB.out, this]
              rfl)
            go_wp2_with fail
            go_roundw
            case rel => exact ⟨k + 1, by omega, by go_num, HTB, HVx⟩
            case measure => simp [intOf]; omega
        
      · obtain rfl : k = n := by omega
        have HF := hid (show rightS S = true by
          rw [HR2.out]
          have := HALL.out
          rwa [List.take_of_length_le (by rw [← HN.out]; exact Nat.le_refl _)] at this)
        go_wp2_with fail
        go_ret3
        exact ⟨false, -1, -1, rfl, by rw [HF.out]; rfl, HVr.out.below⟩
set_option maxRecDepth 100000 in
theorem rright_any (S : Sy) (A : Option Addr) (cap : Nat) (n : Nat) (hs : IsSys w (.slice A n cap) S) :
    Calls Try.prog 43 #[sysV S (.slice A n cap)] w fun e w' => e = .returned (.bool (rightS S)) ∧ Below w.heap.size w w' := by
  have HC := hid (fun W (h : Below w.heap.size w W) => rcheck_any (w := W) S A cap n (hs.later h))
  have HB1 := hid (below_new (Below.refl w.heap.size w) (.cells #[.int .i64 S.cores, .int .i64 S.policy, .int .i64 S.prot, .int .i64 S.rel, .int .i64 S.sw, .int .i64 S.fin, .int .i64 S.lat, .int .i64 S.resn, .slice A n cap] 24))
  unfold sysV at *
  generalize rightS S = r at *
  clear hs
  go_enter Try.func43, Try.ntmps43
  go_wp2_with fail
  refine (HC.out _ HB1.out).mono ?_
  rintro e w1 ⟨er, t, k, rfl, he, hb⟩
  have HB := hid (below_then HB1.out hb)
  subst he
  clear hb
  go_wp2_with fail
  go_ret
  exact ⟨rfl, HB.out⟩
end
end Go.Proofs.Ytppildaahmlfmaa
