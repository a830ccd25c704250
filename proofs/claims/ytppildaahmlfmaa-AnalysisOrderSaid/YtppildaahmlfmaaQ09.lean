/- Joined: List. -/
import Derived.Test.YtppildaahmlfmaaQ08
import Derived.Deep.QuietTactic
import Derived.BigQuiet
set_option linter.unusedVariables false
set_option linter.unusedSimpArgs false
/- Package analysis: late, list (contracts). -/
set_option linter.unusedVariables false
set_option linter.unusedSimpArgs false
namespace Go.Proofs.Ytppildaahmlfmaa
open Go.RowKit

theorem wp_region_class {P : Program} {C : World → Prop} {id : Nat} {Q : Exit → Act → World → Prop} {a : Act} {w : World} {l : List Oper} (hm : P.follows .mixedOrders = true) (hB : Region.lexB .any l.toArray = true) (hC : C w.drew)
    (h : wpQuiet P l.toArray C (fun a' => ∀ w', C w' → Q .normal a' w') l a) : (Code.region id l.toArray true).wp P Q a w :=
  wp_region_quiet (C := C) hm hB hC (by simpa using h)
section
variable {w : World}
set_option maxRecDepth 100000 in
theorem late_any (S : Sy) (u : Value) (h1 : 1 ≤ S.lat) (h2 : S.lat ≤ 50) : Calls Try.prog 48 #[sysV S u] w fun e w' => e = .returned (.int .i64 (S.lat - 1)) ∧ Below w.heap.size w w' := by
  unfold sysV
  go_enter Try.func48, Try.ntmps48
  go_wp2_with fail
  go_ret
  exact ⟨rfl, (Below.refl _ _).alloc (Nat.le_refl _) _⟩
/-- A task's value. -/
def tskV (t : Tsk) (u : Value) : Value := .agg #[.int .i64 t.per, .int .i64 t.dl, .int .i64 t.wc, u]
/-- The world within list: the system's box, the task's. -/
structure LW (w wr : World) (B : Nat) (C E : Array Value) : Prop where
  below : Below w.heap.size w wr
  b0 : wr.heap[B]? = some (.cells C 24 (0, 0))
  b1 : wr.heap[B + 1]? = some (.cells E 34 (0, 0))
section
variable {wr w' : World} {B : Nat} {C E : Array Value}
theorem LW.later (H : LW w wr B C E) (h : Below wr.heap.size wr w') : LW w w' B C E := ⟨below_then H.below h, (fr0 h).blk H.b0 (fun h => h), (fr0 h).blk H.b1 (fun h => h)⟩
theorem LW.new (H : LW w wr B C E) (o : Obj) : LW w (wr.alloc o) B C E := H.later (below_new (Below.refl _ _) o)
end
set_option maxRecDepth 100000 in
set_option maxHeartbeats 6400000 in
theorem list_any (S : Sy) (us : Value) (t : Tsk) (A1 : Option Addr) (c1 m : Nat) (A : Option Addr) (n cap : Nat) (pl : List Pc) (hS : RightS S) (ht : TskOk S.resn t) (hm : m = t.secs.length) (hl : Rowp 5 pcR w (.slice A n cap) pl) (hw : ∀ p ∈ pl, Pc.Wf p) :
    Calls Try.prog 35 #[sysV S us, tskV t (.slice A1 m c1), .slice A n cap] w fun e w' => e = .returned (.bool (listOkB S t pl)) ∧ Below w.heap.size w w' := by
  have hn := hl.len
  have hnm : n ≤ 9223372036854775807 := by have := hl.room; unfold maxLen at this; omega
  have HL := hid hl
  have HW := hid hw
  have HN := hid hn
  have HM := hid hm
  have hlat := hS.lat
  have hcor := hS.cores
  have HLT := hid (fun W => late_any (w := W) S us hlat.1 hlat.2)
  have hw0 := ht.w0
  have hw1 := ht.w1
  have hd0 := ht.d0
  have hd1 := ht.d1
  have hp1 := ht.p1
  obtain ⟨CS, hCS⟩ : ∃ C, C = sysC S us := ⟨_, rfl⟩
  have HCS := hid hCS
  obtain ⟨tp, td, tw, ss⟩ := t
  simp only at hw0 hw1 hd0 hd1 hp1
  have hm' : m ≤ 4 := by rw [hm]; exact ht.n
  unfold sysV tskV at *
  simp only
  obtain ⟨CE, hCE⟩ : ∃ C : Array Value, C = #[.int .i64 tp, .int .i64 td, .int .i64 tw, .slice A1 m c1] := ⟨_, rfl⟩
  have HCE := hid hCE
  have hV : LW w ((w.alloc (.cells CS 24)).alloc (.cells CE 34)) w.heap.size CS CE := ⟨below_new (below_new (Below.refl _ _) _) _, blk_old (blk_new _ _) _, by have := blk_new (w.alloc (.cells CS 24)) (.cells CE 34); simpa using this⟩
  rw [hCS, hCE] at hV
  unfold sysC at hV
  have HV0 := hid hV
  clear hl hw hn hm hS ht hCS hCE hV
  go_enter Try.func35, Try.ntmps35
  go_upto_region 1 with fail
  obtain ⟨B, hB⟩ : ∃ B, w.heap.size = B := ⟨_, rfl⟩
  rw [hB] at HV0 ⊢
  generalize hW1 : (w.alloc (.cells #[.int .i64 S.cores, .int .i64 S.policy, .int .i64 S.prot, .int .i64 S.rel, .int .i64 S.sw, .int .i64 S.fin, .int .i64 S.lat, .int .i64 S.resn, us] 24)).alloc (.cells #[.int .i64 tp, .int .i64 td, .int .i64 tw, .slice A1 m c1] 34) = w1 at HV0 ⊢
  have HV1 : Hid (LW w w1 B CS CE) := by rw [HCS.out, HCE.out]; exact HV0
  have e1 : w1.cell? ⟨B + 1, 1, none⟩ = some (.int .i64 td) := blk_cell HV0.out.b1 1
  have e2 : w1.cell? ⟨B + 1, 2, none⟩ = some (.int .i64 tw) := blk_cell HV0.out.b1 2
  have HB := hid hB
  clear hW1 HV0 hB
  go_quiet (fail)
  have HV2 : Hid (LW w (w1.drewN nq) B CS CE) := hid (HV1.out.later (below_drewN' (Below.refl _ _) nq))
  generalize w1.drewN nq = w2 at *
  clear e1 e2 HV1
  go_wp2_with fail
  go_loopw [19, 7, 8] (fun i re lf wr => ∃ k : Nat, k ≤ n ∧ i = .int .i64 k ∧ re = .int .i64 (restOf tw (pl.take k)) ∧ lf = .int .i64 (leftOf (S.lat - 1) td (pl.take k)) ∧ Hid (headB S.cores (S.lat - 1) ss.isEmpty tw td pl k) ∧ Hid (LW w wr B CS CE)) (fun i _ _ _ => n - (intOf i).toNat)
  case atStart => exact ⟨0, by omega, rfl, rfl, rfl, hid (fun i p hi => by omega), HV2⟩
  case round =>
    obtain ⟨k, hk, rfl, rfl, rfl, HH, HVr⟩ := hrel
    obtain ⟨n1, n2, n3, n4⟩ := headB_num (k := k) ⟨by omega, by omega⟩ HH.out (by rw [← HN.out]; exact hk)
    have n5 := n2 (by omega) (by omega)
    obtain ⟨re, hre⟩ : ∃ x, restOf tw (pl.take k) = x := ⟨_, rfl⟩
    obtain ⟨lf, hlf⟩ : ∃ x, leftOf (S.lat - 1) td (pl.take k) = x := ⟨_, rfl⟩
    have HRE := hid hre
    have HLE := hid hlf
    rw [hre] at n1 n4 n5 ⊢
    rw [hlf] at n3 n4 ⊢
    clear hre hlf n2
    by_cases hlt : k < n
    · obtain ⟨p, hp⟩ : ∃ p, pl[k]? = some p := ⟨_, List.getElem?_eq_getElem (by have := HN.out; omega)⟩
      obtain ⟨b, o, cs, hA, hbl, _, hc, hr⟩ := HL.out.at hp
      subst hA
      have hr' : cs = [.int .i64 p.core, .int .i64 p.bud, .int .i64 p.dl, .int .i64 p.prio, .bool p.tight] := hr
      subst hr'
      have hpw := HW.out p (List.mem_of_getElem? hp)
      have i1 := hpw.c
      have i2 := hpw.b
      have i3 := hpw.d
      have i4 := hpw.p
      unfold I64 at i1 i2 i3 i4
      have hbr := HVr.out.below
      obtain ⟨pc, pb, pd, pp, ti⟩ := p
      simp only at i1 i2 i3 i4 hc
      have HX := hid hp
      have m0 : wr.cell? ⟨b, o + k * 5, none⟩ = some (.int .i64 pc) := (hbr.cell (p := ⟨b, o + k * 5, none⟩) hbl).trans (by simpa using hc 0 _ rfl)
      have m1 : wr.cell? ⟨b, o + k * 5 + 1, none⟩ = some (.int .i64 pb) := (hbr.cell (p := ⟨b, o + k * 5 + 1, none⟩) hbl).trans (hc 1 _ rfl)
      have m2 : wr.cell? ⟨b, o + k * 5 + 2, none⟩ = some (.int .i64 pd) := (hbr.cell (p := ⟨b, o + k * 5 + 2, none⟩) hbl).trans (hc 2 _ rfl)
      have m3 : wr.cell? ⟨b, o + k * 5 + 3, none⟩ = some (.int .i64 pp) := (hbr.cell (p := ⟨b, o + k * 5 + 3, none⟩) hbl).trans (hc 3 _ rfl)
      have m4 : wr.cell? ⟨b, o + k * 5 + 4, none⟩ = some (.bool ti) := (hbr.cell (p := ⟨b, o + k * 5 + 4, none⟩) hbl).trans (hc 4 _ rfl)
      clear hpw hbr hp hc hbl hr
      go_upto_region 5 with fail
      obtain ⟨D, hD⟩ : ∃ D, D = wr.heap.size := ⟨_, rfl⟩
      rw [← hD]
      generalize hw3 : wr.alloc (.cells #[.int .i64 pc, .int .i64 pb, .int .i64 pd, .int .i64 pp, .bool ti] 41) = w3
      have HV3 : Hid (LW w w3 B CS CE) := by rw [← hw3]; exact hid (HVr.out.new _)
      have hblk : w3.heap[D]? = some (.cells #[.int .i64 pc, .int .i64 pb, .int .i64 pd, .int .i64 pp, .bool ti] 41 (0, 0)) := by rw [← hw3, hD]; exact blk_new _ _
      have hDl : D < w3.heap.size := blk_lt hblk
      have d0 : w3.cell? ⟨D, 0, none⟩ = some (.int .i64 pc) := blk_cell hblk 0
      have d1 : w3.cell? ⟨D, 1, none⟩ = some (.int .i64 pb) := blk_cell hblk 1
      have d2 : w3.cell? ⟨D, 2, none⟩ = some (.int .i64 pd) := blk_cell hblk 2
      have d3 : w3.cell? ⟨D, 3, none⟩ = some (.int .i64 pp) := blk_cell hblk 3
      have d4 : w3.cell? ⟨D, 4, none⟩ = some (.bool ti) := blk_cell hblk 4
      have e0 : w3.cell? ⟨B, 0, none⟩ = some (.int .i64 S.cores) := by rw [blk_cell HV3.out.b0 0, HCS.out]; rfl
      have e3 : w3.cell? ⟨B + 1, 3, none⟩ = some (.slice A1 m c1) := by rw [blk_cell HV3.out.b1 3, HCE.out]; rfl
      clear hw3 hD hblk m0 m1 m2 m3 m4
      cases ti
      case true =>
          cases x1 : decide (pc < 0)
          case true =>
            have x1' := of_decide_eq_true x1
            have HF := hid (show listOkB S ⟨tp, td, tw, ss⟩ pl = false by unfold listOkB; rw [headB_false HX.out (by rw [HRE.out, HLE.out]; unfold pcB; rw [decide_eq_false (fun h => by dsimp only at h; simp only [Bool.false_eq_true, ↓reduceIte] at h; omega)]; rfl)]; rfl)
            go_wp2_with fail
            go_ret
            exact ⟨by rw [HF.out]; rfl, HV3.out.below⟩
          have x1' := of_decide_eq_false x1
          cases x2 : decide (S.cores ≤ pc)
          case true =>
            have x2' := of_decide_eq_true x2
            have HF := hid (show listOkB S ⟨tp, td, tw, ss⟩ pl = false by unfold listOkB; rw [headB_false HX.out (by rw [HRE.out, HLE.out]; unfold pcB; rw [decide_eq_false (fun h => by dsimp only at h; simp only [Bool.false_eq_true, ↓reduceIte] at h; omega)]; rfl)]; rfl)
            go_wp2_with fail
            go_ret
            exact ⟨by rw [HF.out]; rfl, HV3.out.below⟩
          have x2' := of_decide_eq_false x2
          cases x3 : decide (pb < 1)
          case true =>
            have x3' := of_decide_eq_true x3
            have HF := hid (show listOkB S ⟨tp, td, tw, ss⟩ pl = false by unfold listOkB; rw [headB_false HX.out (by rw [HRE.out, HLE.out]; unfold pcB; rw [decide_eq_false (fun h => by dsimp only at h; simp only [Bool.false_eq_true, ↓reduceIte] at h; omega)]; rfl)]; rfl)
            go_wp2_with fail
            go_ret
            exact ⟨by rw [HF.out]; rfl, HV3.out.below⟩
          have x3' := of_decide_eq_false x3
          cases x4 : decide (re < pb)
          case true =>
            have x4' := of_decide_eq_true x4
            have HF := hid (show listOkB S ⟨tp, td, tw, ss⟩ pl = false by unfold listOkB; rw [headB_false HX.out (by rw [HRE.out, HLE.out]; unfold pcB; rw [decide_eq_false (fun h => by dsimp only at h; simp only [Bool.false_eq_true, ↓reduceIte] at h; omega)]; rfl)]; rfl)
            go_wp2_with fail
            go_ret
            exact ⟨by rw [HF.out]; rfl, HV3.out.below⟩
          have x4' := of_decide_eq_false x4
          cases x5 : (pd != pb)
          case true =>
            have x5' : pd ≠ pb := by simpa using x5
            have HF := hid (show listOkB S ⟨tp, td, tw, ss⟩ pl = false by unfold listOkB; rw [headB_false HX.out (by rw [HRE.out, HLE.out]; unfold pcB; rw [decide_eq_false (fun h => by dsimp only at h; simp only [Bool.false_eq_true, ↓reduceIte] at h; omega)]; rfl)]; rfl)
            go_wp2_with fail
            go_ret
            exact ⟨by rw [HF.out]; rfl, HV3.out.below⟩
          have x5' := hid (show pd = pb by simpa using x5)
          cases x6 : decide (pd < 1)
          case true =>
            have x6' := of_decide_eq_true x6
            have HF := hid (show listOkB S ⟨tp, td, tw, ss⟩ pl = false by unfold listOkB; rw [headB_false HX.out (by rw [HRE.out, HLE.out]; unfold pcB; rw [decide_eq_false (fun h => by dsimp only at h; simp only [Bool.false_eq_true, ↓reduceIte] at h; omega)]; rfl)]; rfl)
            go_wp2_with fail
            go_ret
            exact ⟨by rw [HF.out]; rfl, HV3.out.below⟩
          have x6' := of_decide_eq_false x6
          cases x7 : decide (0 < (m : Int))
          case true =>
            have x7' := of_decide_eq_true x7
            have x7n : decide (0 < m) = true := decide_eq_true (by omega)
            have HF := hid (show listOkB S ⟨tp, td, tw, ss⟩ pl = false by unfold listOkB; rw [headB_false HX.out (by rw [HRE.out, HLE.out]; unfold pcB; rw [Bool.and_eq_false_iff]; right; rw [if_pos rfl]; rw [show ss.isEmpty = false by have := HM.out; cases ss with | nil => simp at this; omega | cons a l => rfl]; rfl)]; rfl)
            go_wp2_with fail
            go_ret
            exact ⟨by rw [HF.out]; rfl, HV3.out.below⟩
          have x7' := of_decide_eq_false x7
          have x7n : decide (0 < m) = false := decide_eq_false (by omega)
          cases x8 : (pb == re)
          case true =>
            have x8' := hid (show pb = re by simpa using x8)
            have HF := hid (show listOkB S ⟨tp, td, tw, ss⟩ pl = false by unfold listOkB; rw [headB_false HX.out (by rw [HRE.out, HLE.out]; unfold pcB; rw [Bool.and_eq_false_iff]; right; rw [if_pos rfl]; rw [decide_eq_false (fun h => h x8'.out), Bool.and_false])]; rfl)
            go_wp2_with fail
            go_ret
            exact ⟨by rw [HF.out]; rfl, HV3.out.below⟩
          have x8' : pb ≠ re := by simpa using x8
          have HP := hid (show pcB S.cores ss.isEmpty re lf (decide (k + 1 = pl.length)) ⟨pc, pb, pd, pp, true⟩ = true by
            unfold pcB
            rw [decide_eq_true (by have := x5'.out; simp only [Bool.false_eq_true, ↓reduceIte]; omega), Bool.true_and]
            rw [if_pos rfl]; rw [show ss.isEmpty = true by have := HM.out; cases ss with | nil => rfl | cons a l => simp at this; omega, decide_eq_true x8']; rfl)
          have HH2 := hid (headB_succ HH.out HX.out (by rw [HRE.out, HLE.out]; exact HP.out))
          have HR2 := hid (show restOf tw (pl.take (k + 1)) = re - pb by rw [take_next HX.out, restOf_snoc, HRE.out])
          have HL2 := hid (show leftOf (S.lat - 1) td (pl.take (k + 1)) = lf - (pb + (S.lat - 1)) by rw [take_next HX.out, leftOf_snoc, HLE.out])
          go_upto_region 14 with fail
          clear d0 d2 d3 d4 e0 e3
          have hs1 : IntKind.i64.wrap (pb + (S.lat - 1)) = pb + (S.lat - 1) := wraps_i64 _ (by omega) (by omega)
          have hs2 : IntKind.i64.wrap (lf - (pb + (S.lat - 1))) = lf - (pb + (S.lat - 1)) := wraps_i64 _ (by omega) (by omega)
          obtain ⟨C, hC⟩ : ∃ C : World → Prop, C = fun W => Below w3.heap.size w3 W := ⟨_, rfl⟩
          have FD := hid (fun W (h : C W) => (show W.cell? ⟨D, 1, none⟩ = some (.int .i64 pb) from by rw [hC] at h; exact (h.cell (p := ⟨D, 1, none⟩) hDl).trans d1))
          have FS0 := hid (fun W (h : C W) => (show W.cell? ⟨B, 0, none⟩ = some (.int .i64 S.cores) from by rw [hC] at h; rw [blk_cell (HV3.out.later h).b0 0, HCS.out]; rfl))
          have FS1 := hid (fun W (h : C W) => (show W.cell? ⟨B, 1, none⟩ = some (.int .i64 S.policy) from by rw [hC] at h; rw [blk_cell (HV3.out.later h).b0 1, HCS.out]; rfl))
          have FS2 := hid (fun W (h : C W) => (show W.cell? ⟨B, 2, none⟩ = some (.int .i64 S.prot) from by rw [hC] at h; rw [blk_cell (HV3.out.later h).b0 2, HCS.out]; rfl))
          have FS3 := hid (fun W (h : C W) => (show W.cell? ⟨B, 3, none⟩ = some (.int .i64 S.rel) from by rw [hC] at h; rw [blk_cell (HV3.out.later h).b0 3, HCS.out]; rfl))
          have FS4 := hid (fun W (h : C W) => (show W.cell? ⟨B, 4, none⟩ = some (.int .i64 S.sw) from by rw [hC] at h; rw [blk_cell (HV3.out.later h).b0 4, HCS.out]; rfl))
          have FS5 := hid (fun W (h : C W) => (show W.cell? ⟨B, 5, none⟩ = some (.int .i64 S.fin) from by rw [hC] at h; rw [blk_cell (HV3.out.later h).b0 5, HCS.out]; rfl))
          have FS6 := hid (fun W (h : C W) => (show W.cell? ⟨B, 6, none⟩ = some (.int .i64 S.lat) from by rw [hC] at h; rw [blk_cell (HV3.out.later h).b0 6, HCS.out]; rfl))
          have FS7 := hid (fun W (h : C W) => (show W.cell? ⟨B, 7, none⟩ = some (.int .i64 S.resn) from by rw [hC] at h; rw [blk_cell (HV3.out.later h).b0 7, HCS.out]; rfl))
          have FS8 := hid (fun W (h : C W) => (show W.cell? ⟨B, 8, none⟩ = some us from by rw [hC] at h; rw [blk_cell (HV3.out.later h).b0 8, HCS.out]; rfl))
          have FL := hid (fun W (h : C W) => ((HLT.out W).mono (fun e w' q => (show e = .returned (.int .i64 (S.lat - 1)) ∧ C w' from ⟨q.1, by rw [hC] at h ⊢; exact below_then h q.2⟩))))
          have HCC := hid hC
          clear d1 hC
          refine wp_region_class (C := C) (by kernel_rfl) (by kernel_rfl) (by rw [HCC.out]; exact (Below.refl _ _).drew) ?_
          repeat (refine wpQuiet_step (fun K hK => ?_); (first | (rw [if_neg (by decide)]; refine hK _ ?_) | (rw [if_pos (by rfl)]; refine Exists.intro ?_ (And.intro (fun W HW => ?_) (hK _ ?_)); rotate_left; (focus (first | (go_simp; exact FL.out W HW) | (have q0 := FS0.out W HW; have q1 := FS1.out W HW; have q2 := FS2.out W HW; have q3 := FS3.out W HW; have q4 := FS4.out W HW; have q5 := FS5.out W HW; have q6 := FS6.out W HW; have q7 := FS7.out W HW; have q8 := FS8.out W HW; have q9 := FD.out W HW; (go_simp); all_goals (with_reducible rfl)))))); clear hK K; try simp only [Act.put, List.setIfInBounds_toArray, List.set_cons_zero, List.set_cons_succ])
          refine wpQuiet_nil ?_
          intro wd hCw
          have HV4 : Hid (LW w wd B CS CE) := by rw [HCC.out] at hCw; exact hid (HV3.out.later hCw)
          clear hCw hs1 hs2
          go_wp2_with fail
          go_roundw
          case rel => exact ⟨k + 1, by omega, by go_num, by rw [HR2.out], by rw [HL2.out], HH2, HV4⟩
          case measure => simp [intOf]; omega
          
      case false =>
          cases x1 : decide (pc < 0)
          case true =>
            have x1' := of_decide_eq_true x1
            have HF := hid (show listOkB S ⟨tp, td, tw, ss⟩ pl = false by unfold listOkB; rw [headB_false HX.out (by rw [HRE.out, HLE.out]; unfold pcB; rw [decide_eq_false (fun h => by dsimp only at h; simp only [Bool.false_eq_true, ↓reduceIte] at h; omega)]; rfl)]; rfl)
            go_wp2_with fail
            go_ret
            exact ⟨by rw [HF.out]; rfl, HV3.out.below⟩
          have x1' := of_decide_eq_false x1
          cases x2 : decide (S.cores ≤ pc)
          case true =>
            have x2' := of_decide_eq_true x2
            have HF := hid (show listOkB S ⟨tp, td, tw, ss⟩ pl = false by unfold listOkB; rw [headB_false HX.out (by rw [HRE.out, HLE.out]; unfold pcB; rw [decide_eq_false (fun h => by dsimp only at h; simp only [Bool.false_eq_true, ↓reduceIte] at h; omega)]; rfl)]; rfl)
            go_wp2_with fail
            go_ret
            exact ⟨by rw [HF.out]; rfl, HV3.out.below⟩
          have x2' := of_decide_eq_false x2
          cases x3 : decide (pb < 1)
          case true =>
            have x3' := of_decide_eq_true x3
            have HF := hid (show listOkB S ⟨tp, td, tw, ss⟩ pl = false by unfold listOkB; rw [headB_false HX.out (by rw [HRE.out, HLE.out]; unfold pcB; rw [decide_eq_false (fun h => by dsimp only at h; simp only [Bool.false_eq_true, ↓reduceIte] at h; omega)]; rfl)]; rfl)
            go_wp2_with fail
            go_ret
            exact ⟨by rw [HF.out]; rfl, HV3.out.below⟩
          have x3' := of_decide_eq_false x3
          cases x4 : decide (re < pb)
          case true =>
            have x4' := of_decide_eq_true x4
            have HF := hid (show listOkB S ⟨tp, td, tw, ss⟩ pl = false by unfold listOkB; rw [headB_false HX.out (by rw [HRE.out, HLE.out]; unfold pcB; rw [decide_eq_false (fun h => by dsimp only at h; simp only [Bool.false_eq_true, ↓reduceIte] at h; omega)]; rfl)]; rfl)
            go_wp2_with fail
            go_ret
            exact ⟨by rw [HF.out]; rfl, HV3.out.below⟩
          have x4' := of_decide_eq_false x4
          cases x5 : (pd != lf)
          case true =>
            have x5' : pd ≠ lf := by simpa using x5
            have HF := hid (show listOkB S ⟨tp, td, tw, ss⟩ pl = false by unfold listOkB; rw [headB_false HX.out (by rw [HRE.out, HLE.out]; unfold pcB; rw [decide_eq_false (fun h => by dsimp only at h; simp only [Bool.false_eq_true, ↓reduceIte] at h; omega)]; rfl)]; rfl)
            go_wp2_with fail
            go_ret
            exact ⟨by rw [HF.out]; rfl, HV3.out.below⟩
          have x5' := hid (show pd = lf by simpa using x5)
          cases x6 : decide (pd < 1)
          case true =>
            have x6' := of_decide_eq_true x6
            have HF := hid (show listOkB S ⟨tp, td, tw, ss⟩ pl = false by unfold listOkB; rw [headB_false HX.out (by rw [HRE.out, HLE.out]; unfold pcB; rw [decide_eq_false (fun h => by dsimp only at h; simp only [Bool.false_eq_true, ↓reduceIte] at h; omega)]; rfl)]; rfl)
            go_wp2_with fail
            go_ret
            exact ⟨by rw [HF.out]; rfl, HV3.out.below⟩
          have x6' := of_decide_eq_false x6
          cases x7 : ((k : Int) == (n : Int) - 1)
          case false =>
            have x7' : ¬ (k + 1 = n) := fun h => by have := beq_eq_false_iff_ne.1 x7; omega
            have HF := hid (show listOkB S ⟨tp, td, tw, ss⟩ pl = false by unfold listOkB; rw [headB_false HX.out (by rw [HRE.out, HLE.out]; unfold pcB; rw [Bool.and_eq_false_iff]; right; rw [if_neg (by simp)]; rw [decide_eq_false (fun h => x7' (by rw [HN.out]; exact h))]; rfl)]; rfl)
            go_wp2_with fail
            go_ret
            exact ⟨by rw [HF.out]; rfl, HV3.out.below⟩
          have x7' := hid (show k + 1 = n by have := beq_iff_eq.1 x7; omega)
          cases x8 : (pb != re)
          case true =>
            have x8' : pb ≠ re := by simpa using x8
            have HF := hid (show listOkB S ⟨tp, td, tw, ss⟩ pl = false by unfold listOkB; rw [headB_false HX.out (by rw [HRE.out, HLE.out]; unfold pcB; rw [Bool.and_eq_false_iff]; right; rw [if_neg (by simp)]; rw [decide_eq_false (fun h => x8' h), Bool.and_false])]; rfl)
            go_wp2_with fail
            go_ret
            exact ⟨by rw [HF.out]; rfl, HV3.out.below⟩
          have x8' := hid (show pb = re by simpa using x8)
          have HP := hid (show pcB S.cores ss.isEmpty re lf (decide (k + 1 = pl.length)) ⟨pc, pb, pd, pp, false⟩ = true by
            unfold pcB
            rw [decide_eq_true (by have := x5'.out; simp only [Bool.false_eq_true, ↓reduceIte]; omega), Bool.true_and]
            rw [if_neg (by simp), decide_eq_true (show k + 1 = pl.length by rw [← HN.out]; exact x7'.out), decide_eq_true x8'.out]; rfl)
          have HH2 := hid (headB_succ HH.out HX.out (by rw [HRE.out, HLE.out]; exact HP.out))
          have HR2 := hid (show restOf tw (pl.take (k + 1)) = re - pb by rw [take_next HX.out, restOf_snoc, HRE.out])
          have HL2 := hid (show leftOf (S.lat - 1) td (pl.take (k + 1)) = lf - (pb + (S.lat - 1)) by rw [take_next HX.out, leftOf_snoc, HLE.out])
          go_upto_region 14 with fail
          clear d0 d2 d3 d4 e0 e3
          have hs1 : IntKind.i64.wrap (pb + (S.lat - 1)) = pb + (S.lat - 1) := wraps_i64 _ (by omega) (by omega)
          have hs2 : IntKind.i64.wrap (lf - (pb + (S.lat - 1))) = lf - (pb + (S.lat - 1)) := wraps_i64 _ (by omega) (by omega)
          obtain ⟨C, hC⟩ : ∃ C : World → Prop, C = fun W => Below w3.heap.size w3 W := ⟨_, rfl⟩
          have FD := hid (fun W (h : C W) => (show W.cell? ⟨D, 1, none⟩ = some (.int .i64 pb) from by rw [hC] at h; exact (h.cell (p := ⟨D, 1, none⟩) hDl).trans d1))
          have FS0 := hid (fun W (h : C W) => (show W.cell? ⟨B, 0, none⟩ = some (.int .i64 S.cores) from by rw [hC] at h; rw [blk_cell (HV3.out.later h).b0 0, HCS.out]; rfl))
          have FS1 := hid (fun W (h : C W) => (show W.cell? ⟨B, 1, none⟩ = some (.int .i64 S.policy) from by rw [hC] at h; rw [blk_cell (HV3.out.later h).b0 1, HCS.out]; rfl))
          have FS2 := hid (fun W (h : C W) => (show W.cell? ⟨B, 2, none⟩ = some (.int .i64 S.prot) from by rw [hC] at h; rw [blk_cell (HV3.out.later h).b0 2, HCS.out]; rfl))
          have FS3 := hid (fun W (h : C W) => (show W.cell? ⟨B, 3, none⟩ = some (.int .i64 S.rel) from by rw [hC] at h; rw [blk_cell (HV3.out.later h).b0 3, HCS.out]; rfl))
          have FS4 := hid (fun W (h : C W) => (show W.cell? ⟨B, 4, none⟩ = some (.int .i64 S.sw) from by rw [hC] at h; rw [blk_cell (HV3.out.later h).b0 4, HCS.out]; rfl))
          have FS5 := hid (fun W (h : C W) => (show W.cell? ⟨B, 5, none⟩ = some (.int .i64 S.fin) from by rw [hC] at h; rw [blk_cell (HV3.out.later h).b0 5, HCS.out]; rfl))
          have FS6 := hid (fun W (h : C W) => (show W.cell? ⟨B, 6, none⟩ = some (.int .i64 S.lat) from by rw [hC] at h; rw [blk_cell (HV3.out.later h).b0 6, HCS.out]; rfl))
          have FS7 := hid (fun W (h : C W) => (show W.cell? ⟨B, 7, none⟩ = some (.int .i64 S.resn) from by rw [hC] at h; rw [blk_cell (HV3.out.later h).b0 7, HCS.out]; rfl))
          have FS8 := hid (fun W (h : C W) => (show W.cell? ⟨B, 8, none⟩ = some us from by rw [hC] at h; rw [blk_cell (HV3.out.later h).b0 8, HCS.out]; rfl))
          have FL := hid (fun W (h : C W) => ((HLT.out W).mono (fun e w' q => (show e = .returned (.int .i64 (S.lat - 1)) ∧ C w' from ⟨q.1, by rw [hC] at h ⊢; exact below_then h q.2⟩))))
          have HCC := hid hC
          clear d1 hC
          refine wp_region_class (C := C) (by kernel_rfl) (by kernel_rfl) (by rw [HCC.out]; exact (Below.refl _ _).drew) ?_
          repeat (refine wpQuiet_step (fun K hK => ?_); (first | (rw [if_neg (by decide)]; refine hK _ ?_) | (rw [if_pos (by rfl)]; refine Exists.intro ?_ (And.intro (fun W HW => ?_) (hK _ ?_)); rotate_left; (focus (first | (go_simp; exact FL.out W HW) | (have q0 := FS0.out W HW; have q1 := FS1.out W HW; have q2 := FS2.out W HW; have q3 := FS3.out W HW; have q4 := FS4.out W HW; have q5 := FS5.out W HW; have q6 := FS6.out W HW; have q7 := FS7.out W HW; have q8 := FS8.out W HW; have q9 := FD.out W HW; (go_simp); all_goals (with_reducible rfl)))))); clear hK K; try simp only [Act.put, List.setIfInBounds_toArray, List.set_cons_zero, List.set_cons_succ])
          refine wpQuiet_nil ?_
          intro wd hCw
          have HV4 : Hid (LW w wd B CS CE) := by rw [HCC.out] at hCw; exact hid (HV3.out.later hCw)
          clear hCw hs1 hs2
          go_wp2_with fail
          go_roundw
          case rel => exact ⟨k + 1, by omega, by go_num, by rw [HR2.out], by rw [HL2.out], HH2, HV4⟩
          case measure => simp [intOf]; omega
          
    · obtain rfl : k = n := by omega
      have HF := hid (show listOkB S ⟨tp, td, tw, ss⟩ pl = decide ((k : Int) ≤ 8) by
        unfold listOkB
        rw [listB_iff.2 (by rw [← HN.out]; exact HH.out), Bool.true_and, ← HN.out]
        exact decide_eq_decide.2 (by omega))
      go_wp2_with fail
      go_ret
      exact ⟨by rw [HF.out]; rfl, HVr.out.below⟩
end
end Go.Proofs.Ytppildaahmlfmaa
