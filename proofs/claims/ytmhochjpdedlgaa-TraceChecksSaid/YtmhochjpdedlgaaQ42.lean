/- Joined: Trace1, Trace2, Trace3, Trace4, Trace5, Trace6, Trace7, Trace8, Trace9, SGrid. -/
import Derived.Test.YtmhochjpdedlgaaQ41
set_option linter.unusedVariables false
set_option linter.unusedSimpArgs false
/- Package trace: worker, on, works (contracts); traces as plain data. -/
set_option linter.unusedVariables false
set_option linter.unusedSimpArgs false
namespace Go.Proofs.Ytmhochjpdedlgaa
open Go.RowKit

structure Sl where
  kind : Int
  task : Int
  oth : Int
deriving DecidableEq
structure Jb where
  task : Int
  arr : Int
  fin : Int
  cut : Bool
  miss : Bool
structure Tr where
  slots : List (List Sl)
  jobs : List Jb
def slR : Reads Sl := fun _ cs s => cs = [.int .i64 s.kind, .int .i64 s.task, .int .i64 s.oth]
theorem slR.stays : Stays slR := fun _ _ _ _ _ h => h
def jbR : Reads Jb := fun _ cs j => cs = [.int .i64 j.task, .int .i64 j.arr, .int .i64 j.fin, .bool j.cut, .bool j.miss]
theorem jbR.stays : Stays jbR := fun _ _ _ _ _ h => h
def slV (s : Sl) : Value := .agg #[.int .i64 s.kind, .int .i64 s.task, .int .i64 s.oth]
def jbV (j : Jb) : Value := .agg #[.int .i64 j.task, .int .i64 j.arr, .int .i64 j.fin, .bool j.cut, .bool j.miss]
structure IsTr (w : World) (sv jv : Value) (X : Tr) : Prop where
  slots : Rowp 1 (RowR 3 slR) w sv X.slots
  jobs : Rowp 5 jbR w jv X.jobs
theorem IsTr.later {w w' : World} {sv jv : Value} {X : Tr} (h : IsTr w sv jv X) (k : Below w.heap.size w w') : IsTr w' sv jv X := ⟨h.slots.later (RowR.stays slR.stays) k, h.jobs.later jbR.stays k⟩
/-- Who works in a slot. -/
def workerT (s : Sl) : Int := if s.kind = 2 then s.task else if s.kind = 4 then s.oth else 0
def workerB (s : Sl) : Bool := decide (s.kind = 2) || decide (s.kind = 4)
def onB (j : Jb) (t : Int) : Bool := decide (j.arr ≤ t) && (decide (j.fin = -1) || decide (t < j.fin))
def worksB (l : List Sl) (task : Int) : Bool := l.any fun s => workerB s && decide (workerT s = task)
/-- In which ticks a job works, of the first n. -/
def workN (X : Tr) (j : Jb) (n : Nat) : List Int := ((List.range n).filter fun t : Nat => onB j t && worksB ((X.slots[t]?).getD []) j.task).map fun t : Nat => (t : Int)
theorem workN_succ (X : Tr) (j : Jb) (n : Nat) : workN X j (n + 1) = if (onB j (n : Nat) && worksB ((X.slots[n]?).getD []) j.task) = true then workN X j n ++ [(n : Int)] else workN X j n := by
  unfold workN
  rw [List.range_succ, List.filter_append, List.map_append]
  by_cases h : (onB j (n : Nat) && worksB ((X.slots[n]?).getD []) j.task) = true
  · rw [if_pos h]; simp [h]
  · rw [if_neg h]; simp [h]
section
variable {w : World}
set_option maxRecDepth 100000 in
theorem worker_any (s : Sl) : Calls Try.prog 85 #[slV s] w fun e w' => e = .returned (.tuple #[.int .i64 (workerT s), .bool (workerB s)]) ∧ Below w.heap.size w w' := by
  obtain ⟨k, t, o⟩ := s
  unfold slV
  simp only
  by_cases h2 : k = 2
  case pos =>
    have hb : (k == 2) = true := beq_iff_eq.2 h2
    have HT := hid (show workerT ⟨k, t, o⟩ = t from if_pos h2)
    have HB := hid (show workerB ⟨k, t, o⟩ = true by unfold workerB; simp [h2])
    clear h2
    go_enter Try.func85, Try.ntmps85
    go_wp2_with fail
    go_ret2
    exact ⟨by rw [HT.out, HB.out]; rfl, below_new (Below.refl _ _) _⟩
  case neg =>
    have hb : (k == 2) = false := beq_eq_false_iff_ne.2 h2
    by_cases h4 : k = 4
    case pos =>
      have hb4 : (k == 4) = true := beq_iff_eq.2 h4
      have HT := hid (show workerT ⟨k, t, o⟩ = o by unfold workerT; rw [if_neg h2, if_pos h4])
      have HB := hid (show workerB ⟨k, t, o⟩ = true by unfold workerB; simp [h4])
      clear h2 h4
      go_enter Try.func85, Try.ntmps85
      go_wp2_with fail
      go_ret2
      exact ⟨by rw [HT.out, HB.out]; rfl, below_new (Below.refl _ _) _⟩
    case neg =>
      have hb4 : (k == 4) = false := beq_eq_false_iff_ne.2 h4
      have HT := hid (show workerT ⟨k, t, o⟩ = 0 by unfold workerT; rw [if_neg h2, if_neg h4])
      have HB := hid (show workerB ⟨k, t, o⟩ = false by unfold workerB; simp [h2, h4])
      clear h2 h4
      go_enter Try.func85, Try.ntmps85
      go_wp2_with fail
      go_ret2
      exact ⟨by rw [HT.out, HB.out]; rfl, below_new (Below.refl _ _) _⟩
set_option maxRecDepth 100000 in
theorem on_tr_any (j : Jb) (t : Int) : Calls Try.prog 43 #[jbV j, .int .i64 t] w fun e w' => e = .returned (.bool (onB j t)) ∧ Below w.heap.size w w' := by
  obtain ⟨jt, ja, jf, jc, jm⟩ := j
  unfold jbV
  simp only
  obtain ⟨b1, hb1⟩ : ∃ b, decide (ja ≤ t) = b := ⟨_, rfl⟩
  obtain ⟨b2, hb2⟩ : ∃ b, decide (jf = -1) = b := ⟨_, rfl⟩
  obtain ⟨b3, hb3⟩ : ∃ b, decide (t < jf) = b := ⟨_, rfl⟩
  have HO := hid (show onB ⟨jt, ja, jf, jc, jm⟩ t = (b1 && (b2 || b3)) by unfold onB; rw [← hb1, ← hb2, ← hb3])
  have hbe : (jf == -1) = b2 := by rw [← hb2]; rfl
  clear hb2
  cases b1
  case false =>
    have h1 : ¬ ja ≤ t := of_decide_eq_false hb1
    go_enter Try.func43, Try.ntmps43
    go_wp2_with fail
    go_ret
    exact ⟨by rw [HO.out]; rfl, below_new (Below.refl _ _) _⟩
  case true =>
    have h1 : ja ≤ t := of_decide_eq_true hb1
    cases b2
    case true =>
      go_enter Try.func43, Try.ntmps43
      go_wp2_with fail
      go_ret
      exact ⟨by rw [HO.out]; rfl, below_new (Below.refl _ _) _⟩
    case false =>
      cases b3
      case true =>
        have h3 : t < jf := of_decide_eq_true hb3
        go_enter Try.func43, Try.ntmps43
        go_wp2_with fail
        go_ret
        exact ⟨by rw [HO.out]; rfl, below_new (Below.refl _ _) _⟩
      case false =>
        have h3 : ¬ t < jf := of_decide_eq_false hb3
        go_enter Try.func43, Try.ntmps43
        go_wp2_with fail
        go_ret
        exact ⟨by rw [HO.out]; rfl, below_new (Below.refl _ _) _⟩
set_option maxRecDepth 100000 in
set_option maxHeartbeats 1600000 in
theorem works_any (l : List Sl) (A : Option Addr) (n c : Nat) (task : Int) (h : Rowp 3 slR w (.slice A n c) l) :
    Calls Try.prog 44 #[.slice A n c, .int .i64 task] w fun e w' => e = .returned (.bool (worksB l task)) ∧ Below w.heap.size w w' := by
  have hn := h.len
  have hnm : n ≤ 9223372036854775807 := by have := h.room; unfold maxLen at this; omega
  have HL := hid h
  have HN := hid hn
  have HWK := hid (fun W (s : Sl) => worker_any (w := W) s)
  unfold slV at HWK
  clear h hn
  go_enter Try.func44, Try.ntmps44
  go_wp2_with fail
  go_loopw [11] (fun v wr => ∃ k : Nat, k ≤ n ∧ v = .int .i64 k ∧ Hid (worksB (l.take k) task = false) ∧ Hid (Below w.heap.size w wr)) (fun v _ => n - (intOf v).toNat)
  case atStart => exact ⟨0, by omega, rfl, hid rfl, hid (Below.refl _ _)⟩
  case round =>
    obtain ⟨k, hk, rfl, HF, HB⟩ := hrel
    by_cases hlt : k < n
    case pos =>
      obtain ⟨s, hs⟩ : ∃ s, l[k]? = some s := ⟨_, List.getElem?_eq_getElem (by have := HN.out; omega)⟩
      obtain ⟨b, o, cs, hA, hbl, _, hc, hr⟩ := (HL.out.later slR.stays HB.out).at hs
      subst hA
      have hr' : cs = [.int .i64 s.kind, .int .i64 s.task, .int .i64 s.oth] := hr
      subst hr'
      have HSN := hid (show worksB (l.take (k + 1)) task = (workerB s && decide (workerT s = task)) from by
        have h1 := HF.out
        unfold worksB at h1 ⊢
        rw [take_next hs, List.any_append, h1]
        simp)
      have HBAD := hid (show (workerB s && decide (workerT s = task)) = true → worksB l task = true from fun h2 => by
        unfold worksB
        exact List.any_eq_true.2 ⟨s, List.mem_of_getElem? hs, h2⟩)
      have HW := hid (HWK.out · s)
      have e0 : wr.cell? ⟨b, o + k * 3, none⟩ = some (.int .i64 s.kind) := by simpa using hc 0 _ rfl
      have e1 : wr.cell? ⟨b, o + k * 3 + 1, none⟩ = some (.int .i64 s.task) := hc 1 _ rfl
      have e2 : wr.cell? ⟨b, o + k * 3 + 2, none⟩ = some (.int .i64 s.oth) := hc 2 _ rfl
      obtain ⟨wt, hwt⟩ : ∃ v, workerT s = v := ⟨_, rfl⟩
      obtain ⟨wb, hwb⟩ : ∃ v, workerB s = v := ⟨_, rfl⟩
      rw [hwt, hwb] at HSN HBAD HW
      obtain ⟨sk, st, so⟩ := s
      simp only at e0 e1 e2 HW
      clear hs hc hr hbl hwt hwb
      go_upto_region 4 with fail
      obtain ⟨D, hD⟩ : ∃ D, D = wr.heap.size := ⟨_, rfl⟩
      rw [← hD]
      generalize hw3 : wr.alloc (.cells #[.int .i64 sk, .int .i64 st, .int .i64 so] 78) = w3
      have hbel : Below wr.heap.size wr w3 := by rw [← hw3]; exact below_new (Below.refl _ _) _
      have hblk : w3.heap[D]? = some (.cells #[.int .i64 sk, .int .i64 st, .int .i64 so] 78 (0, 0)) := by rw [← hw3, hD]; exact blk_new _ _
      have f0 : w3.cell? ⟨D, 0, none⟩ = some (.int .i64 sk) := blk_cell hblk 0
      have f1 : w3.cell? ⟨D, 1, none⟩ = some (.int .i64 st) := blk_cell hblk 1
      have f2 : w3.cell? ⟨D, 2, none⟩ = some (.int .i64 so) := blk_cell hblk 2
      have HB3 := hid (below_then HB.out hbel)
      clear hw3 hD hbel hblk e0 e1 e2
      go_wp2_with fail
      refine (HW.out w3).mono ?_
      rintro e w4 ⟨rfl, hb4⟩
      have HB4 := hid (below_then HB3.out hb4)
      clear hb4 f0 f1 f2
      cases wb
      case false =>
        have HFN := hid (show worksB (l.take (k + 1)) task = false from HSN.out)
        go_wp2_with fail
        go_roundw
        case rel => exact ⟨k + 1, by omega, by go_num, HFN, HB4⟩
        case measure => simp [intOf]; omega
      case true =>
        by_cases ht : wt = task
        case pos =>
          have hb : (wt == task) = true := beq_iff_eq.2 ht
          have HF2 := hid (HBAD.out (by simp [ht]))
          clear ht
          go_wp2_with fail
          go_ret
          exact ⟨by rw [HF2.out]; rfl, HB4.out⟩
        case neg =>
          have hb : (wt == task) = false := beq_eq_false_iff_ne.2 ht
          have HFN := hid (show worksB (l.take (k + 1)) task = false from by rw [HSN.out]; simp [ht])
          clear ht
          go_wp2_with fail
          go_roundw
          case rel => exact ⟨k + 1, by omega, by go_num, HFN, HB4⟩
          case measure => simp [intOf]; omega
    case neg =>
      obtain rfl : k = n := by omega
      have HF2 := hid (show worksB l task = false from by
        have h1 := HF.out
        rw [List.take_of_length_le (by rw [HN.out]; exact Nat.le_refl _)] at h1
        exact h1)
      go_wp2_with fail
      go_ret
      exact ⟨by rw [HF2.out]; rfl, HB.out⟩
end
end Go.Proofs.Ytmhochjpdedlgaa
/- Package trace: Work (contract). -/
set_option linter.unusedVariables false
set_option linter.unusedSimpArgs false
namespace Go.Proofs.Ytmhochjpdedlgaa
open Go.RowKit

def trV (sv jv : Value) : Value := .agg #[sv, jv]
/-- When a job worked; nothing where there is no such job. -/
def workL (X : Tr) (job : Int) : List Int := if 0 ≤ job ∧ job < X.jobs.length then (((X.jobs[job.toNat]?).map fun j => workN X j X.slots.length).getD []) else []
section
variable {w : World}
set_option maxRecDepth 100000 in
set_option maxHeartbeats 3200000 in
theorem work_any (X : Tr) (A : Option Addr) (n c : Nat) (A2 : Option Addr) (m c2 : Nat) (job : Int) (h : IsTr w (.slice A n c) (.slice A2 m c2) X) (hn6 : n ≤ 1000000) :
    Calls Try.prog 15 #[trV (.slice A n c) (.slice A2 m c2), .int .i64 job] w fun e w' => ∃ u, e = .returned u ∧ w'.ownsRow w.heap.size 3 1 u (workL X job).length (intCells (workL X job)) ∧ Below w.heap.size w w' := by
  have hn := h.slots.len
  have hm := h.jobs.len
  have hmm : m ≤ 9223372036854775807 := by have := h.jobs.room; unfold maxLen at this; omega
  have HX := hid h
  have HN := hid hn
  have HM := hid hm
  obtain ⟨i1, hi', hy0, hy1, hy2⟩ := info_parts Try.info_int
  unfold trV
  have hq := blk_new w (.cells #[.slice A n c, .slice A2 m c2] 32)
  have hbe := below_new (Below.refl w.heap.size w) (.cells #[.slice A n c, .slice A2 m c2] 32)
  by_cases hneg : job < 0
  case pos =>
    have HW := hid (show workL X job = [] from if_neg (by omega))
    have HB := hid hbe
    clear h hn hm hq hbe
    go_enter Try.func15, Try.ntmps15
    go_wp2_with fail
    go_ret
    exact ⟨_, rfl, by rw [HW.out]; exact World.ownsRow_nil _ _ _ _, HB.out⟩
  case neg =>
    obtain ⟨jn, rfl⟩ : ∃ jn : Nat, job = jn := ⟨job.toNat, by omega⟩
    by_cases hjm : jn < m
    case neg =>
      have HW := hid (show workL X jn = [] from if_neg (by omega))
      have HB := hid hbe
      have hge : (m : Int) ≤ (jn : Int) := by omega
      clear h hn hm
      go_enter Try.func15, Try.ntmps15
      go_upto_region 1 with fail
      generalize w.alloc (.cells #[.slice A n c, .slice A2 m c2] 32) = w1 at hq hbe HB ⊢
      have c1 : w1.cell? ⟨w.heap.size, 1, none⟩ = some (.slice A2 m c2) := blk_cell hq 1
      clear hq hbe
      go_wp2_with fail
      go_ret
      exact ⟨_, rfl, by rw [HW.out]; exact World.ownsRow_nil _ _ _ _, HB.out⟩
    case pos =>
      obtain ⟨j, hj⟩ : ∃ j, X.jobs[jn]? = some j := ⟨_, List.getElem?_eq_getElem (by omega)⟩
      have HW := hid (show workL X jn = workN X j n from by
        unfold workL
        rw [if_pos (by omega), show ((jn : Int)).toNat = jn by omega, hj, hn]
        rfl)
      obtain ⟨b, o, cs, hA, hbl, _, hc, hr⟩ := h.jobs.at hj
      subst hA
      have hr' : cs = [.int .i64 j.task, .int .i64 j.arr, .int .i64 j.fin, .bool j.cut, .bool j.miss] := hr
      subst hr'
      have HON := hid (fun W (t : Int) => on_tr_any (w := W) j t)
      have HJ := hid (fun W (k : Below w.heap.size w W) => (⟨(k.cell (p := ⟨b, o + jn * 5, none⟩) hbl).trans (by simpa using hc 0 _ rfl), (k.cell (p := ⟨b, o + jn * 5 + 1, none⟩) hbl).trans (hc 1 _ rfl), (k.cell (p := ⟨b, o + jn * 5 + 2, none⟩) hbl).trans (hc 2 _ rfl), (k.cell (p := ⟨b, o + jn * 5 + 3, none⟩) hbl).trans (hc 3 _ rfl), (k.cell (p := ⟨b, o + jn * 5 + 4, none⟩) hbl).trans (hc 4 _ rfl)⟩ : W.cell? ⟨b, o + jn * 5, none⟩ = some (.int .i64 j.task) ∧ W.cell? ⟨b, o + jn * 5 + 1, none⟩ = some (.int .i64 j.arr) ∧ W.cell? ⟨b, o + jn * 5 + 2, none⟩ = some (.int .i64 j.fin) ∧ W.cell? ⟨b, o + jn * 5 + 3, none⟩ = some (.bool j.cut) ∧ W.cell? ⟨b, o + jn * 5 + 4, none⟩ = some (.bool j.miss)))
      have HBL := hid hbl
      unfold jbV at HON
      clear h hn hm hj hc hr hbl
      go_enter Try.func15, Try.ntmps15
      go_upto_region 1 with fail
      generalize w.alloc (.cells #[.slice A n c, .slice (some ⟨b, o, none⟩) m c2] 32) = w1 at hq hbe ⊢
      have c0 : w1.cell? ⟨w.heap.size, 0, none⟩ = some (.slice A n c) := blk_cell hq 0
      have c1 : w1.cell? ⟨w.heap.size, 1, none⟩ = some (.slice (some ⟨b, o, none⟩) m c2) := blk_cell hq 1
      have HQ := hid hq
      have HB := hid hbe
      have HSZ := hid (show w.heap.size + 1 ≤ w1.heap.size from blk_lt hq)
      clear hq hbe
      go_wp2_with fail
      clear c0 c1
      go_loopw [5, 20] (fun u v wr => ∃ k : Nat, k ≤ n ∧ v = .int .i64 k ∧ Hid (wr.ownsRow (w.heap.size + 1) 3 1 u (workN X j k).length (intCells (workN X j k))) ∧ Hid (Below w.heap.size w wr) ∧ Hid (wr.heap[w.heap.size]? = some (.cells #[.slice A n c, .slice (some ⟨b, o, none⟩) m c2] 32 (0, 0)))) (fun _ v _ => n - (intOf v).toNat)
      case atStart => exact ⟨0, by omega, rfl, hid (World.ownsRow_nil _ _ _ _), HB, HQ⟩
      case round =>
        obtain ⟨k, hk, rfl, HO, HBR, HQR⟩ := hrel
        by_cases hlt : k < n
        case pos =>
          obtain ⟨sl, hsl⟩ : ∃ sl, X.slots[k]? = some sl := ⟨_, List.getElem?_eq_getElem (by have := HN.out; omega)⟩
          obtain ⟨b3, o3, cs3, hA3, hbl3, _, hc3, u3, hr3, hru3⟩ := (HX.out.slots.later (RowR.stays slR.stays) HBR.out).at hsl
          subst hA3
          subst hr3
          obtain ⟨A4, c4, hu4, _⟩ := hru3.shape
          obtain ⟨n4, hn4⟩ : ∃ n4, sl.length = n4 := ⟨_, rfl⟩
          rw [hn4] at hu4
          subst hu4
          have HSL := hid (show (X.slots[k]?).getD [] = sl from by rw [hsl]; rfl)
          have HRU := hid hru3
          have e0 : wr.cell? ⟨b3, o3 + k, none⟩ = some (.slice A4 n4 c4) := by simpa using hc3 0 _ rfl
          obtain ⟨j0, j1, j2, j3, j4⟩ := HJ.out wr HBR.out
          have c1 : wr.cell? ⟨w.heap.size, 1, none⟩ = some (.slice (some ⟨b, o, none⟩) m c2) := blk_cell HQR.out 1
          have hwn : (workN X j k).length ≤ k := by unfold workN; rw [List.length_map]; exact Nat.le_trans (List.length_filter_le _ _) (by simp)
          have HWS := hid (workN_succ X j k)
          rw [HSL.out] at HWS
          clear hsl hc3 hru3 hn4 hbl3
          go_wp2_with fail
          refine (HON.out _ _).mono ?_
          rintro e w2 ⟨rfl, hb2⟩
          have HB2 := hid (below_then HBR.out hb2)
          have HB22 := hid hb2
          have HQ2 := hid ((fr0 hb2).blk HQR.out (fun h => h))
          have HO2 := hid (own_kept HO.out (fr0 hb2) (fun _ _ h => h))
          obtain ⟨ob, hob⟩ : ∃ v, onB j k = v := ⟨_, rfl⟩
          rw [hob] at HWS ⊢
          clear e0 j0 j1 j2 j3 j4 c1 hb2 hob
          cases ob
          case false =>
            have HWE := hid (show workN X j (k + 1) = workN X j k from by rw [HWS.out]; simp)
            go_wp2_with fail
            go_roundw
            case rel => exact ⟨k + 1, by omega, by go_num, hid (by rw [HWE.out]; exact HO2.out), HB2, HQ2⟩
            case measure => simp [intOf]; omega
          case true =>
            have HWK := hid (works_any (w := w2) sl A4 n4 c4 j.task (HRU.out.later slR.stays HB22.out))
            have c1 : w2.cell? ⟨w.heap.size, 1, none⟩ = some (.slice (some ⟨b, o, none⟩) m c2) := blk_cell HQ2.out 1
            have j0 := (HJ.out w2 HB2.out).1
            go_wp2_with fail
            refine HWK.out.mono ?_
            rintro e w3 ⟨rfl, hb3⟩
            have HB3 := hid (below_then HB2.out hb3)
            have HQ3 := hid ((fr0 hb3).blk HQ2.out (fun h => h))
            have hown := own_kept HO2.out (fr0 hb3) (fun _ _ h => h)
            obtain ⟨wb, hwb⟩ : ∃ v, worksB sl j.task = v := ⟨_, rfl⟩
            rw [hwb] at HWS ⊢
            obtain ⟨L, hL⟩ : ∃ L, workN X j k = L := ⟨_, rfl⟩
            rw [hL] at hown HWS hwn
            obtain ⟨Au, cu, rfl⟩ := own_slice hown
            have HOWN := hid hown
            have hsz3 : w.heap.size + 1 ≤ w3.heap.size := blk_lt HQ3.out
            clear c1 j0 hb3 hwb hown hL
            cases wb
            case false =>
              have HWE := hid (show workN X j (k + 1) = L from by rw [HWS.out]; simp)
              go_wp2_with fail
              go_roundw
              case rel => exact ⟨k + 1, by omega, by go_num, hid (by rw [HWE.out]; exact HOWN.out), HB3, HQ3⟩
              case measure => simp [intOf]; omega
            case true =>
              have HWE := hid (show workN X j (k + 1) = L ++ [(k : Int)] from by rw [HWS.out]; simp)
              obtain ⟨ln, hln⟩ : ∃ ln, L.length = ln := ⟨_, rfl⟩
              have HLN := hid hln
              rw [hln] at HOWN hwn ⊢
              clear hln
              go_wp2_with (at_builtin; refine append_new rfl _ _ 39 rfl (w.heap.size + 1) 3 i1 _ 1 8 Try.underlying39 hi' hy0 hy1 hy2 rfl (by decide) #[.int .i64 k] (.slice Au ln cu) ln (intCells L) rfl _ rfl rfl HOWN.out rfl (one_one _) (by unfold maxLen; omega) (by omega) hsz3 ?_; intro v' w4 ho hf hv; obtain ⟨A', c', rfl⟩ := own_slice ho; have HO4 := hid ho; have HF4 := hid hf; clear ho hf hv)
              have HO5 := hid (show w4.ownsRow (w.heap.size + 1) 3 1 (.slice A' (ln + 1) c') (workN X j (k + 1)).length (intCells (workN X j (k + 1))) from by
                rw [HWE.out, List.length_append, HLN.out]
                have : intCells (L ++ [(k : Int)]) = intCells L ++ [.int .i64 k] := by simp [intCells]
                rw [this]
                exact HO4.out)
              have hge : ∀ x, (Value.slice Au ln cu).ownBlock = some x → w.heap.size + 1 ≤ x := fun x hx => (HOWN.out.lt x hx).1
              have HB5 := hid (((Fr.of_below (S := NoB) HB3.out).trans HF4.out (fun x hx => .inr (by have := hge x hx; omega))).no)
              have HQ5 := hid (HF4.out.blk HQ3.out (fun hx => by have := hge _ hx; omega))
              clear hge
              go_roundw
              case rel => exact ⟨k + 1, by omega, by go_num, HO5, HB5, HQ5⟩
              case measure => simp [intOf]; omega
        case neg =>
          obtain rfl : k = n := by omega
          have HO6 := hid (show wr.ownsRow w.heap.size 3 1 u5 (workL X jn).length (intCells (workL X jn)) from by rw [HW.out]; exact own_mono HO.out (Nat.le_succ _))
          obtain ⟨Au, cu, hu⟩ := own_slice HO.out
          subst hu
          go_wp2_with fail
          go_ret
          exact ⟨_, rfl, HO6.out, HBR.out⟩
end
end Go.Proofs.Ytmhochjpdedlgaa
/- Package trace: the look's shape, active (contracts). -/
set_option linter.unusedVariables false
set_option linter.unusedSimpArgs false
namespace Go.Proofs.Ytmhochjpdedlgaa
open Go.RowKit

/-- The cells of a look: its table, its trace, its units. -/
def lkC (S : Sy) (tv ev cv sv jv uv : Value) : Array Value := #[.int .i64 S.cores, .int .i64 S.policy, .int .i64 S.prot, .int .i64 S.rel, .int .i64 S.sw, .int .i64 S.fin, .int .i64 S.lat, .int .i64 S.resn, tv, ev, cv, sv, jv, uv]
def inT (nt : Nat) (n : Int) : Bool := decide (0 ≤ n) && decide (n < nt)
def shapeB (nt : Nat) (s : Sl) : Bool :=
  if s.kind = 0 ∨ s.kind = 1 then decide (s.task = 0) && decide (s.oth = 0) else if s.kind = 2 then inT nt s.task && decide (s.oth = 0) else if s.kind = 3 ∨ s.kind = 4 then inT nt s.task && inT nt s.oth else false
/-- The first job of a task that is on in a tick: up to the k-th. -/
def actB (j : Jb) (task tick : Int) : Bool := decide (j.task = task) && onB j tick
def activeI (X : List Jb) (task tick : Int) : Option Nat := X.findIdx? fun j => actB j task tick
section
variable {w : World}
set_option maxRecDepth 100000 in
theorem shp_any (Bx K nt : Nat) (At : Option Addr) (ct : Nat) (n : Int) (h0 : w.cell? ⟨Bx, 0, none⟩ = some (.pointer (some ⟨K, 0, none⟩))) (h1 : w.cell? ⟨K, 8, none⟩ = some (.slice At nt ct)) (hnt : nt ≤ 9223372036854775807) :
    Calls Try.prog 74 #[.int .i64 n, .pointer (some ⟨Bx, 0, none⟩)] w fun e w' => e = .returned (.bool (inT nt n)) ∧ w' = w := by
  by_cases hn : 0 ≤ n
  case neg =>
    have HI := hid (show inT nt n = false by unfold inT; rw [decide_eq_false hn]; rfl)
    have hn' : n < 0 := by omega
    go_enter Try.func74, Try.ntmps74
    go_wp2_with fail
    go_ret
    exact ⟨by rw [HI.out]; rfl, rfl⟩
  case pos =>
    by_cases hl : n < nt
    case pos =>
      have HI := hid (show inT nt n = true by unfold inT; rw [decide_eq_true hn, decide_eq_true hl]; rfl)
      go_enter Try.func74, Try.ntmps74
      go_wp2_with fail
      go_ret
      exact ⟨by rw [HI.out]; rfl, rfl⟩
    case neg =>
      have HI := hid (show inT nt n = false by unfold inT; rw [decide_eq_true hn, decide_eq_false hl]; rfl)
      go_enter Try.func74, Try.ntmps74
      go_wp2_with fail
      go_ret
      exact ⟨by rw [HI.out]; rfl, rfl⟩
set_option maxRecDepth 100000 in
set_option maxHeartbeats 3200000 in
theorem shape_any (K nt : Nat) (At : Option Addr) (ct : Nat) (s : Sl) (h1 : w.cell? ⟨K, 8, none⟩ = some (.slice At nt ct)) (hnt : nt ≤ 9223372036854775807) :
    Calls Try.prog 33 #[.pointer (some ⟨K, 0, none⟩), slV s] w fun e w' => e = .returned (.bool (shapeB nt s)) ∧ Below w.heap.size w w' := by
  obtain ⟨k, t, o⟩ := s
  unfold slV
  simp only
  have hq0 := blk_old (blk_new w (.cells #[.pointer (some ⟨K, 0, none⟩)] 80)) (.cells #[.int .i64 k, .int .i64 t, .int .i64 o] 78)
  have hq1 := blk_new (w.alloc (.cells #[.pointer (some ⟨K, 0, none⟩)] 80)) (.cells #[.int .i64 k, .int .i64 t, .int .i64 o] 78)
  have hbe := below_new (below_new (Below.refl w.heap.size w) (.cells #[.pointer (some ⟨K, 0, none⟩)] 80)) (.cells #[.int .i64 k, .int .i64 t, .int .i64 o] 78)
  rw [show (w.alloc (.cells #[.pointer (some ⟨K, 0, none⟩)] 80)).heap.size = w.heap.size + 1 by simp] at hq1
  have hKl : K < w.heap.size := World.block_lt_of_cell? w _ h1
  go_enter Try.func33, Try.ntmps33
  go_upto_region 2 with fail
  generalize (w.alloc (.cells #[.pointer (some ⟨K, 0, none⟩)] 80)).alloc (.cells #[.int .i64 k, .int .i64 t, .int .i64 o] 78) = w1 at hq0 hq1 hbe ⊢
  have hk8 : w1.cell? ⟨K, 8, none⟩ = some (.slice At nt ct) := (hbe.cell (p := ⟨K, 8, none⟩) hKl).trans h1
  have HSH := hid (fun n => shp_any (w := w1) w.heap.size K nt At ct n (blk_cell hq0 0) hk8 hnt)
  have s0 : w1.cell? ⟨w.heap.size + 1, 0, none⟩ = some (.int .i64 k) := blk_cell hq1 0
  have s1 : w1.cell? ⟨w.heap.size + 1, 1, none⟩ = some (.int .i64 t) := blk_cell hq1 1
  have s2 : w1.cell? ⟨w.heap.size + 1, 2, none⟩ = some (.int .i64 o) := blk_cell hq1 2
  have HB := hid hbe
  clear hq0 hq1 hbe h1 hKl hk8
  obtain ⟨bt, hbt⟩ : ∃ b, decide (t = 0) = b := ⟨_, rfl⟩
  obtain ⟨bo, hbo⟩ : ∃ b, decide (o = 0) = b := ⟨_, rfl⟩
  obtain ⟨it, hit⟩ : ∃ b, inT nt t = b := ⟨_, rfl⟩
  obtain ⟨io, hio⟩ : ∃ b, inT nt o = b := ⟨_, rfl⟩
  have HS := hid (show shapeB nt ⟨k, t, o⟩ = (if k = 0 ∨ k = 1 then bt && bo else if k = 2 then it && bo else if k = 3 ∨ k = 4 then it && io else false) by unfold shapeB; rw [← hbt, ← hbo, ← hit, ← hio])
  have HT := hid (show Calls Try.prog 74 #[.int .i64 t, .pointer (some ⟨w.heap.size, 0, none⟩)] w1 fun e w' => e = .returned (.bool it) ∧ w' = w1 from by rw [← hit]; exact HSH.out t)
  have HO := hid (show Calls Try.prog 74 #[.int .i64 o, .pointer (some ⟨w.heap.size, 0, none⟩)] w1 fun e w' => e = .returned (.bool io) ∧ w' = w1 from by rw [← hio]; exact HSH.out o)
  have hte : (t == 0) = bt := by rw [← hbt]; rfl
  have hoe : (o == 0) = bo := by rw [← hbo]; rfl
  clear hbt hbo hit hio HSH
  by_cases h0 : k = 0
  case pos =>
    have hb : (k == 0) = true := beq_iff_eq.2 h0
    have HF := hid (show shapeB nt ⟨k, t, o⟩ = (bt && bo) from by rw [HS.out, if_pos (.inl h0)])
    clear h0
    cases bt <;> cases bo
    all_goals
      go_wp2_with fail
      go_ret
      exact ⟨by rw [HF.out]; rfl, HB.out⟩
  case neg =>
    have hb0 : (k == 0) = false := beq_eq_false_iff_ne.2 h0
    by_cases h1 : k = 1
    case pos =>
      have hb : (k == 1) = true := beq_iff_eq.2 h1
      have HF := hid (show shapeB nt ⟨k, t, o⟩ = (bt && bo) from by rw [HS.out, if_pos (.inr h1)])
      clear h0 h1
      cases bt <;> cases bo
      all_goals
        go_wp2_with fail
        go_ret
        exact ⟨by rw [HF.out]; rfl, HB.out⟩
    case neg =>
      have hb1 : (k == 1) = false := beq_eq_false_iff_ne.2 h1
      by_cases h2 : k = 2
      case pos =>
        have hb : (k == 2) = true := beq_iff_eq.2 h2
        have HF := hid (show shapeB nt ⟨k, t, o⟩ = (it && bo) from by rw [HS.out, if_neg (fun h => h.elim h0 h1), if_pos h2])
        clear h0 h1 h2
        go_wp2_with fail
        refine HT.out.mono ?_
        rintro e w2 ⟨rfl, rfl⟩
        cases it <;> cases bo
        all_goals
          go_wp2_with fail
          go_ret
          exact ⟨by rw [HF.out]; rfl, HB.out⟩
      case neg =>
        have hb2 : (k == 2) = false := beq_eq_false_iff_ne.2 h2
        by_cases h34 : k = 3 ∨ k = 4
        case pos =>
          have HF := hid (show shapeB nt ⟨k, t, o⟩ = (it && io) from by rw [HS.out, if_neg (fun h => h.elim h0 h1), if_neg h2, if_pos h34])
          rcases h34 with h3 | h3
          · have hb3 : (k == 3) = true := beq_iff_eq.2 h3
            clear h0 h1 h2 h3
            go_wp2_with fail
            refine HT.out.mono ?_
            rintro e w2 ⟨rfl, rfl⟩
            cases it
            case false =>
              go_wp2_with fail
              go_ret
              exact ⟨by rw [HF.out]; rfl, HB.out⟩
            case true =>
              go_wp2_with fail
              refine HO.out.mono ?_
              rintro e w3 ⟨rfl, rfl⟩
              go_wp2_with fail
              go_ret
              exact ⟨by rw [HF.out]; rfl, HB.out⟩
          · have hb3 : (k == 3) = false := beq_eq_false_iff_ne.2 (by omega)
            have hb4 : (k == 4) = true := beq_iff_eq.2 h3
            clear h0 h1 h2 h3
            go_wp2_with fail
            refine HT.out.mono ?_
            rintro e w2 ⟨rfl, rfl⟩
            cases it
            case false =>
              go_wp2_with fail
              go_ret
              exact ⟨by rw [HF.out]; rfl, HB.out⟩
            case true =>
              go_wp2_with fail
              refine HO.out.mono ?_
              rintro e w3 ⟨rfl, rfl⟩
              go_wp2_with fail
              go_ret
              exact ⟨by rw [HF.out]; rfl, HB.out⟩
        case neg =>
          have hb3 : (k == 3) = false := beq_eq_false_iff_ne.2 (fun h => h34 (.inl h))
          have hb4 : (k == 4) = false := beq_eq_false_iff_ne.2 (fun h => h34 (.inr h))
          have HF := hid (show shapeB nt ⟨k, t, o⟩ = false from by rw [HS.out, if_neg (fun h => h.elim h0 h1), if_neg h2, if_neg h34])
          clear h0 h1 h2 h34
          go_wp2_with fail
          go_ret
          exact ⟨by rw [HF.out]; rfl, HB.out⟩
end
end Go.Proofs.Ytmhochjpdedlgaa
/- Package trace: the look's active, once (contracts). -/
set_option linter.unusedVariables false
set_option linter.unusedSimpArgs false
namespace Go.Proofs.Ytmhochjpdedlgaa
open Go.RowKit

section
variable {X : List Jb} {task tick : Int} {k : Nat} {j : Jb}
theorem act_some (hj : X[k]? = some j) (h : actB j task tick = true) (hp : ∀ (i : Nat) y, i < k → X[i]? = some y → actB y task tick = false) : activeI X task tick = some k := by
  obtain ⟨hk, he⟩ := List.getElem?_eq_some_iff.1 hj
  unfold activeI
  rw [List.findIdx?_eq_some_iff_getElem]
  refine ⟨hk, by rw [he]; exact h, fun i hi => ?_⟩
  have := hp i X[i] hi (List.getElem?_eq_getElem (by omega))
  rw [this]
  simp
theorem act_none (hp : ∀ (i : Nat) y, X[i]? = some y → actB y task tick = false) : activeI X task tick = none := by
  unfold activeI
  rw [List.findIdx?_eq_none_iff]
  intro y hy
  obtain ⟨i, hi⟩ := List.mem_iff_getElem?.1 hy
  exact hp i y hi
end
section
variable {w : World}
set_option maxRecDepth 100000 in
set_option maxHeartbeats 3200000 in
theorem active_any (K : Nat) (X : List Jb) (A : Option Addr) (n c : Nat) (task tick : Int) (h1 : w.cell? ⟨K, 12, none⟩ = some (.slice A n c)) (h : Rowp 5 jbR w (.slice A n c) X) :
    Calls Try.prog 99 #[.pointer (some ⟨K, 0, none⟩), .int .i64 task, .int .i64 tick] w fun e w' => e = .returned (.tuple #[.int .i64 ((activeI X task tick).getD 0 : Nat), .bool (activeI X task tick).isSome]) ∧ Below w.heap.size w w' := by
  have hn := h.len
  have hnm : n ≤ 9223372036854775807 := by have := h.room; unfold maxLen at this; omega
  have HL := hid h
  have HN := hid hn
  have HON := hid (fun W (j : Jb) => on_tr_any (w := W) j tick)
  unfold jbV at HON
  clear h hn
  go_enter Try.func99, Try.ntmps99
  go_wp2_with fail
  clear h1
  go_loopw [16] (fun v wr => ∃ k : Nat, k ≤ n ∧ v = .int .i64 k ∧ Hid (∀ (i : Nat) y, i < k → X[i]? = some y → actB y task tick = false) ∧ Hid (Below w.heap.size w wr)) (fun v _ => n - (intOf v).toNat)
  case atStart => exact ⟨0, by omega, rfl, hid (fun i y h => by omega), hid (Below.refl _ _)⟩
  case round =>
    obtain ⟨k, hk, rfl, HF, HB⟩ := hrel
    by_cases hlt : k < n
    case pos =>
      obtain ⟨j, hj⟩ : ∃ j, X[k]? = some j := ⟨_, List.getElem?_eq_getElem (by have := HN.out; omega)⟩
      obtain ⟨b, o, cs, hA, hbl, _, hc, hr⟩ := (HL.out.later jbR.stays HB.out).at hj
      subst hA
      have hr' : cs = [.int .i64 j.task, .int .i64 j.arr, .int .i64 j.fin, .bool j.cut, .bool j.miss] := hr
      subst hr'
      have HX := hid hj
      have HO := hid (HON.out · j)
      have HFN := hid (show actB j task tick = false → ∀ (i : Nat) y, i < k + 1 → X[i]? = some y → actB y task tick = false from fun h i y hi hy => by
        by_cases e : i = k
        · subst e
          rw [hj] at hy
          injection hy with hy
          rw [← hy]
          exact h
        · exact HF.out i y (by omega) hy)
      have HAS := hid (show actB j task tick = true → activeI X task tick = some k from fun h => act_some hj h HF.out)
      obtain ⟨ob, hob⟩ : ∃ b, onB j tick = b := ⟨_, rfl⟩
      have HAB := hid (show actB j task tick = (decide (j.task = task) && ob) from by unfold actB; rw [hob])
      rw [hob] at HO
      obtain ⟨jt, ja, jf, jc, jm⟩ := j
      simp only at hc HO HAB
      have e0 : wr.cell? ⟨b, o + k * 5, none⟩ = some (.int .i64 jt) := by simpa using hc 0 _ rfl
      have e1 : wr.cell? ⟨b, o + k * 5 + 1, none⟩ = some (.int .i64 ja) := hc 1 _ rfl
      have e2 : wr.cell? ⟨b, o + k * 5 + 2, none⟩ = some (.int .i64 jf) := hc 2 _ rfl
      have e3 : wr.cell? ⟨b, o + k * 5 + 3, none⟩ = some (.bool jc) := hc 3 _ rfl
      have e4 : wr.cell? ⟨b, o + k * 5 + 4, none⟩ = some (.bool jm) := hc 4 _ rfl
      clear hj hc hr hbl hob
      go_upto_region 4 with fail
      obtain ⟨D, hD⟩ : ∃ D, D = wr.heap.size := ⟨_, rfl⟩
      rw [← hD]
      generalize hw3 : wr.alloc (.cells #[.int .i64 jt, .int .i64 ja, .int .i64 jf, .bool jc, .bool jm] 45) = w3
      have hbel : Below wr.heap.size wr w3 := by rw [← hw3]; exact below_new (Below.refl _ _) _
      have hblk : w3.heap[D]? = some (.cells #[.int .i64 jt, .int .i64 ja, .int .i64 jf, .bool jc, .bool jm] 45 (0, 0)) := by rw [← hw3, hD]; exact blk_new _ _
      have f0 : w3.cell? ⟨D, 0, none⟩ = some (.int .i64 jt) := blk_cell hblk 0
      have f1 : w3.cell? ⟨D, 1, none⟩ = some (.int .i64 ja) := blk_cell hblk 1
      have f2 : w3.cell? ⟨D, 2, none⟩ = some (.int .i64 jf) := blk_cell hblk 2
      have f3 : w3.cell? ⟨D, 3, none⟩ = some (.bool jc) := blk_cell hblk 3
      have f4 : w3.cell? ⟨D, 4, none⟩ = some (.bool jm) := blk_cell hblk 4
      have HB3 := hid (below_then HB.out hbel)
      clear hw3 hD hbel hblk e0 e1 e2 e3 e4
      by_cases ht : jt = task
      case neg =>
        have hb : (jt == task) = false := beq_eq_false_iff_ne.2 ht
        have HFK := hid (HFN.out (by rw [HAB.out, decide_eq_false ht]; rfl))
        clear ht
        go_wp2_with fail
        go_roundw
        case rel => exact ⟨k + 1, by omega, by go_num, HFK, HB3⟩
        case measure => simp [intOf]; omega
      case pos =>
        have hb : (jt == task) = true := beq_iff_eq.2 ht
        have HDT := hid (decide_eq_true ht)
        clear ht
        go_wp2_with fail
        refine (HO.out w3).mono ?_
        rintro e w4 ⟨rfl, hb4⟩
        have HB4 := hid (below_then HB3.out hb4)
        clear hb4 f0 f1 f2 f3 f4
        cases ob
        case false =>
          have HFK := hid (HFN.out (by rw [HAB.out, Bool.and_false]))
          go_wp2_with fail
          go_roundw
          case rel => exact ⟨k + 1, by omega, by go_num, HFK, HB4⟩
          case measure => simp [intOf]; omega
        case true =>
          have HS := hid (HAS.out (by rw [HAB.out, HDT.out]; rfl))
          go_wp2_with fail
          go_ret2
          exact ⟨by rw [HS.out]; rfl, HB4.out⟩
    case neg =>
      obtain rfl : k = n := by omega
      have HS := hid (show activeI X task tick = none from act_none (fun i y hy => HF.out i y (by have := (List.getElem?_eq_some_iff.1 hy).1; have := HN.out; omega) hy))
      go_wp2_with fail
      go_ret2
      exact ⟨by rw [HS.out]; rfl, HB.out⟩
end
end Go.Proofs.Ytmhochjpdedlgaa
/- Package trace: the look's once (contract). -/
set_option linter.unusedVariables false
set_option linter.unusedSimpArgs false
namespace Go.Proofs.Ytmhochjpdedlgaa
open Go.RowKit

/-- The beginning of a slice. -/
theorem Rowp.front {α : Type} {sz : Nat} {R : Reads α} {w : World} {A : Option Addr} {n cap : Nat} {l : List α} (h : Rowp sz R w (.slice A n cap) l) {c : Nat} (hc : c ≤ n) : Rowp sz R w (.slice A c cap) (l.take c) := by
  have hn := h.len
  have hr := h.room
  have hl : (l.take c).length = c := by rw [List.length_take]; omega
  refine ⟨A, cap, by rw [hl], by rw [hl]; omega, hr.2, fun i x hx => ?_⟩
  have hi : i < c := by have := (List.getElem?_eq_some_iff.1 hx).1; rw [hl] at this; exact this
  rw [List.getElem?_take_of_lt hi] at hx
  exact h.at hx
/-- Rule 4, of a tick's slots and a core. -/
def onceB (l : List Sl) (jobs : List Jb) (tick : Int) (c : Nat) : Bool :=
  ((l[c]?).map fun s => !workerB s || ((activeI jobs (workerT s) tick).isSome && !worksB (l.take c) (workerT s))).getD true
section
variable {w : World}
set_option maxRecDepth 100000 in
set_option maxHeartbeats 3200000 in
theorem once_any (K : Nat) (X : Tr) (A : Option Addr) (n cp : Nat) (A2 : Option Addr) (m c2 : Nat) (tick c : Nat) (l : List Sl) (h11 : w.cell? ⟨K, 11, none⟩ = some (.slice A n cp)) (h12 : w.cell? ⟨K, 12, none⟩ = some (.slice A2 m c2)) (h : IsTr w (.slice A n cp) (.slice A2 m c2) X) (hl : X.slots[tick]? = some l) (hc : c < l.length) :
    Calls Try.prog 76 #[.pointer (some ⟨K, 0, none⟩), .int .i64 tick, .int .i64 c] w fun e w' => e = .returned (.bool (onceB l X.jobs tick c)) ∧ Below w.heap.size w w' := by
  have hn := h.slots.len
  have htn : tick < n := by have := (List.getElem?_eq_some_iff.1 hl).1; omega
  have hnm : n ≤ 9223372036854775807 := by have := h.slots.room; unfold maxLen at this; omega
  obtain ⟨b, o, cs, hA, hbl, _, hcs, u, hr, hru⟩ := h.slots.at hl
  subst hA
  subst hr
  obtain ⟨A4, c4, hu4, hr4⟩ := hru.shape
  obtain ⟨n4, hn4⟩ : ∃ n4, l.length = n4 := ⟨_, rfl⟩
  rw [hn4] at hu4 hc hr4
  subst hu4
  have hn4m : n4 ≤ 9223372036854775807 := by unfold maxLen at hr4; omega
  have hc4 : c ≤ c4 := by omega
  obtain ⟨s, hs⟩ : ∃ s, l[c]? = some s := ⟨_, List.getElem?_eq_getElem (by omega)⟩
  obtain ⟨b5, o5, cs5, hA5, hbl5, _, hcs5, hr5⟩ := hru.at hs
  subst hA5
  have hr5' : cs5 = [.int .i64 s.kind, .int .i64 s.task, .int .i64 s.oth] := hr5
  subst hr5'
  have hkl : K < w.heap.size := World.block_lt_of_cell? w _ h12
  have HWK := hid (worker_any (w := w) s)
  have HFR := hid (hru.front (c := c) (by omega))
  have HO := hid (show onceB l X.jobs tick c = (!workerB s || ((activeI X.jobs (workerT s) tick).isSome && !worksB (l.take c) (workerT s))) from by unfold onceB; rw [hs]; rfl)
  have HAC := hid (fun W (k : Below w.heap.size w W) (task : Int) => active_any (w := W) K X.jobs A2 m c2 task tick ((k.cell (p := ⟨K, 12, none⟩) hkl).trans h12) (h.jobs.later jbR.stays k))
  have HWO := hid (fun W (k : Below w.heap.size w W) (task : Int) => works_any (w := W) (l.take c) (some ⟨b5, o5, none⟩) c c4 task ((hru.front (c := c) (by omega)).later slR.stays k))
  obtain ⟨wt, hwt⟩ : ∃ v, workerT s = v := ⟨_, rfl⟩
  obtain ⟨wb, hwb⟩ : ∃ v, workerB s = v := ⟨_, rfl⟩
  rw [hwt, hwb] at HWK HO
  have e0 : w.cell? ⟨b, o + tick, none⟩ = some (.slice (some ⟨b5, o5, none⟩) n4 c4) := by simpa using hcs 0 _ rfl
  obtain ⟨sk, st, so⟩ := s
  unfold slV at HWK
  simp only at HWK hcs5
  have f0 : w.cell? ⟨b5, o5 + c * 3, none⟩ = some (.int .i64 sk) := by simpa using hcs5 0 _ rfl
  have f1 : w.cell? ⟨b5, o5 + c * 3 + 1, none⟩ = some (.int .i64 st) := hcs5 1 _ rfl
  have f2 : w.cell? ⟨b5, o5 + c * 3 + 2, none⟩ = some (.int .i64 so) := hcs5 2 _ rfl
  clear h hl hru hs hcs hcs5 hr5 hwt hwb h12 hbl hbl5 hn4 hr4
  go_enter Try.func76, Try.ntmps76
  go_wp2_with fail
  refine HWK.out.mono ?_
  rintro e w1 ⟨rfl, hb1⟩
  have HB1 := hid hb1
  clear hb1 e0 f0 f1 f2 h11
  cases wb
  case false =>
    go_wp2_with fail
    go_ret
    exact ⟨by rw [HO.out]; rfl, HB1.out⟩
  case true =>
    go_wp2_with fail
    refine (HAC.out w1 HB1.out wt).mono ?_
    rintro e w2 ⟨rfl, hb2⟩
    have HB2 := hid (below_then HB1.out hb2)
    obtain ⟨ai, hai⟩ : ∃ v, ((activeI X.jobs wt tick).getD 0 : Nat) = v := ⟨_, rfl⟩
    obtain ⟨ab, hab⟩ : ∃ v, (activeI X.jobs wt tick).isSome = v := ⟨_, rfl⟩
    rw [hai, hab]
    rw [hab] at HO
    clear hb2 hai hab
    cases ab
    case false =>
      go_wp2_with fail
      go_ret
      exact ⟨by rw [HO.out]; rfl, HB2.out⟩
    case true =>
      have HW2 := hid (HWO.out w2 HB2.out wt)
      go_wp2_with fail
      refine HW2.out.mono ?_
      rintro e w3 ⟨rfl, hb3⟩
      have HB3 := hid (below_then HB2.out hb3)
      obtain ⟨vb, hvb⟩ : ∃ v, worksB (l.take c) wt = v := ⟨_, rfl⟩
      rw [hvb]
      rw [hvb] at HO
      clear hb3 hvb
      cases vb
      all_goals
        go_wp2_with fail
        go_ret
        exact ⟨by rw [HO.out]; rfl, HB3.out⟩
end
end Go.Proofs.Ytmhochjpdedlgaa
/- Package tourbillonref22: worker, on, active (contracts). -/
set_option linter.unusedVariables false
set_option linter.unusedSimpArgs false
namespace Go.Proofs.Ytmhochjpdedlgaa
open Go.RowKit

/-- What the document's worker says beside whether anybody works. -/
def workerT22 (s : Sl) : Int := if s.kind = 2 then s.task else s.oth
theorem workerT22_eq {s : Sl} (h : workerB s = true) : workerT22 s = workerT s := by
  unfold workerB at h
  unfold workerT22 workerT
  by_cases h2 : s.kind = 2
  · rw [if_pos h2, if_pos h2]
  · rw [if_neg h2, if_neg h2]
    have h4 : s.kind = 4 := by simpa [h2] using h
    rw [if_pos h4]
/-- The document's number of the job that is on. -/
def active22 (X : List Jb) (task tick : Int) : Int := ((activeI X task tick).map fun k : Nat => (k : Int)).getD (-1)
section
variable {w : World}
set_option maxRecDepth 100000 in
theorem worker22_any (s : Sl) : Calls Try.prog 45 #[slV s] w fun e w' => e = .returned (.tuple #[.int .i64 (workerT22 s), .bool (workerB s)]) ∧ Below w.heap.size w w' := by
  obtain ⟨k, t, o⟩ := s
  unfold slV
  simp only
  by_cases h2 : k = 2
  case pos =>
    have hb : (k == 2) = true := beq_iff_eq.2 h2
    have HT := hid (show workerT22 ⟨k, t, o⟩ = t from if_pos h2)
    have HB := hid (show workerB ⟨k, t, o⟩ = true by unfold workerB; simp [h2])
    clear h2
    go_enter Try.func45, Try.ntmps45
    go_wp2_with fail
    go_ret2
    exact ⟨by rw [HT.out, HB.out]; rfl, below_new (Below.refl _ _) _⟩
  case neg =>
    have hb : (k == 2) = false := beq_eq_false_iff_ne.2 h2
    obtain ⟨kb, hkb⟩ : ∃ b, (k == 4) = b := ⟨_, rfl⟩
    have HT := hid (show workerT22 ⟨k, t, o⟩ = o by unfold workerT22; rw [if_neg h2])
    have HB := hid (show workerB ⟨k, t, o⟩ = kb by unfold workerB; rw [decide_eq_false h2, Bool.false_or, ← hkb]; rfl)
    have hq := blk_new w (.cells #[.int .i64 k, .int .i64 t, .int .i64 o] 78)
    have hbe := below_new (Below.refl w.heap.size w) (.cells #[.int .i64 k, .int .i64 t, .int .i64 o] 78)
    clear h2
    go_enter Try.func45, Try.ntmps45
    go_upto_region 1 with fail
    generalize w.alloc (.cells #[.int .i64 k, .int .i64 t, .int .i64 o] 78) = w1 at hq hbe ⊢
    have s0 : w1.cell? ⟨w.heap.size, 0, none⟩ = some (.int .i64 k) := blk_cell hq 0
    have s2 : w1.cell? ⟨w.heap.size, 2, none⟩ = some (.int .i64 o) := blk_cell hq 2
    have s0d : w1.drew.cell? ⟨w.heap.size, 0, none⟩ = some (.int .i64 k) := s0
    have s2d : w1.drew.cell? ⟨w.heap.size, 2, none⟩ = some (.int .i64 o) := s2
    have HBE := hid hbe
    clear hq hbe
    go_wp2_with fail
    go_region
    all_goals
      go_wp2_with fail
      go_ret2
      exact ⟨by rw [HT.out, HB.out]; rfl, below_drewN' HBE.out 1⟩
set_option maxRecDepth 100000 in
theorem on22_any (j : Jb) (t : Int) : Calls Try.prog 46 #[jbV j, .int .i64 t] w fun e w' => e = .returned (.bool (onB j t)) ∧ Below w.heap.size w w' := by
  obtain ⟨jt, ja, jf, jc, jm⟩ := j
  unfold jbV
  simp only
  obtain ⟨b1, hb1⟩ : ∃ b, decide (ja ≤ t) = b := ⟨_, rfl⟩
  obtain ⟨b2, hb2⟩ : ∃ b, decide (jf = -1) = b := ⟨_, rfl⟩
  obtain ⟨b3, hb3⟩ : ∃ b, decide (t < jf) = b := ⟨_, rfl⟩
  have HO := hid (show onB ⟨jt, ja, jf, jc, jm⟩ t = (b1 && (b2 || b3)) by unfold onB; rw [← hb1, ← hb2, ← hb3])
  have hbe : (jf == -1) = b2 := by rw [← hb2]; rfl
  clear hb2
  cases b1
  case false =>
    have h1 : ¬ ja ≤ t := of_decide_eq_false hb1
    go_enter Try.func46, Try.ntmps46
    go_wp2_with fail
    go_ret
    exact ⟨by rw [HO.out]; rfl, below_new (Below.refl _ _) _⟩
  case true =>
    have h1 : ja ≤ t := of_decide_eq_true hb1
    cases b2
    case true =>
      go_enter Try.func46, Try.ntmps46
      go_wp2_with fail
      go_ret
      exact ⟨by rw [HO.out]; rfl, below_new (Below.refl _ _) _⟩
    case false =>
      cases b3
      case true =>
        have h3 : t < jf := of_decide_eq_true hb3
        go_enter Try.func46, Try.ntmps46
        go_wp2_with fail
        go_ret
        exact ⟨by rw [HO.out]; rfl, below_new (Below.refl _ _) _⟩
      case false =>
        have h3 : ¬ t < jf := of_decide_eq_false hb3
        go_enter Try.func46, Try.ntmps46
        go_wp2_with fail
        go_ret
        exact ⟨by rw [HO.out]; rfl, below_new (Below.refl _ _) _⟩
set_option maxRecDepth 100000 in
set_option maxHeartbeats 3200000 in
theorem active22_any (X : Tr) (sv : Value) (A : Option Addr) (n c : Nat) (task tick : Int) (h : Rowp 5 jbR w (.slice A n c) X.jobs) :
    Calls Try.prog 83 #[trV sv (.slice A n c), .int .i64 task, .int .i64 tick] w fun e w' => e = .returned (.int .i64 (active22 X.jobs task tick)) ∧ Below w.heap.size w w' := by
  have hn := h.len
  have hnm : n ≤ 9223372036854775807 := by have := h.room; unfold maxLen at this; omega
  have HL := hid h
  have HN := hid hn
  have HON := hid (fun W (j : Jb) => on22_any (w := W) j tick)
  unfold jbV at HON
  unfold trV
  have hq := blk_new w (.cells #[sv, .slice A n c] 32)
  have hbe := below_new (Below.refl w.heap.size w) (.cells #[sv, .slice A n c] 32)
  clear h hn
  go_enter Try.func83, Try.ntmps83
  go_upto_region 1 with fail
  generalize w.alloc (.cells #[sv, .slice A n c] 32) = w1 at hq hbe ⊢
  have HQ := hid hq
  have HBE := hid hbe
  clear hq hbe
  go_wp2_with fail
  go_loopw [7] (fun v wr => ∃ k : Nat, k ≤ n ∧ v = .int .i64 k ∧ Hid (∀ (i : Nat) y, i < k → X.jobs[i]? = some y → actB y task tick = false) ∧ Hid (Below w.heap.size w wr) ∧ Hid (wr.heap[w.heap.size]? = some (.cells #[sv, .slice A n c] 32 (0, 0)))) (fun v _ => n - (intOf v).toNat)
  case atStart => exact ⟨0, by omega, rfl, hid (fun i y h => by omega), HBE, HQ⟩
  case round =>
    obtain ⟨k, hk, rfl, HF, HB, HQR⟩ := hrel
    have t1 : wr.cell? ⟨w.heap.size, 1, none⟩ = some (.slice A n c) := blk_cell HQR.out 1
    by_cases hlt : k < n
    case pos =>
      obtain ⟨j, hj⟩ : ∃ j, X.jobs[k]? = some j := ⟨_, List.getElem?_eq_getElem (by have := HN.out; omega)⟩
      obtain ⟨b, o, cs, hA, hbl, _, hc, hr⟩ := (HL.out.later jbR.stays HB.out).at hj
      subst hA
      have hr' : cs = [.int .i64 j.task, .int .i64 j.arr, .int .i64 j.fin, .bool j.cut, .bool j.miss] := hr
      subst hr'
      have HO := hid (HON.out · j)
      have HFN := hid (show actB j task tick = false → ∀ (i : Nat) y, i < k + 1 → X.jobs[i]? = some y → actB y task tick = false from fun h i y hi hy => by
        by_cases e : i = k
        · subst e
          rw [hj] at hy
          injection hy with hy
          rw [← hy]
          exact h
        · exact HF.out i y (by omega) hy)
      have HAS := hid (show actB j task tick = true → activeI X.jobs task tick = some k from fun h => act_some hj h HF.out)
      obtain ⟨ob, hob⟩ : ∃ b, onB j tick = b := ⟨_, rfl⟩
      have HAB := hid (show actB j task tick = (decide (j.task = task) && ob) from by unfold actB; rw [hob])
      rw [hob] at HO
      obtain ⟨jt, ja, jf, jc, jm⟩ := j
      simp only at hc HO HAB
      have e0 : wr.cell? ⟨b, o + k * 5, none⟩ = some (.int .i64 jt) := by simpa using hc 0 _ rfl
      have e1 : wr.cell? ⟨b, o + k * 5 + 1, none⟩ = some (.int .i64 ja) := hc 1 _ rfl
      have e2 : wr.cell? ⟨b, o + k * 5 + 2, none⟩ = some (.int .i64 jf) := hc 2 _ rfl
      have e3 : wr.cell? ⟨b, o + k * 5 + 3, none⟩ = some (.bool jc) := hc 3 _ rfl
      have e4 : wr.cell? ⟨b, o + k * 5 + 4, none⟩ = some (.bool jm) := hc 4 _ rfl
      clear hj hc hr hbl hob
      by_cases ht : jt = task
      case neg =>
        have hb : (jt == task) = false := beq_eq_false_iff_ne.2 ht
        have HFK := hid (HFN.out (by rw [HAB.out, decide_eq_false ht]; rfl))
        clear ht
        go_wp2_with fail
        go_roundw
        case rel => exact ⟨k + 1, by omega, by go_num, HFK, HB, HQR⟩
        case measure => simp [intOf]; omega
      case pos =>
        have hb : (jt == task) = true := beq_iff_eq.2 ht
        have HDT := hid (decide_eq_true ht)
        clear ht
        go_wp2_with fail
        refine (HO.out wr).mono ?_
        rintro e w4 ⟨rfl, hb4⟩
        have HB4 := hid (below_then HB.out hb4)
        have HQ4 := hid ((fr0 hb4).blk HQR.out (fun h => h))
        clear hb4 e0 e1 e2 e3 e4 t1
        cases ob
        case false =>
          have HFK := hid (HFN.out (by rw [HAB.out, Bool.and_false]))
          go_wp2_with fail
          go_roundw
          case rel => exact ⟨k + 1, by omega, by go_num, HFK, HB4, HQ4⟩
          case measure => simp [intOf]; omega
        case true =>
          have HS := hid (show active22 X.jobs task tick = (k : Int) from by unfold active22; rw [HAS.out (by rw [HAB.out, HDT.out]; rfl)]; rfl)
          go_wp2_with fail
          go_ret
          exact ⟨by rw [HS.out]; rfl, HB4.out⟩
    case neg =>
      obtain rfl : k = n := by omega
      have HS := hid (show active22 X.jobs task tick = -1 from by unfold active22; rw [act_none (fun i y hy => HF.out i y (by have := (List.getElem?_eq_some_iff.1 hy).1; have := HN.out; omega) hy)]; rfl)
      go_wp2_with fail
      go_ret
      exact ⟨by rw [HS.out]; rfl, HB.out⟩
end
end Go.Proofs.Ytmhochjpdedlgaa
/- Package tourbillonref22: Work (contract). -/
set_option linter.unusedVariables false
set_option linter.unusedSimpArgs false
namespace Go.Proofs.Ytmhochjpdedlgaa
open Go.RowKit

theorem worksB_snoc (l : List Sl) (s : Sl) (task : Int) : worksB (l ++ [s]) task = (worksB l task || (workerB s && decide (workerT s = task))) := by
  unfold worksB
  rw [List.any_append]
  simp
section
variable {w : World}
set_option maxRecDepth 100000 in
set_option maxHeartbeats 6400000 in
theorem work22_any (X : Tr) (A : Option Addr) (n c : Nat) (A2 : Option Addr) (m c2 : Nat) (job : Int) (h : IsTr w (.slice A n c) (.slice A2 m c2) X) (hn6 : n ≤ 1000000) :
    Calls Try.prog 16 #[trV (.slice A n c) (.slice A2 m c2), .int .i64 job] w fun e w' => ∃ u, e = .returned u ∧ w'.ownsRow w.heap.size 3 1 u (workL X job).length (intCells (workL X job)) ∧ Below w.heap.size w w' := by
  have hn := h.slots.len
  have hm := h.jobs.len
  have hmm : m ≤ 9223372036854775807 := by have := h.jobs.room; unfold maxLen at this; omega
  have HX := hid h
  have HN := hid hn
  have HM := hid hm
  obtain ⟨i1, hi', hy0, hy1, hy2⟩ := info_parts Try.info_int
  unfold trV
  have hq := blk_new w (.cells #[.slice A n c, .slice A2 m c2] 32)
  have hbe := below_new (Below.refl w.heap.size w) (.cells #[.slice A n c, .slice A2 m c2] 32)
  by_cases hneg : job < 0
  case pos =>
    have HW := hid (show workL X job = [] from if_neg (by omega))
    have HB := hid hbe
    clear h hn hm hq hbe
    go_enter Try.func16, Try.ntmps16
    go_wp2_with fail
    go_ret
    exact ⟨_, rfl, by rw [HW.out]; exact World.ownsRow_nil _ _ _ _, HB.out⟩
  case neg =>
    obtain ⟨jn, rfl⟩ : ∃ jn : Nat, job = jn := ⟨job.toNat, by omega⟩
    by_cases hjm : jn < m
    case neg =>
      have HW := hid (show workL X jn = [] from if_neg (by omega))
      have HB := hid hbe
      have hge : (m : Int) ≤ (jn : Int) := by omega
      clear h hn hm
      go_enter Try.func16, Try.ntmps16
      go_upto_region 2 with fail
      generalize w.alloc (.cells #[.slice A n c, .slice A2 m c2] 32) = w1 at hq hbe HB ⊢
      have c1 : w1.cell? ⟨w.heap.size, 1, none⟩ = some (.slice A2 m c2) := blk_cell hq 1
      clear hq hbe
      go_wp2_with fail
      go_ret
      exact ⟨_, rfl, by rw [HW.out]; exact World.ownsRow_nil _ _ _ _, HB.out⟩
    case pos =>
      obtain ⟨j, hj⟩ : ∃ j, X.jobs[jn]? = some j := ⟨_, List.getElem?_eq_getElem (by omega)⟩
      have HW := hid (show workL X jn = workN X j n from by
        unfold workL
        rw [if_pos (by omega), show ((jn : Int)).toNat = jn by omega, hj, hn]
        rfl)
      obtain ⟨b, o, cs, hA, hbl, _, hc, hr⟩ := h.jobs.at hj
      subst hA
      have hr' : cs = [.int .i64 j.task, .int .i64 j.arr, .int .i64 j.fin, .bool j.cut, .bool j.miss] := hr
      subst hr'
      have HON := hid (fun W (t : Int) => on22_any (w := W) j t)
      have HWS := hid (workN_succ X j)
      obtain ⟨wn, hwn⟩ : ∃ f, workN X j = f := ⟨_, rfl⟩
      have HWN0 := hid (show wn 0 = [] from by rw [← hwn]; rfl)
      have HWNL := hid (show ∀ k, (wn k).length ≤ k from fun k => by rw [← hwn]; unfold workN; rw [List.length_map]; exact Nat.le_trans (List.length_filter_le _ _) (by simp))
      rw [hwn] at HWS HW
      obtain ⟨onf, honf⟩ : ∃ f, (fun t => onB j t) = f := ⟨_, rfl⟩
      have honf2 : ∀ t, onB j t = onf t := fun t => by rw [← honf]
      simp only [honf2] at HON HWS
      obtain ⟨jt, ja, jf, jc, jm⟩ := j
      unfold jbV at HON
      simp only at hc HON HWS
      have e0 : ∀ W, Below w.heap.size w W → W.cell? ⟨b, o + jn * 5, none⟩ = some (.int .i64 jt) := fun W k => (k.cell (p := ⟨b, o + jn * 5, none⟩) hbl).trans (by simpa using hc 0 _ rfl)
      have e1 : ∀ W, Below w.heap.size w W → W.cell? ⟨b, o + jn * 5 + 1, none⟩ = some (.int .i64 ja) := fun W k => (k.cell (p := ⟨b, o + jn * 5 + 1, none⟩) hbl).trans (hc 1 _ rfl)
      have e2 : ∀ W, Below w.heap.size w W → W.cell? ⟨b, o + jn * 5 + 2, none⟩ = some (.int .i64 jf) := fun W k => (k.cell (p := ⟨b, o + jn * 5 + 2, none⟩) hbl).trans (hc 2 _ rfl)
      have e3 : ∀ W, Below w.heap.size w W → W.cell? ⟨b, o + jn * 5 + 3, none⟩ = some (.bool jc) := fun W k => (k.cell (p := ⟨b, o + jn * 5 + 3, none⟩) hbl).trans (hc 3 _ rfl)
      have e4 : ∀ W, Below w.heap.size w W → W.cell? ⟨b, o + jn * 5 + 4, none⟩ = some (.bool jm) := fun W k => (k.cell (p := ⟨b, o + jn * 5 + 4, none⟩) hbl).trans (hc 4 _ rfl)
      clear h hn hm hj hc hr hbl hwn honf honf2
      go_enter Try.func16, Try.ntmps16
      go_upto_region 2 with fail
      generalize w.alloc (.cells #[.slice A n c, .slice (some ⟨b, o, none⟩) m c2] 32) = w1 at hq hbe ⊢
      have c1 : w1.cell? ⟨w.heap.size, 1, none⟩ = some (.slice (some ⟨b, o, none⟩) m c2) := blk_cell hq 1
      replace e0 := e0 w1 hbe
      replace e1 := e1 w1 hbe
      replace e2 := e2 w1 hbe
      replace e3 := e3 w1 hbe
      replace e4 := e4 w1 hbe
      have hq6 := blk_new w1 (.cells #[.int .i64 jt, .int .i64 ja, .int .i64 jf, .bool jc, .bool jm] 45)
      have hq2 := blk_old hq (.cells #[.int .i64 jt, .int .i64 ja, .int .i64 jf, .bool jc, .bool jm] 45)
      have hbe2 := below_new hbe (.cells #[.int .i64 jt, .int .i64 ja, .int .i64 jf, .bool jc, .bool jm] 45)
      have hsz := blk_lt hq
      clear hq hbe
      go_upto_region 5 with fail
      obtain ⟨D, hD⟩ : ∃ D, D = w1.heap.size := ⟨_, rfl⟩
      rw [← hD] at hq6 hsz ⊢
      generalize w1.alloc (.cells #[.int .i64 jt, .int .i64 ja, .int .i64 jf, .bool jc, .bool jm] 45) = w2 at hq6 hq2 hbe2 ⊢
      have HQ := hid (⟨hq2, hq6⟩ : _ ∧ _)
      have HB := hid hbe2
      have HDS := hid hsz
      have HDL := hid (blk_lt hq6)
      clear hq2 hq6 hbe2 hsz hD e0 e1 e2 e3 e4 c1
      go_wp2_with fail
      go_loopw [5, 7] (fun u v wr => ∃ k : Nat, k ≤ n ∧ v = .int .i64 k ∧ Hid (wr.ownsRow (D + 1) 3 1 u (wn k).length (intCells (wn k))) ∧ Hid (Below w.heap.size w wr) ∧ Hid (wr.heap[w.heap.size]? = some (.cells #[.slice A n c, .slice (some ⟨b, o, none⟩) m c2] 32 (0, 0)) ∧ wr.heap[D]? = some (.cells #[.int .i64 jt, .int .i64 ja, .int .i64 jf, .bool jc, .bool jm] 45 (0, 0)))) (fun _ v _ => n - (intOf v).toNat)
      case atStart => exact ⟨0, by omega, rfl, hid (by rw [HWN0.out]; exact World.ownsRow_nil _ _ _ _), HB, HQ⟩
      case round =>
        obtain ⟨k, hk, rfl, HO, HBR, HQR⟩ := hrel
        have t0 : wr.cell? ⟨w.heap.size, 0, none⟩ = some (.slice A n c) := blk_cell HQR.out.1 0
        by_cases hlt : k < n
        case pos =>
          obtain ⟨sl, hsl⟩ : ∃ sl, X.slots[k]? = some sl := ⟨_, List.getElem?_eq_getElem (by have := HN.out; omega)⟩
          obtain ⟨b3, o3, cs3, hA3, hbl3, _, hc3, u3, hr3, hru3⟩ := (HX.out.slots.later (RowR.stays slR.stays) HBR.out).at hsl
          subst hA3
          subst hr3
          obtain ⟨A4, c4, hu4, hr4⟩ := hru3.shape
          obtain ⟨n4, hn4⟩ : ∃ n4, sl.length = n4 := ⟨_, rfl⟩
          rw [hn4] at hu4 hr4
          subst hu4
          have hn4m : n4 ≤ 9223372036854775807 := by unfold maxLen at hr4; omega
          have HN4 := hid hn4
          have HRU := hid hru3
          have HWSK := hid (HWS.out k)
          have hsl2 : (X.slots[k]?).getD [] = sl := by rw [hsl]; rfl
          rw [hsl2] at HWSK
          have HC3 := hid (fun W (q : Below wr.heap.size wr W) => (q.cell (p := ⟨b3, o3 + k, none⟩) hbl3).trans (show wr.cell? ⟨b3, o3 + k, none⟩ = some (.slice A4 n4 c4) from by simpa using hc3 0 _ rfl))
          obtain ⟨ws, hws⟩ : ∃ ws, ws = wr := ⟨_, rfl⟩
          subst hws
          clear hsl hc3 hru3 hn4 hbl3 hr4 hsl2
          go_wp2_with fail
          clear t0
          go_loopw [8, 9] (fun u v wr => ∃ i : Nat, i ≤ n4 ∧ v = .int .i64 i ∧ u = .bool (worksB (sl.take i) jt) ∧ Hid (Below ws.heap.size ws wr)) (fun _ v _ => n4 - (intOf v).toNat)
          case atStart => exact ⟨0, by omega, rfl, rfl, hid (Below.refl _ _)⟩
          case round =>
            obtain ⟨i, hi4, rfl, rfl, HBI⟩ := hrel
            have hqi := (fr0 HBI.out).blk HQR.out.1 (fun h => h)
            have hqj := (fr0 HBI.out).blk HQR.out.2 (fun h => h)
            have t0 : wr.cell? ⟨w.heap.size, 0, none⟩ = some (.slice (some ⟨b3, o3, none⟩) n c) := blk_cell hqi 0
            have t3 := HC3.out wr HBI.out
            obtain ⟨pb, hpb⟩ : ∃ v, worksB (sl.take i) jt = v := ⟨_, rfl⟩
            by_cases hil : i < n4
            case pos =>
              obtain ⟨s, hs⟩ : ∃ s, sl[i]? = some s := ⟨_, List.getElem?_eq_getElem (by have := HN4.out; omega)⟩
              have HSN := hid (show worksB (sl.take (i + 1)) jt = (pb || (workerB s && decide (workerT s = jt))) from by rw [take_next hs, worksB_snoc, hpb])
              have HTE := hid (fun (h : workerB s = true) => workerT22_eq h)
              obtain ⟨b5, o5, cs5, hA5, hbl5, _, hc5, hr5⟩ := (HRU.out.later slR.stays HBI.out).at hs
              subst hA5
              have hr5' : cs5 = [.int .i64 s.kind, .int .i64 s.task, .int .i64 s.oth] := hr5
              subst hr5'
              have HWK := hid (worker22_any (w := wr) s)
              obtain ⟨wt, hwt⟩ : ∃ v, workerT22 s = v := ⟨_, rfl⟩
              obtain ⟨wb, hwb⟩ : ∃ v, workerB s = v := ⟨_, rfl⟩
              rw [hwt, hwb] at HWK
              rw [hwb] at HSN HTE
              rw [hwt] at HTE
              obtain ⟨wt2, hwt2⟩ : ∃ v, workerT s = v := ⟨_, rfl⟩
              rw [hwt2] at HSN HTE
              obtain ⟨sk, st, so⟩ := s
              unfold slV at HWK
              simp only at HWK hc5
              have f0 : wr.cell? ⟨b5, o5 + i * 3, none⟩ = some (.int .i64 sk) := by simpa using hc5 0 _ rfl
              have f1 : wr.cell? ⟨b5, o5 + i * 3 + 1, none⟩ = some (.int .i64 st) := hc5 1 _ rfl
              have f2 : wr.cell? ⟨b5, o5 + i * 3 + 2, none⟩ = some (.int .i64 so) := hc5 2 _ rfl
              have HQJ := hid hqj
              rw [hpb]
              clear hs hc5 hr5 hbl5 hwt hwb hwt2 hpb hqi hqj
              go_wp2_with fail
              refine HWK.out.mono ?_
              rintro e w4 ⟨rfl, hb4⟩
              have HB4 := hid (below_then HBI.out hb4)
              have j0 : w4.cell? ⟨D, 0, none⟩ = some (.int .i64 jt) := blk_cell ((fr0 hb4).blk HQJ.out (fun h => h)) 0
              clear hb4 t0 t3 f0 f1 f2
              cases pb
              case true =>
                have HE := hid (show worksB (sl.take (i + 1)) jt = true from by rw [HSN.out]; rfl)
                go_wp2_with fail
                go_roundw
                case rel => exact ⟨i + 1, by omega, by go_num, by rw [HE.out], HB4⟩
                case measure => simp [intOf]; omega
              case false =>
                cases wb
                case false =>
                  have HE := hid (show worksB (sl.take (i + 1)) jt = false from by rw [HSN.out]; rfl)
                  go_wp2_with fail
                  go_roundw
                  case rel => exact ⟨i + 1, by omega, by go_num, by rw [HE.out], HB4⟩
                  case measure => simp [intOf]; omega
                case true =>
                  have hte := HTE.out rfl
                  obtain ⟨eq, heq⟩ : ∃ v, (wt == jt) = v := ⟨_, rfl⟩
                  have HE := hid (show worksB (sl.take (i + 1)) jt = eq from by rw [HSN.out, ← hte, ← heq]; rfl)
                  clear hte
                  go_wp2_with fail
                  go_roundw
                  case rel => exact ⟨i + 1, by omega, by go_num, by rw [HE.out], HB4⟩
                  case measure => simp [intOf]; omega
            case neg =>
              obtain rfl : i = n4 := by omega
              have hpb2 : worksB sl jt = pb := by rw [← hpb, List.take_of_length_le (by rw [HN4.out]; exact Nat.le_refl _)]
              rw [hpb2] at HWSK
              rw [hpb]
              have HBW := hid (below_then HBR.out HBI.out)
              have hown := own_kept HO.out (fr0 HBI.out) (fun _ _ h => h)
              have HOW := hid hown
              have HQI := hid (⟨hqi, hqj⟩ : _ ∧ _)
              have hwl := HWNL.out k
              cases pb
              case false =>
                have HE := hid (show wn (k + 1) = wn k from by rw [HWSK.out, Bool.and_false]; simp)
                clear hpb hpb2 hqi hqj hown
                go_wp2_with fail
                go_roundw
                case rel => exact ⟨k + 1, by omega, by go_num, hid (by rw [HE.out]; exact HOW.out), HBW, HQI⟩
                case measure => simp [intOf]; omega
              case true =>
                have j0 : wr.cell? ⟨D, 0, none⟩ = some (.int .i64 jt) := blk_cell hqj 0
                have j1 : wr.cell? ⟨D, 1, none⟩ = some (.int .i64 ja) := blk_cell hqj 1
                have j2 : wr.cell? ⟨D, 2, none⟩ = some (.int .i64 jf) := blk_cell hqj 2
                have j3 : wr.cell? ⟨D, 3, none⟩ = some (.bool jc) := blk_cell hqj 3
                have j4 : wr.cell? ⟨D, 4, none⟩ = some (.bool jm) := blk_cell hqj 4
                clear hpb hpb2 hqi hqj hown
                go_wp2_with fail
                refine (HON.out wr k).mono ?_
                rintro e w5 ⟨rfl, hb5⟩
                have HB5 := hid (below_then HBW.out hb5)
                have hq5 := (fr0 hb5).blk HQI.out.1 (fun h => h)
                have hq6 := (fr0 hb5).blk HQI.out.2 (fun h => h)
                have HQ5 := hid (⟨hq5, hq6⟩ : _ ∧ _)
                have hown := own_kept HOW.out (fr0 hb5) (fun _ _ h => h)
                obtain ⟨ob, hob⟩ : ∃ v, onf k = v := ⟨_, rfl⟩
                rw [hob] at HWSK ⊢
                obtain ⟨L, hL⟩ : ∃ L, wn k = L := ⟨_, rfl⟩
                rw [hL] at hown HWSK hwl
                obtain ⟨Au, cu, rfl⟩ := own_slice hown
                obtain ⟨ln, hln⟩ : ∃ ln, L.length = ln := ⟨_, rfl⟩
                rw [hln] at hown hwl ⊢
                have HLN := hid hln
                have HOWN := hid hown
                have hsz3 : D + 1 ≤ w5.heap.size := blk_lt hq6
                clear hb5 hq5 hq6 j0 j1 j2 j3 j4 hob hL hown hln
                cases ob
                case false =>
                  have HE := hid (show wn (k + 1) = L from by rw [HWSK.out]; simp)
                  go_wp2_with fail
                  go_roundw
                  case rel => exact ⟨k + 1, by omega, by go_num, hid (by rw [HE.out, HLN.out]; exact HOWN.out), HB5, HQ5⟩
                  case measure => simp [intOf]; omega
                case true =>
                  have HE := hid (show wn (k + 1) = L ++ [(k : Int)] from by rw [HWSK.out]; simp)
                  go_wp2_with (at_builtin; refine append_new rfl _ _ 39 rfl (D + 1) 3 i1 _ 1 8 Try.underlying39 hi' hy0 hy1 hy2 rfl (by decide) #[.int .i64 k] (.slice Au ln cu) ln (intCells L) rfl _ rfl rfl HOWN.out rfl (one_one _) (by unfold maxLen; omega) (by omega) hsz3 ?_; intro v' w6 ho hf hv; obtain ⟨A', c', rfl⟩ := own_slice ho; have HO6 := hid ho; have HF6 := hid hf; clear ho hf hv)
                  have HO7 := hid (show w6.ownsRow (D + 1) 3 1 (.slice A' (ln + 1) c') (wn (k + 1)).length (intCells (wn (k + 1))) from by
                    rw [HE.out, List.length_append, HLN.out]
                    have : intCells (L ++ [(k : Int)]) = intCells L ++ [.int .i64 k] := by simp [intCells]
                    rw [this]
                    exact HO6.out)
                  have hge : ∀ x, (Value.slice Au ln cu).ownBlock = some x → D + 1 ≤ x := fun x hx => (HOWN.out.lt x hx).1
                  have hds := HDS.out
                  have HB7 := hid (((Fr.of_below (S := NoB) HB5.out).trans HF6.out (fun x hx => .inr (by have := hge x hx; omega))).no)
                  have HQ7 := hid (⟨HF6.out.blk HQ5.out.1 (fun hx => by have := hge _ hx; omega), HF6.out.blk HQ5.out.2 (fun hx => by have := hge _ hx; omega)⟩ : _ ∧ _)
                  clear hge hds
                  go_roundw
                  case rel => exact ⟨k + 1, by omega, by go_num, HO7, HB7, HQ7⟩
                  case measure => simp [intOf]; omega
        case neg =>
          obtain rfl : k = n := by omega
          have HO6 := hid (show wr.ownsRow w.heap.size 3 1 u5 (workL X jn).length (intCells (workL X jn)) from by rw [HW.out]; exact own_mono HO.out (by have := HDS.out; omega))
          obtain ⟨Au, cu, hu⟩ := own_slice HO.out
          subst hu
          go_wp2_with fail
          go_ret
          exact ⟨_, rfl, HO6.out, HBR.out⟩
end
end Go.Proofs.Ytmhochjpdedlgaa
/- Package tourbillonref22: shape (contract). -/
set_option linter.unusedVariables false
set_option linter.unusedSimpArgs false
namespace Go.Proofs.Ytmhochjpdedlgaa
open Go.RowKit

section
variable {w : World}
set_option maxRecDepth 100000 in
set_option maxHeartbeats 6400000 in
theorem shape22_any (S : Sy) (At : Option Addr) (nt ct : Nat) (ev cv : Value) (s : Sl) (hnt : nt ≤ 9223372036854775807) :
    Calls Try.prog 81 #[tabV S (.slice At nt ct) ev cv, slV s] w fun e w' => e = .returned (.bool (shapeB nt s)) ∧ Below w.heap.size w w' := by
  obtain ⟨k, t, o⟩ := s
  unfold slV tabV tabC
  simp only
  have hq0 := blk_old (blk_new w (.cells #[.int .i64 S.cores, .int .i64 S.policy, .int .i64 S.prot, .int .i64 S.rel, .int .i64 S.sw, .int .i64 S.fin, .int .i64 S.lat, .int .i64 S.resn, .slice At nt ct, ev, cv] 28)) (.cells #[.int .i64 k, .int .i64 t, .int .i64 o] 78)
  have hq1 := blk_new (w.alloc (.cells #[.int .i64 S.cores, .int .i64 S.policy, .int .i64 S.prot, .int .i64 S.rel, .int .i64 S.sw, .int .i64 S.fin, .int .i64 S.lat, .int .i64 S.resn, .slice At nt ct, ev, cv] 28)) (.cells #[.int .i64 k, .int .i64 t, .int .i64 o] 78)
  have hbe := below_new (below_new (Below.refl w.heap.size w) (.cells #[.int .i64 S.cores, .int .i64 S.policy, .int .i64 S.prot, .int .i64 S.rel, .int .i64 S.sw, .int .i64 S.fin, .int .i64 S.lat, .int .i64 S.resn, .slice At nt ct, ev, cv] 28)) (.cells #[.int .i64 k, .int .i64 t, .int .i64 o] 78)
  have hsz : ∀ o, (w.alloc o).heap.size = w.heap.size + 1 := fun o => by simp
  rw [hsz] at hq1
  clear hsz
  go_enter Try.func81, Try.ntmps81
  go_upto_region 1 with fail
  generalize (w.alloc (.cells #[.int .i64 S.cores, .int .i64 S.policy, .int .i64 S.prot, .int .i64 S.rel, .int .i64 S.sw, .int .i64 S.fin, .int .i64 S.lat, .int .i64 S.resn, .slice At nt ct, ev, cv] 28)).alloc (.cells #[.int .i64 k, .int .i64 t, .int .i64 o] 78) = w1 at hq0 hq1 hbe ⊢
  have s8 : w1.cell? ⟨w.heap.size, 8, none⟩ = some (.slice At nt ct) := blk_cell hq0 8
  have s0 : w1.cell? ⟨w.heap.size + 1, 0, none⟩ = some (.int .i64 k) := blk_cell hq1 0
  have s1 : w1.cell? ⟨w.heap.size + 1, 1, none⟩ = some (.int .i64 t) := blk_cell hq1 1
  have s2 : w1.cell? ⟨w.heap.size + 1, 2, none⟩ = some (.int .i64 o) := blk_cell hq1 2
  have HB := hid hbe
  clear hq0 hq1 hbe
  -- the two tests ahead
  go_upto_region 2 with fail
  go_cut [6] (fun v wx => v = .bool (inT nt t) ∧ w1 = wx)
  case first =>
    by_cases h1 : 0 ≤ t
    case pos =>
      by_cases h2 : t < nt
      case pos =>
        have HI := hid (show inT nt t = true by unfold inT; rw [decide_eq_true h1, decide_eq_true h2]; rfl)
        go_wp2_with fail
        go_meet
        exact ⟨by rw [HI.out], rfl⟩
      case neg =>
        have HI := hid (show inT nt t = false by unfold inT; rw [decide_eq_true h1, decide_eq_false h2]; rfl)
        go_wp2_with fail
        go_meet
        exact ⟨by rw [HI.out], rfl⟩
    case neg =>
      have HI := hid (show inT nt t = false by unfold inT; rw [decide_eq_false h1]; rfl)
      have h1' : t < 0 := by omega
      go_wp2_with fail
      go_meet
      exact ⟨by rw [HI.out], rfl⟩
  obtain ⟨rfl, rfl⟩ := hcut
  go_upto_region 3 with fail
  go_cut [7] (fun v wx => v = .bool (inT nt o) ∧ w1 = wx)
  case first =>
    by_cases h1 : 0 ≤ o
    case pos =>
      by_cases h2 : o < nt
      case pos =>
        have HI := hid (show inT nt o = true by unfold inT; rw [decide_eq_true h1, decide_eq_true h2]; rfl)
        go_wp2_with fail
        go_meet
        exact ⟨by rw [HI.out], rfl⟩
      case neg =>
        have HI := hid (show inT nt o = false by unfold inT; rw [decide_eq_true h1, decide_eq_false h2]; rfl)
        go_wp2_with fail
        go_meet
        exact ⟨by rw [HI.out], rfl⟩
    case neg =>
      have HI := hid (show inT nt o = false by unfold inT; rw [decide_eq_false h1]; rfl)
      have h1' : o < 0 := by omega
      go_wp2_with fail
      go_meet
      exact ⟨by rw [HI.out], rfl⟩
  obtain ⟨rfl, rfl⟩ := hcut
  obtain ⟨bt, hbt⟩ : ∃ b, decide (t = 0) = b := ⟨_, rfl⟩
  obtain ⟨bo, hbo⟩ : ∃ b, decide (o = 0) = b := ⟨_, rfl⟩
  obtain ⟨it, hit⟩ : ∃ b, inT nt t = b := ⟨_, rfl⟩
  obtain ⟨io, hio⟩ : ∃ b, inT nt o = b := ⟨_, rfl⟩
  have HS := hid (show shapeB nt ⟨k, t, o⟩ = (if k = 0 ∨ k = 1 then bt && bo else if k = 2 then it && bo else if k = 3 ∨ k = 4 then it && io else false) by unfold shapeB; rw [← hbt, ← hbo, ← hit, ← hio])
  have hte : (t == 0) = bt := by rw [← hbt]; rfl
  have hoe : (o == 0) = bo := by rw [← hbo]; rfl
  rw [hit, hio]
  clear hbt hbo hit hio
  by_cases h0 : k = 0
  case pos =>
    have hb : (k == 0) = true := beq_iff_eq.2 h0
    have HF := hid (show shapeB nt ⟨k, t, o⟩ = (bt && bo) from by rw [HS.out, if_pos (.inl h0)])
    clear h0
    cases bt <;> cases bo
    all_goals
      go_wp2_with fail
      go_ret
      exact ⟨by rw [HF.out]; rfl, HB.out⟩
  case neg =>
    have hb0 : (k == 0) = false := beq_eq_false_iff_ne.2 h0
    by_cases h1 : k = 1
    case pos =>
      have hb : (k == 1) = true := beq_iff_eq.2 h1
      have HF := hid (show shapeB nt ⟨k, t, o⟩ = (bt && bo) from by rw [HS.out, if_pos (.inr h1)])
      clear h0 h1
      cases bt <;> cases bo
      all_goals
        go_wp2_with fail
        go_ret
        exact ⟨by rw [HF.out]; rfl, HB.out⟩
    case neg =>
      have hb1 : (k == 1) = false := beq_eq_false_iff_ne.2 h1
      by_cases h2 : k = 2
      case pos =>
        have hb : (k == 2) = true := beq_iff_eq.2 h2
        have HF := hid (show shapeB nt ⟨k, t, o⟩ = (it && bo) from by rw [HS.out, if_neg (fun h => h.elim h0 h1), if_pos h2])
        clear h0 h1 h2
        cases it <;> cases bo
        all_goals
          go_wp2_with fail
          go_ret
          exact ⟨by rw [HF.out]; rfl, HB.out⟩
      case neg =>
        have hb2 : (k == 2) = false := beq_eq_false_iff_ne.2 h2
        by_cases h34 : k = 3 ∨ k = 4
        case pos =>
          have HF := hid (show shapeB nt ⟨k, t, o⟩ = (it && io) from by rw [HS.out, if_neg (fun h => h.elim h0 h1), if_neg h2, if_pos h34])
          rcases h34 with h3 | h3
          · have hb3 : (k == 3) = true := beq_iff_eq.2 h3
            clear h0 h1 h2 h3
            cases it <;> cases io
            all_goals
              go_wp2_with fail
              go_ret
              exact ⟨by rw [HF.out]; rfl, HB.out⟩
          · have hb3 : (k == 3) = false := beq_eq_false_iff_ne.2 (by omega)
            have hb4 : (k == 4) = true := beq_iff_eq.2 h3
            clear h0 h1 h2 h3
            cases it <;> cases io
            all_goals
              go_wp2_with fail
              go_ret
              exact ⟨by rw [HF.out]; rfl, HB.out⟩
        case neg =>
          have hb3 : (k == 3) = false := beq_eq_false_iff_ne.2 (fun h => h34 (.inl h))
          have hb4 : (k == 4) = false := beq_eq_false_iff_ne.2 (fun h => h34 (.inr h))
          have HF := hid (show shapeB nt ⟨k, t, o⟩ = false from by rw [HS.out, if_neg (fun h => h.elim h0 h1), if_neg h2, if_neg h34])
          clear h0 h1 h2 h34
          go_wp2_with fail
          go_ret
          exact ⟨by rw [HF.out]; rfl, HB.out⟩
end
end Go.Proofs.Ytmhochjpdedlgaa
/- Package tourbillonref22: once (contract). -/
set_option linter.unusedVariables false
set_option linter.unusedSimpArgs false
namespace Go.Proofs.Ytmhochjpdedlgaa
open Go.RowKit

section
variable {w : World}
set_option maxRecDepth 100000 in
set_option maxHeartbeats 6400000 in
theorem once22_any (X : Tr) (A : Option Addr) (n cp : Nat) (A2 : Option Addr) (m c2 : Nat) (tick c : Nat) (l : List Sl) (h : IsTr w (.slice A n cp) (.slice A2 m c2) X) (hl : X.slots[tick]? = some l) (hc : c < l.length) :
    Calls Try.prog 40 #[trV (.slice A n cp) (.slice A2 m c2), .int .i64 tick, .int .i64 c] w fun e w' => e = .returned (.bool (onceB l X.jobs tick c)) ∧ Below w.heap.size w w' := by
  have hn := h.slots.len
  have hm := h.jobs.len
  have htn : tick < n := by have := (List.getElem?_eq_some_iff.1 hl).1; omega
  have hnm : n ≤ 9223372036854775807 := by have := h.slots.room; unfold maxLen at this; omega
  have hmm : m ≤ 9223372036854775807 := by have := h.jobs.room; unfold maxLen at this; omega
  obtain ⟨b, o, cs, hA, hbl, _, hcs, u, hr, hru⟩ := h.slots.at hl
  subst hA
  subst hr
  obtain ⟨A4, c4, hu4, hr4⟩ := hru.shape
  obtain ⟨n4, hn4⟩ : ∃ n4, l.length = n4 := ⟨_, rfl⟩
  rw [hn4] at hu4 hc hr4
  subst hu4
  have hn4m : n4 ≤ 9223372036854775807 := by unfold maxLen at hr4; omega
  obtain ⟨s, hs⟩ : ∃ s, l[c]? = some s := ⟨_, List.getElem?_eq_getElem (by omega)⟩
  have HN4 := hid hn4
  have HM := hid hm
  have HRU := hid hru
  have HJ := hid h.jobs
  have HWK := hid (fun W (s : Sl) => worker22_any (w := W) s)
  have HON := hid (fun W (j : Jb) => on22_any (w := W) j tick)
  unfold slV at HWK
  unfold jbV at HON
  have HO := hid (show onceB l X.jobs tick c = (!workerB s || ((activeI X.jobs (workerT s) tick).isSome && !worksB (l.take c) (workerT s))) from by unfold onceB; rw [hs]; rfl)
  have HTE := hid (fun (h : workerB s = true) => workerT22_eq h)
  have HC3 := hid (fun W (q : Below w.heap.size w W) => (q.cell (p := ⟨b, o + tick, none⟩) hbl).trans (show w.cell? ⟨b, o + tick, none⟩ = some (.slice A4 n4 c4) from by simpa using hcs 0 _ rfl))
  have HSA := hid (fun W (q : Below w.heap.size w W) (i : Nat) (s : Sl) (hs : l[i]? = some s) => (hru.later slR.stays q).at hs)
  have HS := hid hs
  unfold trV
  have hq := blk_new w (.cells #[.slice (some ⟨b, o, none⟩) n cp, .slice A2 m c2] 32)
  have hbe := below_new (Below.refl w.heap.size w) (.cells #[.slice (some ⟨b, o, none⟩) n cp, .slice A2 m c2] 32)
  clear h hl hru hs hcs hbl hn hm hn4 hr4
  go_enter Try.func40, Try.ntmps40
  go_upto_region 1 with fail
  generalize w.alloc (.cells #[.slice (some ⟨b, o, none⟩) n cp, .slice A2 m c2] 32) = w1 at hq hbe ⊢
  have HQ := hid hq
  have HB := hid hbe
  have t0 : w1.cell? ⟨w.heap.size, 0, none⟩ = some (.slice (some ⟨b, o, none⟩) n cp) := blk_cell hq 0
  have t3 := HC3.out w1 hbe
  obtain ⟨b5, o5, cs5, hA5, hbl5, _, hc5, hr5⟩ := HSA.out w1 hbe c s HS.out
  subst hA5
  have hr5' : cs5 = [.int .i64 s.kind, .int .i64 s.task, .int .i64 s.oth] := hr5
  subst hr5'
  obtain ⟨wt, hwt⟩ : ∃ v, workerT22 s = v := ⟨_, rfl⟩
  obtain ⟨wb, hwb⟩ : ∃ v, workerB s = v := ⟨_, rfl⟩
  have HW1 := hid (HWK.out w1 s)
  rw [hwt, hwb] at HW1
  rw [hwb] at HO
  rw [hwt, hwb] at HTE
  obtain ⟨sk, st, so⟩ := s
  simp only at HW1 hc5
  have f0 : w1.cell? ⟨b5, o5 + c * 3, none⟩ = some (.int .i64 sk) := by simpa using hc5 0 _ rfl
  have f1 : w1.cell? ⟨b5, o5 + c * 3 + 1, none⟩ = some (.int .i64 st) := hc5 1 _ rfl
  have f2 : w1.cell? ⟨b5, o5 + c * 3 + 2, none⟩ = some (.int .i64 so) := hc5 2 _ rfl
  clear hq hbe hbl5 hc5 hr5 hwt hwb
  go_wp2_with fail
  refine HW1.out.mono ?_
  rintro e w2 ⟨rfl, hb2⟩
  have HB2 := hid (below_then HB.out hb2)
  have HQ2 := hid ((fr0 hb2).blk HQ.out (fun h => h))
  clear hb2 t0 t3 f0 f1 f2
  cases wb
  case false =>
    go_wp2_with fail
    go_ret
    exact ⟨by rw [HO.out]; rfl, HB2.out⟩
  case true =>
    have hte := HTE.out rfl
    have HO2 := hid (show onceB l X.jobs tick c = ((activeI X.jobs wt tick).isSome && !worksB (l.take c) wt) from by rw [HO.out, ← hte]; rfl)
    clear hte
    go_wp2_with fail
    go_loopw [9] (fun v wr => ∃ k : Nat, k ≤ c ∧ v = .int .i64 k ∧ Hid (worksB (l.take k) wt = false) ∧ Hid (Below w.heap.size w wr) ∧ Hid (wr.heap[w.heap.size]? = some (.cells #[.slice (some ⟨b, o, none⟩) n cp, .slice A2 m c2] 32 (0, 0)))) (fun v _ => c - (intOf v).toNat)
    case atStart => exact ⟨0, by omega, rfl, hid rfl, HB2, HQ2⟩
    case round =>
      obtain ⟨k, hk, rfl, HF, HBR, HQR⟩ := hrel
      by_cases hlt : k < c
      case pos =>
        obtain ⟨s, hs⟩ : ∃ s, l[k]? = some s := ⟨_, List.getElem?_eq_getElem (by have := HN4.out; omega)⟩
        have hk4 : k < n4 := by omega
        have HSN := hid (show worksB (l.take (k + 1)) wt = (workerB s && decide (workerT s = wt)) from by rw [take_next hs, worksB_snoc, HF.out]; rfl)
        have HBAD := hid (show (workerB s && decide (workerT s = wt)) = true → worksB (l.take c) wt = true from fun h2 => by
          unfold worksB
          refine List.any_eq_true.2 ⟨s, ?_, h2⟩
          exact List.mem_of_getElem? (i := k) (by rw [List.getElem?_take_of_lt hlt]; exact hs))
        have HT2 := hid (fun (h : workerB s = true) => workerT22_eq h)
        have t0 : wr.cell? ⟨w.heap.size, 0, none⟩ = some (.slice (some ⟨b, o, none⟩) n cp) := blk_cell HQR.out 0
        have t3 := HC3.out wr HBR.out
        obtain ⟨b6, o6, cs6, hA6, hbl6, _, hc6, hr6⟩ := HSA.out wr HBR.out k s hs
        injection hA6 with hA6
        injection hA6 with e6 e7
        subst e6
        subst e7
        have hr6' : cs6 = [.int .i64 s.kind, .int .i64 s.task, .int .i64 s.oth] := hr6
        subst hr6'
        obtain ⟨vt, hvt⟩ : ∃ v, workerT22 s = v := ⟨_, rfl⟩
        obtain ⟨vb, hvb⟩ : ∃ v, workerB s = v := ⟨_, rfl⟩
        have HW2 := hid (HWK.out wr s)
        rw [hvt, hvb] at HW2 HT2
        rw [hvb] at HSN HBAD
        obtain ⟨vt2, hvt2⟩ : ∃ v, workerT s = v := ⟨_, rfl⟩
        rw [hvt2] at HSN HBAD HT2
        obtain ⟨xk, xt, xo⟩ := s
        simp only at HW2 hc6
        have f0 : wr.cell? ⟨b5, o5 + k * 3, none⟩ = some (.int .i64 xk) := by simpa using hc6 0 _ rfl
        have f1 : wr.cell? ⟨b5, o5 + k * 3 + 1, none⟩ = some (.int .i64 xt) := hc6 1 _ rfl
        have f2 : wr.cell? ⟨b5, o5 + k * 3 + 2, none⟩ = some (.int .i64 xo) := hc6 2 _ rfl
        clear hs hbl6 hc6 hr6 hvt hvb hvt2
        go_wp2_with fail
        refine HW2.out.mono ?_
        rintro e w3 ⟨rfl, hb3⟩
        have HB3 := hid (below_then HBR.out hb3)
        have HQ3 := hid ((fr0 hb3).blk HQR.out (fun h => h))
        clear hb3 t0 t3 f0 f1 f2
        cases vb
        case false =>
          have HE := hid (show worksB (l.take (k + 1)) wt = false from HSN.out)
          go_wp2_with fail
          go_roundw
          case rel => exact ⟨k + 1, by omega, by go_num, HE, HB3, HQ3⟩
          case measure => simp [intOf]; omega
        case true =>
          have hvv := HT2.out rfl
          by_cases hv : vt = wt
          case pos =>
            have hb : (vt == wt) = true := beq_iff_eq.2 hv
            have HE := hid (show onceB l X.jobs tick c = false from by rw [HO2.out, HBAD.out (by rw [← hvv, hv]; simp)]; simp)
            clear hv hvv
            go_wp2_with fail
            go_ret
            exact ⟨by rw [HE.out]; rfl, HB3.out⟩
          case neg =>
            have hb : (vt == wt) = false := beq_eq_false_iff_ne.2 hv
            have HE := hid (show worksB (l.take (k + 1)) wt = false from by rw [HSN.out, ← hvv, decide_eq_false hv]; rfl)
            clear hv hvv
            go_wp2_with fail
            go_roundw
            case rel => exact ⟨k + 1, by omega, by go_num, HE, HB3, HQ3⟩
            case measure => simp [intOf]; omega
      case neg =>
        obtain rfl : k = c := by omega
        have HO3 := hid (show onceB l X.jobs tick k = (activeI X.jobs wt tick).isSome from by rw [HO2.out, HF.out]; simp)
        go_wp2_with fail
        go_loopw [12] (fun v wr => ∃ i : Nat, i ≤ m ∧ v = .int .i64 i ∧ Hid (∀ (i' : Nat) y, i' < i → X.jobs[i']? = some y → actB y wt tick = false) ∧ Hid (Below w.heap.size w wr) ∧ Hid (wr.heap[w.heap.size]? = some (.cells #[.slice (some ⟨b, o, none⟩) n cp, .slice A2 m c2] 32 (0, 0)))) (fun v _ => m - (intOf v).toNat)
        case atStart => exact ⟨0, by omega, rfl, hid (fun i y h => by omega), HBR, HQR⟩
        case round =>
          obtain ⟨i, hi, rfl, HFI, HBI, HQI⟩ := hrel
          have t1 : wr.cell? ⟨w.heap.size, 1, none⟩ = some (.slice A2 m c2) := blk_cell HQI.out 1
          by_cases hlt2 : i < m
          case pos =>
            obtain ⟨j, hj⟩ : ∃ j, X.jobs[i]? = some j := ⟨_, List.getElem?_eq_getElem (by have := HM.out; omega)⟩
            obtain ⟨b7, o7, cs7, hA7, hbl7, _, hc7, hr7⟩ := (HJ.out.later jbR.stays HBI.out).at hj
            subst hA7
            have hr7' : cs7 = [.int .i64 j.task, .int .i64 j.arr, .int .i64 j.fin, .bool j.cut, .bool j.miss] := hr7
            subst hr7'
            have HOJ := hid (HON.out · j)
            have HFN := hid (show actB j wt tick = false → ∀ (i' : Nat) y, i' < i + 1 → X.jobs[i']? = some y → actB y wt tick = false from fun h i' y hi hy => by
              by_cases e : i' = i
              · subst e
                rw [hj] at hy
                injection hy with hy
                rw [← hy]
                exact h
              · exact HFI.out i' y (by omega) hy)
            have HAS := hid (show actB j wt tick = true → onceB l X.jobs tick k = true from fun h => by rw [HO3.out, act_some hj h HFI.out]; rfl)
            obtain ⟨ob, hob⟩ : ∃ b, onB j tick = b := ⟨_, rfl⟩
            have HAB := hid (show actB j wt tick = (decide (j.task = wt) && ob) from by unfold actB; rw [hob])
            rw [hob] at HOJ
            obtain ⟨jt, ja, jf, jc, jm⟩ := j
            simp only at hc7 HOJ HAB
            have e0 : wr.cell? ⟨b7, o7 + i * 5, none⟩ = some (.int .i64 jt) := by simpa using hc7 0 _ rfl
            have e1 : wr.cell? ⟨b7, o7 + i * 5 + 1, none⟩ = some (.int .i64 ja) := hc7 1 _ rfl
            have e2 : wr.cell? ⟨b7, o7 + i * 5 + 2, none⟩ = some (.int .i64 jf) := hc7 2 _ rfl
            have e3 : wr.cell? ⟨b7, o7 + i * 5 + 3, none⟩ = some (.bool jc) := hc7 3 _ rfl
            have e4 : wr.cell? ⟨b7, o7 + i * 5 + 4, none⟩ = some (.bool jm) := hc7 4 _ rfl
            clear hj hc7 hr7 hbl7 hob
            by_cases ht : jt = wt
            case neg =>
              have hb : (jt == wt) = false := beq_eq_false_iff_ne.2 ht
              have HFK := hid (HFN.out (by rw [HAB.out, decide_eq_false ht]; rfl))
              clear ht
              go_wp2_with fail
              go_roundw
              case rel => exact ⟨i + 1, by omega, by go_num, HFK, HBI, HQI⟩
              case measure => simp [intOf]; omega
            case pos =>
              have hb : (jt == wt) = true := beq_iff_eq.2 ht
              have HDT := hid (decide_eq_true ht)
              clear ht
              go_wp2_with fail
              refine (HOJ.out wr).mono ?_
              rintro e w4 ⟨rfl, hb4⟩
              have HB4 := hid (below_then HBI.out hb4)
              have HQ4 := hid ((fr0 hb4).blk HQI.out (fun h => h))
              clear hb4 e0 e1 e2 e3 e4 t1
              cases ob
              case false =>
                have HFK := hid (HFN.out (by rw [HAB.out, Bool.and_false]))
                go_wp2_with fail
                go_roundw
                case rel => exact ⟨i + 1, by omega, by go_num, HFK, HB4, HQ4⟩
                case measure => simp [intOf]; omega
              case true =>
                have HE := hid (HAS.out (by rw [HAB.out, HDT.out]; rfl))
                go_wp2_with fail
                go_ret
                exact ⟨by rw [HE.out]; rfl, HB4.out⟩
          case neg =>
            obtain rfl : i = m := by omega
            have HE := hid (show onceB l X.jobs tick k = false from by rw [HO3.out, act_none (fun i' y hy => HFI.out i' y (by have := (List.getElem?_eq_some_iff.1 hy).1; have := HM.out; omega) hy)]; rfl)
            go_wp2_with fail
            go_ret
            exact ⟨by rw [HE.out]; rfl, HBI.out⟩
end
end Go.Proofs.Ytmhochjpdedlgaa
/- A list of lists of slots that a call has made: the outer row and its rows, each the call's own. -/
set_option linter.unusedVariables false
set_option linter.unusedSimpArgs false
namespace Go.Proofs.Ytmhochjpdedlgaa
open Go.RowKit

def encSl (s : Sl) : List Value := [.int .i64 s.kind, .int .i64 s.task, .int .i64 s.oth]
theorem encSl_len (s : Sl) : (encSl s).length = 3 := rfl
theorem Try.info_slots : (Try.prog.info? 42).map (fun i => (i.zero, i.size, i.bytes)) = some (some (.slice none 0 0), 1, 24) := by kernel_rfl
theorem Try.info_slot : (Try.prog.info? 78).map (fun i => (i.zero, i.size, i.bytes)) = some (some (.agg #[.int .i64 0, .int .i64 0, .int .i64 0]), 3, 24) := by kernel_rfl
structure SG (w : World) (base : Nat) (u : Value) (vs : List Value) (Q : List (List Sl)) : Prop where
  out : w.ownsRow base 42 1 u vs.length vs
  len : vs.length = Q.length
  rows : ∀ (i : Nat) v q, vs[i]? = some v → Q[i]? = some q → w.ownsRow base 78 3 v q.length (flat encSl q)
  apart : ∀ v ∈ vs, ∀ k, v.ownBlock = some k → u.ownBlock ≠ some k
def SGSet (u : Value) (vs : List Value) (k : Nat) : Prop := u.ownBlock = some k ∨ ∃ v ∈ vs, v.ownBlock = some k
section
variable {w w' : World} {base : Nat} {u u' : Value} {vs : List Value} {Q : List (List Sl)}
theorem SG.nil (w : World) (base : Nat) : SG w base (.slice none 0 0) [] [] := ⟨World.ownsRow_nil _ _ _ _, rfl, fun i v q h => by simp at h, fun v h => by simp at h⟩
theorem SG.row (h : SG w base u vs Q) {v : Value} (hv : v ∈ vs) : ∃ q, w.ownsRow base 78 3 v q.length (flat encSl q) := by
  obtain ⟨i, hi⟩ := List.mem_iff_getElem?.1 hv
  have hq : i < Q.length := by have := h.len; have := (List.getElem?_eq_some_iff.1 hi).1; omega
  exact ⟨Q[i], h.rows i _ _ hi (List.getElem?_eq_getElem hq)⟩
theorem SG.lt (h : SG w base u vs Q) : ∀ k, SGSet u vs k → base ≤ k ∧ k < w.heap.size := by
  intro k hk
  rcases hk with hk | ⟨v, hv, hk⟩
  · exact h.out.lt k hk
  · obtain ⟨q, hq⟩ := h.row hv
    exact hq.lt k hk
theorem SG.kept {S : Nat → Prop} (h : SG w base u vs Q) (k : Fr S w w') (hn : ∀ j, SGSet u vs j → ¬ S j) : SG w' base u vs Q :=
  ⟨own_kept h.out k (fun j hj => hn j (.inl hj)), h.len, fun i v q hv hq => own_kept (h.rows i v q hv hq) k (fun j hj => hn j (.inr ⟨v, List.mem_of_getElem? hv, hj⟩)), h.apart⟩
theorem SG.later (h : SG w base u vs Q) (k : Below w.heap.size w w') : SG w' base u vs Q := h.kept (fr0 k) (fun _ _ h => h)
/-- One more row. -/
theorem SG.snoc (h : SG w base u vs Q) {v : Value} {q : List Sl} (hv : w.ownsRow base 78 3 v q.length (flat encSl q)) (hd : ∀ k, v.ownBlock = some k → u.ownBlock ≠ some k)
    (hown : w'.ownsRow base 42 1 u' (vs.length + 1) (vs ++ [v])) (hF : Fr (fun k => u.ownBlock = some k) w w') (hu : u'.ownBlock = u.ownBlock ∨ ∃ k, u'.ownBlock = some k ∧ w.heap.size ≤ k) : SG w' base u' (vs ++ [v]) (Q ++ [q]) := by
  have key : ∀ x ∈ vs ++ [v], ∃ q, w.ownsRow base 78 3 x q.length (flat encSl q) ∧ ∀ k, x.ownBlock = some k → u.ownBlock ≠ some k := by
    intro x hx
    rcases List.mem_append.1 hx with hx | hx
    · obtain ⟨q, hq⟩ := h.row hx
      exact ⟨q, hq, h.apart x hx⟩
    · simp at hx
      subst hx
      exact ⟨q, hv, hd⟩
  refine ⟨by rw [List.length_append]; exact hown, by simp [h.len], fun i x y hx hy => ?_, fun x hx k hk e => ?_⟩
  · by_cases hi : i < vs.length
    · rw [List.getElem?_append_left hi] at hx
      rw [List.getElem?_append_left (by have := h.len; omega)] at hy
      exact own_kept (h.rows i x y hx hy) hF (fun k hk e => h.apart x (List.mem_of_getElem? hx) k hk e)
    · have hi2 : i = vs.length := by have := (List.getElem?_eq_some_iff.1 hx).1; simp at this; omega
      subst hi2
      rw [List.getElem?_append_right (Nat.le_refl _)] at hx
      rw [List.getElem?_append_right (by have := h.len; omega)] at hy
      simp at hx
      rw [h.len] at hy
      simp at hy
      subst hx
      subst hy
      exact own_kept hv hF (fun k hk e => hd k hk e)
  · obtain ⟨q2, hq2, hap⟩ := key x hx
    rcases hu with hu | ⟨j, hu, hj⟩
    · exact hap k hk (by rw [← hu]; exact e)
    · rw [hu] at e
      injection e with e
      have := (hq2.lt k hk).2
      omega
theorem flat_fsts : ∀ (vs : List Value) (Q : List (List Sl)), vs.length = Q.length → flat (fun x : Value × List Sl => [x.1]) (vs.zip Q) = vs
  | [], _, _ => by simp [flat]
  | v :: vs, [], h => by simp at h
  | v :: vs, q :: Q, h => by
    have := flat_fsts vs Q (by simpa using h)
    simp [flat] at this ⊢
    exact this
/-- It is a plan. -/
theorem SG.plan (h : SG w base u vs Q) : Rowp 1 (RowR 3 slR) w u Q := by
  have h1 : Rowp 1 (fun w cs (x : Value × List Sl) => cs = [x.1] ∧ Rowp 3 slR w x.1 x.2) w u (vs.zip Q) := by
    refine Rowp.of_own (base := base) (e := 42) (n := vs.length) (enc := fun x => [x.1]) (fun x => rfl) (by rw [flat_fsts vs Q h.len]; exact h.out) (by rw [List.length_zip, h.len]; simp) (by decide) (fun x hx => ⟨rfl, ?_⟩)
    obtain ⟨i, hi⟩ := List.mem_iff_getElem?.1 hx
    rw [List.getElem?_zip_eq_some] at hi
    exact Rowp.of_own encSl_len (h.rows i _ _ hi.1 hi.2) rfl (by decide) (fun p _ => rfl)
  have h2 := h1.mono (R' := RowR 3 slR) (f := Prod.snd) (fun cs x _ hr => ⟨x.1, hr.1, hr.2⟩)
  rwa [List.map_snd_zip (by rw [h.len]; exact Nat.le_refl _)] at h2
end
end Go.Proofs.Ytmhochjpdedlgaa
