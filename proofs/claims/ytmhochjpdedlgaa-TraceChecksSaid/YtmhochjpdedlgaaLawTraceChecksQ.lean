/- Joined: Ref22f, TraceChecks, LawTraceChecks. -/
import Derived.Test.YtmhochjpdedlgaaRows
import Derived.Test.YtmhochjpdedlgaaR02
import Derived.Test.YtmhochjpdedlgaaR03
import Derived.Test.YtmhochjpdedlgaaQ47
import Derived.Test.YtmhochjpdedlgaaQ50
import Derived.Test.YtmhochjpdedlgaaQ52
import Derived.Deep.QuietTactic
import Derived.BigQuiet
import Derived.WalkKit
import Derived.ProofKit
import Derived.OpenShut
import Derived.ShutString
import Derived.ChangeOld
import Derived.Below
import Derived.SizedLaws
/- Package tourbillonref22: Check (contract): what it finds is what Fnd says. -/
set_option linter.unusedVariables false
set_option linter.unusedSimpArgs false
namespace Go.Proofs.Ytmhochjpdedlgaa
open Go.RowKit

section
variable {w : World}
set_option maxRecDepth 100000 in
set_option maxHeartbeats 12800000 in
theorem rcheck22_any (T : Tb) (X : Tr) (A0 : Option Addr) (n0 c0 : Nat) (A1 : Option Addr) (n1 c1 : Nat) (A2 : Option Addr) (n2 c2 : Nat) (A : Option Addr) (n cp : Nat) (B : Option Addr) (m cb : Nat)
    (h : IsTab w (.slice A0 n0 c0) (.slice A1 n1 c1) (.slice A2 n2 c2) T) (hx : IsTr w (.slice A n cp) (.slice B m cb) X) (hlen : n1 ≤ 4398046511104) (hn6 : n ≤ 1000000) (hm6 : m ≤ 1000000) (harr : ∀ y ∈ X.jobs, I64 y.arr) :
    Calls Try.prog 14 #[tabV T.sys (.slice A0 n0 c0) (.slice A1 n1 c1) (.slice A2 n2 c2), trV (.slice A n cp) (.slice B m cb)] w fun e w' => ∃ r t c : Int, e = .returned (.tuple #[.int .i64 r, .int .i64 t, .int .i64 c]) ∧ Fnd T X r t c ∧ Below w.heap.size w w' := by
  have hn := hx.slots.len
  have hm := hx.jobs.len
  have HN := hid hn
  have HM := hid hm
  have HRR := hid (fun W (k : Below w.heap.size w W) => rright19_any (w := W) T A0 n0 c0 A1 n1 c1 A2 n2 c2 (h.later k) hlen)
  have HHT := hid (fun W (k : Below w.heap.size w W) => h.later k)
  have HHX := hid (fun W (k : Below w.heap.size w W) => hx.later k)
  have HAR := hid harr
  have hz : ∀ (w : World) o, (w.alloc o).heap.size = w.heap.size + 1 := fun w o => by simp
  obtain ⟨wb, hwb⟩ : ∃ wb, wb = (w.alloc (.cells #[.int .i64 T.sys.cores, .int .i64 T.sys.policy, .int .i64 T.sys.prot, .int .i64 T.sys.rel, .int .i64 T.sys.sw, .int .i64 T.sys.fin, .int .i64 T.sys.lat, .int .i64 T.sys.resn, .slice A0 n0 c0, .slice A1 n1 c1, .slice A2 n2 c2] 28)).alloc (.cells #[.slice A n cp, .slice B m cb] 32) := ⟨_, rfl⟩
  have hq0 := blk_old (blk_new w (.cells #[.int .i64 T.sys.cores, .int .i64 T.sys.policy, .int .i64 T.sys.prot, .int .i64 T.sys.rel, .int .i64 T.sys.sw, .int .i64 T.sys.fin, .int .i64 T.sys.lat, .int .i64 T.sys.resn, .slice A0 n0 c0, .slice A1 n1 c1, .slice A2 n2 c2] 28)) (.cells #[.slice A n cp, .slice B m cb] 32)
  have hq1 := blk_new (w.alloc (.cells #[.int .i64 T.sys.cores, .int .i64 T.sys.policy, .int .i64 T.sys.prot, .int .i64 T.sys.rel, .int .i64 T.sys.sw, .int .i64 T.sys.fin, .int .i64 T.sys.lat, .int .i64 T.sys.resn, .slice A0 n0 c0, .slice A1 n1 c1, .slice A2 n2 c2] 28)) (.cells #[.slice A n cp, .slice B m cb] 32)
  have hbb := below_new (below_new (Below.refl w.heap.size w) (.cells #[.int .i64 T.sys.cores, .int .i64 T.sys.policy, .int .i64 T.sys.prot, .int .i64 T.sys.rel, .int .i64 T.sys.sw, .int .i64 T.sys.fin, .int .i64 T.sys.lat, .int .i64 T.sys.resn, .slice A0 n0 c0, .slice A1 n1 c1, .slice A2 n2 c2] 28)) (.cells #[.slice A n cp, .slice B m cb] 32)
  rw [hz] at hq1
  rw [← hwb] at hq0 hq1 hbb
  have HCELL := hid (fun W (k : Below wb.heap.size wb W) => (⟨blk_cell ((fr0 k).blk hq0 (fun h => h)) 0, blk_cell ((fr0 k).blk hq0 (fun h => h)) 1, blk_cell ((fr0 k).blk hq0 (fun h => h)) 2, blk_cell ((fr0 k).blk hq0 (fun h => h)) 3, blk_cell ((fr0 k).blk hq0 (fun h => h)) 4, blk_cell ((fr0 k).blk hq0 (fun h => h)) 5, blk_cell ((fr0 k).blk hq0 (fun h => h)) 6, blk_cell ((fr0 k).blk hq0 (fun h => h)) 7, blk_cell ((fr0 k).blk hq0 (fun h => h)) 8, blk_cell ((fr0 k).blk hq0 (fun h => h)) 9, blk_cell ((fr0 k).blk hq0 (fun h => h)) 10, blk_cell ((fr0 k).blk hq1 (fun h => h)) 0, blk_cell ((fr0 k).blk hq1 (fun h => h)) 1⟩ : W.cell? ⟨w.heap.size, 0, none⟩ = some (.int .i64 T.sys.cores) ∧ W.cell? ⟨w.heap.size, 1, none⟩ = some (.int .i64 T.sys.policy) ∧ W.cell? ⟨w.heap.size, 2, none⟩ = some (.int .i64 T.sys.prot) ∧ W.cell? ⟨w.heap.size, 3, none⟩ = some (.int .i64 T.sys.rel) ∧ W.cell? ⟨w.heap.size, 4, none⟩ = some (.int .i64 T.sys.sw) ∧ W.cell? ⟨w.heap.size, 5, none⟩ = some (.int .i64 T.sys.fin) ∧ W.cell? ⟨w.heap.size, 6, none⟩ = some (.int .i64 T.sys.lat) ∧ W.cell? ⟨w.heap.size, 7, none⟩ = some (.int .i64 T.sys.resn) ∧ W.cell? ⟨w.heap.size, 8, none⟩ = some (.slice A0 n0 c0) ∧ W.cell? ⟨w.heap.size, 9, none⟩ = some (.slice A1 n1 c1) ∧ W.cell? ⟨w.heap.size, 10, none⟩ = some (.slice A2 n2 c2) ∧ W.cell? ⟨w.heap.size + 1, 0, none⟩ = some (.slice A n cp) ∧ W.cell? ⟨w.heap.size + 1, 1, none⟩ = some (.slice B m cb)))
  have HBB := hid hbb
  have H1 := hid (HRR.out wb hbb)
  unfold tabV tabC at H1
  have HTV := hid (show tabV T.sys (.slice A0 n0 c0) (.slice A1 n1 c1) (.slice A2 n2 c2) = .agg #[.int .i64 T.sys.cores, .int .i64 T.sys.policy, .int .i64 T.sys.prot, .int .i64 T.sys.rel, .int .i64 T.sys.sw, .int .i64 T.sys.fin, .int .i64 T.sys.lat, .int .i64 T.sys.resn, .slice A0 n0 c0, .slice A1 n1 c1, .slice A2 n2 c2] from rfl)
  have HXV := hid (show trV (.slice A n cp) (.slice B m cb) = .agg #[.slice A n cp, .slice B m cb] from rfl)
  rw [HTV.out, HXV.out]
  clear h hx hn hm harr hz hq0 hq1 hbb
  go_enter Try.func14, Try.ntmps14
  go_upto_region 1 with fail
  rw [← hwb]
  clear hwb
  obtain ⟨t0, t1, t2, t3, t4, t5, t6, t7, t8, t9, t10, x0, x1⟩ := HCELL.out wb (Below.refl _ _)
  go_wp2_with fail
  refine H1.out.mono ?_
  rintro e w1 ⟨rfl, hb1⟩
  have HB1 := hid hb1
  have HBA1 := hid (below_then HBB.out hb1)
  clear hb1
  clear t0 t1 t2 t3 t4 t5 t6 t7 t8 t9 t10 x0 x1
  obtain ⟨tb, htb⟩ : ∃ v, tabB T = v := ⟨_, rfl⟩
  rw [htb]
  have HTB := hid htb
  clear htb
  cases tb
  case false =>
    have HFF := hid (Fnd.table (X := X) HTB.out)
    go_wp2_with fail
    go_ret3
    exact ⟨1, -1, -1, rfl, HFF.out, HBA1.out⟩
  case true =>
    obtain ⟨hrs, hle, hbu⟩ := tabB_pre HTB.out
    have hcor := hrs.cores
    obtain ⟨nc, hnc⟩ : ∃ nc : Nat, T.sys.cores = nc := ⟨T.sys.cores.toNat, by omega⟩
    have hnc8 : nc ≤ 8 := by omega
    have HNC := hid (show T.sys.cores.toNat = nc by omega)
    have HTC := hid hnc
    have HRS := hid hrs
    have HLE := hid hle
    have HBU := hid hbu
    have hn0 := (HHT.out w (Below.refl _ _)).sys.tasks.len
    have HN0 := hid hn0
    have hn0m : n0 ≤ 9223372036854775807 := by have := (HHT.out w (Below.refl _ _)).sys.tasks.room; unfold maxLen at this; omega
    have hmm : m ≤ 9223372036854775807 := by omega
    have H2 := hid (shapes22_any (w := w1) T.sys A0 n0 c0 (.slice A1 n1 c1) (.slice A2 n2 c2) X A n cp (.slice B m cb) nc hnc (by omega) hn0m (HHX.out w1 HBA1.out).slots)
    unfold tabV tabC trV at H2
    clear hrs hle hbu hcor hn0 hnc
    obtain ⟨t0, t1, t2, t3, t4, t5, t6, t7, t8, t9, t10, x0, x1⟩ := HCELL.out w1 HB1.out
    go_wp2_with fail
    refine H2.out.mono ?_
    rintro e w2 ⟨t, c, bad, rfl, hsh, hb2⟩
    have HB2 := hid (below_then HB1.out hb2)
    have HBA2 := hid (below_then HBA1.out hb2)
    have HSH := hid hsh
    clear hb2 hsh
    clear t0 t1 t2 t3 t4 t5 t6 t7 t8 t9 t10 x0 x1
    cases bad
    case true =>
      have HFF := hid (Fnd.shape HTB.out (t := t) (c := c) (by rw [HNC.out, ← HN0.out]; exact HSH.out))
      go_wp2_with fail
      go_ret3
      exact ⟨2, t, c, rfl, HFF.out, HBA2.out⟩
    case false =>
      have HPRE := hid (show Pre T X from ⟨HRS.out, HLE.out, HBU.out, by
        rw [HNC.out, ← HN0.out]
        rcases HSH.out with ⟨_, _, _, h4⟩ | ⟨h4, _⟩
        · exact h4
        · cases h4⟩)
      have HSHP := hid (show Shp T.sys.cores.toNat T.sys.tasks.length X.slots 0 0 false from .inl ⟨rfl, rfl, rfl, HPRE.out.shp⟩)
      clear HSH
      go_wp2_with fail
      go_loopw [11] (fun v wr => ∃ i : Nat, i ≤ m ∧ v = .int .i64 i ∧ Hid (∀ k, k < i → jobB T.sys X k = true) ∧ Hid (Below wb.heap.size wb wr)) (fun v _ => m - (intOf v).toNat)
      case atStart => exact ⟨0, by omega, rfl, hid (fun k h => by omega), HB2⟩
      case round =>
        obtain ⟨i, him, rfl, HPJ, HBR⟩ := hrel
        have HBAR := hid (below_then HBB.out HBR.out)
        obtain ⟨t0, t1, t2, t3, t4, t5, t6, t7, t8, t9, t10, x0, x1⟩ := HCELL.out wr HBR.out
        by_cases hlt : i < m
        case pos =>
          have HJ := hid (rjob_any (w := wr) T.sys X A0 n0 c0 (.slice A1 n1 c1) (.slice A2 n2 c2) A n cp B m cb i (HHX.out wr HBAR.out) (HHT.out wr HBAR.out).sys.tasks HRS.out hlt hn6 HAR.out (fun k y hk hy => (of_decide_eq_true (jobB_head (HPJ.out k hk) hy)).2.2.1))
          unfold tabV tabC trV at HJ
          obtain ⟨jb, hjb⟩ : ∃ v, jobB T.sys X i = v := ⟨_, rfl⟩
          rw [hjb] at HJ
          have HJV := hid hjb
          clear hjb
          go_wp2_with fail
          refine HJ.out.mono ?_
          rintro e w5 ⟨rfl, hb5⟩
          have HB5 := hid (below_then HBR.out hb5)
          have HBA5 := hid (below_then HBAR.out hb5)
          clear hb5
          clear t0 t1 t2 t3 t4 t5 t6 t7 t8 t9 t10 x0 x1
          cases jb
          case false =>
            have HFF := hid (show Fnd T X 3 (i : Int) 0 from .rule HTB.out HSHP.out (r := 3) (by omega) (by omega) (fun r' h1 h2 => by omega) ⟨0, i, ⟨by unfold ruleN; simp, by unfold ruleM; simp; have := HM.out; omega, HJV.out, fun c' h => HPJ.out c' h, fun t' c' h => by omega⟩, by rw [if_pos (.inl rfl)]; exact ⟨rfl, rfl⟩⟩)
            go_wp2_with fail
            go_ret3
            exact ⟨3, i, 0, rfl, HFF.out, HBA5.out⟩
          case true =>
            have HPN := hid (show ∀ k, k < i + 1 → jobB T.sys X k = true from fun k h => by
              by_cases e : k = i
              · rw [e]; exact HJV.out
              · exact HPJ.out k (by omega))
            go_wp2_with fail
            go_roundw
            case rel => exact ⟨i + 1, by omega, by go_num, HPN, HB5⟩
            case measure => simp [intOf]; omega
        case neg =>
          have HR3 := hid (show RuleOk T X 3 from fun t' c' ht hc => HPJ.out c' (by unfold ruleM at hc; simp at hc; have := HM.out; omega))
          go_wp2_with fail
          clear t0 t1 t2 t3 t4 t5 t6 t7 t8 t9 t10 x0 x1
          go_loopw [13] (fun v wr => ∃ r : Nat, 4 ≤ r ∧ r ≤ 8 ∧ v = .int .i64 r ∧ Hid (∀ r', 3 ≤ r' → r' < r → RuleOk T X r') ∧ Hid (Below wb.heap.size wb wr)) (fun v _ => 8 - (intOf v).toNat)
          case atStart => exact ⟨4, by omega, by omega, rfl, hid (fun r' h1 h2 => by obtain rfl : r' = 3 := (by omega); exact HR3.out), HBR⟩
          case round =>
            obtain ⟨r, h4, h8, rfl, HOKR, HBQ⟩ := hrel
            have HBAQ := hid (below_then HBB.out HBQ.out)
            by_cases hr8 : r = 8
            case pos =>
              have hr8' : ¬ (r : Int) ≤ 7 := by omega
              have HFF := hid (show Fnd T X 0 (-1) (-1) from .none HTB.out HSHP.out (fun r' h1 h2 => HOKR.out r' h1 (by omega)))
              clear hr8
              go_wp2_with fail
              go_ret3
              exact ⟨0, -1, -1, rfl, HFF.out, HBAQ.out⟩
            case neg =>
              have hr7 : r ≤ 7 := by omega
              have hr7z : (r : Int) ≤ 7 := by omega
              clear hr8 h8
              by_cases r5 : r = 5
              case pos =>
                have hb5 : ((r : Int) == 5) = true := beq_iff_eq.2 (by omega)
                have HR5 := hid r5
                clear r5
                go_wp2_with fail
                go_loopw [14] (fun v wr => ∃ i : Nat, i ≤ m ∧ v = .int .i64 i ∧ Hid (∀ k, k < i → amountB T.sys X k = true) ∧ Hid (Below wb.heap.size wb wr)) (fun v _ => m - (intOf v).toNat)
                case atStart => exact ⟨0, by omega, rfl, hid (fun k h => by omega), HBQ⟩
                case round =>
                  obtain ⟨i, hiq, rfl, HPJ5, HBS⟩ := hrel
                  have HBAS := hid (below_then HBB.out HBS.out)
                  obtain ⟨t0, t1, t2, t3, t4, t5, t6, t7, t8, t9, t10, x0, x1⟩ := HCELL.out wr HBS.out
                  by_cases hlq : i < m
                  case pos =>
                    obtain ⟨j, hj⟩ : ∃ j, X.jobs[i]? = some j := ⟨_, List.getElem?_eq_getElem (by have := HM.out; omega)⟩
                    have HJ := hid (amounts_any (w := wr) T.sys X A0 n0 c0 (.slice A1 n1 c1) (.slice A2 n2 c2) A n cp B m cb i j (HHX.out wr HBAS.out) (HHT.out wr HBAS.out).sys.tasks hn6 hj ((HOKR.out 3 (by omega) (by omega)).head hj))
                    unfold tabV tabC trV at HJ
                    obtain ⟨jb, hjb⟩ : ∃ v, amountB T.sys X i = v := ⟨_, rfl⟩
                    rw [hjb] at HJ
                    have HJV := hid hjb
                    clear hjb hj
                    go_wp2_with fail
                    refine HJ.out.mono ?_
                    rintro e w5 ⟨rfl, hb6⟩
                    have HB5 := hid (below_then HBS.out hb6)
                    have HBA5 := hid (below_then HBAS.out hb6)
                    clear hb6
                    clear t0 t1 t2 t3 t4 t5 t6 t7 t8 t9 t10 x0 x1
                    cases jb
                    case false =>
                      have HFF := hid (show Fnd T X 5 (i : Int) 0 from .rule HTB.out HSHP.out (r := 5) (by omega) (by omega) (fun r' h1 h2 => HOKR.out r' h1 (by have := HR5.out; omega)) ⟨0, i, ⟨by unfold ruleN; simp, by unfold ruleM; simp; have := HM.out; omega, HJV.out, fun c' h => HPJ5.out c' h, fun t' c' h => by omega⟩, by rw [if_pos (.inr rfl)]; exact ⟨rfl, rfl⟩⟩)
                      go_wp2_with fail
                      go_ret3
                      exact ⟨5, i, 0, rfl, HFF.out, HBA5.out⟩
                    case true =>
                      have HPN := hid (show ∀ k, k < i + 1 → amountB T.sys X k = true from fun k h => by
                        by_cases e : k = i
                        · rw [e]; exact HJV.out
                        · exact HPJ5.out k (by omega))
                      go_wp2_with fail
                      go_roundw
                      case rel => exact ⟨i + 1, by omega, by go_num, HPN, HB5⟩
                      case measure => simp [intOf]; omega
                  case neg =>
                    have HOKN := hid (show ∀ r', 3 ≤ r' → r' < r + 1 → RuleOk T X r' from fun r' h1 h2 => by
                      by_cases e : r' = r
                      · rw [e, HR5.out]
                        intro t' c' ht hc
                        exact HPJ5.out c' (by unfold ruleM at hc; simp at hc; have := HM.out; omega)
                      · exact HOKR.out r' h1 (by omega))
                    go_wp2_with fail
                    go_roundw
                    case rel => exact ⟨r + 1, by omega, by omega, by go_num, HOKN, HBS⟩
                    case measure => simp [intOf]; omega
              case neg =>
                have hb5 : ((r : Int) == 5) = false := beq_eq_false_iff_ne.2 (by omega)
                have HNR := hid (show ruleN X r = n from (if_neg (fun h => h.elim (fun h => by omega) r5)).trans HN.out.symm)
                obtain ⟨M, hM⟩ : ∃ M, ruleM T.sys.cores.toNat X r = M := ⟨_, rfl⟩
                have HMR := hid hM
                have hr467 : r = 4 ∨ r = 6 ∨ r = 7 := by omega
                have hM46 : (r = 4 ∨ r = 6) → M = nc := fun h => by rw [← hM, ← HNC.out]; exact if_pos h
                have hM7 : r = 7 → M = m := fun h => by rw [← hM, h]; exact (if_neg (by omega)).trans HM.out.symm
                have hM6 : M ≤ 1000000 := by
                  rcases hr467 with h | h | h
                  · have := hM46 (.inl h); omega
                  · have := hM46 (.inr h); omega
                  · have := hM7 h; omega
                have H467 := hid hr467
                have HM46 := hid hM46
                have HM7 := hid hM7
                have HBI := hid (show ∀ (t c : Nat), Fst2 (ruleB T X r) n M t c → Fnd T X r t c from fun t c hf => .rule HTB.out HSHP.out (by omega) hr7 (fun r' h1 h2 => HOKR.out r' h1 h2) ⟨t, c, by rw [HNR.out, HMR.out]; exact hf, by rw [if_neg (by omega)]; exact ⟨rfl, rfl⟩⟩)
                clear hM r5 hr467 hM46 hM7
                go_wp2_with fail
                go_loopw [16] (fun v wr => ∃ t : Nat, t ≤ n ∧ v = .int .i64 t ∧ Hid (∀ t' c', t' < t → c' < M → ruleB T X r t' c' = true) ∧ Hid (Below wb.heap.size wb wr)) (fun v _ => n - (intOf v).toNat)
                case atStart => exact ⟨0, by omega, rfl, hid (fun t' c' h => by omega), HBQ⟩
                case round =>
                  obtain ⟨t, htn, rfl, HPT, HBT⟩ := hrel
                  obtain ⟨t0, t1, t2, t3, t4, t5, t6, t7, t8, t9, t10, x0, x1⟩ := HCELL.out wr HBT.out
                  by_cases htl : t < n
                  case neg =>
                    have HOKN := hid (show ∀ r', 3 ≤ r' → r' < r + 1 → RuleOk T X r' from fun r' h1 h2 => by
                      by_cases e : r' = r
                      · subst e
                        intro t' c' ht' hc'
                        rw [HNR.out] at ht'
                        rw [HMR.out] at hc'
                        exact HPT.out t' c' (by omega) hc'
                      · exact HOKR.out r' h1 (by omega))
                    go_wp2_with fail
                    go_roundw
                    case rel => exact ⟨r + 1, by omega, by omega, by go_num, HOKN, HBT⟩
                    case measure => simp [intOf]; omega
                  case pos =>
                    obtain ⟨ws, hws⟩ : ∃ ws, ws = wr := ⟨_, rfl⟩
                    subst hws
                    go_upto_if 79 with fail
                    go_cut [17] (fun v wx => v = .int .i64 M ∧ ws = wx)
                    case first =>
                      by_cases r7 : r = 7
                      case pos =>
                        have hb7 : ((r : Int) == 7) = true := beq_iff_eq.2 (by omega)
                        have HMM := hid (HM7.out r7)
                        clear r7
                        go_wp2_with fail
                        go_meet
                        exact ⟨by rw [HMM.out], rfl⟩
                      case neg =>
                        have hb7 : ((r : Int) == 7) = false := beq_eq_false_iff_ne.2 (by omega)
                        have HMM := hid (HM46.out (by rcases H467.out with h | h | h <;> omega))
                        clear r7
                        go_wp2_with fail
                        go_meet
                        exact ⟨by rw [HMM.out, HTC.out], rfl⟩
                    obtain ⟨rfl, rfl⟩ := hcut
                    clear t0 t1 t2 t3 t4 t5 t6 t7 t8 t9 t10 x0 x1
                    go_wp2_with fail
                    go_loopw [18] (fun v wr => ∃ c : Nat, c ≤ M ∧ v = .int .i64 c ∧ Hid (∀ c', c' < c → ruleB T X r t c' = true) ∧ Hid (Below wb.heap.size wb wr)) (fun v _ => M - (intOf v).toNat)
                    case atStart => exact ⟨0, by omega, rfl, hid (fun c' h => by omega), HBT⟩
                    case round =>
                      obtain ⟨c, hcM, rfl, HPC, HBC⟩ := hrel
                      have HBAC := hid (below_then HBB.out HBC.out)
                      by_cases hcl : c < M
                      case neg =>
                        have HPN := hid (show ∀ t' c', t' < t + 1 → c' < M → ruleB T X r t' c' = true from fun t' c' h1 h2 => by
                          by_cases e : t' = t
                          · rw [e]; exact HPC.out c' (by omega)
                          · exact HPT.out t' c' (by omega) h2)
                        go_wp2_with fail
                        go_roundw
                        case rel => exact ⟨t + 1, by omega, by go_num, HPN, HBC⟩
                        case measure => simp [intOf]; omega
                      case pos =>
                        obtain ⟨rb, hrb⟩ : ∃ v, ruleB T X r t c = v := ⟨_, rfl⟩
                        have HRV := hid hrb
                        clear hrb
                        go_upto_region 32 with fail
                        go_cut [19] (fun v wx => v = .bool rb ∧ Hid (Below wb.heap.size wb wx))
                        case first =>
                          obtain ⟨t0, t1, t2, t3, t4, t5, t6, t7, t8, t9, t10, x0, x1⟩ := HCELL.out wr HBC.out
                          obtain ⟨l, hl⟩ : ∃ l, X.slots[t]? = some l := ⟨_, List.getElem?_eq_getElem (by have := HN.out; omega)⟩
                          have HL := hid hl
                          have HLL := hid (show l.length = nc from by rw [HPRE.out.row hl, HNC.out])
                          clear hl
                          by_cases r4 : r = 4
                          case pos =>
                            have HC := hid (once22_any (w := wr) X A n cp B m cb t c l (HHX.out wr HBAC.out) HL.out (by have := HM46.out (.inl r4); have := HLL.out; omega))
                            rw [show onceB l X.jobs t c = rb from by have h := HRV.out; rw [r4, ruleB_4 HL.out] at h; exact h] at HC
                            unfold trV at HC
                            have hb4 : ((r : Int) == 4) = true := beq_iff_eq.2 (by omega)
                            have hb6 : ((r : Int) == 6) = false := beq_eq_false_iff_ne.2 (by omega)
                            have hb7 : ((r : Int) == 7) = false := beq_eq_false_iff_ne.2 (by omega)
                            clear r4
                            go_wp2_with fail
                            refine HC.out.mono ?_
                            rintro e w5 ⟨rfl, hb5w⟩
                            have HB5 := hid (below_then HBC.out hb5w)
                            clear hb5w
                            clear t0 t1 t2 t3 t4 t5 t6 t7 t8 t9 t10 x0 x1
                            cases rb
                            · go_wp2_with fail
                              go_meet
                              exact ⟨rfl, HB5⟩
                            · go_wp2_with fail
                              go_meet
                              exact ⟨rfl, HB5⟩
                          case neg =>
                            have hb4 : ((r : Int) == 4) = false := beq_eq_false_iff_ne.2 (by omega)
                            by_cases r6 : r = 6
                            case pos =>
                              obtain ⟨s, hs⟩ : ∃ s, l[c]? = some s := ⟨_, List.getElem?_eq_getElem (by have := HM46.out (.inr r6); have := HLL.out; omega)⟩
                              have hne : n1 = n0 := by have h1 := HLE.out; have h2 := (HHT.out wr HBAC.out).ents.len; have h3 := HN0.out; omega
                              have HC := hid (rplace_any (w := wr) T X A0 n0 c0 A1 n1 c1 (.slice A2 n2 c2) A n cp B m cb t c l s (HHX.out wr HBAC.out) (HHT.out wr HBAC.out).ents hn6 HL.out hs (by rw [HN0.out]; exact HPRE.out.shape HL.out hs) hne (fun h2 => (HOKR.out 4 (by omega) (by omega)).act HPRE.out HL.out hs h2) HBU.out)
                              rw [show placeB T X t c = rb from by have h := HRV.out; rw [r6] at h; exact h] at HC
                              unfold tabV tabC trV at HC
                              have hb6 : ((r : Int) == 6) = true := beq_iff_eq.2 (by omega)
                              have hb7 : ((r : Int) == 7) = false := beq_eq_false_iff_ne.2 (by omega)
                              clear r4 r6 hs hne
                              go_wp2_with fail
                              refine HC.out.mono ?_
                              rintro e w5 ⟨rfl, hb5w⟩
                              have HB5 := hid (below_then HBC.out hb5w)
                              clear hb5w
                              clear t0 t1 t2 t3 t4 t5 t6 t7 t8 t9 t10 x0 x1
                              cases rb
                              · go_wp2_with fail
                                go_meet
                                exact ⟨rfl, HB5⟩
                              · go_wp2_with fail
                                go_meet
                                exact ⟨rfl, HB5⟩
                            case neg =>
                              have r7 : r = 7 := by rcases H467.out with h | h | h <;> omega
                              have HC := hid (rapart_any (w := wr) T.sys X A0 n0 c0 (.slice A1 n1 c1) (.slice A2 n2 c2) A n cp B m cb c t (HHX.out wr HBAC.out) (HHT.out wr HBAC.out).sys.tasks hn6 hm6 (by have := HM7.out r7; omega) (fun k j hj => (HOKR.out 3 (by omega) (by omega)).head hj) htl HRS.out)
                              rw [show apartB T.sys X t c = rb from by have h := HRV.out; rw [r7] at h; exact h] at HC
                              unfold tabV tabC trV at HC
                              have hb6 : ((r : Int) == 6) = false := beq_eq_false_iff_ne.2 (by omega)
                              have hb7 : ((r : Int) == 7) = true := beq_iff_eq.2 (by omega)
                              clear r4 r6 r7
                              go_wp2_with fail
                              refine HC.out.mono ?_
                              rintro e w5 ⟨rfl, hb5w⟩
                              have HB5 := hid (below_then HBC.out hb5w)
                              clear hb5w
                              clear t0 t1 t2 t3 t4 t5 t6 t7 t8 t9 t10 x0 x1
                              cases rb
                              · go_wp2_with fail
                                go_meet
                                exact ⟨rfl, HB5⟩
                              · go_wp2_with fail
                                go_meet
                                exact ⟨rfl, HB5⟩
                        obtain ⟨rfl, HB8⟩ := hcut
                        have HBA8 := hid (below_then HBB.out HB8.out)
                        cases rb
                        case true =>
                          have HPN := hid (show ∀ c', c' < c + 1 → ruleB T X r t c' = true from fun c' h => by
                            by_cases e : c' = c
                            · rw [e]; exact HRV.out
                            · exact HPC.out c' (by omega))
                          go_wp2_with fail
                          go_roundw
                          case rel => exact ⟨c + 1, by omega, by go_num, HPN, HB8⟩
                          case measure => simp [intOf]; omega
                        case false =>
                          have HFF := hid (HBI.out t c ⟨htl, hcl, HRV.out, HPC.out, HPT.out⟩)
                          go_wp2_with fail
                          go_ret3
                          exact ⟨r, t, c, rfl, HFF.out, HBA8.out⟩
end
end Go.Proofs.Ytmhochjpdedlgaa
/- TraceChecks: the law's walk: it returns true. -/
set_option linter.unusedVariables false
set_option linter.unusedSimpArgs false
namespace Go.Proofs.Ytmhochjpdedlgaa
open Go.RowKit Go.Shelf Go.Maps

theorem trChecks_front {w : World} {A B : Option Addr} {n c m d : Nat} {X : Tr} (h : IsTr w (.slice A n c) (.slice B m d) X) {a b : Nat} (ha : a ≤ n) (hb : b ≤ m) : IsTr w (.slice A a c) (.slice B b d) ⟨X.slots.take a, X.jobs.take b⟩ := ⟨h.slots.front ha, h.jobs.front hb⟩
section
variable {w : World}
set_option maxRecDepth 100000 in
set_option maxHeartbeats 6400000 in
theorem traceChecks_any (T : Tb) (X0 : Tr) (A0 : Option Addr) (n0 c0 : Nat) (A1 : Option Addr) (n1 c1 : Nat) (A2 : Option Addr) (n2 c2 : Nat) (A : Option Addr) (N c : Nat) (B : Option Addr) (M d : Nat) (a : Int)
    (ht : IsTab w (.slice A0 n0 c0) (.slice A1 n1 c1) (.slice A2 n2 c2) T) (h : IsTr w (.slice A N c) (.slice B M d) X0) (hlen : n1 ≤ 4398046511104) (harr0 : ∀ y ∈ X0.jobs, I64 y.arr) :
    Calls Try.prog 3 #[tabV T.sys (.slice A0 n0 c0) (.slice A1 n1 c1) (.slice A2 n2 c2), trV (.slice A N c) (.slice B M d), .int .i64 a] w fun e w' => e = .returned (.bool true) ∧ Below w.heap.size w w' := by
  obtain ⟨n, hn⟩ : ∃ n, min N 60 = n := ⟨_, rfl⟩
  obtain ⟨m, hm⟩ : ∃ m, min M 40 = m := ⟨_, rfl⟩
  have hx := trChecks_front h (a := n) (b := m) (by omega) (by omega)
  obtain ⟨X, hX⟩ : ∃ X : Tr, X = ⟨X0.slots.take n, X0.jobs.take m⟩ := ⟨_, rfl⟩
  rw [← hX] at hx
  have harr : ∀ y ∈ X.jobs, I64 y.arr := fun y hy => harr0 y (by rw [hX] at hy; exact List.mem_of_mem_take hy)
  have hn60 : n ≤ 60 := by omega
  have hN0c := h.slots.room.1
  have hM0c := h.jobs.room.1
  have hnc : n ≤ c := by omega
  have hmd : m ≤ d := by omega
  have hm40 : m ≤ 40 := by omega
  have hNm : N ≤ 9223372036854775807 := by have := h.slots.room; unfold maxLen at this; omega
  have hMm : M ≤ 9223372036854775807 := by have := h.jobs.room; unfold maxLen at this; omega
  have hmin1 : min (N : Int) 60 = (n : Int) := by omega
  have hmin2 : min (M : Int) 40 = (m : Int) := by omega
  have HCK := hid (fun W (k : Below w.heap.size w W) => check_any (w := W) T X A0 n0 c0 A1 n1 c1 A2 n2 c2 A n c B m d (ht.later k) (hx.later k) hlen (by omega) (by omega) harr)
  have HCR := hid (fun W (k : Below w.heap.size w W) => rcheck22_any (w := W) T X A0 n0 c0 A1 n1 c1 A2 n2 c2 A n c B m d (ht.later k) (hx.later k) hlen (by omega) (by omega) harr)
  have HWA := hid (fun W (k : Below w.heap.size w W) => work_any (w := W) X A n c B m d a (hx.later k) (by omega))
  have HWB := hid (fun W (k : Below w.heap.size w W) => work22_any (w := W) X A n c B m d a (hx.later k) (by omega))
  have HUB := hid (show (workL X a).length ≤ 60 from by
    unfold workL
    split
    · cases hj : X.jobs[a.toNat]? with
      | none => simp
      | some j =>
        have h1 := unitN_bound (X := X) (j := j) X.slots.length
        have h2 := hx.slots.len
        unfold unitN at h1
        simp only [Option.map_some, Option.getD_some]
        omega
    · simp)
  unfold tabV tabC trV at *
  have hz : ∀ (w : World) o, (w.alloc o).heap.size = w.heap.size + 1 := fun w o => by simp
  obtain ⟨wb, hwb⟩ : ∃ wb, wb = (w.alloc (.cells #[.int .i64 T.sys.cores, .int .i64 T.sys.policy, .int .i64 T.sys.prot, .int .i64 T.sys.rel, .int .i64 T.sys.sw, .int .i64 T.sys.fin, .int .i64 T.sys.lat, .int .i64 T.sys.resn, .slice A0 n0 c0, .slice A1 n1 c1, .slice A2 n2 c2] 28)).alloc (.cells #[.slice A N c, .slice B M d] 32) := ⟨_, rfl⟩
  have hq0 := blk_old (blk_new w (.cells #[.int .i64 T.sys.cores, .int .i64 T.sys.policy, .int .i64 T.sys.prot, .int .i64 T.sys.rel, .int .i64 T.sys.sw, .int .i64 T.sys.fin, .int .i64 T.sys.lat, .int .i64 T.sys.resn, .slice A0 n0 c0, .slice A1 n1 c1, .slice A2 n2 c2] 28)) (.cells #[.slice A N c, .slice B M d] 32)
  have hq1 := blk_new (w.alloc (.cells #[.int .i64 T.sys.cores, .int .i64 T.sys.policy, .int .i64 T.sys.prot, .int .i64 T.sys.rel, .int .i64 T.sys.sw, .int .i64 T.sys.fin, .int .i64 T.sys.lat, .int .i64 T.sys.resn, .slice A0 n0 c0, .slice A1 n1 c1, .slice A2 n2 c2] 28)) (.cells #[.slice A N c, .slice B M d] 32)
  have hbb := below_new (below_new (Below.refl w.heap.size w) (.cells #[.int .i64 T.sys.cores, .int .i64 T.sys.policy, .int .i64 T.sys.prot, .int .i64 T.sys.rel, .int .i64 T.sys.sw, .int .i64 T.sys.fin, .int .i64 T.sys.lat, .int .i64 T.sys.resn, .slice A0 n0 c0, .slice A1 n1 c1, .slice A2 n2 c2] 28)) (.cells #[.slice A N c, .slice B M d] 32)
  rw [hz] at hq1
  rw [← hwb] at hq0 hq1 hbb
  have HQ0 := hid hq0
  have HQ1 := hid hq1
  have HBB := hid hbb
  clear h hx hX ht harr harr0 hn hm hz hq0 hq1 hbb
  go_enter Try.func3, Try.ntmps3
  go_upto_region 1 with fail
  rw [← hwb]
  clear hwb
  go_wp2_with fail
  refine examples22_any.mono ?_
  rintro e w2 ⟨rfl, hb2⟩
  have HQT2 := hid ((fr0 hb2).blk HQ0.out (fun h => h))
  have HQX2 := hid ((fr0 hb2).blk HQ1.out (fun h => h))
  have HB2 := hid (below_then HBB.out hb2)
  have x0 : w2.cell? ⟨w.heap.size + 1, 0, none⟩ = some (.slice A N c) := blk_cell HQX2.out 0
  have x1 : w2.cell? ⟨w.heap.size + 1, 1, none⟩ = some (.slice B M d) := blk_cell HQX2.out 1
  have zf : ∀ k, w2.frozen? ⟨w.heap.size + 1, k, none⟩ = false := fun k => blk_free HQX2.out k
  clear hb2
  go_upto_region 4 with fail
  have hF3 : Fr (One (w.heap.size + 1)) w2 ((w2.setCell ⟨w.heap.size + 1, 0, none⟩ (.slice A n c)).setCell ⟨w.heap.size + 1, 1, none⟩ (.slice B m d)) := ((Fr.refl _ _).one 0 _).one 1 _
  have hq3 := blk_set (blk_set HQX2.out 0 (.slice A n c)) 1 (.slice B m d)
  have hb3 := ((Fr.of_below (S := NoB) HB2.out).trans hF3 (fun x hx => .inr (by rw [show x = w.heap.size + 1 from hx]; omega))).no
  have hqt3 := hF3.blk HQT2.out (fun e => by have h2 : w.heap.size = w.heap.size + 1 := e; omega)
  generalize (w2.setCell ⟨w.heap.size + 1, 0, none⟩ (.slice A n c)).setCell ⟨w.heap.size + 1, 1, none⟩ (.slice B m d) = w3 at *
  have HQX3 := hid (show w3.heap[w.heap.size + 1]? = some (.cells #[.slice A n c, .slice B m d] 32 (0, 0)) from by simpa using hq3)
  have HQT3 := hid hqt3
  have HB3 := hid hb3
  clear hF3 hq3 hb3 hqt3 x0 x1 zf
  have HCELL := hid (fun W (k : Below w3.heap.size w3 W) => (⟨blk_cell ((fr0 k).blk HQT3.out (fun h => h)) 0, blk_cell ((fr0 k).blk HQT3.out (fun h => h)) 1, blk_cell ((fr0 k).blk HQT3.out (fun h => h)) 2, blk_cell ((fr0 k).blk HQT3.out (fun h => h)) 3, blk_cell ((fr0 k).blk HQT3.out (fun h => h)) 4, blk_cell ((fr0 k).blk HQT3.out (fun h => h)) 5, blk_cell ((fr0 k).blk HQT3.out (fun h => h)) 6, blk_cell ((fr0 k).blk HQT3.out (fun h => h)) 7, blk_cell ((fr0 k).blk HQT3.out (fun h => h)) 8, blk_cell ((fr0 k).blk HQT3.out (fun h => h)) 9, blk_cell ((fr0 k).blk HQT3.out (fun h => h)) 10, blk_cell ((fr0 k).blk HQX3.out (fun h => h)) 0, blk_cell ((fr0 k).blk HQX3.out (fun h => h)) 1⟩ : W.cell? ⟨w.heap.size, 0, none⟩ = some (.int .i64 T.sys.cores) ∧ W.cell? ⟨w.heap.size, 1, none⟩ = some (.int .i64 T.sys.policy) ∧ W.cell? ⟨w.heap.size, 2, none⟩ = some (.int .i64 T.sys.prot) ∧ W.cell? ⟨w.heap.size, 3, none⟩ = some (.int .i64 T.sys.rel) ∧ W.cell? ⟨w.heap.size, 4, none⟩ = some (.int .i64 T.sys.sw) ∧ W.cell? ⟨w.heap.size, 5, none⟩ = some (.int .i64 T.sys.fin) ∧ W.cell? ⟨w.heap.size, 6, none⟩ = some (.int .i64 T.sys.lat) ∧ W.cell? ⟨w.heap.size, 7, none⟩ = some (.int .i64 T.sys.resn) ∧ W.cell? ⟨w.heap.size, 8, none⟩ = some (.slice A0 n0 c0) ∧ W.cell? ⟨w.heap.size, 9, none⟩ = some (.slice A1 n1 c1) ∧ W.cell? ⟨w.heap.size, 10, none⟩ = some (.slice A2 n2 c2) ∧ W.cell? ⟨w.heap.size + 1, 0, none⟩ = some (.slice A n c) ∧ W.cell? ⟨w.heap.size + 1, 1, none⟩ = some (.slice B m d)))
  have HC1 := hid (HCK.out w3 HB3.out)
  obtain ⟨t0, t1, t2, t3, t4, t5, t6, t7, t8, t9, t10, x0, x1⟩ := HCELL.out w3 (Below.refl _ _)
  go_wp2_with fail
  refine HC1.out.mono ?_
  rintro e w5 ⟨r, t, co, rfl, hf, hb5⟩
  have HF := hid hf
  have HK5 := hid hb5
  have HB5 := hid (below_then HB3.out hb5)
  clear t0 t1 t2 t3 t4 t5 t6 t7 t8 t9 t10 x0 x1
  clear hf hb5
  go_upto_region 5 with fail
  have HF6 := hid (blk_new w5 (.cells #[.int .i64 r, .int .i64 t, .int .i64 co] 35))
  have HK6 := hid (below_new HK5.out (.cells #[.int .i64 r, .int .i64 t, .int .i64 co] 35))
  have HB6 := hid (below_new HB5.out (.cells #[.int .i64 r, .int .i64 t, .int .i64 co] 35))
  generalize w5.alloc (.cells #[.int .i64 r, .int .i64 t, .int .i64 co] 35) = w6 at *
  obtain ⟨D, hD⟩ : ∃ D, w5.heap.size = D := ⟨_, rfl⟩
  rw [hD] at HF6 ⊢
  clear hD
  have HC2 := hid (HCR.out w6 HB6.out)
  obtain ⟨t0, t1, t2, t3, t4, t5, t6, t7, t8, t9, t10, x0, x1⟩ := HCELL.out w6 HK6.out
  go_wp2_with fail
  refine HC2.out.mono ?_
  rintro e w7 ⟨rr, tk, cq, rfl, hf2, hb7⟩
  obtain ⟨rfl, rfl, rfl⟩ := hf2.uniq HF.out
  have HF7 := hid ((fr0 hb7).blk HF6.out (fun h => h))
  have HK7 := hid (below_then HK6.out hb7)
  have HB7 := hid (below_then HB6.out hb7)
  clear t0 t1 t2 t3 t4 t5 t6 t7 t8 t9 t10 x0 x1
  clear hf2 hb7
  have H3 := hid (HWA.out w7 HB7.out)
  obtain ⟨t0, t1, t2, t3, t4, t5, t6, t7, t8, t9, t10, x0, x1⟩ := HCELL.out w7 HK7.out
  go_wp2_with fail
  refine H3.out.mono ?_
  rintro e w8 ⟨u, rfl, hou, hb8⟩
  obtain ⟨L, hL⟩ : ∃ L, workL X a = L := ⟨_, rfl⟩
  rw [hL] at hou
  obtain ⟨Au, cu, rfl⟩ := own_slice hou
  obtain ⟨ln, hln⟩ : ∃ ln, L.length = ln := ⟨_, rfl⟩
  have HLN := hid hln
  have hln60 : ln ≤ 60 := by have := HUB.out; rw [hL] at this; omega
  rw [hln] at hou ⊢
  have HOU := hid hou
  have HF8 := hid ((fr0 hb8).blk HF7.out (fun h => h))
  have HK8 := hid (below_then HK7.out hb8)
  have HB8 := hid (below_then HB7.out hb8)
  have H4 := hid (HWB.out w8 HB8.out)
  rw [hL] at H4
  clear t0 t1 t2 t3 t4 t5 t6 t7 t8 t9 t10 x0 x1
  clear hou hb8 hL hln
  obtain ⟨t0, t1, t2, t3, t4, t5, t6, t7, t8, t9, t10, x0, x1⟩ := HCELL.out w8 HK8.out
  go_wp2_with fail
  refine H4.out.mono ?_
  rintro e w9 ⟨v, rfl, hov, hb9⟩
  obtain ⟨Av, cv, rfl⟩ := own_slice hov
  rw [HLN.out] at hov ⊢
  have HOV := hid hov
  have HOU9 := hid (own_kept HOU.out (fr0 hb9) (fun _ _ h => h))
  have HF9 := hid ((fr0 hb9).blk HF8.out (fun h => h))
  have HB9 := hid (below_then HB8.out hb9)
  clear t0 t1 t2 t3 t4 t5 t6 t7 t8 t9 t10 x0 x1
  clear hov hb9
  go_wp2_with fail
  go_loopw [14] (fun v wr => ∃ i : Nat, i ≤ ln ∧ v = .int .i64 i ∧ Hid (Below w9.heap.size w9 wr)) (fun v _ => ln - (intOf v).toNat)
  case atStart => exact ⟨0, by omega, rfl, hid (Below.refl _ _)⟩
  case round =>
    obtain ⟨i, hi, rfl, HBR⟩ := hrel
    by_cases hlt : i < ln
    case neg =>
      have HFZ := hid ((fr0 HBR.out).blk HF9.out (fun h => h))
      have HBZ := hid (below_then HB9.out HBR.out)
      have d0 : wr.cell? ⟨D, 0, none⟩ = some (.int .i64 rr) := blk_cell HFZ.out 0
      have d1 : wr.cell? ⟨D, 1, none⟩ = some (.int .i64 tk) := blk_cell HFZ.out 1
      have d2 : wr.cell? ⟨D, 2, none⟩ = some (.int .i64 cq) := blk_cell HFZ.out 2
      go_wp2_with fail
      go_ret
      exact ⟨rfl, HBZ.out⟩
    case pos =>
      have HOUR := hid (own_kept HOU9.out (fr0 HBR.out) (fun _ _ h => h))
      have HOVR := hid (own_kept HOV.out (fr0 HBR.out) (fun _ _ h => h))
      obtain ⟨gu, capu, _, he, _⟩ := own_shape HOUR.out (by omega)
      injection he with e1 _ e3
      subst e1
      subst e3
      obtain ⟨gv, capv, _, he, _⟩ := own_shape HOVR.out (by omega)
      injection he with e1 _ e3
      subst e1
      subst e3
      obtain ⟨li, hli⟩ : ∃ x, L[i]? = some x := ⟨_, List.getElem?_eq_getElem (by have := HLN.out; omega)⟩
      have u0 : wr.cell? ⟨gu, i, none⟩ = some (.int .i64 li) := own_cell0 HOUR.out (by unfold intCells; rw [List.getElem?_map, hli]; rfl)
      have v0 : wr.cell? ⟨gv, i, none⟩ = some (.int .i64 li) := own_cell0 HOVR.out (by unfold intCells; rw [List.getElem?_map, hli]; rfl)
      clear hli
      go_upto_region 13 with fail
      go_cut [67] (fun v wx => v = .bool false ∧ Hid (Below w9.heap.size w9 wx))
      case first =>
        as_aux_lemma =>
          go_quiet (fail)
          have HBQ := hid (below_drewN' HBR.out nq)
          clear u0 v0
          go_wp2_with fail
          go_meet
          exact ⟨rfl, HBQ⟩
      obtain ⟨rfl, HBC⟩ := hcut
      clear u0 v0
      go_wp2_with fail
      go_roundw
      case rel => exact ⟨i + 1, by omega, by go_num, HBC⟩
      case measure => simp [intOf]; omega
end
end Go.Proofs.Ytmhochjpdedlgaa
/- TraceChecks: the rule that is found is the chapter's, or none; and when each job worked. Whatever table, trace, job. -/
namespace Go.Proofs.Ytmhochjpdedlgaa.traceChecks
open Go.ChangeShapes Go.WideShapes Go.ChangeAt Go.RowKit Go.Deep
open Go.ChangeMaps (open_string shut_string)
set_option linter.unusedVariables false
set_option linter.unusedSimpArgs false

theorem own : ownKnob Try.prog.godebug = none := by kernel_rfl
theorem laidOut : laidOutB Try.prog = true := by kernel_rfl
/-- The form's own reach: a table's entries have at most 2^47 bytes. -/
theorem tb_reach {H : Type} {enc : TypeId × Value → H} {P : Program} {w : World} {base : Nat} {spare : Nat → Bool} {held : Bool} {fuel : Nat} {ts : List TypeId} {ds : List (DataW H)} (hall : (DataW.weightsEach P ts ds).all (· ≤ reachBytes) = true) {t ee : TypeId} {f0 f1 f2 : Field} {d : DataW H} {p : List MemPlace}
    (hts : ts[0]? = some t) (hds : ds[0]? = some d) (hs : P.underlying t = some (.struct #[f0, f1, f2])) (ho1 : f1.offset = 9) (hc1 : P.cellsOf f1.type = 1) (h1 : P.underlying f1.type = some (.slice ee)) (hb : P.bytesOf ee = 32) {cs : List Value} (h : DataW.trod enc P w base spare held fuel t cs = some (d, p))
    {A : Option Addr} {n c : Nat} (h9 : (cs.drop 9).take 1 = [.slice A n c]) : n ≤ 4398046511104 := by
  obtain ⟨xs, k, _, hx, _, hxl, hf⟩ := DataW.trod_struct hs h
  injection hx with hd _
  subst hd
  have k1 := hf 1 f1 rfl
  have hxl' : xs.length = 3 := hxl
  obtain ⟨y1, hy1⟩ : ∃ y, xs[1]? = some y := ⟨_, List.getElem?_eq_getElem (by omega)⟩
  rw [hy1, ho1, hc1, h9] at k1
  rcases open_slice h1 k1 with ⟨hcs, _⟩ | ⟨a, len, cap, m, n', D, Pl, hcs, _, _, _, _, hy, _⟩
  · simp at hcs
    omega
  · simp at hcs
    obtain ⟨_, rfl, _⟩ := hcs
    subst hy
    have hm : (n + (m - n)) * 32 ∈ DataW.weightsEach P ts ds := by
      refine DataW.weights_mem_each hts hds _ ?_
      simp only [DataW.weights, hs]
      refine DataW.weights_mem_each (j := 1) (t := f1.type) rfl (by rw [List.getElem?_map, hy1]; rfl) _ ?_
      simp only [DataW.weights, h1, List.length_map, List.length_range, hb]
      exact List.mem_cons_self ..
    have h2 := List.all_eq_true.1 hall _ hm
    have h3 := reachBytes_lt
    have h4 := of_decide_eq_true h2
    omega

theorem two_cells {cs : Array Value} {u v : Value} (h : cs.toList = [u, v]) : cs = #[u, v] := by
  rw [← Array.toArray_toList (xs := cs), h]
/-! The row's step -/
set_option maxRecDepth 100000 in
theorem lifted (os : Os) (started : os.Started) (H : Type) (enc : TypeId × Value → H) :
    ReturnsInHanded {} Try.checked os 3 .any (Rows.traceChecksSpec.pre6 enc Try.prog Try.f3 Rows.traceChecksRow.domain false) (Rows.traceChecksSpec.post enc Try.prog Try.f3 false true false false) := by
  refine returnsInHanded_of_change_sized (C := Try.checked) own started (by kernel_rfl) Try.func3
    (ChangeSpec.witness6 (enc := enc) (C := Try.checked) false ⟨#[], #[.agg #[.int .i64 0, .int .i64 0, .int .i64 0, .int .i64 0, .int .i64 0, .int .i64 0, .int .i64 0, .int .i64 0, .slice none 0 0, .slice none 0 0, .slice none 0 0], .agg #[.slice none 0 0, .slice none 0 0], .int .i64 0], []⟩ 8 (by kernel_rfl) (by kernel_rfl) (by kernel_rfl) (by kernel_rfl)) ?_
  intro W base args ds gs before hval0 hW hcnd hsz _
  have hval : ∀ (j : Nat) t v, Try.f3.params[j]? = some t → args[j]? = some v → Value.okWide Try.prog W .any base t v := hval0
  have hW' := hW
  obtain ⟨p, q, hA0, hV, rfl, hfz, hnd⟩ := hW
  have hA : DataW.TrodAll enc Try.prog W 0 (fun _ => true) true Try.f3.params.toList args.toList ds p := hA0
  rw [Try.params3] at hA hval
  obtain ⟨v0, vs0, d0, ds0, p0, q0, hargs, rfl, rfl, h0, r0⟩ := trodAll_cons hA
  obtain ⟨v1, vs1, d1, ds1, p1, q1, rfl, rfl, rfl, h1, r1⟩ := trodAll_cons r0
  obtain ⟨v2, vs2, d2, ds2, p2, q2, rfl, rfl, rfl, h2, r2⟩ := trodAll_cons r1
  obtain ⟨rfl, rfl, rfl⟩ := trodAll_nil r2
  obtain rfl : args = #[v0, v1, v2] := by cases args; simp_all
  obtain ⟨rfl, rfl⟩ := trodVars_none hV
  obtain ⟨c0, rfl, _⟩ := okWide_struct Try.underlying28 (hval 0 28 v0 rfl rfl)
  obtain ⟨x0, rfl, _⟩ := okWide_struct Try.underlying32 (hval 1 32 v1 rfl rfl)
  obtain ⟨a2, rfl, rfl, rfl, w2⟩ := open_int Try.underlying3 (hval 2 3 v2 rfl rfl) h2
  have k0 := h0
  have k1 := h1
  have lt1 : ∀ x ∈ p1, x.block < W.heap.size := by obtain ⟨m, hm⟩ := k1; exact DataW.trod_lt m _ _ _ hm
  have lt0 : ∀ x ∈ p0, x.block < W.heap.size := by obtain ⟨m, hm⟩ := k0; exact DataW.trod_lt m _ _ _ hm
  obtain ⟨tv, ev, cv, T, hc, ht⟩ : ∃ tv ev cv T, c0.toList = (tabC T.sys tv ev cv).toList ∧ IsTab W tv ev cv T := by
    obtain ⟨fuel, hf⟩ := h0
    exact open_tb Try.underlying28 (by kernel_rfl) rfl rfl rfl (by kernel_rfl) (by kernel_rfl) (by kernel_rfl)
      (fun fuel cs x hx => open_sy Try.underlying24 (by kernel_rfl) (by kernel_rfl) Try.underlying3 Try.underlying3 Try.underlying3 Try.underlying3 Try.underlying3 Try.underlying3 Try.underlying3 Try.underlying3 Try.underlying22 (by kernel_rfl)
        (opens_tsk (sl := 3) Try.underlying55 (by kernel_rfl) (by kernel_rfl) Try.underlying3 Try.underlying3 Try.underlying3 Try.underlying53 (by kernel_rfl)
          (opens_sec Try.underlying128 (by kernel_rfl) (by kernel_rfl) Try.underlying3 Try.underlying3 Try.underlying3)) hx)
      Try.underlying25 (by kernel_rfl)
      (opens_en Try.underlying95 (by kernel_rfl) (by kernel_rfl) Try.underlying52 (by kernel_rfl)
        (opens_pc Try.underlying62 (by kernel_rfl) (by kernel_rfl) Try.underlying3 Try.underlying3 Try.underlying3 Try.underlying3 Try.underlying4) Try.underlying3)
      Try.underlying26 (by kernel_rfl) Try.underlying39 (by kernel_rfl) Try.underlying3 hf
  obtain ⟨A0, cA0, rfl, _⟩ := ht.sys.tasks.shape
  obtain ⟨A1, cA1, rfl, _⟩ := ht.ents.shape
  obtain ⟨A2, cA2, rfl, _⟩ := ht.ceil.shape
  obtain rfl : c0 = tabC T.sys (.slice A0 T.sys.tasks.length cA0) (.slice A1 T.ents.length cA1) (.slice A2 T.ceil.length cA2) := by rw [← Array.toArray_toList (xs := c0), hc]
  have hlen : T.ents.length ≤ 4398046511104 := by
    obtain ⟨fuel, hf⟩ := k0
    exact tb_reach hsz (t := 28) (by kernel_rfl) rfl Try.underlying28 rfl (by kernel_rfl) Try.underlying25 (by kernel_rfl) hf rfl
  obtain ⟨u, v, X, hxc, hx, harr⟩ : ∃ u v X, x0 = #[u, v] ∧ IsTr W u v X ∧ ∀ y ∈ X.jobs, I64 y.arr := by
    obtain ⟨fuel, hf⟩ := h1
    obtain ⟨u, v, X, hc, hx, hj⟩ := open_tr (tss := 3) (tj := 3) Try.underlying32 (by kernel_rfl) (by kernel_rfl) Try.underlying29 (by kernel_rfl) Try.underlying42 (by kernel_rfl)
      (opens_sl Try.underlying78 (by kernel_rfl) (by kernel_rfl) Try.underlying3 Try.underlying3 Try.underlying3)
      Try.underlying30 (by kernel_rfl) (opens_jb Try.underlying45 (by kernel_rfl) (by kernel_rfl) Try.underlying3 Try.underlying3 Try.underlying3 Try.underlying4 Try.underlying4) hf
    exact ⟨u, v, X, two_cells hc, hx, hj⟩
  subst hxc
  obtain ⟨AX, cAX, rfl, _⟩ := hx.slots.shape
  obtain ⟨BX, cBX, rfl, _⟩ := hx.jobs.shape
  clear hA0 hval0 hc
  refine (traceChecks_any (w := W) T X A0 _ cA0 A1 _ cA1 A2 _ cA2 AX _ cAX BX _ cBX a2 ht hx hlen harr).mono fun e W' ⟨he, bel⟩ => ?_
  subst he
  exact ⟨_, rfl, _, _, _, [], _, [], hW', trodAll_mk1 (shut_bool Try.underlying4 _), (trodAll_cons_mk (Below.trod laidOut (by kernel_rfl) (of_decide_eq_true (by kernel_rfl)) k0 bel lt0) (trodAll_cons_mk (Below.trod laidOut (by kernel_rfl) (of_decide_eq_true (by kernel_rfl)) k1 bel lt1) (trodAll_cons_mk (shut_int Try.underlying3 w2) trodAll_mk0))), rfl, bel.frame _, fun h => by cases h⟩

theorem over : Rows.traceChecksRow.holds Try.pinned (OpenSpec.ofChange Rows.traceChecksSpec) :=
  OpenClaim.holds_of_wide 3 Try.f3 rfl rfl rfl rfl rfl rfl rfl ⟨rfl, rfl, rfl, rfl, rfl⟩ rfl rfl rfl rfl rfl (by kernel_rfl) Try.func3 (by kernel_rfl)
    (of_decide_eq_true (by kernel_rfl)) (by unfold Func.isWrapper; first | (rw [if_pos (by decide +kernel)]; kernel_rfl) | (rw [if_neg (by decide +kernel)]; exact ⟨rfl, rfl⟩))
    (fun os started H enc _ => lifted os started H enc)

/-- The statement. -/
theorem proved : Rows.TraceChecksSaid := over
#print axioms proved
end Go.Proofs.Ytmhochjpdedlgaa.traceChecks
