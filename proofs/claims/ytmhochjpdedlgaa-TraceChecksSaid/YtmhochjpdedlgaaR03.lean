/- Joined: Ref22a, Ref22b, Ref22c, Ref22d, Ref22e. -/
import Derived.Test.YtmhochjpdedlgaaQ44
import Derived.Deep.QuietTactic
import Derived.BigQuiet
/- Package tourbillonref22: units, amounts (contracts). -/
set_option linter.unusedVariables false
set_option linter.unusedSimpArgs false
namespace Go.Proofs.Ytmhochjpdedlgaa
open Go.RowKit

def lastB (L : List Int) (y : Int) : Bool := match L.getLast? with | none => false | some x => decide (x = y)
theorem amountB_last {S : Sy} {X : Tr} {i n : Nat} {j : Jb} {t : Tsk} (hn : n = X.slots.length) (hj : X.jobs[i]? = some j) (ht : tskAt S j.task = t) (hf : j.fin = -1 ∨ ∃ f : Nat, j.fin = (f : Int) ∧ 0 < f ∧ f ≤ n) :
    amountB S X i = (decide (((workN X j n).length : Int) ≤ t.wc) && (decide (j.fin = -1) || lastB (workN X j n) (j.fin - 1))) := by
  subst hn
  unfold amountB
  rw [hj]
  simp only [ht]
  rcases hf with hf | ⟨f, hf, h0, h1⟩
  · rw [decide_eq_true hf]
    rfl
  · rw [hf, Int.toNat_natCast, ← work_last (X := X) hf h0 h1]
    unfold lastB
    rfl
section
variable {w : World}
set_option maxRecDepth 100000 in
set_option maxHeartbeats 3200000 in
theorem units_any (X : Tr) (A : Option Addr) (n c : Nat) (A2 : Option Addr) (m c2 : Nat) (i : Int) (t : Nat) (h : IsTr w (.slice A n c) (.slice A2 m c2) X) (hn6 : n ≤ 1000000) (ht : t ≤ n) :
    Calls Try.prog 82 #[trV (.slice A n c) (.slice A2 m c2), .int .i64 i, .int .i64 t] w fun e w' => ∃ u : Nat, e = .returned (.int .i64 u) ∧ (∀ (k : Nat) j, i = (k : Int) → X.jobs[k]? = some j → u = unitN X j t) ∧ (i < 0 → u = 0) ∧ Below w.heap.size w w' := by
  have hn := h.slots.len
  have HW := hid (fun W (k : Below w.heap.size w W) => work22_any (w := W) X A n c A2 m c2 i (h.later k) hn6)
  have HUB := hid (show ∀ (k : Nat) (x : Int), (workL X i)[k]? = some x → ∀ (a : Nat) j, i = (a : Int) → X.jobs[a]? = some j → (x < t ↔ k < unitN X j t) from fun k x hx a j hi hj => by
    have : workL X i = workN X j n := by
      unfold workL
      rw [if_pos ⟨by omega, by have := (List.getElem?_eq_some_iff.1 hj).1; omega⟩, show i.toNat = a by omega, hj, hn]
      rfl
    rw [this] at hx
    exact workN_at ht hx)
  have HLE := hid (show ∀ (a : Nat) j, i = (a : Int) → X.jobs[a]? = some j → unitN X j t ≤ (workL X i).length from fun a j hi hj => by
    have : workL X i = workN X j n := by
      unfold workL
      rw [if_pos ⟨by omega, by have := (List.getElem?_eq_some_iff.1 hj).1; omega⟩, show i.toNat = a by omega, hj, hn]
      rfl
    rw [this]
    exact unitN_le ht)
  have HNEG := hid (show i < 0 → workL X i = [] from fun hi => if_neg (by omega))
  have hlb : (workL X i).length ≤ 1000000 := by
    unfold workL
    split
    · cases hj : X.jobs[i.toNat]? with
      | none => simp
      | some j =>
        have h1 : (workN X j X.slots.length).length ≤ X.slots.length := unitN_bound (X := X) (j := j) _
        simp
        omega
    · simp
  obtain ⟨L, hL⟩ : ∃ L, workL X i = L := ⟨_, rfl⟩
  rw [hL] at HUB HLE HNEG hlb HW
  unfold trV at *
  have hbe := below_new (Below.refl w.heap.size w) (.cells #[.slice A n c, .slice A2 m c2] 32)
  have hq := blk_new w (.cells #[.slice A n c, .slice A2 m c2] 32)
  clear h hn hL
  go_enter Try.func82, Try.ntmps82
  go_upto_region 1 with fail
  generalize w.alloc (.cells #[.slice A n c, .slice A2 m c2] 32) = w1 at hbe hq ⊢
  have x0 : w1.cell? ⟨w.heap.size, 0, none⟩ = some (.slice A n c) := blk_cell hq 0
  have x1 : w1.cell? ⟨w.heap.size, 1, none⟩ = some (.slice A2 m c2) := blk_cell hq 1
  have HB1 := hid hbe
  have H1 := hid (HW.out w1 hbe)
  clear hbe hq
  go_wp2_with fail
  refine H1.out.mono ?_
  rintro e w2 ⟨u, rfl, ho, hb2⟩
  obtain ⟨ln, hln⟩ : ∃ ln, L.length = ln := ⟨_, rfl⟩
  rw [hln] at ho hlb
  obtain ⟨Au, cu, rfl⟩ := own_slice ho
  have HO := hid ho
  have HLN := hid hln
  have HB2 := hid (below_then HB1.out hb2)
  clear ho hln hb2 x0 x1
  go_wp2_with fail
  go_loopw [8] (fun v wr => ∃ k : Nat, k ≤ ln ∧ v = .int .i64 k ∧ Hid (∀ a x, a < k → L[a]? = some x → x < (t : Int)) ∧ Hid (w2 = wr)) (fun v _ => ln - (intOf v).toNat)
  case atStart => exact ⟨0, by omega, rfl, hid (fun a x h => by omega), hid rfl⟩
  case round =>
    obtain ⟨k, hk, rfl, HP, HWW⟩ := hrel
    have hww := HWW.out
    subst hww
    clear HWW
    by_cases hlt : k < ln
    case neg =>
      obtain rfl : k = ln := by omega
      have HR := hid (show (∀ (a : Nat) j, i = (a : Int) → X.jobs[a]? = some j → k = unitN X j t) ∧ (i < 0 → k = 0) from ⟨fun a j hi hj => by
        have h1 := HLE.out a j hi hj
        rw [HLN.out] at h1
        rcases Nat.lt_or_ge (unitN X j t) k with h2 | h2
        · obtain ⟨x, hx⟩ : ∃ x, L[unitN X j t]? = some x := ⟨_, List.getElem?_eq_getElem (by have := HLN.out; omega)⟩
          have h3 := (HUB.out _ x hx a j hi hj).1 (HP.out _ x h2 hx)
          omega
        · omega, fun hi => by rw [← HLN.out, HNEG.out hi]; rfl⟩)
      go_wp2_with fail
      go_ret
      exact ⟨_, rfl, HR.out.1, HR.out.2, HB2.out⟩
    case pos =>
      obtain ⟨gu, capu, _, he, _⟩ := own_shape HO.out (by omega)
      injection he with e1 _ e3
      subst e1
      subst e3
      obtain ⟨x, hx⟩ : ∃ x, L[k]? = some x := ⟨_, List.getElem?_eq_getElem (by have := HLN.out; omega)⟩
      have HX := hid hx
      have u0 : w2.cell? ⟨gu, k, none⟩ = some (.int .i64 x) := own_cell0 HO.out (by unfold intCells; rw [List.getElem?_map, hx]; rfl)
      clear hx
      by_cases hxt : x < (t : Int)
      case pos =>
        have HPN := hid (show ∀ a y, a < k + 1 → L[a]? = some y → y < (t : Int) from fun a y ha hy => by
          by_cases e : a = k
          · subst e
            rw [HX.out] at hy
            injection hy with hy
            omega
          · exact HP.out a y (by omega) hy)
        go_wp2_with fail
        go_roundw
        case rel => exact ⟨k + 1, by omega, by go_num, HPN, by first | trivial | exact hid rfl⟩
        case measure => simp [intOf]; omega
      case neg =>
        have HR := hid (show (∀ (a : Nat) j, i = (a : Int) → X.jobs[a]? = some j → k = unitN X j t) ∧ (i < 0 → k = 0) from ⟨fun a j hi hj => by
          have h0 : ¬ k < unitN X j t := fun h => hxt ((HUB.out k x HX.out a j hi hj).2 h)
          have h1 := HLE.out a j hi hj
          rw [HLN.out] at h1
          rcases Nat.lt_or_ge (unitN X j t) k with h2 | h2
          · obtain ⟨y, hy⟩ : ∃ y, L[unitN X j t]? = some y := ⟨_, List.getElem?_eq_getElem (by have := HLN.out; omega)⟩
            have h3 := (HUB.out _ y hy a j hi hj).1 (HP.out _ y h2 hy)
            omega
          · omega, fun hi => by have h1 := HNEG.out hi; have h2 := HX.out; rw [h1] at h2; simp at h2⟩)
        go_wp2_with fail
        go_ret
        exact ⟨_, rfl, HR.out.1, HR.out.2, HB2.out⟩
end
end Go.Proofs.Ytmhochjpdedlgaa
/- Package tourbillonref22: amounts (contract). -/
set_option linter.unusedVariables false
set_option linter.unusedSimpArgs false
namespace Go.Proofs.Ytmhochjpdedlgaa
open Go.RowKit

section
variable {w : World}
set_option maxRecDepth 100000 in
set_option maxHeartbeats 6400000 in
theorem amounts_any (S : Sy) (X : Tr) (At : Option Addr) (nt ct : Nat) (ev cv : Value) (A : Option Addr) (n cp : Nat) (A2 : Option Addr) (m c2 : Nat) (i : Nat) (j : Jb)
    (h : IsTr w (.slice A n cp) (.slice A2 m c2) X) (hT : Rowp 4 tskR w (.slice At nt ct) S.tasks) (hn6 : n ≤ 1000000) (hj : X.jobs[i]? = some j) (hh : jobHead S.tasks.length X.slots.length j = true) :
    Calls Try.prog 39 #[tabV S (.slice At nt ct) ev cv, trV (.slice A n cp) (.slice A2 m c2), .int .i64 i] w fun e w' => e = .returned (.bool (amountB S X i)) ∧ Below w.heap.size w w' := by
  have hn := h.slots.len
  have hm := h.jobs.len
  have hnt := hT.len
  have hmm : m ≤ 9223372036854775807 := by have := h.jobs.room; unfold maxLen at this; omega
  have hntm : nt ≤ 9223372036854775807 := by have := hT.room; unfold maxLen at this; omega
  have hi : i < m := by have := (List.getElem?_eq_some_iff.1 hj).1; omega
  have hh' := of_decide_eq_true hh
  obtain ⟨q, hq⟩ : ∃ q : Nat, j.task = q := ⟨j.task.toNat, by omega⟩
  have hqn : q < nt := by omega
  obtain ⟨t, ht⟩ : ∃ t, S.tasks[q]? = some t := ⟨_, List.getElem?_eq_getElem (by omega)⟩
  have htk : tskAt S j.task = t := by unfold tskAt; rw [hq, Int.toNat_natCast, ht]; rfl
  have hfx : j.fin = -1 ∨ ∃ f : Nat, j.fin = (f : Int) ∧ 0 < f ∧ f ≤ n := by
    rcases hh'.2.2.2.2.2 with h1 | h1
    · exact .inl h1
    · exact .inr ⟨j.fin.toNat, by omega, by omega, by omega⟩
  have HAM := hid (amountB_last hn hj htk hfx)
  have HWK := hid (show workL X i = workN X j n from by
    unfold workL
    rw [if_pos ⟨by omega, by omega⟩, Int.toNat_natCast, hj, hn]
    rfl)
  have hub : (workN X j n).length ≤ n := unitN_bound (X := X) (j := j) n
  obtain ⟨b, o, cs, hA, hbl, _, hc, hr⟩ := h.jobs.at hj
  subst hA
  have hr' : cs = [.int .i64 j.task, .int .i64 j.arr, .int .i64 j.fin, .bool j.cut, .bool j.miss] := hr
  subst hr'
  obtain ⟨b3, o3, cs3, hA3, hbl3, _, hc3, u3, hr3, hru3⟩ := hT.at ht
  subst hA3
  subst hr3
  rw [hq] at hc
  have HW := hid (fun W (k : Below w.heap.size w W) => work22_any (w := W) X A n cp (some ⟨b, o, none⟩) m c2 i (h.later k) hn6)
  rw [HWK.out] at HW
  obtain ⟨L, hL⟩ : ∃ L, workN X j n = L := ⟨_, rfl⟩
  rw [hL] at HAM HW hub
  obtain ⟨ln, hln⟩ : ∃ ln, L.length = ln := ⟨_, rfl⟩
  rw [hln] at HAM HW hub
  have HLN := hid hln
  obtain ⟨jt, ja, jf, jc, jm⟩ := j
  simp only at hc HAM hfx
  obtain ⟨twc, htwc⟩ : ∃ v, t.wc = v := ⟨_, rfl⟩
  rw [htwc] at HAM hc3
  have hz : ∀ (w : World) o, (w.alloc o).heap.size = w.heap.size + 1 := fun w o => by simp
  obtain ⟨wb, hwb⟩ : ∃ wb, wb = (w.alloc (.cells #[.int .i64 S.cores, .int .i64 S.policy, .int .i64 S.prot, .int .i64 S.rel, .int .i64 S.sw, .int .i64 S.fin, .int .i64 S.lat, .int .i64 S.resn, .slice (some ⟨b3, o3, none⟩) nt ct, ev, cv] 28)).alloc (.cells #[.slice A n cp, .slice (some ⟨b, o, none⟩) m c2] 32) := ⟨_, rfl⟩
  have hq0 := blk_old (blk_new w (.cells #[.int .i64 S.cores, .int .i64 S.policy, .int .i64 S.prot, .int .i64 S.rel, .int .i64 S.sw, .int .i64 S.fin, .int .i64 S.lat, .int .i64 S.resn, .slice (some ⟨b3, o3, none⟩) nt ct, ev, cv] 28)) (.cells #[.slice A n cp, .slice (some ⟨b, o, none⟩) m c2] 32)
  have hq1 := blk_new (w.alloc (.cells #[.int .i64 S.cores, .int .i64 S.policy, .int .i64 S.prot, .int .i64 S.rel, .int .i64 S.sw, .int .i64 S.fin, .int .i64 S.lat, .int .i64 S.resn, .slice (some ⟨b3, o3, none⟩) nt ct, ev, cv] 28)) (.cells #[.slice A n cp, .slice (some ⟨b, o, none⟩) m c2] 32)
  have hbb := below_new (below_new (Below.refl w.heap.size w) (.cells #[.int .i64 S.cores, .int .i64 S.policy, .int .i64 S.prot, .int .i64 S.rel, .int .i64 S.sw, .int .i64 S.fin, .int .i64 S.lat, .int .i64 S.resn, .slice (some ⟨b3, o3, none⟩) nt ct, ev, cv] 28)) (.cells #[.slice A n cp, .slice (some ⟨b, o, none⟩) m c2] 32)
  rw [hz] at hq1
  rw [← hwb] at hq0 hq1 hbb
  have e0 : wb.cell? ⟨b, o + i * 5, none⟩ = some (.int .i64 q) := (hbb.cell (p := ⟨b, o + i * 5, none⟩) hbl).trans (by simpa using hc 0 _ rfl)
  have e1 : wb.cell? ⟨b, o + i * 5 + 1, none⟩ = some (.int .i64 ja) := (hbb.cell (p := ⟨b, o + i * 5 + 1, none⟩) hbl).trans (hc 1 _ rfl)
  have e2 : wb.cell? ⟨b, o + i * 5 + 2, none⟩ = some (.int .i64 jf) := (hbb.cell (p := ⟨b, o + i * 5 + 2, none⟩) hbl).trans (hc 2 _ rfl)
  have e3 : wb.cell? ⟨b, o + i * 5 + 3, none⟩ = some (.bool jc) := (hbb.cell (p := ⟨b, o + i * 5 + 3, none⟩) hbl).trans (hc 3 _ rfl)
  have e4 : wb.cell? ⟨b, o + i * 5 + 4, none⟩ = some (.bool jm) := (hbb.cell (p := ⟨b, o + i * 5 + 4, none⟩) hbl).trans (hc 4 _ rfl)
  have g1 : wb.cell? ⟨w.heap.size + 1, 1, none⟩ = some (.slice (some ⟨b, o, none⟩) m c2) := blk_cell hq1 1
  have HTC := hid (show w.cell? ⟨b3, o3 + q * 4 + 2, none⟩ = some (.int .i64 twc) from hc3 2 _ rfl)
  have HBL3 := hid hbl3
  have HQA := hid hq0
  have HQB := hid hq1
  have HBB := hid hbb
  unfold tabV tabC trV at *
  clear h hT hn hm hnt hj hh hh' hq ht htk hc hr hbl hbl3 hc3 hru3 hL hln htwc hz hq0 hq1 hbb
  go_enter Try.func39, Try.ntmps39
  go_upto_region 1 with fail
  rw [← hwb]
  clear hwb
  go_upto_region 2 with fail
  have HB0 := hid (below_new HBB.out (.cells #[.int .i64 q, .int .i64 ja, .int .i64 jf, .bool jc, .bool jm] 45))
  have hd0 := blk_new wb (.cells #[.int .i64 q, .int .i64 ja, .int .i64 jf, .bool jc, .bool jm] 45)
  have HTA := hid (blk_old HQA.out (.cells #[.int .i64 q, .int .i64 ja, .int .i64 jf, .bool jc, .bool jm] 45))
  have HTB := hid (blk_old HQB.out (.cells #[.int .i64 q, .int .i64 ja, .int .i64 jf, .bool jc, .bool jm] 45))
  generalize wb.alloc (.cells #[.int .i64 q, .int .i64 ja, .int .i64 jf, .bool jc, .bool jm] 45) = w1 at *
  obtain ⟨D, hD⟩ : ∃ D, wb.heap.size = D := ⟨_, rfl⟩
  rw [hD] at hd0 ⊢
  have HQ0 := hid hd0
  clear e0 e1 e2 e3 e4 g1 hd0 hD
  have x0 : w1.cell? ⟨w.heap.size + 1, 0, none⟩ = some (.slice A n cp) := blk_cell HTB.out 0
  have x1 : w1.cell? ⟨w.heap.size + 1, 1, none⟩ = some (.slice (some ⟨b, o, none⟩) m c2) := blk_cell HTB.out 1
  have H1 := hid (HW.out w1 HB0.out)
  go_wp2_with fail
  refine H1.out.mono ?_
  rintro e w2 ⟨u, rfl, ho, hb2⟩
  obtain ⟨Au, cu, rfl⟩ := own_slice ho
  have HO := hid ho
  have HB2 := hid (below_then HB0.out hb2)
  have HQ2 := hid ((fr0 hb2).blk HQ0.out (fun h => h))
  have HTA2 := hid ((fr0 hb2).blk HTA.out (fun h => h))
  clear ho hb2 x0 x1
  have f0 : w2.cell? ⟨D, 0, none⟩ = some (.int .i64 q) := blk_cell HQ2.out 0
  have f2 : w2.cell? ⟨D, 2, none⟩ = some (.int .i64 jf) := blk_cell HQ2.out 2
  have k8 : w2.cell? ⟨w.heap.size, 8, none⟩ = some (.slice (some ⟨b3, o3, none⟩) nt ct) := blk_cell HTA2.out 8
  have t2 : w2.cell? ⟨b3, o3 + q * 4 + 2, none⟩ = some (.int .i64 twc) := (HB2.out.cell (p := ⟨b3, o3 + q * 4 + 2, none⟩) HBL3.out).trans HTC.out
  by_cases hw : (ln : Int) ≤ twc
  case neg =>
    have hw' : twc < (ln : Int) := by omega
    have HFA := hid (show amountB S X i = false from by rw [HAM.out, decide_eq_false hw]; rfl)
    go_wp2_with fail
    go_ret
    exact ⟨by rw [HFA.out]; rfl, HB2.out⟩
  case pos =>
    have hw' : ¬ twc < (ln : Int) := by omega
    have HAM2 := hid (show amountB S X i = (decide (jf = -1) || lastB L (jf - 1)) from by rw [HAM.out, decide_eq_true hw, Bool.true_and])
    clear hw
    go_upto_region 5 with fail
    clear k8 t2 f0 hw'
    by_cases y6 : jf = -1
    case pos =>
      have y6b : (jf == -1) = true := beq_iff_eq.2 y6
      have HFA := hid (show amountB S X i = true from by rw [HAM2.out, decide_eq_true y6]; rfl)
      clear y6 hfx
      go_quiet (fail)
      have HBQ := hid (below_drewN' HB2.out nq)
      clear f2
      go_wp2_with fail
      go_ret
      exact ⟨by rw [HFA.out]; rfl, HBQ.out⟩
    case neg =>
      have y6b : (jf == -1) = false := beq_eq_false_iff_ne.2 y6
      obtain ⟨f, hf, hf0, hfn⟩ := hfx.resolve_left y6
      subst hf
      have hw1 : IntKind.i64.wrap ((f : Int) - 1) = (f : Int) - 1 := by rw [IntKind.wrap_i64]; omega
      have HAM3 := hid (show amountB S X i = lastB L ((f : Int) - 1) from by rw [HAM2.out, decide_eq_false y6, Bool.false_or])
      clear y6
      by_cases h0 : ln = 0
      case pos =>
        have h0b : ¬ 0 < ln := by omega
        have HFA := hid (show amountB S X i = false from by
          rw [HAM3.out, List.length_eq_zero_iff.1 (HLN.out.trans h0)]
          rfl)
        clear h0
        go_quiet (fail)
        have HBQ := hid (below_drewN' HB2.out nq)
        clear f2
        go_wp2_with fail
        go_ret
        exact ⟨by rw [HFA.out]; rfl, HBQ.out⟩
      case neg =>
        have h0b : 0 < ln := by omega
        obtain ⟨k, hk⟩ : ∃ k, k + 1 = ln := ⟨ln - 1, by omega⟩
        have hkl : k < ln := by omega
        have hwk : IntKind.i64.wrap ((ln : Int) - 1) = ((k : Nat) : Int) := by rw [IntKind.wrap_i64]; omega
        obtain ⟨gu, capu, _, he, _⟩ := own_shape HO.out h0b
        injection he with e1 _ e3
        subst e1
        subst e3
        obtain ⟨x, hx⟩ : ∃ x, L[k]? = some x := ⟨_, List.getElem?_eq_getElem (by have := HLN.out; omega)⟩
        have u0 : w2.cell? ⟨gu, k, none⟩ = some (.int .i64 x) := own_cell0 HO.out (by unfold intCells; rw [List.getElem?_map, hx]; rfl)
        have HFA := hid (show amountB S X i = (x == (f : Int) - 1) from by
          rw [HAM3.out]
          unfold lastB
          rw [List.getLast?_eq_getElem?, show L.length - 1 = k by have := HLN.out; omega, hx]
          rfl)
        clear h0 hk hx
        go_quiet (fail)
        have HBQ := hid (below_drewN' HB2.out nq)
        clear f2 u0
        go_wp2_with fail
        go_ret
        exact ⟨by rw [HFA.out]; rfl, HBQ.out⟩
end
end Go.Proofs.Ytmhochjpdedlgaa
/- Package tourbillonref22: place (contract). -/
set_option linter.unusedVariables false
set_option linter.unusedSimpArgs false
namespace Go.Proofs.Ytmhochjpdedlgaa
open Go.RowKit

attribute [local irreducible] wpQuiet
section
variable {w : World}
set_option maxRecDepth 100000 in
set_option maxHeartbeats 6400000 in
theorem rplace_any (T : Tb) (X : Tr) (At : Option Addr) (nt ct : Nat) (Ae : Option Addr) (ne ce : Nat) (cv : Value) (A : Option Addr) (n cp : Nat) (A2 : Option Addr) (m c2 : Nat) (tick c : Nat) (l : List Sl) (s : Sl)
    (hx : IsTr w (.slice A n cp) (.slice A2 m c2) X) (hes : Rowp 2 entR w (.slice Ae ne ce) T.ents) (hn6 : n ≤ 1000000) (hl : X.slots[tick]? = some l) (hs : l[c]? = some s) (hsh : shapeB nt s = true) (hne : ne = nt) (hact : s.kind = 2 → (activeI X.jobs s.task tick).isSome = true) (hbud : ∀ e ∈ T.ents, ∀ p ∈ e.ps, 0 ≤ p.bud) :
    Calls Try.prog 41 #[tabV T.sys (.slice At nt ct) (.slice Ae ne ce) cv, trV (.slice A n cp) (.slice A2 m c2), .int .i64 tick, .int .i64 c] w fun e w' => e = .returned (.bool (placeB T X tick c)) ∧ Below w.heap.size w w' := by
  have hn := hx.slots.len
  have hel := hes.len
  have htn : tick < n := by have := (List.getElem?_eq_some_iff.1 hl).1; omega
  have HP := hid (placeB_at (T := T) hl hs)
  have HAX := hid (fun W (k : Below w.heap.size w W) (tk : Int) => active22_any (w := W) X (.slice A n cp) A2 m c2 tk tick (hx.jobs.later jbR.stays k))
  have HUX := hid (fun W (k : Below w.heap.size w W) (a : Int) => units_any (w := W) X A n cp A2 m c2 a tick (hx.later k) hn6 (Nat.le_of_lt htn))
  obtain ⟨b, o, cs, hA, hbl, _, hcs, u, hr, hru⟩ := hx.slots.at hl
  subst hA
  subst hr
  obtain ⟨A4, c4, hu4, hr4⟩ := hru.shape
  obtain ⟨n4, hn4⟩ : ∃ n4, l.length = n4 := ⟨_, rfl⟩
  have hc : c < n4 := by have := (List.getElem?_eq_some_iff.1 hs).1; omega
  rw [hn4] at hu4 hr4
  subst hu4
  have hn4m : n4 ≤ 9223372036854775807 := by unfold maxLen at hr4; omega
  obtain ⟨b5, o5, cs5, hA5, hbl5, _, hcs5, hr5⟩ := hru.at hs
  subst hA5
  have hr5' : cs5 = [.int .i64 s.kind, .int .i64 s.task, .int .i64 s.oth] := hr5
  subst hr5'
  have HES := hid hes
  have HNE := hid hne
  have HEL := hid hel
  have HAC := hid hact
  have HBU := hid hbud
  have HSH := hid hsh
  obtain ⟨sk, st, so⟩ := s
  simp only at hcs5 HP HAC
  have hz : ∀ (w : World) o, (w.alloc o).heap.size = w.heap.size + 1 := fun w o => by simp
  obtain ⟨wb, hwb⟩ : ∃ wb, wb = (w.alloc (.cells #[.int .i64 T.sys.cores, .int .i64 T.sys.policy, .int .i64 T.sys.prot, .int .i64 T.sys.rel, .int .i64 T.sys.sw, .int .i64 T.sys.fin, .int .i64 T.sys.lat, .int .i64 T.sys.resn, .slice At nt ct, .slice Ae ne ce, cv] 28)).alloc (.cells #[.slice (some ⟨b, o, none⟩) n cp, .slice A2 m c2] 32) := ⟨_, rfl⟩
  have hq0 := blk_old (blk_new w (.cells #[.int .i64 T.sys.cores, .int .i64 T.sys.policy, .int .i64 T.sys.prot, .int .i64 T.sys.rel, .int .i64 T.sys.sw, .int .i64 T.sys.fin, .int .i64 T.sys.lat, .int .i64 T.sys.resn, .slice At nt ct, .slice Ae ne ce, cv] 28)) (.cells #[.slice (some ⟨b, o, none⟩) n cp, .slice A2 m c2] 32)
  have hq1 := blk_new (w.alloc (.cells #[.int .i64 T.sys.cores, .int .i64 T.sys.policy, .int .i64 T.sys.prot, .int .i64 T.sys.rel, .int .i64 T.sys.sw, .int .i64 T.sys.fin, .int .i64 T.sys.lat, .int .i64 T.sys.resn, .slice At nt ct, .slice Ae ne ce, cv] 28)) (.cells #[.slice (some ⟨b, o, none⟩) n cp, .slice A2 m c2] 32)
  have hbb := below_new (below_new (Below.refl w.heap.size w) (.cells #[.int .i64 T.sys.cores, .int .i64 T.sys.policy, .int .i64 T.sys.prot, .int .i64 T.sys.rel, .int .i64 T.sys.sw, .int .i64 T.sys.fin, .int .i64 T.sys.lat, .int .i64 T.sys.resn, .slice At nt ct, .slice Ae ne ce, cv] 28)) (.cells #[.slice (some ⟨b, o, none⟩) n cp, .slice A2 m c2] 32)
  rw [hz] at hq1
  rw [← hwb] at hq0 hq1 hbb
  have e0 : wb.cell? ⟨b, o + tick, none⟩ = some (.slice (some ⟨b5, o5, none⟩) n4 c4) := (hbb.cell (p := ⟨b, o + tick, none⟩) hbl).trans (by simpa using hcs 0 _ rfl)
  have f0 : wb.cell? ⟨b5, o5 + c * 3, none⟩ = some (.int .i64 sk) := (hbb.cell (p := ⟨b5, o5 + c * 3, none⟩) hbl5).trans (by simpa using hcs5 0 _ rfl)
  have f1 : wb.cell? ⟨b5, o5 + c * 3 + 1, none⟩ = some (.int .i64 st) := (hbb.cell (p := ⟨b5, o5 + c * 3 + 1, none⟩) hbl5).trans (hcs5 1 _ rfl)
  have f2 : wb.cell? ⟨b5, o5 + c * 3 + 2, none⟩ = some (.int .i64 so) := (hbb.cell (p := ⟨b5, o5 + c * 3 + 2, none⟩) hbl5).trans (hcs5 2 _ rfl)
  have g0 : wb.cell? ⟨w.heap.size + 1, 0, none⟩ = some (.slice (some ⟨b, o, none⟩) n cp) := blk_cell hq1 0
  have HQA := hid hq0
  have HQB := hid hq1
  have HBB := hid hbb
  unfold tabV tabC trV at *
  clear hne hel hx hes hact hbud hl hs hsh hn hcs hcs5 hr5 hru hbl hbl5 hn4 hr4 hz hq0 hq1 hbb
  go_enter Try.func41, Try.ntmps41
  go_upto_region 1 with fail
  rw [← hwb]
  clear hwb
  go_upto_region 2 with fail
  have HB0 := hid (below_new HBB.out (.cells #[.int .i64 sk, .int .i64 st, .int .i64 so] 78))
  have hd0 := blk_new wb (.cells #[.int .i64 sk, .int .i64 st, .int .i64 so] 78)
  have HTA := hid (blk_old HQA.out (.cells #[.int .i64 sk, .int .i64 st, .int .i64 so] 78))
  have HTB := hid (blk_old HQB.out (.cells #[.int .i64 sk, .int .i64 st, .int .i64 so] 78))
  generalize wb.alloc (.cells #[.int .i64 sk, .int .i64 st, .int .i64 so] 78) = w1 at *
  obtain ⟨D, hD⟩ : ∃ D, wb.heap.size = D := ⟨_, rfl⟩
  rw [hD] at hd0 ⊢
  have HQ0 := hid hd0
  clear e0 f0 f1 f2 g0 hd0 hD
  have d0 : w1.cell? ⟨D, 0, none⟩ = some (.int .i64 sk) := blk_cell HQ0.out 0
  have d1 : w1.cell? ⟨D, 1, none⟩ = some (.int .i64 st) := blk_cell HQ0.out 1
  by_cases s0 : sk = 0
  case pos =>
    have hb0 : (sk == 0) = true := beq_iff_eq.2 s0
    have HF := hid (show placeB T X tick c = true from by rw [HP.out, if_pos (.inl s0)])
    clear s0
    go_wp2_with fail
    go_ret
    exact ⟨by rw [HF.out]; rfl, HB0.out⟩
  case neg =>
    have hb0 : (sk == 0) = false := beq_eq_false_iff_ne.2 s0
    by_cases s1 : sk = 1
    case pos =>
      have hb1 : (sk == 1) = true := beq_iff_eq.2 s1
      have HF := hid (show placeB T X tick c = true from by rw [HP.out, if_pos (.inr s1)])
      clear s0 s1
      go_wp2_with fail
      go_ret
      exact ⟨by rw [HF.out]; rfl, HB0.out⟩
    case neg =>
      have hb1 : (sk == 1) = false := beq_eq_false_iff_ne.2 s1
      have hst : 0 ≤ st ∧ st < nt := by
        have h1 := HSH.out
        unfold shapeB at h1
        rw [if_neg (fun h => h.elim s0 s1)] at h1
        by_cases s2 : sk = 2
        · rw [if_pos s2] at h1
          unfold inT at h1
          simp at h1
          exact h1.1
        · rw [if_neg s2] at h1
          split at h1
          · unfold inT at h1
            simp at h1
            exact h1.1
          · cases h1
      obtain ⟨q, rfl⟩ : ∃ q : Nat, st = q := ⟨st.toNat, by omega⟩
      have hqn : q < ne := by have := HNE.out; omega
      obtain ⟨x, hx⟩ : ∃ x, T.ents[q]? = some x := ⟨_, List.getElem?_eq_getElem (by have := HEL.out; omega)⟩
      have hnem : ne ≤ 9223372036854775807 := by have := HES.out.room; unfold maxLen at this; omega
      obtain ⟨b6, o6, cs6, hA6, hbl6, _, hc6, u6, hr6, hru6⟩ := (HES.out.later entR.stays HB0.out).at hx
      subst hA6
      subst hr6
      obtain ⟨A7, c7, hu7, hr7⟩ := hru6.shape
      obtain ⟨n7, hn7⟩ : ∃ n7, x.ps.length = n7 := ⟨_, rfl⟩
      rw [hn7] at hu7 hr7
      subst hu7
      have hn7m : n7 ≤ 9223372036854775807 := by unfold maxLen at hr7; omega
      have h9 : w1.cell? ⟨w.heap.size, 9, none⟩ = some (.slice (some ⟨b6, o6, none⟩) ne ce) := blk_cell HTA.out 9
      have x0 : w1.cell? ⟨b6, o6 + q * 2, none⟩ = some (.slice A7 n7 c7) := by simpa using hc6 0 _ rfl
      have HR6 := hid hru6
      have HN7 := hid hn7
      have HBP := hid (fun p hp => HBU.out x (List.mem_of_getElem? hx) p hp)
      have HP2 := hid (show placeB T X tick c = if sk ≠ 2 then decide (x.ps.map Pc.core = [(c : Int)]) else pieceB x.ps (unitOf X q tick) c from by
        rw [HP.out, if_neg (fun h => h.elim s0 s1)]
        simp only [Int.toNat_natCast, hx, Option.map_some, Option.getD_some])
      clear hx hr7 hbl6 hc6 hru6 hn7 hst s0 s1
      by_cases s2 : sk = 2
      case neg =>
        have hb2 : (sk != 2) = true := by simpa using s2
        have HP3 := hid (show placeB T X tick c = decide (x.ps.map Pc.core = [(c : Int)]) from by rw [HP2.out, if_pos s2])
        clear s2
        by_cases h7 : n7 = 1
        case neg =>
          have h7b : ((n7 : Int) == 1) = false := beq_eq_false_iff_ne.2 (by omega)
          have HF := hid (show placeB T X tick c = false from by rw [HP3.out, core_many (by rw [HN7.out]; exact h7)])
          clear h7
          go_wp2_with fail
          go_ret
          exact ⟨by rw [HF.out]; rfl, HB0.out⟩
        case pos =>
          subst h7
          obtain ⟨p, hp⟩ : ∃ p, x.ps[0]? = some p := ⟨_, List.getElem?_eq_getElem (by have := HN7.out; omega)⟩
          obtain ⟨b8, o8, cs8, hA8, hbl8, _, hc8, hr8⟩ := HR6.out.at hp
          subst hA8
          have hr8' : cs8 = [.int .i64 p.core, .int .i64 p.bud, .int .i64 p.dl, .int .i64 p.prio, .bool p.tight] := hr8
          subst hr8'
          have HF := hid (show placeB T X tick c = (p.core == (c : Int)) from by rw [HP3.out, core_one hp HN7.out])
          have p0 : w1.cell? ⟨b8, o8, none⟩ = some (.int .i64 p.core) := by simpa using hc8 0 _ rfl
          obtain ⟨pc, hpc⟩ : ∃ v, p.core = v := ⟨_, rfl⟩
          rw [hpc] at HF p0
          clear hp hc8 hr8 hbl8 hpc
          go_wp2_with fail
          go_ret
          exact ⟨by rw [HF.out]; rfl, HB0.out⟩
      case pos =>
        have hb2 : (sk != 2) = false := by rw [s2]; rfl
        have HP3 := hid (show placeB T X tick c = pieceB x.ps (unitOf X q tick) c from by rw [HP2.out, if_neg (fun h => h s2)])
        obtain ⟨i, hi⟩ := Option.isSome_iff_exists.1 (HAC.out s2)
        have hij : ∃ j, X.jobs[i]? = some j := by
          unfold activeI at hi
          exact ⟨_, List.getElem?_eq_getElem (List.findIdx?_eq_some_iff_getElem.1 hi).1⟩
        obtain ⟨j, hj⟩ := hij
        have HUO := hid (show unitOf X q tick = unitN X j tick from by unfold unitOf; rw [hi]; simp only [Option.bind_some, hj, Option.map_some, Option.getD_some])
        obtain ⟨un, hun⟩ : ∃ v, unitN X j tick = v := ⟨_, rfl⟩
        have hub : un ≤ tick := by rw [← hun]; exact unitN_bound tick
        rw [HUO.out, hun] at HP3
        have HAI := hid (show active22 X.jobs q tick = (i : Int) from by unfold active22; rw [hi]; rfl)
        have HUJ := hid (show ∀ W, Below w.heap.size w W → Calls Try.prog 82 #[.agg #[.slice (some ⟨b, o, none⟩) n cp, .slice A2 m c2], .int .i64 i, .int .i64 tick] W fun e w' => e = .returned (.int .i64 un) ∧ Below W.heap.size W w' from fun W k => (HUX.out W k i).mono (fun e w' ⟨u, he, h1, _, h3⟩ => ⟨by rw [he, h1 i j rfl hj, hun], h3⟩))
        go_upto_region 7 with fail
        obtain ⟨C, hC⟩ : ∃ C : World → Prop, C = fun W => Below w1.heap.size w1 W := ⟨_, rfl⟩
        have FX0 := hid (fun W (h : C W) => (show W.cell? ⟨w.heap.size + 1, 0, none⟩ = some (.slice (some ⟨b, o, none⟩) n cp) from by rw [hC] at h; exact blk_cell ((fr0 h).blk HTB.out (fun h => h)) 0))
        have FX1 := hid (fun W (h : C W) => (show W.cell? ⟨w.heap.size + 1, 1, none⟩ = some (.slice A2 m c2) from by rw [hC] at h; exact blk_cell ((fr0 h).blk HTB.out (fun h => h)) 1))
        have FD1 := hid (fun W (h : C W) => (show W.cell? ⟨D, 1, none⟩ = some (.int .i64 q) from by rw [hC] at h; exact blk_cell ((fr0 h).blk HQ0.out (fun h => h)) 1))
        have FAC := hid (fun W (h : C W) => ((HAX.out W (by rw [hC] at h; exact below_then HB0.out h) q).mono (fun e w' q2 => (show e = .returned (.int .i64 i) ∧ C w' from ⟨by rw [q2.1, HAI.out], by rw [hC] at h ⊢; exact below_then h q2.2⟩))))
        have FUN := hid (fun W (h : C W) => ((HUJ.out W (by rw [hC] at h; exact below_then HB0.out h)).mono (fun e w' q2 => (show e = .returned (.int .i64 un) ∧ C w' from ⟨q2.1, by rw [hC] at h ⊢; exact below_then h q2.2⟩))))
        have HCC := hid hC
        clear s2 hi hj hun hC d0 d1 h9 x0
        refine wp_region_class (C := C) (by kernel_rfl) (by kernel_rfl) (by rw [HCC.out]; exact (Below.refl _ _).drew) ?_
        repeat (refine wpQuiet_step (fun K hK => ?_); (first | (rw [if_neg (by exact Bool.false_ne_true)]; refine hK _ ?_) | (rw [if_pos (by rfl)]; refine Exists.intro ?_ (And.intro (fun W HW => ?_) (hK _ ?_)); rotate_left; (focus (first | (go_simp; exact FAC.out W HW) | (go_simp; exact FUN.out W HW) | (have q0 := FX0.out W HW; have q1 := FX1.out W HW; have q2 := FD1.out W HW; (go_simp); all_goals (with_reducible rfl)))))); clear hK K; try simp only [Act.put, List.setIfInBounds_toArray, List.set_cons_zero, List.set_cons_succ])
        refine wpQuiet_nil ?_
        intro wd hCw
        have HB3 := hid (show Below w.heap.size w wd from by rw [HCC.out] at hCw; exact below_then HB0.out hCw)
        have HR3 := hid (HR6.out.later pcR.stays (show Below w1.heap.size w1 wd from by rw [HCC.out] at hCw; exact hCw))
        clear hCw
        go_wp2_with fail
        go_loopw [12, 11] (fun v u wr => ∃ (k : Nat) (z : Nat), k ≤ n7 ∧ v = .int .i64 k ∧ u = .int .i64 z ∧ z ≤ 1000000 ∧ Hid (pieceB x.ps un c = pieceB (x.ps.drop k) z c) ∧ Hid (Below wd.heap.size wd wr)) (fun v _ _ => n7 - (intOf v).toNat)
        case atStart => exact ⟨0, un, by omega, rfl, rfl, by omega, hid (by rw [List.drop_zero]), hid (Below.refl _ _)⟩
        case round =>
          obtain ⟨k, z, hk, rfl, rfl, hz, HPZ, HBR⟩ := hrel
          have HBA := hid (below_then HB3.out HBR.out)
          by_cases hlt : k < n7
          case neg =>
            obtain rfl : k = n7 := by omega
            have HF := hid (show placeB T X tick c = false from by rw [HP3.out, HPZ.out, List.drop_of_length_le (by rw [HN7.out]; exact Nat.le_refl _)]; rfl)
            go_wp2_with fail
            go_ret
            exact ⟨by rw [HF.out]; rfl, HBA.out⟩
          case pos =>
            obtain ⟨p, hp⟩ : ∃ p, x.ps[k]? = some p := ⟨_, List.getElem?_eq_getElem (by have := HN7.out; omega)⟩
            obtain ⟨b8, o8, cs8, hA8, hbl8, _, hc8, hr8⟩ := (HR3.out.later pcR.stays HBR.out).at hp
            subst hA8
            have hr8' : cs8 = [.int .i64 p.core, .int .i64 p.bud, .int .i64 p.dl, .int .i64 p.prio, .bool p.tight] := hr8
            subst hr8'
            have hpb := HBP.out p (List.mem_of_getElem? hp)
            have HPA := hid (pieceB_at (n := (z : Int)) (c := (c : Int)) hp)
            obtain ⟨pc, pb, pd, pp, ti⟩ := p
            simp only at hc8 hpb HPA
            have m0 : wr.cell? ⟨b8, o8 + k * 5, none⟩ = some (.int .i64 pc) := by simpa using hc8 0 _ rfl
            have m1 : wr.cell? ⟨b8, o8 + k * 5 + 1, none⟩ = some (.int .i64 pb) := hc8 1 _ rfl
            clear hp hc8 hr8 hbl8
            by_cases z1 : (z : Int) < pb
            case pos =>
              have HF := hid (show placeB T X tick c = (pc == (c : Int)) from by rw [HP3.out, HPZ.out, HPA.out, if_pos z1]; rfl)
              go_wp2_with fail
              go_ret
              exact ⟨by rw [HF.out]; rfl, HBA.out⟩
            case neg =>
              obtain ⟨z', hz'⟩ : ∃ z' : Nat, (z : Int) - pb = z' := ⟨((z : Int) - pb).toNat, by omega⟩
              have HPN := hid (show pieceB x.ps un c = pieceB (x.ps.drop (k + 1)) z' c from by rw [HPZ.out, HPA.out, if_neg z1, hz'])
              have hwz : IntKind.i64.wrap ((z : Int) - pb) = (z' : Int) := by rw [IntKind.wrap_i64]; omega
              have hz2 : z' ≤ 1000000 := by omega
              clear hz'
              go_wp2_with fail
              go_roundw
              case rel => exact ⟨k + 1, z', by omega, by go_num, by first | rfl | (rw [hwz]), hz2, HPN, HBR⟩
              case measure => simp [intOf]; omega
end
end Go.Proofs.Ytmhochjpdedlgaa
/- Package tourbillonref22: within, apart (contracts). -/
set_option linter.unusedVariables false
set_option linter.unusedSimpArgs false
namespace Go.Proofs.Ytmhochjpdedlgaa
open Go.RowKit

def within22 (S : Sy) (X : Tr) (i t : Nat) : Int := (withinI S X i t).getD (-1)
section
variable {w : World}
set_option maxRecDepth 100000 in
set_option maxHeartbeats 6400000 in
theorem rwithin_any (S : Sy) (X : Tr) (At : Option Addr) (nt ct : Nat) (ev cv : Value) (A : Option Addr) (n cp : Nat) (A2 : Option Addr) (m c2 : Nat) (i tick : Nat) (j : Jb)
    (h : IsTr w (.slice A n cp) (.slice A2 m c2) X) (hT : Rowp 4 tskR w (.slice At nt ct) S.tasks) (hn6 : n ≤ 1000000) (hj : X.jobs[i]? = some j) (hh : jobHead S.tasks.length X.slots.length j = true) (htk : tick < n) (hS : RightS S) :
    Calls Try.prog 84 #[tabV S (.slice At nt ct) ev cv, trV (.slice A n cp) (.slice A2 m c2), .int .i64 i, .int .i64 tick] w fun e w' => e = .returned (.int .i64 (within22 S X i tick)) ∧ Below w.heap.size w w' := by
  have hn := h.slots.len
  have hm := h.jobs.len
  have hnt := hT.len
  have hmm : m ≤ 9223372036854775807 := by have := h.jobs.room; unfold maxLen at this; omega
  have hntm : nt ≤ 9223372036854775807 := by have := hT.room; unfold maxLen at this; omega
  have hi : i < m := by have := (List.getElem?_eq_some_iff.1 hj).1; omega
  have hh' := of_decide_eq_true hh
  obtain ⟨q, hq⟩ : ∃ q : Nat, j.task = q := ⟨j.task.toNat, by omega⟩
  have hqn : q < nt := by omega
  obtain ⟨t, ht⟩ : ∃ t, S.tasks[q]? = some t := ⟨_, List.getElem?_eq_getElem (by omega)⟩
  have HW := hid (withinI_at (t := tick) hj hq ht)
  have HON := hid (fun W => on22_any (w := W) j tick)
  unfold jbV at HON
  have HTO := hid (hS.tasks t (List.mem_of_getElem? ht))
  obtain ⟨un, hun⟩ : ∃ v, unitN X j (tick + 1) = v := ⟨_, rfl⟩
  have hub : un ≤ tick + 1 := by rw [← hun]; exact unitN_bound _
  have hbl2 : un ≤ 1000001 := by omega
  rw [hun] at HW
  obtain ⟨b, o, cs, hA, hbl, _, hc, hr⟩ := h.jobs.at hj
  subst hA
  have hr' : cs = [.int .i64 j.task, .int .i64 j.arr, .int .i64 j.fin, .bool j.cut, .bool j.miss] := hr
  subst hr'
  have HUX := hid (show ∀ W, Below w.heap.size w W → Calls Try.prog 82 #[trV (.slice A n cp) (.slice (some ⟨b, o, none⟩) m c2), .int .i64 i, .int .i64 ((tick : Int) + 1)] W fun e w' => e = .returned (.int .i64 un) ∧ Below W.heap.size W w' from fun W k => by
    have h1 := units_any (w := W) X A n cp (some ⟨b, o, none⟩) m c2 i (tick + 1) (h.later k) hn6 (by omega)
    rw [show ((tick + 1 : Nat) : Int) = (tick : Int) + 1 from by omega] at h1
    exact h1.mono (fun e w' ⟨u, he, h2, _, h3⟩ => ⟨by rw [he, h2 i j rfl hj, hun], h3⟩))
  obtain ⟨b3, o3, cs3, hA3, hbl3, _, hc3, u3, hr3, hru3⟩ := hT.at ht
  subst hA3
  subst hr3
  obtain ⟨Ats, cts, hu3, _⟩ := hru3.shape
  obtain ⟨nts, hnts⟩ : ∃ v, t.secs.length = v := ⟨_, rfl⟩
  rw [hnts] at hu3
  subst hu3
  have hntsm : nts ≤ 9223372036854775807 := by have := hru3.room; unfold maxLen at this; omega
  have HRU := hid hru3
  have HNTS := hid hnts
  have HT3 := hid (show w.cell? ⟨b3, o3 + q * 4 + 3, none⟩ = some (.slice Ats nts cts) from hc3 3 _ rfl)
  have HBL3 := hid hbl3
  rw [hq] at hc HON
  obtain ⟨ob, hob⟩ : ∃ v, onB j tick = v := ⟨_, rfl⟩
  rw [hob] at HON HW
  obtain ⟨jt, ja, jf, jc, jm⟩ := j
  simp only at hc HW HON
  have hz : ∀ (w : World) o, (w.alloc o).heap.size = w.heap.size + 1 := fun w o => by simp
  obtain ⟨wb, hwb⟩ : ∃ wb, wb = (w.alloc (.cells #[.int .i64 S.cores, .int .i64 S.policy, .int .i64 S.prot, .int .i64 S.rel, .int .i64 S.sw, .int .i64 S.fin, .int .i64 S.lat, .int .i64 S.resn, .slice (some ⟨b3, o3, none⟩) nt ct, ev, cv] 28)).alloc (.cells #[.slice A n cp, .slice (some ⟨b, o, none⟩) m c2] 32) := ⟨_, rfl⟩
  have hq0 := blk_old (blk_new w (.cells #[.int .i64 S.cores, .int .i64 S.policy, .int .i64 S.prot, .int .i64 S.rel, .int .i64 S.sw, .int .i64 S.fin, .int .i64 S.lat, .int .i64 S.resn, .slice (some ⟨b3, o3, none⟩) nt ct, ev, cv] 28)) (.cells #[.slice A n cp, .slice (some ⟨b, o, none⟩) m c2] 32)
  have hq1 := blk_new (w.alloc (.cells #[.int .i64 S.cores, .int .i64 S.policy, .int .i64 S.prot, .int .i64 S.rel, .int .i64 S.sw, .int .i64 S.fin, .int .i64 S.lat, .int .i64 S.resn, .slice (some ⟨b3, o3, none⟩) nt ct, ev, cv] 28)) (.cells #[.slice A n cp, .slice (some ⟨b, o, none⟩) m c2] 32)
  have hbb := below_new (below_new (Below.refl w.heap.size w) (.cells #[.int .i64 S.cores, .int .i64 S.policy, .int .i64 S.prot, .int .i64 S.rel, .int .i64 S.sw, .int .i64 S.fin, .int .i64 S.lat, .int .i64 S.resn, .slice (some ⟨b3, o3, none⟩) nt ct, ev, cv] 28)) (.cells #[.slice A n cp, .slice (some ⟨b, o, none⟩) m c2] 32)
  rw [hz] at hq1
  rw [← hwb] at hq0 hq1 hbb
  have e0 : wb.cell? ⟨b, o + i * 5, none⟩ = some (.int .i64 q) := (hbb.cell (p := ⟨b, o + i * 5, none⟩) hbl).trans (by simpa using hc 0 _ rfl)
  have e1 : wb.cell? ⟨b, o + i * 5 + 1, none⟩ = some (.int .i64 ja) := (hbb.cell (p := ⟨b, o + i * 5 + 1, none⟩) hbl).trans (hc 1 _ rfl)
  have e2 : wb.cell? ⟨b, o + i * 5 + 2, none⟩ = some (.int .i64 jf) := (hbb.cell (p := ⟨b, o + i * 5 + 2, none⟩) hbl).trans (hc 2 _ rfl)
  have e3 : wb.cell? ⟨b, o + i * 5 + 3, none⟩ = some (.bool jc) := (hbb.cell (p := ⟨b, o + i * 5 + 3, none⟩) hbl).trans (hc 3 _ rfl)
  have e4 : wb.cell? ⟨b, o + i * 5 + 4, none⟩ = some (.bool jm) := (hbb.cell (p := ⟨b, o + i * 5 + 4, none⟩) hbl).trans (hc 4 _ rfl)
  have g1 : wb.cell? ⟨w.heap.size + 1, 1, none⟩ = some (.slice (some ⟨b, o, none⟩) m c2) := blk_cell hq1 1
  have HQA := hid hq0
  have HQB := hid hq1
  have HBB := hid hbb
  unfold tabV tabC trV at *
  clear h hT hn hm hnt hj hh hh' hq ht hc hr hbl hbl3 hc3 hru3 hnts hun hob hub hz hq0 hq1 hbb hS
  go_enter Try.func84, Try.ntmps84
  go_upto_region 1 with fail
  rw [← hwb]
  clear hwb
  go_upto_region 2 with fail
  have HB0 := hid (below_new HBB.out (.cells #[.int .i64 q, .int .i64 ja, .int .i64 jf, .bool jc, .bool jm] 45))
  have hd0 := blk_new wb (.cells #[.int .i64 q, .int .i64 ja, .int .i64 jf, .bool jc, .bool jm] 45)
  have HTA := hid (blk_old HQA.out (.cells #[.int .i64 q, .int .i64 ja, .int .i64 jf, .bool jc, .bool jm] 45))
  have HTB := hid (blk_old HQB.out (.cells #[.int .i64 q, .int .i64 ja, .int .i64 jf, .bool jc, .bool jm] 45))
  generalize wb.alloc (.cells #[.int .i64 q, .int .i64 ja, .int .i64 jf, .bool jc, .bool jm] 45) = w1 at *
  obtain ⟨D, hD⟩ : ∃ D, wb.heap.size = D := ⟨_, rfl⟩
  rw [hD] at hd0 ⊢
  have HQ0 := hid hd0
  clear e0 e1 e2 e3 e4 g1 hd0 hD
  have f0 : w1.cell? ⟨D, 0, none⟩ = some (.int .i64 q) := blk_cell HQ0.out 0
  have f1 : w1.cell? ⟨D, 1, none⟩ = some (.int .i64 ja) := blk_cell HQ0.out 1
  have f2 : w1.cell? ⟨D, 2, none⟩ = some (.int .i64 jf) := blk_cell HQ0.out 2
  have f3 : w1.cell? ⟨D, 3, none⟩ = some (.bool jc) := blk_cell HQ0.out 3
  have f4 : w1.cell? ⟨D, 4, none⟩ = some (.bool jm) := blk_cell HQ0.out 4
  go_cut [28] (fun v wx => ∃ gb : Bool, v = .bool gb ∧ Hid (gb = (!ob || decide (jf = (tick : Int) + 1))) ∧ Hid (Below w1.heap.size w1 wx))
  case first =>
    go_wp2_with fail
    refine (HON.out w1).mono ?_
    rintro e w2 ⟨rfl, hb2⟩
    have HB2 := hid hb2
    have g2 : w2.cell? ⟨D, 2, none⟩ = some (.int .i64 jf) := blk_cell ((fr0 hb2).blk HQ0.out (fun h => h)) 2
    clear hb2 f0 f1 f2 f3 f4
    cases ob
    case false =>
      go_wp2_with fail
      go_meet
      exact ⟨_, rfl, hid rfl, HB2⟩
    case true =>
      go_wp2_with fail
      go_meet
      exact ⟨_, rfl, hid rfl, HB2⟩
  obtain ⟨gb, rfl, HG, HB2⟩ := hcut
  clear f0 f1 f2 f3 f4
  generalize wc = w2 at *
  cases gb
  case true =>
    have HF := hid (show within22 S X i tick = -1 from by unfold within22; rw [HW.out, if_pos HG.out.symm]; rfl)
    have HBZ := hid (below_then HB0.out HB2.out)
    go_wp2_with fail
    go_ret
    exact ⟨by rw [HF.out]; rfl, HBZ.out⟩
  case false =>
    have HW2 := hid (show withinI S X i tick = (t.secs.find? (secIn un)).map Sec.res from by
      rw [HW.out, if_neg (by rw [← HG.out]; exact Bool.false_ne_true)])
    have x0 : w2.cell? ⟨w.heap.size + 1, 0, none⟩ = some (.slice A n cp) := blk_cell ((fr0 HB2.out).blk HTB.out (fun h => h)) 0
    have x1 : w2.cell? ⟨w.heap.size + 1, 1, none⟩ = some (.slice (some ⟨b, o, none⟩) m c2) := blk_cell ((fr0 HB2.out).blk HTB.out (fun h => h)) 1
    have H2 := hid (HUX.out w2 (below_then HB0.out HB2.out))
    go_wp2_with fail
    refine H2.out.mono ?_
    rintro e w3 ⟨rfl, hb3⟩
    have hb13 := below_then HB2.out hb3
    have HB3 := hid (below_then HB0.out hb13)
    have f0 : w3.cell? ⟨D, 0, none⟩ = some (.int .i64 q) := blk_cell ((fr0 hb13).blk HQ0.out (fun h => h)) 0
    have k8 : w3.cell? ⟨w.heap.size, 8, none⟩ = some (.slice (some ⟨b3, o3, none⟩) nt ct) := blk_cell ((fr0 hb13).blk HTA.out (fun h => h)) 8
    have t3 : w3.cell? ⟨b3, o3 + q * 4 + 3, none⟩ = some (.slice Ats nts cts) := (HB3.out.cell (p := ⟨b3, o3 + q * 4 + 3, none⟩) HBL3.out).trans HT3.out
    clear hb3 hb13 x0 x1
    go_wp2_with fail
    clear f0 k8 t3
    go_loopw [12] (fun v wr => ∃ k : Nat, k ≤ nts ∧ v = .int .i64 k ∧ Hid (∀ (i : Nat) y, i < k → t.secs[i]? = some y → secIn un y = false) ∧ Hid (Below w3.heap.size w3 wr)) (fun v _ => nts - (intOf v).toNat)
    case atStart => exact ⟨0, by omega, rfl, hid (fun i y h => by omega), hid (Below.refl _ _)⟩
    case round =>
      obtain ⟨k, hk, rfl, HP, HBR⟩ := hrel
      have HBA := hid (below_then HB3.out HBR.out)
      by_cases hlt : k < nts
      case neg =>
        obtain rfl : k = nts := by omega
        have HF := hid (show within22 S X i tick = -1 from by
          unfold within22
          rw [HW2.out, find_none (fun i y hy => HP.out i y (by have := (List.getElem?_eq_some_iff.1 hy).1; have := HNTS.out; omega) hy)]
          rfl)
        go_wp2_with fail
        go_ret
        exact ⟨by rw [HF.out]; rfl, HBA.out⟩
      case pos =>
        obtain ⟨x, hx⟩ : ∃ x, t.secs[k]? = some x := ⟨_, List.getElem?_eq_getElem (by have := HNTS.out; omega)⟩
        obtain ⟨b5, o5, cs5, hA5, hbl5, _, hc5, hr5⟩ := (HRU.out.later secR.stays HBA.out).at hx
        subst hA5
        have hr5' : cs5 = [.int .i64 x.at_, .int .i64 x.res, .int .i64 x.len] := hr5
        subst hr5'
        have hso := HTO.out.s x (List.mem_of_getElem? hx)
        have ha0 := hso.a0
        have hl0 := hso.l0
        have hend := hso.end_
        have hw1 := HTO.out.w1
        have hd1 := HTO.out.d1
        have hp1 := HTO.out.p1
        have HSI := hid (show secIn un x = (decide (x.at_ < un) && decide ((un : Int) < x.at_ + x.len)) from rfl)
        have HYES := hid (show secIn un x = true → within22 S X i tick = x.res from fun h => by unfold within22; rw [HW2.out, find_some hx h HP.out]; rfl)
        have HNO := hid (show secIn un x = false → ∀ (i : Nat) y, i < k + 1 → t.secs[i]? = some y → secIn un y = false from fun h i y hi hy => by
          by_cases e : i = k
          · subst e
            rw [hx] at hy
            injection hy with hy
            rw [← hy]
            exact h
          · exact HP.out i y (by omega) hy)
        obtain ⟨xa, xr, xl⟩ := x
        simp only at hc5 ha0 hl0 hend HSI HYES
        have hxe : xa + xl ≤ 1099511627776 := by omega
        have e0 : wr.cell? ⟨b5, o5 + k * 3, none⟩ = some (.int .i64 xa) := by simpa using hc5 0 _ rfl
        have e1 : wr.cell? ⟨b5, o5 + k * 3 + 1, none⟩ = some (.int .i64 xr) := hc5 1 _ rfl
        have e2 : wr.cell? ⟨b5, o5 + k * 3 + 2, none⟩ = some (.int .i64 xl) := hc5 2 _ rfl
        clear hx hc5 hr5 hbl5 hso hend hw1 hd1 hp1
        go_upto_region 9 with fail
        by_cases z1 : xa < (un : Int)
        case neg =>
          have HNN := hid (HNO.out (by rw [HSI.out, decide_eq_false z1]; rfl))
          go_quiet (fail)
          have HBQ := hid (below_drewN' HBR.out nq)
          clear e0 e1 e2
          go_wp2_with fail
          go_roundw
          case rel => exact ⟨k + 1, by omega, by go_num, HNN, HBQ⟩
          case measure => simp [intOf]; omega
        case pos =>
          by_cases z2 : (un : Int) < xa + xl
          case neg =>
            have HNN := hid (HNO.out (by rw [HSI.out, decide_eq_false z2, Bool.and_false]))
            go_quiet (fail)
            have HBQ := hid (below_drewN' HBR.out nq)
            clear e0 e1 e2
            go_wp2_with fail
            go_roundw
            case rel => exact ⟨k + 1, by omega, by go_num, HNN, HBQ⟩
            case measure => simp [intOf]; omega
          case pos =>
            have HF := hid (HYES.out (by rw [HSI.out, decide_eq_true z1, decide_eq_true z2]; rfl))
            go_quiet (fail)
            have HBQ := hid (below_drewN' HBA.out nq)
            have e1d : (wr.drewN nq).cell? ⟨b5, o5 + k * 3 + 1, none⟩ = some (.int .i64 xr) := e1
            clear e0 e2
            go_wp2_with fail
            go_ret
            exact ⟨by rw [HF.out]; rfl, HBQ.out⟩
end
end Go.Proofs.Ytmhochjpdedlgaa
/- Package tourbillonref22: apart (contract). -/
set_option linter.unusedVariables false
set_option linter.unusedSimpArgs false
namespace Go.Proofs.Ytmhochjpdedlgaa
open Go.RowKit

theorem within_ge {S : Sy} {X : Tr} {i t : Nat} {r : Int} (hS : RightS S) (hh : ∀ (k : Nat) j, X.jobs[k]? = some j → jobHead S.tasks.length X.slots.length j = true) (h : withinI S X i t = some r) : 0 ≤ r := by
  unfold withinI at h
  cases hj : X.jobs[i]? with
  | none => rw [hj] at h; cases h
  | some j =>
    rw [hj] at h
    simp only at h
    split at h
    · cases h
    · obtain ⟨x, hx, rfl⟩ := Option.map_eq_some_iff.1 h
      have hd := of_decide_eq_true (hh i j hj)
      have ht : S.tasks[j.task.toNat]? = some (S.tasks[j.task.toNat]'(by omega)) := List.getElem?_eq_getElem _
      have hm := List.mem_of_find?_eq_some hx
      unfold tskAt at hm
      rw [ht] at hm
      exact ((hS.tasks _ (List.mem_of_getElem? ht)).s x hm).r0
section
variable {w : World}
set_option maxRecDepth 100000 in
set_option maxHeartbeats 6400000 in
theorem rapart_any (S : Sy) (X : Tr) (At : Option Addr) (nt ct : Nat) (ev cv : Value) (A : Option Addr) (n cp : Nat) (A2 : Option Addr) (m c2 : Nat) (i tick : Nat)
    (h : IsTr w (.slice A n cp) (.slice A2 m c2) X) (hT : Rowp 4 tskR w (.slice At nt ct) S.tasks) (hn6 : n ≤ 1000000) (hm6 : m ≤ 1000000) (hi : i < m) (hh : ∀ (k : Nat) j, X.jobs[k]? = some j → jobHead S.tasks.length X.slots.length j = true) (htk : tick < n) (hS : RightS S) :
    Calls Try.prog 42 #[tabV S (.slice At nt ct) ev cv, trV (.slice A n cp) (.slice A2 m c2), .int .i64 tick, .int .i64 i] w fun e w' => e = .returned (.bool (apartB S X tick i)) ∧ Below w.heap.size w w' := by
  have hm := h.jobs.len
  have HW := hid (fun W (k : Below w.heap.size w W) (a : Nat) (ha : a < m) => rwithin_any (w := W) S X At nt ct ev cv A n cp A2 m c2 a tick X.jobs[a] (h.later k) (hT.later tskR.stays k) hn6 (List.getElem?_eq_getElem (by omega)) (hh a _ (List.getElem?_eq_getElem (by omega))) htk hS)
  have HGE := hid (fun (a : Nat) (r : Int) (e : withinI S X a tick = some r) => within_ge hS hh e)
  obtain ⟨F, hF⟩ : ∃ F, F = fun a => withinI S X a tick := ⟨_, rfl⟩
  have HF := hid (fun a => (show withinI S X a tick = F a from by rw [hF]))
  have HWF := hid (fun a => (show within22 S X a tick = (F a).getD (-1) from by unfold within22; rw [HF.out]))
  have HN := hid (show F i = none → apartB S X tick i = true from fun h => apartB_none (by rw [HF.out]; exact h))
  have HNO := hid (fun (r : Int) (k : Nat) (h : F i = some r) (hk : k < i) (h2 : F k = some r) => (apartB_no (t := tick) (by rw [HF.out]; exact h) hk (by rw [HF.out]; exact h2) : apartB S X tick i = false))
  have HYES := hid (fun (r : Int) (h : F i = some r) (hp : ∀ k, k < i → F k ≠ some r) => (apartB_yes (t := tick) (by rw [HF.out]; exact h) (fun k hk => by rw [HF.out]; exact hp k hk) : apartB S X tick i = true))
  have HGF := hid (show ∀ a r, F a = some r → 0 ≤ r from fun a r e => HGE.out a r (by rw [HF.out]; exact e))
  have hz : ∀ (w : World) o, (w.alloc o).heap.size = w.heap.size + 1 := fun w o => by simp
  obtain ⟨wb, hwb⟩ : ∃ wb, wb = (w.alloc (.cells #[.int .i64 S.cores, .int .i64 S.policy, .int .i64 S.prot, .int .i64 S.rel, .int .i64 S.sw, .int .i64 S.fin, .int .i64 S.lat, .int .i64 S.resn, .slice At nt ct, ev, cv] 28)).alloc (.cells #[.slice A n cp, .slice A2 m c2] 32) := ⟨_, rfl⟩
  have hq0 := blk_old (blk_new w (.cells #[.int .i64 S.cores, .int .i64 S.policy, .int .i64 S.prot, .int .i64 S.rel, .int .i64 S.sw, .int .i64 S.fin, .int .i64 S.lat, .int .i64 S.resn, .slice At nt ct, ev, cv] 28)) (.cells #[.slice A n cp, .slice A2 m c2] 32)
  have hq1 := blk_new (w.alloc (.cells #[.int .i64 S.cores, .int .i64 S.policy, .int .i64 S.prot, .int .i64 S.rel, .int .i64 S.sw, .int .i64 S.fin, .int .i64 S.lat, .int .i64 S.resn, .slice At nt ct, ev, cv] 28)) (.cells #[.slice A n cp, .slice A2 m c2] 32)
  have hbb := below_new (below_new (Below.refl w.heap.size w) (.cells #[.int .i64 S.cores, .int .i64 S.policy, .int .i64 S.prot, .int .i64 S.rel, .int .i64 S.sw, .int .i64 S.fin, .int .i64 S.lat, .int .i64 S.resn, .slice At nt ct, ev, cv] 28)) (.cells #[.slice A n cp, .slice A2 m c2] 32)
  rw [hz] at hq1
  rw [← hwb] at hq0 hq1 hbb
  have HCELL := hid (fun W (k : Below wb.heap.size wb W) => (⟨blk_cell ((fr0 k).blk hq0 (fun h => h)) 0, blk_cell ((fr0 k).blk hq0 (fun h => h)) 1, blk_cell ((fr0 k).blk hq0 (fun h => h)) 2, blk_cell ((fr0 k).blk hq0 (fun h => h)) 3, blk_cell ((fr0 k).blk hq0 (fun h => h)) 4, blk_cell ((fr0 k).blk hq0 (fun h => h)) 5, blk_cell ((fr0 k).blk hq0 (fun h => h)) 6, blk_cell ((fr0 k).blk hq0 (fun h => h)) 7, blk_cell ((fr0 k).blk hq0 (fun h => h)) 8, blk_cell ((fr0 k).blk hq0 (fun h => h)) 9, blk_cell ((fr0 k).blk hq0 (fun h => h)) 10, blk_cell ((fr0 k).blk hq1 (fun h => h)) 0, blk_cell ((fr0 k).blk hq1 (fun h => h)) 1⟩ :
    W.cell? ⟨w.heap.size, 0, none⟩ = some (.int .i64 S.cores) ∧ W.cell? ⟨w.heap.size, 1, none⟩ = some (.int .i64 S.policy) ∧ W.cell? ⟨w.heap.size, 2, none⟩ = some (.int .i64 S.prot) ∧ W.cell? ⟨w.heap.size, 3, none⟩ = some (.int .i64 S.rel) ∧ W.cell? ⟨w.heap.size, 4, none⟩ = some (.int .i64 S.sw) ∧ W.cell? ⟨w.heap.size, 5, none⟩ = some (.int .i64 S.fin) ∧ W.cell? ⟨w.heap.size, 6, none⟩ = some (.int .i64 S.lat) ∧ W.cell? ⟨w.heap.size, 7, none⟩ = some (.int .i64 S.resn) ∧ W.cell? ⟨w.heap.size, 8, none⟩ = some (.slice At nt ct) ∧ W.cell? ⟨w.heap.size, 9, none⟩ = some ev ∧ W.cell? ⟨w.heap.size, 10, none⟩ = some cv ∧ W.cell? ⟨w.heap.size + 1, 0, none⟩ = some (.slice A n cp) ∧ W.cell? ⟨w.heap.size + 1, 1, none⟩ = some (.slice A2 m c2)))
  have HBB := hid hbb
  unfold tabV tabC trV at *
  have H1 := hid (HW.out wb hbb i hi)
  rw [HWF.out] at H1
  clear h hT hm hh hS hF hz hq0 hq1 hbb
  go_enter Try.func42, Try.ntmps42
  go_upto_region 1 with fail
  rw [← hwb]
  clear hwb
  obtain ⟨t0, t1, t2, t3, t4, t5, t6, t7, t8, t9, t10, x0, x1⟩ := HCELL.out wb (Below.refl _ _)
  go_wp2_with fail
  refine H1.out.mono ?_
  rintro e w1 ⟨rfl, hb1⟩
  have HB1 := hid hb1
  clear hb1 t0 t1 t2 t3 t4 t5 t6 t7 t8 t9 t10 x0 x1
  cases hFi : F i with
  | none =>
    have HA := hid (HN.out hFi)
    have HBZ := hid (below_then HBB.out HB1.out)
    clear hFi
    have hi01 : (0 : Int) < (i : Int) ∨ ¬ (0 : Int) < (i : Int) := by omega
    go_wp2_with fail
    go_loopw [10] (fun v wr => v = .int .i64 0 ∧ Hid (Below w.heap.size w wr)) (fun v _ => 0)
    case atStart => exact ⟨rfl, HBZ⟩
    case round =>
      obtain ⟨rfl, HBR⟩ := hrel
      by_cases hi0 : 0 < i
      all_goals
        go_wp2_with fail
        go_ret
        exact ⟨by rw [HA.out]; rfl, HBR.out⟩
  | some r =>
    have HFR := hid hFi
    have hr0 := HGF.out i r hFi
    clear hFi
    go_wp2_with fail
    go_loopw [10] (fun v wr => ∃ k : Nat, k ≤ i ∧ v = .int .i64 k ∧ Hid (∀ a, a < k → F a ≠ some r) ∧ Hid (Below wb.heap.size wb wr)) (fun v _ => i - (intOf v).toNat)
    case atStart => exact ⟨0, by omega, rfl, hid (fun a h => by omega), HB1⟩
    case round =>
      obtain ⟨k, hk, rfl, HP, HBR⟩ := hrel
      have HBA := hid (below_then HBB.out HBR.out)
      by_cases hlt : k < i
      case neg =>
        obtain rfl : k = i := by omega
        have HA := hid (HYES.out r HFR.out HP.out)
        go_wp2_with fail
        go_ret
        exact ⟨by rw [HA.out]; rfl, HBA.out⟩
      case pos =>
        have H2 := hid (HW.out wr HBA.out k (by omega))
        rw [HWF.out k] at H2
        obtain ⟨t0, t1, t2, t3, t4, t5, t6, t7, t8, t9, t10, x0, x1⟩ := HCELL.out wr HBR.out
        go_wp2_with fail
        refine H2.out.mono ?_
        rintro e w2 ⟨rfl, hb2⟩
        have HB2 := hid (below_then HBR.out hb2)
        have HB3 := hid (below_then HBA.out hb2)
        clear hb2 t0 t1 t2 t3 t4 t5 t6 t7 t8 t9 t10 x0 x1
        cases hFk : F k with
        | none =>
          have HNN := hid (show ∀ a, a < k + 1 → F a ≠ some r from fun a ha => by
            by_cases e : a = k
            · subst e; rw [hFk]; exact fun h => by cases h
            · exact HP.out a (by omega))
          have hb : ((-1 : Int) == r) = false := beq_eq_false_iff_ne.2 (by omega)
          clear hFk
          go_wp2_with fail
          go_roundw
          case rel => exact ⟨k + 1, by omega, by go_num, HNN, HB2⟩
          case measure => simp [intOf]; omega
        | some r2 =>
          by_cases hrr : r2 = r
          case pos =>
            have hb : (r2 == r) = true := beq_iff_eq.2 hrr
            have HA := hid (HNO.out r k HFR.out hlt (by rw [hFk, hrr]))
            clear hFk hrr
            go_wp2_with fail
            go_ret
            exact ⟨by rw [HA.out]; rfl, HB3.out⟩
          case neg =>
            have hb : (r2 == r) = false := beq_eq_false_iff_ne.2 hrr
            have HNN := hid (show ∀ a, a < k + 1 → F a ≠ some r from fun a ha => by
              by_cases e : a = k
              · subst e; rw [hFk]; exact fun h => by injection h with h; exact hrr h
              · exact HP.out a (by omega))
            clear hFk hrr
            go_wp2_with fail
            go_roundw
            case rel => exact ⟨k + 1, by omega, by go_num, HNN, HB2⟩
            case measure => simp [intOf]; omega
end
end Go.Proofs.Ytmhochjpdedlgaa
