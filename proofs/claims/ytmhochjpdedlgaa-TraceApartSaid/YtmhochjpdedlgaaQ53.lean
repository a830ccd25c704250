/- Joined: TraceApart. -/
import Derived.Test.YtmhochjpdedlgaaQ50
import Derived.Test.YtmhochjpdedlgaaQ52
import Derived.Deep.QuietTactic
import Derived.BigQuiet
set_option linter.unusedVariables false
set_option linter.unusedSimpArgs false
/- TraceApart: the law's walk: it returns true. -/
set_option linter.unusedVariables false
set_option linter.unusedSimpArgs false
namespace Go.Proofs.Ytmhochjpdedlgaa
open Go.RowKit Go.Shelf Go.Maps

theorem workN_sorted {X : Tr} {j : Jb} : ∀ (n k : Nat) (x y : Int), (workN X j n)[k]? = some x → (workN X j n)[k + 1]? = some y → x < y := by
  intro n
  induction n with
  | zero => intro k x y h; simp [workN] at h
  | succ n ih =>
    intro k x y h1 h2
    rw [workN_succ] at h1 h2
    split at h1
    · rename_i hc
      rw [if_pos hc] at h2
      by_cases e : k + 1 < (workN X j n).length
      · rw [List.getElem?_append_left (by omega)] at h1
        rw [List.getElem?_append_left e] at h2
        exact ih k x y h1 h2
      · have h3 := (List.getElem?_eq_some_iff.1 h2).1
        simp at h3
        rw [List.getElem?_append_left (by omega)] at h1
        rw [List.getElem?_append_right (by omega), show k + 1 - (workN X j n).length = 0 by omega] at h2
        simp at h2
        obtain ⟨t, rfl, ht, _⟩ := workN_mem (List.mem_of_getElem? h1)
        omega
    · rename_i hc
      rw [if_neg hc] at h2
      exact ih k x y h1 h2
/-- What is known of a tick of work. -/
theorem work_in {X : Tr} {j : Jb} {n k : Nat} {x : Int} (h : (workN X j n)[k]? = some x) : j.arr ≤ x ∧ (j.fin = -1 ∨ x < j.fin) ∧ 0 ≤ x ∧ x < n := by
  obtain ⟨t, rfl, ht, ho, _⟩ := workN_mem (List.mem_of_getElem? h)
  unfold onB at ho
  simp at ho
  exact ⟨ho.1, ho.2, by omega, by omega⟩
theorem IsTr.front {w : World} {A B : Option Addr} {n c m d : Nat} {X : Tr} (h : IsTr w (.slice A n c) (.slice B m d) X) {a b : Nat} (ha : a ≤ n) (hb : b ≤ m) : IsTr w (.slice A a c) (.slice B b d) ⟨X.slots.take a, X.jobs.take b⟩ := ⟨h.slots.front ha, h.jobs.front hb⟩
section
variable {w : World}
set_option maxRecDepth 100000 in
set_option maxHeartbeats 6400000 in
theorem traceApart_any (X0 : Tr) (A : Option Addr) (n0 c : Nat) (B : Option Addr) (m0 d : Nat) (a b : Int) (h : IsTr w (.slice A n0 c) (.slice B m0 d) X0) :
    Calls Try.prog 5 #[trV (.slice A n0 c) (.slice B m0 d), .int .i64 a, .int .i64 b] w fun e w' => e = .returned (.bool true) ∧ Below w.heap.size w w' := by
  obtain ⟨n, hn⟩ : ∃ n, min n0 60 = n := ⟨_, rfl⟩
  obtain ⟨m, hm⟩ : ∃ m, min m0 40 = m := ⟨_, rfl⟩
  have hx := h.front (a := n) (b := m) (by omega) (by omega)
  obtain ⟨X, hX⟩ : ∃ X : Tr, X = ⟨X0.slots.take n, X0.jobs.take m⟩ := ⟨_, rfl⟩
  rw [← hX] at hx
  have hn60 : n ≤ 60 := by omega
  have hn0c := h.slots.room.1
  have hm0c := h.jobs.room.1
  have hnc : n ≤ c := by omega
  have hmd : m ≤ d := by omega
  have hm40 : m ≤ 40 := by omega
  have hXn := hx.slots.len
  have hXm := hx.jobs.len
  have hn0m : n0 ≤ 9223372036854775807 := by have := h.slots.room; unfold maxLen at this; omega
  have hm0m : m0 ≤ 9223372036854775807 := by have := h.jobs.room; unfold maxLen at this; omega
  have HX := hid hx
  have HXN := hid hXn
  have HXM := hid hXm
  have hmin1 : min (n0 : Int) 60 = (n : Int) := by omega
  have hmin2 : min (m0 : Int) 40 = (m : Int) := by omega
  have hq := blk_new w (.cells #[.slice A n0 c, .slice B m0 d] 32)
  have hbe := below_new (Below.refl w.heap.size w) (.cells #[.slice A n0 c, .slice B m0 d] 32)
  unfold trV
  clear h hx hX hXn hXm hn hm
  go_enter Try.func5, Try.ntmps5
  go_upto_region 1 with fail
  generalize w.alloc (.cells #[.slice A n0 c, .slice B m0 d] 32) = w1 at hq hbe ⊢
  have HQ1 := hid hq
  have HB1 := hid hbe
  clear hq hbe
  go_wp2_with fail
  refine examples22_any.mono ?_
  rintro e w2 ⟨rfl, hb2⟩
  have hq2 := (fr0 hb2).blk HQ1.out (fun h => h)
  have HB2 := hid (below_then HB1.out hb2)
  have HQ2 := hid hq2
  have x0 : w2.cell? ⟨w.heap.size, 0, none⟩ = some (.slice A n0 c) := blk_cell hq2 0
  have x1 : w2.cell? ⟨w.heap.size, 1, none⟩ = some (.slice B m0 d) := blk_cell hq2 1
  have zf : ∀ k, w2.frozen? ⟨w.heap.size, k, none⟩ = false := fun k => blk_free hq2 k
  clear hb2 hq2
  go_upto_region 4 with fail
  have hF3 : Fr (One w.heap.size) w2 ((w2.setCell ⟨w.heap.size, 0, none⟩ (.slice A n c)).setCell ⟨w.heap.size, 1, none⟩ (.slice B m d)) := ((Fr.refl _ _).one 0 _).one 1 _
  have hq3 := blk_set (blk_set HQ2.out 0 (.slice A n c)) 1 (.slice B m d)
  have hb3 := ((Fr.of_below (S := NoB) HB2.out).trans hF3 (fun x hx => .inr (by rw [show x = w.heap.size from hx]; exact Nat.le_refl _))).no
  generalize (w2.setCell ⟨w.heap.size, 0, none⟩ (.slice A n c)).setCell ⟨w.heap.size, 1, none⟩ (.slice B m d) = w3 at *
  have HQ3 := hid (show w3.heap[w.heap.size]? = some (.cells #[.slice A n c, .slice B m d] 32 (0, 0)) from by simpa using hq3)
  have HB3 := hid hb3
  clear hF3 hq3 hb3 x0 x1 zf
  have y0 : w3.cell? ⟨w.heap.size, 0, none⟩ = some (.slice A n c) := blk_cell HQ3.out 0
  have y1 : w3.cell? ⟨w.heap.size, 1, none⟩ = some (.slice B m d) := blk_cell HQ3.out 1
  have HWA := hid (fun W (k : Below w.heap.size w W) (z : Int) => work_any (w := W) X A n c B m d z (HX.out.later k) (by omega))
  unfold trV at HWA
  have H1 := hid (HWA.out w3 HB3.out a)
  go_wp2_with fail
  refine H1.out.mono ?_
  rintro e w4 ⟨u, rfl, hou, hb4⟩
  obtain ⟨Au, cu, rfl⟩ := own_slice hou
  obtain ⟨ln, hln⟩ : ∃ ln, (workL X a).length = ln := ⟨_, rfl⟩
  rw [hln] at hou ⊢
  have HOU := hid hou
  have HLN := hid hln
  have HB4 := hid (below_then HB3.out hb4)
  have hq4 := (fr0 hb4).blk HQ3.out (fun h => h)
  have HQ4 := hid hq4
  have z0 : w4.cell? ⟨w.heap.size, 0, none⟩ = some (.slice A n c) := blk_cell hq4 0
  have z1 : w4.cell? ⟨w.heap.size, 1, none⟩ = some (.slice B m d) := blk_cell hq4 1
  have H2 := hid (HWA.out w4 HB4.out b)
  clear hou hln hb4 hq4 y0 y1
  go_wp2_with fail
  refine H2.out.mono ?_
  rintro e w5 ⟨v, rfl, hov, hb5⟩
  obtain ⟨Av, cv, rfl⟩ := own_slice hov
  obtain ⟨lm, hlm⟩ : ∃ lm, (workL X b).length = lm := ⟨_, rfl⟩
  rw [hlm] at hov ⊢
  have HOV := hid hov
  have HLM := hid hlm
  have HB5 := hid (below_then HB4.out hb5)
  have hq5 := (fr0 hb5).blk HQ4.out (fun h => h)
  have HQ5 := hid hq5
  have HOU5 := hid (own_kept HOU.out (fr0 hb5) (fun _ _ h => h))
  have x0 : w5.cell? ⟨w.heap.size, 0, none⟩ = some (.slice A n c) := blk_cell hq5 0
  have x1 : w5.cell? ⟨w.heap.size, 1, none⟩ = some (.slice B m d) := blk_cell hq5 1
  clear hov hlm hb5 hq5 z0 z1
  have HWL := hid (fun z : Int => (show workL X z = if 0 ≤ z ∧ z < (m : Int) then (((X.jobs[z.toNat]?).map fun j => workN X j n).getD []) else [] from by unfold workL; rw [← HXM.out, ← HXN.out]))
  go_upto_region 6 with fail
  go_cut [56] (fun v wx => ∃ gb : Bool, v = .bool gb ∧ Hid (gb = !decide ((0 ≤ a ∧ a < (m : Int)) ∧ (0 ≤ b ∧ b < (m : Int)))) ∧ w5 = wx)
  case first =>
    as_aux_lemma =>
      by_cases g1 : a < 0
      case pos =>
        have HG := hid (show true = !decide ((0 ≤ a ∧ a < (m : Int)) ∧ (0 ≤ b ∧ b < (m : Int))) from by rw [decide_eq_false (by omega)]; rfl)
        go_wp2_with fail
        go_meet
        exact ⟨_, rfl, HG, rfl⟩
      case neg =>
        by_cases g2 : (m : Int) ≤ a
        case pos =>
          have HG := hid (show true = !decide ((0 ≤ a ∧ a < (m : Int)) ∧ (0 ≤ b ∧ b < (m : Int))) from by rw [decide_eq_false (by omega)]; rfl)
          go_wp2_with fail
          go_meet
          exact ⟨_, rfl, HG, rfl⟩
        case neg =>
          by_cases g3 : b < 0
          case pos =>
            have HG := hid (show true = !decide ((0 ≤ a ∧ a < (m : Int)) ∧ (0 ≤ b ∧ b < (m : Int))) from by rw [decide_eq_false (by omega)]; rfl)
            go_wp2_with fail
            go_meet
            exact ⟨_, rfl, HG, rfl⟩
          case neg =>
            by_cases g4 : (m : Int) ≤ b
            case pos =>
              have HG := hid (show true = !decide ((0 ≤ a ∧ a < (m : Int)) ∧ (0 ≤ b ∧ b < (m : Int))) from by rw [decide_eq_false (by omega)]; rfl)
              go_wp2_with fail
              go_meet
              exact ⟨_, rfl, HG, rfl⟩
            case neg =>
              have HG := hid (show false = !decide ((0 ≤ a ∧ a < (m : Int)) ∧ (0 ≤ b ∧ b < (m : Int))) from by rw [decide_eq_true (by omega)]; rfl)
              go_wp2_with fail
              go_meet
              exact ⟨_, rfl, HG, rfl⟩
  obtain ⟨gb, rfl, HG, rfl⟩ := hcut
  cases gb
  case true =>
    have hno : ¬ ((0 ≤ a ∧ a < (m : Int)) ∧ (0 ≤ b ∧ b < (m : Int))) := by
      have h1 := HG.out
      intro h2
      rw [decide_eq_true h2] at h1
      cases h1
    by_cases ga : 0 ≤ a ∧ a < (m : Int)
    case neg =>
      have hl0 : ln = 0 := by rw [← HLN.out, HWL.out a, if_neg ga]; rfl
      have hl0b : ((ln : Int) == 0) = true := beq_iff_eq.2 (by omega)
      clear hl0 ga hno x0 x1
      go_wp2_with fail
      go_ret
      exact ⟨rfl, HB5.out⟩
    case pos =>
      have hm0 : lm = 0 := by rw [← HLM.out, HWL.out b, if_neg (fun h => hno ⟨ga, h⟩)]; rfl
      have hm0b : ((lm : Int) == 0) = true := beq_iff_eq.2 (by omega)
      clear hm0 ga hno x0 x1
      cases hlb : ((ln : Int) == 0)
      all_goals
        go_wp2_with fail
        go_ret
        exact ⟨rfl, HB5.out⟩
  case false =>
    have hyes : (0 ≤ a ∧ a < (m : Int)) ∧ (0 ≤ b ∧ b < (m : Int)) := by
      have h1 := HG.out
      cases h2 : decide ((0 ≤ a ∧ a < (m : Int)) ∧ (0 ≤ b ∧ b < (m : Int))) with
      | true => exact of_decide_eq_true h2
      | false => rw [h2] at h1; cases h1
    obtain ⟨⟨ga0, ga1⟩, gb0, gb1⟩ := hyes
    obtain ⟨an, rfl⟩ : ∃ an : Nat, a = an := ⟨a.toNat, by omega⟩
    obtain ⟨bn, rfl⟩ : ∃ bn : Nat, b = bn := ⟨b.toNat, by omega⟩
    have ham : an < m := by omega
    have hbm : bn < m := by omega
    obtain ⟨p, hp⟩ : ∃ p, X.jobs[an]? = some p := ⟨_, List.getElem?_eq_getElem (by have := HXM.out; omega)⟩
    obtain ⟨q, hq⟩ : ∃ q, X.jobs[bn]? = some q := ⟨_, List.getElem?_eq_getElem (by have := HXM.out; omega)⟩
    have HLU := hid (show workL X an = workN X p n from by rw [HWL.out, if_pos ⟨ga0, ga1⟩, Int.toNat_natCast, hp]; rfl)
    have HLV := hid (show workL X bn = workN X q n from by rw [HWL.out, if_pos ⟨gb0, gb1⟩, Int.toNat_natCast, hq]; rfl)
    have hx5 := HX.out.later HB5.out
    obtain ⟨b1, o1, cs, hA, hbl, _, hc, hr⟩ := hx5.jobs.at hp
    subst hA
    have hr' : cs = [.int .i64 p.task, .int .i64 p.arr, .int .i64 p.fin, .bool p.cut, .bool p.miss] := hr
    subst hr'
    obtain ⟨b2, o2, cs2, hA2, hbl2, _, hc2, hr2⟩ := hx5.jobs.at hq
    injection hA2 with hA2
    injection hA2 with e1 e2
    subst e1
    subst e2
    have hr2' : cs2 = [.int .i64 q.task, .int .i64 q.arr, .int .i64 q.fin, .bool q.cut, .bool q.miss] := hr2
    subst hr2'
    have HIN := hid (fun (k : Nat) (x : Int) (h : (workN X p n)[k]? = some x) => work_in h)
    have HIN2 := hid (fun (k : Nat) (x : Int) (h : (workN X q n)[k]? = some x) => work_in h)
    have HSO := hid (workN_sorted (X := X) (j := p) n)
    have hub1 : (workN X p n).length ≤ n := unitN_bound (X := X) (j := p) n
    have hub2 : (workN X q n).length ≤ n := unitN_bound (X := X) (j := q) n
    obtain ⟨LU, hLU⟩ : ∃ L, workN X p n = L := ⟨_, rfl⟩
    obtain ⟨LV, hLV⟩ : ∃ L, workN X q n = L := ⟨_, rfl⟩
    rw [hLU] at HLU HIN HSO hub1
    rw [hLV] at HLV HIN2 hub2
    have HOUL := hid (show w5.ownsRow w3.heap.size 3 1 (.slice Au ln cu) ln (intCells LU) from by rw [← HLU.out]; exact HOU5.out)
    have HOVL := hid (show w5.ownsRow w4.heap.size 3 1 (.slice Av lm cv) lm (intCells LV) from by rw [← HLV.out]; exact HOV.out)
    have HLL := hid (show LU.length = ln from by rw [← HLU.out]; exact HLN.out)
    have HLM2 := hid (show LV.length = lm from by rw [← HLV.out]; exact HLM.out)
    have hln60 : ln ≤ 60 := by have := HLL.out; omega
    have hlm60 : lm ≤ 60 := by have := HLM2.out; omega
    clear hub1 hub2
    obtain ⟨pt, pa, pf, pc, pm⟩ := p
    obtain ⟨qt, qa, qf, qc, qm⟩ := q
    simp only at hc hc2 HIN HIN2
    have e0 : w5.cell? ⟨b1, o1 + an * 5, none⟩ = some (.int .i64 pt) := by simpa using hc 0 _ rfl
    have e1 : w5.cell? ⟨b1, o1 + an * 5 + 1, none⟩ = some (.int .i64 pa) := hc 1 _ rfl
    have e2 : w5.cell? ⟨b1, o1 + an * 5 + 2, none⟩ = some (.int .i64 pf) := hc 2 _ rfl
    have e3 : w5.cell? ⟨b1, o1 + an * 5 + 3, none⟩ = some (.bool pc) := hc 3 _ rfl
    have e4 : w5.cell? ⟨b1, o1 + an * 5 + 4, none⟩ = some (.bool pm) := hc 4 _ rfl
    have f0 : w5.cell? ⟨b1, o1 + bn * 5, none⟩ = some (.int .i64 qt) := by simpa using hc2 0 _ rfl
    have f1 : w5.cell? ⟨b1, o1 + bn * 5 + 1, none⟩ = some (.int .i64 qa) := hc2 1 _ rfl
    have f2 : w5.cell? ⟨b1, o1 + bn * 5 + 2, none⟩ = some (.int .i64 qf) := hc2 2 _ rfl
    have f3 : w5.cell? ⟨b1, o1 + bn * 5 + 3, none⟩ = some (.bool qc) := hc2 3 _ rfl
    have f4 : w5.cell? ⟨b1, o1 + bn * 5 + 4, none⟩ = some (.bool qm) := hc2 4 _ rfl
    have hxl : w.heap.size < w5.heap.size := blk_lt HQ5.out
    clear ga0 ga1 gb0 gb1 hp hq hx5 hc hc2 hr hr2 hLU hLV HOU HOV HOU5
    go_upto_region 10 with fail
    have hz : ∀ (w : World) o, (w.alloc o).heap.size = w.heap.size + 1 := fun w o => by simp
    have p1 := blk_old (blk_new w5 (.cells #[.int .i64 pt, .int .i64 pa, .int .i64 pf, .bool pc, .bool pm] 45)) (.cells #[.int .i64 qt, .int .i64 qa, .int .i64 qf, .bool qc, .bool qm] 45)
    have p2 := blk_new (w5.alloc (.cells #[.int .i64 pt, .int .i64 pa, .int .i64 pf, .bool pc, .bool pm] 45)) (.cells #[.int .i64 qt, .int .i64 qa, .int .i64 qf, .bool qc, .bool qm] 45)
    have pb := below_new (below_new (Below.refl w5.heap.size w5) (.cells #[.int .i64 pt, .int .i64 pa, .int .i64 pf, .bool pc, .bool pm] 45)) (.cells #[.int .i64 qt, .int .i64 qa, .int .i64 qf, .bool qc, .bool qm] 45)
    rw [hz] at p2
    generalize (w5.alloc (.cells #[.int .i64 pt, .int .i64 pa, .int .i64 pf, .bool pc, .bool pm] 45)).alloc (.cells #[.int .i64 qt, .int .i64 qa, .int .i64 qf, .bool qc, .bool qm] 45) = w7 at *
    have HP1 := hid p1
    have HP2 := hid p2
    have HPB := hid pb
    clear hz p1 p2 pb e0 e1 e2 e3 e4 f0 f1 f2 f3 f4 hbl hbl2 x0 x1 hxl
    go_wp2_with fail
    go_loopw [12] (fun v wr => ∃ i : Nat, i ≤ ln ∧ v = .int .i64 i ∧ Hid (Below w7.heap.size w7 wr)) (fun v _ => ln - (intOf v).toNat)
    case atStart => exact ⟨0, by omega, rfl, hid (Below.refl _ _)⟩
    case round =>
      obtain ⟨i, hi, rfl, HBR⟩ := hrel
      have HB57 := hid (below_then HPB.out HBR.out)
      have HOUR := hid (own_kept HOUL.out (fr0 HB57.out) (fun _ _ h => h))
      have HOVR := hid (own_kept HOVL.out (fr0 HB57.out) (fun _ _ h => h))
      by_cases hlt : i < ln
      case neg =>
        obtain rfl : i = ln := by omega
        have HBZ := hid (below_then HB5.out HB57.out)
        go_wp2_with fail
        go_ret
        exact ⟨rfl, HBZ.out⟩
      case pos =>
        obtain ⟨gu, capu, _, he, _⟩ := own_shape HOUR.out (by omega)
        injection he with e1 _ e3
        subst e1
        subst e3
        obtain ⟨li, hli⟩ : ∃ x, LU[i]? = some x := ⟨_, List.getElem?_eq_getElem (by have := HLL.out; omega)⟩
        obtain ⟨k1, k2, k3, k4⟩ := HIN.out i li hli
        have HK := hid (⟨k1, k2⟩ : pa ≤ li ∧ (pf = -1 ∨ li < pf))
        have HLI := hid hli
        have u0 : wr.cell? ⟨gu, i, none⟩ = some (.int .i64 li) := own_cell0 HOUR.out (by unfold intCells; rw [List.getElem?_map, hli]; rfl)
        have c1 : wr.cell? ⟨w5.heap.size, 1, none⟩ = some (.int .i64 pa) := blk_cell ((fr0 HBR.out).blk HP1.out (fun h => h)) 1
        have c2 : wr.cell? ⟨w5.heap.size, 2, none⟩ = some (.int .i64 pf) := blk_cell ((fr0 HBR.out).blk HP1.out (fun h => h)) 2
        have s0 : wr.cell? ⟨w.heap.size, 0, none⟩ = some (.slice A n c) := blk_cell ((fr0 HB57.out).blk HQ5.out (fun h => h)) 0
        have n1 : ¬ li < pa := by omega
        have n2 : ¬ li < 0 := by omega
        have n3 : ¬ (n : Int) ≤ li := by omega
        clear hli k1 k3 k4
        go_upto_region 13 with fail
        go_cut [137] (fun v wx => v = .bool false ∧ Hid (Below wr.heap.size wr wx))
        case first =>
          as_aux_lemma =>
            by_cases y6 : pf = -1
            case pos =>
              have y6b : (pf != -1) = false := by rw [y6]; rfl
              clear y6 k2
              by_cases hi0 : i = 0
              case pos =>
                have hi0' : ¬ 0 < i := by omega
                clear hi0
                go_quiet (fail)
                have HBQ := hid (below_drewN' (Below.refl wr.heap.size wr) nq)
                clear u0 c1 c2 s0
                go_wp2_with fail
                go_meet
                exact ⟨rfl, HBQ⟩
              case neg =>
                have hi0' : 0 < i := by omega
                obtain ⟨h, hh⟩ : ∃ h, h + 1 = i := ⟨i - 1, by omega⟩
                have hhl : h < ln := by omega
                have hki : IntKind.i64.wrap ((i : Int) - 1) = ((h : Nat) : Int) := by rw [IntKind.wrap_i64]; omega
                obtain ⟨lh, hlh⟩ : ∃ x, LU[h]? = some x := ⟨_, List.getElem?_eq_getElem (by have := HLL.out; omega)⟩
                have u1 : wr.cell? ⟨gu, h, none⟩ = some (.int .i64 lh) := own_cell0 HOUR.out (by unfold intCells; rw [List.getElem?_map, hlh]; rfl)
                have n4 : ¬ li ≤ lh := by have := HSO.out h lh li hlh (by rw [hh]; exact HLI.out); omega
                clear hi0 hh hlh
                go_quiet (fail)
                have HBQ := hid (below_drewN' (Below.refl wr.heap.size wr) nq)
                clear u0 u1 c1 c2 s0
                go_wp2_with fail
                go_meet
                exact ⟨rfl, HBQ⟩
            case neg =>
              have y6b : (pf != -1) = true := by simpa using y6
              have y7 : ¬ pf ≤ li := by rcases k2 with k2 | k2 <;> omega
              clear y6 k2
              by_cases hi0 : i = 0
              case pos =>
                have hi0' : ¬ 0 < i := by omega
                clear hi0
                go_quiet (fail)
                have HBQ := hid (below_drewN' (Below.refl wr.heap.size wr) nq)
                clear u0 c1 c2 s0
                go_wp2_with fail
                go_meet
                exact ⟨rfl, HBQ⟩
              case neg =>
                have hi0' : 0 < i := by omega
                obtain ⟨h, hh⟩ : ∃ h, h + 1 = i := ⟨i - 1, by omega⟩
                have hhl : h < ln := by omega
                have hki : IntKind.i64.wrap ((i : Int) - 1) = ((h : Nat) : Int) := by rw [IntKind.wrap_i64]; omega
                obtain ⟨lh, hlh⟩ : ∃ x, LU[h]? = some x := ⟨_, List.getElem?_eq_getElem (by have := HLL.out; omega)⟩
                have u1 : wr.cell? ⟨gu, h, none⟩ = some (.int .i64 lh) := own_cell0 HOUR.out (by unfold intCells; rw [List.getElem?_map, hlh]; rfl)
                have n4 : ¬ li ≤ lh := by have := HSO.out h lh li hlh (by rw [hh]; exact HLI.out); omega
                clear hi0 hh hlh
                go_quiet (fail)
                have HBQ := hid (below_drewN' (Below.refl wr.heap.size wr) nq)
                clear u0 u1 c1 c2 s0
                go_wp2_with fail
                go_meet
                exact ⟨rfl, HBQ⟩
        obtain ⟨rfl, HBC⟩ := hcut
        have HBD := hid (below_then HBR.out HBC.out)
        clear u0 c1 c2 s0 n1 n2 n3 k2
        go_wp2_with fail
        go_loopw [13] (fun v wr => ∃ k : Nat, k ≤ lm ∧ v = .int .i64 k ∧ Hid (Below w7.heap.size w7 wr)) (fun v _ => lm - (intOf v).toNat)
        case atStart => exact ⟨0, by omega, rfl, HBD⟩
        case round =>
          obtain ⟨k, hk, rfl, HBE⟩ := hrel
          by_cases hkl : k < lm
          case neg =>
            go_wp2_with fail
            go_roundw
            case rel => exact ⟨i + 1, by omega, by go_num, HBE⟩
            case measure => simp [intOf]; omega
          case pos =>
            have HB8 := hid (below_then HPB.out HBE.out)
            have HOUS := hid (own_kept HOUL.out (fr0 HB8.out) (fun _ _ h => h))
            have HOVS := hid (own_kept HOVL.out (fr0 HB8.out) (fun _ _ h => h))
            obtain ⟨gv, capv, _, he, _⟩ := own_shape HOVS.out (by omega)
            injection he with e1 _ e3
            subst e1
            subst e3
            obtain ⟨mk, hmk⟩ : ∃ x, LV[k]? = some x := ⟨_, List.getElem?_eq_getElem (by have := HLM2.out; omega)⟩
            obtain ⟨j1, _, _, _⟩ := HIN2.out k mk hmk
            have HJ1 := hid j1
            have u0 : wr.cell? ⟨gu, i, none⟩ = some (.int .i64 li) := own_cell0 HOUS.out (by unfold intCells; rw [List.getElem?_map, HLI.out]; rfl)
            have v0 : wr.cell? ⟨gv, k, none⟩ = some (.int .i64 mk) := own_cell0 HOVS.out (by unfold intCells; rw [List.getElem?_map, hmk]; rfl)
            have c0 : wr.cell? ⟨w5.heap.size, 0, none⟩ = some (.int .i64 pt) := blk_cell ((fr0 HBE.out).blk HP1.out (fun h => h)) 0
            have c2 : wr.cell? ⟨w5.heap.size, 2, none⟩ = some (.int .i64 pf) := blk_cell ((fr0 HBE.out).blk HP1.out (fun h => h)) 2
            have d0 : wr.cell? ⟨w5.heap.size + 1, 0, none⟩ = some (.int .i64 qt) := blk_cell ((fr0 HBE.out).blk HP2.out (fun h => h)) 0
            have d1 : wr.cell? ⟨w5.heap.size + 1, 1, none⟩ = some (.int .i64 qa) := blk_cell ((fr0 HBE.out).blk HP2.out (fun h => h)) 1
            clear hmk j1
            go_upto_region 18 with fail
            go_cut [171] (fun v wx => v = .bool false ∧ Hid (Below wr.heap.size wr wx))
            case first =>
              as_aux_lemma =>
                by_cases t1 : pt = qt
                case neg =>
                  have t1b : (pt == qt) = false := beq_eq_false_iff_ne.2 t1
                  clear t1
                  go_quiet (fail)
                  have HBQ := hid (below_drewN' (Below.refl wr.heap.size wr) nq)
                  clear u0 v0 c0 c2 d0 d1
                  go_wp2_with fail
                  go_meet
                  exact ⟨rfl, HBQ⟩
                case pos =>
                  have t1b : (pt == qt) = true := beq_iff_eq.2 t1
                  clear t1
                  by_cases t2 : pf = -1
                  case pos =>
                    have t2b : (pf != -1) = false := by rw [t2]; rfl
                    clear t2
                    go_quiet (fail)
                    have HBQ := hid (below_drewN' (Below.refl wr.heap.size wr) nq)
                    clear u0 v0 c0 c2 d0 d1
                    go_wp2_with fail
                    go_meet
                    exact ⟨rfl, HBQ⟩
                  case neg =>
                    have t2b : (pf != -1) = true := by simpa using t2
                    by_cases t3 : pf ≤ qa
                    case neg =>
                      clear t2
                      go_quiet (fail)
                      have HBQ := hid (below_drewN' (Below.refl wr.heap.size wr) nq)
                      clear u0 v0 c0 c2 d0 d1
                      go_wp2_with fail
                      go_meet
                      exact ⟨rfl, HBQ⟩
                    case pos =>
                      have hne : li ≠ mk := fun e => by
                        have h1 := HK.out
                        have h2 := HJ1.out
                        rcases h1.2 with h3 | h3
                        · exact t2 h3
                        · omega
                      have hneb : (li == mk) = false := beq_eq_false_iff_ne.2 hne
                      clear t2 hne
                      go_quiet (fail)
                      have HBQ := hid (below_drewN' (Below.refl wr.heap.size wr) nq)
                      clear u0 v0 c0 c2 d0 d1
                      go_wp2_with fail
                      go_meet
                      exact ⟨rfl, HBQ⟩
            obtain ⟨rfl, HBG⟩ := hcut
            have HBH := hid (below_then HBE.out HBG.out)
            clear u0 v0 c0 c2 d0 d1
            go_wp2_with fail
            go_roundw
            case rel => exact ⟨k + 1, by omega, by go_num, HBH⟩
            case measure => simp [intOf]; omega
end
end Go.Proofs.Ytmhochjpdedlgaa
