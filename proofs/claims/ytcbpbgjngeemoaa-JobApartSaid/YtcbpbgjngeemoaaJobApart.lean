/- JobApart: two jobs of a task come a period apart, none works more than its task's work, nor twice in a tick: the walk. Whatever period, work and asks. -/
import Derived.Test.YtcbpbgjngeemoaaJobEx
import Derived.Test.YtcbpbgjngeemoaaDeed
import Derived.Deep.CutBlock
set_option linter.unusedVariables false
set_option linter.unusedSimpArgs false
namespace Go.Proofs.Ytcbpbgjngeemoaa
open Go.RowKit

/-- What the law keeps of the one row: L: the last start. -/
structure ROk (P Q L : Int) (k : Nat) (x : JRow) : Prop where
  per : x.period = 1 + P
  wc : x.wcet = 1 + Q
  on : x.active = true → 0 ≤ x.done ∧ x.done < x.demand ∧ x.demand ≤ 1 + Q
  off : x.active = false → x.done = 0 ∧ x.demand = 0
  wk : x.worked < k
  w0 : 0 ≤ x.waits
  last : (L = -1 ∧ x.free = 0) ∨ (0 ≤ L ∧ L ≤ 1000 ∧ x.free = L + (1 + P))
theorem ROk.mono {P Q L : Int} {k : Nat} {x : JRow} (h : ROk P Q L k x) : ROk P Q L (k + 1) x := ⟨h.per, h.wc, h.on, h.off, by have := h.wk; omega, h.w0, h.last⟩
theorem ROk.ask {P Q L : Int} {k : Nat} {x : JRow} (h : ROk P Q L k x) (n : Int) (hn : 0 ≤ n) : ROk P Q L k (askJ x n).2 := by
  unfold askJ; split
  · exact h
  · exact ⟨h.per, h.wc, h.on, h.off, h.wk, hn, h.last⟩
theorem tickB_nat (k : Nat) (hk : k ≤ 1000) : tickB k = true := by simp [tickB]; omega
/-- Where Next says 'now', Start starts, a period behind the last one. -/
theorem ROk.start {P Q L : Int} {k : Nat} {x : JRow} (h : ROk P Q L k x) (hk : k ≤ 1000) (hQ : 0 ≤ Q) (hn : nextJ x k = k) : ∃ x', startJ x k = (true, x') ∧ ROk P Q k k x' ∧ (L = -1 ∨ 0 ≤ L ∧ L ≤ 1000 ∧ 1 + P ≤ k - L) := by
  refine ⟨_, startJ_yes (tickB_nat k hk) hn, ?_, ?_⟩ <;> unfold nextJ at hn <;> split at hn
  · omega
  · rename_i hc
    have hw : x.waits ≠ 0 := fun h0 => hc (.inl h0)
    have w0 := h.w0
    refine ⟨h.per, h.wc, fun _ => ⟨Int.le_refl _, ?_, ?_⟩, fun e => (by cases e), ?_, Int.le_refl _, .inr ⟨by omega, by omega, by show (k : Int) + x.period = _; rw [h.per]⟩⟩
    · show 0 < min x.waits x.wcet; rw [h.wc]; omega
    · show min x.waits x.wcet ≤ _; rw [h.wc]; omega
    · show (-1 : Int) < k; omega
  · omega
  · rcases h.last with ⟨e, _⟩ | ⟨a, b, c⟩
    · exact .inl e
    · exact .inr ⟨a, b, by omega⟩
theorem workJ_on {x : JRow} {k : Nat} {P Q L : Int} (h : ROk P Q L k x) (hk : k ≤ 1000) (ha : x.active = true) : workJ x k = (true, { x with done := x.done + 1, worked := k }) := by
  have h1 := h.on ha
  have h2 := h.wk
  unfold workJ
  rw [if_neg]
  rintro (e | e | e | e)
  · rw [ha] at e; cases e
  · omega
  · omega
  · rw [tickB_nat k hk] at e; cases e
theorem workJ_off {x : JRow} {k : Int} (ha : x.active = false) : workJ x k = (false, x) := by
  unfold workJ; rw [if_pos (.inl ha)]
theorem workJ_again {x : JRow} {k : Int} (ha : x.worked = k) : workJ x k = (false, x) := by
  unfold workJ; rw [if_pos (.inr (.inr (.inl ha)))]
theorem ROk.done {P Q L : Int} {k : Nat} {x : JRow} (h : ROk P Q L k x) (ha : x.active = true) (hd : x.done + 1 ≠ x.demand) : ROk P Q L (k + 1) { x with done := x.done + 1, worked := k } := by
  have h1 := h.on ha
  exact ⟨h.per, h.wc, fun _ => ⟨by show 0 ≤ x.done + 1; omega, by show x.done + 1 < x.demand; omega, h1.2.2⟩, fun e => (by rw [show x.active = false from e] at ha; cases ha), by show (k : Int) < (k + 1 : Nat); omega, h.w0, h.last⟩
theorem ROk.over {P Q L : Int} {k : Nat} {x : JRow} (h : ROk P Q L k x) : ROk P Q L (k + 1) ⟨false, 0, 0, 0, false, x.period, x.wcet, x.waits, x.free, (k : Int)⟩ :=
  ⟨h.per, h.wc, fun e => (by cases e), fun _ => ⟨rfl, rfl⟩, by show (k : Int) < (k + 1 : Nat); omega, h.w0, h.last⟩

/-- A tick of an active job. -/
theorem ROk.tick {P Q L : Int} {k : Nat} {x : JRow} (h : ROk P Q L k x) (hk : k ≤ 1000) (ha : x.active = true) : ∃ x3 x4, workJ x k = (true, x3) ∧ workJ x3 k = (false, x3) ∧ overJ x3 = (true, x4) ∧ ROk P Q L (k + 1) x4 ∧ (x.done + 1 ≠ x.demand → ROk P Q L (k + 1) x3) ∧
    stateV x3 = .agg #[.bool true, .int .i64 x.arrival, .int .i64 x.demand, .int .i64 (x.done + 1), .bool x.cut] ∧ 0 ≤ x3.done ∧ x3.done ≤ 1000000 + Q := by
  refine ⟨_, _, workJ_on h hk ha, workJ_again rfl, ?_, h.over, fun hd => h.done ha hd, ?_, ?_, ?_⟩
  · unfold overJ
    rw [if_neg (by show ¬ x.active = false; rw [ha]; simp)]
  · unfold stateV
    show Value.agg #[.bool x.active, _, _, _, _] = _
    rw [ha]
  · have := (h.on ha).1; show 0 ≤ x.done + 1; omega
  · have := h.on ha; show x.done + 1 ≤ _; omega

/-- The book of one row, and the task that the law itself keeps. -/
structure Apart (w wr : World) (tb b g cap : Nat) (P Q : Int) (x : JRow) : Prop where
  below : Below w.heap.size w wr
  book : IsBook wr b g cap [x]
  c0 : wr.cell? ⟨tb, 0, none⟩ = some (.int .i64 (1 + P))
  c2 : wr.cell? ⟨tb, 2, none⟩ = some (.int .i64 (1 + Q))
theorem Apart.lt {w wr : World} {tb b g cap : Nat} {P Q : Int} {x : JRow} (h : Apart w wr tb b g cap P Q x) : g < wr.heap.size := by
  obtain ⟨cur, hg, _⟩ := own_blk h.book.ho; exact blk_lt hg
theorem Apart.step {w wx w' : World} {tb b g cap : Nat} {P Q : Int} {x x' : JRow} (h : Apart w wx tb b g cap P Q x) (hB : IsBook w' b g cap [x']) (hF : Fr (One g) wx w') (hg : w.heap.size ≤ g) (hn : tb ≠ g) : Apart w w' tb b g cap P Q x' :=
  ⟨below_one h.below hF hg, hB, (hF.cell h.c0 hn), (hF.cell h.c2 hn)⟩
theorem Apart.later {w wx w' : World} {tb b g cap : Nat} {P Q : Int} {x : JRow} (h : Apart w wx tb b g cap P Q x) (hb : Below wx.heap.size wx w') : Apart w w' tb b g cap P Q x :=
  ⟨below_then h.below hb, h.book.kept (fr0 hb) (fun h => h) (fun h => h), (fr0 hb).cell h.c0 (fun h => h), (fr0 hb).cell h.c2 (fun h => h)⟩
theorem Apart.alloc {w wx : World} {tb b g cap : Nat} {P Q : Int} {x : JRow} (h : Apart w wx tb b g cap P Q x) (o : Obj) : Apart w (wx.alloc o) tb b g cap P Q x :=
  ⟨below_new h.below o, h.book.kept ((Fr.refl NoB wx).alloc o) (fun h => h) (fun h => h), ((Fr.refl NoB wx).alloc o).cell h.c0 (fun h => h), ((Fr.refl NoB wx).alloc o).cell h.c2 (fun h => h)⟩

attribute [local irreducible] askJ nextJ startJ workJ overJ tickB
theorem one_task_at (W : World) (t : TaskV) (B : Nat) (hB : B = W.heap.size) : ∀ (k : Nat) t', [t][k]? = some t' → (W.alloc (.cells (tcells t).toArray 36)).cell? ⟨B, k * 4, none⟩ = some (.int .i64 t'.period) ∧
    (W.alloc (.cells (tcells t).toArray 36)).cell? ⟨B, k * 4 + 1, none⟩ = some (.int .i64 t'.deadline) ∧ (W.alloc (.cells (tcells t).toArray 36)).cell? ⟨B, k * 4 + 2, none⟩ = some (.int .i64 t'.wcet) ∧
    (W.alloc (.cells (tcells t).toArray 36)).cell? ⟨B, k * 4 + 3, none⟩ = some t'.sections := by subst hB; exact one_task W t
set_option maxRecDepth 1000000 in
set_option maxHeartbeats 3200000 in
theorem jobapart_walk {w : World} (p q : Int) (A : Option Addr) (len cap : Nat) (hp : -9223372036854775808 ≤ p ∧ p ≤ 9223372036854775807) (hq : -9223372036854775808 ≤ q ∧ q ≤ 9223372036854775807) (hlen : len ≤ 9223372036854775807)
    (z : Nat → Int) (hz : Ints w A len z) :
    Calls Try.prog 4 #[.int .i64 p, .int .i64 q, .slice A len cap] w fun e w' => e = .returned (.bool true) ∧ Below w.heap.size w w' := by
  obtain ⟨P, hP⟩ : ∃ P, P = pickN p 30 := ⟨_, rfl⟩
  obtain ⟨Q, hQ⟩ : ∃ Q, Q = pickN q 30 := ⟨_, rfl⟩
  have bP := pickN_bd p 30 (by omega)
  have bQ := pickN_bd q 30 (by omega)
  have hpP := fun W => jobpick_any (w := W) p 30 hp.1 hp.2 (by omega) (by omega)
  have hpQ := fun W => jobpick_any (w := W) q 30 hq.1 hq.2 (by omega) (by omega)
  rw [← hP] at bP hpP
  rw [← hQ] at bQ hpQ
  have HP := hid hpP
  have HQ := hid hpQ
  obtain ⟨bP1, bP2⟩ := bP
  obtain ⟨bQ1, bQ2⟩ := bQ
  have HZ := hid hz
  clear hP hpP hp hz hQ hpQ hq
  go_enter Try.func4, Try.ntmps4
  go_wp2_with fail
  refine jobex_any.mono ?_
  rintro e w0 ⟨rfl, hb0⟩
  go_wp2_with fail
  refine (HP.out _).mono ?_
  rintro e w1 ⟨rfl, rfl⟩
  go_wp2_with fail
  refine (HQ.out _).mono ?_
  rintro e w1' ⟨rfl, rfl⟩
  go_wp2_with fail
  refine (job_new (w1'.heap.size + 1) 1 [⟨1 + P, 0, 1 + Q, .slice none 0 0⟩] (by simp) (by simp) (one_task_at (w1'.alloc (.cells #[.int .i64 (1 + P), .int .i64 0, .int .i64 (1 + Q), .slice none 0 0] 36)) ⟨1 + P, 0, 1 + Q, .slice none 0 0⟩ _ (by simp)) (by intro t h; simp at h; subst h; exact ⟨_, _, _, rfl⟩) (by intro t h; simp at h; subst h; simp; omega)).mono ?_
  rintro e w2 ⟨b, g, gc, rfl, H0, hb1, hbb, hgg⟩
  have hS0 := blk_old (blk_new w1' (.cells #[.int .i64 (1 + P), .int .i64 0, .int .i64 (1 + Q), .slice none 0 0] 36)) (.cells #[.int .i64 (1 + P), .int .i64 0, .int .i64 (1 + Q), .slice none 0 0] 36)
  have hS := (fr0 hb1).blk hS0 (fun h => h)
  have s0 : w2.cell? ⟨w1'.heap.size, 0, none⟩ = some (.int .i64 (1 + P)) := blk_cell hS 0
  have s2 : w2.cell? ⟨w1'.heap.size, 2, none⟩ = some (.int .i64 (1 + Q)) := blk_cell hS 2
  have HB2 := hid (below_then (below_new (below_new hb0 _) _) hb1)
  simp at hbb hgg
  have hsz := hb0.size
  have hg0 : w.heap.size ≤ g := by omega
  have hntb : w1'.heap.size ≠ g := by omega
  have HA := hid (Apart.mk (x := newRow ⟨1 + P, 0, 1 + Q, .slice none 0 0⟩) HB2.out H0 s0 s2)
  clear hb0 hb1 hS hS0 s0 s2 H0 hbb hgg hsz
  go_wp2_with fail
  go_loopw [11, 12] (fun l i wr => ∃ (k : Nat) (L : Int) (x : JRow), k ≤ len ∧ k ≤ 200 ∧ i = .int .i64 k ∧ l = .int .i64 L ∧ ROk P Q L k x ∧ Apart w wr w1'.heap.size b g gc P Q x) (fun _ i _ => 200 - (intOf i).toNat)
  case atStart =>
    exact ⟨0, -1, _, by omega, by omega, rfl, rfl, ⟨rfl, rfl, fun h => (by cases h), fun _ => ⟨rfl, rfl⟩, by show (-1 : Int) < 0; omega, Int.le_refl _, .inl ⟨rfl, rfl⟩⟩, HA.out⟩
  case round =>
    obtain ⟨k, L, x, hk1, hk2, rfl, rfl, hR, hI⟩ := hrel
    by_cases h1 : k < len
    · by_cases h2 : k < 200
      · obtain ⟨ab, ao, rfl, hbl, hc0, hd1, hd2⟩ := HZ.out k h1
        have c0 : wr.cell? ⟨ab, ao + k, none⟩ = some (.int .i64 (z k)) := (hI.below.cell hbl).trans hc0
        clear hc0
        generalize z k = d at *
        have hK := pickN_bd d 40 (by omega)
        have hKp := fun W => jobpick_any (w := W) d 40 hd1 hd2 (by omega) (by omega)
        generalize pickN d 40 = K at *
        have HK := hid hKp
        have HI := hid hI
        have HR := hid hR
        clear hKp hI hR
        go_upto_if 48 with fail
        go_cut [56] (fun _ wx => ∃ x', ROk P Q L k x' ∧ Apart w wx w1'.heap.size b g gc P Q x')
        case first =>
          as_aux_lemma =>
            by_cases hr : d.tmod 3 = 0
            · have hr1 : (d.tmod 3 == 0) = true := by simp [hr]
              have hr2 : (d.tmod 3 != 0) = false := by simp [hr]
              clear hr
              go_wp2_with fail
              go_meet
              exact ⟨x, HR.out, HI.out⟩
            · have hr1 : (d.tmod 3 == 0) = false := by simp [hr]
              have hr2 : (d.tmod 3 != 0) = true := by simp [hr]
              clear hr
              go_wp2_with fail
              refine (HK.out _).mono ?_
              rintro e w3' ⟨rfl, rfl⟩
              go_wp2_with fail
              refine (job_ask HI.out.book (k := 0) rfl (by simp) (1 + K)).mono ?_
              rintro e w3 ⟨rfl, hA, hF⟩
              have HI3 := hid (HI.out.step hA hF hg0 hntb)
              clear hA hF
              go_wp2_with fail
              go_meet
              exact ⟨_, HR.out.ask (1 + K) (by omega), HI3.out⟩
        obtain ⟨x1, hR1, hI1⟩ := hcut
        have HR1 := hid hR1
        have HI1 := hid hI1
        clear hR1 hI1
        obtain ⟨N, hN⟩ : ∃ N, nextJ x1 k = N := ⟨_, rfl⟩
        have HN := hid hN
        clear hN
        go_upto_if 61 with (go_at_call 25; refine (next_is HI1.out.book (k := 0) rfl (by simp) k (by omega) (by omega) HN.out).mono ?_; rintro e w' ⟨rfl, rfl⟩)
        go_cut [11] (fun v wx => ∃ x2 L2, v = .int .i64 L2 ∧ ROk P Q L2 k x2 ∧ Apart w wx w1'.heap.size b g gc P Q x2)
        case first =>
          as_aux_lemma =>
            by_cases hn : N = k
            · subst hn
              go_upto_region 13 with fail
              obtain ⟨x3, hs, hR2, hL⟩ := HR1.out.start (by omega) bQ1 HN.out
              have HS := hid hs
              have HR2 := hid hR2
              have HL := hid hL
              clear hs hR2 hL
              go_wp2_with fail
              refine (start_is HI1.out.book (k := 0) rfl (by simp) k (by omega) (by omega) (by rw [HR1.out.per]; omega) (by rw [HR1.out.per]; omega) HS.out rfl).mono ?_
              rintro e w3 ⟨rfl, hA, hF⟩
              have HI3 := hid (HI1.out.step hA hF hg0 hntb)
              have m0 := HI3.out.c0
              clear hA hF
              have hl := HL.out
              clear HS HL HN HR1
              rcases hl with rfl | ⟨hL1, hL2, hL3⟩
              · go_wp2_with fail
                go_meet
                exact ⟨_, k, rfl, HR2.out, HI3.out⟩
              · have hL4 : ¬ ((k : Int) - L < 1 + P) := by omega
                go_wp2_with fail
                go_meet
                exact ⟨_, k, rfl, HR2.out, HI3.out⟩
            · have hn1 : (N == (k : Int)) = false := by simp [hn]
              clear hn
              go_wp2_with fail
              go_meet
              exact ⟨x1, L, rfl, HR1.out, HI1.out⟩
        obtain ⟨x2, L2, rfl, hR2, hI2⟩ := hcut
        have HR2 := hid hR2
        have HI2 := hid hI2
        clear hR2 hI2
        go_wp2_with fail
        refine (job_state HI2.out.book (k := 0) rfl (by simp)).mono ?_
        rintro e wA ⟨rfl, hbA⟩
        unfold stateV
        have HIA := hid (HI2.out.later hbA)
        clear hbA
        cases ha : x2.active with
        | false =>
          obtain ⟨hd0, hm0⟩ := HR2.out.off ha
          have HW1 := hid (workJ_off (k := k) ha)
          have HX := hid ha
          rw [hd0, hm0]
          have HD := hid (And.intro hd0 hm0)
          clear hd0 hm0 ha
          have O1 := hid (blk_new wA (.cells #[.bool false, .int .i64 x2.arrival, .int .i64 0, .int .i64 0, .bool x2.cut] 43))
          have HIB := hid (HIA.out.alloc (.cells #[.bool false, .int .i64 x2.arrival, .int .i64 0, .int .i64 0, .bool x2.cut] 43))
          go_wp2_with fail
          refine (work_is HIB.out.book (k := 0) rfl (by simp) k (by omega) (by omega) (by rw [HD.out.1]; omega) (by rw [HD.out.1]; omega) HW1.out rfl).mono ?_
          rintro e wC ⟨rfl, hA, hF⟩
          have HIC := hid (HIB.out.step hA hF hg0 hntb)
          have O2 := hid (hF.blk O1.out (by intro h; have h' : wA.heap.size = g := h; have := HIA.out.lt; omega))
          clear hA hF
          go_wp2_with fail
          refine (work_is HIC.out.book (k := 0) rfl (by simp) k (by omega) (by omega) (by rw [HD.out.1]; omega) (by rw [HD.out.1]; omega) HW1.out rfl).mono ?_
          rintro e wD ⟨rfl, hA, hF⟩
          have HID := hid (HIC.out.step hA hF hg0 hntb)
          have O3 := hid (hF.blk O2.out (by intro h; have h' : wA.heap.size = g := h; have := HIA.out.lt; omega))
          clear hA hF
          go_wp2_with fail
          refine (job_state HID.out.book (k := 0) rfl (by simp)).mono ?_
          rintro e wE ⟨rfl, hbE⟩
          unfold stateV
          rw [HD.out.1, HD.out.2, HX.out]
          have HIE := hid (HID.out.later hbE)
          have O4 := hid ((fr0 hbE).blk O3.out (fun h => h))
          clear hbE
          have O5 := hid (blk_new wE (.cells #[.bool false, .int .i64 x2.arrival, .int .i64 0, .int .i64 0, .bool x2.cut] 43))
          have O6 := hid (((Fr.refl NoB wE).alloc (.cells #[.bool false, .int .i64 x2.arrival, .int .i64 0, .int .i64 0, .bool x2.cut] 43)).blk O4.out (fun h => h))
          have HIF := hid (HIE.out.alloc (.cells #[.bool false, .int .i64 x2.arrival, .int .i64 0, .int .i64 0, .bool x2.cut] 43))
          have e0 := blk_cell O6.out 0
          have e2 := blk_cell O6.out 2
          have e3 := blk_cell O6.out 3
          have f0 := blk_cell O5.out 0
          have f2 := blk_cell O5.out 2
          have f3 := blk_cell O5.out 3
          have m2 := HIF.out.c2
          clear HW1 HX HD
          go_wp2_with fail
          go_roundw
          case rel => exact ⟨k + 1, _, x2, by omega, by omega, by go_num, rfl, HR2.out.mono, HIF.out⟩
          case measure => simp [intOf]; omega
        | true =>
          obtain ⟨hd0, hm0, hm1⟩ := HR2.out.on ha
          obtain ⟨x3, x4, hw1, hw2, ho, hr4, hr3, hst, hb0, hb1⟩ := HR2.out.tick (by omega) ha
          have HW1 := hid hw1
          have HW2 := hid hw2
          have HO := hid ho
          have HR4 := hid hr4
          have HR3 := hid hr3
          have HST := hid hst
          have HB3 := hid (And.intro hb0 hb1)
          clear ha hw1 hw2 ho hr4 hr3 hst hb0 hb1
          have O1 := hid (blk_new wA (.cells #[.bool true, .int .i64 x2.arrival, .int .i64 x2.demand, .int .i64 x2.done, .bool x2.cut] 43))
          have HIB := hid (HIA.out.alloc (.cells #[.bool true, .int .i64 x2.arrival, .int .i64 x2.demand, .int .i64 x2.done, .bool x2.cut] 43))
          go_wp2_with fail
          refine (work_is HIB.out.book (k := 0) rfl (by simp) k (by omega) (by omega) (by omega) (by omega) HW1.out rfl).mono ?_
          rintro e wC ⟨rfl, hA, hF⟩
          have HIC := hid (HIB.out.step hA hF hg0 hntb)
          have O2 := hid (hF.blk O1.out (by intro h; have h' : wA.heap.size = g := h; have := HIA.out.lt; omega))
          clear hA hF
          go_wp2_with fail
          refine (work_is HIC.out.book (k := 0) rfl (by simp) k (by omega) (by omega) HB3.out.1 (by have := HB3.out.2; omega) HW2.out rfl).mono ?_
          rintro e wD ⟨rfl, hA, hF⟩
          have HID := hid (HIC.out.step hA hF hg0 hntb)
          have O3 := hid (hF.blk O2.out (by intro h; have h' : wA.heap.size = g := h; have := HIA.out.lt; omega))
          clear hA hF
          go_wp2_with fail
          refine (job_state HID.out.book (k := 0) rfl (by simp)).mono ?_
          rintro e wE ⟨rfl, hbE⟩
          rw [HST.out]
          have HIE := hid (HID.out.later hbE)
          have O4 := hid ((fr0 hbE).blk O3.out (fun h => h))
          clear hbE
          have O5 := hid (blk_new wE (.cells #[.bool true, .int .i64 x2.arrival, .int .i64 x2.demand, .int .i64 (x2.done + 1), .bool x2.cut] 43))
          have O6 := hid (((Fr.refl NoB wE).alloc (.cells #[.bool true, .int .i64 x2.arrival, .int .i64 x2.demand, .int .i64 (x2.done + 1), .bool x2.cut] 43)).blk O4.out (fun h => h))
          have HIF := hid (HIE.out.alloc (.cells #[.bool true, .int .i64 x2.arrival, .int .i64 x2.demand, .int .i64 (x2.done + 1), .bool x2.cut] 43))
          have e0 := blk_cell O6.out 0
          have e2 := blk_cell O6.out 2
          have e3 := blk_cell O6.out 3
          have f0 := blk_cell O5.out 0
          have f2 := blk_cell O5.out 2
          have f3 := blk_cell O5.out 3
          have m2 := HIF.out.c2
          have g1 : ¬ (1 + Q < x2.done + 1) := by omega
          have g2 : ¬ (1 + Q < x2.demand) := by omega
          have g3 : ((x2.done + 1 : Int) == x2.done + 1) = true := by simp
          have g4 : IntKind.i64.wrap (x2.done + 1) = x2.done + 1 := wraps_i64 _ (by omega) (by omega)
          generalize x2.done = D at *
          generalize x2.demand = M at *
          clear HW1 HW2 HB3 HST
          by_cases hz : D + 1 = M
          · have hz1 : (D + 1 == M) = true := by simp [hz]
            have HZ1 := hid hz
            clear hz
            go_wp2_with fail
            refine (over_is HIF.out.book (k := 0) rfl (by simp) HO.out rfl).mono ?_
            rintro e wG ⟨rfl, hA, hF⟩
            have HIG := hid (HIF.out.step hA hF hg0 hntb)
            clear hA hF
            go_wp2_with fail
            go_roundw
            case rel => exact ⟨k + 1, _, x4, by omega, by omega, by go_num, rfl, HR4.out, HIG.out⟩
            case measure => simp [intOf]; omega
          · have hz1 : (D + 1 == M) = false := by simp [hz]
            have HR5 := hid (HR3.out hz)
            clear hz
            go_wp2_with fail
            go_roundw
            case rel => exact ⟨k + 1, _, x3, by omega, by omega, by go_num, rfl, HR5.out, HIF.out⟩
            case measure => simp [intOf]; omega
      · go_wp2_with fail
        go_ret
        exact ⟨rfl, hI.below⟩
    · go_wp2_with fail
      go_ret
      exact ⟨rfl, hI.below⟩
end Go.Proofs.Ytcbpbgjngeemoaa
