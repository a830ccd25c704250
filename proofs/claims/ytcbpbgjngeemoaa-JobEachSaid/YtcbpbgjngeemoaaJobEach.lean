/- JobEach: what is asked and done of one task is nothing to another one: the walk. Whatever period and deeds. -/
import Derived.Test.YtcbpbgjngeemoaaJobEx
import Derived.Deep.CutBlock
namespace Go.Proofs.Ytcbpbgjngeemoaa
open Go.RowKit

theorem two_tasks (W : World) (t u : TaskV) (B : Nat) (hB : B = W.heap.size) : ∀ (k : Nat) t', [t, u][k]? = some t' → (W.alloc (.cells (tcells t ++ tcells u).toArray 36)).cell? ⟨B, k * 4, none⟩ = some (.int .i64 t'.period) ∧
    (W.alloc (.cells (tcells t ++ tcells u).toArray 36)).cell? ⟨B, k * 4 + 1, none⟩ = some (.int .i64 t'.deadline) ∧ (W.alloc (.cells (tcells t ++ tcells u).toArray 36)).cell? ⟨B, k * 4 + 2, none⟩ = some (.int .i64 t'.wcet) ∧
    (W.alloc (.cells (tcells t ++ tcells u).toArray 36)).cell? ⟨B, k * 4 + 3, none⟩ = some t'.sections := by
  intro k t' h
  subst hB
  match k, h with
  | 0, h =>
    simp at h
    subst h
    refine ⟨?_, ?_, ?_, ?_⟩ <;> (rw [blk_cell (blk_new W _)]; rfl)
  | 1, h =>
    simp at h
    subst h
    refine ⟨?_, ?_, ?_, ?_⟩ <;> (rw [blk_cell (blk_new W _)]; rfl)
  | k + 2, h => simp at h

theorem state_ne (x : JRow) (w : World) : (binOp BinOp.neq 43 (stateV x) (stateV x)).run Try.prog w = .ok (.bool false) w := by unfold stateV; go_simp
theorem state_guard (x : JRow) (o p : Operand) (w : World) : (eqGuard BinOp.neq 43 o p (stateV x) (stateV x)).run Try.prog w = .ok () w := by unfold stateV; go_simp
theorem field_done (a e : Bool) (b c d : Int) (w : World) : (Instr.field 43 (.agg #[.bool a, .int .i64 b, .int .i64 c, .int .i64 d, .bool e]) 3).run Try.prog w = .ok (.int .i64 d) w := by kernel_rfl
/-- What stays so of a row: its period; how much may be done. -/
structure Ok (P : Int) (k : Nat) (x : JRow) : Prop where
  per : x.period = P
  d0 : 0 ≤ x.done
  d1 : x.done ≤ k
theorem Ok.mono {P : Int} {k : Nat} {x : JRow} (h : Ok P k x) : Ok P (k + 1) x := ⟨h.per, h.d0, by have := h.d1; omega⟩
theorem Ok.ask {P : Int} {k : Nat} {x : JRow} (h : Ok P k x) (n : Int) : Ok P k (askJ x n).2 := by
  unfold askJ; split <;> exact ⟨h.per, h.d0, h.d1⟩
theorem Ok.start {P : Int} {k : Nat} {x : JRow} (h : Ok P k x) (n : Int) : Ok P k (startJ x n).2 := by
  unfold startJ
  split
  · exact h
  · exact ⟨h.per, Int.le_refl _, Int.natCast_nonneg k⟩
theorem Ok.work {P : Int} {k : Nat} {x : JRow} (h : Ok P k x) (n : Int) : Ok P (k + 1) (workJ x n).2 := by
  unfold workJ
  split
  · exact h.mono
  · exact ⟨h.per, by have := h.d0; show 0 ≤ x.done + 1; omega, by have := h.d1; show x.done + 1 ≤ _; omega⟩
theorem Ok.over {P : Int} {k : Nat} {x : JRow} (h : Ok P k x) : Ok P k (overJ x).2 := by
  unfold overJ
  split
  · exact h
  · exact ⟨h.per, Int.le_refl _, Int.natCast_nonneg k⟩
/-- The two books, with the same first row. -/
structure Both (w wr : World) (ba ga ca bb gb cb : Nat) (P : Int) (k k' : Nat) (r0 r1 r2 : JRow) : Prop where
  below : Below w.heap.size w wr
  a : IsBook wr ba ga ca [r0, r1]
  b : IsBook wr bb gb cb [r0, r2]
  o0 : Ok P k r0
  o1 : Ok P k' r1
theorem Both.stepA {w wx w' : World} {ba ga ca bb gb cb : Nat} {P : Int} {k k' k'' : Nat} {r0 r1 r2 r1' : JRow} (h : Both w wx ba ga ca bb gb cb P k k' r0 r1 r2) (hA : IsBook w' ba ga ca [r0, r1']) (hF : Fr (One ga) wx w') (hg : w.heap.size ≤ ga) (n1 : ¬ One ga bb) (n2 : ¬ One ga gb) (ho : Ok P k'' r1') :
    Both w w' ba ga ca bb gb cb P k k'' r0 r1' r2 := ⟨below_one h.below hF hg, hA, h.b.kept hF n1 n2, h.o0, ho⟩
theorem Both.pair {w wx w' w'' : World} {ba ga ca bb gb cb : Nat} {P : Int} {k k' k'' : Nat} {r0 r1 r2 r0' : JRow} (h : Both w wx ba ga ca bb gb cb P k k' r0 r1 r2) (hA : IsBook w' ba ga ca [r0', r1]) (hF : Fr (One ga) wx w') (hB : IsBook w'' bb gb cb [r0', r2]) (hF2 : Fr (One gb) w' w'')
    (hg : w.heap.size ≤ ga) (hg2 : w.heap.size ≤ gb) (n3 : ¬ One gb ba) (n4 : ¬ One gb ga) (ho : Ok P k'' r0') : Both w w'' ba ga ca bb gb cb P k'' k' r0' r1 r2 :=
  ⟨below_one (below_one h.below hF hg) hF2 hg2, hA.kept hF2 n3 n4, hB, ho, h.o1⟩
theorem Both.later {w wx w' : World} {ba ga ca bb gb cb : Nat} {P : Int} {k k' : Nat} {r0 r1 r2 : JRow} (h : Both w wx ba ga ca bb gb cb P k k' r0 r1 r2) (hb : Below wx.heap.size wx w') : Both w w' ba ga ca bb gb cb P k k' r0 r1 r2 :=
  ⟨below_then h.below hb, h.a.kept (fr0 hb) (fun h => h) (fun h => h), h.b.kept (fr0 hb) (fun h => h) (fun h => h), h.o0, h.o1⟩
theorem Both.alloc {w wr : World} {ba ga ca bb gb cb : Nat} {P : Int} {k k' : Nat} {r0 r1 r2 : JRow} (h : Both w wr ba ga ca bb gb cb P k k' r0 r1 r2) (o : Obj) : Both w (wr.alloc o) ba ga ca bb gb cb P k k' r0 r1 r2 :=
  ⟨below_new h.below o, h.a.kept ((Fr.refl NoB wr).alloc o) (fun h => h) (fun h => h), h.b.kept ((Fr.refl NoB wr).alloc o) (fun h => h) (fun h => h), h.o0, h.o1⟩
set_option maxRecDepth 1000000 in
set_option maxHeartbeats 3200000 in
theorem jobeach_walk {w : World} (p : Int) (A : Option Addr) (len cap : Nat) (hp : -9223372036854775808 ≤ p ∧ p ≤ 9223372036854775807) (hlen : len ≤ 9223372036854775807)
    (Z : Nat → Nat → Int) (hz : IntRows w A len 3 Z) :
    Calls Try.prog 5 #[.int .i64 p, .slice A len cap] w fun e w' => e = .returned (.bool true) ∧ Below w.heap.size w w' := by
  obtain ⟨P, hP⟩ : ∃ P, P = pickN p 20 := ⟨_, rfl⟩
  have bP := pickN_bd p 20 (by omega)
  have hpP := fun W => jobpick_any (w := W) p 20 hp.1 hp.2 (by omega) (by omega)
  rw [← hP] at bP hpP
  have HP := hid hpP
  obtain ⟨bP1, bP2⟩ := bP
  have HZ := hid hz
  clear hP hpP hp hz
  go_enter Try.func5, Try.ntmps5
  go_wp2_with fail
  refine jobex_any.mono ?_
  rintro e w0 ⟨rfl, hb0⟩
  go_wp2_with fail
  refine (HP.out _).mono ?_
  rintro e w1 ⟨rfl, rfl⟩
  go_wp2_with fail
  refine (job_new (w1.heap.size + 1) 2 [⟨1 + P, 0, 3, .slice none 0 0⟩, ⟨1 + P, 0, 3, .slice none 0 0⟩] (by simp) (by simp) (two_tasks (w1.alloc (.cells #[.int .i64 (1 + P), .int .i64 0, .int .i64 3, .slice none 0 0] 36)) ⟨1 + P, 0, 3, .slice none 0 0⟩ ⟨1 + P, 0, 3, .slice none 0 0⟩ _ (by simp)) (by intro t h; simp at h; subst h; exact ⟨_, _, _, rfl⟩) (by intro t h; simp at h; subst h; simp; omega)).mono ?_
  rintro e w2 ⟨ba, ga, ca, rfl, Ha, hb1, hba, hga⟩
  have hS0 := blk_old (blk_new w1 (.cells #[.int .i64 (1 + P), .int .i64 0, .int .i64 3, .slice none 0 0] 36)) (.cells #[.int .i64 (1 + P), .int .i64 0, .int .i64 3, .slice none 0 0, .int .i64 (1 + P), .int .i64 0, .int .i64 3, .slice none 0 0] 36)
  have hS := (fr0 hb1).blk hS0 (fun h => h)
  have s0 : w2.cell? ⟨w1.heap.size, 0, none⟩ = some (.int .i64 (1 + P)) := blk_cell hS 0
  have s1 : w2.cell? ⟨w1.heap.size, 1, none⟩ = some (.int .i64 0) := blk_cell hS 1
  have s2 : w2.cell? ⟨w1.heap.size, 2, none⟩ = some (.int .i64 3) := blk_cell hS 2
  have s3 : w2.cell? ⟨w1.heap.size, 3, none⟩ = some (.slice none 0 0) := blk_cell hS 3
  have HB2 := hid (below_then (below_new (below_new hb0 _) _) hb1)
  simp at hba hga
  have hsz := hb0.size
  clear hb0 hb1 hS hS0
  go_wp2_with fail
  refine (job_new w2.heap.size 2 [⟨1 + P, 0, 3, .slice none 0 0⟩, ⟨1 + P, 0, 3, .slice none 0 0⟩] (by simp) (by simp) (two_tasks w2 ⟨1 + P, 0, 3, .slice none 0 0⟩ ⟨1 + P, 0, 3, .slice none 0 0⟩ _ rfl) (by intro t h; simp at h; subst h; exact ⟨_, _, _, rfl⟩) (by intro t h; simp at h; subst h; simp; omega)).mono ?_
  rintro e w3 ⟨bb, gb, cb, rfl, Hb, hb3, hbb, hgb⟩
  have hl1 := blk_lt Ha.hb
  have hl2 : ga < w2.heap.size := by obtain ⟨cur, hg, _⟩ := own_blk Ha.ho; exact blk_lt hg
  simp at hbb hgb
  have Ha3 := (Ha.kept ((Fr.refl NoB w2).alloc (.cells (tcells ⟨1 + P, 0, 3, .slice none 0 0⟩ ++ tcells ⟨1 + P, 0, 3, .slice none 0 0⟩).toArray 36)) (fun h => h) (fun h => h)).kept (fr0 hb3) (fun h => h) (fun h => h)
  have n1 : ¬ One ga bb := fun h => by have : bb = ga := h; omega
  have n2 : ¬ One ga gb := fun h => by have : gb = ga := h; omega
  have n3 : ¬ One gb ba := fun h => by have : ba = gb := h; omega
  have n4 : ¬ One gb ga := fun h => by have : ga = gb := h; omega
  have hga0 : w.heap.size ≤ ga := by omega
  have hgb0 : w.heap.size ≤ gb := by omega
  have HB3 := hid (below_then (below_new HB2.out _) hb3)
  have HA3 := hid Ha3
  have HB3b := hid Hb
  clear hb3 Ha3 Hb Ha s0 s1 s2 s3 hba hga hbb hgb hl1 hl2 hsz
  go_wp2_with fail
  go_loopw [11] (fun i wr => ∃ (k : Nat) (r0 r1 r2 : JRow), k ≤ len ∧ k ≤ 100 ∧ i = .int .i64 k ∧ Both w wr ba ga ca bb gb cb (1 + P) k k r0 r1 r2) (fun i _ => 100 - (intOf i).toNat)
  case atStart => exact ⟨0, newRow ⟨1 + P, 0, 3, .slice none 0 0⟩, newRow ⟨1 + P, 0, 3, .slice none 0 0⟩, newRow ⟨1 + P, 0, 3, .slice none 0 0⟩, by omega, by omega, rfl, HB3.out, HA3.out, HB3b.out, ⟨rfl, Int.le_refl _, Int.le_refl _⟩, ⟨rfl, Int.le_refl _, Int.le_refl _⟩⟩
  case round =>
    obtain ⟨k, r0, r1, r2, hk1, hk2, rfl, hI⟩ := hrel
    by_cases h1 : k < len
    · by_cases h2 : k < 100
      · obtain ⟨ab, ao, rfl, hbl, hcs⟩ := HZ.out k h1
        obtain ⟨hc0, hd1, hd2⟩ := hcs 0 (by omega)
        have hc1 := (hcs 1 (by omega)).1
        have hc2 := (hcs 2 (by omega)).1
        have c0 : wr.cell? ⟨ab, ao + k * 3, none⟩ = some (.int .i64 (Z k 0)) := (hI.below.cell hbl).trans hc0
        have c1 : wr.cell? ⟨ab, ao + k * 3 + 1, none⟩ = some (.int .i64 (Z k 1)) := (hI.below.cell hbl).trans hc1
        have c2 : wr.cell? ⟨ab, ao + k * 3 + 2, none⟩ = some (.int .i64 (Z k 2)) := (hI.below.cell hbl).trans hc2
        clear hc0 hc1 hc2 hcs
        generalize Z k 0 = d0 at *
        generalize Z k 1 = d1 at *
        generalize Z k 2 = d2 at *
        have hK := pickN_bd d0 4 (by omega)
        have hKp := fun W => jobpick_any (w := W) d0 4 hd1 hd2 (by omega) (by omega)
        generalize pickN d0 4 = K at *
        have HK := hid hKp
        clear hKp
        have hI2 := hI.alloc (.cells #[.int .i64 d0, .int .i64 d1, .int .i64 d2] 49)
        have f1 : (wr.alloc (.cells #[.int .i64 d0, .int .i64 d1, .int .i64 d2] 49)).cell? ⟨wr.heap.size, 2, none⟩ = some (.int .i64 d2) := blk_cell (blk_new _ _) 2
        have HI := hid hI2
        clear hI hI2
        go_upto_block 2 with (go_at_call 22; refine (HK.out _).mono ?_; rintro e w' ⟨rfl, rfl⟩)
        go_cut [54] (fun _ wx => ∃ r1', Both w wx ba ga ca bb gb cb (1 + P) k (k + 1) r0 r1' r2)
        case first =>
          as_aux_lemma =>
            rcases (show K = 0 ∨ K = 1 ∨ K = 2 ∨ K = 3 by omega) with rfl | rfl | rfl | rfl
            · go_wp2_with (go_at_call 24; refine (job_ask HI.out.a (k := 1) rfl (by simp) d2).mono ?_; rintro e w' ⟨rfl, hA, hF⟩)
              go_meet
              exact ⟨_, HI.out.stepA hA hF hga0 n1 n2 (HI.out.o1.ask d2).mono⟩
            · go_wp2_with (go_at_call 26; refine (job_start HI.out.a (k := 1) rfl (by simp) k (by omega) (by omega) (by rw [HI.out.o1.per]; omega) (by rw [HI.out.o1.per]; omega)).mono ?_; rintro e w' ⟨rfl, hA, hF⟩)
              go_meet
              exact ⟨_, HI.out.stepA hA hF hga0 n1 n2 (HI.out.o1.start k).mono⟩
            · go_wp2_with (go_at_call 28; refine (job_work HI.out.a (k := 1) rfl (by simp) k (by omega) (by omega) HI.out.o1.d0 (by have := HI.out.o1.d1; omega)).mono ?_; rintro e w' ⟨rfl, hA, hF⟩)
              go_meet
              exact ⟨_, HI.out.stepA hA hF hga0 n1 n2 (HI.out.o1.work k)⟩
            · go_wp2_with (go_at_call 29; refine (job_over HI.out.a (k := 1) rfl (by simp)).mono ?_; rintro e w' ⟨rfl, hA, hF⟩)
              go_meet
              exact ⟨_, HI.out.stepA hA hF hga0 n1 n2 HI.out.o1.over.mono⟩
        obtain ⟨r1', hJ⟩ := hcut
        have HJ := hid hJ
        clear hJ
        go_upto_region 19 with fail
        go_cut [107] (fun v wx => v = .bool false ∧ ∃ r0', Both w wx ba ga ca bb gb cb (1 + P) (k + 1) (k + 1) r0' r1' r2)
        case first =>
          by_cases h3 : (k : Int) % 3 = 0
          · have h3' : ((k : Int) % 3 == 0) = true := by simpa using h3
            clear h3
            as_aux_lemma =>
              go_wp2_with fail
              refine (job_ask HJ.out.a (k := 0) rfl (by simp) 2).mono ?_
              rintro e w3a ⟨rfl, hA, hF⟩
              go_wp2_with fail
              refine (job_ask (HJ.out.b.kept hF n1 n2) (k := 0) rfl (by simp) 2).mono ?_
              rintro e w3b ⟨rfl, hB, hF2⟩
              obtain ⟨r_HA, HA⟩ : ∃ r, Hid (Both w w3b ba ga ca bb gb cb (1 + P) k (k + 1) r r1' r2) := ⟨_, hid (HJ.out.pair hA hF hB hF2 hga0 hgb0 n3 n4 (HJ.out.o0.ask 2))⟩
              clear hA hF hB hF2
              as_aux_lemma =>
                go_wp2_with fail
                refine (job_start HA.out.a (k := 0) rfl (by simp) k (by omega) (by omega) (by rw [HA.out.o0.per]; omega) (by rw [HA.out.o0.per]; omega)).mono ?_
                rintro e w4a ⟨rfl, hA, hF⟩
                go_wp2_with fail
                refine (job_start (HA.out.b.kept hF n1 n2) (k := 0) rfl (by simp) k (by omega) (by omega) (by rw [HA.out.o0.per]; omega) (by rw [HA.out.o0.per]; omega)).mono ?_
                rintro e w4b ⟨rfl, hB, hF2⟩
                obtain ⟨r_HS, HS⟩ : ∃ r, Hid (Both w w4b ba ga ca bb gb cb (1 + P) k (k + 1) r r1' r2) := ⟨_, hid (HA.out.pair hA hF hB hF2 hga0 hgb0 n3 n4 (HA.out.o0.start k))⟩
                clear hA hF hB hF2
                as_aux_lemma =>
                  go_wp2_with fail
                  refine (job_work HS.out.a (k := 0) rfl (by simp) k (by omega) (by omega) HS.out.o0.d0 (by have := HS.out.o0.d1; omega)).mono ?_
                  rintro e w5a ⟨rfl, hA, hF⟩
                  go_wp2_with fail
                  refine (job_work (HS.out.b.kept hF n1 n2) (k := 0) rfl (by simp) k (by omega) (by omega) HS.out.o0.d0 (by have := HS.out.o0.d1; omega)).mono ?_
                  rintro e w5b ⟨rfl, hB, hF2⟩
                  obtain ⟨r_HW, HW⟩ : ∃ r, Hid (Both w w5b ba ga ca bb gb cb (1 + P) (k + 1) (k + 1) r r1' r2) := ⟨_, hid (HS.out.pair hA hF hB hF2 hga0 hgb0 n3 n4 (HS.out.o0.work k))⟩
                  clear hA hF hB hF2
                  as_aux_lemma =>
                    go_wp2_with fail
                    refine (job_state HW.out.a (k := 0) rfl (by simp)).mono ?_
                    rintro e w6a ⟨rfl, hb6⟩
                    have HV := hid (HW.out.later hb6)
                    clear hb6
                    go_wp2_with fail
                    refine (job_state HV.out.b (k := 0) rfl (by simp)).mono ?_
                    rintro e w6b ⟨rfl, hb7⟩
                    have HU := hid (HV.out.later hb7)
                    clear hb7
                    have hsn := state_ne
                    have hsg := state_guard
                    go_wp2_with fail
                    go_meet
                    exact ⟨rfl, _, HU.out⟩
          · have h3' : ((k : Int) % 3 == 0) = false := by simpa using h3
            clear h3
            as_aux_lemma =>
              go_wp2_with fail
              refine (job_start HJ.out.a (k := 0) rfl (by simp) k (by omega) (by omega) (by rw [HJ.out.o0.per]; omega) (by rw [HJ.out.o0.per]; omega)).mono ?_
              rintro e w4a ⟨rfl, hA, hF⟩
              go_wp2_with fail
              refine (job_start (HJ.out.b.kept hF n1 n2) (k := 0) rfl (by simp) k (by omega) (by omega) (by rw [HJ.out.o0.per]; omega) (by rw [HJ.out.o0.per]; omega)).mono ?_
              rintro e w4b ⟨rfl, hB, hF2⟩
              obtain ⟨r_HS, HS⟩ : ∃ r, Hid (Both w w4b ba ga ca bb gb cb (1 + P) k (k + 1) r r1' r2) := ⟨_, hid (HJ.out.pair hA hF hB hF2 hga0 hgb0 n3 n4 (HJ.out.o0.start k))⟩
              clear hA hF hB hF2
              as_aux_lemma =>
                go_wp2_with fail
                refine (job_work HS.out.a (k := 0) rfl (by simp) k (by omega) (by omega) HS.out.o0.d0 (by have := HS.out.o0.d1; omega)).mono ?_
                rintro e w5a ⟨rfl, hA, hF⟩
                go_wp2_with fail
                refine (job_work (HS.out.b.kept hF n1 n2) (k := 0) rfl (by simp) k (by omega) (by omega) HS.out.o0.d0 (by have := HS.out.o0.d1; omega)).mono ?_
                rintro e w5b ⟨rfl, hB, hF2⟩
                obtain ⟨r_HW, HW⟩ : ∃ r, Hid (Both w w5b ba ga ca bb gb cb (1 + P) (k + 1) (k + 1) r r1' r2) := ⟨_, hid (HS.out.pair hA hF hB hF2 hga0 hgb0 n3 n4 (HS.out.o0.work k))⟩
                clear hA hF hB hF2
                as_aux_lemma =>
                  go_wp2_with fail
                  refine (job_state HW.out.a (k := 0) rfl (by simp)).mono ?_
                  rintro e w6a ⟨rfl, hb6⟩
                  have HV := hid (HW.out.later hb6)
                  clear hb6
                  go_wp2_with fail
                  refine (job_state HV.out.b (k := 0) rfl (by simp)).mono ?_
                  rintro e w6b ⟨rfl, hb7⟩
                  have HU := hid (HV.out.later hb7)
                  clear hb7
                  have hsn := state_ne
                  have hsg := state_guard
                  go_wp2_with fail
                  go_meet
                  exact ⟨rfl, _, HU.out⟩
        obtain ⟨rfl, r0', hJ2⟩ := hcut
        have HJ2 := hid hJ2
        clear hJ2
        go_wp2_with fail
        refine (job_state HJ2.out.a (k := 0) rfl (by simp)).mono ?_
        rintro e w8 ⟨rfl, hb8⟩
        have HV := hid (HJ2.out.later hb8)
        clear hb8
        unfold stateV
        have hfd := field_done
        by_cases h5 : r0'.done = 2
        · have h5' : (r0'.done == 2) = true := by simpa using h5
          clear h5
          go_wp2_with fail
          refine (job_over HV.out.a (k := 0) rfl (by simp)).mono ?_
          rintro e w9 ⟨rfl, hA, hF⟩
          go_wp2_with fail
          refine (job_over (HV.out.b.kept hF n1 n2) (k := 0) rfl (by simp)).mono ?_
          rintro e w10 ⟨rfl, hB, hF2⟩
          have H4 := hid (HV.out.pair hA hF hB hF2 hga0 hgb0 n3 n4 HV.out.o0.over)
          clear hA hF hB hF2
          go_wp2_with fail
          go_roundw
          case rel => exact ⟨k + 1, _, _, _, by omega, by omega, by go_num, H4.out⟩
          case measure => simp [intOf]; omega
        · have h5' : (r0'.done == 2) = false := by simpa using h5
          clear h5
          go_wp2_with fail
          go_roundw
          case rel => exact ⟨k + 1, _, _, _, by omega, by omega, by go_num, HV.out⟩
          case measure => simp [intOf]; omega
      · go_wp2_with fail
        go_ret
        exact ⟨rfl, hI.below⟩
    · go_wp2_with fail
      go_ret
      exact ⟨rfl, hI.below⟩
end Go.Proofs.Ytcbpbgjngeemoaa
