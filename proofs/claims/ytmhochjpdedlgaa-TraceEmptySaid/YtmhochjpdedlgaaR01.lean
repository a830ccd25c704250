/- Joined: TraceEmpty. -/
import Derived.Test.YtmhochjpdedlgaaQ50
import Derived.Test.YtmhochjpdedlgaaQ52
import Derived.Test.YtmhochjpdedlgaaR00
import Derived.Deep.RegionLaw
/- TraceEmpty: the law's walk: it returns true. -/
set_option linter.unusedVariables false
set_option linter.unusedSimpArgs false
namespace Go.Proofs.Ytmhochjpdedlgaa
open Go.RowKit Go.Shelf Go.Maps

section
variable {w : World}
set_option maxRecDepth 100000 in
set_option maxHeartbeats 12800000 in
theorem traceEmpty_any (T : Tb) (A0 : Option Addr) (n0 c0 : Nat) (A1 : Option Addr) (n1 c1 : Nat) (A2 : Option Addr) (n2 c2 : Nat) (ticks task arrival : Int) (h : IsTab w (.slice A0 n0 c0) (.slice A1 n1 c1) (.slice A2 n2 c2) T) (hlen : n1 ≤ 4398046511104) (htk : I64 ticks) (har : I64 arrival) :
    Calls Try.prog 4 #[tabV T.sys (.slice A0 n0 c0) (.slice A1 n1 c1) (.slice A2 n2 c2), .int .i64 ticks, .int .i64 task, .int .i64 arrival] w fun e w' => e = .returned (.bool true) ∧ Below w.heap.size w w' := by
  obtain ⟨i0, hi, hz0, hz1, hz2⟩ := info_parts Try.info_slots
  obtain ⟨C, hC⟩ : ∃ C : Nat, max 0 (min T.sys.cores 8) = (C : Int) := ⟨(max 0 (min T.sys.cores 8)).toNat, by omega⟩
  have hC8 : C ≤ 8 := by omega
  obtain ⟨C0, hmk, hC0, hC0s⟩ := make_slots C hC8
  have HT := hid h
  have HTR := hid (fun W (k : Below w.heap.size w W) => tright_any (w := W) T A0 n0 c0 A1 n1 c1 A2 n2 c2 (h.later k) hlen)
  have HCH := hid (fun W (k : Below w.heap.size w W) (X : Tr) A n cp B m cb (hx : IsTr W (.slice A n cp) (.slice B m cb) X) (h6 : n ≤ 1000000) (k6 : m ≤ 1000000) (ha : ∀ y ∈ X.jobs, I64 y.arr) => check_any (w := W) T X A0 n0 c0 A1 n1 c1 A2 n2 c2 A n cp B m cb (h.later k) hx hlen h6 k6 ha)
  have HAR := hid har
  have HC := hid hC
  have HC0 := hid hC0
  have HC0S := hid hC0s
  have HMK := hid hmk
  unfold I64 at htk
  obtain ⟨CT, hCT⟩ : ∃ X, X = tabC T.sys (.slice A0 n0 c0) (.slice A1 n1 c1) (.slice A2 n2 c2) := ⟨_, rfl⟩
  have hq0 := blk_new w (.cells CT 28)
  have hb0 := below_new (Below.refl w.heap.size w) (.cells CT 28)
  unfold tabV trV tabC at *
  have HCT := hid hCT
  rw [hCT] at hb0 hq0
  clear h har hC hC0 hC0s hmk hCT
  go_enter Try.func4, Try.ntmps4
  go_upto_region 1 with fail
  generalize w.alloc (.cells #[.int .i64 T.sys.cores, .int .i64 T.sys.policy, .int .i64 T.sys.prot, .int .i64 T.sys.rel, .int .i64 T.sys.sw, .int .i64 T.sys.fin, .int .i64 T.sys.lat, .int .i64 T.sys.resn, .slice A0 n0 c0, .slice A1 n1 c1, .slice A2 n2 c2] 28) = w1 at hq0 hb0 ⊢
  have HQ1 := hid hq0
  have HB1 := hid hb0
  clear hq0 hb0
  go_wp2_with fail
  refine examples22_any.mono ?_
  rintro e w2 ⟨rfl, hb2⟩
  have HQ2 := hid ((fr0 hb2).blk HQ1.out (fun h => h))
  have HB2 := hid (below_then HB1.out hb2)
  clear hb2
  go_upto_if 17 with fail
  go_cut [1] (fun v wx => ∃ tk : Nat, v = .int .i64 tk ∧ tk ≤ 9223372036854775807 ∧ w2 = wx)
  case first =>
    by_cases h0 : ticks < 0
    case pos =>
      obtain ⟨tk, htk2⟩ : ∃ tk : Nat, -(ticks + 1) = (tk : Int) := ⟨(-(ticks + 1)).toNat, by omega⟩
      have hw1 : IntKind.i64.wrap (ticks + 1) = ticks + 1 := by rw [IntKind.wrap_i64]; omega
      have hw2 : IntKind.i64.wrap (-(ticks + 1)) = (tk : Int) := by rw [IntKind.wrap_i64]; omega
      have htk3 : tk ≤ 9223372036854775807 := by omega
      clear htk2
      go_wp2_with fail
      go_meet
      exact ⟨tk, rfl, htk3, rfl⟩
    case neg =>
      obtain ⟨tk, rfl⟩ : ∃ tk : Nat, ticks = (tk : Int) := ⟨ticks.toNat, by omega⟩
      go_wp2_with fail
      go_meet
      exact ⟨tk, rfl, by omega, rfl⟩
  obtain ⟨tk, rfl, htk3, rfl⟩ := hcut
  obtain ⟨N, hN⟩ : ∃ N, tk % 51 = N := ⟨_, rfl⟩
  have hN50 : N ≤ 50 := by omega
  have hNr : (tk : Int) % 51 = (N : Int) := by omega
  have hNr2 : Int.tmod (tk : Int) 51 = (N : Int) := by rw [Int.tmod_eq_emod_of_nonneg (by omega)]; exact hNr
  clear hN htk
  go_upto_region 5 with fail
  have hx3 := blk_new w2 (.cells #[.slice none 0 0, .slice none 0 0] 32)
  have ht3 := blk_old HQ2.out (.cells #[.slice none 0 0, .slice none 0 0] 32)
  have hb3 := below_new HB2.out (.cells #[.slice none 0 0, .slice none 0 0] 32)
  have hwl : w.heap.size < w2.heap.size := blk_lt HQ2.out
  generalize w2.alloc (.cells #[.slice none 0 0, .slice none 0 0] 32) = w3 at *
  obtain ⟨XB, hXB⟩ : ∃ XB, w2.heap.size = XB := ⟨_, rfl⟩
  rw [hXB] at hx3 hwl ⊢
  have HX3 := hid hx3
  have HT3 := hid ht3
  have HB3 := hid hb3
  have HWL := hid hwl
  clear hx3 ht3 hb3 hXB hwl
  go_wp2_with fail
  go_loopw [11] (fun v wr => ∃ (i : Nat) (u : Value) (vs : List Value), i ≤ N ∧ v = .int .i64 i ∧ Hid (SG wr (XB + 1) u vs (List.replicate i (List.replicate C sl0))) ∧ Hid (wr.heap[XB]? = some (.cells #[u, .slice none 0 0] 32 (0, 0))) ∧ Hid (wr.heap[w.heap.size]? = some (.cells #[.int .i64 T.sys.cores, .int .i64 T.sys.policy, .int .i64 T.sys.prot, .int .i64 T.sys.rel, .int .i64 T.sys.sw, .int .i64 T.sys.fin, .int .i64 T.sys.lat, .int .i64 T.sys.resn, .slice A0 n0 c0, .slice A1 n1 c1, .slice A2 n2 c2] 28 (0, 0))) ∧ Hid (Below w.heap.size w wr)) (fun v _ => N - (intOf v).toNat)
  case atStart => exact ⟨0, _, [], by omega, rfl, hid (SG.nil _ _), HX3, HT3, HB3⟩
  case round =>
    obtain ⟨i, u, vs, hiN, rfl, HG, HX, HTb, HB⟩ := hrel
    have t0 : wr.cell? ⟨w.heap.size, 0, none⟩ = some (.int .i64 T.sys.cores) := blk_cell HTb.out 0
    by_cases hlt : i < N
    case pos =>
      have hown := HG.out.out
      have hvl : vs.length = i := by have := HG.out.len; rw [List.length_replicate] at this; exact this
      obtain ⟨Au, cu, rfl⟩ := own_slice hown
      rw [hvl] at hown HX HG
      have HOWN := hid hown
      have HVL := hid hvl
      have x0 : wr.cell? ⟨XB, 0, none⟩ = some (.slice Au i cu) := blk_cell HX.out 0
      have x0d : wr.drew.cell? ⟨XB, 0, none⟩ = some (.slice Au i cu) := x0
      have hXs : XB < wr.heap.size := blk_lt HX.out
      have x0a : (wr.alloc (.cells C0 78)).cell? ⟨XB, 0, none⟩ = some (.slice Au i cu) := blk_cell (blk_old HX.out _) 0
      have x0b : ((wr.alloc (.cells C0 78)).alloc (.cells #[.slice (some ⟨wr.heap.size, 0, none⟩) C C] 42)).cell? ⟨XB, 0, none⟩ = some (.slice Au i cu) := blk_cell (blk_old (blk_old HX.out _) _) 0
      have HNE := hid (show ∀ k, (Value.slice Au i cu).ownBlock = some k → k ≠ XB from fun k hk e => by have := (hown.lt k hk).1; omega)
      have hmk := HMK.out
      clear hown hvl
      go_upto_region 9 with fail
      rw [HC.out]
      go_region_law (first
        | (refine step_append_new (W := wr.drew.alloc (.cells C0 78)) rfl (.tmp 33) (.tmp 36) 29 rfl (XB + 1) 42 i0 _ 1 24 Try.underlying29 hi hz0 hz1 hz2 rfl (by decide) #[.slice (some ⟨wr.heap.size, 0, none⟩) C C] (.slice Au i cu) i vs (by simp [Act.eval, Act.put]) (wr.heap.size + 1) (by simp [Act.eval, Act.put]) (by simp) (HOWN.out.alloc _) rfl (fun u hu => by simp at hu; subst hu; rfl) (by unfold maxLen; omega) (by omega) (by simp; omega) ?_
           intro v' w4 ho hf hv
           obtain ⟨A', c', rfl⟩ := own_slice ho
           have HO4 := hid ho
           have HF4 := hid hf
           have HV4 := hid hv
           have hr4 := hf.blk (blk_old HX.out _) (fun h => HNE.out _ h rfl)
           have g0 : w4.cell? ⟨XB, 0, none⟩ = some (.slice Au i cu) := blk_cell hr4 0
           have zf0 : w4.frozen? ⟨XB, 0, none⟩ = false := blk_free hr4 0
           clear ho hf hv hr4))
      all_goals
        have hg1 := HG.out.later (below_new (Below.refl wr.heap.size wr).drew (.cells C0 78))
        have hv1 : (wr.drew.alloc (.cells C0 78)).ownsRow (XB + 1) 78 3 (.slice (some ⟨wr.heap.size, 0, none⟩) C C) (List.replicate C sl0).length (flat encSl (List.replicate C sl0)) := by
          rw [List.length_replicate]
          refine ⟨by rw [flat_length encSl_len, List.length_replicate], .inr ⟨wr.heap.size, C, C0, rfl, by omega, blk_new wr.drew _, Nat.le_refl _, by unfold maxLen; omega, HC0S.out, ?_⟩⟩
          rw [HC0.out, List.take_of_length_le (by rw [flat_length encSl_len, List.length_replicate]; exact Nat.le_refl _)]
        have hs3 := hg1.snoc hv1 (fun k hk e => by
          have h0 : some wr.heap.size = some k := hk
          injection h0 with h0
          have h1 := (HG.out.out.lt k e).2
          omega) (by rw [HVL.out]; exact HO4.out) HF4.out (HV4.out.elim .inl (fun h => .inr ⟨_, h, by simp⟩))
        rw [← List.replicate_succ'] at hs3
        have hr4 := HF4.out.blk (blk_old HX.out (.cells C0 78)) (fun h => HNE.out _ h rfl)
        have htb4 := HF4.out.blk (blk_old HTb.out (.cells C0 78)) (fun h => by have h1 := (HOWN.out.lt _ h).1; have h2 := HWL.out; omega)
        have hb4 := ((Fr.of_below (S := NoB) (below_new HB.out.drew (.cells C0 78))).trans HF4.out (fun x hx => .inr (by have h1 := (HOWN.out.lt x hx).1; have h2 := HWL.out; omega))).no
        have hF5 := (Fr.refl (One XB) w4).one 0 (.slice A' (i + 1) c')
        have HG5 := hid (hs3.kept hF5 (fun j hj e => by have h1 := (hs3.lt j hj).1; have h2 : j = XB := e; omega))
        have HX5 := hid (show (w4.setCell ⟨XB, 0, none⟩ (.slice A' (i + 1) c')).heap[XB]? = some (.cells #[.slice A' (i + 1) c', .slice none 0 0] 32 (0, 0)) from by have := blk_set hr4 0 (.slice A' (i + 1) c'); simpa using this)
        have HT5 := hid (hF5.blk htb4 (fun e => by have h2 : w.heap.size = XB := e; have h3 := HWL.out; omega))
        have HB5 := hid (((Fr.of_below (S := NoB) hb4).trans hF5 (fun x hx => .inr (by have h3 := HWL.out; rw [show x = XB from hx]; omega))).no)
        clear hg1 hv1 hs3 hr4 htb4 hb4 hF5 x0 x0d x0a x0b g0 zf0 t0 hmk
        go_wp2_with fail
        go_roundw
        case rel => exact ⟨i + 1, _, _, by omega, by go_num, HG5, HX5, HT5, HB5⟩
        case measure => simp [intOf]; omega
    case neg =>
      obtain rfl : i = N := by omega
      have hvl : vs.length = i := by have := HG.out.len; rw [List.length_replicate] at this; exact this
      have hown := HG.out.out
      obtain ⟨Au, cu, rfl⟩ := own_slice hown
      rw [hvl] at hown HX HG
      have HTRX := hid (show IsTr wr (.slice Au i cu) (.slice none 0 0) (emptyX i C []) from ⟨HG.out.plan, Rowp.nil _ _ _⟩)
      have HCK := hid (HCH.out wr HB.out (emptyX i C []) Au i cu none 0 0 HTRX.out (by omega) (by omega) (fun y hy => by cases hy))
      clear t0 hown hvl
      have t0 : wr.cell? ⟨w.heap.size, 0, none⟩ = some (.int .i64 T.sys.cores) := blk_cell HTb.out 0
      have t1 : wr.cell? ⟨w.heap.size, 1, none⟩ = some (.int .i64 T.sys.policy) := blk_cell HTb.out 1
      have t2 : wr.cell? ⟨w.heap.size, 2, none⟩ = some (.int .i64 T.sys.prot) := blk_cell HTb.out 2
      have t3 : wr.cell? ⟨w.heap.size, 3, none⟩ = some (.int .i64 T.sys.rel) := blk_cell HTb.out 3
      have t4 : wr.cell? ⟨w.heap.size, 4, none⟩ = some (.int .i64 T.sys.sw) := blk_cell HTb.out 4
      have t5 : wr.cell? ⟨w.heap.size, 5, none⟩ = some (.int .i64 T.sys.fin) := blk_cell HTb.out 5
      have t6 : wr.cell? ⟨w.heap.size, 6, none⟩ = some (.int .i64 T.sys.lat) := blk_cell HTb.out 6
      have t7 : wr.cell? ⟨w.heap.size, 7, none⟩ = some (.int .i64 T.sys.resn) := blk_cell HTb.out 7
      have t8 : wr.cell? ⟨w.heap.size, 8, none⟩ = some (.slice A0 n0 c0) := blk_cell HTb.out 8
      have t9 : wr.cell? ⟨w.heap.size, 9, none⟩ = some (.slice A1 n1 c1) := blk_cell HTb.out 9
      have t10 : wr.cell? ⟨w.heap.size, 10, none⟩ = some (.slice A2 n2 c2) := blk_cell HTb.out 10
      have x0 : wr.cell? ⟨XB, 0, none⟩ = some (.slice Au i cu) := blk_cell HX.out 0
      have x1 : wr.cell? ⟨XB, 1, none⟩ = some (.slice none 0 0) := blk_cell HX.out 1
      go_wp2_with fail
      refine HCK.out.mono ?_
      rintro e w5 ⟨r, t, c, rfl, hf, hb5⟩
      have HF := hid hf
      have HX5 := hid ((fr0 hb5).blk HX.out (fun h => h))
      have HT5 := hid ((fr0 hb5).blk HTb.out (fun h => h))
      have HG5 := hid (HG.out.later hb5)
      have HB5 := hid (below_then HB.out hb5)
      clear t0 t1 t2 t3 t4 t5 t6 t7 t8 t9 t10
      clear hf hb5 x0 x1
      go_upto_region 11 with fail
      have HF6 := hid (blk_new w5 (.cells #[.int .i64 r, .int .i64 t, .int .i64 c] 35))
      have HX6 := hid (blk_old HX5.out (.cells #[.int .i64 r, .int .i64 t, .int .i64 c] 35))
      have HT6 := hid (blk_old HT5.out (.cells #[.int .i64 r, .int .i64 t, .int .i64 c] 35))
      have HG6 := hid (HG5.out.later (below_new (Below.refl w5.heap.size w5) (.cells #[.int .i64 r, .int .i64 t, .int .i64 c] 35)))
      have HB6 := hid (below_new HB5.out (.cells #[.int .i64 r, .int .i64 t, .int .i64 c] 35))
      have HXS := hid (show XB < w5.heap.size from blk_lt HX5.out)
      generalize w5.alloc (.cells #[.int .i64 r, .int .i64 t, .int .i64 c] 35) = w6 at *
      obtain ⟨D, hD⟩ : ∃ D, w5.heap.size = D := ⟨_, rfl⟩
      rw [hD] at HF6 HXS ⊢
      clear hD
      have t0 : w6.cell? ⟨w.heap.size, 0, none⟩ = some (.int .i64 T.sys.cores) := blk_cell HT6.out 0
      have t1 : w6.cell? ⟨w.heap.size, 1, none⟩ = some (.int .i64 T.sys.policy) := blk_cell HT6.out 1
      have t2 : w6.cell? ⟨w.heap.size, 2, none⟩ = some (.int .i64 T.sys.prot) := blk_cell HT6.out 2
      have t3 : w6.cell? ⟨w.heap.size, 3, none⟩ = some (.int .i64 T.sys.rel) := blk_cell HT6.out 3
      have t4 : w6.cell? ⟨w.heap.size, 4, none⟩ = some (.int .i64 T.sys.sw) := blk_cell HT6.out 4
      have t5 : w6.cell? ⟨w.heap.size, 5, none⟩ = some (.int .i64 T.sys.fin) := blk_cell HT6.out 5
      have t6 : w6.cell? ⟨w.heap.size, 6, none⟩ = some (.int .i64 T.sys.lat) := blk_cell HT6.out 6
      have t7 : w6.cell? ⟨w.heap.size, 7, none⟩ = some (.int .i64 T.sys.resn) := blk_cell HT6.out 7
      have t8 : w6.cell? ⟨w.heap.size, 8, none⟩ = some (.slice A0 n0 c0) := blk_cell HT6.out 8
      have t9 : w6.cell? ⟨w.heap.size, 9, none⟩ = some (.slice A1 n1 c1) := blk_cell HT6.out 9
      have t10 : w6.cell? ⟨w.heap.size, 10, none⟩ = some (.slice A2 n2 c2) := blk_cell HT6.out 10
      have HR := hid (HTR.out w6 HB6.out)
      go_wp2_with fail
      refine HR.out.mono ?_
      rintro e w7 ⟨rfl, hb7⟩
      have HX7 := hid ((fr0 hb7).blk HX6.out (fun h => h))
      have HT7 := hid ((fr0 hb7).blk HT6.out (fun h => h))
      have HF7 := hid ((fr0 hb7).blk HF6.out (fun h => h))
      have HG7 := hid (HG6.out.later hb7)
      have HB7 := hid (below_then HB6.out hb7)
      clear t0 t1 t2 t3 t4 t5 t6 t7 t8 t9 t10
      clear hb7
      obtain ⟨tb, htb⟩ : ∃ v, tabB T = v := ⟨_, rfl⟩
      rw [htb]
      have HTB := hid htb
      clear htb
      cases tb
      case false =>
        obtain ⟨rfl, rfl, rfl⟩ := HF.out.uniq (.table HTB.out)
        have d0 : w7.cell? ⟨D, 0, none⟩ = some (.int .i64 1) := blk_cell HF7.out 0
        have d1 : w7.cell? ⟨D, 1, none⟩ = some (.int .i64 (-1)) := blk_cell HF7.out 1
        have d2 : w7.cell? ⟨D, 2, none⟩ = some (.int .i64 (-1)) := blk_cell HF7.out 2
        go_wp2_with fail
        go_ret
        exact ⟨rfl, HB7.out⟩
      case true =>
        obtain ⟨hrs, _, _⟩ := tabB_pre HTB.out
        have hcor := hrs.cores
        have hCc : T.sys.cores.toNat = C := by have := HC.out; omega
        have HCC := hid hCc
        obtain ⟨rfl, rfl, rfl⟩ := HF.out.uniq (by rw [← hCc]; exact empty_none HTB.out)
        clear hrs hcor hCc
        have hx8 := blk_old HX7.out (.cells #[.int .i64 task, .int .i64 arrival, .int .i64 ((i : Int) + 1), .bool false, .bool false] 45)
        have hj8 := blk_new w7 (.cells #[.int .i64 task, .int .i64 arrival, .int .i64 ((i : Int) + 1), .bool false, .bool false] 45)
        have x0 : w7.cell? ⟨XB, 0, none⟩ = some (.slice Au i cu) := blk_cell HX7.out 0
        have x1 : (w7.alloc (.cells #[.int .i64 task, .int .i64 arrival, .int .i64 ((i : Int) + 1), .bool false, .bool false] 45)).cell? ⟨XB, 1, none⟩ = some (.slice none 0 0) := blk_cell hx8 1
        have z1 : (w7.alloc (.cells #[.int .i64 task, .int .i64 arrival, .int .i64 ((i : Int) + 1), .bool false, .bool false] 45)).frozen? ⟨XB, 1, none⟩ = false := blk_free hx8 1
        have HXW := hid (show XB < w7.heap.size from blk_lt HX7.out)
        have hj9 : (IntKind.i64.wrap ((i : Int) + 1)) = (i : Int) + 1 := by rw [IntKind.wrap_i64]; omega
        have HT8 := hid (blk_old HT7.out (.cells #[.int .i64 task, .int .i64 arrival, .int .i64 ((i : Int) + 1), .bool false, .bool false] 45))
        have HF8 := hid (blk_old HF7.out (.cells #[.int .i64 task, .int .i64 arrival, .int .i64 ((i : Int) + 1), .bool false, .bool false] 45))
        have HG8 := hid (HG7.out.later (below_new (Below.refl w7.heap.size w7) (.cells #[.int .i64 task, .int .i64 arrival, .int .i64 ((i : Int) + 1), .bool false, .bool false] 45)))
        have HB8 := hid (below_new HB7.out (.cells #[.int .i64 task, .int .i64 arrival, .int .i64 ((i : Int) + 1), .bool false, .bool false] 45))
        have HX8 := hid hx8
        have HJ8 := hid hj8
        clear hx8 hj8
        go_upto_region 14 with fail
        clear x0 x1 z1 hj9
        generalize w7.alloc (.cells #[.int .i64 task, .int .i64 arrival, .int .i64 ((i : Int) + 1), .bool false, .bool false] 45) = w8 at *
        obtain ⟨J, hJ⟩ : ∃ J, w7.heap.size = J := ⟨_, rfl⟩
        rw [hJ] at HJ8 HXW ⊢
        have hXw := HXW.out
        have hF9 := (Fr.refl (One XB) w8).one 1 (.slice (some ⟨J, 0, none⟩) 1 1)
        have hwl := HWL.out
        have hxs := HXS.out
        have HG9 := hid (HG8.out.kept hF9 (fun j hj e => by have h1 := (HG8.out.lt j hj).1; have h2 : j = XB := e; omega))
        have HJ9 := hid (hF9.blk HJ8.out (fun e => by have h2 : J = XB := e; omega))
        have HT9 := hid (hF9.blk HT8.out (fun e => by have h2 : w.heap.size = XB := e; omega))
        have HF9 := hid (hF9.blk HF8.out (fun e => by have h2 : D = XB := e; omega))
        have HX9 := hid (show (w8.setCell ⟨XB, 1, none⟩ (.slice (some ⟨J, 0, none⟩) 1 1)).heap[XB]? = some (.cells #[.slice Au i cu, .slice (some ⟨J, 0, none⟩) 1 1] 32 (0, 0)) from by have := blk_set HX8.out 1 (.slice (some ⟨J, 0, none⟩) 1 1); simpa using this)
        have HB9 := hid (((Fr.of_below (S := NoB) HB8.out).trans hF9 (fun x hx => .inr (by rw [show x = XB from hx]; omega))).no)
        generalize w8.setCell ⟨XB, 1, none⟩ (.slice (some ⟨J, 0, none⟩) 1 1) = w9 at *
        have HTR9 := hid (show IsTr w9 (.slice Au i cu) (.slice (some ⟨J, 0, none⟩) 1 1) (emptyX i C [⟨task, arrival, (i : Int) + 1, false, false⟩]) from ⟨HG9.out.plan, Rowp.built (fun j : Jb => [.int .i64 j.task, .int .i64 j.arr, .int .i64 j.fin, .bool j.cut, .bool j.miss]) _ 1 HJ9.out rfl rfl (fun x => rfl) (by decide) (by simp [emptyX]) (fun x hx => rfl)⟩)
        have HCK2 := hid (HCH.out w9 HB9.out (emptyX i C [⟨task, arrival, (i : Int) + 1, false, false⟩]) Au i cu (some ⟨J, 0, none⟩) 1 1 HTR9.out (by omega) (by omega) (fun y hy => by
          simp [emptyX] at hy
          subst hy
          exact HAR.out))
        clear hF9 hwl hxs hXw hJ
        have t0 : w9.cell? ⟨w.heap.size, 0, none⟩ = some (.int .i64 T.sys.cores) := blk_cell HT9.out 0
        have t1 : w9.cell? ⟨w.heap.size, 1, none⟩ = some (.int .i64 T.sys.policy) := blk_cell HT9.out 1
        have t2 : w9.cell? ⟨w.heap.size, 2, none⟩ = some (.int .i64 T.sys.prot) := blk_cell HT9.out 2
        have t3 : w9.cell? ⟨w.heap.size, 3, none⟩ = some (.int .i64 T.sys.rel) := blk_cell HT9.out 3
        have t4 : w9.cell? ⟨w.heap.size, 4, none⟩ = some (.int .i64 T.sys.sw) := blk_cell HT9.out 4
        have t5 : w9.cell? ⟨w.heap.size, 5, none⟩ = some (.int .i64 T.sys.fin) := blk_cell HT9.out 5
        have t6 : w9.cell? ⟨w.heap.size, 6, none⟩ = some (.int .i64 T.sys.lat) := blk_cell HT9.out 6
        have t7 : w9.cell? ⟨w.heap.size, 7, none⟩ = some (.int .i64 T.sys.resn) := blk_cell HT9.out 7
        have t8 : w9.cell? ⟨w.heap.size, 8, none⟩ = some (.slice A0 n0 c0) := blk_cell HT9.out 8
        have t9 : w9.cell? ⟨w.heap.size, 9, none⟩ = some (.slice A1 n1 c1) := blk_cell HT9.out 9
        have t10 : w9.cell? ⟨w.heap.size, 10, none⟩ = some (.slice A2 n2 c2) := blk_cell HT9.out 10
        have x0 : w9.cell? ⟨XB, 0, none⟩ = some (.slice Au i cu) := blk_cell HX9.out 0
        have x1 : w9.cell? ⟨XB, 1, none⟩ = some (.slice (some ⟨J, 0, none⟩) 1 1) := blk_cell HX9.out 1
        go_wp2_with fail
        refine HCK2.out.mono ?_
        rintro e wa ⟨r, t, c, rfl, hf, hba⟩
        obtain ⟨rfl, rfl, rfl⟩ := hf.uniq (by rw [← HCC.out]; exact empty_three HTB.out rfl)
        have HFa := hid ((fr0 hba).blk HF9.out (fun h => h))
        have HBa := hid (below_then HB9.out hba)
        clear t0 t1 t2 t3 t4 t5 t6 t7 t8 t9 t10
        clear hba hf x0 x1
        go_upto_region 15 with fail
        have HGb := hid (blk_new wa (.cells #[.int .i64 3, .int .i64 0, .int .i64 0] 35))
        have HFb := hid (blk_old HFa.out (.cells #[.int .i64 3, .int .i64 0, .int .i64 0] 35))
        have HBb := hid (below_new HBa.out (.cells #[.int .i64 3, .int .i64 0, .int .i64 0] 35))
        generalize wa.alloc (.cells #[.int .i64 3, .int .i64 0, .int .i64 0] 35) = wb at *
        obtain ⟨E, hE⟩ : ∃ E, wa.heap.size = E := ⟨_, rfl⟩
        rw [hE] at HGb ⊢
        clear hE
        have d0 : wb.cell? ⟨D, 0, none⟩ = some (.int .i64 0) := blk_cell HFb.out 0
        have d1 : wb.cell? ⟨D, 1, none⟩ = some (.int .i64 (-1)) := blk_cell HFb.out 1
        have d2 : wb.cell? ⟨D, 2, none⟩ = some (.int .i64 (-1)) := blk_cell HFb.out 2
        have e0 : wb.cell? ⟨E, 0, none⟩ = some (.int .i64 3) := blk_cell HGb.out 0
        have e1 : wb.cell? ⟨E, 1, none⟩ = some (.int .i64 0) := blk_cell HGb.out 1
        have e2 : wb.cell? ⟨E, 2, none⟩ = some (.int .i64 0) := blk_cell HGb.out 2
        go_wp2_with fail
        go_ret
        exact ⟨rfl, HBb.out⟩
end
end Go.Proofs.Ytmhochjpdedlgaa
