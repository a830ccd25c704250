/- Joined: Terms4. -/
import Derived.Test.YtppildaahmlfmaaQ25
set_option linter.unusedVariables false
set_option linter.unusedSimpArgs false
/- Package terms: Hold, Extra (contracts). -/
set_option linter.unusedVariables false
set_option linter.unusedSimpArgs false
namespace Go.Proofs.Ytppildaahmlfmaa
open Go.RowKit

section
variable {w : World}
set_option maxRecDepth 100000 in
set_option maxHeartbeats 6400000 in
theorem hold_any (S : Sy) (A0 : Option Addr) (n0 c0 : Nat) (hs : IsSys w (.slice A0 n0 c0) S) (hr : rightS S = true) (W : List Int) (Aw : Option Addr) (cw : Nat) (hw : Rowp 1 IntR w (.slice Aw n0 cw) W) (hww : ∀ x ∈ W, I64 x) (i k : Nat) (t : Tsk) (x : Sec) (ht : S.tasks[i]? = some t) (hx : t.secs[k]? = some x) :
    Calls Try.prog 61 #[sysV S (.slice A0 n0 c0), .slice Aw n0 cw, .int .i64 i, .int .i64 k] w fun e w' => e = .returned (.int .i64 (holdV S W i x)) ∧ Below w.heap.size w w' := by
  have hRS := rightS_ok hr
  have hk4 : k < 4 := by have h1 := (List.getElem?_eq_some_iff.1 hx).1; have h2 := (hRS.tasks t (List.mem_of_getElem? ht)).n; omega
  have HSE := hid (fun V (h : Below w.heap.size w V) => sect_any (w := V) S A0 n0 c0 (hs.later h) hr i k t ht (by omega))
  have HWT := hid (fun V (h : Below w.heap.size w V) => wait_any (w := V) S A0 n0 c0 (hs.later h) hr W Aw cw (hw.later IntR.stays h) hww i k t x ht hx)
  have hwb := waitV_bound hRS W i x.res
  have hto := hRS.tasks t (List.mem_of_getElem? ht)
  have hxo := hto.s x (List.mem_of_getElem? hx)
  have HV := hid (show holdV S W i x = waitV S W i x.res + x.len from rfl)
  have hlb : 0 ≤ x.len ∧ x.len ≤ 1099511627776 := by have := hxo.l0; have := hxo.end_; have := hxo.a0; have := hto.w1; have := hto.d1; have := hto.p1; omega
  rw [hx] at HSE
  obtain ⟨V, hVV⟩ : ∃ V, holdV S W i x = V := ⟨_, rfl⟩
  rw [hVV] at HV ⊢
  obtain ⟨y, hy⟩ : ∃ y, waitV S W i x.res = y := ⟨_, rfl⟩
  rw [hy] at HWT hwb HV
  obtain ⟨xa, xb, xl⟩ := x
  simp only at hlb HV
  have hq0 := blk_new w (.cells (sysC S (.slice A0 n0 c0)) 24)
  have HSY := hid (show SyAt w (w.alloc (.cells (sysC S (.slice A0 n0 c0)) 24)) w.heap.size S (.slice A0 n0 c0) from ⟨hq0, below_new (Below.refl w.heap.size w) _⟩)
  have s00 := blk_cell hq0 0
  have s01 := blk_cell hq0 1
  have s02 := blk_cell hq0 2
  have s03 := blk_cell hq0 3
  have s04 := blk_cell hq0 4
  have s05 := blk_cell hq0 5
  have s06 := blk_cell hq0 6
  have s07 := blk_cell hq0 7
  have s08 := blk_cell hq0 8
  have hwr : IntKind.i64.wrap (y + xl) = y + xl := wraps_i64 _ (by omega) (by omega)
  clear hs hr hw hww ht hx hRS hy hVV hq0 hto hxo
  unfold sysV at HSE HWT ⊢
  unfold secO secV at HSE
  simp only [Option.getD_some, Option.isSome_some] at HSE
  unfold sysC at HSY s00 s01 s02 s03 s04 s05 s06 s07 s08
  go_enter Try.func61, Try.ntmps61
  go_wp2_with fail
  refine (HSE.out _ HSY.out.below).mono ?_
  rintro e w1 ⟨rfl, hb1⟩
  have HS2 := hid ((HSY.out.later hb1).later (below_new (Below.refl w1.heap.size w1) (.cells #[.int .i64 xa, .int .i64 xb, .int .i64 xl] 88)))
  clear hb1 s00 s01 s02 s03 s04 s05 s06 s07 s08 HSY HSE
  go_upto_region 2 with fail
  have hq2 := blk_new w1 (.cells #[.int .i64 xa, .int .i64 xb, .int .i64 xl] 88)
  obtain ⟨E, hE⟩ : ∃ E, w1.heap.size = E := ⟨_, rfl⟩
  rw [hE] at hq2 ⊢
  generalize w1.alloc (.cells #[.int .i64 xa, .int .i64 xb, .int .i64 xl] 88) = w2 at *
  clear hE
  obtain ⟨C, hC⟩ : ∃ C : World → Prop, C = fun X => Below w2.heap.size w2 X := ⟨_, rfl⟩
  have hC0 : C w2.drew := by rw [hC]; exact (Below.refl w2.heap.size w2).drew
  have HFS := hid (fun X (h : C X) => (HS2.out.later (by rw [hC] at h; exact h)).cells)
  have HFE := hid (fun X (h : C X) => show X.cell? ⟨E, 2, none⟩ = some (.int .i64 xl) from by rw [hC] at h; exact blk_cell ((fr0 h).blk hq2 (fun h => h)) 2)
  have HC1 := hid (fun X (h : C X) => (HWT.out X (by rw [hC] at h; exact (HS2.out.later h).below)).mono (fun e w' ⟨h1, h2⟩ => show e = Ending.returned (.int .i64 y) ∧ C w' from ⟨h1, by rw [hC] at h ⊢; exact below_then h h2⟩))
  have HCE := hid hC
  clear hC hq2 HWT
  refine wp_region_class (C := C) (by kernel_rfl) (by kernel_rfl) hC0 ?_
  repeat (refine wpQuiet_step (fun K hK => ?_); rw [if_pos (by rfl)]; refine Exists.intro ?_ (And.intro (fun X HX => ?_) (hK _ ?_)); rotate_left; (focus (first | (go_simp; exact HC1.out X HX) | (obtain ⟨s00, s01, s02, s03, s04, s05, s06, s07, s08⟩ := HFS.out X HX; have q2 := HFE.out X HX; (go_simp); all_goals (with_reducible rfl)))); clear hK K; try simp only [Act.put, List.setIfInBounds_toArray, List.set_cons_zero, List.set_cons_succ])
  refine wpQuiet_nil ?_
  intro wd hwd
  rw [HCE.out] at hwd
  have HBD := hid (HS2.out.later hwd).below
  clear hwd
  go_wp2_with fail
  go_ret
  exact ⟨by rw [HV.out]; rfl, HBD.out⟩
set_option maxRecDepth 100000 in
set_option maxHeartbeats 6400000 in
theorem extra_any (S : Sy) (A0 : Option Addr) (n0 c0 : Nat) (hs : IsSys w (.slice A0 n0 c0) S) (hr : rightS S = true) (W : List Int) (Aw : Option Addr) (cw : Nat) (hw : Rowp 1 IntR w (.slice Aw n0 cw) W) (hww : ∀ x ∈ W, I64 x) (i : Nat) (t : Tsk) (ht : S.tasks[i]? = some t) :
    Calls Try.prog 15 #[sysV S (.slice A0 n0 c0), .slice Aw n0 cw, .int .i64 i] w fun e w' => e = .returned (.int .i64 (extraV S W i)) ∧ Below w.heap.size w w' := by
  have hn0 := hs.tasks.len
  have hRS := rightS_ok hr
  have hn24 : n0 ≤ 24 := by have := hRS.len; omega
  have hi : i < n0 := by have := (List.getElem?_eq_some_iff.1 ht).1; omega
  have HUS := hid (fun V (h : Below w.heap.size w V) => uses_any (w := V) S A0 n0 c0 (hs.later h) hr i t ht)
  have HWT := hid (fun V (h : Below w.heap.size w V) k x (hx : t.secs[k]? = some x) => wait_any (w := V) S A0 n0 c0 (hs.later h) hr W Aw cw (hw.later IntR.stays h) hww i k t x ht hx)
  obtain ⟨b1, o1, cs1, hA1, hbl1, _, hcs1, us1, hu1, hu2⟩ := hs.tasks.at ht
  subst hA1
  subst hu1
  obtain ⟨A1, c1, hu3, _⟩ := hu2.shape
  obtain ⟨m1, hm1⟩ : ∃ m, m = t.secs.length := ⟨_, rfl⟩
  rw [← hm1] at hu3
  subst hu3
  have hm4 : m1 ≤ 4 := by rw [hm1]; exact (hRS.tasks t (List.mem_of_getElem? ht)).n
  have HC3 := hid (fun V (h : Below w.heap.size w V) => (h.cell (p := ⟨b1, o1 + i * 4 + 3, none⟩) hbl1).trans (hcs1 3 _ rfl))
  have HM1 := hid hm1
  have HEV := hid (show extraV S W i = extraL S W i t.secs by unfold extraV secsAt; rw [ht]; rfl)
  have HEB := hid (fun l => extraL_bound hRS W i l)
  have HWB := hid (fun r => waitV_bound hRS W i r)
  have HES := hid (fun k x (hx : t.secs[k]? = some x) => show extraL S W i (t.secs.take (k + 1)) = extraL S W i (t.secs.take k) + waitV S W i x.res by rw [take_next hx, extraL_snoc])
  have HE0 := hid (show extraL S W i (t.secs.take 0) = 0 from rfl)
  obtain ⟨V, hVV⟩ : ∃ V, extraV S W i = V := ⟨_, rfl⟩
  rw [hVV] at HEV ⊢
  have hq0 := blk_new w (.cells (sysC S (.slice (some ⟨b1, o1, none⟩) n0 c0)) 24)
  have HSY := hid (show SyAt w (w.alloc (.cells (sysC S (.slice (some ⟨b1, o1, none⟩) n0 c0)) 24)) w.heap.size S (.slice (some ⟨b1, o1, none⟩) n0 c0) from ⟨hq0, below_new (Below.refl w.heap.size w) _⟩)
  have s00 := blk_cell hq0 0
  have s01 := blk_cell hq0 1
  have s02 := blk_cell hq0 2
  have s03 := blk_cell hq0 3
  have s04 := blk_cell hq0 4
  have s05 := blk_cell hq0 5
  have s06 := blk_cell hq0 6
  have s07 := blk_cell hq0 7
  have s08 := blk_cell hq0 8
  clear hs hr hw hww ht hRS hVV hq0 hn0 hu2 hcs1 hbl1 hm1
  unfold sysV at HUS HWT ⊢
  unfold sysC at HSY s00 s01 s02 s03 s04 s05 s06 s07 s08
  go_enter Try.func15, Try.ntmps15
  go_wp2_with fail
  refine (HUS.out _ HSY.out.below).mono ?_
  rintro e w1 ⟨rfl, hb1⟩
  have HS1 := hid (HSY.out.later hb1)
  clear hb1 s00 s01 s02 s03 s04 s05 s06 s07 s08 HSY HUS
  cases hse : t.secs.isEmpty
  case true =>
    have HV2 := hid (show V = 0 by rw [HEV.out, List.isEmpty_iff.1 hse]; rfl)
    have HB1 := hid HS1.out.below
    go_wp2_with fail
    go_ret
    exact ⟨by rw [HV2.out]; rfl, HB1.out⟩
  case false =>
    have s08 := HS1.out.cells.2.2.2.2.2.2.2.2
    have s3 := HC3.out w1 HS1.out.below
    have HB1 := hid HS1.out
    clear hse
    go_wp2_with fail
    clear s08 s3
    go_loopw [19, 7] (fun v u wr => ∃ k : Nat, k ≤ m1 ∧ v = .int .i64 k ∧ u = .int .i64 (extraL S W i (t.secs.take k)) ∧ Hid (SyAt w wr w.heap.size S (.slice (some ⟨b1, o1, none⟩) n0 c0))) (fun v _ _ => m1 - (intOf v).toNat)
    case atStart => exact ⟨0, by omega, rfl, int_eq HE0.out.symm, HB1⟩
    case round =>
      obtain ⟨k, hk, rfl, rfl, HSr⟩ := hrel
      by_cases hlt : k < m1
      case neg =>
        obtain rfl : k = m1 := by omega
        have HV2 := hid (show V = extraL S W i (t.secs.take k) by rw [HEV.out, HM1.out, List.take_length])
        have HB2 := hid HSr.out.below
        go_wp2_with fail
        go_ret
        exact ⟨by rw [HV2.out]; rfl, HB2.out⟩
      case pos =>
        obtain ⟨x, hx⟩ : ∃ x, t.secs[k]? = some x := ⟨_, List.getElem?_eq_getElem (by have := HM1.out; omega)⟩
        obtain ⟨s00, s01, s02, s03, s04, s05, s06, s07, s08⟩ := HSr.out.cells
        have HWK := hid (HWT.out wr HSr.out.below k x hx)
        have HSU := hid (HES.out k x hx)
        have h1 := HEB.out (t.secs.take k)
        have h2 := HWB.out x.res
        have h3 : (t.secs.take k).length ≤ 4 := by rw [List.length_take]; omega
        obtain ⟨y, hy⟩ : ∃ y, waitV S W i x.res = y := ⟨_, rfl⟩
        obtain ⟨s, hs⟩ : ∃ y, extraL S W i (t.secs.take k) = y := ⟨_, rfl⟩
        rw [hy] at HWK HSU h2
        rw [hs] at HSU h1 ⊢
        have hsb : 0 ≤ s ∧ s ≤ 35184372088864 := by omega
        clear hx hy hs h1 h3
        go_wp2_with fail
        refine HWK.out.mono ?_
        rintro e w2 ⟨rfl, hb2⟩
        have HS2 := hid (HSr.out.later hb2)
        clear hb2 s00 s01 s02 s03 s04 s05 s06 s07 s08
        go_wp2_with fail
        go_roundw
        case rel => exact ⟨k + 1, by omega, by go_num, by rw [HSU.out], HS2⟩
        case measure => simp [intOf]; omega
end
end Go.Proofs.Ytppildaahmlfmaa
