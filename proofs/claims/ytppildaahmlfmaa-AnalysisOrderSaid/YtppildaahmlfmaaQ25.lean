/- Joined: Terms3. -/
import Derived.Test.YtppildaahmlfmaaQ24
set_option linter.unusedVariables false
set_option linter.unusedSimpArgs false
/- Package terms: Wait, Hold, Extra (contracts). -/
set_option linter.unusedVariables false
set_option linter.unusedSimpArgs false
namespace Go.Proofs.Ytppildaahmlfmaa
open Go.RowKit Go.Shelf Go.Maps

section
variable {w : World}
set_option maxRecDepth 100000 in
set_option maxHeartbeats 6400000 in
theorem wait_any (S : Sy) (A0 : Option Addr) (n0 c0 : Nat) (hs : IsSys w (.slice A0 n0 c0) S) (hr : rightS S = true) (W : List Int) (Aw : Option Addr) (cw : Nat) (hw : Rowp 1 IntR w (.slice Aw n0 cw) W) (hww : ∀ x ∈ W, I64 x) (i k : Nat) (t : Tsk) (x : Sec) (ht : S.tasks[i]? = some t) (hx : t.secs[k]? = some x) :
    Calls Try.prog 39 #[sysV S (.slice A0 n0 c0), .slice Aw n0 cw, .int .i64 i, .int .i64 k] w fun e w' => e = .returned (.int .i64 (waitV S W i x.res)) ∧ Below w.heap.size w w' := by
  have hn0 := hs.tasks.len
  have hRS := rightS_ok hr
  have hn24 : n0 ≤ 24 := by have := hRS.len; omega
  have hi : i < n0 := by have := (List.getElem?_eq_some_iff.1 ht).1; omega
  have hk4 : k < 4 := by have h1 := (List.getElem?_eq_some_iff.1 hx).1; have h2 := (hRS.tasks t (List.mem_of_getElem? ht)).n; omega
  have hnw := hw.len
  obtain ⟨c, hc⟩ : ∃ c, W[i]? = some c := ⟨_, List.getElem?_eq_getElem (by omega)⟩
  obtain ⟨bw, ow, csw, hAw, hblw, _, hcw, hrw⟩ := hw.at hc
  subst hAw
  have hrw' : csw = [.int .i64 c] := hrw
  subst hrw'
  have HCW := hid (fun V (h : Below w.heap.size w V) => show V.cell? ⟨bw, ow + i, none⟩ = some (.int .i64 c) from (h.cell (p := ⟨bw, ow + i, none⟩) hblw).trans (by simpa using hcw 0 _ rfl))
  have HSE := hid (fun V (h : Below w.heap.size w V) => sect_any (w := V) S A0 n0 c0 (hs.later h) hr i k t ht (by omega))
  have HLG := hid (fun V (h : Below w.heap.size w V) => longest_any (w := V) S A0 n0 c0 (hs.later h) hRS W (some ⟨bw, ow, none⟩) cw (hw.later IntR.stays h) hww)
  have hxo := (hRS.tasks t (List.mem_of_getElem? ht)).s x (List.mem_of_getElem? hx)
  have hxr : kwI x.res := kwI_mk (by have := hxo.r0; omega) (by have := hxo.r1; have := hRS.resn; omega)
  have HWB := hid (fun n => waitN_bound (useL_bound hRS W) (by decide) c x.res n)
  have HLB := hid (fun p => longF_bound (useL_bound hRS W) (by decide) p)
  have HV := hid (show waitV S W i x.res = waitN (useL S W) c x.res S.cores.toNat by unfold waitV ownOf; rw [hc]; rfl)
  obtain ⟨nc, hnc⟩ : ∃ nc : Nat, S.cores = nc := ⟨S.cores.toNat, by have := hRS.cores; omega⟩
  have hnc8 : nc ≤ 8 := by have := hRS.cores; omega
  have hnct : S.cores.toNat = nc := by omega
  rw [hnct] at HV
  rw [hx] at HSE
  obtain ⟨V, hVV⟩ : ∃ V, waitV S W i x.res = V := ⟨_, rfl⟩
  rw [hVV] at HV ⊢
  obtain ⟨L, hL⟩ : ∃ L, useL S W = L := ⟨_, rfl⟩
  rw [hL] at HLG HWB HLB HV
  obtain ⟨xa, xb, xl⟩ := x
  simp only at HWB HV hxr
  have HKW := hid (fun (c : Nat) (h : c ≤ 8) => show pairW ((c : Int), xb) from ⟨kwI_mk (by omega) (by omega), hxr⟩)
  have hq0 := blk_new w (.cells (sysC S (.slice A0 n0 c0)) 24)
  have HSY := hid (show SyAt w (w.alloc (.cells (sysC S (.slice A0 n0 c0)) 24)) w.heap.size S (.slice A0 n0 c0) from ⟨hq0, below_new (Below.refl w.heap.size w) _⟩)
  have s00 := blk_cell hq0 0
  have s01 := blk_cell hq0 1
  have s02 := blk_cell hq0 2
  have s03 := blk_cell hq0 3
  have s04 := blk_cell hq0 4
  have s05 := blk_cell hq0 5
  have s06 := blk_cell hq0 6
  have s07 := blk_cell hq0 7
  have s08 := blk_cell hq0 8
  have HNC := hid hnc
  clear hs hr hw hww ht hx hc hn0 hRS hcw hrw hblw hxo hxr hL hVV hq0 hnw hnct hnc
  unfold sysV at HSE HLG ⊢
  unfold secO secV at HSE
  simp only [Option.getD_some, Option.isSome_some] at HSE
  unfold sysC at HSY s00 s01 s02 s03 s04 s05 s06 s07 s08
  go_enter Try.func39, Try.ntmps39
  go_wp2_with fail
  refine (HSE.out _ HSY.out.below).mono ?_
  rintro e w1 ⟨rfl, hb1⟩
  have HS2 := hid ((HSY.out.later hb1).later (below_new (Below.refl w1.heap.size w1) (.cells #[.int .i64 xa, .int .i64 xb, .int .i64 xl] 88)))
  clear hb1 s00 s01 s02 s03 s04 s05 s06 s07 s08 HSY HSE
  go_upto_region 2 with fail
  have hq2 := blk_new w1 (.cells #[.int .i64 xa, .int .i64 xb, .int .i64 xl] 88)
  obtain ⟨E, hE⟩ : ∃ E, w1.heap.size = E := ⟨_, rfl⟩
  rw [hE] at hq2 ⊢
  generalize w1.alloc (.cells #[.int .i64 xa, .int .i64 xb, .int .i64 xl] 88) = w2 at *
  clear hE
  have HQ2 := hid hq2
  obtain ⟨s00, s01, s02, s03, s04, s05, s06, s07, s08⟩ := HS2.out.cells
  have cw0 := HCW.out w2 HS2.out.below
  have HLG2 := hid (HLG.out w2 HS2.out.below)
  clear hq2 HLG HCW
  go_wp2_with fail
  refine HLG2.out.mono ?_
  rintro e w3 ⟨Z, N, rfl, hm3, hb3⟩
  have HS3 := hid (HS2.out.later hb3)
  have hq3 := (fr0 hb3).blk HQ2.out (fun h => h)
  have HM3 := hid hm3
  have HB3 := hid HS3.out.below
  have t00 : w3.cell? ⟨w.heap.size, 0, none⟩ = some (.int .i64 nc) := by rw [← HNC.out]; exact HS3.out.cells.1
  have t1 : w3.cell? ⟨E, 1, none⟩ = some (.int .i64 xb) := blk_cell hq3 1
  clear hb3 hm3 hq3 s00 s01 s02 s03 s04 s05 s06 s07 s08 cw0 HS2 HS3 HQ2 HLG2 HNC
  go_wp2_with fail
  go_loopw [38, 13] (fun v u wr => ∃ q : Nat, q ≤ nc ∧ v = .int .i64 q ∧ u = .int .i64 (waitN L c xb q) ∧ Hid (wr = w3)) (fun v _ _ => nc - (intOf v).toNat)
  case atStart => exact ⟨0, by omega, rfl, rfl, hid rfl⟩
  case round =>
    obtain ⟨q, hq, rfl, rfl, HW⟩ := hrel
    obtain rfl := HW.out
    have hwb := HWB.out q
    by_cases hlt : q < nc
    case neg =>
      obtain rfl : q = nc := by omega
      go_wp2_with fail
      go_ret
      exact ⟨by rw [HV.out]; rfl, HB3.out⟩
    case pos =>
      have lk := Try.mapSpot.look Try.underlying107 HM3.out (HKW.out q (by omega))
      rw [longO_get] at lk
      have HSU := hid (show waitN L c xb (q + 1) = waitN L c xb q + if (q : Int) ≠ c ∧ 0 < longF L ((q : Int), xb) then longF L ((q : Int), xb) + 1 else 0 from rfl)
      have hlb := HLB.out ((q : Int), xb)
      obtain ⟨y, hy⟩ : ∃ y, longF L ((q : Int), xb) = y := ⟨_, rfl⟩
      rw [hy] at lk HSU hlb
      obtain ⟨s, hs⟩ : ∃ s, waitN L c xb q = s := ⟨_, rfl⟩
      rw [hs] at hwb HSU ⊢
      unfold pairV eI at lk
      simp only at lk
      clear hy hs
      by_cases hqc : (q : Int) = c
      case pos =>
        have hb0 : ((q : Int) != c) = false := by rw [hqc]; simp
        have HS2 := hid (show waitN L c xb (q + 1) = s by rw [HSU.out, if_neg (fun h => h.1 hqc)]; omega)
        have HQC := hid hqc
        clear hqc
        go_wp2_with fail
        go_roundw
        case rel => exact ⟨q + 1, by omega, by go_num, by rw [HS2.out], hid trivial⟩
        case measure => simp [intOf]; omega
      case neg =>
        have hb0 : ((q : Int) != c) = true := bne_iff_ne.2 hqc
        have HQC := hid hqc
        by_cases hy0 : 0 < y
        case pos =>
          have HS2 := hid (show waitN L c xb (q + 1) = s + (y + 1) by rw [HSU.out, if_pos ⟨hqc, hy0⟩])
          have hd : decide (0 < y) = true := decide_eq_true hy0
          clear hqc
          go_wp2_with fail
          go_roundw
          case rel => exact ⟨q + 1, by omega, by go_num, by rw [HS2.out], hid trivial⟩
          case measure => simp [intOf]; omega
        case neg =>
          have HS2 := hid (show waitN L c xb (q + 1) = s by rw [HSU.out, if_neg (fun h => hy0 h.2)]; omega)
          have hd : decide (0 < y) = false := decide_eq_false hy0
          clear hqc
          go_wp2_with fail
          go_roundw
          case rel => exact ⟨q + 1, by omega, by go_num, by rw [HS2.out], hid trivial⟩
          case measure => simp [intOf]; omega
end
end Go.Proofs.Ytppildaahmlfmaa
