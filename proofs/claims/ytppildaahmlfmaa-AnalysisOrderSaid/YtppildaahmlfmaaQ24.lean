/- Joined: Terms2. -/
import Derived.Test.YtppildaahmlfmaaQ14
import Derived.Test.YtppildaahmlfmaaQ17
import Derived.BigRegion
set_option linter.unusedVariables false
set_option linter.unusedSimpArgs false
/- Package terms: longest (contract). -/
set_option linter.unusedVariables false
set_option linter.unusedSimpArgs false
namespace Go.Proofs.Ytppildaahmlfmaa
open Go.RowKit Go.Shelf Go.Maps

theorem Try.spot_pair : PairT Try.prog 110 := pairT_struct (of_decide_eq_true (by kernel_rfl)) (by kernel_rfl) Try.underlying110 Try.underlying3 Try.underlying3 (by kernel_rfl) (by kernel_rfl) (by kernel_rfl) (by kernel_rfl) (by kernel_rfl) (by kernel_rfl) (by kernel_rfl)
set_option maxRecDepth 100000 in
theorem Try.spot_law : WideMaps.KeyLaw Try.prog 110 := deep_law_laid Try.laidOut0 (m := 2) (by omega) Try.spot_pair.row (by kernel_rfl) (by kernel_rfl)
theorem Try.mapSpot : MapLaw Try.prog 110 3 pairV pairW eI dI eIntR 0 := law_pair_int Try.spot_pair (Keyed.of_law Try.spot_law) Try.zero_int
abbrev MSp (w : World) (b n : Nat) (f : Int × Int → Option Int) : Prop := MapG Try.prog 110 pairV dI eIntR 0 w b n f
theorem useT_take {c : Int} {t : Tsk} {k : Nat} {x : Sec} (h : t.secs[k]? = some x) : (useT c t).take (k + 1) = (useT c t).take k ++ [((c, x.res), x.len)] :=
  take_next (by unfold useT; rw [List.getElem?_map, h]; rfl)
section
variable {w : World}
set_option maxRecDepth 100000 in
set_option maxHeartbeats 6400000 in
theorem longest_any (S : Sy) (A0 : Option Addr) (n0 c0 : Nat) (hs : IsSys w (.slice A0 n0 c0) S) (hr : RightS S) (W : List Int) (Aw : Option Addr) (cw : Nat) (hw : Rowp 1 IntR w (.slice Aw n0 cw) W) (hww : ∀ x ∈ W, I64 x) :
    Calls Try.prog 55 #[sysV S (.slice A0 n0 c0), .slice Aw n0 cw] w fun e w' => ∃ Z N, e = .returned (.map (some Z)) ∧ MSp w' Z N (longO (useL S W)) ∧ Below w.heap.size w w' := by
  have hn0 := hs.tasks.len
  have hnw := hw.len
  have hn24 : n0 ≤ 24 := by have := hr.len; omega
  have hcc := hs.tasks.room
  have HS := hid hs
  have HWR := hid hw
  have HWW := hid hww
  have HN0 := hid hn0
  have HNW := hid hnw
  have HOK := hid hr
  have hmm := @run_makeMap Try.prog
  have hs0 := blk_old (blk_new w (.cells (sysC S (.slice A0 n0 c0)) 24)) (.map #[] 0)
  have hb0 := below_new (below_new (Below.refl w.heap.size w) (.cells (sysC S (.slice A0 n0 c0)) 24)) (.map #[] 0)
  have hM1 : MSp ((w.alloc (.cells (sysC S (.slice A0 n0 c0)) 24)).alloc (.map #[] 0)) (w.heap.size + 1) 0 (fun _ => none) := by
    have h := MapG.made (α := Int × Int) (β := Int) (P := Try.prog) (K := 110) (kv := pairV) (ed := dI) (R := eIntR) (ez := 0) (w.alloc (.cells (sysC S (.slice A0 n0 c0)) 24))
    rw [show (w.alloc (.cells (sysC S (.slice A0 n0 c0)) 24)).heap.size = w.heap.size + 1 by simp] at h
    exact h
  have HSY := hid (show SyAt w ((w.alloc (.cells (sysC S (.slice A0 n0 c0)) 24)).alloc (.map #[] 0)) w.heap.size S (.slice A0 n0 c0) from ⟨hs0, hb0⟩)
  have HM1 := hid hM1
  have s08 := blk_cell hs0 8
  have hmin1 : (if (n0 : Int) < n0 then (n0 : Int) else n0) = n0 := by split <;> rfl
  have hmin2 : (if (n0 : Int) ≤ n0 then (n0 : Int) else n0) = n0 := by split <;> rfl
  clear hs hw hww hn0 hnw hr hs0 hb0 hM1
  unfold sysV
  unfold sysC at HSY HM1 s08
  go_enter Try.func55, Try.ntmps55
  go_wp2_with fail
  clear s08
  obtain ⟨Z, hZ⟩ : ∃ Z, w.heap.size + 1 = Z := ⟨_, rfl⟩
  rw [hZ] at HM1 ⊢
  have hZ0 : w.heap.size ≤ Z := by omega
  have HM2 := hid (HM1.out.congr (g := longO (useK S W 0)) (fun p => by rw [useK_zero]; rfl))
  have HB2 := hid HSY.out.below
  clear HM1 hZ HSY
  go_loopw [22] (fun v wr => ∃ i : Nat, i ≤ n0 ∧ v = .int .i64 i ∧ Hid (MSp wr Z (i * 8) (longO (useK S W i))) ∧ Hid (Below w.heap.size w wr)) (fun v _ => n0 - (intOf v).toNat)
  case atStart => exact ⟨0, by omega, rfl, hid (HM2.out.mono (by omega)), HB2⟩
  case round =>
    obtain ⟨i, hi, rfl, HM, HB⟩ := hrel
    by_cases hlt : i < n0
    case neg =>
      obtain rfl : i = n0 := by omega
      have HME := hid (HM.out.congr (g := longO (useL S W)) (fun p => by rw [HN0.out]; rfl))
      go_wp2_with fail
      go_ret
      exact ⟨Z, _, rfl, HME.out, HB.out⟩
    case pos =>
      obtain ⟨t, ht⟩ : ∃ t, S.tasks[i]? = some t := ⟨_, List.getElem?_eq_getElem (by have := HN0.out; omega)⟩
      obtain ⟨c, hc⟩ : ∃ c, W[i]? = some c := ⟨_, List.getElem?_eq_getElem (by have := HNW.out; omega)⟩
      have HTO := hid (HOK.out.tasks t (List.mem_of_getElem? ht))
      have HUS := hid (useK_succ ht hc)
      have HCI := hid (HWW.out c (List.mem_of_getElem? hc))
      obtain ⟨b1, o1, cs1, hA1, hbl1, _, hcs1, us1, hu1, hu2⟩ := HS.out.tasks.at ht
      subst hA1
      subst hu1
      obtain ⟨A1, c1, hu3, _⟩ := hu2.shape
      obtain ⟨m1, hm1⟩ : ∃ m, m = t.secs.length := ⟨_, rfl⟩
      rw [← hm1] at hu3
      subst hu3
      have hm4 : m1 ≤ 4 := by rw [hm1]; exact HTO.out.n
      obtain ⟨bw, ow, csw, hAw, hblw, _, hcw, hrw⟩ := HWR.out.at hc
      subst hAw
      have hrw' : csw = [.int .i64 c] := hrw
      subst hrw'
      have HCW := hid (fun V (h : Below w.heap.size w V) => show V.cell? ⟨bw, ow + i, none⟩ = some (.int .i64 c) from (h.cell (p := ⟨bw, ow + i, none⟩) hblw).trans (by simpa using hcw 0 _ rfl))
      have HU2 := hid (fun V (h : Below w.heap.size w V) => hu2.later secR.stays h)
      have HM1 := hid hm1
      have e0 : wr.cell? ⟨b1, o1 + i * 4, none⟩ = some (.int .i64 t.per) := (HB.out.cell (p := ⟨b1, o1 + i * 4, none⟩) hbl1).trans (by simpa using hcs1 0 _ rfl)
      have e1 : wr.cell? ⟨b1, o1 + i * 4 + 1, none⟩ = some (.int .i64 t.dl) := (HB.out.cell (p := ⟨b1, o1 + i * 4 + 1, none⟩) hbl1).trans (hcs1 1 _ rfl)
      have e2 : wr.cell? ⟨b1, o1 + i * 4 + 2, none⟩ = some (.int .i64 t.wc) := (HB.out.cell (p := ⟨b1, o1 + i * 4 + 2, none⟩) hbl1).trans (hcs1 2 _ rfl)
      have e3 : wr.cell? ⟨b1, o1 + i * 4 + 3, none⟩ = some (.slice A1 m1 c1) := (HB.out.cell (p := ⟨b1, o1 + i * 4 + 3, none⟩) hbl1).trans (hcs1 3 _ rfl)
      have HB7 := hid (below_new HB.out (.cells #[.int .i64 t.per, .int .i64 t.dl, .int .i64 t.wc, .slice A1 m1 c1] 34))
      have HM7 := hid ((HM.out.kept ((Fr.refl NoB wr).alloc (.cells #[.int .i64 t.per, .int .i64 t.dl, .int .i64 t.wc, .slice A1 m1 c1] 34)) (fun h => h)).congr (g := longO (useK S W i ++ (useT c t).take 0)) (fun p => by rw [List.take_zero, List.append_nil]))
      clear ht hc hcs1 hbl1 hu2 hm1 hcw hrw hblw
      go_upto_region 5 with fail
      obtain ⟨D, hD⟩ : ∃ D, wr.heap.size = D := ⟨_, rfl⟩
      have hq7 := blk_new wr (.cells #[.int .i64 t.per, .int .i64 t.dl, .int .i64 t.wc, .slice A1 m1 c1] 34)
      rw [hD] at hq7 ⊢
      generalize wr.alloc (.cells #[.int .i64 t.per, .int .i64 t.dl, .int .i64 t.wc, .slice A1 m1 c1] 34) = w7 at *
      have l3 : w7.cell? ⟨D, 3, none⟩ = some (.slice A1 m1 c1) := blk_cell hq7 3
      clear hq7 e0 e1 e2 e3 hD HM HB
      go_wp2_with fail
      clear l3
      go_loopw [30] (fun v wr => ∃ k : Nat, k ≤ m1 ∧ v = .int .i64 k ∧ Hid (MSp wr Z (i * 8 + k) (longO (useK S W i ++ (useT c t).take k))) ∧ Hid (Below w.heap.size w wr)) (fun v _ => m1 - (intOf v).toNat)
      case atStart => exact ⟨0, by omega, rfl, HM7, HB7⟩
      case round =>
        obtain ⟨k, hk, rfl, HMr, HBr⟩ := hrel
        by_cases hkm : k < m1
        case neg =>
          obtain rfl : k = m1 := by omega
          have HME := hid ((HMr.out.mono (show i * 8 + k ≤ (i + 1) * 8 by omega)).congr (g := longO (useK S W (i + 1))) (fun p => by rw [HUS.out, List.take_of_length_le (by unfold useT; rw [List.length_map, HM1.out]; exact Nat.le_refl _)]))
          go_wp2_with fail
          go_roundw
          case rel => exact ⟨i + 1, by omega, by go_num, HME, HBr⟩
          case measure => simp [intOf]; omega
        case pos =>
          obtain ⟨x, hx⟩ : ∃ x, t.secs[k]? = some x := ⟨_, List.getElem?_eq_getElem (by have := HM1.out; omega)⟩
          obtain ⟨b8, o8, cs8, hA8, hbl8, _, hcs8, hr8⟩ := (HU2.out wr HBr.out).at hx
          subst hA8
          have hr8' : cs8 = [.int .i64 x.at_, .int .i64 x.res, .int .i64 x.len] := hr8
          subst hr8'
          have hxo := HTO.out.s x (List.mem_of_getElem? hx)
          have hrn := HOK.out.resn
          have HTK := hid (show useK S W i ++ (useT c t).take (k + 1) = (useK S W i ++ (useT c t).take k) ++ [((c, x.res), x.len)] by rw [useT_take hx, List.append_assoc])
          have e0 : wr.cell? ⟨b8, o8 + k * 3, none⟩ = some (.int .i64 x.at_) := by simpa using hcs8 0 _ rfl
          have e1 : wr.cell? ⟨b8, o8 + k * 3 + 1, none⟩ = some (.int .i64 x.res) := hcs8 1 _ rfl
          have e2 : wr.cell? ⟨b8, o8 + k * 3 + 2, none⟩ = some (.int .i64 x.len) := hcs8 2 _ rfl
          have hxr : kwI x.res := kwI_mk (by have := hxo.r0; omega) (by have := hxo.r1; omega)
          have hxc : kwI c := kwI_mk HCI.out.1 HCI.out.2
          have HKW := hid (show pairW (c, x.res) from ⟨hxc, hxr⟩)
          obtain ⟨xa, xb, xl⟩ := x
          simp only at e0 e1 e2 HTK HKW
          clear hx hbl8 hcs8 hr8 hxo hxr hxc hrn
          go_upto_region 8 with fail
          have hq8 := blk_new wr (.cells #[.int .i64 xa, .int .i64 xb, .int .i64 xl] 88)
          have HB8 := hid (below_new HBr.out (.cells #[.int .i64 xa, .int .i64 xb, .int .i64 xl] 88))
          have HM8 := hid (HMr.out.kept ((Fr.refl NoB wr).alloc (.cells #[.int .i64 xa, .int .i64 xb, .int .i64 xl] 88)) (fun h => h))
          obtain ⟨E, hE⟩ : ∃ E, wr.heap.size = E := ⟨_, rfl⟩
          rw [hE] at hq8 ⊢
          generalize wr.alloc (.cells #[.int .i64 xa, .int .i64 xb, .int .i64 xl] 88) = w8 at *
          clear hE e0 e1 e2 HMr HBr
          have cw0 := HCW.out w8 HB8.out
          have cwd : w8.drew.cell? ⟨bw, ow + i, none⟩ = some (.int .i64 c) := cw0
          have k1 : w8.cell? ⟨E, 1, none⟩ = some (.int .i64 xb) := blk_cell hq8 1
          have k1d : w8.drew.cell? ⟨E, 1, none⟩ = some (.int .i64 xb) := k1
          have HQ8 := hid hq8
          have hEl : E < w8.heap.size := blk_lt hq8
          have hbwl : bw < w8.heap.size := cell_lt cw0
          clear hq8
          go_region
          clear cw0 cwd k1 k1d
          have HBx := hid (below_new HB8.out (.cells #[.int .i64 c, .int .i64 xb] 110)).drew
          have hM9 := (HM8.out.kept ((Fr.refl NoB w8).alloc (.cells #[.int .i64 c, .int .i64 xb] 110)).drew (fun h => h))
          have HB9 : Hid (Below w.heap.size w (w8.alloc (.cells #[.int .i64 c, .int .i64 xb] 110)).drew) := hid (below_new HB8.out (.cells #[.int .i64 c, .int .i64 xb] 110)).drew
          have hF9 : (w8.alloc (.cells #[.int .i64 c, .int .i64 xb] 110)).drew.heap[w8.heap.size]? = some (.cells #[.int .i64 c, .int .i64 xb] 110 (0, 0)) := blk_new w8 _
          have hE9 : (w8.alloc (.cells #[.int .i64 c, .int .i64 xb] 110)).drew.heap[E]? = some (.cells #[.int .i64 xa, .int .i64 xb, .int .i64 xl] 88 (0, 0)) := blk_old HQ8.out _
          obtain ⟨F, hF⟩ : ∃ F, w8.heap.size = F := ⟨_, rfl⟩
          rw [hF] at hF9 ⊢
          generalize (w8.alloc (.cells #[.int .i64 c, .int .i64 xb] 110)).drew = w9 at *
          have HM9 := hid hM9
          have f0 : w9.cell? ⟨F, 0, none⟩ = some (.int .i64 c) := blk_cell hF9 0
          have f1 : w9.cell? ⟨F, 1, none⟩ = some (.int .i64 xb) := blk_cell hF9 1
          have f0d : w9.drew.cell? ⟨F, 0, none⟩ = some (.int .i64 c) := f0
          have f1d : w9.drew.cell? ⟨F, 1, none⟩ = some (.int .i64 xb) := f1
          have g2 : w9.cell? ⟨E, 2, none⟩ = some (.int .i64 xl) := blk_cell hE9 2
          have g2d : w9.drew.cell? ⟨E, 2, none⟩ = some (.int .i64 xl) := g2
          have hMd := HM9.out.kept (Fr.refl NoB w9).drew (fun h => h)
          have lk := Try.mapSpot.look Try.underlying107 HM9.out HKW.out
          have lkd := Try.mapSpot.look Try.underlying107 hMd HKW.out
          rw [longO_get] at lk lkd
          obtain ⟨m0, hm0⟩ : ∃ m, longF (useK S W i ++ (useT c t).take k) (c, xb) = m := ⟨_, rfl⟩
          rw [hm0] at lk lkd
          obtain ⟨W2, st1, hM2, hg2⟩ := Try.mapSpot.store Try.underlying107 hMd (by unfold maxLen; omega) HKW.out (max m0 xl)
          have HM2 := hid (hM2.congr (g := longO (useK S W i ++ (useT c t).take (k + 1))) (fun p => by
            rw [HTK.out, ← longO_snoc]
            simp only
            rw [hm0]))
          have HB10 := hid (HB9.out.drew.grown hg2 HB9.out.size (fun k hk => by injection hk with hk; omega))
          obtain ⟨mx, hmx⟩ : ∃ y, max m0 xl = y := ⟨_, rfl⟩
          rw [hmx] at st1
          have x1 : (if m0 < xl then xl else m0) = mx := by rw [← hmx]; split <;> omega
          have x2 : (if xl < m0 then m0 else xl) = mx := by rw [← hmx]; split <;> omega
          have x3 : (if m0 ≤ xl then xl else m0) = mx := by rw [← hmx]; split <;> omega
          have x4 : (if xl ≤ m0 then m0 else xl) = mx := by rw [← hmx]; split <;> omega
          unfold pairV eI at st1 lk lkd
          simp only at st1 lk lkd
          clear hM9 hF9 hE9 hF hMd hM2 hg2 hm0 hmx HBx
          go_upto_region 9 with fail
          go_region
          all_goals
            clear st1 lk lkd f0 f1 f0d f1d g2 g2d x1 x2 x3 x4
            go_wp2_with fail
            go_roundw
            case rel => exact ⟨k + 1, by omega, by go_num, HM2, HB10⟩
            case measure => simp [intOf]; omega
end
end Go.Proofs.Ytppildaahmlfmaa
