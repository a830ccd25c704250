/- Joined: RefCeil. -/
import Derived.Test.YtmhochjpdedlgaaQ34
set_option linter.unusedVariables false
set_option linter.unusedSimpArgs false
/- Package tourbillonref17: Ceilings (contract). -/
set_option linter.unusedVariables false
set_option linter.unusedSimpArgs false
namespace Go.Proofs.Ytmhochjpdedlgaa
open Go.RowKit

theorem Try.info_ints : (Try.prog.info? 39).map (fun i => (i.zero, i.size, i.bytes)) = some (some (.slice none 0 0), 1, 24) := by kernel_rfl
/-- A core's row while it is made: nothing else is written. -/
structure CEW (w8 wr : World) (X rn : Nat) (f : Nat → Int) : Prop where
  below : Below w8.heap.size w8 wr
  t : Tally wr X rn f
  hx : w8.heap.size ≤ X
theorem CEW.set {w8 wr : World} {X rn : Nat} {f f' : Nat → Int} (H : CEW w8 wr X rn f) {j : Nat} (hj : j < rn) (v : Int) (hf : ∀ i, i < rn → f' i = if i = j then v else f i) : CEW w8 (wr.setCell ⟨X, j, none⟩ (.int .i64 v)) X rn f' :=
  ⟨H.below.setCell (p := ⟨X, j, none⟩) H.hx _, H.t.set hj v hf, H.hx⟩
theorem CEW.congr {w8 wr : World} {X rn : Nat} {f f' : Nat → Int} (H : CEW w8 wr X rn f) (hf : ∀ i, i < rn → f' i = f i) : CEW w8 wr X rn f' := ⟨H.below, H.t.congr hf, H.hx⟩
/-- It is a row of the call's own. -/
theorem Tally.own {w : World} {g n base : Nat} {f : Nat → Int} (h : Tally w g n f) (hb : base ≤ g) (hn : n ≤ maxLen) : w.ownsRow base 3 1 (.slice (some ⟨g, 0, none⟩) n n) n (intCells ((List.range n).map f)) := by
  obtain ⟨C, h1, h2, h3⟩ := h.ex
  have e : C.toList = intCells ((List.range n).map f) := by
    apply List.ext_getElem?
    intro i
    by_cases hi : i < n
    · have := h3 i hi
      simp only [intCells, List.getElem?_map, List.getElem?_range hi]
      simpa using this
    · rw [List.getElem?_eq_none (by simpa [h2] using hi), List.getElem?_eq_none (by simpa [intCells] using hi)]
  refine ⟨by simp [intCells], .inr ⟨g, n, C, rfl, hb, h1, Nat.le_refl _, hn, by simpa using h2, ?_⟩⟩
  rw [← e, List.take_of_length_le (by simp [h2])]
section
variable {w : World}
set_option maxRecDepth 100000 in
set_option maxHeartbeats 6400000 in
theorem rceil_any (S : Sy) (A0 : Option Addr) (n0 c0 : Nat) (A : Option Addr) (n cap : Nat) (P : Pl) (hs : IsSys w (.slice A0 n0 c0) S) (hp : IsPlan w (.slice A n cap) P) :
    Calls Try.prog 28 #[sysV S (.slice A0 n0 c0), .slice A n cap] w fun e w' => ∃ u, e = .returned (.tuple #[u, .bool (planB S P)]) ∧ Rowp 1 (RowR 1 IntR) w' u (if planB S P = true then ceilL S P else []) ∧ Below w.heap.size w w' := by
  have hn := hp.rows.len
  have hn0 := hs.tasks.len
  have HS := hid hs
  have HP := hid hp
  have HN := hid hn
  have HN0 := hid hn0
  have hnm : n ≤ 9223372036854775807 := by have := hp.rows.room; unfold maxLen at this; omega
  have hn0m : n0 ≤ 9223372036854775807 := by have := hs.tasks.room; unfold maxLen at this; omega
  have HVR := hid (fun W (h : Below w.heap.size w W) => rrank_any (w := W) S A0 n0 c0 A n cap P (hs.later h) (hp.later h))
  obtain ⟨CS, hCS⟩ : ∃ C, C = sysC S (.slice A0 n0 c0) := ⟨_, rfl⟩
  have HCS := hid hCS
  obtain ⟨rb, hrb⟩ : ∃ r, planB S P = r := ⟨_, rfl⟩
  have HRB := hid hrb
  rw [hrb] at HVR ⊢
  obtain ⟨i0, hi, hz0, hz1, hz2⟩ := info_parts Try.info_ints
  unfold sysV at *
  have hok : rb = true → PlanOk S P := fun e => planB_ok (hrb.trans e)
  have HOK := hid hok
  clear hs hp hn hn0 hCS hrb hok
  go_enter Try.func28, Try.ntmps28
  go_wp2_with fail
  refine (HVR.out _ (below_new (Below.refl _ _) _)).mono ?_
  rintro e w1 ⟨ur, rfl, hrk, hb1⟩
  have q0 : w1.heap[w.heap.size]? = some (.cells (sysC S (.slice A0 n0 c0)) 24 (0, 0)) := (fr0 hb1).blk (blk_new w _) (fun h => h)
  have hbw := below_then (below_new (Below.refl _ _) _) hb1
  rw [← HCS.out] at q0
  have HQ0 := hid q0
  have HBW := hid hbw
  have HBL := hid (blk_lt q0)
  obtain ⟨B, hB⟩ : ∃ B, w.heap.size = B := ⟨_, rfl⟩
  rw [hB] at HQ0 HBL ⊢
  have HB := hid hB
  clear q0 hbw hb1 hB
  cases rb
  case false =>
    have HRK := hid hrk
    clear hrk
    go_wp2_with fail
    go_ret2
    exact ⟨_, rfl, Rowp.nil _ _ _, HBW.out⟩
  case true =>
    have HO := hid (HOK.out rfl)
    rw [if_pos rfl] at hrk
    obtain ⟨Ar, cr, hur, _⟩ := hrk.shape
    have hrl : (rankL S P).length = n := by unfold rankL; rw [List.length_mapIdx, HN.out]
    rw [hrl] at hur
    subst hur
    have hnn : n = n0 := by have := HO.out.len; have := HN.out; have := HN0.out; omega
    subst hnn
    have hn24 : n ≤ 24 := by have := HO.out.sys.len; have := HN0.out; omega
    have HRK := hid hrk
    have HWH := hid (fun W (h : Below w1.heap.size w1 W) => where_any (w := W) P A n cap (HP.out.later (below_then HBW.out h)) (by omega))
    obtain ⟨nc, hnc⟩ : ∃ nc : Nat, S.cores = nc := ⟨S.cores.toNat, by have := HO.out.sys.cores; omega⟩
    obtain ⟨rn, hrn⟩ : ∃ rn : Nat, S.resn = rn := ⟨S.resn.toNat, by have := HO.out.sys.resn; omega⟩
    have hnc8 : nc ≤ 8 := by have := HO.out.sys.cores; omega
    have hrn8 : rn ≤ 8 := by have := HO.out.sys.resn; omega
    have HNC := hid hnc
    have HRN := hid hrn
    obtain ⟨C0, hC0⟩ : ∃ C, C = (List.replicate rn (.int .i64 0) : List Value).toArray := ⟨_, rfl⟩
    have hmake : ∀ w, (Instr.makeSlice 39 (.int .i64 S.resn) (.int .i64 S.resn)).run Try.prog w = .ok (.slice (some ⟨w.heap.size, 0, none⟩) rn rn) (w.alloc (.cells C0 3)) := fun w => by rw [hrn, hC0]; exact make_ints rn (by omega) w
    have HMK := hid hmake
    have HC0 := hid hC0
    clear hC0 hnc hrn hrk hrl hmake
    go_wp2_with fail
    refine (HWH.out _ (Below.refl _ _)).mono ?_
    rintro e w2 ⟨uw, rfl, hwo, hb2⟩
    obtain ⟨Aw, cw, huw⟩ := own_slice hwo
    subst huw
    have HWI := hid (Rowp.ints hwo (by rw [List.length_map]; exact HN.out))
    have HB2 := hid hb2
    have HBW2 := hid (below_then HBW.out hb2)
    have HQ2 := hid ((fr0 hb2).blk HQ0.out (fun h => h))
    have HRK2 := hid (HRK.out.later (RowR.stays pcR.stays) hb2)
    have HSZ := hid hb2.size
    clear hwo hb2 HRK HQ0 HWH
    obtain ⟨Z, hZ⟩ : ∃ Z, w2.heap.size = Z := ⟨_, rfl⟩
    have HZ := hid hZ
    clear hZ
    go_wp2_with fail
    go_loopw [9, 10] (fun u v wr => ∃ (c : Nat) (vs : List Value), c ≤ nc ∧ v = .int .i64 c ∧ Hid (OI wr Z u vs ((ceilL S P).take c)) ∧ Hid (Below w2.heap.size w2 wr)) (fun _ v _ => nc - (intOf v).toNat)
    case atStart => exact ⟨0, [], by omega, rfl, hid (OI.nil _ _), hid (Below.refl _ _)⟩
    case round =>
      obtain ⟨c, vs, hc, rfl, HOI, HBR⟩ := hrel
      have hq := (fr0 HBR.out).blk HQ2.out (fun h => h)
      have s0 : wr.cell? ⟨B, 0, none⟩ = some (.int .i64 S.cores) := by rw [blk_cell hq 0, HCS.out]; rfl
      have s7 : wr.cell? ⟨B, 7, none⟩ = some (.int .i64 S.resn) := by rw [blk_cell hq 7, HCS.out]; rfl
      have HQR := hid hq
      clear hq
      by_cases hcn : c < nc
      case pos =>
        have hcd : decide ((c : Int) < S.cores) = true := decide_eq_true (by have := HNC.out; omega)
        have hmake := HMK.out
        obtain ⟨w8, hw8⟩ : ∃ w8, w8 = wr := ⟨_, rfl⟩
        subst hw8
        go_upto_region 10 with fail
        clear hmake s0 s7
        have hZt : Tally (w8.alloc (.cells C0 3)) w8.heap.size rn (fun _ => 0) := ⟨⟨C0, blk_new _ _, by rw [HC0.out]; simp, fun j hj => by rw [HC0.out]; simp [hj]⟩⟩
        have HCE0 := hid (show CEW w8 (w8.alloc (.cells C0 3)) w8.heap.size rn (topF (upsN S P c 0)) from ⟨below_new (Below.refl _ _) _, hZt, Nat.le_refl _⟩)
        clear hZt
        obtain ⟨X, hX⟩ : ∃ X, X = w8.heap.size := ⟨_, rfl⟩
        rw [← hX] at HCE0 ⊢
        have HX := hid hX
        clear hX
        generalize w8.alloc (.cells C0 3) = w9 at HCE0 ⊢
        have HBWR := hid (below_then HBW2.out HBR.out)
        go_wp2_with fail
        clear hcd
        go_loopw [12] (fun v wr => ∃ i : Nat, i ≤ n ∧ v = .int .i64 i ∧ Hid (CEW w8 wr X rn (topF (upsN S P c i)))) (fun v _ => n - (intOf v).toNat)
        case atStart => exact ⟨0, by omega, rfl, HCE0⟩
        case round =>
          obtain ⟨i, hin, rfl, HCI⟩ := hrel
          by_cases hil : i < n
          case pos =>
            obtain ⟨t, ht⟩ : ∃ t, S.tasks[i]? = some t := ⟨_, List.getElem?_eq_getElem (by have := HN0.out; omega)⟩
            obtain ⟨pl, hpl⟩ : ∃ pl, P[i]? = some pl := ⟨_, List.getElem?_eq_getElem (by have := HN.out; omega)⟩
            obtain ⟨b, o, cs, hA, hbl, _, hcs, us, hu1, hu2⟩ := HS.out.tasks.at ht
            subst hA
            subst hu1
            obtain ⟨A1, c1, hu3, _⟩ := hu2.shape
            obtain ⟨m1, hm1⟩ : ∃ m, m = t.secs.length := ⟨_, rfl⟩
            rw [← hm1] at hu3
            subst hu3
            have hso : secsOf S i = t.secs := by unfold secsOf; rw [ht]; rfl
            have hm4 : m1 ≤ 4 := by rw [hm1]; exact (HO.out.sys.tasks t (List.mem_of_getElem? ht)).n
            have HTO := hid (HO.out.sys.tasks t (List.mem_of_getElem? ht))
            have hwm : (P.map whereOf)[i]? = some (whereOf pl) := by rw [List.getElem?_map, hpl]; rfl
            obtain ⟨b5, o5, cs5, hA5, hbl5, _, hcs5, hr5⟩ := HWI.out.at hwm
            subst hA5
            have hr5' : cs5 = [.int .i64 (whereOf pl)] := hr5
            subst hr5'
            have hwa : whereAt P i = whereOf pl := by unfold whereAt; rw [hwm]; rfl
            have hrm : (rankL S P)[i]? = some (rankRow S (partsOf P) i pl) := by unfold rankL; rw [List.getElem?_mapIdx, hpl]; rfl
            obtain ⟨b6, o6, cs6, hA6, hbl6, _, hcs6, ul6, hv61, hv62⟩ := HRK2.out.at hrm
            subst hA6
            subst hv61
            obtain ⟨A7, c7, hv7, _⟩ := hv62.shape
            obtain ⟨m7, hm7⟩ : ∃ m, m = pl.length := ⟨_, rfl⟩
            rw [show (rankRow S (partsOf P) i pl).length = m7 by unfold rankRow; rw [List.length_map, hm7]] at hv7
            subst hv7
            have HRM := hid hrm
            have HV62 := hid hv62
            have HU2 := hid hu2
            have HM1 := hid hm1
            have HM7 := hid hm7
            have HSO := hid hso
            have HWA := hid hwa
            obtain ⟨wv, hwv⟩ : ∃ x, whereOf pl = x := ⟨_, rfl⟩
            have HWV := hid hwv
            rw [hwv] at hcs5 HWA
            have HF3 := hid (show ∀ W, Below w8.heap.size w8 W → W.cell? ⟨b, o + i * 4 + 3, none⟩ = some (.slice A1 m1 c1) ∧ W.cell? ⟨b5, o5 + i, none⟩ = some (.int .i64 wv) ∧ W.cell? ⟨b6, o6 + i, none⟩ = some (.slice A7 m7 c7) ∧ W.cell? ⟨B, 8, none⟩ = some (.slice (some ⟨b, o, none⟩) n c0) from fun W h => by
              have h0 := below_then HBWR.out h
              have h2 := below_then HBR.out h
              refine ⟨(h0.cell (p := ⟨b, o + i * 4 + 3, none⟩) hbl).trans (hcs 3 _ rfl), (h2.cell (p := ⟨b5, o5 + i, none⟩) hbl5).trans (by simpa using hcs5 0 _ rfl), (h2.cell (p := ⟨b6, o6 + i, none⟩) hbl6).trans (by simpa using hcs6 0 _ rfl), ?_⟩
              rw [blk_cell ((fr0 h).blk HQR.out (fun h => h)) 8, HCS.out]
              rfl)
            clear ht hpl hbl hcs hu2 hm1 hso hwm hbl5 hcs5 hr5 hwa hrm hbl6 hcs6 hv62 hm7 hwv
            go_wp2_with fail
            go_loopw [13] (fun v wr => ∃ k : Nat, k ≤ m1 ∧ v = .int .i64 k ∧ Hid (CEW w8 wr X rn (topF (upsK S P c i k)))) (fun v _ => m1 - (intOf v).toNat)
            case atStart => exact ⟨0, by omega, rfl, by rw [upsK_zero]; exact HCI⟩
            case round =>
              obtain ⟨k, hk, rfl, HCK⟩ := hrel
              obtain ⟨f0, f1, f2, f3⟩ := HF3.out wr HCK.out.below
              by_cases hkm : k < m1
              case neg =>
                obtain rfl : k = m1 := by omega
                have HCN : Hid (CEW w8 wr X rn (topF (upsN S P c (i + 1)))) := by
                  have h := upsK_all S P (c : Int) i
                  rw [HSO.out, ← HM1.out] at h
                  rw [← h]
                  exact HCK
                go_wp2_with fail
                go_roundw
                case rel => exact ⟨i + 1, by omega, by go_num, HCN⟩
                case measure => simp [intOf]; omega
              case pos =>
                by_cases hwc : wv = c
                case neg =>
                  have hwb : (wv == (c : Int)) = false := beq_eq_false_iff_ne.2 hwc
                  have HCN : Hid (CEW w8 wr X rn (topF (upsN S P c (i + 1)))) := by
                    rw [← upsK_no (by rw [HWA.out]; exact hwc) k]
                    exact HCK
                  clear hwc
                  go_wp2_with fail
                  go_roundw
                  case rel => exact ⟨i + 1, by omega, by go_num, HCN⟩
                  case measure => simp [intOf]; omega
                case pos =>
                  have hwb : (wv == (c : Int)) = true := beq_iff_eq.2 hwc
                  have hm71 : m7 = 1 := by
                    by_cases e : pl.length = 1
                    · rw [HM7.out, e]
                    · have := whereOf_no e
                      rw [HWV.out, hwc] at this
                      omega
                  have h07 : 0 < m7 := by omega
                  obtain ⟨p, hp⟩ : ∃ p, (rankRow S (partsOf P) i pl)[0]? = some p := ⟨_, List.getElem?_eq_getElem (by unfold rankRow; rw [List.length_map, ← HM7.out]; omega)⟩
                  obtain ⟨b7, o7, cs7, hA7, hbl7, _, hcs7, hr7⟩ := HV62.out.at hp
                  subst hA7
                  have hr7' : cs7 = [.int .i64 p.core, .int .i64 p.bud, .int .i64 p.dl, .int .i64 p.prio, .bool p.tight] := hr7
                  subst hr7'
                  have hpr : prioOf S P i = p.prio := by
                    unfold prioOf
                    rw [HRM.out]
                    show (((rankRow S (partsOf P) i pl).head?.map Pc.prio).getD 0) = _
                    rw [List.head?_eq_getElem?, hp]
                    rfl
                  obtain ⟨pr, hprr⟩ : ∃ x, p.prio = x := ⟨_, rfl⟩
                  rw [hprr] at hpr hcs7
                  have g3 : wr.cell? ⟨b7, o7 + 3, none⟩ = some (.int .i64 pr) := ((below_then HBR.out HCK.out.below).cell (p := ⟨b7, o7 + 3, none⟩) hbl7).trans (by simpa using hcs7 3 _ rfl)
                  obtain ⟨x, hx⟩ : ∃ x, t.secs[k]? = some x := ⟨_, List.getElem?_eq_getElem (by have := HM1.out; omega)⟩
                  obtain ⟨b8, o8, cs8, hA8, hbl8, _, hcs8, hr8⟩ := HU2.out.at hx
                  subst hA8
                  have hr8' : cs8 = [.int .i64 x.at_, .int .i64 x.res, .int .i64 x.len] := hr8
                  subst hr8'
                  have hxo := HTO.out.s x (List.mem_of_getElem? hx)
                  obtain ⟨jr, hjr⟩ : ∃ j : Nat, x.res = j := ⟨x.res.toNat, by have := hxo.r0; omega⟩
                  have hjn : jr < rn := by have := hxo.r1; have := HRN.out; omega
                  rw [hjr] at hcs8
                  have g1 : wr.cell? ⟨b8, o8 + k * 3 + 1, none⟩ = some (.int .i64 jr) := ((below_then HBWR.out HCK.out.below).cell (p := ⟨b8, o8 + k * 3 + 1, none⟩) hbl8).trans (hcs8 1 _ rfl)
                  have HUS := hid (show topF (upsK S P c i (k + 1)) = upd (topF (upsK S P c i k)) jr (max 1 pr) by
                    rw [upsK_succ (by rw [HWA.out]; exact hwc) (by rw [HSO.out]; exact hx), topF_snoc, hpr, hjr]
                    rfl)
                  obtain ⟨tv, htv⟩ : ∃ y, topF (upsK S P c i k) jr = y := ⟨_, rfl⟩
                  have x0 : wr.cell? ⟨X, jr, none⟩ = some (.int .i64 tv) := by rw [HCK.out.t.cell hjn, htv]
                  have x1 : wr.frozen? ⟨X, jr, none⟩ = false := HCK.out.t.free jr
                  have HTV := hid htv
                  obtain ⟨pm, hpm⟩ : ∃ y, max 1 pr = y := ⟨_, rfl⟩
                  rw [hpm] at HUS
                  have HPM := hid hpm
                  clear hp hbl7 hcs7 hr7 hx hbl8 hcs8 hr8 hxo hjr hpr hprr htv hwc hm71
                  go_upto_region 18 with fail
                  have hpe : (if 1 < pr then pr else 1) = pm := by rw [← HPM.out]; split <;> omega
                  rw [hpe]
                  clear hpe hpm
                  by_cases hz : tv = 0
                  case pos =>
                    have hzb : (tv == 0) = true := beq_iff_eq.2 hz
                    have HC4 := hid (show CEW w8 (wr.setCell ⟨X, jr, none⟩ (.int .i64 pm)) X rn (topF (upsK S P c i (k + 1))) from HCK.out.set hjn pm (fun a ha => by
                      rw [HUS.out]
                      unfold upd
                      by_cases e : a = jr
                      · rw [if_pos e, if_pos e, HTV.out, if_pos (.inl hz)]
                      · rw [if_neg e, if_neg e]))
                    clear hz
                    go_wp2_with fail
                    go_roundw
                    case rel => exact ⟨k + 1, by omega, by go_num, HC4⟩
                    case measure => simp [intOf]; omega
                  case neg =>
                    have hzb : (tv == 0) = false := beq_eq_false_iff_ne.2 hz
                    by_cases hl : pm < tv
                    case pos =>
                      have hlb : decide (pm < tv) = true := decide_eq_true hl
                      have HC4 := hid (show CEW w8 (wr.setCell ⟨X, jr, none⟩ (.int .i64 pm)) X rn (topF (upsK S P c i (k + 1))) from HCK.out.set hjn pm (fun a ha => by
                        rw [HUS.out]
                        unfold upd
                        by_cases e : a = jr
                        · rw [if_pos e, if_pos e, HTV.out, if_pos (.inr hl)]
                        · rw [if_neg e, if_neg e]))
                      clear hz
                      go_wp2_with fail
                      go_roundw
                      case rel => exact ⟨k + 1, by omega, by go_num, HC4⟩
                      case measure => simp [intOf]; omega
                    case neg =>
                      have hlb : decide (pm < tv) = false := decide_eq_false hl
                      have HC4 := hid (show CEW w8 wr X rn (topF (upsK S P c i (k + 1))) from HCK.out.congr (fun a ha => by
                        rw [HUS.out]
                        unfold upd
                        by_cases e : a = jr
                        · rw [if_pos e, HTV.out, if_neg (fun h => by rcases h with h | h; exact hz h; exact hl h), e, HTV.out]
                        · rw [if_neg e]))
                      clear hz
                      go_wp2_with fail
                      go_roundw
                      case rel => exact ⟨k + 1, by omega, by go_num, HC4⟩
                      case measure => simp [intOf]; omega
          case neg =>
            obtain rfl : i = n := by omega
            have hXZ : Z ≤ X := by have := HX.out; have := HZ.out; have := HBR.out.size; omega
            have hROW := HCI.out.t.own hXZ (by unfold maxLen; omega)
            have HROW : Hid (wr.ownsRow Z 3 1 (.slice (some ⟨X, 0, none⟩) rn rn) (ceilRow S P c).length (intCells (ceilRow S P c))) := by
              have e : ceilRow S P c = (List.range rn).map (topF (upsN S P c i)) := by
                unfold ceilRow
                rw [HN.out, HRN.out]
                rfl
              rw [e, List.length_map, List.length_range]
              exact hROW
            have HCT := hid (show (ceilL S P).take (c + 1) = (ceilL S P).take c ++ [ceilRow S P c] from take_next (by
              unfold ceilL
              rw [List.getElem?_map, List.getElem?_range (by rw [HNC.out]; simpa using hcn)]
              rfl))
            have HOL := hid (HOI.out.later HCI.out.below)
            have hvl : vs.length = c := by
              have h1 := HOI.out.len
              rw [List.length_take] at h1
              have h2 : (ceilL S P).length = nc := by unfold ceilL; rw [List.length_map, List.length_range, HNC.out]; simp
              omega
            have hown := HOL.out.out
            rw [hvl] at hown
            have hszx : Z ≤ wr.heap.size := by have := HCI.out.below.size; have := HBR.out.size; have := HZ.out; omega
            clear hROW
            go_wp2_with (at_builtin; refine append_new rfl _ _ 26 rfl Z 39 i0 _ 1 24 Try.underlying26 hi hz0 hz1 hz2 rfl (by decide) #[.slice (some ⟨X, 0, none⟩) rn rn] u9 c vs rfl _ rfl rfl hown rfl (fun u hu => by simp at hu; subst hu; rfl) (by unfold maxLen; omega) (by omega) hszx ?_)
            intro v6 w6 hown6 hf6 hl6
            have HO6 := hid (HOL.out.snoc HROW.out (fun b hb e => by
              have h1 := (HOI.out.lt b (.inl e)).2
              simp [Value.ownBlock] at hb
              have := HX.out
              omega) (by rw [hvl]; exact hown6) hf6 (hl6.imp id (fun h => ⟨_, h, Nat.le_succ _⟩)))
            have HB6 := hid (show Below w2.heap.size w2 w6 from ((Fr.of_below (S := NoB) (below_then HBR.out HCI.out.below)).trans hf6 (fun b hb => .inr (by have := (HOL.out.lt b (.inl hb)).1; have := HZ.out; omega))).no)
            clear hown6 hf6 hl6 hown
            go_wp2_with fail
            go_roundw
            case rel => exact ⟨c + 1, _, by omega, by go_num, by rw [HCT.out]; exact HO6, HB6⟩
            case measure => simp [intOf]; omega
      case neg =>
        obtain rfl : c = nc := by omega
        have hcd : decide ((c : Int) < S.cores) = false := decide_eq_false (by have := HNC.out; omega)
        have HO2 : Hid (OI wr Z u9 vs (ceilL S P)) := by
          have h := HOI.out
          rw [List.take_of_length_le (by unfold ceilL; rw [List.length_map, List.length_range, HNC.out]; simp)] at h
          exact h
        go_wp2_with fail
        go_ret2
        exact ⟨_, rfl, HO2.out.plan, below_then HBW2.out HBR.out⟩
end
end Go.Proofs.Ytmhochjpdedlgaa
