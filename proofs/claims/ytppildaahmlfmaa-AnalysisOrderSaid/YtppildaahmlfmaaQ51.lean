/- Joined: Ana7. -/
import Derived.Test.YtppildaahmlfmaaQ50
import Derived.OwnWalk
set_option linter.unusedVariables false
set_option linter.unusedSimpArgs false
/- analysis.Check (contract). -/
set_option linter.unusedVariables false
set_option linter.unusedSimpArgs false
namespace Go.Proofs.Ytppildaahmlfmaa
open Go.RowKit

theorem intCells_set (b : List Int) (i : Nat) (v : Int) : (intCells b).set i (.int .i64 v) = intCells (b.set i v) := by
  unfold intCells
  rw [List.map_set]
/-- What Check returns. -/
def ChkRet (w0 w : World) (u : Value) (o : Option (List Int)) (n : Nat) : Prop := match o with
  | none => u = .slice none 0 0
  | some b => b.length = n ∧ w.ownsRow w0.heap.size 3 1 u n (intCells b)
theorem coreS_len {S : Sy} {P : Pl} {l0 : List Pt} : ∀ {l : List Pt} {b b' : List Int}, coreS S P l0 l b = .inl b' → b'.length = b.length
  | [], b, b', h => by injection h with h; rw [h]
  | x :: l, b, b', h => by
    unfold coreS at h
    by_cases h1 : x.p.tight = true
    · rw [if_pos h1] at h; exact coreS_len h
    · rw [if_neg h1] at h
      by_cases h2 : (oneV S P l0 x).2 ≠ 0
      · rw [if_pos h2] at h; cases h
      · rw [if_neg h2] at h
        have := coreS_len h
        rwa [List.length_set] at this
theorem pt_rows' {W : World} {base m : Nat} {v : Value} {l : List Pt} (hm : l.length = m) (h : W.ownsRow base 67 7 v m (flat encPt l)) : Rowp 7 ptR W v l := by
  subst hm
  exact pt_rows h
section
variable {w : World}
set_option maxRecDepth 100000 in
set_option maxHeartbeats 12800000 in
theorem chk_any (S : Sy) (A0 : Option Addr) (n0 c0 : Nat) (A : Option Addr) (n cap : Nat) (P : Pl) (hs : IsSys w (.slice A0 n0 c0) S) (hp : IsPlan w (.slice A n cap) P) :
    Calls Try.prog 10 #[sysV S (.slice A0 n0 c0), .slice A n cap] w fun e w' =>
      ∃ u, e = .returned (.tuple #[u, .int .i64 (chkV S P).2.1, .int .i64 (chkV S P).2.2]) ∧ ChkRet w w' u (chkV S P).1 n ∧ Below w.heap.size w w' := by
  have hn := hp.rows.len
  have hn0 := hs.tasks.len
  have HS := hid hs
  have HP := hid hp
  have HN := hid hn
  have HN0 := hid hn0
  have HRK := hid (fun W (h : Below w.heap.size w W) => prank_any (w := W) S A0 n0 c0 A n cap P (hs.later h) (hp.later h))
  have HCV := hid (show chkV S P = if planB S P = true then chkS S P S.cores.toNat 0 (List.replicate P.length 0) else (none, -1, 1) from rfl)
  obtain ⟨⟨V0, V1, V2⟩, hV⟩ : ∃ V, chkV S P = V := ⟨_, rfl⟩
  rw [hV] at HCV ⊢
  have hq0 := blk_new w (.cells (sysC S (.slice A0 n0 c0)) 24)
  have HSY := hid (show SyAt w (w.alloc (.cells (sysC S (.slice A0 n0 c0)) 24)) w.heap.size S (.slice A0 n0 c0) from ⟨hq0, below_new (Below.refl w.heap.size w) _⟩)
  have s00 := blk_cell hq0 0
  have s01 := blk_cell hq0 1
  have s02 := blk_cell hq0 2
  have s03 := blk_cell hq0 3
  have s04 := blk_cell hq0 4
  have s05 := blk_cell hq0 5
  have s06 := blk_cell hq0 6
  have s07 := blk_cell hq0 7
  have s08 := blk_cell hq0 8
  have hnm : n ≤ 9223372036854775807 := by have := hp.rows.room; unfold maxLen at this; omega
  clear hs hp hn hn0 hV hq0
  simp only
  unfold sysV at HRK ⊢
  unfold sysC at HSY s00 s01 s02 s03 s04 s05 s06 s07 s08
  go_enter Try.func10, Try.ntmps10
  go_wp2_with fail
  refine (HRK.out _ HSY.out.below).mono ?_
  intro e w1 hor
  rcases hor with ⟨hpb, rfl, hb1⟩ | ⟨hpb, R, g, Vf, uw, uc, X, rfl, hk, hb1⟩
  · have HB := hid (below_then HSY.out.below hb1)
    have HV2 := hid (show (V0, V1, V2) = ((none : Option (List Int)), (-1 : Int), (1 : Int)) by rw [HCV.out, if_neg (by rw [hpb]; simp)])
    clear hb1 hpb
    go_wp2_with fail
    go_ret3
    have h2 := HV2.out
    injection h2 with h3 h2
    injection h2 with h4 h5
    subst h3 h4 h5
    exact ⟨_, rfl, rfl, HB.out⟩
  · have hok := planB_ok hpb
    have hnn : n = n0 := by have := hok.len; have := HN.out; have := HN0.out; omega
    subst hnn
    have hn24 : n ≤ 24 := by have := hok.sys.len; have := hok.len; have := HN.out; omega
    obtain ⟨Aw, cw, Ac, cc, hra⟩ := rkAt_of hk (HS.out.later (below_then HSY.out.below hb1)) hpb HP.out.wf HN.out (parts_short hok)
    have HRA := hid hra
    have HOK := hid hok
    have HRT := hid (show rightS S = true by unfold planB at hpb; simp only [Bool.and_eq_true] at hpb; exact hpb.1.1.1.1)
    have HSY1 := hid (HSY.out.later hb1)
    obtain ⟨nc, hnc⟩ : ∃ nc : Nat, S.cores = nc := ⟨S.cores.toNat, by have := hok.sys.cores; omega⟩
    have hnc8 : nc ≤ 8 := by have := hok.sys.cores; omega
    have HNC := hid hnc
    have HV2 := hid (show (V0, V1, V2) = chkS S P nc 0 (List.replicate n 0) by rw [HCV.out, if_pos hpb, HN.out, show S.cores.toNat = nc by omega])
    have HWW := hid (whereL_wf HP.out.wf)
    obtain ⟨C0, hC0⟩ : ∃ C, C = (List.replicate n (.int .i64 0) : List Value).toArray := ⟨_, rfl⟩
    have hmake : ∀ w, (Instr.makeSlice 27 (.int .i64 (n : Int)) (.int .i64 (n : Int))).run Try.prog w = .ok (.slice (some ⟨w.heap.size, 0, none⟩) n n) (w.alloc (.cells C0 3)) := fun w => by rw [hC0]; exact make_ints n (by omega) w
    have HC0 := hid hC0
    clear hb1 hpb hk hra hok hC0 s00 s01 s02 s03 s04 s05 s06 s07 s08 HSY HRK HCV hnc
    go_upto_region 5 with fail
    have hq1 := blk_new w1 (.cells C0 3)
    have HRA2 := hid (HRA.out.later (below_new (Below.refl w1.heap.size w1) (.cells C0 3)))
    have HSY2 := hid (HSY1.out.later (below_new (Below.refl w1.heap.size w1) (.cells C0 3)))
    obtain ⟨D, hD⟩ : ∃ D, w1.heap.size = D := ⟨_, rfl⟩
    have hDR := blk_lt HRA.out.blk
    have hDB := blk_lt HSY1.out.blk
    have hW1 := hD
    have HBK := hid (below_new (Below.refl w1.heap.size w1) (.cells C0 3))
    rw [hD] at hq1 hDR hDB ⊢
    generalize w1.alloc (.cells C0 3) = w2 at *
    have HO2 := hid (show w2.ownsRow D 3 1 (.slice (some ⟨D, 0, none⟩) n n) n (intCells (List.replicate n 0)) from
      ⟨by simp [intCells], .inr ⟨D, n, C0, rfl, Nat.le_refl _, hq1, Nat.le_refl _, by unfold maxLen; omega, by rw [HC0.out]; simp, by rw [HC0.out]; simp [intCells]⟩⟩)
    have c0' : w2.cell? ⟨w.heap.size, 0, none⟩ = some (.int .i64 nc) := by rw [← HNC.out]; exact HSY2.out.cells.1
    have HBK2 := hid (show Below w1.heap.size w1 w2 from HBK.out)
    have HW1 := hid hW1
    clear hq1 hD hmake HRA2 HSY2 HBK hW1
    go_wp2_with fail
    clear c0'
    go_loopw [31] (fun v wr => ∃ (c : Nat) (b : List Int), c ≤ nc ∧ v = .int .i64 c ∧ Hid (b.length = n) ∧ Hid (wr.ownsRow D 3 1 (.slice (some ⟨D, 0, none⟩) n n) n (intCells b)) ∧ Hid ((V0, V1, V2) = chkS S P (nc - c) c b) ∧ Hid (Below w1.heap.size w1 wr)) (fun v _ => nc - (intOf v).toNat)
    case atStart => exact ⟨0, List.replicate n 0, by omega, rfl, hid (by simp), HO2, HV2, HBK2⟩
    case round =>
      obtain ⟨c, b, hc, rfl, HBL, HO, HV, HB⟩ := hrel
      have HBW := hid (below_then HSY1.out.below HB.out)
      by_cases hlt : c < nc
      case neg =>
        obtain rfl : c = nc := by omega
        have h2 := HV.out
        rw [Nat.sub_self] at h2
        have h2 : (V0, V1, V2) = ((some b : Option (List Int)), (-1 : Int), (0 : Int)) := h2
        injection h2 with h3 h2
        injection h2 with h4 h5
        subst h3 h4 h5
        go_wp2_with fail
        go_ret3
        exact ⟨_, rfl, ⟨HBL.out, own_mono HO.out (by omega)⟩, HBW.out⟩
      case pos =>
        obtain ⟨q, hq⟩ : ∃ q, nc - c = q + 1 := ⟨nc - c - 1, by omega⟩
        have HQ := hid (show nc - (c + 1) = q by omega)
        rw [hq] at HV
        have HVS := hid (show (V0, V1, V2) = (match coreV S P (c : Int) b with | .inl b' => chkS S P q (c + 1) b' | .inr e => ((none : Option (List Int)), (c : Int), e)) from HV.out)
        have hcS : (c : Int) < S.cores := by have := HNC.out; omega
        have HCS := hid hcS
        have HRr := hid (HRA.out.later HB.out)
        have HON := hid (on_any (w := wr) (rankL S P) (some ⟨g, 0, none⟩) n n HRr.out.plan c (rank_parts_short HOK.out))
        have r09 := HRr.out.cells.2.2.2.2.2.2.2.2.2.1
        clear hq HV hcS
        go_wp2_with fail
        refine HON.out.mono ?_
        rintro e w3 ⟨u3, rfl, ho3, hb3⟩
        obtain ⟨Al, cl, rfl⟩ := own_slice ho3
        have hDZ : D < wr.heap.size := by obtain ⟨cur, hcur, _⟩ := own_blk HO.out; exact blk_lt hcur
        obtain ⟨Z, hZ⟩ : ∃ Z, wr.heap.size = Z := ⟨_, rfl⟩
        have hr3 := ho3
        rw [hZ] at hr3 hDZ
        clear hZ
        have HB3 := hid (below_then HB.out hb3)
        have HO3 := hid (own_kept HO.out (fr0 hb3) (fun _ _ h => h))
        have HFIT := hid (show ∀ y ∈ onP (rankL S P) c, OnFit S P n c y from fun y hy => on_fit HOK.out HN.out hy)
        have hsh := on_short (c := (c : Int)) HOK.out
        have HCV := hid (show coreV S P (c : Int) b = if S.policy = 2 ∧ onP (rankL S P) c ≠ [] ∧ edfV S P (onP (rankL S P) c) c ≠ 0 then .inr (edfV S P (onP (rankL S P) c) c) else coreS S P (onP (rankL S P) c) (onP (rankL S P) c) b from rfl)
        obtain ⟨l, hl⟩ : ∃ l, onP (rankL S P) (c : Int) = l := ⟨_, rfl⟩
        rw [hl] at hr3 HFIT hsh HCV ⊢
        obtain ⟨m, hm⟩ : ∃ m, l.length = m := ⟨_, rfl⟩
        rw [hm] at hr3 hsh ⊢
        have HM := hid hm
        have HR3 := hid hr3
        have HEM := hid (show l ≠ [] ↔ 0 < m by rw [← hm]; cases l <;> simp)
        have r01 : w3.cell? ⟨w.heap.size, 1, none⟩ = some (.int .i64 S.policy) := (HSY1.out.later HB3.out).cells.2.1
        clear hr3 hl hm ho3 hb3 r09 HB HO HON HRr HBW
        go_upto_region 9 with fail
        go_cut [47] (fun v wx => ∃ gb : Bool, v = .bool gb ∧ Hid (gb = true ↔ (S.policy = 2 ∧ 0 < m)) ∧ Hid (wx = w3))
        case first =>
          by_cases hpol : S.policy = 2
          case neg =>
            have hpb : (S.policy == 2) = false := beq_eq_false_iff_ne.2 hpol
            have HP2 := hid hpol
            clear hpol
            go_wp2_with fail
            go_meet
            exact ⟨false, rfl, hid ⟨fun h => (by cases h), fun h => absurd h.1 HP2.out⟩, hid rfl⟩
          case pos =>
            have hpb : (S.policy == 2) = true := beq_iff_eq.2 hpol
            have HP2 := hid hpol
            clear hpol
            by_cases hm0 : 0 < m
            case neg =>
              have hd : decide ((0 : Int) < m) = false := decide_eq_false (by omega)
              have HM0 := hid hm0
              go_wp2_with fail
              go_meet
              exact ⟨false, (by first | rfl | exact bool_eq hd), hid ⟨fun h => (by cases h), fun h => absurd h.2 HM0.out⟩, hid rfl⟩
            case pos =>
              have hd : decide ((0 : Int) < m) = true := decide_eq_true (by omega)
              have HM0 := hid hm0
              go_wp2_with fail
              go_meet
              exact ⟨true, (by first | rfl | exact bool_eq hd), hid ⟨fun _ => ⟨HP2.out, HM0.out⟩, fun _ => rfl⟩, hid rfl⟩
        obtain ⟨gb, rfl, HGB, HWX⟩ := hcut
        obtain rfl := HWX.out
        clear r01
        have HRr := hid (HRA.out.later HB3.out)
        have HEDF := hid (edf_any (w := wc) R S P A0 n c0 (some ⟨g, 0, none⟩) n Aw cw Ac S.cores.toNat cc HRr.out HRT.out HWW.out c HCS.out l Al m cl (pt_rows' HM.out HR3.out) (fun y hy => (HFIT.out y hy).fit) (by omega))
        go_upto_if 47 with fail
        go_cut [12] (fun s12 wx => Hid (coreV S P (c : Int) b = coreS S P l l b) ∧ Hid (wx.ownsRow D 3 1 (.slice (some ⟨D, 0, none⟩) n n) n (intCells b)) ∧ Hid (Below w1.heap.size w1 wx) ∧ Hid (wx.ownsRow Z 67 7 (.slice Al m cl) m (flat encPt l)))
        case first =>
          cases gb
          case false =>
            have HC2 := hid (show coreV S P (c : Int) b = coreS S P l l b by rw [HCV.out, if_neg (fun h => by have := HGB.out.2 ⟨h.1, HEM.out.1 h.2.1⟩; cases this)])
            go_wp2_with fail
            go_meet
            exact ⟨HC2, HO3, HB3, HR3⟩
          case true =>
            have HG2 := hid (HGB.out.1 rfl)
            obtain ⟨ev, hev⟩ : ∃ y, edfV S P l c = y := ⟨_, rfl⟩
            rw [hev] at HEDF HCV
            clear hev
            go_wp2_with fail
            refine HEDF.out.mono ?_
            rintro e w4 ⟨rfl, hb4⟩
            have HB4 := hid (below_then HB3.out hb4)
            have HO4 := hid (own_kept HO3.out (fr0 hb4) (fun _ _ h => h))
            have HR4 := hid (own_kept HR3.out (fr0 hb4) (fun _ _ h => h))
            clear hb4
            by_cases hev : ev = 0
            case pos =>
              subst hev
              have HC2 := hid (show coreV S P (c : Int) b = coreS S P l l b by rw [HCV.out, if_neg (fun h => h.2.2 rfl)])
              go_wp2_with fail
              go_meet
              exact ⟨HC2, HO4, HB4, HR4⟩
            case neg =>
              have h2 := HVS.out
              rw [HCV.out, if_pos ⟨HG2.out.1, HEM.out.2 HG2.out.2, hev⟩] at h2
              have h2 : (V0, V1, V2) = ((none : Option (List Int)), (c : Int), ev) := h2
              injection h2 with h3 h2
              injection h2 with h4 h5
              subst h3 h4 h5
              have HBE := hid (below_then HSY1.out.below HB4.out)
              go_wp2_with fail
              go_ret3
              exact ⟨_, rfl, rfl, HBE.out⟩
        obtain ⟨HC2, HO5, HB5, HR5⟩ := hcut
        obtain ⟨w5, hw5⟩ : ∃ w5, w5 = wc := ⟨_, rfl⟩
        subst hw5
        clear HEDF HRr HCV HGB HO3 HB3 HR3
        go_wp2_with fail
        go_loopw [58] (fun v wr => ∃ (k : Nat) (b' : List Int), k ≤ m ∧ v = .int .i64 k ∧ Hid (b'.length = n) ∧ Hid (coreV S P (c : Int) b = coreS S P l (l.drop k) b') ∧ Hid (wr.ownsRow D 3 1 (.slice (some ⟨D, 0, none⟩) n n) n (intCells b')) ∧ Hid (Below w1.heap.size w1 wr) ∧ Hid (wr.ownsRow Z 67 7 (.slice Al m cl) m (flat encPt l))) (fun v _ => m - (intOf v).toNat)
        case atStart => exact ⟨0, b, by omega, rfl, HBL, hid (by rw [List.drop_zero]; exact HC2.out), HO5, HB5, HR5⟩
        case round =>
          obtain ⟨k, b', hk, rfl, HBL2, HCR, HOr, HBr, HRr⟩ := hrel
          by_cases hkm : k < m
          case neg =>
            obtain rfl : k = m := by omega
            have HVN := hid (show (V0, V1, V2) = chkS S P (nc - (c + 1)) (c + 1) b' by
              have h1 := HVS.out
              rw [HCR.out, ← HM.out, List.drop_length] at h1
              rw [HQ.out]
              exact h1)
            go_wp2_with fail
            go_roundw
            case rel => exact ⟨c + 1, b', by omega, by go_num, HBL2, HOr, HVN, HBr⟩
            case measure => simp [intOf]; omega
          case pos =>
            obtain ⟨y, hy⟩ : ∃ y, l[k]? = some y := ⟨_, List.getElem?_eq_getElem (by have := HM.out; omega)⟩
            have hyf := HFIT.out y (List.mem_of_getElem? hy)
            obtain ⟨pl, hpl, hpk, hpb⟩ := hyf.row
            obtain ⟨bb, oo, cs, hA, hbl, _, hc', hrr⟩ := (pt_rows' HM.out HRr.out).at hy
            subst hA
            have hr' : cs = encPt y := hrr
            subst hr'
            have HBD := hid (fun W (h : Below w1.heap.size w1 W) (h2 : Rowp 7 ptR W (.slice (some ⟨bb, oo, none⟩) m cl) l) => bnd_any (w := W) R S P A0 n c0 (some ⟨g, 0, none⟩) n Aw cw Ac S.cores.toNat cc (HRA.out.later h) HRT.out HWW.out y hyf.fit c hyf.core HCS.out l (some ⟨bb, oo, none⟩) m cl h2 (fun z hz => (HFIT.out z hz).fit) (by omega) pl hpl hpk hpb)
            have HDR := hid (drop_at hy)
            have HCRS := hid (show coreS S P l (l.drop k) b' = if y.p.tight = true then coreS S P l (l.drop (k + 1)) b' else if (oneV S P l y).2 ≠ 0 then .inr (oneV S P l y).2 else coreS S P l (l.drop (k + 1)) (b'.set y.task (oneV S P l y).1) by rw [HDR.out]; rfl)
            have hyt := hyf.fit.t
            obtain ⟨⟨o1, o2⟩, ho⟩ : ∃ z, oneV S P l y = z := ⟨_, rfl⟩
            rw [ho] at HBD HCRS
            unfold numE at HBD
            simp only at HBD HCRS
            obtain ⟨⟨qc, qb, qd, qp, qt⟩, qk, qj⟩ := y
            unfold encPt at hc'
            simp only at hc' HBD HCRS hyt
            unfold ptV at HBD
            simp only at HBD
            have hqn : (qk : Int) < n := by omega
            have e0 : wr.cell? ⟨bb, oo + k * 7, none⟩ = some (.int .i64 qc) := by simpa using hc' 0 _ rfl
            have e1 : wr.cell? ⟨bb, oo + k * 7 + 1, none⟩ = some (.int .i64 qb) := hc' 1 _ rfl
            have e2 : wr.cell? ⟨bb, oo + k * 7 + 2, none⟩ = some (.int .i64 qd) := hc' 2 _ rfl
            have e3 : wr.cell? ⟨bb, oo + k * 7 + 3, none⟩ = some (.int .i64 qp) := hc' 3 _ rfl
            have e4 : wr.cell? ⟨bb, oo + k * 7 + 4, none⟩ = some (.bool qt) := hc' 4 _ rfl
            have e5 : wr.cell? ⟨bb, oo + k * 7 + 5, none⟩ = some (.int .i64 qk) := hc' 5 _ rfl
            have e6 : wr.cell? ⟨bb, oo + k * 7 + 6, none⟩ = some (.int .i64 qj) := hc' 6 _ rfl
            clear hy hyf hbl hc' hrr ho hpl hpk hpb
            go_upto_region 16 with fail
            have hq7 := blk_new wr (.cells #[.int .i64 qc, .int .i64 qb, .int .i64 qd, .int .i64 qp, .bool qt, .int .i64 qk, .int .i64 qj] 67)
            have hb7 := below_new (Below.refl wr.heap.size wr) (.cells #[.int .i64 qc, .int .i64 qb, .int .i64 qd, .int .i64 qp, .bool qt, .int .i64 qk, .int .i64 qj] 67)
            have HB7 := hid (below_then HBr.out hb7)
            have HO7 := hid (own_kept HOr.out (fr0 hb7) (fun _ _ h => h))
            have HR7 := hid (own_kept HRr.out (fr0 hb7) (fun _ _ h => h))
            obtain ⟨E, hE⟩ : ∃ E, wr.heap.size = E := ⟨_, rfl⟩
            rw [hE] at hq7 ⊢
            generalize wr.alloc (.cells #[.int .i64 qc, .int .i64 qb, .int .i64 qd, .int .i64 qp, .bool qt, .int .i64 qk, .int .i64 qj] 67) = w7 at *
            have HQ7 := hid hq7
            have l0 : w7.cell? ⟨E, 0, none⟩ = some (.int .i64 qc) := blk_cell hq7 0
            have l1 : w7.cell? ⟨E, 1, none⟩ = some (.int .i64 qb) := blk_cell hq7 1
            have l2 : w7.cell? ⟨E, 2, none⟩ = some (.int .i64 qd) := blk_cell hq7 2
            have l3 : w7.cell? ⟨E, 3, none⟩ = some (.int .i64 qp) := blk_cell hq7 3
            have l4 : w7.cell? ⟨E, 4, none⟩ = some (.bool qt) := blk_cell hq7 4
            have l5 : w7.cell? ⟨E, 5, none⟩ = some (.int .i64 qk) := blk_cell hq7 5
            have l6 : w7.cell? ⟨E, 6, none⟩ = some (.int .i64 qj) := blk_cell hq7 6
            clear hE e0 e1 e2 e3 e4 e5 e6 hq7 hb7 HOr HBr HRr
            cases qt
            case true =>
              have HCN := hid (show coreV S P (c : Int) b = coreS S P l (l.drop (k + 1)) b' by rw [HCR.out, HCRS.out, if_pos rfl])
              clear HBD HCRS
              go_wp2_with fail
              go_roundw
              case rel => exact ⟨k + 1, b', by omega, by go_num, HBL2, HCN, HO7, HB7, HR7⟩
              case measure => simp [intOf]; omega
            case false =>
              have HCN := hid (show coreV S P (c : Int) b = if o2 ≠ 0 then .inr o2 else coreS S P l (l.drop (k + 1)) (b'.set qk o1) by rw [HCR.out, HCRS.out, if_neg (by simp)])
              have HBC := hid (HBD.out w7 HB7.out (pt_rows' HM.out HR7.out))
              clear HBD HCRS HCR
              go_wp2_with fail
              refine HBC.out.mono ?_
              rintro e w8 ⟨rfl, hb8⟩
              have HB8 := hid (below_then HB7.out hb8)
              have HO8 := hid (own_kept HO7.out (fr0 hb8) (fun _ _ h => h))
              have HR8 := hid (own_kept HR7.out (fr0 hb8) (fun _ _ h => h))
              have HQ8 := hid ((fr0 hb8).blk HQ7.out (fun h => h))
              clear hb8 l0 l1 l2 l3 l4 l5 l6 HBC HB7 HO7 HR7 HQ7
              by_cases ho2 : o2 = 0
              case neg =>
                have h2 := HVS.out
                rw [HCN.out, if_pos ho2] at h2
                have h2 : (V0, V1, V2) = ((none : Option (List Int)), (c : Int), o2) := h2
                injection h2 with h3 h2
                injection h2 with h4 h5
                subst h3 h4 h5
                have HBE := hid (below_then HSY1.out.below HB8.out)
                go_wp2_with fail
                go_ret3
                exact ⟨_, rfl, rfl, HBE.out⟩
              case pos =>
                subst ho2
                have HCN2 := hid (show coreV S P (c : Int) b = coreS S P l (l.drop (k + 1)) (b'.set qk o1) by rw [HCN.out, if_neg (by simp)])
                have l5 : w8.cell? ⟨E, 5, none⟩ = some (.int .i64 qk) := blk_cell HQ8.out 5
                obtain ⟨bq, hbq⟩ : ∃ y, b'[qk]? = some y := ⟨_, List.getElem?_eq_getElem (by have := HBL2.out; omega)⟩
                have z0 : w8.cell? ⟨D, qk, none⟩ = some (.int .i64 bq) := own_cell0 HO8.out (by unfold intCells; rw [List.getElem?_map, hbq]; rfl)
                have z1 : w8.frozen? ⟨D, qk, none⟩ = false := own_free HO8.out qk
                have HOS := hid (show (w8.setCell ⟨D, qk, none⟩ (.int .i64 o1)).ownsRow D 3 1 (.slice (some ⟨D, 0, none⟩) n n) n (intCells (b'.set qk o1)) by rw [← intCells_set]; exact own_set HO8.out qk _ (by omega))
                have hf := (Fr.refl (One D) w8).one qk (.int .i64 o1)
                have HBS := hid (show Below w1.heap.size w1 (w8.setCell ⟨D, qk, none⟩ (.int .i64 o1)) from ((Fr.of_below (S := NoB) HB8.out).trans hf (fun x hx => .inr (by rw [show x = D from hx, HW1.out]; exact Nat.le_refl _))).no)
                have HRS := hid (own_kept HR8.out hf (fun x hx e => by have h1 := (HR8.out.lt x hx).1; have h2 : x = D := e; omega))
                have HBL3 := hid (show (b'.set qk o1).length = n by rw [List.length_set]; exact HBL2.out)
                clear hf hbq
                go_wp2_with fail
                go_roundw
                case rel => exact ⟨k + 1, _, by omega, by go_num, HBL3, HCN2, HOS, HBS, HRS⟩
                case measure => simp [intOf]; omega
end
end Go.Proofs.Ytppildaahmlfmaa
