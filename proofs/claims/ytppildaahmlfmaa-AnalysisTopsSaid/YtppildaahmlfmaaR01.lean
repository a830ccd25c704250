/- Joined: Tops. -/
import Derived.Test.YtppildaahmlfmaaR00
import Derived.Test.YtppildaahmlfmaaQ52
import Derived.Deep.QuietTactic
import Derived.BigQuiet
set_option linter.unusedVariables false
set_option linter.unusedSimpArgs false
/- AnalysisTops: the law's walk: it returns true. -/
set_option linter.unusedVariables false
set_option linter.unusedSimpArgs false
namespace Go.Proofs.Ytppildaahmlfmaa
open Go.RowKit
theorem mem_upsN {S : Sy} {P : Pl} {c : Int} {n : Nat} {u : Nat × Int} : u ∈ upsN S P c n ↔ ∃ i, i < n ∧ whereAt P i = c ∧ ∃ x ∈ secsOf S i, u = (x.res.toNat, max 1 (prioOf S P i)) := by
  unfold upsN
  rw [List.mem_flatMap]
  constructor
  · rintro ⟨i, hi, hu⟩
    unfold upsT at hu
    split at hu
    · rename_i hc
      obtain ⟨x, hx, rfl⟩ := List.mem_map.1 hu
      exact ⟨i, List.mem_range.1 hi, hc, x, hx, rfl⟩
    · cases hu
  · rintro ⟨i, hi, hc, x, hx, rfl⟩
    refine ⟨i, List.mem_range.2 hi, ?_⟩
    unfold upsT
    rw [if_pos hc]
    exact List.mem_map.2 ⟨x, hx, rfl⟩
/-- Is task i a whole one of a core that asks for a resource? -/
def useB (S : Sy) (P : Pl) (c r : Int) (i : Nat) : Bool := decide (whereAt P i = c) && asksB (secsOf S i) r
theorem secs_ok {S : Sy} (h : RightS S) {i : Nat} {x : Sec} (hx : x ∈ secsOf S i) : 0 ≤ x.res ∧ x.res < S.resn := by
  unfold secsOf at hx
  cases ht : S.tasks[i]? with
  | none => rw [ht] at hx; cases hx
  | some t =>
    rw [ht] at hx
    have := (h.tasks t (List.mem_of_getElem? ht)).s x hx
    exact ⟨this.r0, this.r1⟩
theorem useB_iff {S : Sy} {P : Pl} (h : RightS S) {c : Int} {r : Nat} {n i : Nat} (hi : i < n) (hu : useB S P c r i = true) : (r, max 1 (prioOf S P i)) ∈ upsN S P c n := by
  unfold useB asksB at hu
  simp only [Bool.and_eq_true, decide_eq_true_eq, List.any_eq_true] at hu
  obtain ⟨hc, x, hx, hr⟩ := hu
  exact mem_upsN.2 ⟨i, hi, hc, x, hx, by rw [hr]; rfl⟩
theorem tops_user {S : Sy} {P : Pl} (h : RightS S) {c : Int} {r : Nat} {n i : Nat} (hi : i < n) (hu : useB S P c r i = true) : topF (upsN S P c n) r ≠ 0 ∧ topF (upsN S P c n) r ≤ max 1 (prioOf S P i) :=
  (topF_le (fun u hu => by obtain ⟨j, _, _, x, _, rfl⟩ := mem_upsN.1 hu; exact Int.le_max_left ..) r).1 _ (useB_iff h hi hu) rfl
theorem tops_met {S : Sy} {P : Pl} (h : RightS S) {c : Int} {r n : Nat} : topF (upsN S P c n) r = 0 ∨ ∃ i, i < n ∧ useB S P c r i = true ∧ topF (upsN S P c n) r = max 1 (prioOf S P i) := by
  rcases (topF_le (L := upsN S P c n) (fun u hu => by obtain ⟨j, _, _, x, _, rfl⟩ := mem_upsN.1 hu; exact Int.le_max_left ..) r).2 with h0 | ⟨u, hu, he, h1⟩
  · exact .inl h0
  · obtain ⟨i, hi, hc, x, hx, rfl⟩ := mem_upsN.1 hu
    refine .inr ⟨i, hi, ?_, h1.symm⟩
    have h2 := secs_ok h hx
    have he : x.res.toNat = r := he
    unfold useB asksB
    simp only [Bool.and_eq_true, decide_eq_true_eq, List.any_eq_true]
    exact ⟨hc, x, hx, by omega⟩
/-- What the law's walk has met so far. -/
def metB (S : Sy) (P : Pl) (c r : Int) (T : Int) : Nat → Bool
  | 0 => decide (T = 0)
  | k + 1 => metB S P c r T k || (useB S P c r k && decide (T = max 1 (prioOf S P k)))
theorem metB_of {S : Sy} {P : Pl} {c r T : Int} : ∀ {n : Nat}, (T = 0 ∨ ∃ i, i < n ∧ useB S P c r i = true ∧ T = max 1 (prioOf S P i)) → metB S P c r T n = true
  | 0, h => by
    rcases h with h | ⟨i, hi, _⟩
    · exact decide_eq_true h
    · omega
  | n + 1, h => by
    unfold metB
    rcases h with h | ⟨i, hi, hu, hT⟩
    · rw [metB_of (.inl h)]; rfl
    · by_cases e : i = n
      · subst e
        rw [hu, decide_eq_true hT]; simp
      · rw [metB_of (.inr ⟨i, by omega, hu, hT⟩)]; rfl
theorem metB_skip {S : Sy} {P : Pl} {c r T : Int} {k : Nat} (h : useB S P c r k = false) : metB S P c r T (k + 1) = metB S P c r T k := by
  show (metB S P c r T k || (useB S P c r k && _)) = _
  rw [h]; simp
theorem metB_use {S : Sy} {P : Pl} {c r T : Int} {k : Nat} (h : useB S P c r k = true) : metB S P c r T (k + 1) = (metB S P c r T k || decide (T = max 1 (prioOf S P k))) := by
  show (metB S P c r T k || (useB S P c r k && _)) = _
  rw [h]; simp
/-- The ranked plan that Rank has made. -/
theorem gr_plan {w : World} {base g n : Nat} {V : Nat → Value} {S : Sy} {P : Pl} (h : GR w base g n n V (rowsC S P S.cores)) (hp : planB S P = true) (hn : n = P.length) : Rowp 1 (RowR 5 pcR) w (.slice (some ⟨g, 0, none⟩) n n) (rankL S P) := by
  have hok := planB_ok hp
  have h1 := h.plan
  subst hn
  have h2 : (List.range P.length).map (rowsC S P S.cores) = rankL S P := rankL_rows (fun x hx => by
    obtain ⟨l, hl, hk⟩ := mem_parts.1 hx
    obtain ⟨t, ht⟩ : ∃ t, S.tasks[x.task]? = some t := ⟨_, List.getElem?_eq_getElem (by have := (List.getElem?_eq_some_iff.1 hl).1; have := hok.len; omega)⟩
    have h3 := listOk_pcs hok.sys (hok.sys.tasks t (List.mem_of_getElem? ht)) (hok.lists x.task t l ht hl)
    exact decide_eq_true (h3.2 x.p (List.mem_of_getElem? hk)).c1)
  rwa [h2] at h1
theorem whereAt_row {S : Sy} {P : Pl} {i : Nat} {pl : List Pc} (h : (rankL S P)[i]? = some pl) : whereAt P i = whereOf pl := by
  have h1 : whereAt P i = ((whereL P)[i]?).getD (-1) := rfl
  rw [h1, ← whereL_rank S P]
  unfold whereL
  rw [List.getElem?_map, h]
  rfl
theorem ceilL_at {S : Sy} {P : Pl} {c : Nat} (h : c < S.cores.toNat) : (ceilL S P)[c]? = some (ceilRow S P c) := by
  unfold ceilL
  rw [List.getElem?_map, List.getElem?_range h]
  rfl
theorem ceilRow_at {S : Sy} {P : Pl} {c : Int} {r : Nat} (h : r < S.resn.toNat) : (ceilRow S P c)[r]? = some (topF (upsN S P c P.length) r) := by
  unfold ceilRow
  rw [List.getElem?_map, List.getElem?_range h]
  rfl
section
variable {w : World}
set_option maxRecDepth 100000 in
set_option maxHeartbeats 12800000 in
theorem tops_any (S : Sy) (A0 : Option Addr) (n0 c0 : Nat) (A : Option Addr) (n cap : Nat) (P : Pl) (hs : IsSys w (.slice A0 n0 c0) S) (hp : IsPlan w (.slice A n cap) P) :
    Calls Try.prog 7 #[sysV S (.slice A0 n0 c0), .slice A n cap] w fun e w' => e = .returned (.bool true) ∧ Below w.heap.size w w' := by
  have hn := hp.rows.len
  have hn0 := hs.tasks.len
  have HS := hid hs
  have HP := hid hp
  have HN := hid hn
  have HN0 := hid hn0
  have HEX := hid (fun W => examples17_any (w := W))
  have HCE := hid (fun W (h : Below w.heap.size w W) => pceil_any (w := W) S A0 n0 c0 A n cap P (hs.later h) (hp.later h))
  have HRA := hid (fun W (h : Below w.heap.size w W) => rank_any (w := W) S A0 n0 c0 A n cap P (hs.later h) (hp.later h))
  have HPR := hid (fun W (h : Below w.heap.size w W) => pright_any (w := W) S A0 n0 c0 A n cap P (hs.later h) (hp.later h))
  have hq0 := blk_new w (.cells (sysC S (.slice A0 n0 c0)) 24)
  have HSY := hid (show SyAt w (w.alloc (.cells (sysC S (.slice A0 n0 c0)) 24)) w.heap.size S (.slice A0 n0 c0) from ⟨hq0, below_new (Below.refl w.heap.size w) _⟩)
  have hnm : n ≤ 9223372036854775807 := by have := hp.rows.room; unfold maxLen at this; omega
  clear hs hp hn hn0 hq0
  unfold sysV at HCE HRA HPR ⊢
  unfold sysC at HSY
  go_enter Try.func7, Try.ntmps7
  go_upto_region 1 with fail
  obtain ⟨w1, hw1⟩ : ∃ w1, w.alloc (.cells #[.int .i64 S.cores, .int .i64 S.policy, .int .i64 S.prot, .int .i64 S.rel, .int .i64 S.sw, .int .i64 S.fin, .int .i64 S.lat, .int .i64 S.resn, .slice A0 n0 c0] 24) = w1 := ⟨_, rfl⟩
  rw [hw1] at HSY ⊢
  clear hw1
  go_wp2_with fail
  refine (HEX.out w1).mono ?_
  rintro e w2 ⟨rfl, hb2⟩
  have HSY2 := hid (HSY.out.later hb2)
  clear hb2 HSY HEX
  obtain ⟨s00, s01, s02, s03, s04, s05, s06, s07, s08⟩ := HSY2.out.cells
  go_wp2_with fail
  refine (HCE.out w2 HSY2.out.below).mono ?_
  intro e w3 hor
  rcases hor with ⟨hpb, rfl, hb3⟩ | ⟨hpb, uc, X, rfl, hct, hb3⟩
  · have HPB := hid hpb
    have HSY3 := hid (HSY2.out.later hb3)
    clear hb3 HSY2 hpb s00 s01 s02 s03 s04 s05 s06 s07 s08
    obtain ⟨s00, s01, s02, s03, s04, s05, s06, s07, s08⟩ := HSY3.out.cells
    go_wp2_with fail
    refine (HRA.out w3 HSY3.out.below).mono ?_
    intro e w4 hor
    rcases hor with ⟨hpb, rfl, hb4⟩ | ⟨hpb, _⟩
    · have HSY4 := hid (HSY3.out.later hb4)
      clear hb4 HSY3 hpb s00 s01 s02 s03 s04 s05 s06 s07 s08
      obtain ⟨s00, s01, s02, s03, s04, s05, s06, s07, s08⟩ := HSY4.out.cells
      have HPR2 := hid (HPR.out w4 HSY4.out.below)
      rw [HPB.out] at HPR2
      go_wp2_with fail
      refine HPR2.out.mono ?_
      rintro e w5 ⟨rfl, hb5⟩
      have HB5 := hid (below_then HSY4.out.below hb5)
      clear hb5 HPR2 s00 s01 s02 s03 s04 s05 s06 s07 s08
      go_wp2_with fail
      go_ret
      exact ⟨rfl, HB5.out⟩
    · rw [HPB.out] at hpb
      cases hpb
  · have HPB := hid hpb
    have HSY3 := hid (HSY2.out.later hb3)
    obtain ⟨Ac, cc, rfl⟩ := own_slice hct.out
    have HCT := hid hct
    clear hb3 HSY2 hpb hct s00 s01 s02 s03 s04 s05 s06 s07 s08
    obtain ⟨s00, s01, s02, s03, s04, s05, s06, s07, s08⟩ := HSY3.out.cells
    go_wp2_with fail
    refine (HRA.out w3 HSY3.out.below).mono ?_
    intro e w4 hor
    rcases hor with ⟨hpb, rfl, hb4⟩ | ⟨hpb, g, V, rfl, hgr, hb4⟩
    · rw [HPB.out] at hpb
      cases hpb
    · have HSY4 := hid (HSY3.out.later hb4)
      have hok := planB_ok hpb
      have HOK := hid hok
      have hnn : n = n0 := by have := hok.len; have := HN.out; have := HN0.out; omega
      subst hnn
      obtain ⟨nc, hnc⟩ : ∃ nc : Nat, S.cores = nc := ⟨S.cores.toNat, by have := hok.sys.cores; omega⟩
      obtain ⟨nr, hnr⟩ : ∃ nr : Nat, S.resn = nr := ⟨S.resn.toNat, by have := hok.sys.resn; omega⟩
      have hnc8 : nc ≤ 8 := by have := hok.sys.cores; omega
      have hnr8 : nr ≤ 1000000 := by have := hok.sys.resn; omega
      have hnct : S.cores.toNat = nc := by omega
      have HNC := hid hnc
      have HNR := hid hnr
      have hce : Rowp 1 (RowR 1 IntR) w4 (.slice Ac nc cc) (ceilL S P) := by
        have h1 := ((HCT.out.later hb4).plan (by unfold maxLen; omega))
        rw [hnct] at h1
        have h2 : ceilL S P = ((List.range nc).map fun i : Nat => (List.range S.resn.toNat).map (topF (upsN S P (i : Int) P.length))) := by unfold ceilL; rw [hnct]; rfl
        rw [h2]
        exact h1
      have hra := gr_plan hgr hpb HN.out
      have HCE2 := hid hce
      have HRA2 := hid hra
      rw [hnct]
      clear hb4 HSY3 hpb hgr hok s00 s01 s02 s03 s04 s05 s06 s07 s08 hce hra HCT HCE HRA HPR hnct
      have HC := hid HSY4.out.cells
      rw [hnc, hnr] at HC
      clear hnc hnr
      obtain ⟨s00, s01, s02, s03, s04, s05, s06, s07, s08⟩ := HC.out
      clear HC
      go_wp2_with fail
      clear s00 s01 s02 s03 s04 s05 s06 s07 s08
      try simp only [Bool.or_false, Bool.or_self]
      go_loopw [10] (fun i wr => ∃ c : Nat, c ≤ nc ∧ i = .int .i64 c ∧ Below w4.heap.size w4 wr) (fun i _ => nc - (intOf i).toNat)
      case atStart => exact ⟨0, by omega, rfl, Below.refl _ _⟩
      case round =>
        obtain ⟨c, hc, rfl, hb⟩ := hrel
        have HB := hid hb
        have HSYr := hid (HSY4.out.later hb)
        have y0 : wr.cell? ⟨w.heap.size, 0, none⟩ = some (.int .i64 nc) := by rw [← HNC.out]; exact HSYr.out.cells.1
        have y7 : wr.cell? ⟨w.heap.size, 7, none⟩ = some (.int .i64 nr) := by rw [← HNR.out]; exact HSYr.out.cells.2.2.2.2.2.2.2.1
        clear hb
        by_cases hlt : c < nc
        case neg =>
          go_wp2_with fail
          go_ret
          exact ⟨rfl, HSYr.out.below⟩
        case pos =>
          have hrow := ceilL_at (S := S) (P := P) (c := c) (by have := HNC.out; omega)
          obtain ⟨b2, o2, cs2, hA2, hbl2, _, hc2, ul, hv1, hv2⟩ := HCE2.out.at hrow
          subst hA2
          subst hv1
          obtain ⟨A3, c3, hv3, _⟩ := hv2.shape
          rw [show (ceilRow S P c).length = nr by unfold ceilRow; rw [List.length_map, List.length_range]; have := HNR.out; omega] at hv3
          subst hv3
          have HV2 := hid hv2
          have HCQ := hid (fun W (k : Below w4.heap.size w4 W) => show W.cell? ⟨b2, o2 + c, none⟩ = some (.slice A3 nr c3) from (k.cell (p := ⟨b2, o2 + c, none⟩) hbl2).trans (by simpa using hc2 0 _ rfl))
          have q0 := HCQ.out wr HB.out
          clear hrow hc2 hv2 hbl2
          go_upto_region 11 with fail
          go_quiet (fail)
          have HBq := hid ((Fr.of_below (S := NoB) HB.out).drewN nq).no
          obtain ⟨wq, hwq⟩ : ∃ wq, wr.drewN nq = wq := ⟨_, rfl⟩
          rw [hwq] at HBq ⊢
          clear hwq y0 y7 q0 HB HSYr
          go_wp2_with fail
          go_loopw [11] (fun i wr => ∃ r : Nat, r ≤ nr ∧ i = .int .i64 r ∧ Below w4.heap.size w4 wr) (fun i _ => nr - (intOf i).toNat)
          case atStart => exact ⟨0, by omega, rfl, HBq.out⟩
          case round =>
            obtain ⟨r, hr, rfl, hb⟩ := hrel
            have HB := hid hb
            have HSYr := hid (HSY4.out.later hb)
            have y7 : wr.cell? ⟨w.heap.size, 7, none⟩ = some (.int .i64 nr) := by rw [← HNR.out]; exact HSYr.out.cells.2.2.2.2.2.2.2.1
            clear hb
            by_cases hltr : r < nr
            case neg =>
              go_wp2_with fail
              go_roundw
              case rel => exact ⟨c + 1, by omega, by go_num, HB.out⟩
              case measure => simp [intOf]; omega
            case pos =>
              have hT := ceilRow_at (S := S) (P := P) (c := c) (r := r) (by have := HNR.out; omega)
              obtain ⟨b3, o3, cs3, hA3, hbl3, _, hc3, hr3⟩ := HV2.out.at hT
              subst hA3
              obtain ⟨T, hTT⟩ : ∃ T, topF (upsN S P c P.length) r = T := ⟨_, rfl⟩
              rw [hTT] at hr3
              have hr3' : cs3 = [.int .i64 T] := hr3
              subst hr3'
              have HTT := hid hTT
              have HTQ := hid (fun W (k : Below w4.heap.size w4 W) => show W.cell? ⟨b3, o3 + r, none⟩ = some (.int .i64 T) from (k.cell (p := ⟨b3, o3 + r, none⟩) hbl3).trans (by simpa using hc3 0 _ rfl))
              have q0 := HCQ.out wr HB.out
              have q1 := HTQ.out wr HB.out
              have hdT : (T == 0) = decide (T = 0) := rfl
              clear hT hc3 hr3 hbl3 hTT
              go_upto_region 17 with fail
              clear y7 q0 q1 hdT
              go_wp2_with fail
              go_loopw [12, 13] (fun v i wr => ∃ k : Nat, k ≤ n ∧ i = .int .i64 k ∧ v = .bool (metB S P c r T k) ∧ Below w4.heap.size w4 wr) (fun _ i _ => n - (intOf i).toNat)
              case atStart => exact ⟨0, by omega, rfl, rfl, HB.out⟩
              case round =>
                obtain ⟨k, hk, rfl, rfl, hb⟩ := hrel
                have HB := hid hb
                have HSYr := hid (HSY4.out.later hb)
                clear hb
                by_cases hltk : k < n
                case neg =>
                  obtain rfl : k = n := by omega
                  have hmet : metB S P c r T k = true := metB_of (by have h := tops_met (S := S) (P := P) HOK.out.sys (c := (c : Int)) (r := r) (n := P.length); rw [HTT.out, ← HN.out] at h; exact h)
                  rw [hmet]
                  clear hmet
                  go_wp2_with fail
                  go_roundw
                  case rel => exact ⟨r + 1, by omega, by go_num, HB.out⟩
                  case measure => simp [intOf]; omega
                case pos =>
                  obtain ⟨mb, hmb⟩ : ∃ b, metB S P c r T k = b := ⟨_, rfl⟩
                  have HMB := hid hmb
                  rw [hmb]
                  obtain ⟨pl, hpl⟩ : ∃ pl, (rankL S P)[k]? = some pl := ⟨_, List.getElem?_eq_getElem (by unfold rankL; rw [List.length_mapIdx]; have := HN.out; omega)⟩
                  obtain ⟨b4, o4, cs4, hA4, hbl4, _, hc4, ul, hv1, hv4⟩ := HRA2.out.at hpl
                  injection hA4 with hA4
                  injection hA4 with hA5 hA6 _
                  subst hA5 hA6
                  subst hv1
                  obtain ⟨A5, c5, hv3, _⟩ := hv4.shape
                  obtain ⟨m5, hm5⟩ : ∃ m, m = pl.length := ⟨_, rfl⟩
                  rw [← hm5] at hv3
                  subst hv3
                  have HM5 := hid hm5
                  have HWA := hid (whereAt_row hpl)
                  have HPL := hid hpl
                  have HV4 := hid hv4
                  have HG0 := hid (fun W (z : Below w4.heap.size w4 W) => show W.cell? ⟨g, k, none⟩ = some (.slice A5 m5 c5) from (z.cell (p := ⟨g, k, none⟩) hbl4).trans (by simpa using hc4 0 _ rfl))
                  have g0 := HG0.out wr HB.out
                  clear hmb hpl hc4 hbl4 hv4 hm5
                  by_cases h1 : m5 = 1
                  case neg =>
                    have hb1 : ((m5 : Int) == 1) = false := beq_eq_false_iff_ne.2 (by omega)
                    have HU := hid (show metB S P c r T (k + 1) = mb by rw [metB_skip (by unfold useB; rw [HWA.out, whereOf_no (by rw [← HM5.out]; exact h1), decide_eq_false (by omega)]; rfl), HMB.out])
                    clear h1
                    go_wp2_with fail
                    go_roundw
                    case rel => exact ⟨k + 1, by omega, by go_num, by rw [HU.out], HB.out⟩
                    case measure => simp [intOf]; omega
                  case pos =>
                    have hb1 : ((m5 : Int) == 1) = true := by rw [h1]; rfl
                    have h0 : 0 < m5 := by omega
                    obtain ⟨p, hp0⟩ : ∃ p, pl[0]? = some p := ⟨_, List.getElem?_eq_getElem (by have := HM5.out; omega)⟩
                    obtain ⟨b6, o6, cs6, hA7, hbl6, _, hc6, hr6⟩ := HV4.out.at hp0
                    subst hA7
                    have hr6' : cs6 = [.int .i64 p.core, .int .i64 p.bud, .int .i64 p.dl, .int .i64 p.prio, .bool p.tight] := hr6
                    subst hr6'
                    have HWH := hid (whereOf_one (by rw [← HM5.out]; exact h1) hp0)
                    have HPI := hid (show prioOf S P k = p.prio by unfold prioOf; rw [HPL.out]; show ((pl.head?).map Pc.prio).getD 0 = _; rw [List.head?_eq_getElem?, hp0]; rfl)
                    obtain ⟨pc, pb, pd, pp, ti⟩ := p
                    simp only at hc6 HWH HPI
                    have f0 : wr.cell? ⟨b6, o6, none⟩ = some (.int .i64 pc) := (HB.out.cell (p := ⟨b6, o6, none⟩) hbl6).trans (by simpa using hc6 0 _ rfl)
                    have HF3 := hid (fun W (z : Below w4.heap.size w4 W) => show W.cell? ⟨b6, o6 + 3, none⟩ = some (.int .i64 pp) from (z.cell (p := ⟨b6, o6 + 3, none⟩) hbl6).trans (by simpa using hc6 3 _ rfl))
                    have f4 : wr.cell? ⟨b6, o6 + 4, none⟩ = some (.bool ti) := (HB.out.cell (p := ⟨b6, o6 + 4, none⟩) hbl6).trans (by simpa using hc6 4 _ rfl)
                    clear hp0 hbl6 hc6 hr6 h1
                    cases ti
                    case true =>
                      have HU := hid (show metB S P c r T (k + 1) = mb by rw [metB_skip (by unfold useB; rw [HWA.out, HWH.out, if_pos rfl, decide_eq_false (by omega)]; rfl), HMB.out])
                      go_wp2_with fail
                      go_roundw
                      case rel => exact ⟨k + 1, by omega, by go_num, by rw [HU.out], HB.out⟩
                      case measure => simp [intOf]; omega
                    case false =>
                      have HWC := hid (show whereAt P k = pc by rw [HWA.out, HWH.out]; rfl)
                      by_cases hcc : pc = c
                      case neg =>
                        have hbe : (pc == (c : Int)) = false := beq_eq_false_iff_ne.2 hcc
                        have HU := hid (show metB S P c r T (k + 1) = mb by rw [metB_skip (by unfold useB; rw [HWC.out, decide_eq_false hcc]; rfl), HMB.out])
                        clear hcc
                        go_wp2_with fail
                        go_roundw
                        case rel => exact ⟨k + 1, by omega, by go_num, by rw [HU.out], HB.out⟩
                        case measure => simp [intOf]; omega
                      case pos =>
                        have hbe : (pc == (c : Int)) = true := by rw [hcc]; exact beq_self_eq_true _
                        obtain ⟨t, ht⟩ : ∃ t, S.tasks[k]? = some t := ⟨_, List.getElem?_eq_getElem (by have := HN0.out; omega)⟩
                        obtain ⟨b7, o7, cs7, hA8, hbl7, _, hc7, us, hu1, hu2⟩ := HS.out.tasks.at ht
                        subst hA8
                        subst hu1
                        obtain ⟨A8, c8, hu3, _⟩ := hu2.shape
                        obtain ⟨m8, hm8⟩ : ∃ m, m = t.secs.length := ⟨_, rfl⟩
                        rw [← hm8] at hu3
                        subst hu3
                        have y8 : wr.cell? ⟨w.heap.size, 8, none⟩ = some (.slice (some ⟨b7, o7, none⟩) n c0) := HSYr.out.cells.2.2.2.2.2.2.2.2
                        have t0 : wr.cell? ⟨b7, o7 + k * 4, none⟩ = some (.int .i64 t.per) := (HSYr.out.below.cell (p := ⟨b7, o7 + k * 4, none⟩) hbl7).trans (by simpa using hc7 0 _ rfl)
                        have t1 : wr.cell? ⟨b7, o7 + k * 4 + 1, none⟩ = some (.int .i64 t.dl) := (HSYr.out.below.cell (p := ⟨b7, o7 + k * 4 + 1, none⟩) hbl7).trans (hc7 1 _ rfl)
                        have t2 : wr.cell? ⟨b7, o7 + k * 4 + 2, none⟩ = some (.int .i64 t.wc) := (HSYr.out.below.cell (p := ⟨b7, o7 + k * 4 + 2, none⟩) hbl7).trans (hc7 2 _ rfl)
                        have t3 : wr.cell? ⟨b7, o7 + k * 4 + 3, none⟩ = some (.slice A8 m8 c8) := (HSYr.out.below.cell (p := ⟨b7, o7 + k * 4 + 3, none⟩) hbl7).trans (hc7 3 _ rfl)
                        have HAS := hid (asks_any (w := wr) t.per t.dl t.wc A8 m8 c8 t.secs r (hu2.later secR.stays HSYr.out.below))
                        obtain ⟨ub, hub⟩ : ∃ b, asksB t.secs r = b := ⟨_, rfl⟩
                        rw [hub] at HAS
                        have HUB := hid (show useB S P c r k = ub by unfold useB secsOf; rw [HWC.out, hcc, ht, decide_eq_true rfl]; exact hub)
                        clear hcc ht hu2 hc7 hbl7 hm8 hub
                        go_wp2_with fail
                        refine HAS.out.mono ?_
                        rintro e w5 ⟨rfl, hb5⟩
                        have HB5 := hid (below_then HB.out hb5)
                        clear hb5 HAS t0 t1 t2 t3 y8
                        cases ub
                        case false =>
                          have HU := hid (show metB S P c r T (k + 1) = mb by rw [metB_skip HUB.out, HMB.out])
                          clear f0 f4 g0
                          go_wp2_with fail
                          go_roundw
                          case rel => exact ⟨k + 1, by omega, by go_num, by rw [HU.out], HB5.out⟩
                          case measure => simp [intOf]; omega
                        case true =>
                          have HTU := hid (tops_user (S := S) (P := P) HOK.out.sys (c := (c : Int)) (r := r) (n := P.length) (i := k) (by have := HN.out; omega) HUB.out)
                          have HU := hid (metB_use (T := T) HUB.out)
                          rw [HMB.out, HPI.out] at HU
                          rw [HTT.out, HPI.out] at HTU
                          obtain ⟨mp, hmp⟩ : ∃ m, max 1 pp = m := ⟨_, rfl⟩
                          rw [hmp] at HU HTU
                          have hT0 : (T == 0) = false := beq_eq_false_iff_ne.2 HTU.out.1
                          have hTp : decide (mp < T) = false := decide_eq_false (by have := HTU.out.2; omega)
                          clear f0 f4 g0
                          have g0 := HG0.out w5 HB5.out
                          have f3 := HF3.out w5 HB5.out
                          have q0 := HCQ.out w5 HB5.out
                          have q1 := HTQ.out w5 HB5.out
                          cases mb
                          case true =>
                            have HU2 := hid (show metB S P c r T (k + 1) = true by rw [HU.out]; rfl)
                            go_wp2_with fail
                            go_roundw
                            case rel => exact ⟨k + 1, by omega, by go_num, by rw [HU2.out], HB5.out⟩
                            case measure => simp [intOf]; omega
                          case false =>
                            obtain ⟨eb, heb⟩ : ∃ b, decide (T = mp) = b := ⟨_, rfl⟩
                            have hbe2 : (T == mp) = eb := heb
                            have HU2 := hid (show metB S P c r T (k + 1) = eb by rw [HU.out, heb]; rfl)
                            clear heb
                            go_wp2_with fail
                            go_roundw
                            case rel => exact ⟨k + 1, by omega, by go_num, by rw [HU2.out], HB5.out⟩
                            case measure => simp [intOf]; omega
end
end Go.Proofs.Ytppildaahmlfmaa
