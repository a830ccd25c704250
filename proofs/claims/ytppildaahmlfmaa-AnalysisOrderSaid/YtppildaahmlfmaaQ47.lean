/- Joined: Ana6. -/
import Derived.Test.YtppildaahmlfmaaQ46
set_option linter.unusedVariables false
set_option linter.unusedSimpArgs false
/- analysis: the bound of a task whose last piece this is (contract). -/
set_option linter.unusedVariables false
set_option linter.unusedSimpArgs false
namespace Go.Proofs.Ytppildaahmlfmaa
open Go.RowKit
attribute [local irreducible] wpQuiet
theorem boundS_range (W : Int → Int) (limit : Int) (hl : limit ≤ 1099511627776) : ∀ (k : Nat) {n m : Int}, 1 ≤ n ∧ n ≤ 1099511627776 → boundS W limit k n = (m, 0) → 1 ≤ m ∧ m ≤ 1099511627776
  | 0, n, m, _, h => by cases h
  | k + 1, n, m, hn, h => by
    unfold boundS at h
    by_cases h1 : 4611686018427387904 < W n
    · rw [if_pos h1] at h; cases h
    · rw [if_neg h1] at h
      by_cases h2 : W n ≤ n
      · rw [if_pos h2] at h
        injection h with h _
        omega
      · rw [if_neg h2] at h
        by_cases h3 : limit < W n
        · rw [if_pos h3] at h; cases h
        · rw [if_neg h3] at h
          exact boundS_range W limit hl k ⟨by omega, by omega⟩ h
theorem boundV_range {own block rel : Int} {above all : List Ld} {limit m : Int} (h : boundV own block rel above all limit = (m, 0)) : 1 ≤ m ∧ m ≤ 1099511627776 := by
  unfold boundV at h
  split at h
  · rename_i hc
    exact boundS_range _ _ hc.2.2 _ (by omega) h
  · cases h
theorem passL_rank (S S' : Sy) (L : List Pt) (i : Nat) (l : List Pc) (k : Nat) : passL S ((rankRow S' L i l).take k) = passL S (l.take k) := by
  unfold rankRow
  rw [← List.map_take]
  generalize l.take k = z
  induction z with
  | nil => rfl
  | cons p z ih => simp only [List.map_cons, passL, ih]; rfl
section
variable {w : World}
set_option maxRecDepth 100000 in
set_option maxHeartbeats 12800000 in
theorem bnd_any (R : Nat) (S : Sy) (P : Pl) (A0 : Option Addr) (n c0 : Nat) (Aq : Option Addr) (cq : Nat) (Aw : Option Addr) (cw : Nat) (Ac : Option Addr) (nc cc : Nat) (h : RkAt w R S P A0 n c0 Aq cq Aw cw Ac nc cc) (hr : rightS S = true) (hww : ∀ x ∈ whereL P, I64 x)
    (x : Pt) (hx : PtFit S n x) (c : Nat) (hxc : x.p.core = c) (hc8 : (c : Int) < S.cores) (l : List Pt) (Al : Option Addr) (m cl : Nat) (hl : Rowp 7 ptR w (.slice Al m cl) l) (hlf : ∀ y ∈ l, PtFit S n y) (hm : m ≤ 200)
    (pl : List Pc) (hpl : P[x.task]? = some pl) (hxk : x.k ≤ pl.length) (hpb : ∀ p ∈ pl, 0 ≤ p.bud ∧ p.bud ≤ 1099511627776) :
    Calls Try.prog 27 #[.pointer (some ⟨R, 0, none⟩), ptV x, .slice Al m cl] w fun e w' => e = .returned (numE (oneV S P l x)) ∧ Below w.heap.size w w' := by
  have hn := h.sys.tasks.len
  have hRS := rightS_ok hr
  have hlat := hRS.lat
  have HFX1 := hid (fun V (k : Below w.heap.size w V) => fixed_any (w := V) R S P A0 n c0 Aq cq Aw cw Ac nc cc (h.later k) hr hww x hx c hxc hc8 l Al m cl (hl.later ptR.stays k) hlf hm)
  have HLA := hid (fun V (k : Below w.heap.size w V) => late_any (w := V) S (.slice A0 n c0) hlat.1 hlat.2)
  obtain ⟨t, ht⟩ : ∃ t, S.tasks[x.task]? = some t := ⟨_, List.getElem?_eq_getElem (by have := hx.t; omega)⟩
  have hto := hRS.tasks t (List.mem_of_getElem? ht)
  have HV := hid (show oneV S P l x = if S.policy = 2 then (t.dl, 0) else if (fixedV S P l x).2 ≠ 0 then (0, (fixedV S P l x).2) else ((fixedV S P l x).1 + passL S (pl.take x.k), 0) by
    unfold oneV passV
    rw [tskAt_eq ht, hpl]
    rfl)
  have HRG := hid (fun m (h : fixedV S P l x = (m, 0)) => boundV_range (show boundV _ _ _ _ _ _ = (m, 0) from h))
  obtain ⟨V, hVV⟩ : ∃ V, oneV S P l x = V := ⟨_, rfl⟩
  rw [hVV] at HV ⊢
  obtain ⟨⟨f1, f2⟩, hf⟩ : ∃ y, fixedV S P l x = y := ⟨_, rfl⟩
  rw [hf] at HFX1 HV HRG
  unfold numE at HFX1
  simp only at HV HFX1
  obtain ⟨b1, o1, cs1, hA1, hbl1, _, hcs1, us1, hu1, hu2⟩ := h.sys.tasks.at ht
  subst hA1
  subst hu1
  have HFT0 := hid (fun V (k : Below w.heap.size w V) => show V.cell? ⟨b1, o1 + x.task * 4 + 1, none⟩ = some (.int .i64 t.dl) from (k.cell (p := ⟨b1, o1 + x.task * 4 + 1, none⟩) hbl1).trans (hcs1 1 _ rfl))
  have hrk : (rankL S P)[x.task]? = some (rankRow S (partsOf P) x.task pl) := by unfold rankL; rw [List.getElem?_mapIdx, hpl]; rfl
  obtain ⟨b5, o5, cs5, hA5, hbl5, _, hcs5, u5, hu5, hu6⟩ := h.plan.rows.at hrk
  subst hA5
  subst hu5
  obtain ⟨A6, c6, hu7, hu8, hu9⟩ := hu6.shape
  have hrl : (rankRow S (partsOf P) x.task pl).length = pl.length := by unfold rankRow; simp
  obtain ⟨q, hq⟩ : ∃ q, pl.length = q := ⟨_, rfl⟩
  rw [hrl, hq] at hu7
  subst hu7
  rw [hrl, hq] at hu8
  have HFQ0 := hid (fun V (k : Below w.heap.size w V) => show V.cell? ⟨b5, o5 + x.task, none⟩ = some (.slice A6 q c6) from (k.cell (p := ⟨b5, o5 + x.task, none⟩) hbl5).trans (by simpa using hcs5 0 _ rfl))
  have HROW := hid (fun V (k : Below w.heap.size w V) j p (hp : pl[j]? = some p) => (hu6.later pcR.stays k).at (i := j) (x := rankOne S (partsOf P) x.task p) (by unfold rankRow; rw [List.getElem?_map, hp]; rfl))
  have HFR0 := hid (fun V (k : Below w.heap.size w V) => (h.later k).cells)
  have HQ := hid hq
  have HPB := hid hpb
  have hxt := hx.t
  have hxk8 := hx.k
  have hcb : q ≤ 9223372036854775807 := by unfold maxLen at hu9; omega
  have hq0 := blk_new w (.cells (encPt x).toArray 67)
  have HQ0 := hid hq0
  have HB0 := hid (below_new (Below.refl w.heap.size w) (.cells (encPt x).toArray 67))
  have s0 := blk_cell hq0 0
  have s1 := blk_cell hq0 1
  have s2 := blk_cell hq0 2
  have s3 := blk_cell hq0 3
  have s4 := blk_cell hq0 4
  have s5 := blk_cell hq0 5
  have s6 := blk_cell hq0 6
  obtain ⟨⟨pc, pb, pd, pp, ti⟩, tk, kk⟩ := x
  simp only at HV hxk hxt hxk8 HFT0 HFQ0 HFX1 HROW
  have htn : (tk : Int) < n := by omega
  have hkq : kk ≤ q := by omega
  have hkc : kk ≤ c6 := by omega
  have hdl : 1 ≤ t.dl ∧ t.dl ≤ 1099511627776 := ⟨hto.d0, by have := hto.d1; have := hto.p1; omega⟩
  obtain ⟨la, hla⟩ : ∃ y, S.lat - 1 = y := ⟨_, rfl⟩
  rw [hla] at HLA
  have hla2 : 0 ≤ la ∧ la ≤ 49 := by omega
  have HLQ := hid hla
  have HL0 := hid (show passL S (pl.take 0) = 0 from rfl)
  have HPS := hid (fun j p (hp : pl[j]? = some p) => show passL S (pl.take (j + 1)) = passL S (pl.take j) + (p.bud + la) by rw [take_next hp, passL_snoc, hla])
  have hCKK : ∀ j, (pl.take j).length ≤ j := fun j => by rw [List.length_take]; omega
  have HPN := hid (show ∀ j, j ≤ 8 → 0 ≤ passL S (pl.take j) ∧ passL S (pl.take j) ≤ 9000000000000 from fun j hj => by
    have key : ∀ z : List Pc, (∀ p ∈ z, 0 ≤ p.bud ∧ p.bud ≤ 1099511627776) → 0 ≤ passL S z ∧ passL S z ≤ z.length * 1099511627825 := fun z hz => by
      induction z with
      | nil => simp [passL]
      | cons p z ih =>
        have h1 := ih (fun y hy => hz y (by simp [hy]))
        have h2 := hz p (by simp)
        simp only [passL, List.length_cons]
        omega
    have h1 := key (pl.take j) (fun p hp => hpb p (List.mem_of_mem_take hp))
    have h2 := hCKK j
    omega)
  clear h hr hww hx hc8 hl hlf hn hRS ht hVV hf hpl hrk hu6 hrl hq hcs5 hbl5 hu2 hcs1 hbl1 hto hpb hxc hq0 hla hCKK hxk hlat hu8 hu9
  unfold ptV at HFX1 ⊢
  unfold sysV at HLA
  unfold encPt at HB0 HQ0 s0 s1 s2 s3 s4 s5 s6
  simp only at HFX1 HB0 HQ0 s0 s1 s2 s3 s4 s5 s6 ⊢
  have r01 := (HFR0.out _ HB0.out).2.1
  have r01' : (w.alloc (.cells #[.int .i64 pc, .int .i64 pb, .int .i64 pd, .int .i64 pp, .bool ti, .int .i64 tk, .int .i64 kk] 67)).cell? ⟨R, 1, none⟩ = some (.int .i64 S.policy) := r01
  go_enter Try.func27, Try.ntmps27
  go_upto_region 1 with fail
  obtain ⟨D, hD⟩ : ∃ D, w.heap.size = D := ⟨_, rfl⟩
  rw [hD] at HQ0 s0 s1 s2 s3 s4 s5 s6 ⊢
  obtain ⟨w0, hw0⟩ : ∃ w0, w.alloc (.cells #[.int .i64 pc, .int .i64 pb, .int .i64 pd, .int .i64 pp, .bool ti, .int .i64 tk, .int .i64 kk] 67) = w0 := ⟨_, rfl⟩
  have hw0' : w.alloc (.cells ([.int .i64 pc, .int .i64 pb, .int .i64 pd, .int .i64 pp, .bool ti, .int .i64 tk, .int .i64 kk] : List Value).toArray 67) = w0 := hw0
  rw [hw0] at r01'
  try rw [hw0'] at HB0
  try rw [hw0] at HB0
  try rw [hw0'] at HQ0
  try rw [hw0] at HQ0
  rw [hw0] at s0 s1 s2 s3 s4 s5 s6 ⊢
  have HBB := hid (fun V (k : Below w0.heap.size w0 V) => below_then HB0.out k)
  obtain ⟨C, hC⟩ : ∃ C : World → Prop, C = fun X => Below w0.heap.size w0 X := ⟨_, rfl⟩
  have HCI := hid (fun X (k : C X) => show Below w0.heap.size w0 X by rw [hC] at k; exact k)
  have HCJ := hid (fun X (k : Below w0.heap.size w0 X) => show C X by rw [hC]; exact k)
  have HCW := hid (fun X (k : C X) => HBB.out X (HCI.out X k))
  have HCD := hid (fun X (k : C X) => show C X.drew from HCJ.out _ (HCI.out X k).drew)
  have HFR := hid (fun X (k : C X) => HFR0.out X (HCW.out X k))
  have HFT := hid (fun X (k : C X) => HFT0.out X (HCW.out X k))
  have HFQ := hid (fun X (k : C X) => HFQ0.out X (HCW.out X k))
  have HFX := hid (fun X (k : C X) => part_cells (x := ⟨⟨pc, pb, pd, pp, ti⟩, tk, kk⟩) ((fr0 (HCI.out X k)).blk HQ0.out (fun h => h)))
  simp only at HFX
  clear hC hw0 hw0' hD r01
  by_cases hpol : S.policy = 2
  case pos =>
    have hpb : (S.policy == 2) = true := beq_iff_eq.2 hpol
    have HV2 := hid (show V = (t.dl, 0) by rw [HV.out, if_pos hpol])
    have hC0 := HCD.out w0 (HCJ.out _ (Below.refl _ _))
    clear hpol
    go_upto_region 2 with fail
    clear r01' s0 s1 s2 s3 s4 s5 s6
    refine wp_region_class (C := C) (by kernel_rfl) (by kernel_rfl) hC0 ?_
    repeat (refine wpQuiet_step (fun K hK => ?_); rw [if_pos (by rfl)]; refine Exists.intro ?_ (And.intro (fun X HX => ?_) (hK _ ?_)); rotate_left; (focus (first | (obtain ⟨x0, x1, x2, x3, x4, x5, x6⟩ := HFX.out X HX; have r08 := (HFR.out X HX).2.2.2.2.2.2.2.2.1; have yt := HFT.out X HX; (go_simp); all_goals (with_reducible rfl)))); clear hK K; try simp only [Act.put, List.setIfInBounds_toArray, List.set_cons_zero, List.set_cons_succ])
    refine wpQuiet_nil ?_
    intro wd hwd
    have HBD := hid (HCW.out wd hwd)
    clear hwd
    go_wp2_with fail
    go_ret2
    exact ⟨by rw [HV2.out]; rfl, HBD.out⟩
  case neg =>
    have hpb : (S.policy == 2) = false := beq_eq_false_iff_ne.2 hpol
    have HV2 := hid (show V = if f2 ≠ 0 then (0, f2) else (f1 + passL S (pl.take kk), 0) by rw [HV.out, if_neg hpol])
    have HF1 := hid (HFX1.out w0 HB0.out)
    clear hpol
    go_wp2_with fail
    refine HF1.out.mono ?_
    rintro e w1 ⟨rfl, hb1⟩
    have HC1 := hid (HCJ.out _ hb1)
    clear hb1 r01' s0 s1 s2 s3 s4 s5 s6 HF1 HFX1
    by_cases hf2 : f2 = 0
    case neg =>
      have HV3 := hid (show V = (0, f2) by rw [HV2.out, if_pos hf2])
      have HBE := hid (HCW.out _ HC1.out)
      go_wp2_with fail
      go_ret2
      exact ⟨by rw [HV3.out]; rfl, HBE.out⟩
    case pos =>
      subst hf2
      have HV3 := hid (show V = (f1 + passL S (pl.take kk), 0) by rw [HV2.out, if_neg (by simp)])
      have hf1 := HRG.out f1 rfl
      have hC0 := HCD.out w1 HC1.out
      go_upto_region 6 with fail
      refine wp_region_class (C := C) (by kernel_rfl) (by kernel_rfl) hC0 ?_
      repeat (refine wpQuiet_step (fun K hK => ?_); rw [if_pos (by rfl)]; refine Exists.intro ?_ (And.intro (fun X HX => ?_) (hK _ ?_)); rotate_left; (focus (first | (obtain ⟨x0, x1, x2, x3, x4, x5, x6⟩ := HFX.out X HX; have r09 := (HFR.out X HX).2.2.2.2.2.2.2.2.2.1; have yq := HFQ.out X HX; (go_simp); all_goals (with_reducible rfl)) | (obtain ⟨x0, x1, x2, x3, x4, x5, x6⟩ := HFX.out X HX; have r09 := (HFR.out X HX).2.2.2.2.2.2.2.2.2.1; have yq := HFQ.out X HX; (go_simp; rw [if_pos hkc]; exact ⟨rfl, rfl⟩)))); clear hK K; try simp only [Act.put, List.setIfInBounds_toArray, List.set_cons_zero, List.set_cons_succ])
      refine wpQuiet_nil ?_
      intro wd hwd
      have HCd := hid hwd
      clear hwd
      go_wp2_with fail
      go_loopw [50, 8] (fun v s8 wr => ∃ j : Nat, j ≤ kk ∧ v = .int .i64 j ∧ s8 = .int .i64 (f1 + passL S (pl.take j)) ∧ Hid (C wr)) (fun v _ _ => kk - (intOf v).toNat)
      case atStart => exact ⟨0, by omega, rfl, int_eq (by rw [HL0.out]; omega), HCd⟩
      case round =>
        obtain ⟨j, hj, rfl, rfl, HCr⟩ := hrel
        by_cases hlt : j < kk
        case neg =>
          obtain rfl : j = kk := by omega
          have HBE := hid (HCW.out _ HCr.out)
          go_wp2_with fail
          go_ret2
          exact ⟨by rw [HV3.out]; rfl, HBE.out⟩
        case pos =>
          obtain ⟨p, hp⟩ : ∃ p, pl[j]? = some p := ⟨_, List.getElem?_eq_getElem (by have := HQ.out; omega)⟩
          obtain ⟨b6, o6, cs6, hA6, hbl6, _, hcs6, hr6⟩ := HROW.out wr (HCW.out wr HCr.out) j p hp
          subst hA6
          have hr6' : cs6 = [.int .i64 (rankOne S (partsOf P) tk p).core, .int .i64 p.bud, .int .i64 (rankOne S (partsOf P) tk p).dl, .int .i64 (rankOne S (partsOf P) tk p).prio, .bool (rankOne S (partsOf P) tk p).tight] := hr6
          subst hr6'
          have HSU := hid (HPS.out j p hp)
          have hb1 := HPB.out p (List.mem_of_getElem? hp)
          have hs1 := HPN.out j (by omega)
          obtain ⟨pz, hpz⟩ : ∃ y, p.bud = y := ⟨_, rfl⟩
          obtain ⟨ps, hps⟩ : ∃ y, passL S (pl.take j) = y := ⟨_, rfl⟩
          obtain ⟨⟨ra, rb, rc, rd, re⟩, hro⟩ : ∃ y, rankOne S (partsOf P) tk p = y := ⟨_, rfl⟩
          rw [hpz] at HSU hb1 hcs6
          rw [hps] at HSU hs1 ⊢
          rw [hro] at hcs6
          simp only at hcs6
          have e0 : wr.cell? ⟨b6, o6 + j * 5, none⟩ = some (.int .i64 ra) := by simpa using hcs6 0 _ rfl
          have e1 : wr.cell? ⟨b6, o6 + j * 5 + 1, none⟩ = some (.int .i64 pz) := hcs6 1 _ rfl
          have e2 : wr.cell? ⟨b6, o6 + j * 5 + 2, none⟩ = some (.int .i64 rc) := hcs6 2 _ rfl
          have e3 : wr.cell? ⟨b6, o6 + j * 5 + 3, none⟩ = some (.int .i64 rd) := hcs6 3 _ rfl
          have e4 : wr.cell? ⟨b6, o6 + j * 5 + 4, none⟩ = some (.bool re) := hcs6 4 _ rfl
          have g1 : IntKind.i64.wrap (pz + la) = pz + la := wraps_i64 _ (by omega) (by omega)
          have g2 : IntKind.i64.wrap (f1 + ps + (pz + la)) = f1 + ps + (pz + la) := wraps_i64 _ (by omega) (by omega)
          have HSU2 := hid (show f1 + passL S (pl.take (j + 1)) = f1 + ps + (pz + la) by rw [HSU.out]; omega)
          clear hp hbl6 hcs6 hr6 hpz hps hro
          go_upto_region 9 with fail
          have hq5 := blk_new wr (.cells #[.int .i64 ra, .int .i64 pz, .int .i64 rc, .int .i64 rd, .bool re] 41)
          have hC5 := HCJ.out _ (below_then (HCI.out wr HCr.out) (below_new (Below.refl wr.heap.size wr) (.cells #[.int .i64 ra, .int .i64 pz, .int .i64 rc, .int .i64 rd, .bool re] 41)))
          obtain ⟨E, hE⟩ : ∃ E, wr.heap.size = E := ⟨_, rfl⟩
          rw [hE] at hq5 ⊢
          generalize wr.alloc (.cells #[.int .i64 ra, .int .i64 pz, .int .i64 rc, .int .i64 rd, .bool re] 41) = w5 at *
          obtain ⟨G, hG⟩ : ∃ G : World → Prop, G = fun X => C X ∧ Below w5.heap.size w5 X := ⟨_, rfl⟩
          have hG0 : G w5.drew := by rw [hG]; exact ⟨HCD.out w5 hC5, (Below.refl w5.heap.size w5).drew⟩
          have HGC := hid (fun X (k : G X) => show C X by rw [hG] at k; exact k.1)
          have HGE := hid (fun X (k : G X) => show X.cell? ⟨E, 1, none⟩ = some (.int .i64 pz) by rw [hG] at k; exact blk_cell ((fr0 k.2).blk hq5 (fun h => h)) 1)
          have HCL := hid (fun X (k : G X) => (HLA.out X (HCW.out X (HGC.out X k))).mono (fun e w' ⟨h1, h2⟩ => show e = Ending.returned (.int .i64 la) ∧ G w' from ⟨h1, by rw [hG] at k ⊢; exact ⟨HCJ.out _ (below_then (HCI.out X k.1) h2), below_then k.2 h2⟩⟩))
          clear hG e0 e1 e2 e3 e4 hE hq5 hC5
          refine wp_region_class (C := G) (by kernel_rfl) (by kernel_rfl) hG0 ?_
          repeat (refine wpQuiet_step (fun K hK => ?_); rw [if_pos (by rfl)]; refine Exists.intro ?_ (And.intro (fun X HX => ?_) (hK _ ?_)); rotate_left; (focus (first | (obtain ⟨r00, r01, r02, r03, r04, r05, r06, r07, r08, r09, r10, r11⟩ := HFR.out X (HGC.out X HX); have q1 := HGE.out X HX; (go_simp); all_goals (with_reducible rfl)) | (go_simp; exact HCL.out X HX))); clear hK K; try simp only [Act.put, List.setIfInBounds_toArray, List.set_cons_zero, List.set_cons_succ])
          refine wpQuiet_nil ?_
          intro we hwd
          have HCe := hid (HGC.out we hwd)
          clear hwd
          go_wp2_with fail
          go_roundw
          case rel => exact ⟨j + 1, by omega, by go_num, by rw [HSU2.out], HCe⟩
          case measure => simp [intOf]; omega
end
end Go.Proofs.Ytppildaahmlfmaa
