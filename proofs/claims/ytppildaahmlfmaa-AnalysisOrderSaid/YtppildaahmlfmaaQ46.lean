/- Joined: Ana5. -/
import Derived.Test.YtppildaahmlfmaaQ43
import Derived.Test.YtppildaahmlfmaaQ45
set_option linter.unusedVariables false
set_option linter.unusedSimpArgs false
/- analysis: Edf's test of a core (contract). -/
set_option linter.unusedVariables false
set_option linter.unusedSimpArgs false
namespace Go.Proofs.Ytppildaahmlfmaa
open Go.RowKit
attribute [local irreducible] wpQuiet
theorem Try.info_work : (Try.prog.info? 96).map (fun i => (i.zero, i.size, i.bytes)) = some (some (.agg #[.int .i64 0, .int .i64 0, .int .i64 0, .bool false]), 4, 32) := by kernel_rfl
def encWk (x : Wk) : List Value := [.int .i64 x.work, .int .i64 x.per, .int .i64 x.dl, .bool x.top]
theorem encWk_len (x : Wk) : (encWk x).length = 4 := rfl
theorem four_one (a b c : Int) (d : Bool) : ∀ u ∈ (#[Value.int .i64 a, Value.int .i64 b, Value.int .i64 c, Value.bool d] : Array Value).toList, u.oneCell' = true := by
  intro u hu
  simp at hu
  rcases hu with rfl | rfl | rfl | rfl <;> rfl
theorem wk_rows {W : World} {base : Nat} {v : Value} {l : List Wk} (h : W.ownsRow base 96 4 v l.length (flat encWk l)) : Rowp 4 wkR W v l := Rowp.of_own encWk_len h rfl (by decide) (fun x _ => rfl)
section
variable {w : World}
set_option maxRecDepth 100000 in
set_option maxHeartbeats 12800000 in
theorem edf_any (R : Nat) (S : Sy) (P : Pl) (A0 : Option Addr) (n c0 : Nat) (Aq : Option Addr) (cq : Nat) (Aw : Option Addr) (cw : Nat) (Ac : Option Addr) (nc cc : Nat) (h : RkAt w R S P A0 n c0 Aq cq Aw cw Ac nc cc) (hr : rightS S = true) (hww : ∀ x ∈ whereL P, I64 x)
    (c : Nat) (hc8 : (c : Int) < S.cores) (l : List Pt) (Al : Option Addr) (m cl : Nat) (hl : Rowp 7 ptR w (.slice Al m cl) l) (hlf : ∀ y ∈ l, PtFit S n y) (hm : m ≤ 200) :
    Calls Try.prog 26 #[.pointer (some ⟨R, 0, none⟩), .int .i64 c, .slice Al m cl] w fun e w' => e = .returned (.int .i64 (edfV S P l c)) ∧ Below w.heap.size w w' := by
  have hml := hl.len
  have hn := h.sys.tasks.len
  have HN := hid hn
  have HML := hid hml
  have HL := hid hl
  have HLF := hid hlf
  have HH := hid h
  have HOW := hid (fun V (k : Below w.heap.size w V) y (hy : PtFit S n y) => own_any (w := V) R S P A0 n c0 Aq cq Aw cw Ac nc cc (h.later k) hr hww y hy.t hy.b)
  have HBL := hid (fun V (k : Below w.heap.size w V) => block_any (w := V) R S P A0 n c0 Aq cq Aw cw Ac nc cc (h.later k) hr hww ⟨⟨c, 0, 0, 0, false⟩, 0, 0⟩ c rfl hc8)
  have HTE := hid (fun V l A n cap b r hl => dtest_any (w := V) l A n cap b r hl)
  have HFR0 := hid (fun V (k : Below w.heap.size w V) => (h.later k).cells)
  have HV := hid (show edfV S P l c = testV (l.map (wkOf S P)) (blockV S P c 0) S.rel from rfl)
  obtain ⟨V, hVV⟩ : ∃ V, edfV S P l c = V := ⟨_, rfl⟩
  rw [hVV] at HV ⊢
  obtain ⟨bk, hbk⟩ : ∃ y, blockV S P c 0 = y := ⟨_, rfl⟩
  simp only at HBL
  rw [hbk] at HBL HV
  obtain ⟨i0, hi, hz0, hz1, hz2⟩ := info_parts Try.info_work
  clear h hr hww hc8 hl hlf hml hn hVV hbk
  unfold ptV at HOW HBL
  simp only at HOW HBL
  go_enter Try.func26, Try.ntmps26
  go_wp2_with fail
  go_loopw [12, 7] (fun v u7 wr => ∃ k : Nat, k ≤ m ∧ v = .int .i64 k ∧ Hid (wr.ownsRow w.heap.size 96 4 u7 k (flat encWk ((l.take k).map (wkOf S P)))) ∧ Hid (Below w.heap.size w wr)) (fun v _ _ => m - (intOf v).toNat)
  case atStart => exact ⟨0, by omega, rfl, hid (World.ownsRow_nil _ _ _ _), hid (Below.refl _ _)⟩
  case round =>
    obtain ⟨k, hk, rfl, HO7, HB⟩ := hrel
    have hsz := HB.out.size
    by_cases hlt : k < m
    case neg =>
      obtain rfl : k = m := by omega
      have htk : l.take k = l := by rw [HML.out, List.take_length]
      have ho7 := HO7.out
      rw [htk] at ho7
      have hr7 := wk_rows (l := l.map (wkOf S P)) (by rw [List.length_map, ← HML.out]; exact ho7)
      obtain ⟨A7, c7, rfl⟩ := own_slice ho7
      have HR7 := hid hr7
      obtain ⟨C, hC⟩ : ∃ C : World → Prop, C = fun X => Below wr.heap.size wr X := ⟨_, rfl⟩
      have hC0 : C wr.drew := by rw [hC]; exact (Below.refl wr.heap.size wr).drew
      have HCW := hid (fun X (q : C X) => show Below w.heap.size w X by rw [hC] at q; exact below_then HB.out q)
      have HCT := hid (fun X Y (q : C X) (k : Below X.heap.size X Y) => show C Y by rw [hC] at q ⊢; exact below_then q k)
      have HFR := hid (fun X (q : C X) => HFR0.out X (HCW.out X q))
      have HC2 := hid (fun X (q : C X) => (HBL.out X (HCW.out X q)).mono (fun e w' ⟨h1, h2⟩ => show e = Ending.returned (.int .i64 bk) ∧ C w' from ⟨h1, HCT.out X w' q h2⟩))
      have HC3 := hid (fun X (q : C X) => (HTE.out X (l.map (wkOf S P)) A7 k c7 bk S.rel (HR7.out.later wkR.stays (by rw [hC] at q; exact q))).mono (fun e w' ⟨h1, h2⟩ => show e = Ending.returned (.int .i64 V) ∧ C w' from ⟨by rw [h1, HV.out], HCT.out X w' q h2⟩))
      clear hC hr7 ho7 htk HO7
      go_upto_region 7 with fail
      refine wp_region_class (C := C) (by kernel_rfl) (by kernel_rfl) hC0 ?_
      repeat (refine wpQuiet_step (fun K hK => ?_); rw [if_pos (by rfl)]; refine Exists.intro ?_ (And.intro (fun X HX => ?_) (hK _ ?_)); rotate_left; (focus (first | (have r03 := (HFR.out X HX).2.2.2.1; (go_simp); all_goals (with_reducible rfl)) | (go_simp; exact HC2.out X HX) | (go_simp; exact HC3.out X HX))); clear hK K; try simp only [Act.put, List.setIfInBounds_toArray, List.set_cons_zero, List.set_cons_succ])
      refine wpQuiet_nil ?_
      intro wd hwd
      have HBD := hid (HCW.out wd hwd)
      clear hwd
      go_wp2_with fail
      go_ret
      exact ⟨rfl, HBD.out⟩
    case pos =>
      obtain ⟨y, hy⟩ : ∃ y, l[k]? = some y := ⟨_, List.getElem?_eq_getElem (by have := HML.out; omega)⟩
      have hyf := HLF.out y (List.mem_of_getElem? hy)
      obtain ⟨b, o, cs, hA, hbl, _, hc, hrr⟩ := HL.out.at hy
      subst hA
      have hr' : cs = encPt y := hrr
      subst hr'
      obtain ⟨t, ht⟩ : ∃ t, S.tasks[y.task]? = some t := ⟨_, List.getElem?_eq_getElem (by have := hyf.t; have := HN.out; omega)⟩
      obtain ⟨b1, o1, cs1, hA1, hbl1, _, hcs1, us1, hu1, hu2⟩ := HH.out.sys.tasks.at ht
      subst hA1
      subst hu1
      have HFT0 := hid (fun V (k : Below w.heap.size w V) => show V.cell? ⟨b1, o1 + y.task * 4, none⟩ = some (.int .i64 t.per) from (k.cell (p := ⟨b1, o1 + y.task * 4, none⟩) hbl1).trans (by simpa using hcs1 0 _ rfl))
      have HL1 := hid (fun V (q : Below w.heap.size w V) => HOW.out V q y hyf)
      have HWK := hid (show wkOf S P y = ⟨ownV S P y, t.per, y.p.dl, y.p.tight⟩ by unfold wkOf; rw [tskAt_eq ht])
      have HF7 := hid (show flat encWk ((l.take (k + 1)).map (wkOf S P)) = flat encWk ((l.take k).map (wkOf S P)) ++ [.int .i64 (ownV S P y), .int .i64 t.per, .int .i64 y.p.dl, .bool y.p.tight] by rw [take_next hy, List.map_append, flat_append, List.map_cons, List.map_nil, HWK.out]; rfl)
      obtain ⟨X7, hX7⟩ : ∃ X, flat encWk ((l.take k).map (wkOf S P)) = X := ⟨_, rfl⟩
      rw [hX7] at HO7 HF7
      obtain ⟨oy, hoy⟩ : ∃ z, ownV S P y = z := ⟨_, rfl⟩
      rw [hoy] at HL1 HF7
      have hytn : (y.task : Int) < n := by have := hyf.t; omega
      have hbb := HB.out
      obtain ⟨⟨qc, qb, qd, qp, qt⟩, qk, qj⟩ := y
      unfold encPt at hc
      simp only at hc HL1 HF7 HFT0 hytn
      have e0 : wr.cell? ⟨b, o + k * 7, none⟩ = some (.int .i64 qc) := (hbb.cell (p := ⟨b, o + k * 7, none⟩) hbl).trans (by simpa using hc 0 _ rfl)
      have e1 : wr.cell? ⟨b, o + k * 7 + 1, none⟩ = some (.int .i64 qb) := (hbb.cell (p := ⟨b, o + k * 7 + 1, none⟩) hbl).trans (hc 1 _ rfl)
      have e2 : wr.cell? ⟨b, o + k * 7 + 2, none⟩ = some (.int .i64 qd) := (hbb.cell (p := ⟨b, o + k * 7 + 2, none⟩) hbl).trans (hc 2 _ rfl)
      have e3 : wr.cell? ⟨b, o + k * 7 + 3, none⟩ = some (.int .i64 qp) := (hbb.cell (p := ⟨b, o + k * 7 + 3, none⟩) hbl).trans (hc 3 _ rfl)
      have e4 : wr.cell? ⟨b, o + k * 7 + 4, none⟩ = some (.bool qt) := (hbb.cell (p := ⟨b, o + k * 7 + 4, none⟩) hbl).trans (hc 4 _ rfl)
      have e5 : wr.cell? ⟨b, o + k * 7 + 5, none⟩ = some (.int .i64 qk) := (hbb.cell (p := ⟨b, o + k * 7 + 5, none⟩) hbl).trans (hc 5 _ rfl)
      have e6 : wr.cell? ⟨b, o + k * 7 + 6, none⟩ = some (.int .i64 qj) := (hbb.cell (p := ⟨b, o + k * 7 + 6, none⟩) hbl).trans (hc 6 _ rfl)
      clear hy hyf hbl hc hrr hX7 hoy hbb ht hbl1 hcs1 hu2 HWK
      obtain ⟨A7, c7, rfl⟩ := own_slice HO7.out
      go_upto_region 5 with fail
      have hq7 := blk_new wr (.cells #[.int .i64 qc, .int .i64 qb, .int .i64 qd, .int .i64 qp, .bool qt, .int .i64 qk, .int .i64 qj] 67)
      have HB7 := hid (below_new HB.out (.cells #[.int .i64 qc, .int .i64 qb, .int .i64 qd, .int .i64 qp, .bool qt, .int .i64 qk, .int .i64 qj] 67))
      have HO77 := hid (HO7.out.alloc (.cells #[.int .i64 qc, .int .i64 qb, .int .i64 qd, .int .i64 qp, .bool qt, .int .i64 qk, .int .i64 qj] 67))
      obtain ⟨E, hE⟩ : ∃ E, wr.heap.size = E := ⟨_, rfl⟩
      have HNE := hid (show ∀ k', (Value.slice A7 k c7).ownBlock = some k' → k' ≠ E from fun k' hk' e => by have := (HO7.out.lt k' hk').2; omega)
      rw [hE] at hq7 ⊢
      generalize wr.alloc (.cells #[.int .i64 qc, .int .i64 qb, .int .i64 qd, .int .i64 qp, .bool qt, .int .i64 qk, .int .i64 qj] 67) = w7 at *
      have HQ7 := hid hq7
      obtain ⟨G, hG⟩ : ∃ G : World → Prop, G = fun X => Below w.heap.size w X ∧ X.heap[E]? = some (.cells #[.int .i64 qc, .int .i64 qb, .int .i64 qd, .int .i64 qp, .bool qt, .int .i64 qk, .int .i64 qj] 67 (0, 0)) := ⟨_, rfl⟩
      have hG0 : G w7.drew := by rw [hG]; exact ⟨HB7.out.drew, HQ7.out⟩
      have HGW := hid (fun X (q : G X) => show Below w.heap.size w X by rw [hG] at q; exact q.1)
      have HGI := hid (fun X (k1 : Below w.heap.size w X) k2 => show G X by rw [hG]; exact ⟨k1, k2⟩)
      have HGQ := hid (fun X (q : G X) => show X.heap[E]? = some (.cells #[.int .i64 qc, .int .i64 qb, .int .i64 qd, .int .i64 qp, .bool qt, .int .i64 qk, .int .i64 qj] 67 (0, 0)) by rw [hG] at q; exact q.2)
      have HFR := hid (fun X (q : G X) => HFR0.out X (HGW.out X q))
      have HFT := hid (fun X (q : G X) => HFT0.out X (HGW.out X q))
      have HFX := hid (fun X (q : G X) => part_cells (x := ⟨⟨qc, qb, qd, qp, qt⟩, qk, qj⟩) (HGQ.out X q))
      simp only at HFX
      have HNE7 := hid (show ∀ k', (Value.slice A7 k c7).ownBlock = some k' → k' ≠ E from HNE.out)
      have HO7d := hid (show w7.drew.ownsRow w.heap.size 96 4 (.slice A7 k c7) k X7 from HO77.out)
      have hw7d : w7.drew.heap[E]? = some (.cells #[.int .i64 qc, .int .i64 qb, .int .i64 qd, .int .i64 qp, .bool qt, .int .i64 qk, .int .i64 qj] 67 (0, 0)) := HQ7.out
      have HW7D := hid hw7d
      have HB7D := hid HB7.out.drew
      have HCL := hid (HL1.out w7.drew HB7D.out)
      clear hG hE e0 e1 e2 e3 e4 e5 e6 hq7 HB HO7 HO77 HQ7 HB7 hw7d HNE
      refine wp_region_held_drew (S := G) (by kernel_rfl) ?_ (fun hHeld => ?_)
      · exact hG0
      try simp only [Act.put, List.setIfInBounds_toArray, List.set_cons_zero, List.set_cons_succ]
      refine wpAnyH_take (i := 0) (oi := ?oi0) (v := ?v0) ?hi0 (by kernel_rfl) (by kernel_rfl) (by kernel_rfl) ?hq0 (Or.inl ⟨?wa0, ?hy0⟩) (by assumption) ?hr0
      case hi0 => (simp only [List.getElem?_toArray, List.getElem?_cons_succ, List.getElem?_cons_zero]; rfl)
      case wa0 => rfl
      case hy0 => ((intro X HX; skip; go_simp); all_goals (with_reducible rfl))
      case hq0 => exact fun _ _ _ h => h
      try simp only [Act.put, List.setIfInBounds_toArray, List.set_cons_zero, List.set_cons_succ]
      refine wpAnyH_take (i := 1) (oi := ?oi1) (v := ?v1) ?hi1 (by kernel_rfl) (by kernel_rfl) (by kernel_rfl) ?hq1 (Or.inl ⟨?wa1, ?hy1⟩) (by assumption) ?hr1
      case hi1 => (simp only [List.getElem?_toArray, List.getElem?_cons_succ, List.getElem?_cons_zero]; rfl)
      case wa1 => rfl
      case hy1 => ((intro X HX; skip; go_simp); all_goals (with_reducible rfl))
      case hq1 => exact fun _ _ _ h => h
      try simp only [Act.put, List.setIfInBounds_toArray, List.set_cons_zero, List.set_cons_succ]
      refine wpAnyH_take (i := 2) (oi := ?oi2) (v := ?v2) ?hi2 (by kernel_rfl) (by kernel_rfl) (by kernel_rfl) ?hq2 (Or.inl ⟨?wa2, ?hy2⟩) (by assumption) ?hr2
      case hi2 => (simp only [List.getElem?_toArray, List.getElem?_cons_succ, List.getElem?_cons_zero]; rfl)
      case wa2 => rfl
      case hy2 => ((intro X HX; obtain ⟨x0, x1, x2, x3, x4, x5, x6⟩ := HFX.out X HX; go_simp); all_goals (with_reducible rfl))
      case hq2 => exact fun _ _ _ h => h
      try simp only [Act.put, List.setIfInBounds_toArray, List.set_cons_zero, List.set_cons_succ]
      refine wpAnyH_take (i := 4) (oi := ?oi4) (v := ?v4) ?hi4 (by kernel_rfl) (by kernel_rfl) (by kernel_rfl) ?hq4 (Or.inl ⟨?wa4, ?hy4⟩) (by assumption) ?hr4
      case hi4 => (simp only [List.getElem?_toArray, List.getElem?_cons_succ, List.getElem?_cons_zero]; rfl)
      case wa4 => rfl
      case hy4 => ((intro X HX; obtain ⟨x0, x1, x2, x3, x4, x5, x6⟩ := HFX.out X HX; have r08 := (HFR.out X HX).2.2.2.2.2.2.2.2.1; have yt := HFT.out X HX; go_simp); all_goals (with_reducible rfl))
      case hq4 => exact fun _ _ _ h => h
      try simp only [Act.put, List.setIfInBounds_toArray, List.set_cons_zero, List.set_cons_succ]
      refine wpAnyH_take (i := 5) (oi := ?oi5) (v := ?v5) ?hi5 (by kernel_rfl) (by kernel_rfl) (by kernel_rfl) ?hq5 (Or.inl ⟨?wa5, ?hy5⟩) (by assumption) ?hr5
      case hi5 => (simp only [List.getElem?_toArray, List.getElem?_cons_succ, List.getElem?_cons_zero]; rfl)
      case wa5 => rfl
      case hy5 => ((intro X HX; obtain ⟨x0, x1, x2, x3, x4, x5, x6⟩ := HFX.out X HX; have r08 := (HFR.out X HX).2.2.2.2.2.2.2.2.1; have yt := HFT.out X HX; go_simp); all_goals (with_reducible rfl))
      case hq5 => exact fun _ _ _ h => h
      try simp only [Act.put, List.setIfInBounds_toArray, List.set_cons_zero, List.set_cons_succ]
      refine wpAnyH_take (i := 6) (oi := ?oi6) (v := ?v6) ?hi6 (by kernel_rfl) (by kernel_rfl) (by kernel_rfl) ?hq6 (Or.inl ⟨?wa6, ?hy6⟩) (by assumption) ?hr6
      case hi6 => (simp only [List.getElem?_toArray, List.getElem?_cons_succ, List.getElem?_cons_zero]; rfl)
      case wa6 => rfl
      case hy6 => ((intro X HX; obtain ⟨x0, x1, x2, x3, x4, x5, x6⟩ := HFX.out X HX; have r08 := (HFR.out X HX).2.2.2.2.2.2.2.2.1; have yt := HFT.out X HX; go_simp); all_goals (with_reducible rfl))
      case hq6 => exact fun _ _ _ h => h
      try simp only [Act.put, List.setIfInBounds_toArray, List.set_cons_zero, List.set_cons_succ]
      refine wpAnyH_take (i := 7) (oi := ?oi7) (v := ?v7) ?hi7 (by kernel_rfl) (by kernel_rfl) (by kernel_rfl) ?hq7 (Or.inl ⟨?wa7, ?hy7⟩) (by assumption) ?hr7
      case hi7 => (simp only [List.getElem?_toArray, List.getElem?_cons_succ, List.getElem?_cons_zero]; rfl)
      case wa7 => rfl
      case hy7 => ((intro X HX; obtain ⟨x0, x1, x2, x3, x4, x5, x6⟩ := HFX.out X HX; have r08 := (HFR.out X HX).2.2.2.2.2.2.2.2.1; have yt := HFT.out X HX; go_simp); all_goals (with_reducible rfl))
      case hq7 => exact fun _ _ _ h => h
      try simp only [Act.put, List.setIfInBounds_toArray, List.set_cons_zero, List.set_cons_succ]
      refine wpAnyH_take (i := 8) (oi := ?oi8) (v := ?v8) ?hi8 (by kernel_rfl) (by kernel_rfl) (by kernel_rfl) ?hq8 (Or.inl ⟨?wa8, ?hy8⟩) (by assumption) ?hr8
      case hi8 => (simp only [List.getElem?_toArray, List.getElem?_cons_succ, List.getElem?_cons_zero]; rfl)
      case wa8 => rfl
      case hy8 => ((intro X HX; obtain ⟨x0, x1, x2, x3, x4, x5, x6⟩ := HFX.out X HX; have r08 := (HFR.out X HX).2.2.2.2.2.2.2.2.1; have yt := HFT.out X HX; go_simp); all_goals (with_reducible rfl))
      case hq8 => exact fun _ _ _ h => h
      try simp only [Act.put, List.setIfInBounds_toArray, List.set_cons_zero, List.set_cons_succ]
      refine wpAnyH_take (i := 9) (oi := ?oi9) (v := ?v9) ?hi9 (by kernel_rfl) (by kernel_rfl) (by kernel_rfl) ?hq9 (Or.inl ⟨?wa9, ?hy9⟩) (by assumption) ?hr9
      case hi9 => (simp only [List.getElem?_toArray, List.getElem?_cons_succ, List.getElem?_cons_zero]; rfl)
      case wa9 => rfl
      case hy9 => ((intro X HX; obtain ⟨x0, x1, x2, x3, x4, x5, x6⟩ := HFX.out X HX; have r08 := (HFR.out X HX).2.2.2.2.2.2.2.2.1; have yt := HFT.out X HX; go_simp); all_goals (with_reducible rfl))
      case hq9 => exact fun _ _ _ h => h
      try simp only [Act.put, List.setIfInBounds_toArray, List.set_cons_zero, List.set_cons_succ]
      refine wpAnyH_take (i := 10) (oi := ?oi10) (v := ?v10) ?hi10 (by kernel_rfl) (by kernel_rfl) (by kernel_rfl) ?hq10 (Or.inl ⟨?wa10, ?hy10⟩) (by assumption) ?hr10
      case hi10 => (simp only [List.getElem?_toArray, List.getElem?_cons_succ, List.getElem?_cons_zero]; rfl)
      case wa10 => rfl
      case hy10 => ((intro X HX; obtain ⟨x0, x1, x2, x3, x4, x5, x6⟩ := HFX.out X HX; have r08 := (HFR.out X HX).2.2.2.2.2.2.2.2.1; have yt := HFT.out X HX; go_simp); all_goals (with_reducible rfl))
      case hq10 => exact fun _ _ _ h => h
      try simp only [Act.put, List.setIfInBounds_toArray, List.set_cons_zero, List.set_cons_succ]
      refine wpAnyH_take (i := 11) (oi := ?oi11) (v := ?v11) ?hi11 (by kernel_rfl) (by kernel_rfl) (by kernel_rfl) ?hq11 (Or.inl ⟨?wa11, ?hy11⟩) (by assumption) ?hr11
      case hi11 => (simp only [List.getElem?_toArray, List.getElem?_cons_succ, List.getElem?_cons_zero]; rfl)
      case wa11 => rfl
      case hy11 => ((intro X HX; obtain ⟨x0, x1, x2, x3, x4, x5, x6⟩ := HFX.out X HX; have r08 := (HFR.out X HX).2.2.2.2.2.2.2.2.1; have yt := HFT.out X HX; go_simp); all_goals (with_reducible rfl))
      case hq11 => exact fun _ _ _ h => h
      try simp only [Act.put, List.setIfInBounds_toArray, List.set_cons_zero, List.set_cons_succ]
      refine wpAnyH_take (i := 12) (oi := ?oi12) (v := ?v12) ?hi12 (by kernel_rfl) (by kernel_rfl) (by kernel_rfl) ?hq12 (Or.inl ⟨?wa12, ?hy12⟩) (by assumption) ?hr12
      case hi12 => (simp only [List.getElem?_toArray, List.getElem?_cons_succ, List.getElem?_cons_zero]; rfl)
      case wa12 => rfl
      case hy12 => ((intro X HX; obtain ⟨x0, x1, x2, x3, x4, x5, x6⟩ := HFX.out X HX; have r08 := (HFR.out X HX).2.2.2.2.2.2.2.2.1; have yt := HFT.out X HX; go_simp); all_goals (with_reducible rfl))
      case hq12 => exact fun _ _ _ h => h
      try simp only [Act.put, List.setIfInBounds_toArray, List.set_cons_zero, List.set_cons_succ]
      refine wpAnyH_take (i := 13) (oi := ?oi13) (v := ?v13) ?hi13 (by kernel_rfl) (by kernel_rfl) (by kernel_rfl) ?hq13 (Or.inl ⟨?wa13, ?hy13⟩) (by assumption) ?hr13
      case hi13 => (simp only [List.getElem?_toArray, List.getElem?_cons_succ, List.getElem?_cons_zero]; rfl)
      case wa13 => rfl
      case hy13 => ((intro X HX; obtain ⟨x0, x1, x2, x3, x4, x5, x6⟩ := HFX.out X HX; have r08 := (HFR.out X HX).2.2.2.2.2.2.2.2.1; have yt := HFT.out X HX; go_simp); all_goals (with_reducible rfl))
      case hq13 => exact fun _ _ _ h => h
      try simp only [Act.put, List.setIfInBounds_toArray, List.set_cons_zero, List.set_cons_succ]
      refine wpAnyH_take (i := 14) (oi := ?oi14) (v := ?v14) ?hi14 (by kernel_rfl) (by kernel_rfl) (by kernel_rfl) ?hq14 (Or.inl ⟨?wa14, ?hy14⟩) (by assumption) ?hr14
      case hi14 => (simp only [List.getElem?_toArray, List.getElem?_cons_succ, List.getElem?_cons_zero]; rfl)
      case wa14 => rfl
      case hy14 => ((intro X HX; obtain ⟨x0, x1, x2, x3, x4, x5, x6⟩ := HFX.out X HX; have r08 := (HFR.out X HX).2.2.2.2.2.2.2.2.1; have yt := HFT.out X HX; go_simp); all_goals (with_reducible rfl))
      case hq14 => exact fun _ _ _ h => h
      try simp only [Act.put, List.setIfInBounds_toArray, List.set_cons_zero, List.set_cons_succ]
      refine wpAnyH_take (i := 15) (oi := ?oi15) (v := ?v15) ?hi15 (by kernel_rfl) (by kernel_rfl) (by kernel_rfl) ?hq15 (Or.inl ⟨?wa15, ?hy15⟩) (by assumption) ?hr15
      case hi15 => (simp only [List.getElem?_toArray, List.getElem?_cons_succ, List.getElem?_cons_zero]; rfl)
      case wa15 => rfl
      case hy15 => ((intro X HX; obtain ⟨x0, x1, x2, x3, x4, x5, x6⟩ := HFX.out X HX; have r08 := (HFR.out X HX).2.2.2.2.2.2.2.2.1; have yt := HFT.out X HX; go_simp); all_goals (with_reducible rfl))
      case hq15 => exact fun _ _ _ h => h
      try simp only [Act.put, List.setIfInBounds_toArray, List.set_cons_zero, List.set_cons_succ]
      refine wpAnyH_take (i := 16) (oi := ?oi16) (v := ?v16) ?hi16 (by kernel_rfl) (by kernel_rfl) (by kernel_rfl) ?hq16 (Or.inl ⟨?wa16, ?hy16⟩) (by assumption) ?hr16
      case hi16 => (simp only [List.getElem?_toArray, List.getElem?_cons_succ, List.getElem?_cons_zero]; rfl)
      case wa16 => rfl
      case hy16 => ((intro X HX; obtain ⟨x0, x1, x2, x3, x4, x5, x6⟩ := HFX.out X HX; have r08 := (HFR.out X HX).2.2.2.2.2.2.2.2.1; have yt := HFT.out X HX; go_simp); all_goals (with_reducible rfl))
      case hq16 => exact fun _ _ _ h => h
      try simp only [Act.put, List.setIfInBounds_toArray, List.set_cons_zero, List.set_cons_succ]
      refine wpAnyH_take (i := 17) (oi := ?oi17) (v := ?v17) ?hi17 (by kernel_rfl) (by kernel_rfl) (by kernel_rfl) ?hq17 (Or.inl ⟨?wa17, ?hy17⟩) (by assumption) ?hr17
      case hi17 => (simp only [List.getElem?_toArray, List.getElem?_cons_succ, List.getElem?_cons_zero]; rfl)
      case wa17 => rfl
      case hy17 => ((intro X HX; obtain ⟨x0, x1, x2, x3, x4, x5, x6⟩ := HFX.out X HX; have r08 := (HFR.out X HX).2.2.2.2.2.2.2.2.1; have yt := HFT.out X HX; go_simp); all_goals (with_reducible rfl))
      case hq17 => exact fun _ _ _ h => h
      try simp only [Act.put, List.setIfInBounds_toArray, List.set_cons_zero, List.set_cons_succ]
      refine wpAnyH_take (i := 18) (oi := ?oi18) (v := ?v18) ?hi18 (by kernel_rfl) (by kernel_rfl) (by kernel_rfl) ?hq18 (Or.inl ⟨?wa18, ?hy18⟩) (by assumption) ?hr18
      case hi18 => (simp only [List.getElem?_toArray, List.getElem?_cons_succ, List.getElem?_cons_zero]; rfl)
      case wa18 => rfl
      case hy18 => ((intro X HX; obtain ⟨x0, x1, x2, x3, x4, x5, x6⟩ := HFX.out X HX; have r08 := (HFR.out X HX).2.2.2.2.2.2.2.2.1; have yt := HFT.out X HX; go_simp); all_goals (with_reducible rfl))
      case hq18 => exact fun _ _ _ h => h
      try simp only [Act.put, List.setIfInBounds_toArray, List.set_cons_zero, List.set_cons_succ]
      refine wpAnyH_take (i := 19) (oi := ?oi19) (v := ?v19) ?hi19 (by kernel_rfl) (by kernel_rfl) (by kernel_rfl) ?hq19 (Or.inl ⟨?wa19, ?hy19⟩) (by assumption) ?hr19
      case hi19 => (simp only [List.getElem?_toArray, List.getElem?_cons_succ, List.getElem?_cons_zero]; rfl)
      case wa19 => rfl
      case hy19 => ((intro X HX; obtain ⟨x0, x1, x2, x3, x4, x5, x6⟩ := HFX.out X HX; have r08 := (HFR.out X HX).2.2.2.2.2.2.2.2.1; have yt := HFT.out X HX; go_simp); all_goals (with_reducible rfl))
      case hq19 => exact fun _ _ _ h => h
      try simp only [Act.put, List.setIfInBounds_toArray, List.set_cons_zero, List.set_cons_succ]
      refine wpAnyH_ready (rs := [3]) (by kernel_rfl) (by simp) ?_
      refine AllReadyH.cons (i := 3) (o := ?oi3) ?hi3 ?st3 AllReadyH.nil
      case hi3 => (simp only [List.getElem?_toArray, List.getElem?_cons_succ, List.getElem?_cons_zero]; rfl)
      intro K hK
      go_simp
      refine HCL.out.mono ?_
      rintro e wd ⟨rfl, hbd⟩
      have HBD := hid (below_then HB7D.out hbd)
      have HED := hid ((fr0 hbd).blk HW7D.out (fun h => h))
      have HOD := hid (own_kept HO7d.out (fr0 hbd) (fun _ _ h => h))
      have hszd := HBD.out.size
      clear hbd
      refine hK.out _ _ ?_ (fun hHeld => ?_)
      · exact HGI.out _ HBD.out HED.out
      clear hK K
      try simp only [Act.put, List.setIfInBounds_toArray, List.set_cons_zero, List.set_cons_succ]
      refine wpAnyH_take (i := 20) (oi := ?oi20) (v := ?v20) ?hi20 (by kernel_rfl) (by kernel_rfl) (by kernel_rfl) ?hq20 (Or.inl ⟨?wa20, ?hy20⟩) (by assumption) ?hr20
      case hi20 => (simp only [List.getElem?_toArray, List.getElem?_cons_succ, List.getElem?_cons_zero]; rfl)
      case wa20 => rfl
      case hy20 => ((intro X HX; skip; go_simp); all_goals (with_reducible rfl))
      case hq20 => exact fun _ _ _ h => h
      try simp only [Act.put, List.setIfInBounds_toArray, List.set_cons_zero, List.set_cons_succ]
      refine wpAnyH_ready (rs := [21]) (by kernel_rfl) (by simp) ?_
      refine AllReadyH.cons (i := 21) (o := ?oi21) ?hi21 ?st21 AllReadyH.nil
      case hi21 => (simp only [List.getElem?_toArray, List.getElem?_cons_succ, List.getElem?_cons_zero]; rfl)
      intro K hK
      go_simp
      refine hK.out _ _ ?_ (fun hHeld => ?_)
      · exact HGI.out _ (below_new HBD.out _) (blk_old HED.out _)
      clear hK K
      try simp only [Act.put, List.setIfInBounds_toArray, List.set_cons_zero, List.set_cons_succ]
      refine wpAnyH_ready (rs := [22]) (by kernel_rfl) (by simp) ?_
      refine AllReadyH.cons (i := 22) (o := ?oi22) ?hi22 ?st22 AllReadyH.nil
      case hi22 => (simp only [List.getElem?_toArray, List.getElem?_cons_succ, List.getElem?_cons_zero]; rfl)
      intro K hK
      refine step_append_new (W := wd) rfl (.tmp 16) (.tmp 37) 94 rfl w.heap.size 96 i0 _ 4 32 Try.underlying94 hi hz0 hz1 hz2 rfl (by decide) #[.int .i64 oy, .int .i64 t.per, .int .i64 qd, .bool qt] (.slice A7 k c7) k X7 (by simp [Act.eval]) _ (by simp [Act.eval]) rfl HOD.out rfl (four_one _ _ _ _) (by unfold maxLen; omega) (by omega) hszd ?_
      intro v9 w9 ho9 hf9 hl9
      have HB9 := hid (show Below w.heap.size w w9 from ((Fr.of_below (S := NoB) HBD.out).trans hf9 (fun b hb => .inr (own_ge HOD.out b hb))).no)
      have HE9 := hid (hf9.blk HED.out (fun h => HNE7.out _ h rfl))
      have HO9 := hid (show w9.ownsRow w.heap.size 96 4 v9 (k + 1) (flat encWk ((l.take (k + 1)).map (wkOf S P))) by rw [HF7.out]; exact ho9)
      obtain ⟨A9, c9, rfl⟩ := own_slice ho9
      refine hK.out _ _ ?_ (fun hHeld => ?_)
      · exact HGI.out _ HB9.out HE9.out
      clear hK K
      try simp only [Act.put, List.setIfInBounds_toArray, List.set_cons_zero, List.set_cons_succ]
      refine wpAnyH_take (i := 23) (oi := ?oi23) (v := ?v23) ?hi23 (by kernel_rfl) (by kernel_rfl) (by kernel_rfl) ?hq23 (Or.inl ⟨?wa23, ?hy23⟩) (by assumption) ?hr23
      case hi23 => (simp only [List.getElem?_toArray, List.getElem?_cons_succ, List.getElem?_cons_zero]; rfl)
      case wa23 => rfl
      case hy23 => ((intro X HX; skip; go_simp); all_goals (with_reducible rfl))
      case hq23 => exact fun _ _ _ h => h
      try simp only [Act.put, List.setIfInBounds_toArray, List.set_cons_zero, List.set_cons_succ]
      refine wpAnyH_done (by kernel_rfl) ?_ _
      clear ho9 hf9 hl9
      go_wp2_with fail
      go_roundw
      case rel => exact ⟨k + 1, by omega, by go_num, HO9, HB9⟩
      case measure => simp [intOf]; omega
end
end Go.Proofs.Ytppildaahmlfmaa
