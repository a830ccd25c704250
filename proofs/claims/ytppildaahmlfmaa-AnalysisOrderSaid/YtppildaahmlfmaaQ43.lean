/- Joined: Ana4. -/
import Derived.Test.YtppildaahmlfmaaQ41
import Derived.Test.YtppildaahmlfmaaQ42
import Derived.Test.YtppildaahmlfmaaQ14
import Derived.Test.YtppildaahmlfmaaQ19
set_option linter.unusedVariables false
set_option linter.unusedSimpArgs false
/- analysis: the bound of a piece, of those of its core (contract). -/
set_option linter.unusedVariables false
set_option linter.unusedSimpArgs false
namespace Go.Proofs.Ytppildaahmlfmaa
open Go.RowKit
attribute [local irreducible] wpQuiet
theorem Try.info_load : (Try.prog.info? 118).map (fun i => (i.zero, i.size, i.bytes)) = some (some (.agg #[.int .i64 0, .int .i64 0, .int .i64 0]), 3, 24) := by kernel_rfl
def encLd (x : Ld) : List Value := [.int .i64 x.work, .int .i64 x.per, .int .i64 x.jit]
theorem encLd_len (x : Ld) : (encLd x).length = 3 := rfl
theorem three_one (a b c : Int) : ∀ u ∈ (#[Value.int .i64 a, Value.int .i64 b, Value.int .i64 c] : Array Value).toList, u.oneCell' = true := by
  intro u hu
  simp at hu
  rcases hu with rfl | rfl | rfl <;> rfl
/-- What a piece must be, to be reckoned with. -/
structure PtFit (S : Sy) (n : Nat) (y : Pt) : Prop where
  t : y.task < n
  b : 0 ≤ y.p.bud ∧ y.p.bud ≤ 1099511627776
  k : y.k ≤ 8
theorem ld_rows {W : World} {base : Nat} {v : Value} {l : List Ld} (h : W.ownsRow base 118 3 v l.length (flat encLd l)) : Rowp 3 ldR W v l := Rowp.of_own encLd_len h rfl (by decide) (fun x _ => rfl)
theorem aheadOf_take {l : List Pt} {x y : Pt} {k : Nat} (h : l[k]? = some y) : aheadOf (l.take (k + 1)) x = if y.p.prio < x.p.prio then aheadOf (l.take k) x ++ [y] else aheadOf (l.take k) x := by
  unfold aheadOf
  rw [take_next h, List.filter_append]
  by_cases hh : y.p.prio < x.p.prio <;> simp [hh]
section
variable {w : World}
set_option maxRecDepth 100000 in
set_option maxHeartbeats 12800000 in
theorem fixed_any (R : Nat) (S : Sy) (P : Pl) (A0 : Option Addr) (n c0 : Nat) (Aq : Option Addr) (cq : Nat) (Aw : Option Addr) (cw : Nat) (Ac : Option Addr) (nc cc : Nat) (h : RkAt w R S P A0 n c0 Aq cq Aw cw Ac nc cc) (hr : rightS S = true) (hww : ∀ x ∈ whereL P, I64 x)
    (x : Pt) (hx : PtFit S n x) (c : Nat) (hxc : x.p.core = c) (hc8 : (c : Int) < S.cores) (l : List Pt) (Al : Option Addr) (m cl : Nat) (hl : Rowp 7 ptR w (.slice Al m cl) l) (hlf : ∀ y ∈ l, PtFit S n y) (hm : m ≤ 200) :
    Calls Try.prog 47 #[.pointer (some ⟨R, 0, none⟩), ptV x, .slice Al m cl] w fun e w' => e = .returned (numE (fixedV S P l x)) ∧ Below w.heap.size w w' := by
  have hml := hl.len
  have HML := hid hml
  have HL := hid hl
  have HLF := hid hlf
  have HLD := hid (fun V (k : Below w.heap.size w V) y (hy : PtFit S n y) => load_any (w := V) R S P A0 n c0 Aq cq Aw cw Ac nc cc (h.later k) hr hww y hy.t hy.b hy.k)
  have HOW := hid (fun V (k : Below w.heap.size w V) => own_any (w := V) R S P A0 n c0 Aq cq Aw cw Ac nc cc (h.later k) hr hww x hx.t hx.b)
  have HBL := hid (fun V (k : Below w.heap.size w V) => block_any (w := V) R S P A0 n c0 Aq cq Aw cw Ac nc cc (h.later k) hr hww x c hxc hc8)
  have HBO := hid (fun V a b r ab al A1 n1 c1 A2 n2 c2 lim h1 h2 => bound_any (w := V) a b r ab al A1 n1 c1 A2 n2 c2 lim h1 h2)
  have HFR0 := hid (fun V (k : Below w.heap.size w V) => (h.later k).cells)
  have HV := hid (show fixedV S P l x = boundV (ownV S P x) (blockV S P c x.p.prio) S.rel ((aheadOf l x).map (ldOf S P)) (l.map (ldOf S P)) x.p.dl by unfold fixedV; rw [hxc])
  obtain ⟨V, hVV⟩ : ∃ V, fixedV S P l x = V := ⟨_, rfl⟩
  rw [hVV] at HV ⊢
  have HAT := hid (fun k y (hy : l[k]? = some y) => aheadOf_take (x := x) hy)
  obtain ⟨ow, how⟩ : ∃ y, ownV S P x = y := ⟨_, rfl⟩
  obtain ⟨bk, hbk⟩ : ∃ y, blockV S P c x.p.prio = y := ⟨_, rfl⟩
  rw [how] at HOW HV
  rw [hbk] at HBL HV
  have hq0 := blk_new w (.cells (encPt x).toArray 67)
  have hb0 := below_new (Below.refl w.heap.size w) (.cells (encPt x).toArray 67)
  have HQ0 := hid hq0
  have HB0 := hid hb0
  obtain ⟨i0, hi, hz0, hz1, hz2⟩ := info_parts Try.info_load
  have HX0 := hid (part_cells hq0)
  obtain ⟨aheadX, hax⟩ : ∃ f : List Pt → List Pt, f = fun l => aheadOf l x := ⟨_, rfl⟩
  have HAX := hid hax
  have HAT2 := hid (fun k y (hy : l[k]? = some y) => show aheadX (l.take (k + 1)) = if y.p.prio < x.p.prio then aheadX (l.take k) ++ [y] else aheadX (l.take k) by rw [hax]; exact HAT.out k y hy)
  have HA0 := hid (show aheadX (l.take 0) = [] by rw [hax]; rfl)
  have HALL := hid (show aheadX l = aheadOf l x by rw [hax])
  have HLN := hid (fun k => show (aheadX (l.take k)).length ≤ k by rw [hax]; exact Nat.le_trans (List.length_filter_le _ _) (by rw [List.length_take]; omega))
  rw [← HALL.out] at HV
  clear HAT HAX hax HALL
  obtain ⟨⟨pc, pb, pd, pp, ti⟩, tk, kk⟩ := x
  simp only at hxc HV HAT2 HOW HBL HX0
  subst hxc
  clear h hr hww hx hc8 hl hlf hml hVV how hbk hq0 hb0
  unfold ptV at HLD HOW HBL ⊢
  unfold ldV at HLD
  unfold encPt at HB0 HQ0
  simp only at HLD HOW HBL HB0 HQ0 ⊢
  go_enter Try.func47, Try.ntmps47
  go_upto_region 1 with fail
  obtain ⟨w0, hw0⟩ : ∃ w0, w.alloc (.cells #[.int .i64 (c : Int), .int .i64 pb, .int .i64 pd, .int .i64 pp, .bool ti, .int .i64 tk, .int .i64 kk] 67) = w0 := ⟨_, rfl⟩
  have hw0s : w0.heap.size = w.heap.size + 1 := by rw [← hw0]; simp
  rw [hw0] at HB0 HQ0 ⊢
  obtain ⟨D, hD⟩ : ∃ D, w.heap.size = D := ⟨_, rfl⟩
  rw [hD] at HQ0 hw0s ⊢
  have HBB := hid (fun V (k : Below w0.heap.size w0 V) => below_then HB0.out k)
  have HSZ := hid hw0s
  clear hw0 hw0s
  go_wp2_with fail
  go_loopw [14, 8, 9] (fun v u8 u9 wr => ∃ k : Nat, k ≤ m ∧ v = .int .i64 k ∧ Hid (wr.ownsRow w0.heap.size 118 3 u8 ((aheadX (l.take k)).map (ldOf S P)).length (flat encLd ((aheadX (l.take k)).map (ldOf S P)))) ∧ Hid (wr.ownsRow w0.heap.size 118 3 u9 k (flat encLd ((l.take k).map (ldOf S P)))) ∧ Hid (Apart u8 u9) ∧ Hid (Below w0.heap.size w0 wr)) (fun v _ _ _ => m - (intOf v).toNat)
  case atStart => exact ⟨0, by omega, rfl, hid (by rw [HA0.out]; exact World.ownsRow_nil _ _ _ _), hid (World.ownsRow_nil _ _ _ _), hid (Apart.nil _), hid (Below.refl _ _)⟩
  case round =>
    obtain ⟨k, hk, rfl, HO8, HO9, HAP, HB⟩ := hrel
    have hln := HLN.out k
    have hbb := HBB.out wr HB.out
    have hsz := HB.out.size
    by_cases hlt : k < m
    case neg =>
      obtain rfl : k = m := by omega
      have htk : l.take k = l := by rw [HML.out, List.take_length]
      have ho8 := HO8.out
      have ho9 := HO9.out
      rw [htk] at ho8 ho9
      have hr8 := ld_rows ho8
      have hr9 := ld_rows (l := l.map (ldOf S P)) (by rw [List.length_map, ← HML.out]; exact ho9)
      obtain ⟨A8, c8, rfl⟩ := own_slice ho8
      obtain ⟨A9, c9, rfl⟩ := own_slice ho9
      obtain ⟨n8, hn8⟩ : ∃ n8, ((aheadX l).map (ldOf S P)).length = n8 := ⟨_, rfl⟩
      rw [hn8] at hr8
      rw [hn8]
      have HR8 := hid hr8
      have HR9 := hid hr9
      obtain ⟨C, hC⟩ : ∃ C : World → Prop, C = fun X => Below wr.heap.size wr X := ⟨_, rfl⟩
      have hC0 : C wr.drew := by rw [hC]; exact (Below.refl wr.heap.size wr).drew
      have HCW := hid (fun X (q : C X) => show Below w.heap.size w X by rw [hC] at q; exact below_then hbb q)
      have HCT := hid (fun X Y (q : C X) (k : Below X.heap.size X Y) => show C Y by rw [hC] at q ⊢; exact below_then q k)
      have HFR := hid (fun X (q : C X) => HFR0.out X (HCW.out X q))
      have HFX := hid (fun X (q : C X) => part_cells (x := ⟨⟨(c : Int), pb, pd, pp, ti⟩, tk, kk⟩) ((fr0 (by rw [hC] at q; exact below_then HB.out q : Below w0.heap.size w0 X)).blk HQ0.out (fun h => h)))
      have HC1 := hid (fun X (q : C X) => (HOW.out X (HCW.out X q)).mono (fun e w' ⟨h1, h2⟩ => show e = Ending.returned (.int .i64 ow) ∧ C w' from ⟨h1, HCT.out X w' q h2⟩))
      have HC2 := hid (fun X (q : C X) => (HBL.out X (HCW.out X q)).mono (fun e w' ⟨h1, h2⟩ => show e = Ending.returned (.int .i64 bk) ∧ C w' from ⟨h1, HCT.out X w' q h2⟩))
      have HC3 := hid (fun X (q : C X) => (HBO.out X ow bk S.rel ((aheadX l).map (ldOf S P)) (l.map (ldOf S P)) A8 n8 c8 A9 k c9 pd (HR8.out.later ldR.stays (by rw [hC] at q; exact q)) (HR9.out.later ldR.stays (by rw [hC] at q; exact q))).mono (fun e w' ⟨h1, h2⟩ => show e = Ending.returned (numE V) ∧ C w' from ⟨by rw [h1, HV.out], HCT.out X w' q h2⟩))
      unfold numE at HC3
      simp only at HFX
      clear hC hr8 hr9 ho8 ho9 hn8 htk HO8 HO9 HAP hD
      obtain ⟨V1, V2⟩ := V
      simp only at HC3
      go_upto_region 9 with fail
      refine wp_region_class (C := C) (by kernel_rfl) (by kernel_rfl) hC0 ?_
      repeat (refine wpQuiet_step (fun K hK => ?_); rw [if_pos (by rfl)]; refine Exists.intro ?_ (And.intro (fun X HX => ?_) (hK _ ?_)); rotate_left; (focus (first | (obtain ⟨x0, x1, x2, x3, x4, x5, x6⟩ := HFX.out X HX; have r03 := (HFR.out X HX).2.2.2.1; (go_simp); all_goals (with_reducible rfl)) | (go_simp; exact HC1.out X HX) | (go_simp; exact HC2.out X HX) | (go_simp; exact HC3.out X HX))); clear hK K; try simp only [Act.put, List.setIfInBounds_toArray, List.set_cons_zero, List.set_cons_succ])
      refine wpQuiet_nil ?_
      intro wd hwd
      have HBD := hid (HCW.out wd hwd)
      clear hwd
      go_wp2_with fail
      go_ret2
      exact ⟨rfl, HBD.out⟩
    case pos =>
      obtain ⟨y, hy⟩ : ∃ y, l[k]? = some y := ⟨_, List.getElem?_eq_getElem (by have := HML.out; omega)⟩
      have hyf := HLF.out y (List.mem_of_getElem? hy)
      obtain ⟨b, o, cs, hA, hbl, _, hc, hrr⟩ := HL.out.at hy
      subst hA
      have hr' : cs = encPt y := hrr
      subst hr'
      have HL1 := hid (fun V (q : Below w.heap.size w V) => HLD.out V q y hyf)
      have HA2 := hid (HAT2.out k y hy)
      have HF9 := hid (show flat encLd ((l.take (k + 1)).map (ldOf S P)) = flat encLd ((l.take k).map (ldOf S P)) ++ encLd (ldOf S P y) by rw [take_next hy, List.map_append, flat_append]; simp [flat])
      have HF8 := hid (show flat encLd ((aheadX (l.take k) ++ [y]).map (ldOf S P)) = flat encLd ((aheadX (l.take k)).map (ldOf S P)) ++ encLd (ldOf S P y) by rw [List.map_append, flat_append]; simp [flat])
      obtain ⟨X8, hX8⟩ : ∃ X, flat encLd ((aheadX (l.take k)).map (ldOf S P)) = X := ⟨_, rfl⟩
      obtain ⟨X9, hX9⟩ : ∃ X, flat encLd ((l.take k).map (ldOf S P)) = X := ⟨_, rfl⟩
      obtain ⟨⟨la, lb, lc⟩, hld⟩ : ∃ z, ldOf S P y = z := ⟨_, rfl⟩
      rw [hld] at HL1 HF9 HF8
      rw [hX8] at HO8 HF8
      rw [hX9] at HO9 HF9
      rw [show encLd ⟨la, lb, lc⟩ = [.int .i64 la, .int .i64 lb, .int .i64 lc] from rfl] at HF8 HF9
      simp only at HL1
      have HX8 := hid hX8
      obtain ⟨⟨qc, qb, qd, qp, qt⟩, qk, qj⟩ := y
      unfold encPt at hc
      simp only at hc HA2 HL1
      have e0 : wr.cell? ⟨b, o + k * 7, none⟩ = some (.int .i64 qc) := (hbb.cell (p := ⟨b, o + k * 7, none⟩) hbl).trans (by simpa using hc 0 _ rfl)
      have e1 : wr.cell? ⟨b, o + k * 7 + 1, none⟩ = some (.int .i64 qb) := (hbb.cell (p := ⟨b, o + k * 7 + 1, none⟩) hbl).trans (hc 1 _ rfl)
      have e2 : wr.cell? ⟨b, o + k * 7 + 2, none⟩ = some (.int .i64 qd) := (hbb.cell (p := ⟨b, o + k * 7 + 2, none⟩) hbl).trans (hc 2 _ rfl)
      have e3 : wr.cell? ⟨b, o + k * 7 + 3, none⟩ = some (.int .i64 qp) := (hbb.cell (p := ⟨b, o + k * 7 + 3, none⟩) hbl).trans (hc 3 _ rfl)
      have e4 : wr.cell? ⟨b, o + k * 7 + 4, none⟩ = some (.bool qt) := (hbb.cell (p := ⟨b, o + k * 7 + 4, none⟩) hbl).trans (hc 4 _ rfl)
      have e5 : wr.cell? ⟨b, o + k * 7 + 5, none⟩ = some (.int .i64 qk) := (hbb.cell (p := ⟨b, o + k * 7 + 5, none⟩) hbl).trans (hc 5 _ rfl)
      have e6 : wr.cell? ⟨b, o + k * 7 + 6, none⟩ = some (.int .i64 qj) := (hbb.cell (p := ⟨b, o + k * 7 + 6, none⟩) hbl).trans (hc 6 _ rfl)
      clear hy hyf hbl hc hrr hld hX8 hX9 hbb
      obtain ⟨n8, hn8⟩ : ∃ n8, ((aheadX (l.take k)).map (ldOf S P)).length = n8 := ⟨_, rfl⟩
      have hn8k : n8 ≤ k := by rw [← hn8, List.length_map]; exact hln
      have HN8 := hid hn8
      rw [hn8] at HO8
      obtain ⟨A8, c8, rfl⟩ := own_slice HO8.out
      obtain ⟨A9, c9, rfl⟩ := own_slice HO9.out
      clear hn8
      go_upto_region 5 with fail
      have hq7 := blk_new wr (.cells #[.int .i64 qc, .int .i64 qb, .int .i64 qd, .int .i64 qp, .bool qt, .int .i64 qk, .int .i64 qj] 67)
      have HB7 := hid (below_new HB.out (.cells #[.int .i64 qc, .int .i64 qb, .int .i64 qd, .int .i64 qp, .bool qt, .int .i64 qk, .int .i64 qj] 67))
      have HO87 := hid (HO8.out.alloc (.cells #[.int .i64 qc, .int .i64 qb, .int .i64 qd, .int .i64 qp, .bool qt, .int .i64 qk, .int .i64 qj] 67))
      have HO97 := hid (HO9.out.alloc (.cells #[.int .i64 qc, .int .i64 qb, .int .i64 qd, .int .i64 qp, .bool qt, .int .i64 qk, .int .i64 qj] 67))
      obtain ⟨E, hE⟩ : ∃ E, wr.heap.size = E := ⟨_, rfl⟩
      have HNE8 := hid (show ∀ k', (Value.slice A8 n8 c8).ownBlock = some k' → k' ≠ E from fun k' hk' e => by have := (HO8.out.lt k' hk').2; omega)
      have HNE9 := hid (show ∀ k', (Value.slice A9 k c9).ownBlock = some k' → k' ≠ E from fun k' hk' e => by have := (HO9.out.lt k' hk').2; omega)
      rw [hE] at hq7 ⊢
      generalize wr.alloc (.cells #[.int .i64 qc, .int .i64 qb, .int .i64 qd, .int .i64 qp, .bool qt, .int .i64 qk, .int .i64 qj] 67) = w7 at *
      have HQ7 := hid hq7
      have l0 : w7.cell? ⟨E, 0, none⟩ = some (.int .i64 qc) := blk_cell hq7 0
      have l1 : w7.cell? ⟨E, 1, none⟩ = some (.int .i64 qb) := blk_cell hq7 1
      have l2 : w7.cell? ⟨E, 2, none⟩ = some (.int .i64 qd) := blk_cell hq7 2
      have l3 : w7.cell? ⟨E, 3, none⟩ = some (.int .i64 qp) := blk_cell hq7 3
      have l4 : w7.cell? ⟨E, 4, none⟩ = some (.bool qt) := blk_cell hq7 4
      have l5 : w7.cell? ⟨E, 5, none⟩ = some (.int .i64 qk) := blk_cell hq7 5
      have l6 : w7.cell? ⟨E, 6, none⟩ = some (.int .i64 qj) := blk_cell hq7 6
      have HC7 := hid (HL1.out w7 (HBB.out w7 HB7.out))
      clear hE e0 e1 e2 e3 e4 e5 e6 hq7 HB HO8 HO9
      go_wp2_with fail
      refine HC7.out.mono ?_
      rintro e w8 ⟨rfl, hb8⟩
      have HB8 := hid (below_then HB7.out hb8)
      have HO88 := hid (own_kept HO87.out (fr0 hb8) (fun _ _ h => h))
      have HO98 := hid (own_kept HO97.out (fr0 hb8) (fun _ _ h => h))
      have HQ8 := hid ((fr0 hb8).blk HQ7.out (fun h => h))
      have hsz8 := HB8.out.size
      clear hb8 l0 l1 l2 l3 l4 l5 l6 HC7 HB7 HO87 HO97 HQ7
      go_wp2_with (at_builtin; refine append_new (W := w8) rfl _ _ 116 rfl w0.heap.size 118 i0 _ 3 24 Try.underlying116 hi hz0 hz1 hz2 rfl (by decide) #[.int .i64 la, .int .i64 lb, .int .i64 lc] (.slice A9 k c9) k X9 rfl _ rfl rfl HO98.out rfl (three_one _ _ _) (by unfold maxLen; omega) (by omega) hsz8 ?_)
      intro v9 w9 ho9 hf9 hl9
      have HB9 := hid (show Below w0.heap.size w0 w9 from ((Fr.of_below (S := NoB) HB8.out).trans hf9 (fun b hb => .inr (own_ge HO98.out b hb))).no)
      have HO89 := hid (own_kept HO88.out hf9 (fun b hb e => HAP.out b hb e))
      have HAP9 := hid (HAP.out.symm.grown hl9 HO88.out (Nat.le_succ _))
      have HQ9 := hid (hf9.blk HQ8.out (fun h => HNE9.out _ h rfl))
      obtain ⟨A9', c9', rfl⟩ := own_slice ho9
      have HO99 := hid (show w9.ownsRow w0.heap.size 118 3 (.slice A9' (k + 1) c9') (k + 1) (flat encLd ((l.take (k + 1)).map (ldOf S P))) by rw [HF9.out]; exact ho9)
      have l3 : w9.cell? ⟨E, 3, none⟩ = some (.int .i64 qp) := blk_cell HQ9.out 3
      have p3 : w9.cell? ⟨D, 3, none⟩ = some (.int .i64 pp) := blk_cell ((fr0 HB9.out).blk HQ0.out (fun h => h)) 3
      have HE9 := hid (HBB.out w9 HB9.out)
      clear ho9 hf9 hl9 HO88 HO98 HAP HB8 HQ8
      go_upto_if 30 with fail
      clear l3 p3
      by_cases hpp : qp < pp
      case neg =>
        have hd : decide (qp < pp) = false := decide_eq_false hpp
        have HA3 := hid (show aheadX (l.take (k + 1)) = aheadX (l.take k) by rw [HA2.out, if_neg hpp])
        have HO8E := hid (show w9.ownsRow w0.heap.size 118 3 (.slice A8 n8 c8) ((aheadX (l.take (k + 1))).map (ldOf S P)).length (flat encLd ((aheadX (l.take (k + 1))).map (ldOf S P))) by rw [HA3.out, HX8.out, HN8.out]; exact HO89.out)
        have HAPE := hid HAP9.out.symm
        go_wp2_with fail
        go_roundw
        case rel => exact ⟨k + 1, by omega, by go_num, HO8E, HO99, HAPE, HB9⟩
        case measure => simp [intOf]; omega
      case pos =>
        have hd : decide (qp < pp) = true := decide_eq_true hpp
        have HA3 := hid (show aheadX (l.take (k + 1)) = aheadX (l.take k) ++ [⟨⟨qc, qb, qd, qp, qt⟩, qk, qj⟩] by rw [HA2.out, if_pos hpp])
        have l0 : w9.cell? ⟨E, 0, none⟩ = some (.int .i64 qc) := blk_cell HQ9.out 0
        have l1 : w9.cell? ⟨E, 1, none⟩ = some (.int .i64 qb) := blk_cell HQ9.out 1
        have l2 : w9.cell? ⟨E, 2, none⟩ = some (.int .i64 qd) := blk_cell HQ9.out 2
        have l3 : w9.cell? ⟨E, 3, none⟩ = some (.int .i64 qp) := blk_cell HQ9.out 3
        have l4 : w9.cell? ⟨E, 4, none⟩ = some (.bool qt) := blk_cell HQ9.out 4
        have l5 : w9.cell? ⟨E, 5, none⟩ = some (.int .i64 qk) := blk_cell HQ9.out 5
        have l6 : w9.cell? ⟨E, 6, none⟩ = some (.int .i64 qj) := blk_cell HQ9.out 6
        have HC9 := hid (HL1.out w9 HE9.out)
        go_wp2_with fail
        refine HC9.out.mono ?_
        rintro e wa ⟨rfl, hba⟩
        have HBa := hid (below_then HB9.out hba)
        have HO8a := hid (own_kept HO89.out (fr0 hba) (fun _ _ h => h))
        have HO9a := hid (own_kept HO99.out (fr0 hba) (fun _ _ h => h))
        have hsza := HBa.out.size
        clear hba l0 l1 l2 l3 l4 l5 l6 HC9
        go_wp2_with (at_builtin; refine append_new (W := wa) rfl _ _ 116 rfl w0.heap.size 118 i0 _ 3 24 Try.underlying116 hi hz0 hz1 hz2 rfl (by decide) #[.int .i64 la, .int .i64 lb, .int .i64 lc] (.slice A8 n8 c8) n8 X8 rfl _ rfl rfl HO8a.out rfl (three_one _ _ _) (by unfold maxLen; omega) (by omega) hsza ?_)
        intro vb wb hob hfb hlb
        have HBb := hid (show Below w0.heap.size w0 wb from ((Fr.of_below (S := NoB) HBa.out).trans hfb (fun b hb => .inr (own_ge HO8a.out b hb))).no)
        have HO9b := hid (own_kept HO9a.out hfb (fun b hb e => HAP9.out b hb e))
        have HAPb := hid (HAP9.out.symm.grown hlb HO9a.out (Nat.le_succ _))
        obtain ⟨Ab, cb, rfl⟩ := own_slice hob
        have HO8E := hid (show wb.ownsRow w0.heap.size 118 3 (.slice Ab (n8 + 1) cb) ((aheadX (l.take (k + 1))).map (ldOf S P)).length (flat encLd ((aheadX (l.take (k + 1))).map (ldOf S P))) by
          rw [HA3.out, HF8.out, List.map_append, List.length_append, HN8.out]
          exact hob)
        clear hob hfb hlb
        go_wp2_with fail
        go_roundw
        case rel => exact ⟨k + 1, by omega, by go_num, HO8E, HO9b, HAPb, HBb⟩
        case measure => simp [intOf]; omega
end
end Go.Proofs.Ytppildaahmlfmaa
