/- Package ipi: Take (contract). -/
import Derived.Test.YtbkjlohlfkokpaaIpi4
import Derived.Deep.CutBlock
set_option linter.unusedVariables false
set_option linter.unusedSimpArgs false
namespace Go.Proofs.Ytbkjlohlfkokpaa
open Go.RowKit Go.Sort

section
variable {w w' : World} {base b bm n : Nat} {cores turn : Int} {f : Int × Int → Option (Int × Int)} {K : List (Int × Int)}
/-- The sort of what is due. -/
theorem take_sort {B2 B3 m cap : Nat} {A : Option Addr} {core : Int} {xs : List Int} (h2 : w.cell? ⟨B2, 0, none⟩ = some (.pointer (some ⟨b, 0, none⟩))) (h3 : w.cell? ⟨B3, 0, none⟩ = some (.int .i64 core)) (c2 : w.cell? ⟨b, 2, none⟩ = some (.map (some bm)))
    (HM : MapP w bm n f) (hc : (Lit.int .i64 core).wf = true) (hlo : B2 < base ∧ B3 < base ∧ b < base ∧ bm < base) (hown : w.ownsRow base 3 1 (.slice A m cap) m (intCells xs)) (hm : m = xs.length) (hxs : ∀ x ∈ xs, 0 ≤ x ∧ x < 24) (hml : m < 1000000) :
    Calls Try.prog 67 #[.slice A m cap, .func (.func 68) #[] #[.pointer (some ⟨B2, 0, none⟩), .pointer (some ⟨B3, 0, none⟩)]] w fun e w' => e = .returned (.tuple #[]) ∧
      ∃ l, l.Perm xs ∧ l.Pairwise (fun x y => ¬ lexLt (gN f core y) (gN f core x)) ∧ w'.ownsRow base 3 1 (.slice A m cap) m (intCells l) ∧ Fr (fun k => (Value.slice A m cap).ownBlock = some k) w w' := by
  by_cases h0 : m = 0
  · subst h0
    have hx0 : xs = [] := List.length_eq_zero_iff.1 hm.symm
    subst hx0
    have hs := AnyF.slices_SortFunc_none (P := Try.prog) (ρ := Try.laysSlF6_f67_ren) { Try.laysSlF6_f67 with } A cap (.func (.func 68) #[] #[.pointer (some ⟨B2, 0, none⟩), .pointer (some ⟨B3, 0, none⟩)]) w
    refine Calls.mono hs ?_
    rintro e w' ⟨rfl, rfl⟩
    exact ⟨rfl, [], List.Perm.refl _, List.Pairwise.nil, hown, Fr.refl _ _⟩
  · obtain ⟨g, cap', cur, e, hb, hg, -⟩ := own_shape hown (by omega)
    injection e with e1 _ e3
    subst e1 e3
    obtain ⟨d, hd1, hd2⟩ : ∃ d : Array (Fin 24), d.toList.map ofF = xs ∧ d.size = m := ⟨(xs.map toF).toArray, ofF_list xs hxs, by simp [hm]⟩
    have hH := holds_of_own hd2.symm (hd1.symm ▸ hown)
    have hs := Try.slices_SortFunc encT (fun _ => rfl) (cfN f core) (swoN f core) 68 #[.pointer (some ⟨B2, 0, none⟩), .pointer (some ⟨B3, 0, none⟩)] g 0 cap d w
      (enters_of Try.func68 (by kernel_rfl) rfl) (take_lays h2 h3 c2 HM hc (by omega) (by omega) (by omega) (by omega)) hH (blk_lt hg) (by omega)
    rw [hd2] at hs
    refine hs.mono ?_
    rintro e w' ⟨rfl, d', q, os, hp, hso, rfl⟩
    have hsz : d'.size = m := by rw [← hd2]; exact (hd2.symm ▸ hp).1
    refine ⟨rfl, d'.toList.map ofF, ?_, ?_, own_sorted hown (by omega) d' hsz q os, (fr_sortWorld encT w g 0 q d' os).mono (fun x hx => .inl (by rw [show x = g from hx]; rfl))⟩
    · rw [← hd1]
      exact (perm_of_permIn (hd2.symm ▸ hp)).map ofF
    · exact sorted_pairwise (by rw [hsz]; exact hso)
/-- The two blocks of what the closure captures. -/
structure TBox (B b : Nat) (core : Int) (w : World) : Prop where
  h2 : w.heap[B]? = some (.cells #[.pointer (some ⟨b, 0, none⟩)] 24 (0, 0))
  h3 : w.heap[B + 1]? = some (.cells #[.int .i64 core] 3 (0, 0))
theorem TBox.kept {S : Nat → Prop} {B : Nat} {core : Int} (h : TBox B b core w) (k : Fr S w w') (n0 : ¬ S B) (n1 : ¬ S (B + 1)) : TBox B b core w' := ⟨k.blk h.h2 n0, k.blk h.h3 n1⟩
set_option maxRecDepth 100000 in
set_option maxHeartbeats 1600000 in
theorem ipi_take (H : IpiAt w base b bm n cores turn f) (hK : Keys f K) (hT : ∀ p ∈ K, 0 ≤ p.2 ∧ p.2 < 24) (hl : K.length < 1000000) {core now : Int} (hc : (Lit.int .i64 core).wf = true) :
    Calls Try.prog 22 #[.pointer (some ⟨b, 0, none⟩), .int .i64 core, .int .i64 now] w fun e w' => ∃ l v, TakeR f K core now l ∧ e = .returned v ∧ w'.ownsRow w.heap.size 3 1 v l.length (intCells l) ∧
      IpiAt w' base b bm n cores turn (takeF f core l) ∧ Fr (ISet b bm) w w' := by
  have c2 : w.cell? ⟨b, 2, none⟩ = some (.map (some bm)) := blk_cell H.hb 2
  have HH := hid H
  have HK := hid hK
  have HT := hid hT
  have HC := hid hc
  have hbl := (H.lt bm (.inr rfl)).2
  have hbb := (H.lt b (.inl rfl)).2
  obtain ⟨i0, hi, hz0, hz1, hz2⟩ := info_parts Try.info_int
  clear H hK hT hc
  go_enter Try.func22, Try.ntmps22
  go_wp2_with (at_range; refine wp_prange rfl _ _ rfl Try.underlying78 (HH.out.map.kept (((Fr.refl NoB w).alloc _).alloc _) (fun h => h)) rfl ?_; intro w0 cnt hR0 hF0 hs0)
  go_frame
  have e2 : ((w.alloc (.cells #[.pointer (some ⟨b, 0, none⟩)] 24)).alloc (.cells #[.int .i64 core] 3)).heap.size = w.heap.size + 2 := by simp
  rw [e2] at hR0 hs0 ⊢
  have HX0 := hid (TBox.kept (w := (w.alloc (.cells #[.pointer (some ⟨b, 0, none⟩)] 24)).alloc (.cells #[.int .i64 core] 3)) (B := w.heap.size) (b := b) (core := core)
    ⟨blk_old (blk_new w _) _, by have := blk_new (w.alloc (.cells #[.pointer (some ⟨b, 0, none⟩)] 24)) (.cells #[.int .i64 core] 3); simpa using this⟩ hF0 (fun h => h) (fun h => h))
  have HB0 := hid (below_then (((Below.refl _ w).alloc (Nat.le_refl _) _).alloc (by simp) _) hF0.no : Below w.heap.size w w0)
  have HR0 := hid hR0
  clear hR0 hF0 e2
  go_loopw [7] (fun v wr => ∃ (L : Int × Int → Bool) (cnt m cap : Nat) (A : Option Addr) (xs : List Int), v = .slice A m cap ∧ Below w.heap.size w wr ∧ TBox w.heap.size b core wr ∧ RangeP wr bm (w.heap.size + 2) n f L cnt ∧ w.heap.size + 3 ≤ wr.heap.size ∧
    wr.ownsRow (w.heap.size + 3) 3 1 (.slice A m cap) m (intCells xs) ∧ Hid (m = xs.length) ∧ Hid (xs.Perm ((K.filter (fun z => dueQ f core now z && !L z)).map Prod.snd))) (fun _ wr => wr.rangeLeft bm (w.heap.size + 2))
  case atStart =>
    refine ⟨_, _, 0, 0, none, [], rfl, HB0.out, HX0.out, HR0.out, by omega, World.ownsRow_nil _ _ _ _, rfl, ?_⟩
    rw [show K.filter (fun z => dueQ f core now z && !(f z).isSome) = [] by
      rw [List.filter_eq_nil_iff]
      intro p hp
      simp [(HK.out.iff p (HK.out.wf p hp)).2 hp]]
    exact hid (List.Perm.refl _)
  case round =>
    obtain ⟨L, cnt, m, cap, A, xs, rfl, hb, hX, hR, hsz, hown, hm, hp⟩ := hrel
    have hml : m < 1000000 := by
      have h1 := hp.out.length_eq
      rw [List.length_map] at h1
      have h2 : (K.filter (fun z => dueQ f core now z && !L z)).length ≤ K.length := List.length_filter_le _ _
      have h3 := hm.out
      omega
    go_wp2_with (at_next; refine wp_pnext rfl _ rfl hR rfl ?_ ?_)
    · intro hdone
      have hdn : K.filter (fun z => dueQ f core now z && !L z) = K.filter (dueQ f core now) := perm_done _ _ _ (fun p hp => hdone p.1 p.2 (HK.out.wf p hp))
      rw [hdn] at hp
      have HP := hp
      have hxs : ∀ x ∈ xs, 0 ≤ x ∧ x < 24 := fun x hx => by
        obtain ⟨p, hp1, rfl⟩ := List.mem_map.1 (HP.out.subset hx)
        exact HT.out p (List.mem_filter.1 hp1).1
      have hbw : wr.heap[b]? = some (.cells #[.int .i64 cores, .int .i64 turn, .map (some bm)] 80 (0, 0)) := (fr0 hb).blk HH.out.hb (fun h => h)
      have c2' : wr.cell? ⟨b, 2, none⟩ = some (.map (some bm)) := blk_cell hbw 2
      have HS := hid (take_sort (blk_cell hX.h2 0) (blk_cell hX.h3 0) c2' hR.owns HC.out (⟨by omega, by omega, by omega, by omega⟩ : w.heap.size < w.heap.size + 3 ∧ w.heap.size + 1 < w.heap.size + 3 ∧ b < w.heap.size + 3 ∧ bm < w.heap.size + 3) hown hm.out hxs hml)
      have HB := hid hb
      have HX := hid hX
      have HM := hid hR.owns
      have HO := hid hown
      have HBW := hid hbw
      clear hp hdn hdone hxs hR hX hb hown c2' hbw
      go_wp2_with (go_at_call 67; refine HS.out.mono ?_; rintro e w2 ⟨rfl, l, hlp, hls, hown2, hfr2⟩)
      have hml2 : m = l.length := by rw [hlp.length_eq]; exact hm.out
      have hge := own_ge HO.out
      have HTR : Hid (TakeR f K core now l) := ⟨hlp.trans HP.out, hls⟩
      have HX2 := hid (HX.out.kept hfr2 (fun e => by have := hge _ e; omega) (fun e => by have := hge _ e; omega))
      have HM2 := hid (HM.out.kept hfr2 (fun e => by have := hge _ e; omega))
      have HB2 := hid (((Fr.of_below (S := NoB) HB.out).trans hfr2 (fun x hx => .inr (by have := hge x hx; omega))).no)
      have HBW2 := hid (hfr2.blk HBW.out (fun e => by have := hge _ e; omega))
      have HL2 := hid hml2
      have HO2 := hid hown2
      have HXS : Hid (∀ x ∈ l, 0 ≤ x ∧ x < 24) := hid (fun x hx => by
        obtain ⟨p, hp1, rfl⟩ := List.mem_map.1 (HTR.out.perm.subset hx)
        exact HT.out p (List.mem_filter.1 hp1).1)
      have HGE := hid hge
      have hsz2 := hfr2.size
      clear hlp hls hown2 hfr2 hml2 hge hm HP HS HX HM HB HBW HO
      go_wp2_with fail
      go_loopw [42] (fun i wr2 => ∃ k : Nat, k ≤ m ∧ i = .int .i64 k ∧ MapP wr2 bm n (takeF f core (l.take k)) ∧ Fr (One bm) w2 wr2) (fun i _ => m - (intOf i).toNat)
      case atStart => exact ⟨0, by omega, rfl, by rw [List.take_zero, takeF_nil]; exact HM2.out, Fr.refl _ _⟩
      case round =>
        obtain ⟨k, hk, rfl, hM, hF⟩ := hrel
        by_cases hlt : k < m
        · obtain ⟨x, hx⟩ : ∃ x, l[k]? = some x := ⟨l[k]'(by rw [← HL2.out]; exact hlt), by simp⟩
          obtain ⟨g, cap', cur, e, hb, hg, -⟩ := own_shape HO2.out (by omega)
          injection e with e1 _ e3
          subst e1 e3
          have hpw : pairW (core, x) := by
            have hmem : x ∈ l := List.mem_of_getElem? hx
            have := HXS.out x hmem
            exact ⟨HC.out, wfI (by omega) (by omega)⟩
          have cg : wr.cell? ⟨g, k, none⟩ = some (.int .i64 x) := hF.cell (own_cell0 HO2.out (by simp [intCells, hx])) (fun e => by have e2 : g = bm := e; omega)
          have hX3 := HX2.out.kept hF (fun e => by have e2 : w.heap.size = bm := e; omega) (fun e => by have e2 : w.heap.size + 1 = bm := e; omega)
          have x2 : wr.cell? ⟨w.heap.size, 0, none⟩ = some (.pointer (some ⟨b, 0, none⟩)) := blk_cell hX3.h2 0
          have x3 : wr.cell? ⟨w.heap.size + 1, 0, none⟩ = some (.int .i64 core) := blk_cell hX3.h3 0
          have hbm : b ≠ bm := HH.out.ne
          have x4 : wr.cell? ⟨b, 2, none⟩ = some (.map (some bm)) := blk_cell (hF.blk HBW2.out hbm) 2
          have HM3 := hid (hM.kept ((Fr.refl NoB wr).drewN 1) (fun h => h))
          have HF := hid hF
          have HX := hid hx
          have HPW := hid hpw
          clear hM hF hX3 hx hpw hbm hb hg hsz2
          go_upto_region 11 with fail
          go_region_law (first
            | (refine step_pdelete rfl _ _ _ rfl Try.underlying78 HM3.out (core, x) rfl rfl HPW.out ?_
               intro w3 hM4 hF4
               have HM4 := hid hM4
               have HF4 := hid (((HF.out.drewN 1).trans hF4 (fun x hx => .inl hx)) : Fr (One bm) w2 w3)
               clear hM4 hF4))
          all_goals
            go_wp2_with fail
            go_roundw
            case rel =>
              refine ⟨k + 1, by omega, by go_num, ?_, HF4.out⟩
              rw [List.take_add_one, HX.out, Option.toList_some, ← takeF_step]
              exact HM4.out
            case measure => simp [intOf]; omega
        · have hkm : k = m := by omega
          subst hkm
          have hM2 : MapP wr bm n (takeF f core l) := by
            rw [show l.take k = l from by rw [HL2.out]; exact List.take_length] at hM
            exact hM
          have HM3 := hid hM2
          have HF := hid hF
          clear hM hF hM2
          go_wp2_with fail
          go_ret
          have hge := HGE.out
          refine ⟨l, _, HTR.out, rfl, ?_, ⟨HF.out.blk HBW2.out HH.out.ne, HM3.out, HH.out.lo⟩, (Fr.of_below (S := ISet b bm) HB2.out).trans HF.out (fun x hx => .inl (.inr hx))⟩
          rw [← HL2.out]
          exact own_mono (own_kept HO2.out HF.out (fun x hx e => by have := hge x hx; have e2 : x = bm := e; omega)) (by omega)
    · intro pa pb qa qb w1 cnt1 hpw hL hfp hR1 hlt hF1 hs1 hen
      have hin := (HK.out.iff _ hpw).1 (by rw [hfp]; rfl)
      have hgd : (f (pa, pb)).getD (0, 0) = (qa, qb) := by rw [hfp]; rfl
      have hw1 : w.heap.size + 3 ≤ w1.heap.size := by omega
      have hB1 : Below w.heap.size w w1 := ((Fr.of_below (S := NoB) hb).trans hF1 (fun x hx => .inr (by rw [show x = w.heap.size + 2 from hx]; omega))).no
      have hX1 := hX.kept hF1 (by intro e; have : w.heap.size = w.heap.size + 2 := e; omega) (by intro e; have : w.heap.size + 1 = w.heap.size + 2 := e; omega)
      have hown1 := own_kept hown hF1 (fun k hk e => by have := own_ge hown k hk; have e2 : k = w.heap.size + 2 := e; omega)
      have HLT := hid (show cnt1 < wr.rangeLeft bm (w.heap.size + 2) by rw [hR.left_eq]; exact hlt)
      have HB1 := hid hB1
      have HX1 := hid hX1
      have HR1 := hid hR1
      have HL1 := hid hL
      have HIN := hid hin
      have HG := hid hgd
      have x3 : w1.cell? ⟨w.heap.size + 1, 0, none⟩ = some (.int .i64 core) := blk_cell hX1.h3 0
      have hxl := blk_lt hX1.h3
      have hxl2 := blk_lt hX1.h2
      clear hR hb hX hown hF1 hfp hL hR1 hlt hin hgd hB1 hX1 hs1 hsz
      simp only [pairV] at hen ⊢
      by_cases hq : pa = core ∧ qa ≤ now
      · have HP := hid (perm_step (dueQ f core now) L (pa, pb) HL1.out (by unfold dueQ; rw [HG.out]; simp [hq]) K HK.out.nodup HIN.out)
        have hcb : (pa == core) = true := beq_iff_eq.2 hq.1
        have hql := hq.2
        have HQ := hid hq.1
        clear hq
        go_wp2_with (at_builtin; refine append_new (W := (w1.alloc (.cells #[.int .i64 pa, .int .i64 pb] 85)).alloc (.cells #[.int .i64 qa, .int .i64 qb] 87)) rfl _ _ 34 rfl (w.heap.size + 3) 3 i0 _ 1 8 Try.underlying34 hi hz0 hz1 hz2 rfl (by decide) #[.int .i64 pb] (.slice A m cap) m (intCells xs) rfl (w1.heap.size + 1 + 1) rfl (by simp) ((hown1.alloc _).alloc _) rfl (one_one _) (by unfold maxLen; omega) (by omega) (by simp; omega) ?_)
        intro v2 w2 hown2 hfr hloc
        obtain ⟨A2, cap2, rfl⟩ := own_slice hown2
        have hge := own_ge hown1
        have h12 : w1.heap.size ≤ w2.heap.size := Nat.le_trans (by simp; omega) hfr.size
        have HB2 := hid (((Fr.of_below (S := NoB) (below_new (below_new HB1.out (.cells #[.int .i64 pa, .int .i64 pb] 85)) (.cells #[.int .i64 qa, .int .i64 qb] 87))).trans hfr (fun x hx => .inr (by have := hge x hx; omega))).no)
        have HX2 := hid ((HX1.out.kept (((Fr.refl NoB w1).alloc _).alloc _) (fun h => h) (fun h => h)).kept hfr (fun e => by have := hge _ e; omega) (fun e => by have := hge _ e; omega))
        have HR2 := hid ((HR1.out.kept (((Fr.refl NoB w1).alloc _).alloc _) (fun h => h) (fun h => h)).kept hfr (fun e => by have := hge _ e; omega) (fun e => by have := hge _ e; omega))
        have HO2 := hid hown2
        clear hown2 hfr hloc hge hown1
        go_wp2_with fail
        go_roundw
        case rel =>
          refine ⟨_, cnt1, m + 1, cap2, A2, xs ++ [pb], rfl, HB2.out, HX2.out, HR2.out, by omega, ?_, hid (by rw [List.length_append, hm.out]; rfl), hid ?_⟩
          · rw [show intCells (xs ++ [pb]) = intCells xs ++ [.int .i64 pb] by simp [intCells]]; exact HO2.out
          · refine List.Perm.trans ?_ (HP.out.map Prod.snd).symm
            rw [List.map_cons]
            exact (List.perm_append_singleton pb xs).trans (hp.out.cons pb)
        case measure => rw [HR2.out.left_eq]; exact HLT.out
      · have HP := hid (perm_skip (dueQ f core now) L (pa, pb) (by unfold dueQ; rw [HG.out]; simp; omega) K)
        have HB2 := hid (below_new (below_new HB1.out (.cells #[.int .i64 pa, .int .i64 pb] 85)) (.cells #[.int .i64 qa, .int .i64 qb] 87))
        have HX2 := hid (HX1.out.kept (((Fr.refl NoB w1).alloc (.cells #[.int .i64 pa, .int .i64 pb] 85)).alloc (.cells #[.int .i64 qa, .int .i64 qb] 87)) (fun h => h) (fun h => h))
        have HR2 := hid (HR1.out.kept (((Fr.refl NoB w1).alloc (.cells #[.int .i64 pa, .int .i64 pb] 85)).alloc (.cells #[.int .i64 qa, .int .i64 qb] 87)) (fun h => h) (fun h => h))
        have HO2 := hid ((hown1.alloc (.cells #[.int .i64 pa, .int .i64 pb] 85)).alloc (.cells #[.int .i64 qa, .int .i64 qb] 87))
        clear hown1
        by_cases hq1 : pa = core
        · have hcb : (pa == core) = true := beq_iff_eq.2 hq1
          have hql : ¬ qa ≤ now := fun h => hq ⟨hq1, h⟩
          clear hq hq1
          go_wp2_with fail
          go_roundw
          case rel =>
            refine ⟨_, cnt1, m, cap, A, xs, rfl, HB2.out, HX2.out, HR2.out, by simp; omega, HO2.out, hm, ?_⟩
            rw [HP.out]; exact hp
          case measure => rw [HR2.out.left_eq]; exact HLT.out
        · have hcb : (pa == core) = false := beq_eq_false_iff_ne.2 hq1
          clear hq hq1
          go_wp2_with fail
          go_roundw
          case rel =>
            refine ⟨_, cnt1, m, cap, A, xs, rfl, HB2.out, HX2.out, HR2.out, by simp; omega, HO2.out, hm, ?_⟩
            rw [HP.out]; exact hp
          case measure => rw [HR2.out.left_eq]; exact HLT.out
end
end Go.Proofs.Ytbkjlohlfkokpaa
