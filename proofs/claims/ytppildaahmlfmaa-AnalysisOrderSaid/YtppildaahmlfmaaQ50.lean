/- Joined: ChkRk, Ana8. -/
import Derived.Test.YtppildaahmlfmaaQ47
import Derived.Test.YtppildaahmlfmaaQ49
set_option linter.unusedVariables false
set_option linter.unusedSimpArgs false
/- What rank makes, as the methods find it; the pieces of a core may be reckoned with. -/
set_option linter.unusedVariables false
set_option linter.unusedSimpArgs false
namespace Go.Proofs.Ytppildaahmlfmaa
open Go.RowKit

theorem rkAt_of {w : World} {base R : Nat} {S : Sy} {A0 : Option Addr} {n c0 : Nat} {P : Pl} {g : Nat} {V : Nat → Value} {uw uc : Value} {X : Nat → Nat} (h : IsRk w base R S (.slice A0 n c0) P n g V uw uc X) (hs : IsSys w (.slice A0 n c0) S) (hp : planB S P = true) (hw : ∀ l ∈ P, ∀ p ∈ l, Pc.Wf p) (hn : n = P.length) (hlen : (partsOf P).length < 1000000) :
    ∃ Aw cw Ac cc, RkAt w R S P A0 n c0 (some ⟨g, 0, none⟩) n Aw cw Ac S.cores.toNat cc := by
  have hok := planB_ok hp
  obtain ⟨Aw, cw, rfl⟩ := own_slice h.wh
  obtain ⟨Ac, cc, rfl⟩ := own_slice h.ce.out
  refine ⟨Aw, cw, Ac, cc, h.hr, hs, ⟨?_, rankL_wf' hw hlen⟩, Rowp.ints h.wh (by rw [whereL_len]; exact hn), ?_⟩
  · have h1 := h.gr.plan
    rw [hn] at h1
    have h2 : (List.range P.length).map (rowsC S P S.cores) = rankL S P := rankL_rows (fun x hx => by
      obtain ⟨l, hl, hk⟩ := mem_parts.1 hx
      obtain ⟨t, ht⟩ : ∃ t, S.tasks[x.task]? = some t := ⟨_, List.getElem?_eq_getElem (by have := (List.getElem?_eq_some_iff.1 hl).1; have := hok.len; omega)⟩
      have h3 := listOk_pcs hok.sys (hok.sys.tasks t (List.mem_of_getElem? ht)) (hok.lists x.task t l ht hl)
      exact decide_eq_true (h3.2 x.p (List.mem_of_getElem? hk)).c1)
    rw [h2] at h1
    rw [hn]
    exact h1
  · have h1 := h.ce.plan (by unfold maxLen; have := hok.sys.resn; omega)
    exact h1
/-- What is known of a piece of a core of a ranked plan. -/
structure OnFit (S : Sy) (P : Pl) (n c : Nat) (x : Pt) : Prop where
  fit : PtFit S n x
  core : x.p.core = c
  row : ∃ pl, P[x.task]? = some pl ∧ x.k ≤ pl.length ∧ ∀ p ∈ pl, 0 ≤ p.bud ∧ p.bud ≤ 1099511627776
theorem on_fit {S : Sy} {P : Pl} {n c : Nat} {x : Pt} (hok : PlanOk S P) (hn : n = P.length) (hx : x ∈ onP (rankL S P) c) : OnFit S P n c x := by
  unfold onP at hx
  obtain ⟨hx1, hx2⟩ := List.mem_filter.1 hx
  have hxc : x.p.core = c := of_decide_eq_true hx2
  obtain ⟨l, hl, hk⟩ := mem_parts.1 hx1
  unfold rankL at hl
  rw [List.getElem?_mapIdx] at hl
  cases hpl : P[x.task]? with
  | none => rw [hpl] at hl; cases hl
  | some pl =>
    rw [hpl] at hl
    injection hl with hl
    subst hl
    unfold rankRow at hk
    rw [List.getElem?_map] at hk
    cases hp : pl[x.k]? with
    | none => rw [hp] at hk; cases hk
    | some p =>
      rw [hp] at hk
      injection hk with hk
      have hbud : x.p.bud = p.bud := by rw [← hk]; rfl
      have hlt := (List.getElem?_eq_some_iff.1 hpl).1
      obtain ⟨t, ht⟩ : ∃ t, S.tasks[x.task]? = some t := ⟨_, List.getElem?_eq_getElem (by have := hok.len; omega)⟩
      have hto := hok.sys.tasks t (List.mem_of_getElem? ht)
      have h3 := listOk_pcs hok.sys hto (hok.lists x.task t pl ht hpl)
      have hb : ∀ p ∈ pl, 0 ≤ p.bud ∧ p.bud ≤ 1099511627776 := fun q hq => by
        have h4 := h3.2 q hq
        have := h4.b0; have := h4.b1; have := hto.w1; have := hto.d1; have := hto.p1
        omega
      have hkl := (List.getElem?_eq_some_iff.1 hp).1
      exact ⟨⟨by omega, by rw [hbud]; exact hb p (List.mem_of_getElem? hp), by omega⟩, hxc, pl, hpl, by omega, hb⟩
theorem on_short {S : Sy} {P : Pl} {c : Int} (hok : PlanOk S P) : (onP (rankL S P) c).length ≤ 24 := by
  have h1 := on_len (P := rankL S P) (fun l hl => by
    unfold rankL at hl
    obtain ⟨i, hi, rfl⟩ := List.mem_mapIdx.1 hl
    have h2 := hok.dist _ (List.getElem_mem hi)
    unfold rankRow
    rw [List.map_map]
    exact h2) c
  have h2 : (rankL S P).length = P.length := by unfold rankL; simp
  have h3 := hok.len
  have h4 := hok.sys.len
  omega
theorem pt_rows {W : World} {base : Nat} {v : Value} {l : List Pt} (h : W.ownsRow base 67 7 v l.length (flat encPt l)) : Rowp 7 ptR W v l := Rowp.of_own encPt_len h rfl (by decide) (fun x _ => rfl)
theorem parts_short {S : Sy} {P : Pl} (hok : PlanOk S P) : (partsOf P).length < 1000000 := by
  have h1 := parts_len_le (P := P) (fun l hl => by
    obtain ⟨i, hi, rfl⟩ := List.mem_iff_getElem.1 hl
    obtain ⟨t, ht⟩ : ∃ t, S.tasks[i]? = some t := ⟨_, List.getElem?_eq_getElem (by have := hok.len; omega)⟩
    exact (listOk_pcs hok.sys (hok.sys.tasks t (List.mem_of_getElem? ht)) (hok.lists i t _ ht (List.getElem?_eq_getElem hi))).1)
  have h3 := hok.len
  have h4 := hok.sys.len
  omega
theorem rank_parts_short {S : Sy} {P : Pl} (hok : PlanOk S P) : (partsOf (rankL S P)).length < 1000000 := by
  have h1 := parts_len_le (P := rankL S P) (fun l hl => by
    unfold rankL at hl
    obtain ⟨i, hi, rfl⟩ := List.mem_mapIdx.1 hl
    obtain ⟨t, ht⟩ : ∃ t, S.tasks[i]? = some t := ⟨_, List.getElem?_eq_getElem (by have := hok.len; omega)⟩
    have := (listOk_pcs hok.sys (hok.sys.tasks t (List.mem_of_getElem? ht)) (hok.lists i t _ ht (List.getElem?_eq_getElem hi))).1
    unfold rankRow
    rw [List.length_map]
    exact this)
  have h2 : (rankL S P).length = P.length := by unfold rankL; simp
  have h3 := hok.len
  have h4 := hok.sys.len
  omega
end Go.Proofs.Ytppildaahmlfmaa
/- analysis.Own (contract). -/
set_option linter.unusedVariables false
set_option linter.unusedSimpArgs false
namespace Go.Proofs.Ytppildaahmlfmaa
open Go.RowKit

/-- The piece k of task t. -/
def pcAt (P : Pl) (t k : Int) : Option Pc := if 0 ≤ t ∧ 0 ≤ k then (P[t.toNat]?).bind (fun l => l[k.toNat]?) else none
/-- What Own returns. -/
def ownR (S : Sy) (P : Pl) (t k : Int) : Int × Int := if planB S P = true then match pcAt P t k with | none => (0, 1) | some p => (ownV S P ⟨p, t.toNat, k.toNat⟩, 0) else (0, 1)
theorem ownR_no {S : Sy} {P : Pl} {t k : Int} (h : planB S P = false ∨ pcAt P t k = none) : ownR S P t k = (0, 1) := by
  unfold ownR
  rcases h with h | h
  · rw [if_neg (by rw [h]; simp)]
  · rw [h]; split <;> rfl
section
variable {w : World}
set_option maxRecDepth 100000 in
set_option maxHeartbeats 12800000 in
theorem own17_any (S : Sy) (A0 : Option Addr) (n0 c0 : Nat) (A : Option Addr) (n cap : Nat) (P : Pl) (hs : IsSys w (.slice A0 n0 c0) S) (hp : IsPlan w (.slice A n cap) P) (t k : Int) :
    Calls Try.prog 14 #[sysV S (.slice A0 n0 c0), .slice A n cap, .int .i64 t, .int .i64 k] w fun e w' =>
      e = .returned (.tuple #[.int .i64 (ownR S P t k).1, .int .i64 (ownR S P t k).2]) ∧ Below w.heap.size w w' := by
  have hn := hp.rows.len
  have hn0 := hs.tasks.len
  have HS := hid hs
  have HP := hid hp
  have HN := hid hn
  have HN0 := hid hn0
  have HRK := hid (fun W (h : Below w.heap.size w W) => prank_any (w := W) S A0 n0 c0 A n cap P (hs.later h) (hp.later h))
  have hq0 := blk_new w (.cells (sysC S (.slice A0 n0 c0)) 24)
  have HSY := hid (show SyAt w (w.alloc (.cells (sysC S (.slice A0 n0 c0)) 24)) w.heap.size S (.slice A0 n0 c0) from ⟨hq0, below_new (Below.refl w.heap.size w) _⟩)
  have s00 := blk_cell hq0 0
  have s01 := blk_cell hq0 1
  have s02 := blk_cell hq0 2
  have s03 := blk_cell hq0 3
  have s04 := blk_cell hq0 4
  have s05 := blk_cell hq0 5
  have s06 := blk_cell hq0 6
  have s07 := blk_cell hq0 7
  have s08 := blk_cell hq0 8
  have HNO := hid (fun h => @ownR_no S P t k h)
  have HYES := hid (fun (p : Pc) (h1 : planB S P = true) (h2 : pcAt P t k = some p) => show ownR S P t k = (ownV S P ⟨p, t.toNat, k.toNat⟩, 0) by unfold ownR; rw [if_pos h1, h2])
  obtain ⟨⟨V0, V1⟩, hV⟩ : ∃ V, ownR S P t k = V := ⟨_, rfl⟩
  rw [hV] at HNO HYES ⊢
  clear hs hp hn hn0 hV hq0
  simp only
  unfold sysV at HRK ⊢
  unfold sysC at HSY s00 s01 s02 s03 s04 s05 s06 s07 s08
  go_enter Try.func14, Try.ntmps14
  go_wp2_with fail
  refine (HRK.out _ HSY.out.below).mono ?_
  intro e w1 hor
  rcases hor with ⟨hpb, rfl, hb1⟩ | ⟨hpb, R, g, Vf, uw, uc, X, rfl, hk, hb1⟩
  · have HB := hid (below_then HSY.out.below hb1)
    obtain ⟨rfl, rfl⟩ : V0 = 0 ∧ V1 = 1 := Prod.mk.inj (HNO.out (.inl hpb))
    clear HNO HYES hb1 hpb HSY HRK s00 s01 s02 s03 s04 s05 s06 s07 s08
    go_wp2_with fail
    go_ret2
    exact ⟨rfl, HB.out⟩
  · have hok := planB_ok hpb
    have hnn : n = n0 := by have := hok.len; have := HN.out; have := HN0.out; omega
    subst hnn
    have hn24 : n ≤ 24 := by have := hok.sys.len; have := hok.len; have := HN.out; omega
    obtain ⟨Aw, cw, Ac, cc, hra⟩ := rkAt_of hk (HS.out.later (below_then HSY.out.below hb1)) hpb HP.out.wf HN.out (parts_short hok)
    have HRA := hid hra
    have HOK := hid hok
    have HPB := hid hpb
    have HB := hid (below_then HSY.out.below hb1)
    have HRT := hid (show rightS S = true by unfold planB at hpb; simp only [Bool.and_eq_true] at hpb; exact hpb.1.1.1.1)
    have HWW := hid (whereL_wf HP.out.wf)
    have r09 := hra.cells.2.2.2.2.2.2.2.2.2.1
    clear hb1 hpb hk hra hok s00 s01 s02 s03 s04 s05 s06 s07 s08 HSY HRK
    by_cases ht0 : 0 ≤ t
    case neg =>
      have d0 : decide (t < 0) = true := decide_eq_true (by omega)
      obtain ⟨rfl, rfl⟩ : V0 = 0 ∧ V1 = 1 := Prod.mk.inj (HNO.out (.inr (by unfold pcAt; rw [if_neg (fun h => ht0 h.1)])))
      clear HNO HYES r09
      go_wp2_with fail
      go_ret2
      exact ⟨rfl, HB.out⟩
    case pos =>
      have d0 : decide (t < 0) = false := decide_eq_false (by omega)
      obtain ⟨i, rfl⟩ : ∃ i : Nat, t = i := ⟨t.toNat, by omega⟩
      by_cases htn : i < n
      case neg =>
        have d1 : decide ((n : Int) ≤ i) = true := decide_eq_true (by omega)
        obtain ⟨rfl, rfl⟩ : V0 = 0 ∧ V1 = 1 := Prod.mk.inj (HNO.out (.inr (by unfold pcAt; rw [Int.toNat_natCast, List.getElem?_eq_none (by have := HN.out; omega)]; split <;> rfl)))
        clear HNO HYES r09
        go_wp2_with fail
        go_ret2
        exact ⟨rfl, HB.out⟩
      case pos =>
        have d1 : decide ((n : Int) ≤ i) = false := decide_eq_false (by omega)
        by_cases hk0 : 0 ≤ k
        case neg =>
          have d2 : decide (k < 0) = true := decide_eq_true (by omega)
          obtain ⟨rfl, rfl⟩ : V0 = 0 ∧ V1 = 1 := Prod.mk.inj (HNO.out (.inr (by unfold pcAt; rw [if_neg (fun h => hk0 h.2)])))
          clear HNO HYES r09
          go_wp2_with fail
          go_ret2
          exact ⟨rfl, HB.out⟩
        case pos =>
          have d2 : decide (k < 0) = false := decide_eq_false (by omega)
          obtain ⟨j, rfl⟩ : ∃ j : Nat, k = j := ⟨k.toNat, by omega⟩
          obtain ⟨pl, hpl⟩ : ∃ pl, P[i]? = some pl := ⟨_, List.getElem?_eq_getElem (by have := HN.out; omega)⟩
          obtain ⟨b2, o2, cs2, hA2, hbl2, _, hc2, ul, hv1, hv2⟩ := HP.out.rows.at hpl
          subst hA2
          subst hv1
          obtain ⟨A3, c3, hv3, _⟩ := hv2.shape
          obtain ⟨m3, hm3⟩ : ∃ m, m = pl.length := ⟨_, rfl⟩
          rw [← hm3] at hv3
          subst hv3
          have HM3 := hid hm3
          have q0 : w1.cell? ⟨b2, o2 + i, none⟩ = some (.slice A3 m3 c3) := (HB.out.cell (p := ⟨b2, o2 + i, none⟩) hbl2).trans (by simpa using hc2 0 _ rfl)
          have HPL := hid hpl
          clear hm3 hc2 hbl2 hpl hv2
          by_cases hkm : j < m3
          case neg =>
            have d3 : decide ((m3 : Int) ≤ j) = true := decide_eq_true (by omega)
            obtain ⟨rfl, rfl⟩ : V0 = 0 ∧ V1 = 1 := Prod.mk.inj (HNO.out (.inr (by unfold pcAt; rw [if_pos (by omega), Int.toNat_natCast, HPL.out]; exact List.getElem?_eq_none (by rw [Int.toNat_natCast, ← HM3.out]; omega))))
            clear HNO HYES r09
            go_wp2_with fail
            go_ret2
            exact ⟨rfl, HB.out⟩
          case pos =>
            have d3 : decide ((m3 : Int) ≤ j) = false := decide_eq_false (by omega)
            obtain ⟨p, hp⟩ : ∃ p, pl[j]? = some p := ⟨_, List.getElem?_eq_getElem (by have := HM3.out; omega)⟩
            have hVV := HYES.out p HPB.out (by unfold pcAt; rw [if_pos (by omega), Int.toNat_natCast, HPL.out]; exact hp)
            rw [Int.toNat_natCast, Int.toNat_natCast] at hVV
            obtain ⟨hV0, rfl⟩ := Prod.mk.inj hVV
            have hbud : 0 ≤ p.bud ∧ p.bud ≤ 1099511627776 := by
              obtain ⟨t, ht⟩ : ∃ t, S.tasks[i]? = some t := ⟨_, List.getElem?_eq_getElem (by have := HN0.out; omega)⟩
              have hto := HOK.out.sys.tasks t (List.mem_of_getElem? ht)
              have h4 := (listOk_pcs HOK.out.sys hto (HOK.out.lists i t pl ht HPL.out)).2 p (List.mem_of_getElem? hp)
              have := h4.b0; have := h4.b1; have := hto.w1; have := hto.d1; have := hto.p1
              omega
            have hpl2 : (rankL S P)[i]? = some (rankRow S (partsOf P) i pl) := by unfold rankL; rw [List.getElem?_mapIdx, HPL.out]; rfl
            have hp2 : (rankRow S (partsOf P) i pl)[j]? = some (rankOne S (partsOf P) i p) := by unfold rankRow; rw [List.getElem?_map, hp]; rfl
            obtain ⟨b5, o5, cs5, hA5, hbl5, _, hc5, ul5, hv5, hv6⟩ := HRA.out.plan.rows.at hpl2
            injection hA5 with hA5
            injection hA5 with hA6 hA7 _
            subst hA6 hA7
            subst hv5
            obtain ⟨A7, c7, hv7, _⟩ := hv6.shape
            have hlr : (rankRow S (partsOf P) i pl).length = m3 := by unfold rankRow; rw [List.length_map, HM3.out]
            rw [hlr] at hv7
            subst hv7
            obtain ⟨b6, o6, cs6, hA8, hbl6, _, hc6, hr6⟩ := hv6.at hp2
            subst hA8
            obtain ⟨pp, hpp⟩ : ∃ pp, rankOne S (partsOf P) i p = ⟨p.core, p.bud, p.dl, pp, p.tight⟩ := ⟨_, rfl⟩
            rw [hpp] at hr6
            obtain ⟨pc, pb, pd, pr, pt⟩ := p
            simp only at hr6 hV0 hbud
            have hr6' : cs6 = [.int .i64 pc, .int .i64 pb, .int .i64 pd, .int .i64 pp, .bool pt] := hr6
            subst hr6'
            have g0 : w1.cell? ⟨g, i, none⟩ = some (.slice (some ⟨b6, o6, none⟩) m3 c7) := by simpa using hc5 0 _ rfl
            have e0 : w1.cell? ⟨b6, o6 + j * 5, none⟩ = some (.int .i64 pc) := by simpa using hc6 0 _ rfl
            have e1 : w1.cell? ⟨b6, o6 + j * 5 + 1, none⟩ = some (.int .i64 pb) := hc6 1 _ rfl
            have e2 : w1.cell? ⟨b6, o6 + j * 5 + 2, none⟩ = some (.int .i64 pd) := hc6 2 _ rfl
            have e3 : w1.cell? ⟨b6, o6 + j * 5 + 3, none⟩ = some (.int .i64 pp) := hc6 3 _ rfl
            have e4 : w1.cell? ⟨b6, o6 + j * 5 + 4, none⟩ = some (.bool pt) := hc6 4 _ rfl
            have HOW := hid (own_any (w := w1) R S P A0 n c0 (some ⟨g, 0, none⟩) n Aw cw Ac S.cores.toNat cc HRA.out HRT.out HWW.out ⟨⟨pc, pb, pd, pp, pt⟩, i, j⟩ htn hbud)
            have HVV := hid (show ownV S P ⟨⟨pc, pb, pd, pp, pt⟩, i, j⟩ = V0 from hV0.symm)
            rw [HVV.out] at HOW
            clear hp hVV hV0 hbud hpl2 hp2 hbl5 hc5 hv6 hbl6 hc6 hr6 hlr hpp HNO HYES
            unfold ptV at HOW
            go_wp2_with fail
            refine HOW.out.mono ?_
            rintro e w2 ⟨rfl, hb2⟩
            have HB2 := hid (below_then HB.out hb2)
            clear hb2 HOW
            go_wp2_with fail
            go_ret2
            exact ⟨rfl, HB2.out⟩
end
end Go.Proofs.Ytppildaahmlfmaa
