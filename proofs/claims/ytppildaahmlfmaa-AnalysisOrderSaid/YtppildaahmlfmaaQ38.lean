/- Joined: Rank17. -/
import Derived.Test.YtppildaahmlfmaaQ37
import Derived.BigRegion
set_option linter.unusedVariables false
set_option linter.unusedSimpArgs false
/- analysis.Rank (contract): the pieces with the priorities that the document says, in rows of the call's own. -/
set_option linter.unusedVariables false
set_option linter.unusedSimpArgs false
namespace Go.Proofs.Ytppildaahmlfmaa
open Go.RowKit Go.Sort

def zrow (j : Nat) (pl : List Pc) : List Pc := pl.mapIdx fun x p => if x < j then zeroP p else p
section
variable {j : Nat} {pl : List Pc} {p : Pc}
theorem zrow_len (j : Nat) (pl : List Pc) : (zrow j pl).length = pl.length := by simp [zrow]
theorem zrow_zero (pl : List Pc) : zrow 0 pl = pl := by
  apply List.ext_getElem?
  intro i
  simp [zrow]
theorem zrow_get (h : pl[j]? = some p) : (zrow j pl)[j]? = some p := by unfold zrow; rw [List.getElem?_mapIdx, h]; simp
theorem zrow_set (h : pl[j]? = some p) : (zrow j pl).set j ⟨p.core, p.bud, p.dl, 0, p.tight⟩ = zrow (j + 1) pl := by
  have hj := (List.getElem?_eq_some_iff.1 h).1
  apply List.ext_getElem?
  intro i
  by_cases e : j = i
  · subst e
    rw [List.getElem?_set_self (by rw [zrow_len]; exact hj)]
    unfold zrow
    rw [List.getElem?_mapIdx, h]
    simp [zeroP]
  · rw [List.getElem?_set_ne e]
    unfold zrow
    rw [List.getElem?_mapIdx, List.getElem?_mapIdx]
    cases pl[i]? with
    | none => rfl
    | some q =>
      show some (if i < j then zeroP q else q) = some (if i < j + 1 then zeroP q else q)
      by_cases h1 : i < j
      · rw [if_pos h1, if_pos (by omega)]
      · rw [if_neg h1, if_neg (by omega)]
theorem zrow_all (pl : List Pc) : zrow pl.length pl = pl.map zeroP := by
  apply List.ext_getElem?
  intro i
  unfold zrow
  rw [List.getElem?_mapIdx, List.getElem?_map]
  cases h : pl[i]? with
  | none => rfl
  | some q =>
    have := (List.getElem?_eq_some_iff.1 h).1
    show some (if i < pl.length then zeroP q else q) = some (zeroP q)
    rw [if_pos this]
end
/-- The rows while they are copied: those below k are done, row k is at j. -/
def copyQ (P : Pl) (k : Nat) (i : Nat) : List Pc := if i < k then ((P[i]?).getD []).map zeroP else []
def copyQ2 (P : Pl) (k j : Nat) (i : Nat) : List Pc := if i = k then zrow j ((P[k]?).getD []) else copyQ P k i
theorem copyQ2_end (P : Pl) (k : Nat) (i : Nat) : copyQ2 P k ((P[k]?).getD []).length i = copyQ P (k + 1) i := by
  unfold copyQ2 copyQ
  by_cases e : i = k
  · subst e
    rw [if_pos rfl, zrow_all, if_pos (by omega)]
  · rw [if_neg e]
    by_cases h : i < k
    · rw [if_pos h, if_pos (by omega)]
    · rw [if_neg h, if_neg (by omega)]
/-- Rows that are ranked, piece by piece. -/
def rowsC (S : Sy) (P : Pl) (c : Int) : Nat → List Pc := rowsD S P fun y => decide (y.p.core < c)
theorem rowsC_zero {S : Sy} {P : Pl} (h : ∀ x ∈ partsOf P, 0 ≤ x.p.core) {n : Nat} (hn : n = P.length) (i : Nat) (hi : i < n) : rowsC S P 0 i = copyQ P n i := by
  have hl : P[i]? = some P[i] := List.getElem?_eq_getElem (by omega)
  unfold copyQ rowsC
  rw [if_pos hi, hl]
  show _ = P[i].map zeroP
  rw [← rowsD_none (S := S) hl]
  refine rowsD_congr (fun k p l hl2 hk hne => ?_)
  exfalso
  apply hne
  have := h ⟨p, i, k⟩ (mem_parts.2 ⟨l, hl2, hk⟩)
  exact decide_eq_false (by simp only at this ⊢; omega)
theorem rowsC_all {S : Sy} {P : Pl} {c : Int} (h : ∀ x ∈ partsOf P, x.p.core < c) (i : Nat) (l : List Pc) (hl : P[i]? = some l) : rowsC S P c i = rankRow S (partsOf P) i l :=
  rowsD_all (fun x hx => decide_eq_true (h x hx)) hl
section
variable {w : World}
/-- The world within Rank: the system's box B; what is made lies behind Z. -/
structure RKZ (w wr : World) (B Z : Nat) (C : Array Value) : Prop where
  below : Below w.heap.size w wr
  b0 : wr.heap[B]? = some (.cells C 24 (0, 0))
  lo : w.heap.size ≤ Z
  bz : B < Z
  sz : Z ≤ wr.heap.size
theorem RKZ.fr {w wr w' : World} {B Z : Nat} {C : Array Value} {T : Nat → Prop} (H : RKZ w wr B Z C) (hF : Fr T wr w') (hn : ∀ k, T k → Z ≤ k) : RKZ w w' B Z C :=
  ⟨((Fr.of_below (S := NoB) H.below).trans hF (fun x hx => .inr (by have := hn x hx; have := H.lo; omega))).no, hF.blk H.b0 (fun h => by have := hn _ h; have := H.bz; omega), H.lo, H.bz, Nat.le_trans H.sz hF.size⟩
theorem RKZ.later {w wr w' : World} {B Z : Nat} {C : Array Value} (H : RKZ w wr B Z C) (h : Below wr.heap.size wr w') : RKZ w w' B Z C := H.fr (fr0 h) (fun _ h => h.elim)
set_option maxRecDepth 100000 in
set_option maxHeartbeats 6400000 in
theorem rank_any (S : Sy) (A0 : Option Addr) (n0 c0 : Nat) (A : Option Addr) (n cap : Nat) (P : Pl) (hs : IsSys w (.slice A0 n0 c0) S) (hp : IsPlan w (.slice A n cap) P) :
    Calls Try.prog 11 #[sysV S (.slice A0 n0 c0), .slice A n cap] w fun e w' =>
      (planB S P = false ∧ e = .returned (.tuple #[.slice none 0 0, .int .i64 1]) ∧ Below w.heap.size w w') ∨
      (planB S P = true ∧ ∃ g V, e = .returned (.tuple #[.slice (some ⟨g, 0, none⟩) n n, .int .i64 0]) ∧ GR w' w.heap.size g n n V (rowsC S P S.cores) ∧ Below w.heap.size w w') := by
  have hn := hp.rows.len
  have HP := hid hp
  have HN := hid hn
  have hnm : n ≤ 9223372036854775807 := by have := hp.rows.room; unfold maxLen at this; omega
  have HVR := hid (fun W (h : Below w.heap.size w W) => pright_any (w := W) S A0 n0 c0 A n cap P (hs.later h) (hp.later h))
  obtain ⟨CS, hCS⟩ : ∃ C, C = sysC S (.slice A0 n0 c0) := ⟨_, rfl⟩
  have HCS := hid hCS
  obtain ⟨rb, hrb⟩ : ∃ r, planB S P = r := ⟨_, rfl⟩
  have HRB := hid hrb
  rw [hrb] at HVR ⊢
  unfold sysV at *
  clear hs hp hn hCS hrb
  go_enter Try.func11, Try.ntmps11
  go_wp2_with fail
  refine (HVR.out _ (below_new (Below.refl _ _) _)).mono ?_
  rintro e w1 ⟨rfl, hb1⟩
  have q0 : w1.heap[w.heap.size]? = some (.cells (sysC S (.slice A0 n0 c0)) 24 (0, 0)) := (fr0 hb1).blk (blk_new w _) (fun h => h)
  have hbw := below_then (below_new (Below.refl _ _) _) hb1
  rw [← HCS.out] at q0
  obtain ⟨B, hB⟩ : ∃ B, w.heap.size = B := ⟨_, rfl⟩
  obtain ⟨Z, hZ⟩ : ∃ Z, w1.heap.size = Z := ⟨_, rfl⟩
  have HRK := hid (show RKZ w w1 w.heap.size w1.heap.size CS from ⟨hbw, q0, hbw.size, blk_lt q0, Nat.le_refl _⟩)
  rw [hB] at HRK ⊢
  rw [hZ] at HRK
  have HBW := hid hB
  have HZW := hid hZ
  clear q0 hbw hb1 hB hZ
  cases rb
  case false =>
    go_wp2_with fail
    go_ret2
    first | exact .inl ⟨rfl, rfl, HRK.out.below⟩ | exact ⟨rfl, HRK.out.below⟩
  case true =>
    have HOK := hid (planB_ok HRB.out)
    have hn24 : n ≤ 24 := by have h1 := HOK.out.len; have h2 := HOK.out.sys.len; have := HN.out; omega
    have HPO := hid (show ∀ l ∈ P, l.length ≤ 8 ∧ ∀ p ∈ l, 0 ≤ p.core ∧ p.core < S.cores from fun l hl => by
      obtain ⟨i, hi⟩ := List.mem_iff_getElem?.1 hl
      have hi2 := (List.getElem?_eq_some_iff.1 hi).1
      have ok := HOK.out
      have h1 := ok.len
      have ht : S.tasks[i]? = some (S.tasks[i]'(by omega)) := List.getElem?_eq_getElem _
      have := listOk_pcs ok.sys (ok.sys.tasks _ (List.mem_of_getElem? ht)) (ok.lists i _ l ht hi)
      exact ⟨this.1, fun p hp => ⟨(this.2 p hp).c0, (this.2 p hp).c1⟩⟩)
    have HMK := hid (fun W => make_plan n (by omega) W)
    go_upto_region 3 with fail
    have hmk := HMK.out w1
    go_upto_region 4 with fail
    clear hmk
    have HG0 := hid (GR.made w1 n (by omega))
    have HR0 := hid (HRK.out.later (below_new (Below.refl w1.heap.size w1) (.cells (List.replicate n (.slice none 0 0)).toArray 31)))
    rw [HZW.out] at HG0 ⊢
    rw [show (List.replicate n (Value.slice none 0 0)).toArray = Array.replicate n (Value.slice none 0 0) by simp] at HG0 HR0
    generalize w1.alloc (.cells (Array.replicate n (.slice none 0 0)) 31) = w2 at HG0 HR0 ⊢
    clear HMK
    go_wp2_with fail
    go_loopw [23] (fun v wr => ∃ (k : Nat) (V : Nat → Value), k ≤ n ∧ v = .int .i64 k ∧ Hid (GR wr Z Z n n V (copyQ P k)) ∧ Hid (RKZ w wr B Z CS)) (fun v _ => n - (intOf v).toNat)
    case atStart => exact ⟨0, _, by omega, rfl, hid (HG0.out.congr (fun i hi => by unfold copyQ; rw [if_neg (by omega)])), HR0⟩
    case round =>
      obtain ⟨k, V, hk, rfl, HG, HR⟩ := hrel
      by_cases hlt : k < n
      case pos =>
        obtain ⟨pl, hpl⟩ : ∃ pl, P[k]? = some pl := ⟨_, List.getElem?_eq_getElem (by have := HN.out; omega)⟩
        obtain ⟨b2, o2, cs2, hA2, hbl2, _, hc2, ul, hv1, hv2⟩ := HP.out.rows.at hpl
        subst hA2
        subst hv1
        obtain ⟨A3, c3, hv3, hv4⟩ := hv2.shape
        obtain ⟨m3, hm3⟩ : ∃ m, m = pl.length := ⟨_, rfl⟩
        rw [← hm3] at hv3 hv4
        subst hv3
        have hm8 : m3 ≤ 8 := by rw [hm3]; exact (HPO.out pl (List.mem_of_getElem? hpl)).1
        have HY := hid hpl
        have HM3 := hid hm3
        have HCL := hid (clone_any (w := wr) pl A3 m3 c3 (hv2.later pcR.stays HR.out.below) (by omega))
        have d0 : wr.cell? ⟨b2, o2 + k, none⟩ = some (.slice A3 m3 c3) := (HR.out.below.cell (p := ⟨b2, o2 + k, none⟩) hbl2).trans (by simpa using hc2 0 _ rfl)
        clear hpl hm3 hv2 hv4 hc2 hbl2
        go_wp2_with fail
        refine HCL.out.mono ?_
        rintro e w3 ⟨v', rfl, ho, hb3⟩
        have HG3 := hid (HG.out.later hb3)
        have HR3 := hid (HR.out.later hb3)
        obtain ⟨A4, c4, rfl⟩ := own_slice ho
        have HS := hid (HG3.out.store hlt (v := .slice A4 m3 c4) (q := pl) (by rw [← HM3.out]; exact own_mono ho HR.out.sz) (fun b hb hg => by
          have h1 := (ho.lt b hb).1
          have h2 := (HG.out.lt b hg).2
          omega))
        have HRS := hid (HR3.out.fr ((Fr.refl (One Z) w3).one k (.slice A4 m3 c4)) (fun b hb => by cases hb; exact Nat.le_refl _))
        have c0 := HG3.out.cell hlt
        have f0 := HG3.out.free k
        clear d0 ho hb3
        go_upto_region 8 with fail
        clear c0 f0
        obtain ⟨V2, hV2⟩ : ∃ V2, V2 = fun j => if j = k then Value.slice A4 m3 c4 else V j := ⟨_, rfl⟩
        rw [← hV2] at HS
        have hVk : V2 k = .slice A4 m3 c4 := by rw [hV2]; simp
        clear hV2
        generalize w3.setCell ⟨Z, k, none⟩ (.slice A4 m3 c4) = w4 at HS HRS ⊢
        have c0 : w4.cell? ⟨Z, k, none⟩ = some (.slice A4 m3 c4) := by rw [← hVk]; exact HS.out.cell hlt
        have HVK := hid hVk
        clear hVk
        go_wp2_with fail
        clear c0
        go_loopw [38] (fun v wr => ∃ j : Nat, j ≤ m3 ∧ v = .int .i64 j ∧ Hid (GR wr Z Z n n V2 (copyQ2 P k j)) ∧ Hid (RKZ w wr B Z CS)) (fun v _ => m3 - (intOf v).toNat)
        case atStart => exact ⟨0, by omega, rfl, hid (HS.out.congr (fun i hi => by unfold copyQ2; by_cases e : i = k <;> simp [e, zrow_zero, HY.out])), HRS⟩
        case round =>
          obtain ⟨j, hj, rfl, HGj, HRj⟩ := hrel
          by_cases hjm : j < m3
          case pos =>
            obtain ⟨q, hq⟩ : ∃ q, pl[j]? = some q := ⟨_, List.getElem?_eq_getElem (by have := HM3.out; omega)⟩
            have hQk : copyQ2 P k j k = zrow j pl := by unfold copyQ2; rw [if_pos rfl, HY.out]; rfl
            obtain ⟨b5, c5, hV5, _⟩ := HGj.out.row hlt (by rw [hQk, zrow_len]; have := HM3.out; omega)
            rw [HVK.out] at hV5
            injection hV5 with e1 _ e3
            subst e1
            have hzg : (copyQ2 P k j k)[j]? = some q := by rw [hQk]; exact zrow_get hq
            have HG5 := hid (HGj.out.prio hlt hzg HVK.out 0)
            obtain ⟨pc, pf⟩ := HGj.out.pcell hlt hzg HVK.out
            have HE5 := hid (show ∀ i, i < n → copyQ2 P k (j + 1) i = (if i = k then (copyQ2 P k j k).set j ⟨q.core, q.bud, q.dl, 0, q.tight⟩ else copyQ2 P k j i) from fun i hi => by
              by_cases e : i = k
              · subst e
                rw [if_pos rfl, hQk, zrow_set hq]
                unfold copyQ2
                rw [if_pos rfl, HY.out]
                rfl
              · rw [if_neg e]
                unfold copyQ2
                rw [if_neg e, if_neg e])
            have HR5 := hid (HRj.out.fr ((Fr.refl (One b5) wr).one (j * 5 + 3) (.int .i64 0)) (fun b hb => by cases hb; exact (HGj.out.lt b5 (.inr ⟨k, hlt, by rw [HVK.out]; rfl⟩)).1))
            have c0 : wr.cell? ⟨Z, k, none⟩ = some (.slice (some ⟨b5, 0, none⟩) m3 c4) := by rw [← HVK.out]; exact HGj.out.cell hlt
            clear hq hQk hzg
            go_wp2_with fail
            go_roundw
            case rel => exact ⟨j + 1, by omega, by go_num, hid (HG5.out.congr HE5.out), HR5⟩
            case measure => simp [intOf]; omega
          case neg =>
            obtain rfl : j = m3 := by omega
            have HGE := hid (HGj.out.congr (Q' := copyQ P (k + 1)) (fun i hi => by
              have := copyQ2_end P k i
              rw [HY.out] at this
              rw [← this]
              have e : (Option.getD (some pl) []).length = j := HM3.out.symm
              rw [e]))
            go_wp2_with fail
            go_roundw
            case rel => exact ⟨k + 1, V2, by omega, by go_num, HGE, HRj⟩
            case measure => simp [intOf]; omega
      case neg =>
        obtain rfl : k = n := by omega
        have hcs := HOK.out.sys.cores
        have hpc0 : ∀ x ∈ partsOf P, 0 ≤ x.p.core ∧ x.p.core < S.cores := fun x hx => by
          obtain ⟨l, hl, hk2⟩ := mem_parts.1 hx
          exact (HPO.out l (List.mem_of_getElem? hl)).2 _ (List.mem_of_getElem? hk2)
        have HPC := hid hpc0
        have HGC := hid (HG.out.congr (Q' := rowsC S P ((0 : Nat) : Int)) (fun i hi => rowsC_zero (fun x hx => (hpc0 x hx).1) HN.out i hi))
        obtain ⟨nc, hnc⟩ : ∃ nc : Nat, S.cores = nc := ⟨S.cores.toNat, by omega⟩
        have HNC := hid hnc
        have hncb : nc ≤ 8 := by omega
        have c0 : wr.cell? ⟨B, 0, none⟩ = some (.int .i64 nc) := (blk_cell HR.out.b0 0).trans (by rw [HCS.out, ← hnc]; rfl)
        have HLN := hid (show (partsOf P).length < 1000000 from by
          have h1 := parts_len_le (fun l hl => (HPO.out l hl).1)
          have := HN.out
          omega)
        clear hpc0 hcs hnc
        go_wp2_with fail
        clear c0
        obtain ⟨ws, hws⟩ : ∃ ws, ws = wr := ⟨_, rfl⟩
        subst hws
        go_loopw [52] (fun v wr => ∃ c : Nat, v = .int .i64 c ∧ c ≤ nc ∧ Hid (GR wr Z Z k k V (rowsC S P c)) ∧ Hid (RKZ w wr B Z CS)) (fun v _ => nc - (intOf v).toNat)
        case atStart => exact ⟨0, rfl, by omega, HGC, HR⟩
        case round =>
          obtain ⟨c, rfl, hc, HGc, HRc⟩ := hrel
          by_cases hcl : c < nc
          case pos =>
            have HON := hid (on_any (w := wr) P A k cap (HP.out.later HRc.out.below) c HLN.out)
            go_wp2_with fail
            refine HON.out.mono ?_
            rintro e w3 ⟨u, rfl, hou, hb3⟩
            have HOU := hid hou
            have HR3 := hid (HRc.out.later hb3)
            have HG3 := hid (HGc.out.later hb3)
            have HLO := hid (fun b (hb : GRSet Z k V b) => (HGc.out.lt b hb).2)
            have HUB := hid (fun b (hb : u.ownBlock = some b) => (hou.lt b hb).1)
            have HDF := hid (delfunc_all (w := w3) (onP P c) u (onP P c).length B S.policy hou rfl (blk_lt HR3.out.b0) (fun b hb e => by have := (hou.lt b hb).1; have := blk_lt HRc.out.b0; omega) ((blk_cell HR3.out.b0 1).trans (by rw [HCS.out]; rfl)))
            have hol : (onP P c).length ≤ 24 := by have := on_len HOK.out.dist c; have := HN.out; omega
            obtain ⟨A5, c5, rfl⟩ := own_slice hou
            clear hou hb3
            go_wp2_with fail
            refine HDF.out.mono ?_
            rintro e w4 ⟨v', rfl, hov, hf4, hvb⟩
            have HR4 := hid (HR3.out.fr hf4 (fun b hb => by have := HUB.out b hb; have := HRc.out.sz; omega))
            have HG4 := hid (HG3.out.kept hf4 (fun b hb hu => by have := HUB.out b hu; have := HLO.out b hb; omega))
            have HKE := hid (keep_rising HOK.out.dist S.policy c)
            have hkl : (keepL S.policy (onP P c)).length ≤ 24 := Nat.le_trans (keepL_len _ _) hol
            have HST := hid (sort_all (w := w4) (keepL S.policy (onP P c)) v' _ hov rfl (by omega) HKE.out)
            have HVB := hid (fun b (hb : v'.ownBlock = some b) => HUB.out b (by rw [← hvb]; exact hb))
            obtain ⟨A6, c6, rfl⟩ := own_slice hov
            clear hov hf4 hvb
            go_wp2_with fail
            refine HST.out.mono ?_
            rintro e w5 ⟨rfl, l', hol', hll, hmem, hsrt, hf5⟩
            have HR5 := hid (HR4.out.fr hf5 (fun b hb => by have := HVB.out b hb; have := HRc.out.sz; omega))
            have HG5 := hid (HG4.out.kept hf5 (fun b hb hu => by have := HVB.out b hu; have := HLO.out b hb; omega))
            have HOL := hid hol'
            have HMEM := hid hmem
            have HSRT := hid hsrt
            obtain ⟨m, hm⟩ : ∃ m, (keepL S.policy (onP P c)).length = m := ⟨_, rfl⟩
            rw [hm] at hkl hll HOL ⊢
            have HLL := hid hll
            obtain ⟨D0, hD0⟩ : ∃ D, wr.heap.size = D := ⟨_, rfl⟩
            rw [hD0] at HLO HVB HOL
            clear hol' hmem hsrt hf5 hm hll hD0 hol
            go_wp2_with fail
            obtain ⟨ws2, hws2⟩ : ∃ ws, ws = wr := ⟨_, rfl⟩
            subst hws2
            go_loopw [64] (fun v wr => ∃ j : Nat, j ≤ m ∧ v = .int .i64 j ∧ Hid (GR wr Z Z k k V (rowsD S P (doneD c l' j))) ∧ Hid (wr.ownsRow D0 67 7 (.slice A6 m c6) m (flat encPt l')) ∧ Hid (RKZ w wr B Z CS)) (fun v _ => m - (intOf v).toNat)
            case atStart => exact ⟨0, by omega, rfl, hid (by rw [doneD_start]; exact HG5.out), HOL, HR5⟩
            case round =>
              obtain ⟨j, hj, rfl, HGj, HOj, HRj⟩ := hrel
              by_cases hjm : j < m
              case pos =>
                obtain ⟨x, hx⟩ : ∃ x, l'[j]? = some x := ⟨_, List.getElem?_eq_getElem (by have := HLL.out; omega)⟩
                have HIX := hid (idx_rank HOK.out HMEM.out HSRT.out hx)
                have HDS := hid (doneD_succ (c := c) hx)
                have HXP := hid (mem_parts.1 (mem_keep.1 ((HMEM.out x).1 (List.mem_of_getElem? hx))).1)
                have hcell : ∃ gl, A6 = some ⟨gl, 0, none⟩ ∧ D0 ≤ gl ∧ ∀ (t : Nat) (u : Value), (encPt x)[t]? = some u → wr.cell? ⟨gl, j * 7 + t, none⟩ = some u := by
                  obtain ⟨gl, cl, cur, hv, hbg, _⟩ := own_shape HOj.out (by omega)
                  injection hv with e1 _ _
                  refine ⟨gl, e1, hbg, fun t u ht => ?_⟩
                  obtain ⟨g', e2, hc2⟩ := row_cell encPt_len HOj.out hx ht
                  rw [e1] at e2
                  injection e2 with e2
                  injection e2 with e2
                  subst e2
                  exact hc2
                obtain ⟨gl, rfl, hgl, hcell⟩ := hcell
                obtain ⟨⟨pc, pb, pd, pp, ti⟩, tk, kk⟩ := x
                obtain ⟨l0, hl0, hk0⟩ := HXP.out
                simp only at hl0 hk0
                have hkn : tk < k := by have := (List.getElem?_eq_some_iff.1 hl0).1; have := HN.out; omega
                have hkk : kk < 8 := by have := (List.getElem?_eq_some_iff.1 hk0).1; have := (HPO.out l0 (List.mem_of_getElem? hl0)).1; omega
                unfold encPt at hcell
                simp only at hcell
                have e0 : wr.cell? ⟨gl, j * 7, none⟩ = some (.int .i64 pc) := by have := hcell 0 (.int .i64 pc) rfl; simpa using this
                have e1 : wr.cell? ⟨gl, j * 7 + 1, none⟩ = some (.int .i64 pb) := by have := hcell 1 (.int .i64 pb) rfl; simpa using this
                have e2 : wr.cell? ⟨gl, j * 7 + 2, none⟩ = some (.int .i64 pd) := by have := hcell 2 (.int .i64 pd) rfl; simpa using this
                have e3 : wr.cell? ⟨gl, j * 7 + 3, none⟩ = some (.int .i64 pp) := by have := hcell 3 (.int .i64 pp) rfl; simpa using this
                have e4 : wr.cell? ⟨gl, j * 7 + 4, none⟩ = some (.bool ti) := by have := hcell 4 (.bool ti) rfl; simpa using this
                have e5 : wr.cell? ⟨gl, j * 7 + 5, none⟩ = some (.int .i64 tk) := by have := hcell 5 (.int .i64 tk) rfl; simpa using this
                have e6 : wr.cell? ⟨gl, j * 7 + 6, none⟩ = some (.int .i64 kk) := by have := hcell 6 (.int .i64 kk) rfl; simpa using this
                clear hx hcell
                go_upto_region 22 with fail
                obtain ⟨D, hD⟩ : ∃ D, D = wr.heap.size := ⟨_, rfl⟩
                rw [← hD]
                generalize hw3 : wr.alloc (.cells #[.int .i64 pc, .int .i64 pb, .int .i64 pd, .int .i64 pp, .bool ti, .int .i64 tk, .int .i64 kk] 67) = w6
                have hbel : Below wr.heap.size wr w6 := by rw [← hw3]; exact below_new (Below.refl _ _) _
                have hblk : w6.heap[D]? = some (.cells #[.int .i64 pc, .int .i64 pb, .int .i64 pd, .int .i64 pp, .bool ti, .int .i64 tk, .int .i64 kk] 67 (0, 0)) := by rw [← hw3, hD]; exact blk_new _ _
                have HG6 := hid (HGj.out.later hbel)
                have HR6 := hid (HRj.out.later hbel)
                have HO6 := hid (own_kept HOj.out (fr0 hbel) (fun _ _ h => h))
                clear hw3 hD hbel e0 e1 e2 e3 e4 e5 e6
                -- the row of the task
                have hQg := rowsD_get (S := S) (D := doneD c l' j) hl0 hk0
                have hQl := rowsD_len (S := S) (D := doneD c l' j) hl0
                obtain ⟨b5, c7, hV5, hm5, hm6⟩ := HG6.out.row hkn (by rw [hQl]; have := (List.getElem?_eq_some_iff.1 hk0).1; omega)
                rw [hQl] at hV5 hm5
                obtain ⟨m5, hm5e⟩ : ∃ m5, l0.length = m5 := ⟨_, rfl⟩
                rw [hm5e] at hV5 hm5
                have hk5 : kk < m5 := by rw [← hm5e]; exact (List.getElem?_eq_some_iff.1 hk0).1
                obtain ⟨pf0, pf1⟩ := HG6.out.pcell hkn hQg hV5
                have HGZ := hid (HG6.out.prio hkn hQg hV5 (1 + (j : Int)))
                have HE := hid (show ∀ i, i < k → rowsD S P (doneD c l' (j + 1)) i = (if i = tk then (rowsD S P (doneD c l' j) tk).set kk ⟨(if doneD c l' j ⟨⟨pc, pb, pd, pp, ti⟩, tk, kk⟩ = true then rankOne S (partsOf P) tk ⟨pc, pb, pd, pp, ti⟩ else zeroP ⟨pc, pb, pd, pp, ti⟩).core, (if doneD c l' j ⟨⟨pc, pb, pd, pp, ti⟩, tk, kk⟩ = true then rankOne S (partsOf P) tk ⟨pc, pb, pd, pp, ti⟩ else zeroP ⟨pc, pb, pd, pp, ti⟩).bud, (if doneD c l' j ⟨⟨pc, pb, pd, pp, ti⟩, tk, kk⟩ = true then rankOne S (partsOf P) tk ⟨pc, pb, pd, pp, ti⟩ else zeroP ⟨pc, pb, pd, pp, ti⟩).dl, 1 + (j : Int), (if doneD c l' j ⟨⟨pc, pb, pd, pp, ti⟩, tk, kk⟩ = true then rankOne S (partsOf P) tk ⟨pc, pb, pd, pp, ti⟩ else zeroP ⟨pc, pb, pd, pp, ti⟩).tight⟩ else rowsD S P (doneD c l' j) i) from fun i hi => by
                  rw [HDS.out]
                  by_cases e : i = tk
                  · subst e
                    rw [if_pos rfl, ← rowsD_set hl0 hk0]
                    have hI := HIX.out
                    simp only at hI
                    rw [hI]
                    congr 1
                    split <;> rfl
                  · rw [if_neg e]
                    exact rowsD_other e)
                have HTB := hid ((HGj.out.lt b5 (.inr ⟨tk, hkn, by rw [hV5]; rfl⟩)).1)
                have HTC := hid (HLO.out b5 (.inr ⟨tk, hkn, by rw [hV5]; rfl⟩))
                obtain ⟨wz, hwz⟩ : ∃ wz : World, wz = (w6.setCell ⟨b5, kk * 5 + 3, none⟩ (.int .i64 (1 + (j : Int)))).drew := ⟨_, rfl⟩
                have HWZ := hid hwz
                have HGF := hid (show GR wz Z Z k k V (rowsD S P (doneD c l' (j + 1))) from by rw [hwz]; exact (HGZ.out.congr HE.out).kept (S := NoB) ((Fr.refl _ _).drew) (fun _ _ h => h))
                have hfz := ((Fr.refl (One b5) w6).one (kk * 5 + 3) (.int .i64 (1 + (j : Int)))).drew
                rw [← hwz] at hfz
                have HRF := hid (HR6.out.fr hfz (fun b hb => by cases hb; exact HTB.out))
                have HOF := hid (own_kept HO6.out hfz (fun b hb e => by have h1 := HTC.out; have h2 : some gl = some b := hb; injection h2 with h2; have h3 : b = b5 := e; omega))
                have f5 : w6.cell? ⟨D, 5, none⟩ = some (.int .i64 tk) := blk_cell hblk 5
                have f6 : w6.cell? ⟨D, 6, none⟩ = some (.int .i64 kk) := blk_cell hblk 6
                have v0 : w6.cell? ⟨Z, tk, none⟩ = some (.slice (some ⟨b5, 0, none⟩) m5 c7) := by rw [← hV5]; exact HG6.out.cell hkn
                have f5d : w6.drew.cell? ⟨D, 5, none⟩ = some (.int .i64 tk) := f5
                have f6d : w6.drew.cell? ⟨D, 6, none⟩ = some (.int .i64 kk) := f6
                have v0d : w6.drew.cell? ⟨Z, tk, none⟩ = some (.slice (some ⟨b5, 0, none⟩) m5 c7) := v0
                have pf0d : w6.drew.cell? ⟨b5, kk * 5 + 3, none⟩ = some (.int .i64 _) := pf0
                have pf1d : w6.drew.frozen? ⟨b5, kk * 5 + 3, none⟩ = false := pf1
                clear hblk hQg hQl hV5 hm5 hm6 hm5e hwz hfz hl0 hk0
                go_region
                rw [← HWZ.out]
                clear f5 f6 v0 f5d f6d v0d pf0 pf1 pf0d pf1d HWZ
                go_wp2_with fail
                go_roundw
                case rel => exact ⟨j + 1, by omega, by go_num, HGF, HOF, HRF⟩
                case measure => simp [intOf]; omega
              case neg =>
                obtain rfl : j = m := by omega
                have HGE := hid (HGj.out.congr (Q' := rowsC S P ((c + 1 : Nat) : Int)) (fun i hi => by
                  have := doneD_end (S := S) (P := P) (c := (c : Int)) HMEM.out i
                  rw [HLL.out] at this
                  rw [this]
                  unfold rowsC
                  congr 1))
                go_wp2_with fail
                go_roundw
                case rel => exact ⟨c + 1, by go_num, by omega, HGE, HRj⟩
                case measure => simp [intOf]; omega
          case neg =>
            obtain rfl : c = nc := by omega
            have hend := HGc.out.mono HRc.out.lo
            rw [← HNC.out] at hend
            have HEND := hid hend
            clear hend
            go_wp2_with fail
            go_ret2
            first | exact .inr ⟨rfl, Z, V, rfl, HEND.out, HRc.out.below⟩ | exact ⟨Z, V, rfl, HEND.out, HRc.out.below⟩ | exact ⟨Z, rfl, ⟨V, HEND.out⟩, HRc.out.below⟩
end
end Go.Proofs.Ytppildaahmlfmaa
