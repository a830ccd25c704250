/- IpiOnce: each note that was sent is taken once, at its tick: the walk. -/
import Derived.Test.YtbkjlohlfkokpaaIpiOncePlain
import Derived.Test.YtbkjlohlfkokpaaDeed
set_option linter.unusedVariables false
set_option linter.unusedSimpArgs false
namespace Go.Proofs.Ytbkjlohlfkokpaa
open Go.RowKit

/-- Boxes beside a row of 48 ticks. -/
structure OW (w wr : World) (b bm g T : Nat) (S : List Nt) (D : List Int) : Prop where
  ipi : IsIpi wr w.heap.size b bm 2 T S
  due : wr.heap[g]? = some (.cells (intCells D).toArray 3 (0, 0))
  lo : w.heap.size ≤ g
  below : Below w.heap.size w wr
section
variable {w wr wx : World} {b bm g T : Nat} {S S' : List Nt} {D : List Int}
theorem OW.ne (h : OW w wr b bm g T S D) : ∀ k, ISet b bm k → g ≠ k := fun k hk e => by
  rcases hk with rfl | rfl
  · exact blk_ne' h.due h.ipi.at_.hb (cells_ne' (by decide)) e
  · obtain ⟨D, ⟨es, clock, hm, _⟩, _⟩ := h.ipi.at_.map
    have := h.due
    rw [e, hm] at this
    cases this
theorem OW.later (h : OW w wr b bm g T S D) (k : Below wr.heap.size wr wx) : OW w wx b bm g T S D := ⟨h.ipi.later k, (fr0 k).blk h.due (fun h => h), h.lo, below_then h.below k⟩
theorem OW.step {T' : Nat} (h : OW w wr b bm g T S D) (hi : IsIpi wx w.heap.size b bm 2 T' S') (k : Fr (ISet b bm) wr wx) : OW w wx b bm g T' S' D :=
  ⟨hi, k.blk h.due (fun e => h.ne g e rfl), h.lo, ((Fr.of_below (S := NoB) h.below).trans k (fun x hx => .inr (h.ipi.at_.lt x hx).1)).no⟩
theorem OW.put (h : OW w wr b bm g T S D) (i : Nat) (v : Int) : OW w (wr.setCell ⟨g, i, none⟩ (.int .i64 v)) b bm g T S (D.set i v) := by
  have hf : Fr (One g) wr (wr.setCell ⟨g, i, none⟩ (.int .i64 v)) := (Fr.refl (One g) wr).one i _
  refine ⟨h.ipi.kept hf (fun j hj e => h.ne j hj (Eq.symm e)), ?_, h.lo, ((Fr.of_below (S := NoB) h.below).trans hf (fun x hx => .inr (by rw [show x = g from hx]; exact h.lo))).no⟩
  have := blk_set h.due i (.int .i64 v)
  rw [this]
  congr 2
  simp [intCells, List.map_set]
theorem OW.cell (h : OW w wr b bm g T S D) {i : Nat} {v : Int} (hv : D[i]? = some v) : wr.cell? ⟨g, i, none⟩ = some (.int .i64 v) := by
  rw [blk_cell h.due]
  simp [intCells, hv]
theorem OW.free (h : OW w wr b bm g T S D) (i : Nat) : wr.frozen? ⟨g, i, none⟩ = false := blk_free h.due i
end
theorem ints_later {w wr : World} {A : Option Addr} {len : Nat} {z : Nat → Int} (h : Ints w A len z) (hb : Below w.heap.size w wr) {k : Nat} (hk : k < len) : ∃ b o, A = some ⟨b, o, none⟩ ∧ b < wr.heap.size ∧ wr.cell? ⟨b, o + k, none⟩ = some (.int .i64 (z k)) ∧ -9223372036854775808 ≤ z k ∧ z k ≤ 9223372036854775807 := by
  obtain ⟨b, o, e, hlt, hc, h1, h2⟩ := h k hk
  exact ⟨b, o, e, Nat.lt_of_lt_of_le hlt hb.size, (hb.cell hlt).trans hc, h1, h2⟩
set_option maxRecDepth 100000 in
set_option maxHeartbeats 4000000 in
theorem ipionce_walk {w : World} (A0 A1 A2 : Option Addr) (n0 c0 n1 c1 n2 c2 : Nat) (hl0 : n0 ≤ 9223372036854775807) (hl1 : n1 ≤ 9223372036854775807) (hl2 : n2 ≤ 9223372036854775807) (z0 z1 z2 : Nat → Int) (hz0 : Ints w A0 n0 z0) (hz1 : Ints w A1 n1 z1) (hz2 : Ints w A2 n2 z2) :
    Calls Try.prog 4 #[.slice A0 n0 c0, .slice A1 n1 c1, .slice A2 n2 c2] w fun e w' => e = .returned (.bool true) ∧ Below w.heap.size w w' := by
  have HZ0 := hid hz0
  have HZ1 := hid hz1
  have HZ2 := hid hz2
  clear hz0 hz1 hz2
  go_enter Try.func4, Try.ntmps4
  go_wp2_with fail
  refine ipiex_any.mono ?_
  rintro e w1 ⟨rfl, hb1⟩
  go_wp2_with fail
  refine (is_new (c := 2) (by omega) (by omega)).mono ?_
  rintro e w2 ⟨b, bm, rfl, h0, hb2⟩
  obtain ⟨C2, hC2⟩ : ∃ C, C = (List.replicate 48 (Value.int .i64 0)).toArray := ⟨_, rfl⟩
  have hm2 : ∀ w : World, (Instr.makeSlice 34 (.int .i64 48) (.int .i64 48)).run Try.prog w = .ok (.slice (some ⟨w.heap.size, 0, none⟩) 48 48) (w.alloc (.cells C2 3)) := fun w => by rw [hC2]; exact make_ints 48 (by omega) w
  have HC2 := hid hC2
  have HB1 := hid hb1
  have HB2 := hid hb2
  have H0 := hid h0
  clear hC2 hb1 hb2 h0
  go_wp2_with fail
  generalize hw3 : w2.alloc (.cells C2 3) = w3
  obtain ⟨g, hg⟩ : ∃ g, g = w2.heap.size := ⟨_, rfl⟩
  have hO3 : OW w w3 b bm g 0 [] (List.replicate 48 0) := by
    have hbb : Below w2.heap.size w2 w3 := by rw [← hw3]; exact (Below.refl _ _).alloc (Nat.le_refl _) _
    have hsz := (below_then HB1.out HB2.out).size
    refine ⟨?_, ?_, by rw [hg]; exact hsz, below_then (below_then HB1.out HB2.out) hbb⟩
    · have h1 := H0.out.later hbb
      exact ⟨h1.at_.weak HB1.out.size, h1.inv, h1.few, h1.len⟩
    · rw [hg, ← hw3]
      have := blk_new w2 (.cells C2 3)
      rw [this, HC2.out, show List.replicate 48 (Value.int .i64 0) = intCells (List.replicate 48 0) by simp [intCells]]
  rw [← hg]
  have HO3 := hid hO3
  clear hO3 hw3 hg HB1 HB2 H0 HC2 hm2
  go_loopw [11] (fun v wr => ∃ (k T : Nat) (S : List Nt) (D : List Int), k ≤ 200 ∧ v = .int .i64 k ∧ T ≤ k ∧ T ≤ 100 ∧ OW w wr b bm g T S D ∧ Hid (DR (fS S) D) ∧ Hid (Ahead k 0 S)) (fun v _ => 200 - (intOf v).toNat)
  case atStart => exact ⟨0, 0, [], _, by omega, rfl, by omega, by omega, HO3.out, DR.zero, Ahead.nil _ _⟩
  case round =>
    obtain ⟨k, T, S0, D0, hk, rfl, hTk, hT, hO, hD, hA⟩ := hrel
    have HO := hid hO
    clear hO
    by_cases hlt : k < 200
    · have hk200 : decide ((k : Int) < 200) = true := decide_eq_true (by omega)
      go_wp2_with fail
      go_loopw [12] (fun v wr => ∃ (j : Nat) (S : List Nt) (D : List Int), j ≤ 2 ∧ v = .int .i64 j ∧ OW w wr b bm g T S D ∧ Hid (DR (fS S) D) ∧ Hid (Ahead k j S)) (fun v _ => 2 - (intOf v).toNat)
      case atStart => exact ⟨0, S0, D0, by omega, rfl, HO.out, hD, hA⟩
      clear HO hD hA
      case round =>
        obtain ⟨j, S, D, hj, rfl, hO, hD, hA⟩ := hrel
        have HO := hid hO
        clear hO
        by_cases hj2 : j < 2
        · go_upto_region 13 with (go_at_call 22; refine (is_take HO.out.ipi (core := (j : Int)) (now := (k : Int)) (wfI (by omega) (by omega)) (by omega)).mono ?_; rintro e w4 ⟨v4, rfl, hown, hI, hF⟩)
          obtain ⟨A4, cap4, rfl⟩ := own_slice hown
          have HI4 := hid hI
          have HO4 := hid (HO.out.step hI hF)
          have hT0 : (k : Int) = 0 → S = [] := fun e => List.length_eq_zero_iff.1 (by have := HO.out.ipi.len; omega)
          have HM := hid (many_is HO.out.ipi.inv hD.out hA.out hj2 hT0 (by omega))
          have HTR := hid (take_rest (core := (j : Int)) (now := (k : Int)) HO.out.ipi.inv)
          have HTM : Hid (∀ x ∈ (takeS S (j : Int) (k : Int)).map Nt.t, 0 ≤ x ∧ x < 24 ∧ valF (fS S ((j : Int), x)) = (k : Int)) := hid (fun x hx => by
            obtain ⟨y, hy, rfl⟩ := List.mem_map.1 hx
            obtain ⟨h1, h2, h3⟩ := (takeS_mem HO.out.ipi.inv).1 hy
            have hb := HO.out.ipi.inv.bd y h1
            have ha := hA.out y h1
            refine ⟨hb.2.2.1, hb.2.2.2.1, ?_⟩
            rw [← h2, show (y.c, y.t) = y.key from rfl, fS_mem HO.out.ipi.inv.nodup h1]
            show y.d = _
            have := ha.1
            omega)
          have HTN := hid (takeS_nodup (core := (j : Int)) (now := (k : Int)) HO.out.ipi.inv)
          have HWN := hid (own_ge hown)
          have HGL := hid (blk_lt HO.out.due)
          obtain ⟨l, hl⟩ : ∃ l, l = (takeS S (j : Int) (k : Int)).map Nt.t := ⟨_, rfl⟩
          rw [← hl] at hown HM HTR HTM HTN HWN
          obtain ⟨L, hL⟩ : ∃ L, L = l.length := ⟨_, rfl⟩
          rw [← hL] at hown HM HWN
          rw [← hl, ← hL]
          have HL := hid hL
          have HOWN := hid hown
          have hL24 : L ≤ 24 := by rw [← HM.out]; exact cntD_le _ _ _ _
          clear hown hI hF hT0 hl hL
          go_wp2_with fail
          go_loopw [14, 15] (fun m t wr => ∃ i : Nat, i ≤ 24 ∧ t = .int .i64 i ∧ m = .int .i64 (cntD D j k i : Nat) ∧ wr = w4) (fun _ t _ => 24 - (intOf t).toNat)
          case atStart => exact ⟨0, by omega, rfl, rfl, rfl⟩
          case round =>
            obtain ⟨i, hi, rfl, rfl, hw4⟩ := hrel
            obtain rfl : w4 = wr := hw4.symm
            by_cases hi2 : i < 24
            · obtain ⟨x, hx⟩ : ∃ x, D[j * 24 + i]? = some x := ⟨_, hD.out.val j i hj2 hi2⟩
              have cx := HO4.out.cell hx
              have hix : ((j : Int) * 24 + (i : Int)).toNat = j * 24 + i := by omega
              have hsu := hid (cntD_succ D j (k : Int) i)
              have hcl := cntD_le D j (k : Int) i
              have hgd : D.getD (j * 24 + i) 0 = x := by rw [List.getD_eq_getElem?_getD, hx]; rfl
              rw [hgd] at hsu
              have HSU := hid hsu.out
              obtain ⟨cv, hcv⟩ : ∃ cv, cv = cntD D j (k : Int) i := ⟨_, rfl⟩
              rw [← hcv] at HSU hcl ⊢
              clear hsu hgd hx hcv
              by_cases hxk : x = (k : Int)
              · have hxb : (x == (k : Int)) = true := beq_iff_eq.2 hxk
                by_cases hk0 : 0 < (k : Int)
                · have HC := hid (show cntD D j k (i + 1) = cv + 1 by rw [HSU.out, if_pos ⟨hxk, hk0⟩])
                  clear hxk
                  go_wp2_with fail
                  go_roundw
                  case rel => exact ⟨i + 1, by omega, by go_num, by rw [HC.out]; go_num, by simp⟩
                  case measure => simp [intOf]; omega
                · have HC := hid (show cntD D j k (i + 1) = cv by rw [HSU.out, if_neg (fun h => hk0 h.2)]; rfl)
                  clear hxk
                  go_wp2_with fail
                  go_roundw
                  case rel => exact ⟨i + 1, by omega, by go_num, by rw [HC.out], by simp⟩
                  case measure => simp [intOf]; omega
              · have hxb : (x == (k : Int)) = false := beq_eq_false_iff_ne.2 hxk
                have HC := hid (show cntD D j k (i + 1) = cv by rw [HSU.out, if_neg (fun h => hxk h.1)]; rfl)
                clear hxk
                go_wp2_with fail
                go_roundw
                case rel => exact ⟨i + 1, by omega, by go_num, by rw [HC.out], by simp⟩
                case measure => simp [intOf]; omega
            · have hi3 : i = 24 := by omega
              subst hi3
              rw [HM.out]
              go_wp2_with fail
              go_loopw [16] (fun v wr => ∃ (i : Nat) (D' : List Int), i ≤ L ∧ v = .int .i64 i ∧ OW w wr b bm g T (restS S (j : Int) (k : Int)) D' ∧ Hid (DR (takeF (fS S) (j : Int) (l.take i)) D') ∧ Fr (One g) w4 wr) (fun v _ => L - (intOf v).toNat)
              case atStart => exact ⟨0, D, by omega, rfl, HO4.out, by rw [List.take_zero, takeF_nil]; exact hD, Fr.refl _ _⟩
              case round =>
                obtain ⟨i, D', hi4, rfl, hO5, hD5, hF5⟩ := hrel
                have HO5 := hid hO5
                clear hO5
                by_cases hi5 : i < L
                · obtain ⟨x, hx⟩ : ∃ x, l[i]? = some x := ⟨l[i]'(by rw [← HL.out]; exact hi5), by simp⟩
                  obtain ⟨g4, cap', cur, e, hgb, hg4, -⟩ := own_shape HOWN.out (by omega)
                  injection e with e1 _ e3
                  subst e1 e3
                  have hmem : x ∈ l := List.mem_of_getElem? hx
                  obtain ⟨hx0, hx24, hxv⟩ := HTM.out x hmem
                  obtain ⟨t, rfl⟩ : ∃ t : Nat, x = (t : Int) := ⟨x.toNat, by omega⟩
                  have hgl := HGL.out
                  have cl : wr.cell? ⟨g4, i, none⟩ = some (.int .i64 (t : Int)) := hF5.cell (own_cell0 HOWN.out (by simp [intCells, hx])) (fun e => by have e2 : g4 = g := e; omega)
                  have hnot : (t : Int) ∉ l.take i := by
                    intro hm
                    obtain ⟨q, hq, hqe⟩ := List.mem_iff_getElem.1 hm
                    have hq' : q < i := by rw [List.length_take] at hq; omega
                    have h1 : l[q]? = some (t : Int) := by
                      rw [List.getElem_take] at hqe
                      rw [List.getElem?_eq_getElem (by rw [← HL.out]; omega), hqe]
                    have := (List.getElem?_inj (by rw [← HL.out]; omega) HTN.out).1 (h1.trans hx.symm)
                    omega
                  have hDv : D'[j * 24 + t]? = some (k : Int) := by
                    rw [hD5.out.val j t hj2 (by omega), ← hxv]
                    unfold takeF
                    rw [if_neg (fun h => hnot h.2)]
                  have cd := HO5.out.cell hDv
                  have fd := HO5.out.free (j * 24 + t)
                  have hix : ((j : Int) * 24 + (t : Int)).toNat = j * 24 + t := by omega
                  have HD6 := hid (hD5.out.set (g := takeF (fS S) (j : Int) (l.take (i + 1))) hj2 (by omega) 0 (by
                    rw [List.take_add_one, hx, Option.toList_some, ← takeF_step]; simp [valF]) (fun p hp => by
                    rw [List.take_add_one, hx, Option.toList_some, ← takeF_step]; simp only [if_neg hp]) (c := j) (t := t))
                  have HO6 := hid (HO5.out.put (j * 24 + t) 0)
                  have HF6 := hid (hF5.one (j * 24 + t) (.int .i64 0))
                  clear hx hmem hxv hnot hDv hF5 hgb hg4
                  go_wp2_with fail
                  go_roundw
                  case rel => exact ⟨i + 1, _, by omega, by go_num, HO6.out, HD6.out, HF6.out⟩
                  case measure => simp [intOf]; omega
                · have hi6 : i = L := by omega
                  subst hi6
                  have hl6 : l.take i = l := by rw [HL.out]; exact List.take_length
                  rw [hl6, HTR.out] at hD5
                  have HAR := hid (hA.out.rest)
                  clear hl6
                  go_wp2_with fail
                  go_roundw
                  case rel => exact ⟨j + 1, _, D', by omega, by go_num, HO5.out, hD5, (by have e : ((j + 1 : Nat) : Int) = (j : Int) + 1 := (by omega); rw [e]; exact HAR.out)⟩
                  case measure => simp [intOf]; omega
        · have hj3 : j = 2 := by omega
          subst hj3
          have hA2 : Hid (Ahead (k : Int) 2 S) := hA
          clear hA
          obtain ⟨gb, hgb⟩ : ∃ gb : Bool, gb = decide (k < 100 ∧ k < n0 ∧ k < n1 ∧ k < n2) := ⟨_, rfl⟩
          have HGB := hid hgb
          clear hgb
          go_upto_region 27 with fail
          go_cut [124] (fun v wx => v = .bool gb ∧ wx = wr)
          case first =>
            as_aux_lemma =>
              clear HZ0 HZ1 HZ2
              by_cases h1 : k < 100
              · by_cases h2 : k < n0
                · by_cases h3 : k < n1
                  · by_cases h4 : k < n2
                    · go_wp2_with fail
                      go_meet
                      exact ⟨by rw [HGB.out, decide_eq_true ⟨h1, h2, h3, h4⟩], rfl⟩
                    · go_wp2_with fail
                      go_meet
                      exact ⟨by rw [HGB.out, decide_eq_false (fun h => h4 h.2.2.2)], rfl⟩
                  · go_wp2_with fail
                    go_meet
                    exact ⟨by rw [HGB.out, decide_eq_false (fun h => h3 h.2.2.1)], rfl⟩
                · go_wp2_with fail
                  go_meet
                  exact ⟨by rw [HGB.out, decide_eq_false (fun h => h2 h.2.1)], rfl⟩
              · go_wp2_with fail
                go_meet
                exact ⟨by rw [HGB.out, decide_eq_false (fun h => h1 h.1)], rfl⟩
          obtain ⟨rfl, hwc⟩ := hcut
          obtain rfl : wr = wc := hwc.symm
          go_upto_if 124 with fail
          go_cut [20] (fun _ wx => ∃ (T' : Nat) (S' : List Nt) (D' : List Int), T' ≤ k + 1 ∧ T' ≤ 100 ∧ OW w wx b bm g T' S' D' ∧ Hid (DR (fS S') D') ∧ Hid (Ahead (k : Int) 2 S'))
          case first =>
            as_aux_lemma =>
              cases gb
              rotate_left
              · obtain ⟨g1, g2, g3, g4⟩ := of_decide_eq_true HGB.out.symm
                clear HGB
                obtain ⟨b0, o0, rfl, hb0, hc0, hz00, hz01⟩ := ints_later HZ0.out HO.out.below g2
                obtain ⟨b1, o1, rfl, hb1, hc1, hz10, hz11⟩ := ints_later HZ1.out HO.out.below g3
                obtain ⟨b2, o2, rfl, hb2, hc2, hz20, hz21⟩ := ints_later HZ2.out HO.out.below g4
                obtain ⟨y0, hy0⟩ : ∃ y, z0 k = y := ⟨_, rfl⟩
                obtain ⟨y1, hy1⟩ : ∃ y, z1 k = y := ⟨_, rfl⟩
                obtain ⟨y2, hy2⟩ : ∃ y, z2 k = y := ⟨_, rfl⟩
                rw [hy0] at hc0 hz00 hz01
                rw [hy1] at hc1 hz10 hz11
                rw [hy2] at hc2 hz20 hz21
                have P0 := fun W => ipipick_any (w := W) y0 24 hz00 hz01 (by omega) (by omega)
                have P1 := fun W => ipipick_any (w := W) y1 2 hz10 hz11 (by omega) (by omega)
                have P2 := fun W => ipipick_any (w := W) y2 50 hz20 hz21 (by omega) (by omega)
                have q0 := pickN_bd y0 24 (by omega)
                have q1 := pickN_bd y1 2 (by omega)
                have q2 := pickN_bd y2 50 (by omega)
                obtain ⟨t, ht⟩ : ∃ t : Nat, pickN y0 24 = t := ⟨(pickN y0 24).toNat, by omega⟩
                obtain ⟨c, hcc⟩ : ∃ c : Nat, pickN y1 2 = c := ⟨(pickN y1 2).toNat, by omega⟩
                obtain ⟨n, hn⟩ : ∃ n : Nat, pickN y2 50 = n := ⟨(pickN y2 50).toNat, by omega⟩
                rw [ht] at P0 q0
                rw [hcc] at P1 q1
                rw [hn] at P2 q2
                have hc2' : c < 2 := by omega
                have ht24 : t < 24 := by omega
                have hn50 : n < 50 := by omega
                have HP0 := hid P0
                have HP1 := hid P1
                have HP2 := hid P2
                clear P0 P1 P2 ht hcc hn hy0 hy1 hy2 q0 q1 q2 HZ0 HZ1 HZ2 hz00 hz01 hz10 hz11 hz20 hz21
                obtain ⟨dv, hdv⟩ : ∃ dv, valF (fS S ((c : Int), (t : Int))) = dv := ⟨_, rfl⟩
                have hDv := hD.out.val c t hc2' ht24
                rw [hdv] at hDv
                obtain ⟨AT, hATe⟩ : ∃ AT, c * 24 + t = AT := ⟨_, rfl⟩
                have hat : (c : Int) * 24 + (t : Int) = (AT : Int) := by omega
                have hAT48 : AT < 48 := by omega
                have hAT48i : (AT : Int) < 48 := by omega
                rw [hATe] at hDv
                have HDV := hid hDv
                have HATE := hid hATe
                have HDE := hid hdv
                have HAT : Hid (wr.cell? ⟨g, AT, none⟩ = some (.int .i64 dv)) := hid (HO.out.cell hDv)
                have HNG := hid HO.out.ne
                have HO1 := hid (HO.out.later (wx := wr.drew) (below_drewN' (Below.refl _ wr) 1))
                have hlat : latV (1 + (n : Int)) = 1 + (n : Int) := by unfold latV; rw [if_neg (by omega), if_neg (by omega)]
                have HLAT := hid hlat
                clear hDv hATe hdv hlat
                go_upto_region 28 with fail
                go_wp2_with fail
                refine (HP0.out _).mono ?_
                rintro e w' ⟨rfl, rfl⟩
                go_wp2_with fail
                refine (HP1.out _).mono ?_
                rintro e w' ⟨rfl, rfl⟩
                go_wp2_with fail
                refine (HP2.out _).mono ?_
                rintro e w' ⟨rfl, rfl⟩
                clear HP0 HP1 HP2
                go_upto_region 32 with fail
                by_cases hf : fS S ((c : Int), (t : Int)) = none
                · have hdv0 : dv = 0 := by rw [← HDE.out, hf]; rfl
                  subst hdv0
                  have HSND := hid (is_send HO1.out.ipi (c := (c : Int)) (t := (t : Int)) (now := (k : Int)) (lat := 1 + (n : Int)) (pw _ _ (by omega)) (by omega) ⟨hf, by omega⟩)
                  have HFN := hid hf
                  clear hf
                  refine wp_region_held_drew (S := fun W => W.cell? ⟨g, AT, none⟩ = some (.int .i64 0)) (by kernel_rfl) HAT.out (fun hHeld => ?_)
                  refine wpAnyH_take (i := 0) (oi := ?oiy0) (v := ?vy0) ?hiy0 (by kernel_rfl) (by kernel_rfl) (by kernel_rfl) ?hqy0 (Or.inl ⟨?way0, ?hyy0⟩) (by assumption) ?hry0
                  case hiy0 => (simp only [List.getElem?_toArray, List.getElem?_cons_succ, List.getElem?_cons_zero]; rfl)
                  case way0 => rfl
                  case hyy0 => ((intro w hSw; (try dsimp only at hSw); go_simp); all_goals (with_reducible rfl))
                  case hqy0 => exact fun _ _ _ h => h
                  try simp only [Act.put, List.setIfInBounds_toArray, List.set_cons_zero, List.set_cons_succ]
                  refine wpAnyH_take (i := 1) (oi := ?oiy1) (v := ?vy1) ?hiy1 (by kernel_rfl) (by kernel_rfl) (by kernel_rfl) ?hqy1 (Or.inl ⟨?way1, ?hyy1⟩) (by assumption) ?hry1
                  case hiy1 => (simp only [List.getElem?_toArray, List.getElem?_cons_succ, List.getElem?_cons_zero]; rfl)
                  case way1 => rfl
                  case hyy1 => ((intro w hSw; (try dsimp only at hSw); go_simp); all_goals (with_reducible rfl))
                  case hqy1 => exact fun _ _ _ h => h
                  try simp only [Act.put, List.setIfInBounds_toArray, List.set_cons_zero, List.set_cons_succ]
                  refine wpAnyH_take (i := 2) (oi := ?oiy2) (v := ?vy2) ?hiy2 (by kernel_rfl) (by kernel_rfl) (by kernel_rfl) ?hqy2 (Or.inl ⟨?way2, ?hyy2⟩) (by assumption) ?hry2
                  case hiy2 => (simp only [List.getElem?_toArray, List.getElem?_cons_succ, List.getElem?_cons_zero]; rfl)
                  case way2 => rfl
                  case hyy2 => ((intro w hSw; (try dsimp only at hSw); go_simp); all_goals (with_reducible rfl))
                  case hqy2 => exact fun _ _ _ h => h
                  try simp only [Act.put, List.setIfInBounds_toArray, List.set_cons_zero, List.set_cons_succ]
                  refine wpAnyH_take (i := 3) (oi := ?oiy3) (v := ?vy3) ?hiy3 (by kernel_rfl) (by kernel_rfl) (by kernel_rfl) ?hqy3 (Or.inl ⟨?way3, ?hyy3⟩) (by assumption) ?hry3
                  case hiy3 => (simp only [List.getElem?_toArray, List.getElem?_cons_succ, List.getElem?_cons_zero]; rfl)
                  case way3 => rfl
                  case hyy3 => ((intro w hSw; (try dsimp only at hSw); go_simp); all_goals (with_reducible rfl))
                  case hqy3 => exact fun _ _ _ h => h
                  try simp only [Act.put, List.setIfInBounds_toArray, List.set_cons_zero, List.set_cons_succ]
                  refine wpAnyH_take (i := 4) (oi := ?oiy4) (v := ?vy4) ?hiy4 (by kernel_rfl) (by kernel_rfl) (by kernel_rfl) ?hqy4 (Or.inl ⟨?way4, ?hyy4⟩) (by assumption) ?hry4
                  case hiy4 => (simp only [List.getElem?_toArray, List.getElem?_cons_succ, List.getElem?_cons_zero]; rfl)
                  case way4 => rfl
                  case hyy4 => ((intro w hSw; (try dsimp only at hSw); go_simp); all_goals (with_reducible rfl))
                  case hqy4 => exact fun _ _ _ h => h
                  try simp only [Act.put, List.setIfInBounds_toArray, List.set_cons_zero, List.set_cons_succ]
                  refine wpAnyH_take (i := 6) (oi := ?oiy6) (v := ?vy6) ?hiy6 (by kernel_rfl) (by kernel_rfl) (by kernel_rfl) ?hqy6 (Or.inl ⟨?way6, ?hyy6⟩) (by assumption) ?hry6
                  case hiy6 => (simp only [List.getElem?_toArray, List.getElem?_cons_succ, List.getElem?_cons_zero]; rfl)
                  case way6 => rfl
                  case hyy6 => ((intro w hSw; (try dsimp only at hSw); go_simp); all_goals (with_reducible rfl))
                  case hqy6 => exact fun _ _ _ h => h
                  try simp only [Act.put, List.setIfInBounds_toArray, List.set_cons_zero, List.set_cons_succ]
                  refine wpAnyH_take (i := 7) (oi := ?oiy7) (v := ?vy7) ?hiy7 (by kernel_rfl) (by kernel_rfl) (by kernel_rfl) ?hqy7 (Or.inl ⟨?way7, ?hyy7⟩) (by assumption) ?hry7
                  case hiy7 => (simp only [List.getElem?_toArray, List.getElem?_cons_succ, List.getElem?_cons_zero]; rfl)
                  case way7 => rfl
                  case hyy7 => ((intro w hSw; (try dsimp only at hSw); go_simp); all_goals (with_reducible rfl))
                  case hqy7 => exact fun _ _ _ h => h
                  try simp only [Act.put, List.setIfInBounds_toArray, List.set_cons_zero, List.set_cons_succ]
                  refine wpAnyH_take (i := 8) (oi := ?oiy8) (v := ?vy8) ?hiy8 (by kernel_rfl) (by kernel_rfl) (by kernel_rfl) ?hqy8 (Or.inl ⟨?way8, ?hyy8⟩) (by assumption) ?hry8
                  case hiy8 => (simp only [List.getElem?_toArray, List.getElem?_cons_succ, List.getElem?_cons_zero]; rfl)
                  case way8 => rfl
                  case hyy8 => ((intro w hSw; (try dsimp only at hSw); go_simp); all_goals (with_reducible rfl))
                  case hqy8 => exact fun _ _ _ h => h
                  try simp only [Act.put, List.setIfInBounds_toArray, List.set_cons_zero, List.set_cons_succ]
                  refine wpAnyH_take (i := 9) (oi := ?oiy9) (v := ?vy9) ?hiy9 (by kernel_rfl) (by kernel_rfl) (by kernel_rfl) ?hqy9 (Or.inl ⟨?way9, ?hyy9⟩) (by assumption) ?hry9
                  case hiy9 => (simp only [List.getElem?_toArray, List.getElem?_cons_succ, List.getElem?_cons_zero]; rfl)
                  case way9 => rfl
                  case hyy9 => ((intro w hSw; (try dsimp only at hSw); go_simp); all_goals (with_reducible rfl))
                  case hqy9 => exact fun _ _ _ h => h
                  try simp only [Act.put, List.setIfInBounds_toArray, List.set_cons_zero, List.set_cons_succ]
                  refine wpAnyH_take (i := 10) (oi := ?oiy10) (v := ?vy10) ?hiy10 (by kernel_rfl) (by kernel_rfl) (by kernel_rfl) ?hqy10 (Or.inl ⟨?way10, ?hyy10⟩) (by assumption) ?hry10
                  case hiy10 => (simp only [List.getElem?_toArray, List.getElem?_cons_succ, List.getElem?_cons_zero]; rfl)
                  case way10 => rfl
                  case hyy10 => ((intro w hSw; (try dsimp only at hSw); go_simp); all_goals (with_reducible rfl))
                  case hqy10 => exact fun _ _ _ h => h
                  try simp only [Act.put, List.setIfInBounds_toArray, List.set_cons_zero, List.set_cons_succ]
                  refine wpAnyH_ready (rs := [5]) (by kernel_rfl) (by simp) ?_
                  refine (AllReadyH.cons (i := 5) (o := ?oy5) ?hiy5 ?sty5 AllReadyH.nil)
                  case hiy5 => (simp only [List.getElem?_toArray, List.getElem?_cons_succ, List.getElem?_cons_zero]; rfl)
                  case sty5 =>
                    intro K hK
                    go_simp
                    refine HSND.out.mono ?_
                    rintro e w6 ⟨rfl, hI6, hF6⟩
                    rw [HLAT.out] at hI6
                    have HI6 := hid hI6
                    have HF6 := hid hF6
                    clear hI6 hF6
                    go_wp2_with fail
                    refine hK.out _ _ ?_ (fun hHeld => ?_)
                    · exact HF6.out.cell (p := ⟨g, AT, none⟩) HAT.out (fun e => (HNG.out g e) rfl)
                    clear hK K
                    try simp only [Act.put, List.setIfInBounds_toArray, List.set_cons_zero, List.set_cons_succ]
                    refine wpAnyH_ready (rs := [11]) (by kernel_rfl) (by simp) ?_
                    refine (AllReadyH.cons (i := 11) (o := ?oy5_11) ?hiy5_11 ?sty5_11 AllReadyH.nil)
                    case hiy5_11 => (simp only [List.getElem?_toArray, List.getElem?_cons_succ, List.getElem?_cons_zero]; rfl)
                    case sty5_11 =>
                      intro K hK
                      go_simp
                      go_wp2_with fail
                      refine hK.out _ _ ?_ (fun hHeld => ?_)
                      · assumption
                      clear hK K
                      try simp only [Act.put, List.setIfInBounds_toArray, List.set_cons_zero, List.set_cons_succ]
                      refine wpAnyH_done (by kernel_rfl) ?_ _
                      have HO6 := hid (HO1.out.step HI6.out HF6.out)
                      have c6 : w6.cell? ⟨g, AT, none⟩ = some (.int .i64 0) := HO6.out.cell HDV.out
                      have f6 : w6.frozen? ⟨g, AT, none⟩ = false := HO6.out.free AT
                      have HO7 := hid (HO6.out.put AT ((k : Int) + (1 + (n : Int))))
                      go_wp2_with fail
                      go_meet
                      refine ⟨T + 1, _, _, by omega, by omega, HO7.out, hid ?_, hid (hA2.out.send ⟨?_, ?_⟩)⟩
                      · rw [← HATE.out]
                        refine hD.out.set hc2' ht24 _ ?_ ?_
                        · rw [fS_send S ⟨(c : Int), (t : Int), (k : Int) + (1 + (n : Int)), (T : Int) + 1⟩ HFN.out]
                          unfold sentF
                          rw [if_pos rfl]
                          rfl
                        · intro p hp
                          rw [fS_send S ⟨(c : Int), (t : Int), (k : Int) + (1 + (n : Int)), (T : Int) + 1⟩ HFN.out]
                          unfold sentF
                          rw [if_neg hp]
                      · show (k : Int) < (k : Int) + (1 + (n : Int))
                        omega
                      · show (k : Int) + (1 + (n : Int)) ≤ 149
                        omega
                · have hpos : 0 < dv := by
                    rw [← HDE.out]
                    cases e : fS S ((c : Int), (t : Int)) with
                    | none => exact absurd e hf
                    | some q =>
                      obtain ⟨y, hy, _, hq⟩ := fS_some e
                      have := HO.out.ipi.inv.bd y hy
                      rw [← hq]
                      show 0 < y.d
                      omega
                  have hdv0 : (dv == 0) = false := beq_eq_false_iff_ne.2 (by omega)
                  have HSND := hid (is_send_no HO1.out.ipi (c := (c : Int)) (t := (t : Int)) (now := (k : Int)) (lat := 1 + (n : Int)) (pw _ _ (by omega)) (by omega) (fun h => hf h.1))
                  clear hf hpos
                  refine wp_region_held_drew (S := fun W => W.cell? ⟨g, AT, none⟩ = some (.int .i64 dv)) (by kernel_rfl) HAT.out (fun hHeld => ?_)
                  refine wpAnyH_take (i := 0) (oi := ?oin0) (v := ?vn0) ?hin0 (by kernel_rfl) (by kernel_rfl) (by kernel_rfl) ?hqn0 (Or.inl ⟨?wan0, ?hyn0⟩) (by assumption) ?hrn0
                  case hin0 => (simp only [List.getElem?_toArray, List.getElem?_cons_succ, List.getElem?_cons_zero]; rfl)
                  case wan0 => rfl
                  case hyn0 => ((intro w hSw; (try dsimp only at hSw); go_simp); all_goals (with_reducible rfl))
                  case hqn0 => exact fun _ _ _ h => h
                  try simp only [Act.put, List.setIfInBounds_toArray, List.set_cons_zero, List.set_cons_succ]
                  refine wpAnyH_take (i := 1) (oi := ?oin1) (v := ?vn1) ?hin1 (by kernel_rfl) (by kernel_rfl) (by kernel_rfl) ?hqn1 (Or.inl ⟨?wan1, ?hyn1⟩) (by assumption) ?hrn1
                  case hin1 => (simp only [List.getElem?_toArray, List.getElem?_cons_succ, List.getElem?_cons_zero]; rfl)
                  case wan1 => rfl
                  case hyn1 => ((intro w hSw; (try dsimp only at hSw); go_simp); all_goals (with_reducible rfl))
                  case hqn1 => exact fun _ _ _ h => h
                  try simp only [Act.put, List.setIfInBounds_toArray, List.set_cons_zero, List.set_cons_succ]
                  refine wpAnyH_take (i := 2) (oi := ?oin2) (v := ?vn2) ?hin2 (by kernel_rfl) (by kernel_rfl) (by kernel_rfl) ?hqn2 (Or.inl ⟨?wan2, ?hyn2⟩) (by assumption) ?hrn2
                  case hin2 => (simp only [List.getElem?_toArray, List.getElem?_cons_succ, List.getElem?_cons_zero]; rfl)
                  case wan2 => rfl
                  case hyn2 => ((intro w hSw; (try dsimp only at hSw); go_simp); all_goals (with_reducible rfl))
                  case hqn2 => exact fun _ _ _ h => h
                  try simp only [Act.put, List.setIfInBounds_toArray, List.set_cons_zero, List.set_cons_succ]
                  refine wpAnyH_take (i := 3) (oi := ?oin3) (v := ?vn3) ?hin3 (by kernel_rfl) (by kernel_rfl) (by kernel_rfl) ?hqn3 (Or.inl ⟨?wan3, ?hyn3⟩) (by assumption) ?hrn3
                  case hin3 => (simp only [List.getElem?_toArray, List.getElem?_cons_succ, List.getElem?_cons_zero]; rfl)
                  case wan3 => rfl
                  case hyn3 => ((intro w hSw; (try dsimp only at hSw); go_simp); all_goals (with_reducible rfl))
                  case hqn3 => exact fun _ _ _ h => h
                  try simp only [Act.put, List.setIfInBounds_toArray, List.set_cons_zero, List.set_cons_succ]
                  refine wpAnyH_take (i := 4) (oi := ?oin4) (v := ?vn4) ?hin4 (by kernel_rfl) (by kernel_rfl) (by kernel_rfl) ?hqn4 (Or.inl ⟨?wan4, ?hyn4⟩) (by assumption) ?hrn4
                  case hin4 => (simp only [List.getElem?_toArray, List.getElem?_cons_succ, List.getElem?_cons_zero]; rfl)
                  case wan4 => rfl
                  case hyn4 => ((intro w hSw; (try dsimp only at hSw); go_simp); all_goals (with_reducible rfl))
                  case hqn4 => exact fun _ _ _ h => h
                  try simp only [Act.put, List.setIfInBounds_toArray, List.set_cons_zero, List.set_cons_succ]
                  refine wpAnyH_take (i := 6) (oi := ?oin6) (v := ?vn6) ?hin6 (by kernel_rfl) (by kernel_rfl) (by kernel_rfl) ?hqn6 (Or.inl ⟨?wan6, ?hyn6⟩) (by assumption) ?hrn6
                  case hin6 => (simp only [List.getElem?_toArray, List.getElem?_cons_succ, List.getElem?_cons_zero]; rfl)
                  case wan6 => rfl
                  case hyn6 => ((intro w hSw; (try dsimp only at hSw); go_simp); all_goals (with_reducible rfl))
                  case hqn6 => exact fun _ _ _ h => h
                  try simp only [Act.put, List.setIfInBounds_toArray, List.set_cons_zero, List.set_cons_succ]
                  refine wpAnyH_take (i := 7) (oi := ?oin7) (v := ?vn7) ?hin7 (by kernel_rfl) (by kernel_rfl) (by kernel_rfl) ?hqn7 (Or.inl ⟨?wan7, ?hyn7⟩) (by assumption) ?hrn7
                  case hin7 => (simp only [List.getElem?_toArray, List.getElem?_cons_succ, List.getElem?_cons_zero]; rfl)
                  case wan7 => rfl
                  case hyn7 => ((intro w hSw; (try dsimp only at hSw); go_simp); all_goals (with_reducible rfl))
                  case hqn7 => exact fun _ _ _ h => h
                  try simp only [Act.put, List.setIfInBounds_toArray, List.set_cons_zero, List.set_cons_succ]
                  refine wpAnyH_take (i := 8) (oi := ?oin8) (v := ?vn8) ?hin8 (by kernel_rfl) (by kernel_rfl) (by kernel_rfl) ?hqn8 (Or.inl ⟨?wan8, ?hyn8⟩) (by assumption) ?hrn8
                  case hin8 => (simp only [List.getElem?_toArray, List.getElem?_cons_succ, List.getElem?_cons_zero]; rfl)
                  case wan8 => rfl
                  case hyn8 => ((intro w hSw; (try dsimp only at hSw); go_simp); all_goals (with_reducible rfl))
                  case hqn8 => exact fun _ _ _ h => h
                  try simp only [Act.put, List.setIfInBounds_toArray, List.set_cons_zero, List.set_cons_succ]
                  refine wpAnyH_take (i := 9) (oi := ?oin9) (v := ?vn9) ?hin9 (by kernel_rfl) (by kernel_rfl) (by kernel_rfl) ?hqn9 (Or.inl ⟨?wan9, ?hyn9⟩) (by assumption) ?hrn9
                  case hin9 => (simp only [List.getElem?_toArray, List.getElem?_cons_succ, List.getElem?_cons_zero]; rfl)
                  case wan9 => rfl
                  case hyn9 => ((intro w hSw; (try dsimp only at hSw); go_simp); all_goals (with_reducible rfl))
                  case hqn9 => exact fun _ _ _ h => h
                  try simp only [Act.put, List.setIfInBounds_toArray, List.set_cons_zero, List.set_cons_succ]
                  refine wpAnyH_take (i := 10) (oi := ?oin10) (v := ?vn10) ?hin10 (by kernel_rfl) (by kernel_rfl) (by kernel_rfl) ?hqn10 (Or.inl ⟨?wan10, ?hyn10⟩) (by assumption) ?hrn10
                  case hin10 => (simp only [List.getElem?_toArray, List.getElem?_cons_succ, List.getElem?_cons_zero]; rfl)
                  case wan10 => rfl
                  case hyn10 => ((intro w hSw; (try dsimp only at hSw); go_simp); all_goals (with_reducible rfl))
                  case hqn10 => exact fun _ _ _ h => h
                  try simp only [Act.put, List.setIfInBounds_toArray, List.set_cons_zero, List.set_cons_succ]
                  refine wpAnyH_ready (rs := [5]) (by kernel_rfl) (by simp) ?_
                  refine (AllReadyH.cons (i := 5) (o := ?on5) ?hin5 ?stn5 AllReadyH.nil)
                  case hin5 => (simp only [List.getElem?_toArray, List.getElem?_cons_succ, List.getElem?_cons_zero]; rfl)
                  case stn5 =>
                    intro K hK
                    go_simp
                    refine HSND.out.mono ?_
                    rintro e w6 ⟨rfl, hb6⟩
                    have HB6 := hid hb6
                    clear hb6
                    go_wp2_with fail
                    refine hK.out _ _ ?_ (fun hHeld => ?_)
                    · exact (fr0 HB6.out).cell (p := ⟨g, AT, none⟩) HAT.out (fun h => h)
                    clear hK K
                    try simp only [Act.put, List.setIfInBounds_toArray, List.set_cons_zero, List.set_cons_succ]
                    refine wpAnyH_ready (rs := [11]) (by kernel_rfl) (by simp) ?_
                    refine (AllReadyH.cons (i := 11) (o := ?on5_11) ?hin5_11 ?stn5_11 AllReadyH.nil)
                    case hin5_11 => (simp only [List.getElem?_toArray, List.getElem?_cons_succ, List.getElem?_cons_zero]; rfl)
                    case stn5_11 =>
                      intro K hK
                      go_simp
                      go_wp2_with fail
                      refine hK.out _ _ ?_ (fun hHeld => ?_)
                      · assumption
                      clear hK K
                      try simp only [Act.put, List.setIfInBounds_toArray, List.set_cons_zero, List.set_cons_succ]
                      refine wpAnyH_done (by kernel_rfl) ?_ _
                      have HO6 := hid (HO1.out.later HB6.out)
                      have c6 : w6.cell? ⟨g, AT, none⟩ = some (.int .i64 dv) := HO6.out.cell HDV.out
                      go_wp2_with fail
                      go_meet
                      exact ⟨T, S, D, by omega, by omega, HO6.out, hD, hA2⟩
              · clear HZ0 HZ1 HZ2
                go_wp2_with fail
                go_meet
                exact ⟨T, S, D, by omega, by omega, HO.out, hD, hA2⟩
          obtain ⟨T', S', D', hT1, hT2, hO7, hD7, hA7⟩ := hcut
          have HO7 := hid hO7
          clear hO7
          have hle0 := lenS_le HO7.out.ipi.inv 0
          have hle1 := lenS_le HO7.out.ipi.inv 1
          have HE0 := hid (is_len HO7.out.ipi 0 (by omega))
          have HE1 := hid (fun (wq : World) (h : Below wc.heap.size wc wq) => is_len (HO7.out.later h).ipi 1 (by omega))
          obtain ⟨m0, hm0⟩ : ∃ m, lenS S' 0 = m := ⟨_, rfl⟩
          obtain ⟨m1, hm1⟩ : ∃ m, lenS S' 1 = m := ⟨_, rfl⟩
          rw [hm0] at HE0 hle0
          rw [hm1] at HE1 hle1
          clear hm0 hm1
          go_wp2_with (first
            | (go_at_call_of 26 (Value.int IntKind.i64 0); refine HE0.out.mono ?_; rintro e w8 ⟨rfl, hb8⟩; have HB8 := hid hb8; clear hb8)
            | (go_at_call_of 26 (Value.int IntKind.i64 1); refine (HE1.out _ HB8.out).mono ?_; rintro e w9 ⟨rfl, hb9⟩; have HB9 := hid hb9; clear hb9))
          go_roundw
          case rel => exact ⟨k + 1, T', S', D', by omega, by go_num, by omega, by omega, (HO7.out.later HB8.out).later HB9.out, hD7, (by have e : ((k + 1 : Nat) : Int) = (k : Int) + 1 := (by omega); rw [e]; exact hA7.out.next HO7.out.ipi.inv)⟩
          case measure => simp [intOf]; omega
    · have hk2 : k = 200 := by omega
      subst hk2
      have hS : S0 = [] := by
        rcases S0 with _ | ⟨y, l⟩
        · rfl
        · have := hA.out y (List.mem_cons_self ..)
          have h1 : ((200 : Nat) : Int) = 200 := rfl
          omega
      subst hS
      have HE0 := hid (is_len HO.out.ipi 0 (by omega))
      have HE1 := hid (fun (wq : World) (h : Below wr.heap.size wr wq) => is_len (HO.out.later h).ipi 1 (by omega))
      have l0 : lenS [] 0 = 0 := rfl
      have l1 : lenS [] 1 = 0 := rfl
      rw [l0] at HE0
      rw [l1] at HE1
      clear l0 l1 HZ0 HZ1 HZ2
      go_wp2_with (first
        | (go_at_call_of 26 (Value.int IntKind.i64 0); refine HE0.out.mono ?_; rintro e w8 ⟨rfl, hb8⟩; have HB8 := hid hb8; clear hb8)
        | (go_at_call_of 26 (Value.int IntKind.i64 1); refine (HE1.out _ HB8.out).mono ?_; rintro e w9 ⟨rfl, hb9⟩; have HB9 := hid hb9; clear hb9))
      go_ret
      exact ⟨rfl, below_then (below_then HO.out.below HB8.out) HB9.out⟩
end Go.Proofs.Ytbkjlohlfkokpaa
