/- HeapKeeps: what is not changed keeps its place among the others that are not, whatever is put in, changed, and taken away beside it: the walk. Whatever keys and deeds. -/
import Derived.Test.YtbkjlohlfkokpaaHeapSorts
set_option linter.unusedVariables false
set_option linter.unusedSimpArgs false
namespace Go.Proofs.Ytbkjlohlfkokpaa
open Go.RowKit

def lowP (L : List (Int × Int)) : List (Int × Int) := L.filter (fun q => decide (q.1 < 20))
theorem split_sorted (k : Int) : ∀ {L : List (Int × Int)}, L.Pairwise (fun p q => p.2 ≤ q.2) → L.filter (fun q => decide (q.2 ≤ k)) ++ L.filter (fun q => decide (k < q.2)) = L
  | [], _ => rfl
  | p :: L, h => by
    obtain ⟨h1, h2⟩ := List.pairwise_cons.1 h
    have ih := split_sorted k h2
    by_cases e : p.2 ≤ k
    · rw [List.filter_cons_of_pos (by simpa using e), List.filter_cons_of_neg (by simp; omega), List.cons_append, ih]
    · have e1 : (p :: L).filter (fun q => decide (q.2 ≤ k)) = [] := List.filter_eq_nil_iff.2 (fun q hq => by
        rcases List.mem_cons.1 hq with rfl | hq
        · simpa using e
        · have := h1 q hq; simp; omega)
      have e2 : (p :: L).filter (fun q => decide (k < q.2)) = p :: L := List.filter_eq_self.2 (fun q hq => by
        rcases List.mem_cons.1 hq with rfl | hq
        · simp; omega
        · have := h1 q hq; simp; omega)
      rw [e1, e2, List.nil_append]
theorem lowP_ins {t k : Int} {L : List (Int × Int)} (h : L.Pairwise (fun p q => p.2 ≤ q.2)) (ht : 20 ≤ t) : lowP (insP (t, k) L) = lowP L := by
  conv => rhs; rw [← split_sorted k h]
  unfold lowP insP
  rw [List.filter_append, List.filter_append, List.filter_cons_of_neg (by simp; omega)]
theorem lowP_off {t : Int} {L : List (Int × Int)} (ht : 20 ≤ t) : lowP (offP t L) = lowP L := by
  unfold lowP offP
  rw [List.filter_filter]
  refine List.filter_congr (fun q _ => ?_)
  by_cases e : q.1 < 20
  · have : q.1 ≠ t := by omega
    simp [e, this]
  · simp [e]
theorem offP_sorted {t : Int} {L : List (Int × Int)} (h : L.Pairwise (fun p q => p.2 ≤ q.2)) : (offP t L).Pairwise (fun p q => p.2 ≤ q.2) := h.filter _
section
variable {w : World} {base h T : Nat} {Q : Nat → Prop} {L : List (Int × Int)} {t : Int}
theorem keeps_push (H : IsHeap w base h Q 256 T L) (ht : 20 ≤ t ∧ t < 70) (hT : T < 100000000) (k : Int) :
    ∃ r L', lowP L' = lowP L ∧ Calls Try.prog 30 #[.pointer (some ⟨h, 0, none⟩), .int .i64 t, .int .i64 k] w fun e w' => e = .returned (.int .i64 r) ∧ HBehind w base h Q 256 (T + 1) L' w' := by
  obtain ⟨r, L', hp⟩ : ∃ r L', pushP 256 L t k = (r, L') := ⟨_, _, rfl⟩
  refine ⟨r, L', ?_, heap_push H (by omega) hT hp⟩
  unfold pushP at hp
  split at hp
  · injection hp with _ hp; rw [hp]
  · split at hp
    · injection hp with _ hp; rw [hp]
    · split at hp
      · injection hp with _ hp; rw [hp]
      · injection hp with _ hp; rw [← hp]; exact lowP_ins H.facts.2.1 ht.1
theorem keeps_change (H : IsHeap w base h Q 256 T L) (ht : 20 ≤ t ∧ t < 70) (hT : T < 100000000) (k : Int) :
    ∃ r L', lowP L' = lowP L ∧ Calls Try.prog 33 #[.pointer (some ⟨h, 0, none⟩), .int .i64 t, .int .i64 k] w fun e w' => e = .returned (.int .i64 r) ∧ HBehind w base h Q 256 (T + 1) L' w' := by
  by_cases hin : t ∈ fsts L
  · exact ⟨0, _, by rw [lowP_ins (offP_sorted H.facts.2.1) ht.1, lowP_off ht.1], heap_change_yes H hin hT⟩
  · refine ⟨5, L, rfl, (heap_change_no H (by omega) hin).mono ?_⟩
    rintro e w' ⟨rfl, rfl⟩
    exact ⟨rfl, H.behind (Below.refl _ _) (by omega)⟩
theorem keeps_remove (H : IsHeap w base h Q 256 T L) (ht : 20 ≤ t ∧ t < 70) (hT : T < 100000000) :
    ∃ r L', lowP L' = lowP L ∧ Calls Try.prog 34 #[.pointer (some ⟨h, 0, none⟩), .int .i64 t] w fun e w' => e = .returned (.int .i64 r) ∧ HBehind w base h Q 256 (T + 1) L' w' := by
  by_cases hin : t ∈ fsts L
  · exact ⟨0, _, lowP_off ht.1, heap_remove_yes H hin hT⟩
  · refine ⟨5, L, rfl, (heap_remove_no H (by omega) hin).mono ?_⟩
    rintro e w' ⟨rfl, rfl⟩
    exact ⟨rfl, H.behind (Below.refl _ _) (by omega)⟩
end
/-- A heap behind a call's start, and a list that is none of its own. -/
structure HO (w wx : World) (h : Nat) (Q : Nat → Prop) (T : Nat) (L : List (Int × Int)) (u : Value) (l : List Int) : Prop where
  hw : HW w wx h Q 256 T L
  own : wx.ownsRow w.heap.size 3 1 u l.length (intCells l)
  nq : ∀ b, u.ownBlock = some b → ¬ Q b
section
variable {w wx w' : World} {h T T' : Nat} {Q : Nat → Prop} {L L' : List (Int × Int)} {u : Value} {l : List Int}
theorem HO.step (H : HO w wx h Q T L u l) (hB : HBehind wx w.heap.size h Q 256 T' L' w') : ∃ Q', HO w w' h Q' T' L' u l := by
  obtain ⟨Q', hI, hF, hN⟩ := hB
  refine ⟨Q', ⟨⟨((Fr.of_below (S := NoB) H.hw.below).trans hF (fun k hk => .inr (H.hw.heap.lt k hk).1)).no, hI⟩, own_kept H.own hF (fun b hb e => H.nq b hb e), fun b hb e => ?_⟩⟩
  rcases hN b e with e | e
  · exact H.nq b hb e
  · have := (H.own.lt b hb).2
    omega
theorem HO.later (H : HO w wx h Q T L u l) (k : Below wx.heap.size wx w') : HO w w' h Q T L u l := ⟨H.hw.later k, own_kept H.own (fr0 k) (fun _ _ h => h), H.nq⟩
theorem HO.more (H : HO w wx h Q T L u l) (hT : T ≤ T') : HO w wx h Q T' L u l := ⟨H.hw.more hT, H.own, H.nq⟩
theorem HW.list (H : HW w wx h Q 256 T L) (k : Below wx.heap.size wx w') (hu : w'.ownsRow wx.heap.size 3 1 u l.length (intCells l)) : HO w w' h Q T L u l :=
  ⟨H.later k, own_mono hu H.below.size, fun b hb e => by have h1 := (H.heap.lt b e).2; have h2 := own_ge hu b hb; omega⟩
end
theorem take_flt {α : Type} (p : α → Bool) {l : List α} {j : Nat} {x : α} (hx : l[j]? = some x) : (l.take (j + 1)).filter p = (l.take j).filter p ++ (if p x then [x] else []) := by
  rw [List.take_add_one, hx, Option.toList_some, List.filter_append]
  congr 1
  by_cases e : p x
  · rw [if_pos e, List.filter_cons_of_pos e]; rfl
  · rw [if_neg e, List.filter_cons_of_neg e]; rfl
theorem fsts_low (L : List (Int × Int)) : (fsts L).filter (fun x => decide (x < 20)) = fsts (lowP L) := by
  unfold fsts lowP
  rw [List.filter_map]
  rfl
theorem fillS_low (z : Nat → Int) {n : Nat} (hn : n ≤ 20) : lowP (fillS z n) = fillS z n := List.filter_eq_self.2 (fun q hq => by
  obtain ⟨j, hj, rfl⟩ := fillS_mem z n q hq
  simp; omega)
attribute [local irreducible] pushP insP offP fillS lowP fsts
set_option maxRecDepth 100000 in
set_option maxHeartbeats 3200000 in
theorem heapkeeps_walk {w : World} (A : Option Addr) (len cap : Nat) (hlen : len ≤ 9223372036854775807) (z : Nat → Int) (hz : Ints w A len z)
    (A1 : Option Addr) (len1 cap1 : Nat) (hlen1 : len1 ≤ 9223372036854775807) (Z : Nat → Nat → Int) (hZ : IntRows w A1 len1 3 Z) :
    Calls Try.prog 6 #[.slice A len cap, .slice A1 len1 cap1] w fun e w' => e = .returned (.bool true) ∧ Below w.heap.size w w' := by
  have HZ := hid hz
  have HD := hid hZ
  clear hz hZ
  obtain ⟨n, hn⟩ : ∃ n, min len 20 = n := ⟨_, rfl⟩
  have hnb : n ≤ len ∧ n ≤ 20 := by omega
  have HN := hid hn
  clear hn
  obtain ⟨i0, hi, hz0, hz1, hz2⟩ := info_parts Try.info_int
  have HI := hid (And.intro hi (And.intro hz0 (And.intro hz1 hz2)))
  clear hi hz0 hz1 hz2
  go_enter Try.func6, Try.ntmps6
  go_wp2_with fail
  refine heapex_any.mono ?_
  rintro e w1 ⟨rfl, hb1⟩
  go_wp2_with fail
  refine (heap_new 256 (by omega)).mono ?_
  rintro e w2 ⟨h, Q0, rfl, h0, hb2⟩
  have H0 := hid (show HW w w2 h Q0 256 0 (fillS z 0) from ⟨below_then hb1 hb2, by unfold fillS; exact h0.weak hb1.size⟩)
  clear h0 hb1 hb2
  go_upto_region 6 with fail
  have hmin : min (len : Int) 20 = n := by have := HN.out; omega
  rw [hmin]
  clear hmin HN
  go_wp2_with fail
  go_loopw [9] (fun i wr => ∃ (k : Nat) (Q : Nat → Prop), k ≤ n ∧ i = .int .i64 k ∧ HW w wr h Q 256 k (fillS z k)) (fun i _ => n - (intOf i).toNat)
  case atStart => exact ⟨0, Q0, by omega, rfl, H0.out⟩
  case round =>
    obtain ⟨k, Q, hk1, rfl, HH⟩ := hrel
    by_cases hlt : k < n
    · obtain ⟨ab, ao, rfl, c0, hz0, hz1⟩ := ints_wr HZ.out HH.below (k := k) (by omega)
      have HH := hid HH
      have HP := hid (fillS_push z (i := k) (by omega))
      generalize z k = zk at *
      go_wp2_with fail
      refine (heap_push HH.out.heap (t := k) (k := zk) (by omega) (by omega) HP.out).mono ?_
      rintro e w3 ⟨rfl, hB⟩
      obtain ⟨Q1, hH1, -⟩ := HH.out.step hB
      have HH1 := hid hH1
      clear hB hH1
      go_wp2_with fail
      go_roundw
      case rel => exact ⟨k + 1, Q1, by omega, by go_num, HH1.out⟩
      case measure => simp [intOf]; omega
    · obtain rfl : k = n := by omega
      clear hlt hk1
      have HLW := hid (fillS_low z hnb.2)
      have HLN := hid (show (fsts (fillS z k)).length = k by unfold fsts; rw [List.length_map, fillS_len])
      have HH := hid HH
      have hlfs := fillS_len z k
      generalize fillS z k = L0 at *
      have HLL := hid hlfs
      clear hlfs
      go_wp2_with fail
      refine (heap_all HH.out.heap).mono ?_
      rintro e w3 ⟨u, rfl, hu, hb3⟩
      have hlf : (fsts L0).length = L0.length := by unfold fsts; rw [List.length_map]
      rw [← hlf] at hu
      have hO := HH.out.list hb3 hu
      rw [HLN.out] at hu
      obtain ⟨Au, cu, rfl⟩ := own_slice hu
      have HO3 := hid hO
      clear hu hb3 hO hlf HH H0
      go_upto_block 2 with fail
      go_cut [11] (fun _ wx => ∃ (L : List (Int × Int)) (Q : Nat → Prop), HO w wx h Q (k + 200) L (.slice Au k cu) (fsts L0) ∧ Hid (lowP L = L0))
      case first =>
        as_aux_lemma =>
          go_wp2_with fail
          go_loopw [11] (fun i wr => ∃ (j : Nat) (L : List (Int × Int)) (Q : Nat → Prop), j ≤ len1 ∧ j ≤ 100 ∧ i = .int .i64 j ∧ HO w wr h Q (k + j) L (.slice Au k cu) (fsts L0) ∧ Hid (lowP L = L0)) (fun i _ => 100 - (intOf i).toNat)
          case atStart => exact ⟨0, L0, Q, by omega, by omega, rfl, HO3.out, HLW⟩
          case round =>
            obtain ⟨j, L, Q, hj1, hj2, rfl, HJ, HL⟩ := hrel
            have HJ := hid HJ
            by_cases h1 : j < len1
            · by_cases h2 : j < 100
              · obtain ⟨ab, ao, rfl, hbl, hcs⟩ := HD.out j h1
                obtain ⟨hc0, hd0, hd1⟩ := hcs 0 (by omega)
                obtain ⟨hc1, hr0, hr1⟩ := hcs 1 (by omega)
                obtain ⟨hc2, ht0, ht1⟩ := hcs 2 (by omega)
                have c0 : wr.cell? ⟨ab, ao + j * 3, none⟩ = some (.int .i64 (Z j 0)) := (HJ.out.hw.below.cell hbl).trans hc0
                have c1 : wr.cell? ⟨ab, ao + j * 3 + 1, none⟩ = some (.int .i64 (Z j 1)) := (HJ.out.hw.below.cell hbl).trans hc1
                have c2 : wr.cell? ⟨ab, ao + j * 3 + 2, none⟩ = some (.int .i64 (Z j 2)) := (HJ.out.hw.below.cell hbl).trans hc2
                clear hc0 hc1 hc2 hcs
                generalize Z j 0 = d0 at *
                generalize Z j 1 = d1 at *
                generalize Z j 2 = d2 at *
                have hK := pickN_bd d0 3 (by omega)
                have hR := pickN_bd d1 50 (by omega)
                have HKp := hid (fun W => heappick_any (w := W) d0 3 hd0 hd1 (by omega) (by omega))
                have HRp := hid (fun W => heappick_any (w := W) d1 50 hr0 hr1 (by omega) (by omega))
                generalize pickN d0 3 = K at *
                generalize pickN d1 50 = R at *
                have hw1 : IntKind.i64.wrap (20 + R) = 20 + R := wraps_i64 _ (by omega) (by omega)
                go_upto_region 16 with (first | (go_at_call 32; refine (HRp.out _).mono ?_; rintro e w' ⟨rfl, rfl⟩))
                clear hw1
                obtain ⟨t, htt⟩ : ∃ t, 20 + R = t := ⟨_, rfl⟩
                rw [htt]
                have ht : 20 ≤ t ∧ t < 70 := by omega
                clear htt hR HRp c0 c1 c2
                obtain ⟨wd, hwd⟩ : ∃ wd, wr.alloc (.cells #[.int .i64 d0, .int .i64 t, .int .i64 d2] 47) = wd := ⟨_, rfl⟩
                have hbk := blk_new wr (.cells #[.int .i64 d0, .int .i64 t, .int .i64 d2] 47)
                have hbd := (Below.refl wr.heap.size wr).alloc (Nat.le_refl _) (.cells #[.int .i64 d0, .int .i64 t, .int .i64 d2] 47)
                rw [hwd] at hbk hbd ⊢
                have HJ1 := hid (HJ.out.later hbd)
                have k0 : wd.cell? ⟨wr.heap.size, 0, none⟩ = some (.int .i64 d0) := blk_cell hbk 0
                have k1 : wd.cell? ⟨wr.heap.size, 1, none⟩ = some (.int .i64 t) := blk_cell hbk 1
                have k2 : wd.cell? ⟨wr.heap.size, 2, none⟩ = some (.int .i64 d2) := blk_cell hbk 2
                generalize wr.heap.size = bd at *
                clear hwd hbk hbd HJ
                rcases (show K = 0 ∨ K = 1 ∨ K = 2 by omega) with rfl | rfl | rfl
                · obtain ⟨r, L', hL', hcall⟩ := keeps_push HJ1.out.hw.heap ht (by omega) d2
                  have HCALL := hid hcall
                  have HL' := hid (hL'.trans HL.out)
                  clear hcall hL'
                  go_wp2_with (first | (go_at_call 32; refine (HKp.out _).mono ?_; rintro e w' ⟨rfl, rfl⟩) | (go_at_call 30; refine HCALL.out.mono ?_; rintro e w5 ⟨rfl, hB⟩))
                  obtain ⟨Q5, hO5⟩ := HJ1.out.step hB
                  have HO5 := hid hO5
                  clear hB hO5 HCALL
                  go_wp2_with fail
                  go_roundw
                  case rel => exact ⟨j + 1, L', Q5, by omega, by omega, by go_num, HO5.out, HL'⟩
                  case measure => simp [intOf]; omega
                · obtain ⟨r, L', hL', hcall⟩ := keeps_change HJ1.out.hw.heap ht (by omega) d2
                  have HCALL := hid hcall
                  have HL' := hid (hL'.trans HL.out)
                  clear hcall hL'
                  go_wp2_with (first | (go_at_call 32; refine (HKp.out _).mono ?_; rintro e w' ⟨rfl, rfl⟩) | (go_at_call 33; refine HCALL.out.mono ?_; rintro e w5 ⟨rfl, hB⟩))
                  obtain ⟨Q5, hO5⟩ := HJ1.out.step hB
                  have HO5 := hid hO5
                  clear hB hO5 HCALL
                  go_wp2_with fail
                  go_roundw
                  case rel => exact ⟨j + 1, L', Q5, by omega, by omega, by go_num, HO5.out, HL'⟩
                  case measure => simp [intOf]; omega
                · obtain ⟨r, L', hL', hcall⟩ := keeps_remove HJ1.out.hw.heap ht (by omega)
                  have HCALL := hid hcall
                  have HL' := hid (hL'.trans HL.out)
                  clear hcall hL'
                  go_wp2_with (first | (go_at_call 32; refine (HKp.out _).mono ?_; rintro e w' ⟨rfl, rfl⟩) | (go_at_call 34; refine HCALL.out.mono ?_; rintro e w5 ⟨rfl, hB⟩))
                  obtain ⟨Q5, hO5⟩ := HJ1.out.step hB
                  have HO5 := hid hO5
                  clear hB hO5 HCALL
                  go_wp2_with fail
                  go_roundw
                  case rel => exact ⟨j + 1, L', Q5, by omega, by omega, by go_num, HO5.out, HL'⟩
                  case measure => simp [intOf]; omega
              · go_wp2_with fail
                go_meet
                exact ⟨L, Q, HJ.out.more (by omega), HL⟩
            · go_wp2_with fail
              go_meet
              exact ⟨L, Q, HJ.out.more (by omega), HL⟩
      obtain ⟨L, Q2, hO, HL⟩ := hcut
      have HO4 := hid hO
      clear hO HO3
      go_wp2_with fail
      refine (heap_all HO4.out.hw.heap).mono ?_
      rintro e w5 ⟨u2, rfl, hu2, hb5⟩
      have hlf : (fsts L).length = L.length := by unfold fsts; rw [List.length_map]
      rw [← hlf] at hu2
      have HLO := hid (show (fsts L).filter (fun x => decide (x < 20)) = fsts L0 by rw [fsts_low, HL.out])
      have hll := HO4.out.hw.heap.facts
      have hl256 : (fsts L).length ≤ 256 := by omega
      have hO5 := HO4.out.later hb5
      have HBEL := hid hO5.hw.below
      have HOWN := hid hO5.own
      generalize fsts L = ls at *
      generalize fsts L0 = l0 at *
      obtain ⟨m, hm⟩ : ∃ m, ls.length = m := ⟨_, rfl⟩
      rw [hm] at hl256 hu2
      obtain ⟨A2, c2, rfl⟩ := own_slice hu2
      have HU2 := hid hu2
      have HM := hid hm
      clear hm hu2 hb5 hlf hll hO5 HL HLW HLL HO4
      go_wp2_with fail
      go_loopw [13, 15] (fun v i wr => ∃ j : Nat, j ≤ m ∧ i = .int .i64 j ∧ Below w5.heap.size w5 wr ∧ wr.ownsRow w5.heap.size 3 1 v ((ls.take j).filter (fun x => decide (x < 20))).length (intCells ((ls.take j).filter (fun x => decide (x < 20))))) (fun _ i _ => m - (intOf i).toNat)
      case atStart => exact ⟨0, by omega, rfl, Below.refl _ _, by simp; exact World.ownsRow_nil _ _ _ _⟩
      case round =>
        obtain ⟨j, hj, rfl, hb, hown⟩ := hrel
        by_cases hlt : j < m
        · obtain ⟨x, hx⟩ : ∃ x, ls[j]? = some x := ⟨_, List.getElem?_eq_getElem (by have := HM.out; omega)⟩
          obtain ⟨b2, o2, rfl, d2⟩ := (own_holds HU2.out) j x hx
          have e2 := (hb.cell (World.block_lt_of_cell? _ _ d2)).trans d2
          have HT := hid (take_flt (fun x => decide (x < 20)) hx)
          have hla : ((ls.take j).filter (fun x => decide (x < 20))).length ≤ j := Nat.le_trans (List.length_filter_le _ _) (by simp; omega)
          have hsz := hb.size
          have HB := hid hb
          clear hx d2 hb
          generalize (ls.take j).filter (fun x => decide (x < 20)) = o at *
          by_cases hx20 : x < 20
          · have HT2 := hid (show (ls.take (j + 1)).filter (fun x => decide (x < 20)) = o ++ [x] by rw [HT.out]; simp [hx20])
            have HO := hid hown
            obtain ⟨hi, hz0, hz1, hz2⟩ := HI.out
            clear HT
            go_wp2_with (at_builtin; refine append_new rfl _ _ 34 rfl w5.heap.size 3 i0 _ 1 8 Try.underlying34 hi hz0 hz1 hz2 rfl (by decide) #[.int .i64 x] u13 o.length (intCells o) rfl _ rfl rfl hown rfl (one_one _) (by unfold maxLen; omega) (by omega) hsz ?_)
            intro v6 w6 hown6 hf6 hl6
            have HO6 : Hid (w6.ownsRow w5.heap.size 3 1 v6 (o ++ [x]).length (intCells (o ++ [x]))) := by rw [int_snoc, List.length_append]; exact hid hown6
            have HB6 : Hid (Below w5.heap.size w5 w6) := hid ((Fr.of_below (S := NoB) HB.out).trans hf6 (fun b hb => .inr (own_ge HO.out b hb))).no
            clear hown6 hf6 hl6 hown
            go_wp2_with fail
            go_roundw
            case rel => exact ⟨j + 1, by omega, by go_num, HB6.out, by rw [HT2.out]; exact HO6.out⟩
            case measure => simp [intOf]; omega
          · have HT2 := hid (show (ls.take (j + 1)).filter (fun x => decide (x < 20)) = o by rw [HT.out]; simp [hx20])
            have HO := hid hown
            clear HT hown
            go_wp2_with fail
            go_roundw
            case rel => exact ⟨j + 1, by omega, by go_num, HB.out, by rw [HT2.out]; exact HO.out⟩
            case measure => simp [intOf]; omega
        · obtain rfl : j = m := by omega
          rw [List.take_of_length_le (by have := HM.out; omega), HLO.out] at hown
          rw [HLN.out] at hown
          obtain ⟨Av, cv, rfl⟩ := own_slice hown
          have hown0 := HOWN.out
          rw [HLN.out] at hown0
          have HH1 := hid ((own_holds hown0).kept (fr0 hb) (fun _ _ h => h))
          have HH2 := hid (own_holds hown)
          have HBF := hid (below_then HBEL.out hb)
          clear hb hown hown0
          go_wp2_with fail
          refine (heapnumbers_same Au Av k cu cv l0 HLN.out.symm HH1.out HH2.out (by omega)).mono ?_
          rintro e w' ⟨rfl, q, rfl⟩
          go_wp2_with fail
          go_ret
          exact ⟨rfl, below_drewN' HBF.out q⟩
end Go.Proofs.Ytbkjlohlfkokpaa
