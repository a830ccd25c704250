/- ReadyStays: whoever is raised, and falls, and goes, the others stay in their order: the walk. Whatever levels, task, to. -/
import Derived.Test.YtbkjlohlfkokpaaReadyEx
import Derived.Test.YtbkjlohlfkokpaaHeapTurns
set_option linter.unusedVariables false
set_option linter.unusedSimpArgs false
namespace Go.Proofs.Ytbkjlohlfkokpaa
open Go.RowKit Go.Maps

/-! Levels of a list, put in by tasks -/
def kzQ (z : Nat → Int) (m : Int) (i : Nat) : Int := Rk.key ⟨pickN (z i) m, 0, false⟩ i
def fillQ (z : Nat → Int) (m : Int) : Nat → Int → Option Rk
  | 0 => fun _ => none
  | i + 1 => addF (fillQ z m i) i (pickN (z i) m)
theorem fillQ_at (z : Nat → Int) (m : Int) : ∀ {i x : Nat}, x < i → fillQ z m i x = some ⟨pickN (z x) m, 0, false⟩
  | 0, x, h => by omega
  | i + 1, x, h => by
    show (if (x : Int) = i then _ else fillQ z m i x) = _
    by_cases e : x = i
    · subst e
      rw [if_pos rfl]
    · rw [if_neg (by omega)]
      exact fillQ_at z m (by omega)
theorem fillS_out (z : Nat → Int) (i : Nat) : ((i : Nat) : Int) ∉ fsts (fillS z i) := fun hm => by
  obtain ⟨q, hq, e⟩ := List.mem_map.1 hm
  obtain ⟨j, hj, rfl⟩ := fillS_mem z i q hq
  simp at e
  omega
theorem fill_may {i : Nat} {z m : Int} (hi : i < 24) (hm : 0 < m) (hm2 : m ≤ 1125899906842624) : mayB i (pickN z m) = true := by
  have := pickN_bd z m hm
  unfold mayB
  exact decide_eq_true ⟨by omega, by omega, by omega, by omega⟩
theorem fill_add {w : World} {base q T : Nat} {Q : Nat → Prop} {policy : Int} (z : Nat → Int) (m : Int) (hm : 0 < m) (hm2 : m ≤ 1125899906842624) {i : Nat} (hi : i < 24) (hT : T < 10000) (H : IsQ w base q Q policy T (fillQ z m i) (fillS (kzQ z m) i)) :
    Calls Try.prog 51 #[.pointer (some ⟨q, 0, none⟩), .int .i64 i, .int .i64 (pickN (z i) m)] w fun e w' => e = .returned (.int .i64 0) ∧ QBehind w base q Q policy (T + 1) (fillQ z m (i + 1)) (fillS (kzQ z m) (i + 1)) w' :=
  q_add_new H (fill_may hi hm hm2) hT (fillS_out _ i) rfl
theorem off_ins {t k : Int} {M : List (Int × Int)} (h : M.Pairwise (fun p q => p.2 ≤ q.2)) (ht : t ∉ fsts M) : offP t (insP (t, k) M) = M := by
  conv => rhs; rw [← split_sorted k h, ← offP_out (t := t) (L := M.filter (fun q => decide (q.2 ≤ k)) ++ M.filter (fun q => decide (k < q.2))) (by rw [split_sorted k h]; exact ht)]
  unfold insP offP
  rw [List.filter_append, List.filter_append, List.filter_cons_of_neg (by simp)]
/-- A queue behind a call's start, and a list that is none of its own. -/
structure QO (w wx : World) (q : Nat) (Q : Nat → Prop) (policy : Int) (T : Nat) (f : Int → Option Rk) (L : List (Int × Int)) (u : Value) (l : List Int) : Prop where
  qw : QW w wx q Q policy T f L
  own : wx.ownsRow w.heap.size 3 1 u l.length (intCells l)
  nq : ∀ b, u.ownBlock = some b → ¬ Q b
section
variable {w wx w' : World} {q T T' : Nat} {Q : Nat → Prop} {policy : Int} {f f' : Int → Option Rk} {L L' : List (Int × Int)} {u : Value} {l : List Int}
theorem QO.step (H : QO w wx q Q policy T f L u l) (hB : QBehind wx w.heap.size q Q policy T' f' L' w') : ∃ Q', QO w w' q Q' policy T' f' L' u l := by
  obtain ⟨Q', hI, hF, hN⟩ := hB
  refine ⟨Q', ⟨⟨((Fr.of_below (S := NoB) H.qw.below).trans hF (fun k hk => .inr (H.qw.q.lt k hk).1)).no, hI⟩, own_kept H.own hF (fun b hb e => H.nq b hb e), fun b hb e => ?_⟩⟩
  rcases hN b e with e | e
  · exact H.nq b hb e
  · have := (H.own.lt b hb).2
    omega
theorem QO.later (H : QO w wx q Q policy T f L u l) (k : Below wx.heap.size wx w') : QO w w' q Q policy T f L u l := ⟨H.qw.later k, own_kept H.own (fr0 k) (fun _ _ h => h), H.nq⟩
theorem QW.list (H : QW w wx q Q policy T f L) (k : Below wx.heap.size wx w') (hu : w'.ownsRow wx.heap.size 3 1 u l.length (intCells l)) : QO w w' q Q policy T f L u l :=
  ⟨H.later k, own_mono hu H.below.size, fun b hb e => by have h1 := (H.q.lt b e).2; have h2 := own_ge hu b hb; omega⟩
end
attribute [local irreducible] pushP insP offP fillS lowP fsts fillQ kzQ upF upL upE
set_option maxRecDepth 100000 in
set_option maxHeartbeats 3200000 in
theorem readystays_walk {w : World} (A : Option Addr) (len cap : Nat) (task goal : Int) (hlen : len ≤ 9223372036854775807) (z : Nat → Int) (hz : Ints w A len z) (hta : -9223372036854775808 ≤ task ∧ task ≤ 9223372036854775807) (hto : -9223372036854775808 ≤ goal ∧ goal ≤ 9223372036854775807) :
    Calls Try.prog 14 #[.slice A len cap, .int .i64 task, .int .i64 goal] w fun e w' => e = .returned (.bool true) ∧ Below w.heap.size w w' := by
  have HZ := hid hz
  clear hz
  obtain ⟨n, hn⟩ : ∃ n, min len 24 = n := ⟨_, rfl⟩
  have hnb : n ≤ len ∧ n ≤ 24 := by omega
  have HN := hid hn
  clear hn
  obtain ⟨i0, hi, hz0, hz1, hz2⟩ := info_parts Try.info_int
  have HI := hid (And.intro hi (And.intro hz0 (And.intro hz1 hz2)))
  clear hi hz0 hz1 hz2
  go_enter Try.func14, Try.ntmps14
  go_wp2_with fail
  refine readyex_any.mono ?_
  rintro e w1 ⟨rfl, hb1⟩
  go_wp2_with fail
  refine (q_new 1 (.inl rfl)).mono ?_
  rintro e w2 ⟨q, Q0, rfl, h0, hb2⟩
  have H0 := hid (show QW w w2 q Q0 1 0 (fillQ z 9 0) (fillS (kzQ z 9) 0) from ⟨below_then hb1 hb2, by unfold fillS fillQ; exact h0.weak hb1.size⟩)
  clear h0 hb1 hb2
  go_upto_region 6 with fail
  have hmin : min (len : Int) 24 = n := by have := HN.out; omega
  rw [hmin]
  clear hmin HN
  by_cases hz : n = 0
  · subst hz
    have hf := q_first H0.out.q
    rw [show (if (fillS (kzQ z 9) 0).isEmpty = true then (-1 : Int) else (headP (fillS (kzQ z 9) 0)).1) = -1 by unfold fillS; rfl] at hf
    have HF := hid hf
    clear hf
    go_wp2_with fail
    refine HF.out.mono ?_
    rintro e w3 ⟨rfl, k3, hw3⟩
    have HB3 : Hid (Below w.heap.size w w3) := by rw [hw3]; exact hid (below_drewN' H0.out.below k3)
    clear hw3
    go_wp2_with fail
    go_ret
    exact ⟨rfl, HB3.out⟩
  have hn1 : 0 < n := by omega
  have hne0 : ((n : Int) == 0) = false := beq_eq_false_iff_ne.2 (by omega)
  have HPK := hid (fun W => readypick_any (w := W) task n hta.1 hta.2 (by omega) (by omega))
  have hpb := pickN_bd task n (by omega)
  generalize pickN task n = x0 at *
  obtain ⟨x, hx⟩ : ∃ x : Nat, x0 = (x : Int) := ⟨x0.toNat, by omega⟩
  subst hx
  have hxn : x < n := by omega
  have HPT := hid (fun W => readypick_any (w := W) goal 9 hto.1 hto.2 (by omega) (by omega))
  have htb := pickN_bd goal 9 (by omega)
  generalize pickN goal 9 = tl at *
  clear hpb hz
  go_wp2_with fail
  go_loopw [11] (fun i wr => ∃ (k : Nat) (Q : Nat → Prop), k ≤ n ∧ i = .int .i64 k ∧ QW w wr q Q 1 k (fillQ z 9 k) (fillS (kzQ z 9) k)) (fun i _ => n - (intOf i).toNat)
  case atStart => exact ⟨0, Q0, by omega, rfl, H0.out⟩
  case round =>
    obtain ⟨k, Q, hk1, rfl, HH⟩ := hrel
    by_cases hlt : k < n
    · obtain ⟨ab, ao, rfl, c0, hz0, hz1⟩ := ints_wr HZ.out HH.below (k := k) (by omega)
      have HH := hid HH
      have HPZ := hid (fun W => readypick_any (w := W) (z k) 9 hz0 hz1 (by omega) (by omega))
      have HADD := hid (fill_add z 9 (by omega) (by omega) (i := k) (by omega) (by omega) HH.out.q)
      generalize pickN (z k) 9 = pz at *
      generalize z k = zk at *
      go_wp2_with fail
      refine (HPZ.out _).mono ?_
      rintro e w' ⟨rfl, rfl⟩
      go_wp2_with fail
      refine HADD.out.mono ?_
      rintro e w3 ⟨rfl, hB⟩
      obtain ⟨Q1, hH1, -⟩ := HH.out.step hB
      have HH1 := hid hH1
      clear hB hH1
      go_wp2_with fail
      go_roundw
      case rel => exact ⟨k + 1, Q1, by omega, by go_num, HH1.out⟩
      case measure => simp [intOf]; omega
    · obtain rfl : k = n := by omega
      clear hlt hk1
      have HH := hid HH
      have hxk := fillQ_at z 9 hxn
      have hin := fillS_in (kzQ z 9) hxn
      have HSO := hid ((fillS_sorted (kzQ z 9) k).imp (fun {p q} h => (show p.2 ≤ q.2 by unfold ltP at h; omega)))
      have HL0 := hid (show (fsts (fillS (kzQ z 9) k)).length = (fillS (kzQ z 9) k).length by unfold fsts; rw [List.length_map])
      have HLK := hid (show (fsts (fillS (kzQ z 9) k)).length = k by unfold fsts; rw [List.length_map, fillS_len])
      generalize pickN (z x) 9 = px at *
      generalize fillS (kzQ z 9) k = L0 at *
      generalize fillQ z 9 k = f0 at *
      have hno : (x : Int) ∉ fsts (offP x L0) := fun h => by
        rw [fsts_off] at h
        exact h.1 rfl
      have e1 : upE f0 x = 0 := by unfold upE; rw [hxk]
      have e2 : upL f0 L0 x (raiseR tl) = insP ((x : Int), Rk.key ⟨px, tl, true⟩ x) (offP x L0) := by unfold upL; rw [hxk]; rfl
      have HFR := hid (show (fsts L0).filter (fun y => decide (y ≠ (x : Int))) = fsts (offP x L0) from turns_first (k := 0))
      have HFL := hid (show (fsts (upL f0 L0 x (raiseR tl))).filter (fun y => decide (y ≠ (x : Int))) = fsts (offP x L0) by rw [e2]; exact turns_rest (offP_sorted HSO.out) hno)
      have HOF := hid (show offP x (upL f0 L0 x (raiseR tl)) = offP x L0 by rw [e2]; exact off_ins (offP_sorted HSO.out) hno)
      have hin2 : (x : Int) ∈ fsts (upL f0 L0 x (raiseR tl)) := by rw [e2]; exact fsts_ins.2 (.inl rfl)
      have HIN2 := hid hin2
      have HRA := hid (fun (W : World) (B : Nat) (Q' : Nat → Prop) (T : Nat) (h : IsQ W B q Q' 1 T f0 L0) (hT : T < 10000) => (show Calls Try.prog 54 #[.pointer (some ⟨q, 0, none⟩), .int .i64 x, .int .i64 tl] W fun e w' => e = .returned (.int .i64 0) ∧ QBehind W B q Q' 1 (T + 1) (upF f0 x (raiseR tl)) (upL f0 L0 x (raiseR tl)) w' by
        have := q_raise h (t := x) (l := tl) (by omega) (by unfold mayB; exact decide_eq_true ⟨by omega, by omega, by omega, by omega⟩) hT
        rw [e1] at this
        exact this))
      clear e1 e2 hno hxk hin hin2
      generalize upL f0 L0 x (raiseR tl) = L1 at *
      generalize upF f0 x (raiseR tl) = f1 at *
      go_wp2_with fail
      refine (HPK.out _).mono ?_
      rintro e w' ⟨rfl, rfl⟩
      go_wp2_with fail
      refine (q_all HH.out.q).mono ?_
      rintro e w5 ⟨u, rfl, hu, hb5⟩
      rw [← HL0.out, HLK.out] at hu
      obtain ⟨Au, cu, rfl⟩ := own_slice hu
      have HU := hid hu
      have HQ5 := hid (HH.out.later hb5)
      clear hu hb5 HH H0 HL0
      generalize hl0 : fsts L0 = l0 at *
      clear hl0
      go_wp2_with fail
      go_loopw [13, 15] (fun v i wr => ∃ j : Nat, j ≤ k ∧ i = .int .i64 j ∧ Below w5.heap.size w5 wr ∧ wr.ownsRow w5.heap.size 3 1 v ((l0.take j).filter (fun y => decide (y ≠ (x : Int)))).length (intCells ((l0.take j).filter (fun y => decide (y ≠ (x : Int)))))) (fun _ i _ => k - (intOf i).toNat)
      case atStart => exact ⟨0, by omega, rfl, Below.refl _ _, by simp; exact World.ownsRow_nil _ _ _ _⟩
      case round =>
        obtain ⟨j, hj, rfl, hb, hown⟩ := hrel
        by_cases hlt : j < k
        · obtain ⟨y, hy⟩ : ∃ y, l0[j]? = some y := ⟨_, List.getElem?_eq_getElem (by have := HLK.out; omega)⟩
          obtain ⟨b2, o2, rfl, d2⟩ := (own_holds HU.out) j y hy
          have e2 := (hb.cell (World.block_lt_of_cell? _ _ d2)).trans d2
          have HTK := hid (take_flt (fun y => decide (y ≠ (x : Int))) hy)
          have hla : ((l0.take j).filter (fun y => decide (y ≠ (x : Int)))).length ≤ j := Nat.le_trans (List.length_filter_le _ _) (by simp; omega)
          have hsz := hb.size
          have HB := hid hb
          clear hy d2 hb
          generalize (l0.take j).filter (fun y => decide (y ≠ (x : Int))) = o at *
          by_cases hyx : y = (x : Int)
          · have HT2 := hid (show (l0.take (j + 1)).filter (fun y => decide (y ≠ (x : Int))) = o by rw [HTK.out]; simp [hyx])
            have HO := hid hown
            have hne : (y != (x : Int)) = false := by simp [hyx]
            clear HTK hown hyx
            go_wp2_with fail
            go_roundw
            case rel => exact ⟨j + 1, by omega, by go_num, HB.out, by rw [HT2.out]; exact HO.out⟩
            case measure => simp [intOf]; omega
          · have HT2 := hid (show (l0.take (j + 1)).filter (fun y => decide (y ≠ (x : Int))) = o ++ [y] by rw [HTK.out]; simp [hyx])
            have HO := hid hown
            have hne : (y != (x : Int)) = true := by simp [hyx]
            obtain ⟨hi, hz0, hz1, hz2⟩ := HI.out
            clear HTK hyx
            go_wp2_with (at_builtin; refine append_new rfl _ _ 34 rfl w5.heap.size 3 i0 _ 1 8 Try.underlying34 hi hz0 hz1 hz2 rfl (by decide) #[.int .i64 y] u13 o.length (intCells o) rfl _ rfl rfl hown rfl (one_one _) (by unfold maxLen; omega) (by omega) hsz ?_)
            intro v6 w6 hown6 hf6 hl6
            have HO6 : Hid (w6.ownsRow w5.heap.size 3 1 v6 (o ++ [y]).length (intCells (o ++ [y]))) := by rw [int_snoc, List.length_append]; exact hid hown6
            have HB6 : Hid (Below w5.heap.size w5 w6) := hid ((Fr.of_below (S := NoB) HB.out).trans hf6 (fun b hb => .inr (own_ge HO.out b hb))).no
            clear hown6 hf6 hl6 hown
            go_wp2_with fail
            go_roundw
            case rel => exact ⟨j + 1, by omega, by go_num, HB6.out, by rw [HT2.out]; exact HO6.out⟩
            case measure => simp [intOf]; omega
        · obtain rfl : j = k := by omega
          rw [List.take_of_length_le (by have := HLK.out; omega), HFR.out] at hown
          have hqo := HQ5.out.list hb hown
          generalize hlr : fsts (offP x L0) = lr at *
          have hrl : lr.length ≤ 24 := by
            have h1 := List.length_filter_le (fun y => decide (y ≠ (x : Int))) l0
            rw [HFR.out] at h1
            have := HLK.out
            omega
          have HLR := hid hlr
          obtain ⟨nr, hnr⟩ : ∃ nr, lr.length = nr := ⟨_, rfl⟩
          have HNR := hid hnr
          rw [hnr] at hown hrl
          obtain ⟨Av, cv, rfl⟩ := own_slice hown
          have HQO := hid hqo
          clear hb hown hlr hqo hnr HU HQ5
          go_wp2_with fail
          refine (HPT.out _).mono ?_
          rintro e w' ⟨rfl, rfl⟩
          go_wp2_with fail
          refine (HRA.out _ _ _ _ HQO.out.qw.q (by omega)).mono ?_
          rintro e w6 ⟨rfl, hB⟩
          obtain ⟨Q6, hO6⟩ := HQO.out.step hB
          have HO6 := hid hO6
          clear hB hO6 HQO
          go_wp2_with fail
          refine (q_all HO6.out.qw.q).mono ?_
          rintro e w7 ⟨u2, rfl, hu2, hb7⟩
          have hlf : (fsts L1).length = L1.length := by unfold fsts; rw [List.length_map]
          rw [← hlf] at hu2
          have hl1 : (fsts L1).length ≤ 24 := by have := HO6.out.qw.q.facts; omega
          have HO7 := hid (HO6.out.later hb7)
          generalize hl1e : fsts L1 = l1 at *
          have HL1E := hid hl1e
          clear hl1e
          obtain ⟨m, hm⟩ : ∃ m, l1.length = m := ⟨_, rfl⟩
          rw [hm] at hu2 hl1
          obtain ⟨A2, c2, rfl⟩ := own_slice hu2
          have HU2 := hid hu2
          have HM := hid hm
          clear hu2 hb7 hm hlf HO6
          go_wp2_with fail
          go_loopw [16, 17] (fun v i wr => ∃ j : Nat, j ≤ m ∧ i = .int .i64 j ∧ Below w7.heap.size w7 wr ∧ wr.ownsRow w7.heap.size 3 1 v ((l1.take j).filter (fun y => decide (y ≠ (x : Int)))).length (intCells ((l1.take j).filter (fun y => decide (y ≠ (x : Int)))))) (fun _ i _ => m - (intOf i).toNat)
          case atStart => exact ⟨0, by omega, rfl, Below.refl _ _, by simp; exact World.ownsRow_nil _ _ _ _⟩
          case round =>
            obtain ⟨i, hj, rfl, hb, hown⟩ := hrel
            by_cases hlt : i < m
            · obtain ⟨y, hy⟩ : ∃ y, l1[i]? = some y := ⟨_, List.getElem?_eq_getElem (by have := HM.out; omega)⟩
              obtain ⟨b2, o2, rfl, d2⟩ := (own_holds HU2.out) i y hy
              have e2 := (hb.cell (World.block_lt_of_cell? _ _ d2)).trans d2
              have HTK := hid (take_flt (fun y => decide (y ≠ (x : Int))) hy)
              have hla : ((l1.take i).filter (fun y => decide (y ≠ (x : Int)))).length ≤ i := Nat.le_trans (List.length_filter_le _ _) (by simp; omega)
              have hsz := hb.size
              have HB := hid hb
              clear hy d2 hb
              generalize (l1.take i).filter (fun y => decide (y ≠ (x : Int))) = o at *
              by_cases hyx : y = (x : Int)
              · have HT2 := hid (show (l1.take (i + 1)).filter (fun y => decide (y ≠ (x : Int))) = o by rw [HTK.out]; simp [hyx])
                have HO := hid hown
                have hne : (y != (x : Int)) = false := by simp [hyx]
                clear HTK hown hyx
                go_wp2_with fail
                go_roundw
                case rel => exact ⟨i + 1, by omega, by go_num, HB.out, by rw [HT2.out]; exact HO.out⟩
                case measure => simp [intOf]; omega
              · have HT2 := hid (show (l1.take (i + 1)).filter (fun y => decide (y ≠ (x : Int))) = o ++ [y] by rw [HTK.out]; simp [hyx])
                have HO := hid hown
                have hne : (y != (x : Int)) = true := by simp [hyx]
                obtain ⟨hi, hz0, hz1, hz2⟩ := HI.out
                clear HTK hyx
                go_wp2_with (at_builtin; refine append_new rfl _ _ 34 rfl w7.heap.size 3 i0 _ 1 8 Try.underlying34 hi hz0 hz1 hz2 rfl (by decide) #[.int .i64 y] u16 o.length (intCells o) rfl _ rfl rfl hown rfl (one_one _) (by unfold maxLen; omega) (by omega) hsz ?_)
                intro v6 w6 hown6 hf6 hl6
                have HO6 : Hid (w6.ownsRow w7.heap.size 3 1 v6 (o ++ [y]).length (intCells (o ++ [y]))) := by rw [int_snoc, List.length_append]; exact hid hown6
                have HB6 : Hid (Below w7.heap.size w7 w6) := hid ((Fr.of_below (S := NoB) HB.out).trans hf6 (fun b hb => .inr (own_ge HO.out b hb))).no
                clear hown6 hf6 hl6 hown
                go_wp2_with fail
                go_roundw
                case rel => exact ⟨i + 1, by omega, by go_num, HB6.out, by rw [HT2.out]; exact HO6.out⟩
                case measure => simp [intOf]; omega
            · obtain rfl : i = m := by omega
              rw [List.take_of_length_le (by have := HM.out; omega), HFL.out, HNR.out] at hown
              obtain ⟨Aq, cq, rfl⟩ := own_slice hown
              have HO8 := hid (HO7.out.later hb)
              have hown8 := HO8.out.own
              rw [HNR.out] at hown8
              have HV1 := hid (own_holds hown8)
              have HV2 := hid (own_holds hown)
              clear hb hown hown8 HO7
              go_wp2_with fail
              refine (readynumbers_same Av Aq nr cv cq lr HNR.out.symm HV1.out HV2.out (by omega)).mono ?_
              rintro e w8 ⟨rfl, k8, hw8⟩
              have HO9 : Hid (QO w w8 q Q6 1 (j + 1) f1 L1 (.slice Av nr cv) lr) := by rw [hw8]; exact hid (HO8.out.later (below_drewN' (Below.refl _ _) k8))
              have hrm := q_remove HO9.out.qw.q (t := x) (by omega) (by omega)
              rw [HL1E.out, if_pos HIN2.out, HOF.out] at hrm
              have HRM := hid hrm
              clear hw8 hrm HO8 HV1 HV2
              go_wp2_with fail
              refine HRM.out.mono ?_
              rintro e w9 ⟨rfl, hB⟩
              obtain ⟨Q9, hO9⟩ := HO9.out.step hB
              have HO10 := hid hO9
              clear hB hO9 HRM
              go_wp2_with fail
              refine (q_all HO10.out.qw.q).mono ?_
              rintro e w10 ⟨u3, rfl, hu3, hb10⟩
              have hlf : (fsts (offP x L0)).length = (offP x L0).length := by unfold fsts; rw [List.length_map]
              rw [← hlf, HLR.out, HNR.out] at hu3
              obtain ⟨A3, c3, rfl⟩ := own_slice hu3
              have HO11 := hid (HO10.out.later hb10)
              have hown11 := HO11.out.own
              rw [HNR.out] at hown11
              have HV1 := hid (own_holds hown11)
              have HV2 := hid (own_holds hu3)
              clear hb10 hu3 hown11 hlf
              go_wp2_with fail
              refine (readynumbers_same Av A3 nr cv c3 lr HNR.out.symm HV1.out HV2.out (by omega)).mono ?_
              rintro e w11 ⟨rfl, k11, rfl⟩
              go_wp2_with fail
              go_ret
              exact ⟨rfl, below_drewN' HO11.out.qw.below k11⟩
end Go.Proofs.Ytbkjlohlfkokpaa
