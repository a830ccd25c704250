/- HeapTurns: what is changed to the key that it has goes behind all that have this key; nothing else moves: the walk. Whatever keys and which. -/
import Derived.Test.YtbkjlohlfkokpaaHeapKeeps
set_option linter.unusedVariables false
set_option linter.unusedSimpArgs false
namespace Go.Proofs.Ytbkjlohlfkokpaa
open Go.RowKit

theorem turns_rest {t k : Int} {M : List (Int × Int)} (h : M.Pairwise (fun p q => p.2 ≤ q.2)) (ht : t ∉ fsts M) : (fsts (insP (t, k) M)).filter (fun y => decide (y ≠ t)) = fsts M := by
  have e : (fsts (insP (t, k) M)).filter (fun y => decide (y ≠ t)) = fsts (offP t (insP (t, k) M)) := by
    unfold fsts offP
    rw [List.filter_map]
    rfl
  rw [e]
  congr 1
  conv => rhs; rw [← split_sorted k h]
  unfold insP
  have e1 : offP t (M.filter (fun q => decide (q.2 ≤ k)) ++ (t, k) :: M.filter (fun q => decide (k < q.2))) = offP t (M.filter (fun q => decide (q.2 ≤ k)) ++ M.filter (fun q => decide (k < q.2))) := by
    unfold offP
    rw [List.filter_append, List.filter_append, List.filter_cons_of_neg (by simp)]
  show offP t (M.filter (fun q => decide (q.2 ≤ k)) ++ (t, k) :: M.filter (fun q => decide (k < q.2))) = _
  rw [e1, split_sorted k h, offP_out ht]
theorem turns_first {t k : Int} {L : List (Int × Int)} : (fsts L).filter (fun y => decide (y ≠ t)) = fsts (offP t L) := by
  unfold fsts offP
  rw [List.filter_map]
  rfl
theorem turns_at (t k : Int) (M : List (Int × Int)) : (insP (t, k) M)[(M.filter (fun q => decide (q.2 ≤ k))).length]? = some (t, k) := by
  unfold insP
  rw [List.getElem?_append_right (Nat.le_refl _), Nat.sub_self]
  rfl
theorem turns_next {t k : Int} {M : List (Int × Int)} {q : Int × Int} (h : (insP (t, k) M)[(M.filter (fun q => decide (q.2 ≤ k))).length + 1]? = some q) : q ∈ M ∧ k < q.2 := by
  unfold insP at h
  simp only at h
  rw [List.getElem?_append_right (by omega), Nat.add_sub_cancel_left, List.getElem?_cons_succ] at h
  have := List.mem_filter.1 (List.mem_of_getElem? h)
  exact ⟨this.1, by simpa using this.2⟩
/-- What is told of the list behind the change. -/
structure Turned (z : Nat → Int) (n x : Nat) (l0 l1 : List Int) (p : Nat) : Prop where
  same : l0.filter (fun y => decide (y ≠ (x : Int))) = l1.filter (fun y => decide (y ≠ (x : Int)))
  lt : p < l1.length
  only : ∀ j y, l1[j]? = some y → (y = (x : Int) ↔ j = p)
  next : ∀ y, l1[p + 1]? = some y → ∃ j : Nat, j < n ∧ y = j ∧ z x < z j
theorem turned {w : World} {base h T : Nat} {Q : Nat → Prop} (z : Nat → Int) {n x : Nat} (hx : x < n) (H : IsHeap w base h Q 256 T (insP ((x : Int), z x) (offP x (fillS z n)))) : ∃ p, Turned z n x (fsts (fillS z n)) (fsts (insP ((x : Int), z x) (offP x (fillS z n)))) p := by
  have hs : (fillS z n).Pairwise (fun p q => p.2 ≤ q.2) := (fillS_sorted z n).imp (fun h => by unfold ltP at h; omega)
  have hm : ∀ q ∈ offP (x : Int) (fillS z n), ∃ j, j < n ∧ q = (((j : Nat) : Int), z j) := fun q hq => fillS_mem z n q (List.mem_filter.1 hq).1
  have hno : (x : Int) ∉ fsts (offP x (fillS z n)) := fun h => by
    rw [fsts_off] at h
    exact h.1 rfl
  have hnd := H.facts.1
  refine ⟨((offP x (fillS z n)).filter (fun q => decide (q.2 ≤ z x))).length, ?_, ?_, ?_, ?_⟩
  · rw [turns_first (k := z x), turns_rest (offP_sorted hs) hno]
  · have := turns_at x (z x) (offP x (fillS z n))
    obtain ⟨h1, _⟩ := List.getElem?_eq_some_iff.1 this
    unfold fsts
    rw [List.length_map]
    exact h1
  · intro j y hj
    have h0 : (fsts (insP ((x : Int), z x) (offP x (fillS z n))))[((offP x (fillS z n)).filter (fun q => decide (q.2 ≤ z x))).length]? = some (x : Int) := by
      unfold fsts
      rw [List.getElem?_map, turns_at]
      rfl
    obtain ⟨h1, h2⟩ := List.getElem?_eq_some_iff.1 h0
    obtain ⟨h3, h4⟩ := List.getElem?_eq_some_iff.1 hj
    constructor
    · intro e
      exact (List.getElem_inj hnd).1 (by rw [h4, h2, e])
    · intro e
      subst e
      rw [hj] at h0
      injection h0
  · intro y hy
    unfold fsts at hy
    rw [List.getElem?_map] at hy
    cases hq : (insP ((x : Int), z x) (offP x (fillS z n)))[((offP x (fillS z n)).filter (fun q => decide (q.2 ≤ z x))).length + 1]? with
    | none => rw [hq] at hy; cases hy
    | some q =>
      rw [hq] at hy
      obtain ⟨h1, h2⟩ := turns_next hq
      obtain ⟨j, hj, rfl⟩ := hm q h1
      injection hy with hy
      exact ⟨j, hj, hy.symm, h2⟩
theorem fillS_in (z : Nat → Int) : ∀ {n x : Nat}, x < n → (x : Int) ∈ fsts (fillS z n)
  | 0, _, h => by omega
  | n + 1, x, h => by
    show (x : Int) ∈ fsts (insP _ _)
    rw [fsts_ins]
    by_cases e : x = n
    · exact .inl (by rw [e])
    · exact .inr (fillS_in z (by omega))
attribute [local irreducible] pushP insP offP fillS lowP fsts
set_option maxRecDepth 100000 in
set_option maxHeartbeats 3200000 in
theorem heapturns_walk {w : World} (A : Option Addr) (len cap : Nat) (which : Int) (hlen : len ≤ 9223372036854775807) (z : Nat → Int) (hz : Ints w A len z) (hwh : -9223372036854775808 ≤ which ∧ which ≤ 9223372036854775807) :
    Calls Try.prog 7 #[.slice A len cap, .int .i64 which] w fun e w' => e = .returned (.bool true) ∧ Below w.heap.size w w' := by
  have HZ := hid hz
  clear hz
  obtain ⟨n, hn⟩ : ∃ n, min len 100 = n := ⟨_, rfl⟩
  have hnb : n ≤ len ∧ n ≤ 100 := by omega
  have HN := hid hn
  clear hn
  obtain ⟨i0, hi, hz0, hz1, hz2⟩ := info_parts Try.info_int
  have HI := hid (And.intro hi (And.intro hz0 (And.intro hz1 hz2)))
  clear hi hz0 hz1 hz2
  go_enter Try.func7, Try.ntmps7
  go_wp2_with fail
  refine heapex_any.mono ?_
  rintro e w1 ⟨rfl, hb1⟩
  go_wp2_with fail
  refine (heap_new 256 (by omega)).mono ?_
  rintro e w2 ⟨h, Q0, rfl, h0, hb2⟩
  have H0 := hid (show HW w w2 h Q0 256 0 (fillS z 0) from ⟨below_then hb1 hb2, by unfold fillS; exact h0.weak hb1.size⟩)
  clear h0 hb1 hb2
  by_cases hz : len = 0
  · subst hz
    go_wp2_with fail
    go_ret
    exact ⟨rfl, H0.out.below⟩
  have hn1 : 0 < n := by have := HN.out; omega
  have hne0 : ((len : Int) == 0) = false := beq_eq_false_iff_ne.2 (by omega)
  have HPK := hid (fun W => heappick_any (w := W) which n hwh.1 hwh.2 (by omega) (by omega))
  have hpb := pickN_bd which n (by omega)
  generalize pickN which n = x0 at *
  obtain ⟨x, hx⟩ : ∃ x : Nat, x0 = (x : Int) := ⟨x0.toNat, by omega⟩
  subst hx
  have hxn : x < n := by omega
  clear hpb hz
  go_upto_region 6 with fail
  have hmin : min (len : Int) 100 = n := by have := HN.out; omega
  rw [hmin]
  clear hmin HN hne0
  go_wp2_with fail
  go_loopw [9] (fun i wr => ∃ (k : Nat) (Q : Nat → Prop), k ≤ n ∧ i = .int .i64 k ∧ HW w wr h Q 256 k (fillS z k)) (fun i _ => n - (intOf i).toNat)
  case atStart => exact ⟨0, Q0, by omega, rfl, H0.out⟩
  case round =>
    obtain ⟨k, Q, hk1, rfl, HH⟩ := hrel
    by_cases hlt : k < n
    · obtain ⟨ab, ao, rfl, c0, hz0, hz1⟩ := ints_wr HZ.out HH.below (k := k) (by omega)
      have HH := hid HH
      have HP := hid (fillS_push z (i := k) (by omega))
      generalize z k = zk at *
      go_wp2_with fail
      refine (heap_push HH.out.heap (t := k) (k := zk) (by omega) (by omega) HP.out).mono ?_
      rintro e w3 ⟨rfl, hB⟩
      obtain ⟨Q1, hH1, -⟩ := HH.out.step hB
      have HH1 := hid hH1
      clear hB hH1
      go_wp2_with fail
      go_roundw
      case rel => exact ⟨k + 1, Q1, by omega, by go_num, HH1.out⟩
      case measure => simp [intOf]; omega
    · obtain rfl : k = n := by omega
      clear hlt hk1
      have HH := hid HH
      have hin := fillS_in z hxn
      have HL0 := hid (show (fsts (fillS z k)).length = (fillS z k).length by unfold fsts; rw [List.length_map])
      have HLK := hid (show (fsts (fillS z k)).length = k by unfold fsts; rw [List.length_map, fillS_len])
      go_wp2_with fail
      refine (HPK.out _).mono ?_
      rintro e w' ⟨rfl, rfl⟩
      go_wp2_with fail
      refine (heap_all HH.out.heap).mono ?_
      rintro e w3 ⟨u, rfl, hu, hb3⟩
      rw [← HL0.out] at hu
      have hO := HH.out.list hb3 hu
      rw [HLK.out] at hu
      obtain ⟨Au, cu, rfl⟩ := own_slice hu
      have HO3 := hid hO
      obtain ⟨ab, ao, rfl, c0, hz0, hz1⟩ := ints_wr HZ.out hO.hw.below (k := x) (by omega)
      clear hu hb3 hO HH H0
      go_wp2_with fail
      refine (heap_change_yes HO3.out.hw.heap (t := x) (k := z x) hin (by omega)).mono ?_
      rintro e w4 ⟨rfl, hB⟩
      obtain ⟨Q4, hO4⟩ := HO3.out.step hB
      have HO4 := hid hO4
      obtain ⟨p, hT⟩ := turned z hxn hO4.hw.heap
      have hll := hO4.hw.heap.facts
      have HT := hid hT
      clear hB hO4 hT c0 HO3
      go_wp2_with fail
      refine (heap_all HO4.out.hw.heap).mono ?_
      rintro e w5 ⟨u2, rfl, hu2, hb5⟩
      have hO5 := HO4.out.later hb5
      have hlf : (fsts (insP ((x : Int), z x) (offP x (fillS z k)))).length = (insP ((x : Int), z x) (offP x (fillS z k))).length := by unfold fsts; rw [List.length_map]
      rw [← hlf] at hu2
      have HBEL := hid hO5.hw.below
      have hown0 := hO5.own
      have hl256 : (fsts (insP ((x : Int), z x) (offP x (fillS z k)))).length ≤ 256 := by omega
      rw [HLK.out] at hown0
      have HOWN := hid hown0
      clear hlf hll HL0 hO5 HO4 hin hown0
      generalize fsts (insP ((x : Int), z x) (offP x (fillS z k))) = l1 at *
      generalize fsts (fillS z k) = l0 at *
      obtain ⟨m, hm⟩ : ∃ m, l1.length = m := ⟨_, rfl⟩
      rw [hm] at hl256 hu2
      obtain ⟨A2, c2, rfl⟩ := own_slice hu2
      have HU2 := hid hu2
      have HM := hid hm
      have HSZ := hid hb5.size
      clear hm hu2 hb5
      go_wp2_with fail
      go_loopw [13, 14] (fun v i wr => ∃ j : Nat, j ≤ k ∧ i = .int .i64 j ∧ Below w5.heap.size w5 wr ∧ wr.ownsRow w5.heap.size 3 1 v ((l0.take j).filter (fun y => decide (y ≠ (x : Int)))).length (intCells ((l0.take j).filter (fun y => decide (y ≠ (x : Int)))))) (fun _ i _ => k - (intOf i).toNat)
      case atStart => exact ⟨0, by omega, rfl, Below.refl _ _, by simp; exact World.ownsRow_nil _ _ _ _⟩
      case round =>
        obtain ⟨j, hj, rfl, hb, hown⟩ := hrel
        by_cases hlt : j < k
        · obtain ⟨y, hy⟩ : ∃ y, l0[j]? = some y := ⟨_, List.getElem?_eq_getElem (by have := HLK.out; omega)⟩
          obtain ⟨b2, o2, rfl, d2⟩ := (own_holds HOWN.out) j y hy
          have e2 := (hb.cell (World.block_lt_of_cell? _ _ d2)).trans d2
          have HTK := hid (take_flt (fun y => decide (y ≠ (x : Int))) hy)
          have hla : ((l0.take j).filter (fun y => decide (y ≠ (x : Int)))).length ≤ j := Nat.le_trans (List.length_filter_le _ _) (by simp; omega)
          have hsz := hb.size
          have HB := hid hb
          clear hy d2 hb
          generalize (l0.take j).filter (fun y => decide (y ≠ (x : Int))) = o at *
          by_cases hyx : y = (x : Int)
          · have HT2 := hid (show (l0.take (j + 1)).filter (fun y => decide (y ≠ (x : Int))) = o by rw [HTK.out]; simp [hyx])
            have HO := hid hown
            have hne : (y != (x : Int)) = false := by simp [hyx]
            clear HTK hown hyx
            go_wp2_with fail
            go_roundw
            case rel => exact ⟨j + 1, by omega, by go_num, HB.out, by rw [HT2.out]; exact HO.out⟩
            case measure => simp [intOf]; omega
          · have HT2 := hid (show (l0.take (j + 1)).filter (fun y => decide (y ≠ (x : Int))) = o ++ [y] by rw [HTK.out]; simp [hyx])
            have HO := hid hown
            have hne : (y != (x : Int)) = true := by simp [hyx]
            obtain ⟨hi, hz0, hz1, hz2⟩ := HI.out
            clear HTK hyx
            go_wp2_with (at_builtin; refine append_new rfl _ _ 34 rfl w5.heap.size 3 i0 _ 1 8 Try.underlying34 hi hz0 hz1 hz2 rfl (by decide) #[.int .i64 y] u13 o.length (intCells o) rfl _ rfl rfl hown rfl (one_one _) (by unfold maxLen; omega) (by omega) hsz ?_)
            intro v6 w6 hown6 hf6 hl6
            have HO6 : Hid (w6.ownsRow w5.heap.size 3 1 v6 (o ++ [y]).length (intCells (o ++ [y]))) := by rw [int_snoc, List.length_append]; exact hid hown6
            have HB6 : Hid (Below w5.heap.size w5 w6) := hid ((Fr.of_below (S := NoB) HB.out).trans hf6 (fun b hb => .inr (own_ge HO.out b hb))).no
            clear hown6 hf6 hl6 hown
            go_wp2_with fail
            go_roundw
            case rel => exact ⟨j + 1, by omega, by go_num, HB6.out, by rw [HT2.out]; exact HO6.out⟩
            case measure => simp [intOf]; omega
        · obtain rfl : j = k := by omega
          rw [List.take_of_length_le (by have := HLK.out; omega)] at hown
          obtain ⟨lr, hlr⟩ : ∃ lr, l0.filter (fun y => decide (y ≠ (x : Int))) = lr := ⟨_, rfl⟩
          rw [hlr] at hown
          have HLR := hid hlr
          have HBF := hid (below_then HBEL.out hb)
          have HU3 := hid (own_kept HU2.out (fr0 hb) (fun _ _ h => h))
          obtain ⟨Av, cv, rfl⟩ := own_slice hown
          have hrl : lr.length ≤ 100 := by have h1 := List.length_filter_le (fun y => decide (y ≠ (x : Int))) l0; rw [hlr] at h1; have := HLK.out; omega
          have HV := hid hown
          clear hb hown hlr
          obtain ⟨ws, hws⟩ : ∃ ws, ws = wr := ⟨_, rfl⟩
          subst hws
          go_wp2_with fail
          go_loopw [15, 16, 17] (fun t v i wq => ∃ j : Nat, j ≤ m ∧ t = .int .i64 (if j ≤ p then -1 else (p : Int)) ∧ i = .int .i64 j ∧ Below ws.heap.size ws wq ∧ wq.ownsRow ws.heap.size 3 1 v ((l1.take j).filter (fun y => decide (y ≠ (x : Int)))).length (intCells ((l1.take j).filter (fun y => decide (y ≠ (x : Int)))))) (fun _ _ i _ => m - (intOf i).toNat)
          case atStart => exact ⟨0, by omega, by rw [if_pos (by omega)], rfl, Below.refl _ _, by simp; exact World.ownsRow_nil _ _ _ _⟩
          case round =>
            obtain ⟨j, hj, rfl, rfl, hb, hown⟩ := hrel
            by_cases hlt : j < m
            · obtain ⟨y, hy⟩ : ∃ y, l1[j]? = some y := ⟨_, List.getElem?_eq_getElem (by have := HM.out; omega)⟩
              obtain ⟨b2, o2, rfl, d2⟩ := (own_holds HU3.out) j y hy
              have e2 := (hb.cell (World.block_lt_of_cell? _ _ d2)).trans d2
              have HTK := hid (take_flt (fun y => decide (y ≠ (x : Int))) hy)
              have hla : ((l1.take j).filter (fun y => decide (y ≠ (x : Int)))).length ≤ j := Nat.le_trans (List.length_filter_le _ _) (by simp; omega)
              have hiff := HT.out.only j y hy
              have hsz := hb.size
              have HB := hid hb
              clear hy d2 hb
              generalize (l1.take j).filter (fun y => decide (y ≠ (x : Int))) = o at *
              by_cases hyx : y = (x : Int)
              · have HT2 := hid (show (l1.take (j + 1)).filter (fun y => decide (y ≠ (x : Int))) = o by rw [HTK.out]; simp [hyx])
                have HO := hid hown
                have hjp := hiff.1 hyx
                have HAT := hid (show (j : Int) = if j + 1 ≤ p then -1 else (p : Int) by rw [if_neg (by omega)]; omega)
                have hne : (y == (x : Int)) = true := by simp [hyx]
                clear HTK hown hyx hiff hjp
                generalize (if j ≤ p then (-1 : Int) else (p : Int)) = at0 at *
                go_wp2_with fail
                go_roundw
                case rel => exact ⟨j + 1, by omega, by rw [← HAT.out], by go_num, HB.out, by rw [HT2.out]; exact HO.out⟩
                case measure => simp [intOf]; omega
              · have HT2 := hid (show (l1.take (j + 1)).filter (fun y => decide (y ≠ (x : Int))) = o ++ [y] by rw [HTK.out]; simp [hyx])
                have HO := hid hown
                have hjp : j ≠ p := fun e => hyx (hiff.2 e)
                have HAT := hid (show (if j ≤ p then -1 else (p : Int)) = if j + 1 ≤ p then -1 else (p : Int) by
                  by_cases h : j ≤ p
                  · rw [if_pos h, if_pos (by omega)]
                  · rw [if_neg h, if_neg (by omega)])
                have hne : (y == (x : Int)) = false := by simp [hyx]
                obtain ⟨hi, hz0, hz1, hz2⟩ := HI.out
                clear HTK hyx hiff hjp
                generalize (if j ≤ p then (-1 : Int) else (p : Int)) = at0 at *
                go_wp2_with (at_builtin; refine append_new rfl _ _ 34 rfl ws.heap.size 3 i0 _ 1 8 Try.underlying34 hi hz0 hz1 hz2 rfl (by decide) #[.int .i64 y] u16 o.length (intCells o) rfl _ rfl rfl hown rfl (one_one _) (by unfold maxLen; omega) (by omega) hsz ?_)
                intro v6 w6 hown6 hf6 hl6
                have HO6 : Hid (w6.ownsRow ws.heap.size 3 1 v6 (o ++ [y]).length (intCells (o ++ [y]))) := by rw [int_snoc, List.length_append]; exact hid hown6
                have HB6 : Hid (Below ws.heap.size ws w6) := hid ((Fr.of_below (S := NoB) HB.out).trans hf6 (fun b hb => .inr (own_ge HO.out b hb))).no
                clear hown6 hf6 hl6 hown
                go_wp2_with fail
                go_roundw
                case rel => exact ⟨j + 1, by omega, by rw [← HAT.out], by go_num, HB6.out, by rw [HT2.out]; exact HO6.out⟩
                case measure => simp [intOf]; omega
            · obtain rfl : j = m := by omega
              have hpm : p < j := by have h1 := HT.out.lt; have := HM.out; omega
              rw [if_neg (by omega)]
              rw [List.take_of_length_le (by have := HM.out; omega), ← HT.out.same, HLR.out] at hown
              obtain ⟨Aq, cq, rfl⟩ := own_slice hown
              have HV3 := hid ((own_holds HV.out).kept (fr0 hb) (fun _ _ h => h))
              have HV4 := hid (own_holds hown)
              have HU4 := hid ((own_holds HU3.out).kept (fr0 hb) (fun _ _ h => h))
              have HBG := hid (below_then HBF.out hb)
              clear hb hown
              obtain ⟨nr, hnr⟩ : ∃ nr, lr.length = nr := ⟨_, rfl⟩
              rw [hnr] at hrl ⊢
              go_wp2_with fail
              refine (heapnumbers_same Av Aq nr cv cq lr hnr.symm HV3.out HV4.out (by omega)).mono ?_
              rintro e w' ⟨rfl, q, rfl⟩
              obtain ⟨m1, rfl⟩ : ∃ m1, j = m1 + 1 := ⟨j - 1, by omega⟩
              have hwm : IntKind.i64.wrap (((m1 + 1 : Nat) : Int) - 1) = (m1 : Int) := by rw [wraps_i64 _ (by omega) (by omega)]; omega
              obtain ⟨b2, o2, rfl, d2⟩ : ∃ b2 o2, A2 = some ⟨b2, o2, none⟩ ∧ True := by
                obtain ⟨y, hy⟩ : ∃ y, l1[0]? = some y := ⟨_, List.getElem?_eq_getElem (by have := HM.out; omega)⟩
                obtain ⟨b2, o2, e, _⟩ := HU4.out 0 y hy
                exact ⟨b2, o2, e, trivial⟩
              by_cases hpe : p = m1
              · have hpe2 : ((p : Int) == (m1 : Int)) = true := by simp [hpe]
                go_upto_region 30 with fail
                go_quiet (fail)
                go_wp2_with fail
                go_ret
                exact ⟨rfl, below_drewN' (below_drewN' HBG.out q) _⟩
              · have hpe2 : ((p : Int) == (m1 : Int)) = false := beq_eq_false_iff_ne.2 (by omega)
                obtain ⟨y, hy⟩ : ∃ y, l1[p + 1]? = some y := ⟨_, List.getElem?_eq_getElem (by have := HM.out; omega)⟩
                obtain ⟨t, ht, rfl, hzt⟩ := HT.out.next y hy
                obtain ⟨b3, o3, e3, d3⟩ := HU4.out (p + 1) _ hy
                injection e3 with e3
                injection e3 with e3 e4
                subst e3 e4
                obtain ⟨ab2, ao2, e3, d4, _, _⟩ := ints_wr HZ.out HBG.out (k := t) (by omega)
                obtain ⟨ab3, ao3, e4, d5, _, _⟩ := ints_wr HZ.out HBG.out (k := x) (by omega)
                injection e3 with e3
                injection e3 with e3 e5
                subst e3 e5
                injection e4 with e4
                injection e4 with e4 e5
                subst e4 e5
                obtain ⟨p1, hp1⟩ : ∃ p1, p + 1 = p1 := ⟨_, rfl⟩
                have hwp : IntKind.i64.wrap ((p : Int) + 1) = (p1 : Int) := by rw [wraps_i64 _ (by omega) (by omega)]; omega
                rw [hp1] at d3
                have hp1m : p1 < m1 + 1 := by omega
                generalize z t = zt at *
                generalize z x = zx at *
                clear hp1 hpe hy
                go_upto_region 30 with fail
                go_quiet (fail)
                go_wp2_with fail
                go_ret
                exact ⟨rfl, below_drewN' (below_drewN' HBG.out q) _⟩
end Go.Proofs.Ytbkjlohlfkokpaa
