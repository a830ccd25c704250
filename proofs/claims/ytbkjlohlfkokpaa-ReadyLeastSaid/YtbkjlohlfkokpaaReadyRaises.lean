/- ReadyRaises: who is raised to a level goes ahead of all who have that level as their own, and behind all with a lesser one; behind Fall all is as if it had not been: the walk. Whatever levels, task, to. -/
import Derived.Test.YtbkjlohlfkokpaaReadyStays
set_option linter.unusedVariables false
set_option linter.unusedSimpArgs false
namespace Go.Proofs.Ytbkjlohlfkokpaa
open Go.RowKit Go.Maps

theorem kzQ_eq (z : Nat → Int) (m : Int) (i : Nat) : kzQ z m i = pickN (z i) m * 64 + 32 + i := rfl
theorem insP_off {x k : Int} : ∀ {L : List (Int × Int)}, L.Pairwise (fun p q => p.2 < q.2) → (fsts L).Nodup → (x, k) ∈ L → insP (x, k) (offP x L) = L
  | [], _, _, h => by cases h
  | q :: L, hs, hn, h => by
    obtain ⟨h1, h2⟩ := List.pairwise_cons.1 hs
    obtain ⟨n1, n2⟩ := List.nodup_cons.1 (show (q.1 :: fsts L).Nodup from hn)
    by_cases e : q = (x, k)
    · subst e
      rw [offP_head hn]
      unfold insP
      rw [List.filter_eq_nil_iff.2 (fun q hq => by have := h1 q hq; simp; omega), List.filter_eq_self.2 (fun q hq => by have := h1 q hq; simp; omega), List.nil_append]
    · have hm : (x, k) ∈ L := (List.mem_cons.1 h).resolve_left (fun e2 => e e2.symm)
      have hk := h1 _ hm
      have hq : q.1 ≠ x := fun e2 => n1 (by rw [e2]; exact List.mem_map.2 ⟨_, hm, rfl⟩)
      have ih := insP_off h2 n2 hm
      have e3 : offP x (q :: L) = q :: offP x L := by unfold offP; rw [List.filter_cons, if_pos (by simpa using hq)]
      rw [e3]
      unfold insP at ih ⊢
      rw [List.filter_cons_of_pos (by simp; omega), List.filter_cons_of_neg (by simp; omega), List.cons_append, ih]
theorem fill_strict (z : Nat → Int) (m : Int) {n : Nat} (hn : n ≤ 24) : (fillS (kzQ z m) n).Pairwise (fun p q => p.2 < q.2) :=
  (fillS_sorted (kzQ z m) n).imp_of_mem (fun {p q} hp hq h => by
    obtain ⟨i, hi, rfl⟩ := fillS_mem _ n p hp
    obtain ⟨j, hj, rfl⟩ := fillS_mem _ n q hq
    unfold ltP at h
    simp only [kzQ_eq] at h ⊢
    omega)
/-- What is told of the list behind the raise. -/
structure Raised (z : Nat → Int) (n x : Nat) (goal : Int) (l1 : List Int) (p : Nat) : Prop where
  len : l1.length = n
  lt : p < n
  only : ∀ j y, l1[j]? = some y → (y = (x : Int) ↔ j = p)
  before : ∀ j y, j < p → l1[j]? = some y → ∃ i : Nat, i < n ∧ y = i ∧ pickN (z i) 6 < goal
  after : ∀ j y, p < j → l1[j]? = some y → ∃ i : Nat, i < n ∧ y = i ∧ goal ≤ pickN (z i) 6
theorem offP_lessN {L : List (Int × Int)} {x : Int} (hn : (fsts L).Nodup) (h : x ∈ fsts L) : (offP x L).length + 1 = L.length := offP_less hn h
theorem raised (z : Nat → Int) {n x : Nat} {goal : Int} (hn : n ≤ 24) (hx : x < n) (hnd : (fsts (fillS (kzQ z 6) n)).Nodup) (hnd2 : (fsts (insP ((x : Int), goal * 64 + x) (offP x (fillS (kzQ z 6) n)))).Nodup) : ∃ p, Raised z n x goal (fsts (insP ((x : Int), goal * 64 + x) (offP x (fillS (kzQ z 6) n)))) p := by
  have hm : ∀ q ∈ offP (x : Int) (fillS (kzQ z 6) n), ∃ j, j < n ∧ q = (((j : Nat) : Int), kzQ z 6 j) := fun q hq => fillS_mem _ n q (List.mem_filter.1 hq).1
  have hat := turns_at (x : Int) (goal * 64 + x) (offP x (fillS (kzQ z 6) n))
  have hlen : (fsts (insP ((x : Int), goal * 64 + x) (offP x (fillS (kzQ z 6) n)))).length = n := by
    unfold fsts
    rw [List.length_map, insP_len]
    have := offP_less hnd (fillS_in (kzQ z 6) hx)
    rw [fillS_len] at this
    exact this
  have hp := (List.getElem?_eq_some_iff.1 hat).1
  have h0 : (fsts (insP ((x : Int), goal * 64 + x) (offP x (fillS (kzQ z 6) n))))[((offP x (fillS (kzQ z 6) n)).filter (fun q => decide (q.2 ≤ goal * 64 + x))).length]? = some (x : Int) := by
    unfold fsts
    rw [List.getElem?_map, hat]
    rfl
  refine ⟨((offP x (fillS (kzQ z 6) n)).filter (fun q => decide (q.2 ≤ goal * 64 + x))).length, hlen, ?_, ?_, ?_, ?_⟩
  · have := (List.getElem?_eq_some_iff.1 h0).1
    omega
  · intro j y hj
    obtain ⟨h1, h2⟩ := List.getElem?_eq_some_iff.1 h0
    obtain ⟨h3, h4⟩ := List.getElem?_eq_some_iff.1 hj
    constructor
    · intro e
      exact (List.getElem_inj hnd2).1 (by rw [h4, h2, e])
    · intro e
      subst e
      rw [hj] at h0
      injection h0
  · intro j y hjp hj
    unfold fsts at hj
    rw [List.getElem?_map] at hj
    unfold insP at hj
    simp only at hj
    rw [List.getElem?_append_left hjp] at hj
    cases hq : ((offP x (fillS (kzQ z 6) n)).filter (fun q => decide (q.2 ≤ goal * 64 + x)))[j]? with
    | none => rw [hq] at hj; cases hj
    | some q =>
      rw [hq] at hj
      injection hj with hj
      obtain ⟨h1, h2⟩ := List.mem_filter.1 (List.mem_of_getElem? hq)
      obtain ⟨i, hi, rfl⟩ := hm q h1
      have h3 : kzQ z 6 i ≤ goal * 64 + x := by simpa using h2
      rw [kzQ_eq] at h3
      exact ⟨i, hi, hj.symm, by omega⟩
  · intro j y hjp hj
    unfold fsts at hj
    rw [List.getElem?_map] at hj
    unfold insP at hj
    simp only at hj
    rw [List.getElem?_append_right (by omega)] at hj
    obtain ⟨d, hd⟩ : ∃ d, j - ((offP x (fillS (kzQ z 6) n)).filter (fun q => decide (q.2 ≤ goal * 64 + x))).length = d + 1 := ⟨j - ((offP x (fillS (kzQ z 6) n)).filter (fun q => decide (q.2 ≤ goal * 64 + x))).length - 1, by omega⟩
    rw [hd, List.getElem?_cons_succ] at hj
    cases hq : ((offP x (fillS (kzQ z 6) n)).filter (fun q => decide (goal * 64 + x < q.2)))[d]? with
    | none => rw [hq] at hj; cases hj
    | some q =>
      rw [hq] at hj
      injection hj with hj
      obtain ⟨h1, h2⟩ := List.mem_filter.1 (List.mem_of_getElem? hq)
      obtain ⟨i, hi, rfl⟩ := hm q h1
      have h3 : goal * 64 + x < kzQ z 6 i := by simpa using h2
      rw [kzQ_eq] at h3
      exact ⟨i, hi, hj.symm, by omega⟩
attribute [local irreducible] pushP insP offP fillS lowP fsts fillQ kzQ upF upL upE
set_option maxRecDepth 100000 in
set_option maxHeartbeats 3200000 in
theorem readyraises_walk {w : World} (A : Option Addr) (len cap : Nat) (task goal : Int) (hlen : len ≤ 9223372036854775807) (z : Nat → Int) (hz : Ints w A len z) (hta : -9223372036854775808 ≤ task ∧ task ≤ 9223372036854775807) (hto : -9223372036854775808 ≤ goal ∧ goal ≤ 9223372036854775807) :
    Calls Try.prog 13 #[.slice A len cap, .int .i64 task, .int .i64 goal] w fun e w' => e = .returned (.bool true) ∧ Below w.heap.size w w' := by
  have HZ := hid hz
  clear hz
  obtain ⟨n, hn⟩ : ∃ n, min len 24 = n := ⟨_, rfl⟩
  have hnb : n ≤ len ∧ n ≤ 24 := by omega
  have HN := hid hn
  clear hn
  obtain ⟨i0, hi, hz0, hz1, hz2⟩ := info_parts Try.info_int
  have HI := hid (And.intro hi (And.intro hz0 (And.intro hz1 hz2)))
  clear hi hz0 hz1 hz2
  go_enter Try.func13, Try.ntmps13
  go_wp2_with fail
  refine readyex_any.mono ?_
  rintro e w1 ⟨rfl, hb1⟩
  go_wp2_with fail
  refine (q_new 1 (.inl rfl)).mono ?_
  rintro e w2 ⟨q, Q0, rfl, h0, hb2⟩
  have H0 := hid (show QW w w2 q Q0 1 0 (fillQ z 6 0) (fillS (kzQ z 6) 0) from ⟨below_then hb1 hb2, by unfold fillS fillQ; exact h0.weak hb1.size⟩)
  clear h0 hb1 hb2
  by_cases hz : len = 0
  · subst hz
    go_wp2_with fail
    go_ret
    exact ⟨rfl, H0.out.below⟩
  have hlne : ((len : Int) == 0) = false := beq_eq_false_iff_ne.2 (by omega)
  have hn1 : 0 < n := by have := HN.out; omega
  have HPK := hid (fun W => readypick_any (w := W) task n hta.1 hta.2 (by omega) (by omega))
  have hpb := pickN_bd task n (by omega)
  generalize pickN task n = x0 at *
  obtain ⟨x, hx⟩ : ∃ x : Nat, x0 = (x : Int) := ⟨x0.toNat, by omega⟩
  subst hx
  have hxn : x < n := by omega
  have HPT := hid (fun W => readypick_any (w := W) goal 6 hto.1 hto.2 (by omega) (by omega))
  have htb := pickN_bd goal 6 (by omega)
  generalize pickN goal 6 = tl at *
  clear hpb hz
  go_upto_region 6 with fail
  have hmin : min (len : Int) 24 = n := by have := HN.out; omega
  rw [hmin]
  clear hmin HN hlne
  go_wp2_with fail
  go_loopw [11] (fun i wr => ∃ (k : Nat) (Q : Nat → Prop), k ≤ n ∧ i = .int .i64 k ∧ QW w wr q Q 1 k (fillQ z 6 k) (fillS (kzQ z 6) k)) (fun i _ => n - (intOf i).toNat)
  case atStart => exact ⟨0, Q0, by omega, rfl, H0.out⟩
  case round =>
    obtain ⟨k, Q, hk1, rfl, HH⟩ := hrel
    by_cases hlt : k < n
    · obtain ⟨ab, ao, rfl, c0, hz0, hz1⟩ := ints_wr HZ.out HH.below (k := k) (by omega)
      have HH := hid HH
      have HPZ := hid (fun W => readypick_any (w := W) (z k) 6 hz0 hz1 (by omega) (by omega))
      have HADD := hid (fill_add z 6 (by omega) (by omega) (i := k) (by omega) (by omega) HH.out.q)
      generalize pickN (z k) 6 = pz at *
      generalize z k = zk at *
      go_wp2_with fail
      refine (HPZ.out _).mono ?_
      rintro e w' ⟨rfl, rfl⟩
      go_wp2_with fail
      refine HADD.out.mono ?_
      rintro e w3 ⟨rfl, hB⟩
      obtain ⟨Q1, hH1, -⟩ := HH.out.step hB
      have HH1 := hid hH1
      clear hB hH1
      go_wp2_with fail
      go_roundw
      case rel => exact ⟨k + 1, Q1, by omega, by go_num, HH1.out⟩
      case measure => simp [intOf]; omega
    · obtain rfl : k = n := by omega
      clear hlt hk1
      have HH := hid HH
      have hxk := fillQ_at z 6 hxn
      have hin := fillS_in (kzQ z 6) hxn
      have hnd := HH.out.q.facts.1
      have hso : (fillS (kzQ z 6) k).Pairwise (fun p q => p.2 ≤ q.2) := (fillS_sorted (kzQ z 6) k).imp (fun {p q} h => (show p.2 ≤ q.2 by unfold ltP at h; omega))
      have hstr := fill_strict z 6 hnb.2
      have hmx : ((x : Int), kzQ z 6 x) ∈ fillS (kzQ z 6) k := by
        obtain ⟨p, hp, e⟩ := List.mem_map.1 (show (x : Int) ∈ List.map Prod.fst (fillS (kzQ z 6) k) by unfold fsts at hin; exact hin)
        obtain ⟨j, hj, rfl⟩ := fillS_mem _ k p hp
        simp only at e
        obtain rfl : j = x := by omega
        exact hp
      have hno : (x : Int) ∉ fsts (offP x (fillS (kzQ z 6) k)) := fun h => by
        rw [fsts_off] at h
        exact h.1 rfl
      have HRD := hid (fun h2 => raised z (goal := tl) hnb.2 hxn hnd h2)
      have HL0 := hid (show (fsts (fillS (kzQ z 6) k)).length = (fillS (kzQ z 6) k).length by unfold fsts; rw [List.length_map])
      have HLK := hid (show (fsts (fillS (kzQ z 6) k)).length = k by unfold fsts; rw [List.length_map, fillS_len])
      have ekz : kzQ z 6 x = pickN (z x) 6 * 64 + 32 + x := kzQ_eq z 6 x
      generalize pickN (z x) 6 = px at *
      rw [ekz] at hmx
      generalize fillS (kzQ z 6) k = L0 at *
      generalize fillQ z 6 k = f0 at *
      have ek1 : Rk.key ⟨px, tl, true⟩ x = tl * 64 + x := by unfold Rk.key Rk.level; simp
      have ek2 : Rk.key ⟨px, tl, false⟩ x = px * 64 + 32 + x := by unfold Rk.key Rk.level; simp
      have e1 : upE f0 x = 0 := by unfold upE; rw [hxk]
      have e2 : upL f0 L0 x (raiseR tl) = insP ((x : Int), tl * 64 + x) (offP x L0) := by unfold upL; rw [hxk]; show insP (_, Rk.key ⟨px, tl, true⟩ x) _ = _; rw [ek1]
      have e3 : upF f0 x (raiseR tl) x = some ⟨px, tl, true⟩ := by unfold upF; rw [hxk]; simp [raiseR]
      have hof : offP x (insP ((x : Int), tl * 64 + x) (offP x L0)) = offP x L0 := off_ins (offP_sorted hso) hno
      obtain ⟨L1, hL1⟩ : ∃ L1, insP ((x : Int), tl * 64 + x) (offP x L0) = L1 := ⟨_, rfl⟩
      rw [hL1] at HRD hof e2
      obtain ⟨f1, hf1⟩ : ∃ f1, upF f0 x (raiseR tl) = f1 := ⟨_, rfl⟩
      rw [hf1] at e3
      have e4 : upL f1 L1 x fallR = L0 := by
        unfold upL
        rw [e3]
        show insP (_, Rk.key ⟨px, tl, false⟩ x) _ = _
        rw [ek2, hof]
        exact insP_off hstr hnd hmx
      have HRA := hid (fun (W : World) (B : Nat) (Q' : Nat → Prop) (T : Nat) (h : IsQ W B q Q' 1 T f0 L0) (hT : T < 10000) => (show Calls Try.prog 54 #[.pointer (some ⟨q, 0, none⟩), .int .i64 x, .int .i64 tl] W fun e w' => e = .returned (.int .i64 0) ∧ QBehind W B q Q' 1 (T + 1) f1 L1 w' by
        have := q_raise h (t := x) (l := tl) (by omega) (by unfold mayB; exact decide_eq_true ⟨by omega, by omega, by omega, by omega⟩) hT
        rw [e1, e2, hf1] at this
        exact this))
      have HFA := hid (fun (W : World) (B : Nat) (Q' : Nat → Prop) (T : Nat) (h : IsQ W B q Q' 1 T f1 L1) (hT : T < 10000) => (show Calls Try.prog 56 #[.pointer (some ⟨q, 0, none⟩), .int .i64 x] W fun e w' => e = .returned (.int .i64 (upE f1 x)) ∧ QBehind W B q Q' 1 (T + 1) (upF f1 x fallR) L0 w' by
        have := q_fall h (t := x) (by omega) hT
        rw [e4] at this
        exact this))
      have HLV := hid (fun (W : World) (B : Nat) (Q' : Nat → Prop) (T : Nat) (h : IsQ W B q Q' 1 T f1 L1) => (show Calls Try.prog 55 #[.pointer (some ⟨q, 0, none⟩), .int .i64 x] W fun e w' => e = .returned (.tuple #[.int .i64 tl, .bool true]) ∧ Below W.heap.size W w' by
        have := q_level h (t := x) (by omega)
        rw [e3] at this
        exact this))
      clear e1 e2 e3 e4 hof hL1 hf1 ek1 ek2 hno hmx hstr hso hnd hin hxk ekz
      generalize upE f1 x = ue at *
      generalize upF f1 x fallR = f2 at *
      go_wp2_with fail
      refine (HPK.out _).mono ?_
      rintro e w' ⟨rfl, rfl⟩
      go_wp2_with fail
      refine (HPT.out _).mono ?_
      rintro e w' ⟨rfl, rfl⟩
      go_wp2_with fail
      refine (q_all HH.out.q).mono ?_
      rintro e w5 ⟨u, rfl, hu, hb5⟩
      rw [← HL0.out] at hu
      have hqo := HH.out.list hb5 hu
      rw [HLK.out] at hu
      obtain ⟨Au, cu, rfl⟩ := own_slice hu
      have HQO := hid hqo
      clear hu hb5 hqo HH H0
      go_wp2_with fail
      refine (HRA.out _ _ _ _ HQO.out.qw.q (by omega)).mono ?_
      rintro e w6 ⟨rfl, hB⟩
      obtain ⟨Q6, hO6⟩ := HQO.out.step hB
      obtain ⟨p, hrd⟩ := HRD.out hO6.qw.q.facts.1
      have HP := hid hrd
      have HO6 := hid hO6
      clear hB hO6 hrd HQO HRA HRD
      go_wp2_with fail
      refine (q_all HO6.out.qw.q).mono ?_
      rintro e w7 ⟨u2, rfl, hu2, hb7⟩
      have hlf : (fsts L1).length = L1.length := by unfold fsts; rw [List.length_map]
      rw [← hlf, HP.out.len] at hu2
      have HO7 := hid (HO6.out.later hb7)
      have hpk := HP.out.lt
      generalize fsts L1 = l1 at *
      obtain ⟨A2, c2, rfl⟩ := own_slice hu2
      have HU2 := hid (own_holds hu2)
      clear hu2 hb7 hlf HO6
      go_wp2_with fail
      go_loopw [14, 15] (fun a i wr => ∃ (j : Nat) (ab : Bool), j ≤ k ∧ a = .bool ab ∧ i = .int .i64 j ∧ wr = w7 ∧ Hid (ab = decide (j ≤ p))) (fun _ i _ => k - (intOf i).toNat)
      case atStart => exact ⟨0, true, by omega, rfl, rfl, rfl, (decide_eq_true (Nat.zero_le _)).symm⟩
      case round =>
        obtain ⟨j, ab, hj, rfl, rfl, rfl, HAB⟩ := hrel
        by_cases hlt : j < k
        · obtain ⟨y, hy⟩ : ∃ y, l1[j]? = some y := ⟨_, List.getElem?_eq_getElem (by have := HP.out.len; omega)⟩
          obtain ⟨b2, o2, rfl, d2⟩ := HU2.out j y hy
          rcases Nat.lt_trichotomy j p with hjp | hjp | hjp
          · obtain rfl : ab = true := by rw [HAB.out]; exact decide_eq_true (by omega)
            have hyx : (y == (x : Int)) = false := beq_eq_false_iff_ne.2 (fun e => by have := (HP.out.only j y hy).1 e; omega)
            obtain ⟨i, hi, rfl, hv⟩ := HP.out.before j y hjp hy
            obtain ⟨ab', ao, rfl, c0, hz0, hz1⟩ := ints_wr HZ.out HO7.out.qw.below (k := i) (by omega)
            have HPZ := hid (fun W => readypick_any (w := W) (z i) 6 hz0 hz1 (by omega) (by omega))
            have HN := hid (show true = decide (j + 1 ≤ p) from (decide_eq_true (by omega)).symm)
            generalize pickN (z i) 6 = pz at *
            generalize z i = zi at *
            clear hy hjp
            go_wp2_with fail
            refine (HPZ.out _).mono ?_
            rintro e w' ⟨rfl, rfl⟩
            go_wp2_with fail
            go_roundw
            case rel => exact ⟨j + 1, true, by omega, rfl, by go_num, by trivial, HN⟩
            case measure => simp [intOf]; omega
          · obtain rfl : ab = true := by rw [HAB.out]; exact decide_eq_true (by omega)
            have hyx : (y == (x : Int)) = true := beq_iff_eq.2 ((HP.out.only j y hy).2 hjp)
            have HN := hid (show false = decide (j + 1 ≤ p) from (decide_eq_false (by omega)).symm)
            clear hy hjp
            go_wp2_with fail
            go_roundw
            case rel => exact ⟨j + 1, false, by omega, rfl, by go_num, by trivial, HN⟩
            case measure => simp [intOf]; omega
          · obtain rfl : ab = false := by rw [HAB.out]; exact decide_eq_false (by omega)
            have hyx : (y == (x : Int)) = false := beq_eq_false_iff_ne.2 (fun e => by have := (HP.out.only j y hy).1 e; omega)
            obtain ⟨i, hi, rfl, hv⟩ := HP.out.after j y hjp hy
            obtain ⟨ab', ao, rfl, c0, hz0, hz1⟩ := ints_wr HZ.out HO7.out.qw.below (k := i) (by omega)
            have HPZ := hid (fun W => readypick_any (w := W) (z i) 6 hz0 hz1 (by omega) (by omega))
            have HN := hid (show false = decide (j + 1 ≤ p) from (decide_eq_false (by omega)).symm)
            generalize pickN (z i) 6 = pz at *
            generalize z i = zi at *
            clear hy hjp
            go_wp2_with fail
            refine (HPZ.out _).mono ?_
            rintro e w' ⟨rfl, rfl⟩
            go_wp2_with fail
            go_roundw
            case rel => exact ⟨j + 1, false, by omega, rfl, by go_num, by trivial, HN⟩
            case measure => simp [intOf]; omega
        · obtain rfl : j = k := by omega
          obtain rfl : ab = false := by rw [HAB.out]; exact decide_eq_false (by omega)
          have htt : (tl == tl) = true := by simp
          clear HAB
          go_wp2_with fail
          refine (HLV.out _ _ _ _ HO7.out.qw.q).mono ?_
          rintro e w8 ⟨rfl, hb8⟩
          have HO8 := hid (HO7.out.later hb8)
          clear hb8 HO7
          go_wp2_with fail
          refine (HFA.out _ _ _ _ HO8.out.qw.q (by omega)).mono ?_
          rintro e w9 ⟨rfl, hB⟩
          obtain ⟨Q9, hO9⟩ := HO8.out.step hB
          have HO9 := hid hO9
          clear hB hO9 HO8
          go_wp2_with fail
          refine (q_all HO9.out.qw.q).mono ?_
          rintro e w10 ⟨u3, rfl, hu3, hb10⟩
          rw [← HL0.out, HLK.out] at hu3
          obtain ⟨A3, c3, rfl⟩ := own_slice hu3
          have HO10 := hid (HO9.out.later hb10)
          have hown10 := HO10.out.own
          rw [HLK.out] at hown10
          have HV1 := hid (own_holds hown10)
          have HV2 := hid (own_holds hu3)
          clear hb10 hu3 hown10 HO9
          go_wp2_with fail
          refine (readynumbers_same Au A3 j cu c3 (fsts L0) HLK.out.symm HV1.out HV2.out (by omega)).mono ?_
          rintro e w11 ⟨rfl, k11, rfl⟩
          go_wp2_with fail
          go_ret
          exact ⟨rfl, below_drewN' HO10.out.qw.below k11⟩
end Go.Proofs.Ytbkjlohlfkokpaa
