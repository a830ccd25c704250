/- ReadyLeast: the first one has the least level of all that are there, and of these the least number, if nobody is raised; in whatever order they came: the walk. -/
import Derived.Test.YtbkjlohlfkokpaaReadyRaises
set_option linter.unusedVariables false
set_option linter.unusedSimpArgs false
namespace Go.Proofs.Ytbkjlohlfkokpaa
open Go.RowKit Go.Maps

theorem cover_len : ∀ (n : Nat) (l : List Int), (∀ t : Nat, t < n → (t : Int) ∈ l) → n ≤ l.length
  | 0, l, _ => Nat.zero_le _
  | n + 1, l, h => by
    have h1 := h n (by omega)
    have h2 := cover_len n (l.erase n) (fun t ht => (List.mem_erase_of_ne (by omega)).2 (h t (by omega)))
    rw [List.length_erase_of_mem h1] at h2
    have := List.length_pos_of_mem h1
    omega
/-- Those that are there, each with the key of its level. -/
def LvOk (z : Nat → Int) (n : Nat) (L : List (Int × Int)) : Prop := ∀ p ∈ L, ∃ t : Nat, t < n ∧ p = (((t : Nat) : Int), kzQ z 1125899906842624 t)
theorem LvOk.add {z : Nat → Int} {n t : Nat} {L : List (Int × Int)} (h : LvOk z n L) (ht : t < n) : LvOk z n (insP ((t : Int), kzQ z 1125899906842624 t) L) := fun p hp => by
  rcases insP_mem.1 hp with rfl | hp
  · exact ⟨t, ht, rfl⟩
  · exact h p hp
/-- The best of those below k. -/
def Best (z : Nat → Int) (L : List (Int × Int)) (k : Nat) (best : Int) : Prop :=
  (best = -1 ∧ ∀ j, j < k → (j : Int) ∉ fsts L) ∨ ∃ b : Nat, best = b ∧ b < k ∧ (b : Int) ∈ fsts L ∧ ∀ j : Nat, j < k → (j : Int) ∈ fsts L → kzQ z 1125899906842624 b ≤ kzQ z 1125899906842624 j
theorem best_is {z : Nat → Int} {n : Nat} {L : List (Int × Int)} {best : Int} (hs : L.Pairwise (fun p q => p.2 ≤ q.2)) (ho : LvOk z n L) (hn : n ≤ 24) (hb : Best z L n best) (hne : L ≠ []) : (if L.isEmpty = true then (-1 : Int) else (headP L).1) = best := by
  rcases L with _ | ⟨p, L⟩
  · exact absurd rfl hne
  · obtain ⟨t, ht, rfl⟩ := ho p (by simp)
    have hm : (t : Int) ∈ fsts ((((t : Nat) : Int), kzQ z 1125899906842624 t) :: L) := List.mem_cons_self
    show (t : Int) = best
    rcases hb with ⟨_, h⟩ | ⟨b, rfl, hb1, hb2, hb3⟩
    · exact absurd hm (h t ht)
    · have h1 := hb3 t ht hm
      obtain ⟨q, hq, e⟩ := List.mem_map.1 hb2
      obtain ⟨b', hb', rfl⟩ := ho q hq
      simp only at e
      obtain rfl : b' = b := by omega
      have h2 : kzQ z 1125899906842624 t ≤ kzQ z 1125899906842624 b' := by
        rcases List.mem_cons.1 hq with h | h
        · injection h with h _
          have : b' = t := by omega
          rw [this]
          exact Int.le_refl _
        · exact (List.pairwise_cons.1 hs).1 _ h
      rw [kzQ_eq, kzQ_eq] at h1 h2
      omega
theorem best_cases {z : Nat → Int} {L : List (Int × Int)} {k : Nat} {best : Int} (h : Best z L k best) : best = -1 ∨ ∃ b : Nat, best = b ∧ b < k := by
  rcases h with ⟨h, _⟩ | ⟨b, h, h1, _⟩
  · exact .inl h
  · exact .inr ⟨b, h, h1⟩
theorem best_skip {z : Nat → Int} {L : List (Int × Int)} {k : Nat} {best : Int} (h : Best z L k best) (hk : (k : Int) ∉ fsts L) : Best z L (k + 1) best := by
  rcases h with ⟨h, h1⟩ | ⟨b, h, h1, h2, h3⟩
  · exact .inl ⟨h, fun j hj hm => by
      rcases Nat.lt_or_ge j k with h4 | h4
      · exact h1 j h4 hm
      · obtain rfl : j = k := by omega
        exact hk hm⟩
  · exact .inr ⟨b, h, by omega, h2, fun j hj hm => by
      rcases Nat.lt_or_ge j k with h4 | h4
      · exact h3 j h4 hm
      · obtain rfl : j = k := by omega
        exact absurd hm hk⟩
theorem best_first {z : Nat → Int} {L : List (Int × Int)} {k : Nat} (h : Best z L k (-1)) (hk : (k : Int) ∈ fsts L) : Best z L (k + 1) k := by
  rcases h with ⟨_, h1⟩ | ⟨b, h, _⟩
  · exact .inr ⟨k, rfl, by omega, hk, fun j hj hm => by
      rcases Nat.lt_or_ge j k with h4 | h4
      · exact absurd hm (h1 j h4)
      · obtain rfl : j = k := by omega
        exact Int.le_refl _⟩
  · omega
theorem best_next {z : Nat → Int} {L : List (Int × Int)} {k b : Nat} (hk24 : k < 24) (h : Best z L k b) (hk : (k : Int) ∈ fsts L) :
    (pickN (z k) 1125899906842624 < pickN (z b) 1125899906842624 → Best z L (k + 1) k) ∧ (¬ pickN (z k) 1125899906842624 < pickN (z b) 1125899906842624 → Best z L (k + 1) b) := by
  rcases h with ⟨h, _⟩ | ⟨b', h, h1, h2, h3⟩
  · omega
  · obtain rfl : b = b' := by omega
    refine ⟨fun hv => .inr ⟨k, rfl, by omega, hk, fun j hj hm => ?_⟩, fun hv => .inr ⟨b, rfl, by omega, h2, fun j hj hm => ?_⟩⟩
    · rcases Nat.lt_or_ge j k with h4 | h4
      · have h5 := h3 j h4 hm
        rw [kzQ_eq, kzQ_eq] at *
        omega
      · obtain rfl : j = k := by omega
        exact Int.le_refl _
    · rcases Nat.lt_or_ge j k with h4 | h4
      · exact h3 j h4 hm
      · obtain rfl : j = k := by omega
        rw [kzQ_eq, kzQ_eq]
        omega
/-- A queue and its marks behind a call's start. -/
structure QM (w wx : World) (q : Nat) (Q : Nat → Prop) (policy : Int) (g : Nat) (f : Int → Option Rk) (L : List (Int × Int)) : Prop where
  qw : QW w wx q Q policy L.length f L
  marks : Marks wx g 24 (inB L)
  lo : w.heap.size ≤ g
  nq : ¬ Q g
section
variable {w wx w' : World} {q g : Nat} {Q : Nat → Prop} {policy : Int} {f : Int → Option Rk} {L : List (Int × Int)}
theorem QM.later (H : QM w wx q Q policy g f L) (k : Below wx.heap.size wx w') : QM w w' q Q policy g f L := by
  obtain ⟨C, h1, _⟩ := H.marks.ex
  exact ⟨H.qw.later k, H.marks.kept (fun o ho => (fr0 k).blk ho (fun h => h)), H.lo, H.nq⟩
end
/-- A mark, then the add that goes with it. -/
theorem qm_add {w wx : World} {q g : Nat} {Q : Nat → Prop} {policy : Int} {f : Int → Option Rk} {L : List (Int × Int)} (z : Nat → Int) {n t : Nat} (H : QM w wx q Q policy g f L) (ht : t < n) (hn : n ≤ 24) (hnt : (t : Int) ∉ fsts L) (hll : L.length ≤ 24) :
    Calls Try.prog 51 #[.pointer (some ⟨q, 0, none⟩), .int .i64 t, .int .i64 (pickN (z t) 1125899906842624)] (wx.setCell ⟨g, t, none⟩ (.bool true)) fun e w' => e = .returned (.int .i64 0) ∧ ∃ Q' f', QM w w' q Q' policy g f' (insP ((t : Int), kzQ z 1125899906842624 t) L) := by
  have hw : QW w (wx.setCell ⟨g, t, none⟩ (.bool true)) q Q policy L.length f L := H.qw.kept (P := One g) ((Fr.refl _ _).one t _) (fun k hk e => H.nq (by rw [show g = k from e.symm]; exact hk)) (fun k hk => by rw [show k = g from hk]; exact H.lo)
  have hm : Marks (wx.setCell ⟨g, t, none⟩ (.bool true)) g 24 (inB (insP ((t : Int), kzQ z 1125899906842624 t) L)) := H.marks.set (by omega) true (fun i hi => by
    unfold inB
    by_cases e : i = t
    · subst e; simp [fsts_ins]
    · have e2 : (i : Int) ≠ t := by omega
      simp [fsts_ins, e, e2])
  refine (q_add_new hw.q (t := t) (l := pickN (z t) 1125899906842624) (fill_may (by omega) (by omega) (by omega)) (by omega) hnt rfl).mono ?_
  rintro e w' ⟨rfl, hB⟩
  obtain ⟨Q', hH, hk⟩ := hw.step hB
  obtain ⟨C, h1, _⟩ := hm.ex
  refine ⟨rfl, Q', addF f t (pickN (z t) 1125899906842624), ⟨?_, hm.kept (fun o ho => (hk g o ho H.nq).1), H.lo, (hk g _ h1 H.nq).2⟩⟩
  rw [insP_len]
  exact hH
attribute [local irreducible] pushP insP offP fillS lowP fsts fillQ kzQ upF upL upE inB Best
set_option maxRecDepth 100000 in
set_option maxHeartbeats 6400000 in
theorem readyleast_walk {w : World} (edf : Bool) (A : Option Addr) (len cap : Nat) (B : Option Addr) (n2 cap2 : Nat) (hlen : len ≤ 9223372036854775807) (hlen2 : n2 ≤ 140737488355328) (z : Nat → Int) (hz : Ints w A len z) (y : Nat → Int) (hy : Ints w B n2 y) :
    Calls Try.prog 12 #[.bool edf, .slice A len cap, .slice B n2 cap2] w fun e w' => e = .returned (.bool true) ∧ Below w.heap.size w w' := by
  have HZ := hid hz
  have HY := hid hy
  clear hz hy
  obtain ⟨n, hn⟩ : ∃ n, min len 24 = n := ⟨_, rfl⟩
  have hnb : n ≤ len ∧ n ≤ 24 := by omega
  have HN := hid hn
  clear hn
  have hmake : ∀ w, (Instr.makeSlice 52 (.int .i64 24) (.int .i64 24)).run Try.prog w = .ok (.slice (some ⟨w.heap.size, 0, none⟩) 24 24) (w.alloc (.cells (List.replicate 24 (.bool false)).toArray 4)) := make_bools 24 (by omega)
  obtain ⟨pol, hpol⟩ : ∃ pol : Int, pol = if edf then 2 else 1 := ⟨_, rfl⟩
  have hpc : pol = 1 ∨ pol = 2 := by rw [hpol]; cases edf <;> simp
  have HPOL := hid hpol
  clear hpol
  have hws : IntKind.i64.wrap ((n2 : Int) + (n : Int)) = ((n2 + n : Nat) : Int) := by rw [wraps_i64 _ (by omega) (by omega)]; omega
  obtain ⟨nn, hnn⟩ : ∃ nn, n2 + n = nn := ⟨_, rfl⟩
  rw [hnn] at hws
  have HNN := hid hnn
  have hnnb : nn ≤ 140737488355352 := by omega
  clear hnn
  go_enter Try.func12, Try.ntmps12
  go_wp2_with fail
  refine readyex_any.mono ?_
  rintro e w1 ⟨rfl, hb1⟩
  have HB1 := hid hb1
  clear hb1
  go_upto_if 18 with fail
  go_cut [8] (fun v wx => v = .int .i64 pol ∧ wx = w1)
  case first =>
    cases edf
    · go_wp2_with fail
      go_meet
      exact ⟨by rw [HPOL.out]; rfl, rfl⟩
    · go_wp2_with fail
      go_meet
      exact ⟨by rw [HPOL.out]; rfl, rfl⟩
  obtain ⟨rfl, rfl⟩ := hcut
  clear HPOL
  go_wp2_with fail
  refine (q_new pol hpc).mono ?_
  rintro e w2 ⟨q, Q0, rfl, h0, hb2⟩
  have H0 := hid (show QW w w2 q Q0 pol 0 (fun _ => none) [] from ⟨below_then HB1.out hb2, h0.weak HB1.out.size⟩)
  clear h0 hb2 HB1
  go_upto_region 9 with fail
  have hmin : min (len : Int) 24 = n := by have := HN.out; omega
  rw [hmin]
  clear hmin HN
  go_wp2_with fail
  have hm0 : QM w (w2.alloc (.cells (List.replicate 24 (.bool false)).toArray 4)) q Q0 pol w2.heap.size (fun _ => none) [] :=
    ⟨H0.out.later ((Below.refl _ w2).alloc (Nat.le_refl _) _), (Marks.made w2 24).congr (fun i _ => by unfold inB fsts; simp), H0.out.below.size, fun hq => Nat.lt_irrefl _ (H0.out.q.lt _ hq).2⟩
  have HM0 := hid hm0
  generalize w2.heap.size = g at *
  clear hm0 H0
  go_loopw [13] (fun i wr => ∃ (k : Nat) (Q : Nat → Prop) (f : Int → Option Rk) (L : List (Int × Int)), k ≤ nn ∧ i = .int .i64 k ∧ QM w wr q Q pol g f L ∧ Hid (LvOk z n L ∧ ∀ t : Nat, n2 + t < k → (t : Int) ∈ fsts L)) (fun i _ => nn - (intOf i).toNat)
  case atStart => exact ⟨0, Q0, _, [], by omega, rfl, HM0.out, hid ⟨fun p hp => (by cases hp), fun t ht => (by omega)⟩⟩
  case round =>
    obtain ⟨k, Q, f, L, hk, rfl, HQ, HL⟩ := hrel
    have HQ := hid HQ
    by_cases hlt : k < nn
    · by_cases hn0 : n = 0
      · have hkn : k < n2 := by have := HNN.out; omega
        subst hn0
        obtain ⟨t0, ht0⟩ : ∃ t0 : Int, (k : Int) - (n2 : Int) = t0 := ⟨_, rfl⟩
        have hnn := HNN.out
        have hsub : IntKind.i64.wrap ((k : Int) - (n2 : Int)) = t0 := by rw [wraps_i64 _ (by omega) (by omega), ht0]
        have ht0n : t0 < 0 := by omega
        have HLN := hid (show LvOk z 0 L ∧ ∀ t : Nat, n2 + t < k + 1 → (t : Int) ∈ fsts L from ⟨HL.out.1, fun t ht => by omega⟩)
        clear ht0 hnn
        go_wp2_with fail
        go_roundw
        case rel => exact ⟨k + 1, Q, f, L, by omega, by go_num, HQ.out, HLN⟩
        case measure => simp [intOf]; omega
      · have hn1 : 0 < n := by omega
        obtain ⟨t, htn, hti, hcase⟩ : ∃ t : Nat, t < n ∧ (n2 ≤ k → t = k - n2) ∧ ((n2 ≤ k ∧ (k : Int) - (n2 : Int) = (t : Int)) ∨ (k < n2 ∧ pickN (y k) n = t)) := by
          have hnn := HNN.out
          by_cases h : n2 ≤ k
          · exact ⟨k - n2, by have := HNN.out; omega, fun _ => rfl, .inl ⟨h, by omega⟩⟩
          · have hp := pickN_bd (y k) n (by omega)
            exact ⟨(pickN (y k) n).toNat, by omega, fun h2 => absurd h2 h, .inr ⟨by omega, by omega⟩⟩
        have HTI := hid hti
        clear hti
        have HB0 := hid HQ.out.qw.below
        have HCASE := hid hcase
        clear hcase
        obtain ⟨d, hd⟩ : ∃ d : Int, (k : Int) - (n2 : Int) = d := ⟨_, rfl⟩
        have hsub : IntKind.i64.wrap ((k : Int) - (n2 : Int)) = d := by have hnn := HNN.out; rw [wraps_i64 _ (by omega) (by omega), hd]
        have HDD := hid hd
        clear hd
        have hdn : decide (0 < (n : Int)) = true := decide_eq_true (by omega)
        go_upto_region 14 with fail
        go_cut [49] (fun v wx => v = .bool (decide (k < n2)) ∧ wx = wr)
        case first =>
          rcases HCASE.out with ⟨hge, _⟩ | ⟨hkn, _⟩
          · go_wp2_with fail
            go_meet
            exact ⟨bool_eq (decide_eq_false (by omega)).symm, rfl⟩
          · go_wp2_with fail
            go_meet
            exact ⟨bool_eq (decide_eq_true hkn).symm, rfl⟩
        clear hsub
        obtain ⟨rfl, rfl⟩ := hcut
        go_upto_if 49 with fail
        go_cut [14] (fun v wx => v = .int .i64 t ∧ wx = wc)
        case first =>
          rcases HCASE.out with ⟨hge, hsub⟩ | ⟨hkn, hpk⟩
          · rw [show decide (k < n2) = false from decide_eq_false (by omega)]
            go_wp2_with fail
            go_meet
            exact ⟨int_eq (HDD.out.symm.trans hsub), rfl⟩
          · rw [show decide (k < n2) = true from decide_eq_true hkn]
            obtain ⟨ab, ao, rfl, c0, hz0, hz1⟩ := ints_wr HY.out HB0.out (k := k) hkn
            have HPZ := hid (fun W => readypick_any (w := W) (y k) n hz0 hz1 (by omega) (by omega))
            rw [hpk] at HPZ
            generalize y k = yk at *
            clear hpk
            go_wp2_with fail
            refine (HPZ.out _).mono ?_
            rintro e w' ⟨rfl, rfl⟩
            go_wp2_with fail
            go_meet
            exact ⟨rfl, rfl⟩
        obtain ⟨rfl, rfl⟩ := hcut
        clear HCASE HDD
        have b0 := HQ.out.marks.cell (j := t) (by omega)
        have f0 := HQ.out.marks.free t
        by_cases hin : (t : Int) ∈ fsts L
        · have hb : inB L t = true := by unfold inB; simpa using hin
          rw [hb] at b0
          have HLN := hid (show LvOk z n L ∧ ∀ s : Nat, n2 + s < k + 1 → (s : Int) ∈ fsts L from ⟨HL.out.1, fun s hs => by
            by_cases h : n2 + s < k
            · exact HL.out.2 s h
            · have h1 := HTI.out (by omega)
              rw [show s = t by omega]
              exact hin⟩)
          clear hb hin
          go_wp2_with fail
          go_roundw
          case rel => exact ⟨k + 1, Q, f, L, by omega, by go_num, HQ.out, HLN⟩
          case measure => simp [intOf]; omega
        · have hb : inB L t = false := by unfold inB; simpa using hin
          rw [hb] at b0
          have hbs : Below w.heap.size w (wc.setCell ⟨g, t, none⟩ (.bool true)) := (HQ.out.qw.kept (P := One g) ((Fr.refl _ _).one t _) (fun k hk e => HQ.out.nq (by rw [show g = k from e.symm]; exact hk)) (fun k hk => by rw [show k = g from hk]; exact HQ.out.lo)).below
          obtain ⟨ab, ao, rfl, c0, hz0, hz1⟩ := ints_wr HZ.out hbs (k := t) (by omega)
          have HPV := hid (fun W => readypick_any (w := W) (z t) 1125899906842624 hz0 hz1 (by omega) (by omega))
          have HADD := hid (qm_add z HQ.out htn hnb.2 hin HQ.out.qw.q.facts.2.2)
          have hsub2 : ∀ s : Int, s ∈ fsts (insP ((t : Int), kzQ z 1125899906842624 t) L) ↔ s = t ∨ s ∈ fsts L := fun s => fsts_ins
          have HLN := hid (show LvOk z n (insP ((t : Int), kzQ z 1125899906842624 t) L) ∧ ∀ s : Nat, n2 + s < k + 1 → (s : Int) ∈ fsts (insP ((t : Int), kzQ z 1125899906842624 t) L) from ⟨HL.out.1.add htn, fun s hs => by
            rw [hsub2]
            by_cases h : n2 + s < k
            · exact .inr (HL.out.2 s h)
            · have h1 := HTI.out (by omega)
              exact .inl (by omega)⟩)
          have HNE := hid (show insP ((t : Int), kzQ z 1125899906842624 t) L ≠ [] from fun e => by have := insP_len ((t : Int), kzQ z 1125899906842624 t) L; rw [e] at this; simp at this)
          generalize insP ((t : Int), kzQ z 1125899906842624 t) L = L' at *
          generalize pickN (z t) 1125899906842624 = pv at *
          generalize z t = zt at *
          clear hsub2 hb hbs hin
          go_wp2_with fail
          refine (HPV.out _).mono ?_
          rintro e w' ⟨rfl, rfl⟩
          go_wp2_with fail
          refine HADD.out.mono ?_
          rintro e w3 ⟨rfl, Q3, f3, hQ3⟩
          have HQ3 := hid hQ3
          clear hQ3 HADD b0 f0 c0 HQ
          go_wp2_with fail
          go_loopw [15, 16] (fun bv i wr => ∃ (j nq : Nat) (best : Int), j ≤ n ∧ i = .int .i64 j ∧ bv = .int .i64 best ∧ wr = w3.drewN nq ∧ Hid (Best z L' j best)) (fun _ i _ => n - (intOf i).toNat)
          case atStart => exact ⟨0, 0, -1, by omega, rfl, rfl, rfl, by unfold Best; exact .inl ⟨rfl, fun j hj => by omega⟩⟩
          case round =>
            obtain ⟨j, nq0, best, hj, rfl, rfl, rfl, HBB⟩ := hrel
            by_cases hlt2 : j < n
            · obtain ⟨wj, hwj⟩ : ∃ wj, w3.drewN nq0 = wj := ⟨_, rfl⟩
              have HQJ : Hid (QM w wj q Q3 pol g f3 L') := by rw [← hwj]; exact hid (HQ3.out.later (below_drewN' (Below.refl _ _) nq0))
              have HWJ := hid hwj
              rw [hwj]
              clear hwj
              have m0 := HQJ.out.marks.cell (j := j) (by omega)
              by_cases hjin : (j : Int) ∈ fsts L'
              · rw [show inB L' j = true by unfold inB; simpa using hjin] at m0
                rcases best_cases HBB.out with rfl | ⟨b, rfl, hbj⟩
                · have HBN := hid (best_first HBB.out hjin)
                  clear hjin
                  go_upto_region 24 with fail
                  go_quiet (fail)
                  go_wp2_with fail
                  go_roundw
                  case rel => exact ⟨j + 1, nq0 + nq, j, by omega, by go_num, rfl, by rw [← HWJ.out]; simp, HBN⟩
                  case measure => simp [intOf]; omega
                · obtain ⟨ab1, ao1, e1, c1, hy0, hy1⟩ := ints_wr HZ.out HQJ.out.qw.below (k := j) (by omega)
                  injection e1 with e1
                  injection e1 with e1 e2
                  subst e1 e2
                  obtain ⟨ab2, ao2, e1, c2, hx0, hx1⟩ := ints_wr HZ.out HQJ.out.qw.below (k := b) (by omega)
                  injection e1 with e1
                  injection e1 with e1 e2
                  subst e1 e2
                  have HP1 := hid (fun W => readypick_any (w := W) (z j) 1125899906842624 hy0 hy1 (by omega) (by omega))
                  have HP2 := hid (fun W => readypick_any (w := W) (z b) 1125899906842624 hx0 hx1 (by omega) (by omega))
                  have HBN := hid (best_next (by omega) HBB.out hjin)
                  generalize pickN (z j) 1125899906842624 = vj at *
                  generalize pickN (z b) 1125899906842624 = vb at *
                  generalize z j = zj at *
                  generalize z b = zb at *
                  have hbn : b < n := by omega
                  have hj24 : (j : Int) < 24 := by omega
                  have hjl : (j : Int) < (len : Int) := by omega
                  have hbl : (b : Int) < (len : Int) := by omega
                  have hb0 : ¬ (b : Int) < 0 := by omega
                  clear hjin hbj hy0 hy1 hx0 hx1
                  by_cases hv : vj < vb
                  · have hdv : decide (vj < vb) = true := decide_eq_true hv
                    have HBN2 := hid (HBN.out.1 hv)
                    clear HBN hv
                    go_upto_region 24 with fail
                    go_quiet ((first | (go_at_call_of 50 (Value.int IntKind.i64 zj); exact Calls.quiet_of_same (HP1.out _)) | (go_at_call_of 50 (Value.int IntKind.i64 zb); exact Calls.quiet_of_same (HP2.out _))))
                    go_wp2_with fail
                    go_roundw
                    case rel => exact ⟨j + 1, nq0 + nq, j, by omega, by go_num, rfl, by rw [← HWJ.out]; simp, HBN2⟩
                    case measure => simp [intOf]; omega
                  · have hdv : decide (vj < vb) = false := decide_eq_false hv
                    have HBN2 := hid (HBN.out.2 hv)
                    clear HBN hv
                    go_upto_region 24 with fail
                    go_quiet ((first | (go_at_call_of 50 (Value.int IntKind.i64 zj); exact Calls.quiet_of_same (HP1.out _)) | (go_at_call_of 50 (Value.int IntKind.i64 zb); exact Calls.quiet_of_same (HP2.out _))))
                    go_wp2_with fail
                    go_roundw
                    case rel => exact ⟨j + 1, nq0 + nq, b, by omega, by go_num, rfl, by rw [← HWJ.out]; simp, HBN2⟩
                    case measure => simp [intOf]; omega
              · rw [show inB L' j = false by unfold inB; simpa using hjin] at m0
                have HBN := hid (best_skip HBB.out hjin)
                clear hjin
                go_upto_region 24 with fail
                go_quiet (fail)
                go_wp2_with fail
                go_roundw
                case rel => exact ⟨j + 1, nq0 + nq, best, by omega, by go_num, rfl, by rw [← HWJ.out]; simp, HBN⟩
                case measure => simp [intOf]; omega
            · obtain rfl : j = n := by omega
              have hq9 := HQ3.out.later (w' := w3.drewN nq0) (below_drewN' (Below.refl _ _) nq0)
              have hfi := q_first hq9.qw.q
              rw [best_is hq9.qw.q.facts.2.1 HLN.out.1 hnb.2 HBB.out HNE.out] at hfi
              have HFI := hid hfi
              have HQ9 := hid hq9
              have hbb : (best != best) = false := by simp
              clear hfi hq9 HQ3
              generalize w3.drewN nq0 = w9 at *
              go_wp2_with fail
              refine HFI.out.mono ?_
              rintro e w10 ⟨rfl, k10, hw10⟩
              have HQ10 : Hid (QM w w10 q Q3 pol g f3 L') := by rw [hw10]; exact hid (HQ9.out.later (below_drewN' (Below.refl _ _) k10))
              clear hw10 HFI HQ9
              go_wp2_with fail
              go_roundw
              case rel => exact ⟨k + 1, Q3, f3, L', by omega, by go_num, HQ10.out, HLN⟩
              case measure => simp [intOf]; omega
    · obtain rfl : k = nn := by omega
      have hll : L.length = n := by
        have h1 := cover_len n (fsts L) (fun t ht => HL.out.2 t (by have := HNN.out; omega))
        have h2 := nodup_bound n (fsts L) HQ.out.qw.q.facts.1 (fun s hs => by
          obtain ⟨p, hp, rfl⟩ := List.mem_map.1 (show s ∈ List.map Prod.fst L by unfold fsts at hs; exact hs)
          obtain ⟨t, ht, rfl⟩ := HL.out.1 p hp
          exact ⟨by simp, by simpa using ht⟩)
        have e : (fsts L).length = L.length := by unfold fsts; rw [List.length_map]
        omega
      have HLL := hid hll
      have HALL := hid (q_all HQ.out.qw.q)
      have HBQ := hid HQ.out.qw.below
      clear hll HQ
      go_wp2_with fail
      refine HALL.out.mono ?_
      rintro e w5 ⟨u, rfl, hu, hb5⟩
      rw [HLL.out] at hu
      obtain ⟨Au, cu, rfl⟩ := own_slice hu
      have HB5 := hid (below_then HBQ.out hb5)
      clear hu hb5
      go_wp2_with fail
      go_ret
      exact ⟨rfl, HB5.out⟩
end Go.Proofs.Ytbkjlohlfkokpaa
