/- Joined: Stab5. -/
import Derived.Test.YtppildaahmlfmaaQ31
set_option linter.unusedVariables false
set_option linter.unusedSimpArgs false
/- slices.symMergeCmpFunc at parts: the general case, and the whole (contract). -/
set_option linter.unusedVariables false
set_option linter.unusedSimpArgs false
namespace Go.Proofs.Ytppildaahmlfmaa
open Go.RowKit Go.Sort

section
variable {w : World} {base : Nat}
set_option maxRecDepth 100000 in
set_option maxHeartbeats 12800000 in
theorem symmerge_many (d : Nat → Pt) (g n cap a m b : Nat) (H : PR w base g n cap d) (H2 : Two2 ptO d a m b) (ham : a < m) (hmb : m < b) (hb : b ≤ n) (hn : n < 1000000) (h1 : m ≠ a + 1) (h2 : b ≠ m + 1) (hrec : MergeTo base g n cap (b - a)) :
    Calls Try.prog 65 #[.slice (some ⟨g, 0, none⟩) n cap, .int .i64 a, .int .i64 m, .int .i64 b, .func (.func 32) #[] #[]] w fun e w' => e = .returned (.tuple #[]) ∧ ∃ d', PR w' base g n cap d' ∧ Mv a b d d' ∧ Sd ptO d' a b ∧ Fr (One g) w w' := by
  have HH := hid H
  have HT := hid H2
  have mixed := Try.mixed_
  have hs1 : IntKind.i64.wrap ((m : Int) - (a : Int)) = ((m - a : Nat) : Int) := by rw [IntKind.wrap_i64]; omega
  have hs2 : IntKind.i64.wrap ((b : Int) - (m : Int)) = ((b - m : Nat) : Int) := by rw [IntKind.wrap_i64]; omega
  clear H H2
  have HREC := hid hrec
  clear hrec
  have hd1 : (((m - a : Nat) : Int) == 1) = false := beq_eq_false_iff_ne.2 (by omega)
  have hd2 : (((b - m : Nat) : Int) == 1) = false := beq_eq_false_iff_ne.2 (by omega)
  obtain ⟨D1, hD1⟩ : ∃ D, m - a = D := ⟨_, rfl⟩
  obtain ⟨D2, hD2⟩ : ∃ D, b - m = D := ⟨_, rfl⟩
  rw [hD1] at hs1 hd1
  rw [hD2] at hs2 hd2
  obtain ⟨mid, hmd⟩ : ∃ h, (a + b) / 2 = h := ⟨_, rfl⟩
  have hmid0 : ((a : Int) + (b : Int)) / 2 = (mid : Int) := by omega
  obtain ⟨nn, hnn⟩ : ∃ x, mid + m = x := ⟨_, rfl⟩
  have hnw : IntKind.i64.wrap ((mid : Int) + (m : Int)) = (nn : Int) := by rw [IntKind.wrap_i64]; omega
  obtain ⟨pp, hpp⟩ : ∃ x, nn - 1 = x := ⟨_, rfl⟩
  have hpw : IntKind.i64.wrap ((nn : Int) - 1) = (pp : Int) := by rw [IntKind.wrap_i64]; omega
  obtain ⟨s0, hs0⟩ : ∃ x, (if mid < m then nn - b else a) = x := ⟨_, rfl⟩
  obtain ⟨r0, hr0⟩ : ∃ x, (if mid < m then mid else m) = x := ⟨_, rfl⟩
  have hmm : a ≤ s0 ∧ r0 ≤ m ∧ nn ≤ b + s0 ∧ r0 ≤ mid ∧ (s0 = a ∨ nn = b + s0) ∧ (r0 = m ∨ r0 = mid) ∧ s0 ≤ r0 := by
    rw [← hs0, ← hr0]
    split <;> omega
  have HMM := hid hmm
  have HPP := hid (show pp = nn - 1 ∧ nn = mid + m ∧ a < mid ∧ mid < b from by omega)
  have hr0n : r0 ≤ n := by omega
  have hs0r : s0 ≤ r0 := by omega
  have HCUT := hid (fun i (hS : Srch (srch3 ptO d pp) s0 r0 i i) => by
    have e : pp = mid + m - 1 := by omega
    rw [e] at hS
    have h := srch3_cut (mid := mid) HT.out hmm.1 hmm.2.1 (by omega) hmm.2.2.2.1 (by omega) hmm.2.2.2.2.2.1 hs0r hS
    rw [hnn] at h
    exact (h : Cut ptO d a m b i (nn - i)))
  have HMONO := hid (show ∀ c c', s0 ≤ c → c ≤ c' → c' < r0 → srch3 ptO d pp c = true → srch3 ptO d pp c' = true from by
    have e : pp = mid + m - 1 := by omega
    rw [e]
    exact srch3_mono (mid := mid) HT.out hmm.1 hmm.2.1 (by omega) hmm.2.2.2.1)
  have hc0 : r0 ≤ pp + 1 := by omega
  have hc1 : pp < n + s0 := by omega
  have HSR := hid (⟨hs0, hr0⟩ : (if mid < m then nn - b else a) = s0 ∧ (if mid < m then mid else m) = r0)
  have hnb : IntKind.i64.wrap ((nn : Int) - (b : Int)) = ((nn : Int) - (b : Int)) := by rw [IntKind.wrap_i64]; omega
  have hnb0 : mid < m → ((nn : Int) - (b : Int)) = (s0 : Int) ∧ mid = r0 := fun h => by rw [if_pos h] at hs0 hr0; omega
  have hnb1 : ¬ mid < m → a = s0 ∧ m = r0 := fun h => by rw [if_neg h] at hs0 hr0; omega
  have HNB := hid (⟨hnb0, hnb1⟩ : _ ∧ _)
  clear hD1 hD2 hmd hnn hpp hs0 hr0 hmm h1 h2 hnb0 hnb1
  go_enter Try.func65, Try.ntmps65
  go_upto_if 140 with fail
  go_cut [20, 21] (fun u v wx => u = .int .i64 s0 ∧ v = .int .i64 r0 ∧ w = wx)
  case first =>
    as_aux_lemma =>
      by_cases hm : mid < m
      case pos =>
        have HE := hid (HNB.out.1 hm)
        go_wp2_with fail
        obtain ⟨e1, e2⟩ := HE.out
        go_meet
        exact ⟨int_eq (by first | omega | (rw [hnb]; omega)), int_eq (by omega), rfl⟩
      case neg =>
        have HE := hid (HNB.out.2 hm)
        go_wp2_with fail
        obtain ⟨e1, e2⟩ := HE.out
        go_meet
        exact ⟨int_eq (by omega), int_eq (by omega), rfl⟩
  obtain ⟨rfl, rfl, rfl⟩ := hcut
  clear hnb hs1 hs2 hd1 hd2 hmid0 hnw
  go_wp2_with fail
  go_loopw [20, 21] (fun u v wr => ∃ i j : Nat, u = .int .i64 i ∧ v = .int .i64 j ∧ i ≤ j ∧ j ≤ r0 ∧ s0 ≤ i ∧ Hid (Srch (srch3 ptO d pp) s0 r0 i j) ∧ Hid (PR wr base g n cap d) ∧ Hid (Fr (One g) w wr)) (fun u v _ => (intOf v).toNat - (intOf u).toNat)
  case atStart => exact ⟨s0, r0, by first | rfl | go_num, by first | rfl | go_num, by omega, by omega, by omega, hid (Srch.start _ (by omega)), HH, hid (Fr.refl _ _)⟩
  case round =>
    obtain ⟨i, j, rfl, rfl, hij, hjh, hli, HS, HP, HF⟩ := hrel
    by_cases hlt : i < j
    case pos =>
      as_aux_lemma =>
        obtain ⟨h, hh⟩ : ∃ h, (i + j) / 2 = h := ⟨_, rfl⟩
        have hmid : ((i : Int) + (j : Int)) / 2 = (h : Int) := by omega
        have hh1 : i ≤ h := by omega
        have hh2 : h < j := by omega
        clear hh
        obtain ⟨PH, hPH⟩ : ∃ x, pp - h = x := ⟨_, rfl⟩
        have hphw : IntKind.i64.wrap ((pp : Int) - (h : Int)) = (PH : Int) := by rw [IntKind.wrap_i64]; omega
        have HPH := hid hPH
        have hPHn : PH < n := by omega
        clear hPH
        have HG := hid (fun (q : Nat) (os : Array Obj) => HP.out.grown q os)
        have HFG := hid (fun (q : Nat) (os : Array Obj) => HF.out.trans (fr_grown wr q os) (fun _ h => h.elim))
        have hIn : PH < n := hPHn
        have hJn : h < n := by omega
        have hcg := fun (q : Nat) (os : Array Obj) => cmp_class (grow (wr.drewN q) os) (d PH) (d h)
        have hp := fun (q : Nat) (os : Array Obj) => (HP.out.grown q os).cells (i := PH) (hPHn)
        have hq := fun (q : Nat) (os : Array Obj) => (HP.out.grown q os).cells (i := h) (by omega)
        have p0 := fun q os => (hp q os).1
        have p1 := fun q os => (hp q os).2.1
        have p2 := fun q os => (hp q os).2.2.1
        have p3 := fun q os => (hp q os).2.2.2.1
        have p4 := fun q os => (hp q os).2.2.2.2.1
        have p5 := fun q os => (hp q os).2.2.2.2.2.1
        have p6 := fun q os => (hp q os).2.2.2.2.2.2
        have q0 := fun q os => (hq q os).1
        have q1 := fun q os => (hq q os).2.1
        have q2 := fun q os => (hq q os).2.2.1
        have q3 := fun q os => (hq q os).2.2.2.1
        have q4 := fun q os => (hq q os).2.2.2.2.1
        have q5 := fun q os => (hq q os).2.2.2.2.2.1
        have q6 := fun q os => (hq q os).2.2.2.2.2.2
        clear hp hq
        have HYES := hid (fun (h : cmp3 (d PH).p.dl (d h).p.dl < 0) => ptO_true h)
        have HNO := hid (fun (h : ¬ cmp3 (d PH).p.dl (d h).p.dl < 0) => ptO_false h)
        obtain ⟨x, hx⟩ : ∃ x, d PH = x := ⟨_, rfl⟩
        obtain ⟨y, hy⟩ : ∃ y, d h = y := ⟨_, rfl⟩
        simp only [hx] at hcg p0 p1 p2 p3 p4 p5 p6
        simp only [hy] at hcg q0 q1 q2 q3 q4 q5 q6
        have HX := hid hx
        have HY := hid hy
        clear hx hy
        obtain ⟨⟨xc, xb, xd, xp, xt⟩, xk, xj⟩ := x
        obtain ⟨⟨yc, yb, yd, yp, yt⟩, yk, yj⟩ := y
        unfold encPt at hcg
        simp only at p0 p1 p2 p3 p4 p5 p6 q0 q1 q2 q3 q4 q5 q6 hcg
        have HCE := hid (show cmp3 (d PH).p.dl (d h).p.dl = cmp3 xd yd from by rw [HX.out, HY.out])
        obtain ⟨c, hcc⟩ : ∃ c, cmp3 xd yd = c := ⟨_, rfl⟩
        rw [hcc] at hcg HCE
        clear hcc
        by_cases hc : c < 0
        case pos =>
          have HLO := hid (HYES.out (by rw [HCE.out]; exact hc))
          clear HYES HNO HX HY HCE
          go_wp2_with fail
          go_quiet_grown (first | (go_at_call 32; refine Calls.grown_of (hcg _ _)))
          clear p0 p1 p2 p3 p4 p5 p6 q0 q1 q2 q3 q4 q5 q6 hcg
          have HPW := hid (HG.out nq osq)
          have HFZ := hid (HFG.out nq osq)
          clear HG HFG
          generalize grow (wr.drewN nq) osq = W2 at *
          go_wp2_with fail
          have HSN := hid (HS.out.left (HMONO.out) hh1 hh2 (by unfold srch3; rw [HPH.out]; exact HLO.out))
          go_roundw
          case rel => exact ⟨i, h, rfl, by go_num, by omega, by omega, by omega, HSN, HPW, HFZ⟩
          case measure => simp [intOf]; omega
        case neg =>
          have HLO := hid (HNO.out (by rw [HCE.out]; exact hc))
          clear HYES HNO HX HY HCE
          have hcn : 0 ≤ c := by omega
          have hcb : decide (c < 0) = false := decide_eq_false hc
          go_wp2_with fail
          go_quiet_grown (first | (go_at_call 32; refine Calls.grown_of (hcg _ _)))
          clear p0 p1 p2 p3 p4 p5 p6 q0 q1 q2 q3 q4 q5 q6 hcg
          have HPW := hid (HG.out nq osq)
          have HFZ := hid (HFG.out nq osq)
          clear HG HFG
          generalize grow (wr.drewN nq) osq = W2 at *
          go_wp2_with fail
          have HSN := hid (HS.out.right (HMONO.out) hh1 hh2 (by unfold srch3; rw [HPH.out]; exact HLO.out))
          go_roundw
          case rel => exact ⟨h + 1, j, by go_num, rfl, by omega, by omega, by omega, HSN, HPW, HFZ⟩
          case measure => simp [intOf]; omega
    case neg =>
      obtain rfl : i = j := by omega
      have HC := hid (HCUT.out i HS.out)
      obtain ⟨E, hE⟩ : ∃ x, nn - i = x := ⟨_, rfl⟩
      rw [hE] at HC
      have hEw : IntKind.i64.wrap ((nn : Int) - (i : Int)) = (E : Int) := by have := HPP.out; have := HMM.out; rw [IntKind.wrap_i64]; omega
      have hEm : i + (E - m) = mid := by have := HPP.out; have := HMM.out; have := HC.out.me; omega
      have HRT := hid (HC.out.rotated HT.out)
      rw [hEm] at HRT
      have hEb : E ≤ n := by have := HC.out.eb; omega
      have ham2 : a < mid := HPP.out.2.2.1
      have hmb2 : mid < b := HPP.out.2.2.2
      have HIM := hid (show i ≤ m ∧ m ≤ E from ⟨HC.out.sm, HC.out.me⟩)
      obtain ⟨D1, hD1⟩ : ∃ D, rot d i m E = D := ⟨_, rfl⟩
      rw [hD1] at HRT
      have HD1 := hid hD1
      clear hE hEm hD1 hpw hc0 hc1 hr0n hs0r HCUT HMONO
      go_upto_region 39 with fail
      go_cut [185] (fun v wx => ∃ gb : Bool, v = .bool gb ∧ wr = wx ∧ Hid (gb = true ↔ (i < m ∧ m < E)))
      case first =>
        as_aux_lemma =>
          by_cases k1 : i < m
          case pos =>
            by_cases k2 : m < E
            case pos =>
              have HK := hid (⟨k1, k2⟩ : _ ∧ _)
              go_wp2_with fail
              go_meet
              exact ⟨_, rfl, rfl, hid ⟨fun _ => HK.out, fun _ => rfl⟩⟩
            case neg =>
              have HK := hid k2
              go_wp2_with fail
              go_meet
              exact ⟨_, rfl, rfl, hid ⟨(fun h => by cases h), fun h => absurd h.2 HK.out⟩⟩
          case neg =>
            have HK := hid k1
            go_wp2_with fail
            go_meet
            exact ⟨_, rfl, rfl, hid ⟨(fun h => by cases h), fun h => absurd h.1 HK.out⟩⟩
      obtain ⟨gb, rfl, rfl, HGB⟩ := hcut
      go_upto_if 185 with fail
      go_cut [24] (fun v wx => v = .int .i64 E ∧ Hid (PR wx base g n cap D1) ∧ Hid (Fr (One g) w wx))
      case first =>
        as_aux_lemma =>
          cases gb
          case true =>
            obtain ⟨c1, c2⟩ := HGB.out.1 rfl
            have HRC := hid (rotate_any (w := wr) d g n cap i m E (.func (.func 32) #[] #[]) HP.out c1 c2 hEb hn)
            go_wp2_with fail
            refine HRC.out.mono ?_
            rintro e w1 ⟨rfl, hp, hf⟩
            have HP1 := hid hp
            have HF1 := hid (HF.out.trans hf (fun x hx => .inl hx))
            clear hp hf
            go_wp2_with fail
            go_meet
            exact ⟨rfl, by rw [← HD1.out]; exact HP1, HF1⟩
          case false =>
            have HNO := hid (show ¬ (i < m ∧ m < E) from fun h => by have := HGB.out.2 h; cases this)
            go_wp2_with fail
            go_meet
            exact ⟨rfl, by rw [← HD1.out, rot_none HNO.out HIM.out.1 HIM.out.2]; exact HP, HF⟩
      obtain ⟨rfl, HP1, HF1⟩ := hcut
      obtain ⟨w2, hw2⟩ : ∃ x, x = wc := ⟨_, rfl⟩
      subst hw2
      clear HGB
      go_upto_region 41 with fail
      go_cut [199] (fun v wx => ∃ gb : Bool, v = .bool gb ∧ w2 = wx ∧ Hid (gb = true ↔ (a < i ∧ i < mid)))
      case first =>
        as_aux_lemma =>
          by_cases k1 : a < i
          case pos =>
            by_cases k2 : i < mid
            case pos =>
              have HK := hid (⟨k1, k2⟩ : _ ∧ _)
              go_wp2_with fail
              go_meet
              exact ⟨_, rfl, rfl, hid ⟨fun _ => HK.out, fun _ => rfl⟩⟩
            case neg =>
              have HK := hid k2
              go_wp2_with fail
              go_meet
              exact ⟨_, rfl, rfl, hid ⟨(fun h => by cases h), fun h => absurd h.2 HK.out⟩⟩
          case neg =>
            have HK := hid k1
            go_wp2_with fail
            go_meet
            exact ⟨_, rfl, rfl, hid ⟨(fun h => by cases h), fun h => absurd h.1 HK.out⟩⟩
      obtain ⟨gb, rfl, rfl, HGB⟩ := hcut
      go_upto_if 199 with fail
      go_cut [24] (fun v wx => v = .int .i64 E ∧ ∃ d2, Hid (PR wx base g n cap d2) ∧ Hid (Mv a mid D1 d2 ∧ Sd ptO d2 a mid) ∧ Hid (Fr (One g) w wx))
      case first =>
        as_aux_lemma =>
          cases gb
          case true =>
            obtain ⟨c1, c2⟩ := HGB.out.1 rfl
            have HRC := hid (HREC.out w2 D1 a i mid (by omega) HP1.out HRT.out.1 c1 c2 (by omega))
            go_wp2_with fail
            refine HRC.out.mono ?_
            rintro e w1 ⟨rfl, d2, hp, hmv, hsd, hf⟩
            have HP2 := hid hp
            have HMS := hid (⟨hmv, hsd⟩ : _ ∧ _)
            have HF2 := hid (HF1.out.trans hf (fun x hx => .inl hx))
            clear hp hf hmv hsd
            go_wp2_with fail
            go_meet
            exact ⟨rfl, d2, HP2, HMS, HF2⟩
          case false =>
            have HNO := hid (show ¬ (a < i ∧ i < mid) from fun h => by have := HGB.out.2 h; cases this)
            go_wp2_with fail
            go_meet
            exact ⟨rfl, D1, HP1, hid ⟨Mv.refl _ _ _, HRT.out.1.idle HNO.out⟩, HF1⟩
      obtain ⟨rfl, d2, HP2, HMS, HF2⟩ := hcut
      obtain ⟨w3, hw3⟩ : ∃ x, x = wc := ⟨_, rfl⟩
      subst hw3
      clear HGB
      have HT2 := hid (show Two2 ptO d2 mid E b from HRT.out.2.1.congr (fun k h1 h2 => HMS.out.1.out k (by omega)))
      go_upto_region 43 with fail
      go_cut [213] (fun v wx => ∃ gb : Bool, v = .bool gb ∧ w3 = wx ∧ Hid (gb = true ↔ (mid < E ∧ E < b)))
      case first =>
        as_aux_lemma =>
          by_cases k1 : mid < E
          case pos =>
            by_cases k2 : E < b
            case pos =>
              have HK := hid (⟨k1, k2⟩ : _ ∧ _)
              go_wp2_with fail
              go_meet
              exact ⟨_, rfl, rfl, hid ⟨fun _ => HK.out, fun _ => rfl⟩⟩
            case neg =>
              have HK := hid k2
              go_wp2_with fail
              go_meet
              exact ⟨_, rfl, rfl, hid ⟨(fun h => by cases h), fun h => absurd h.2 HK.out⟩⟩
          case neg =>
            have HK := hid k1
            go_wp2_with fail
            go_meet
            exact ⟨_, rfl, rfl, hid ⟨(fun h => by cases h), fun h => absurd h.1 HK.out⟩⟩
      obtain ⟨gb, rfl, rfl, HGB⟩ := hcut
      cases gb
      case true =>
        as_aux_lemma =>
          obtain ⟨c1, c2⟩ := HGB.out.1 rfl
          have HRC := hid (HREC.out w3 d2 mid E b (by omega) HP2.out HT2.out c1 c2 hb)
          go_wp2_with fail
          refine HRC.out.mono ?_
          rintro e w1 ⟨rfl, d3, hp, hmv, hsd, hf⟩
          have HP3 := hid hp
          have HMG := hid (merged HMS.out.1 HMS.out.2 hmv hsd (by omega) (by omega) HRT.out.2.2.2)
          have HF3 := hid (HF2.out.trans hf (fun x hx => .inl hx))
          clear hp hf hmv hsd
          go_wp2_with fail
          go_end0
          exact ⟨rfl, d3, HP3.out, HRT.out.2.2.1.trans HMG.out.1, HMG.out.2, HF3.out⟩
      case false =>
        as_aux_lemma =>
          have HNO := hid (show ¬ (mid < E ∧ E < b) from fun h => by have := HGB.out.2 h; cases this)
          have HMG := hid (merged HMS.out.1 HMS.out.2 (Mv.refl mid b d2) (HT2.out.idle HNO.out) (by omega) (by omega) HRT.out.2.2.2)
          go_wp2_with fail
          go_end0
          exact ⟨rfl, d2, HP2.out, HRT.out.2.2.1.trans HMG.out.1, HMG.out.2, HF2.out⟩
/-- The whole. -/
theorem merge_to (g n cap : Nat) (hn : n < 1000000) : ∀ s, MergeTo base g n cap s
  | 0 => fun W d a m b h => by omega
  | s + 1 => fun W d a m b h H H2 ham hmb hb => by
    by_cases h1 : m = a + 1
    · exact symmerge_one d g n cap a m b H H2 ham hmb hb hn h1
    · by_cases h2 : b = m + 1
      · exact symmerge_two d g n cap a m b H H2 ham hmb hb hn h1 h2
      · exact symmerge_many d g n cap a m b H H2 ham hmb hb hn h1 h2 (fun W' d' a' m' b' h' => merge_to g n cap hn s W' d' a' m' b' (by omega))
end
end Go.Proofs.Ytppildaahmlfmaa
