/- Joined: Stab4. -/
import Derived.Test.YtppildaahmlfmaaQ30
set_option linter.unusedVariables false
set_option linter.unusedSimpArgs false
/- slices.symMergeCmpFunc at parts, by deadlines (contract). -/
set_option linter.unusedVariables false
set_option linter.unusedSimpArgs false
namespace Go.Proofs.Ytppildaahmlfmaa
open Go.RowKit Go.Sort

section
variable {α : Type} {O : Order α} {a b m i : Nat} {d d' : Nat → α}
theorem Two2.congr (H : Two2 O d a m b) (h : ∀ k, a ≤ k → k < b → d' k = d k) : Two2 O d' a m b := by
  have h1 := H.am
  have h2 := H.mb
  refine ⟨fun i j p q r => ?_, fun i j p q r => ?_, fun i j p q r t => ?_, h1, h2⟩
  · rw [h i (by omega) (by omega), h j (by omega) (by omega)]; exact H.l i j p q r
  · rw [h i (by omega) (by omega), h j (by omega) (by omega)]; exact H.r i j p q r
  · rw [h i (by omega) (by omega), h j (by omega) (by omega)]; exact H.bef i j p q r t
theorem merge1 (H : Two2 O d a (a + 1) b) (S : Srch (srch1 O d a) (a + 1) b i i) : Mv a b d (rot d a (a + 1) i) ∧ Sd O (rot d a (a + 1) i) a b := by
  have h1 := S.li
  have h2 := S.jh
  refine ⟨(rot_mv (by omega) h1).wide (Nat.le_refl _) h2, ?_⟩
  have f2 : ∀ k, a ≤ k → k < i - 1 → rot d a (a + 1) i k = d (k + 1) := fun k h h' => by rw [rot_mid1 a (a + 1) i k d h (by omega)]; congr 1; omega
  have f3 : rot d a (a + 1) i (i - 1) = d a := by rw [rot_mid2 a (a + 1) i (i - 1) d (by omega) (by omega)]; congr 1; omega
  have f4 : ∀ k, i ≤ k → rot d a (a + 1) i k = d k := fun k h => rot_end a (a + 1) i k d (by omega) h1 h
  have g1 : ∀ c, a + 1 ≤ c → c < i → O.lo (d c) (d a) = true := fun c h h' => by have := S.no c h h'; unfold srch1 at this; simpa using this
  have g2 : ∀ c, i ≤ c → c < b → O.lo (d c) (d a) = false := fun c h h' => by have := S.yes c h h'; unfold srch1 at this; simpa using this
  intro p q hp hpq hq
  by_cases c1 : p < i - 1
  · rw [f2 p hp c1]
    by_cases c2 : q < i - 1
    · rw [f2 q (by omega) c2]; exact H.r _ _ (by omega) (by omega) (by omega)
    · by_cases c3 : q = i - 1
      · rw [c3, f3]; exact .inl (g1 _ (by omega) (by omega))
      · rw [f4 q (by omega)]; exact H.r _ _ (by omega) (by omega) hq
  · by_cases c2 : p = i - 1
    · rw [c2, f3, f4 q (by omega)]
      exact H.le (Nat.le_refl _) (by omega) (by omega) hq (g2 q (by omega) hq)
    · rw [f4 p (by omega), f4 q (by omega)]
      exact H.r _ _ (by omega) hpq hq
theorem merge2 (H : Two2 O d a m (m + 1)) (S : Srch (srch2 O d m) a m i i) : Mv a (m + 1) d (rot d i m (m + 1)) ∧ Sd O (rot d i m (m + 1)) a (m + 1) := by
  have h1 := S.li
  have h2 := S.jh
  refine ⟨(rot_mv h2 (by omega)).wide h1 (Nat.le_refl _), ?_⟩
  have f1 : ∀ k, k < i → rot d i m (m + 1) k = d k := fun k h => rot_first i m (m + 1) k d h
  have f2 : rot d i m (m + 1) i = d m := by rw [rot_mid1 i m (m + 1) i d (Nat.le_refl _) (by omega)]; congr 1; omega
  have f3 : ∀ k, i < k → k < m + 1 → rot d i m (m + 1) k = d (k - 1) := fun k h h' => by rw [rot_mid2 i m (m + 1) k d (by omega) h']; congr 1; omega
  have g1 : ∀ c, a ≤ c → c < i → O.lo (d m) (d c) = false := fun c h h' => S.no c h h'
  have g2 : ∀ c, i ≤ c → c < m → O.lo (d m) (d c) = true := fun c h h' => S.yes c h h'
  intro p q hp hpq hq
  by_cases c1 : p < i
  · rw [f1 p c1]
    by_cases c2 : q < i
    · rw [f1 q c2]; exact H.l _ _ hp hpq (by omega)
    · by_cases c3 : q = i
      · rw [c3, f2]; exact H.le hp (by omega) (Nat.le_refl _) (by omega) (g1 p hp c1)
      · rw [f3 q (by omega) hq]; exact H.l _ _ hp (by omega) (by omega)
  · by_cases c2 : p = i
    · rw [c2, f2, f3 q (by omega) hq]
      exact .inl (g2 _ (by omega) (by omega))
    · rw [f3 p (by omega) (by omega), f3 q (by omega) hq]
      exact H.l _ _ (by omega) (by omega) (by omega)
end
section
variable {w : World} {base : Nat}
/-- What the recursion may lean on. -/
def MergeTo (base g n cap s : Nat) : Prop := ∀ (W : World) (d : Nat → Pt) (a m b : Nat), b - a < s → PR W base g n cap d → Two2 ptO d a m b → a < m → m < b → b ≤ n → Calls Try.prog 65 #[.slice (some ⟨g, 0, none⟩) n cap, .int .i64 a, .int .i64 m, .int .i64 b, .func (.func 32) #[] #[]] W fun e w' => e = .returned (.tuple #[]) ∧ ∃ d', PR w' base g n cap d' ∧ Mv a b d d' ∧ Sd ptO d' a b ∧ Fr (One g) W w'
set_option maxRecDepth 100000 in
set_option maxHeartbeats 12800000 in
theorem symmerge_one (d : Nat → Pt) (g n cap a m b : Nat) (H : PR w base g n cap d) (H2 : Two2 ptO d a m b) (ham : a < m) (hmb : m < b) (hb : b ≤ n) (hn : n < 1000000) (h1 : m = a + 1) :
    Calls Try.prog 65 #[.slice (some ⟨g, 0, none⟩) n cap, .int .i64 a, .int .i64 m, .int .i64 b, .func (.func 32) #[] #[]] w fun e w' => e = .returned (.tuple #[]) ∧ ∃ d', PR w' base g n cap d' ∧ Mv a b d d' ∧ Sd ptO d' a b ∧ Fr (One g) w w' := by
  have HH := hid H
  have HT := hid H2
  have mixed := Try.mixed_
  have hs1 : IntKind.i64.wrap ((m : Int) - (a : Int)) = ((m - a : Nat) : Int) := by rw [IntKind.wrap_i64]; omega
  have hs2 : IntKind.i64.wrap ((b : Int) - (m : Int)) = ((b - m : Nat) : Int) := by rw [IntKind.wrap_i64]; omega
  clear H H2
  subst h1
  have hs3 : IntKind.i64.wrap (((a + 1 : Nat) : Int) - (a : Int)) = 1 := by rw [IntKind.wrap_i64]; omega
  clear hs1 hs2
  obtain ⟨M, hM⟩ : ∃ M, a + 1 = M := ⟨_, rfl⟩
  have HM := hid hM
  have HTM := HT
  rw [hM] at hs3 hmb ham HTM ⊢
  clear hM
  go_enter Try.func65, Try.ntmps65
  go_wp2_with fail
  go_loopw [10, 11] (fun u v wr => ∃ i j : Nat, u = .int .i64 i ∧ v = .int .i64 j ∧ i ≤ j ∧ j ≤ b ∧ M ≤ i ∧ Hid (Srch (srch1 ptO d a) M b i j) ∧ Hid (PR wr base g n cap d) ∧ Hid (Fr (One g) w wr)) (fun u v _ => (intOf v).toNat - (intOf u).toNat)
  case atStart => exact ⟨M, b, by first | rfl | go_num, by first | rfl | go_num, by omega, by omega, by omega, hid (Srch.start _ (by omega)), HH, hid (Fr.refl _ _)⟩
  case round =>
    obtain ⟨i, j, rfl, rfl, hij, hjh, hli, HS, HP, HF⟩ := hrel
    by_cases hlt : i < j
    case pos =>
      obtain ⟨h, hh⟩ : ∃ h, (i + j) / 2 = h := ⟨_, rfl⟩
      have hmid : ((i : Int) + (j : Int)) / 2 = (h : Int) := by omega
      have hh1 : i ≤ h := by omega
      have hh2 : h < j := by omega
      clear hh
      have HG := hid (fun (q : Nat) (os : Array Obj) => HP.out.grown q os)
      have HFG := hid (fun (q : Nat) (os : Array Obj) => HF.out.trans (fr_grown wr q os) (fun _ h => h.elim))
      have hIn : h < n := by omega
      have hJn : a < n := by omega
      have hcg := fun (q : Nat) (os : Array Obj) => cmp_class (grow (wr.drewN q) os) (d h) (d a)
      have hp := fun (q : Nat) (os : Array Obj) => (HP.out.grown q os).cells (i := h) (by omega)
      have hq := fun (q : Nat) (os : Array Obj) => (HP.out.grown q os).cells (i := a) (by omega)
      have p0 := fun q os => (hp q os).1
      have p1 := fun q os => (hp q os).2.1
      have p2 := fun q os => (hp q os).2.2.1
      have p3 := fun q os => (hp q os).2.2.2.1
      have p4 := fun q os => (hp q os).2.2.2.2.1
      have p5 := fun q os => (hp q os).2.2.2.2.2.1
      have p6 := fun q os => (hp q os).2.2.2.2.2.2
      have q0 := fun q os => (hq q os).1
      have q1 := fun q os => (hq q os).2.1
      have q2 := fun q os => (hq q os).2.2.1
      have q3 := fun q os => (hq q os).2.2.2.1
      have q4 := fun q os => (hq q os).2.2.2.2.1
      have q5 := fun q os => (hq q os).2.2.2.2.2.1
      have q6 := fun q os => (hq q os).2.2.2.2.2.2
      clear hp hq
      have HYES := hid (fun (h : cmp3 (d h).p.dl (d a).p.dl < 0) => ptO_true h)
      have HNO := hid (fun (h : ¬ cmp3 (d h).p.dl (d a).p.dl < 0) => ptO_false h)
      obtain ⟨x, hx⟩ : ∃ x, d h = x := ⟨_, rfl⟩
      obtain ⟨y, hy⟩ : ∃ y, d a = y := ⟨_, rfl⟩
      simp only [hx] at hcg p0 p1 p2 p3 p4 p5 p6
      simp only [hy] at hcg q0 q1 q2 q3 q4 q5 q6
      have HX := hid hx
      have HY := hid hy
      clear hx hy
      obtain ⟨⟨xc, xb, xd, xp, xt⟩, xk, xj⟩ := x
      obtain ⟨⟨yc, yb, yd, yp, yt⟩, yk, yj⟩ := y
      unfold encPt at hcg
      simp only at p0 p1 p2 p3 p4 p5 p6 q0 q1 q2 q3 q4 q5 q6 hcg
      have HCE := hid (show cmp3 (d h).p.dl (d a).p.dl = cmp3 xd yd from by rw [HX.out, HY.out])
      obtain ⟨c, hcc⟩ : ∃ c, cmp3 xd yd = c := ⟨_, rfl⟩
      rw [hcc] at hcg HCE
      clear hcc
      by_cases hc : c < 0
      case pos =>
        have HLO := hid (HYES.out (by rw [HCE.out]; exact hc))
        clear HYES HNO HX HY HCE
        go_wp2_with fail
        go_quiet_grown (first | (go_at_call 32; refine Calls.grown_of (hcg _ _)))
        clear p0 p1 p2 p3 p4 p5 p6 q0 q1 q2 q3 q4 q5 q6 hcg
        have HPW := hid (HG.out nq osq)
        have HFZ := hid (HFG.out nq osq)
        clear HG HFG
        generalize grow (wr.drewN nq) osq = W2 at *
        go_wp2_with fail
        have HSN := hid (HS.out.right (by have := HM.out; subst this; exact srch1_mono HT.out) hh1 hh2 (by unfold srch1; rw [HLO.out]; rfl))
        go_roundw
        case rel => exact ⟨h + 1, j, by go_num, rfl, by omega, by omega, by omega, HSN, HPW, HFZ⟩
        case measure => simp [intOf]; omega
      case neg =>
        have HLO := hid (HNO.out (by rw [HCE.out]; exact hc))
        clear HYES HNO HX HY HCE
        have hcn : 0 ≤ c := by omega
        have hcb : decide (c < 0) = false := decide_eq_false hc
        go_wp2_with fail
        go_quiet_grown (first | (go_at_call 32; refine Calls.grown_of (hcg _ _)))
        clear p0 p1 p2 p3 p4 p5 p6 q0 q1 q2 q3 q4 q5 q6 hcg
        have HPW := hid (HG.out nq osq)
        have HFZ := hid (HFG.out nq osq)
        clear HG HFG
        generalize grow (wr.drewN nq) osq = W2 at *
        go_wp2_with fail
        have HSN := hid (HS.out.left (by have := HM.out; subst this; exact srch1_mono HT.out) hh1 hh2 (by unfold srch1; rw [HLO.out]; rfl))
        go_roundw
        case rel => exact ⟨i, h, rfl, by go_num, by omega, by omega, by omega, HSN, HPW, HFZ⟩
        case measure => simp [intOf]; omega
    case neg =>
      obtain rfl : i = j := by omega
      have HMG := hid (show Mv a b d (rot d a (a + 1) i) ∧ Sd ptO (rot d a (a + 1) i) a b from merge1 HT.out (by have := HM.out; subst this; exact HS.out))
      have hi1 : IntKind.i64.wrap ((i : Int) - 1) = ((i - 1 : Nat) : Int) := by rw [IntKind.wrap_i64]; omega
      obtain ⟨E, hE⟩ : ∃ E, i - 1 = E := ⟨_, rfl⟩
      rw [hE] at hi1
      have haE : a ≤ E := by omega
      have hEn : E + 1 ≤ n := by omega
      have HE := hid (show i = E + 1 by omega)
      have HP0 := hid (show PR wr base g n cap (rot d a (a + 1) (a + 1)) by rw [rot_one0]; exact HP.out)
      clear hE HP
      go_wp2_with fail
      go_loopw [13] (fun v wr => ∃ k : Nat, v = .int .i64 k ∧ a ≤ k ∧ k ≤ E ∧ Hid (PR wr base g n cap (rot d a (a + 1) (k + 1))) ∧ Hid (Fr (One g) w wr)) (fun v _ => E - (intOf v).toNat)
      case atStart => exact ⟨a, rfl, Nat.le_refl _, haE, HP0, HF⟩
      case round =>
        obtain ⟨k, rfl, hak, hkE, HPk, HFk⟩ := hrel
        by_cases hke : k < E
        case pos =>
          obtain ⟨K, hK⟩ : ∃ K, k + 1 = K := ⟨_, rfl⟩
          have hKw : IntKind.i64.wrap ((k : Int) + 1) = (K : Int) := by rw [IntKind.wrap_i64]; omega
          have HK := hid hK
          have HPk2 := hid (show PR wr base g n cap (rot d a (a + 1) K) by rw [← hK]; exact HPk.out)
          have hKn : K < n := by omega
          have hkn : k < n := by omega
          have HRO := hid (show swf (rot d a (a + 1) K) k K = rot d a (a + 1) (K + 1) from by rw [← hK]; exact rot_one d a k hak)
          clear hK HPk
          obtain ⟨wz, hwz, hsz, hfz⟩ := HPk2.out.swapped (i := k) (j := K) (hkn) (hKn)
          have HSZ := hid hsz
          have HFZ := hid (hfz _ HFk.out)
          clear hsz hfz
          have HP2 : PR wr.drew base g n cap (rot d a (a + 1) K) := HPk2.out
          obtain ⟨p0, p1, p2, p3, p4, p5, p6⟩ := HP2.cells (i := k) (hkn)
          obtain ⟨q0, q1, q2, q3, q4, q5, q6⟩ := HP2.cells (i := K) (hKn)
          obtain ⟨r0, r1, r2, r3, r4, r5, r6⟩ := HPk2.out.cells (i := k) (hkn)
          obtain ⟨s0, s1, s2, s3, s4, s5, s6⟩ := HPk2.out.cells (i := K) (hKn)
          have hfz1 : ∀ k, wr.drew.frozen? ⟨g, k, none⟩ = false := fun k => own_free HP2 k
          have hfz2 : ∀ k, wr.frozen? ⟨g, k, none⟩ = false := fun k => own_free HPk2.out k
          clear HP2
          generalize (rot d a (a + 1) K) k = x at hwz p0 p1 p2 p3 p4 p5 p6 r0 r1 r2 r3 r4 r5 r6
          generalize (rot d a (a + 1) K) K = y at hwz q0 q1 q2 q3 q4 q5 q6 s0 s1 s2 s3 s4 s5 s6
          obtain ⟨⟨xc, xb, xd, xp, xt⟩, xk, xj⟩ := x
          obtain ⟨⟨yc, yb, yd, yp, yt⟩, yk, yj⟩ := y
          simp only at p0 p1 p2 p3 p4 p5 p6 q0 q1 q2 q3 q4 q5 q6 r0 r1 r2 r3 r4 r5 r6 s0 s1 s2 s3 s4 s5 s6
          unfold stPt at hwz
          simp only at hwz
          have hne : k ≠ K := by have := HK.out; omega
          have HWZ := hid hwz
          clear hwz
          go_wp2_with fail
          go_region
          rw [← HWZ.out]
          clear p0 p1 p2 p3 p4 p5 p6 q0 q1 q2 q3 q4 q5 q6 r0 r1 r2 r3 r4 r5 r6 s0 s1 s2 s3 s4 s5 s6 hfz1 hfz2 HWZ
          go_wp2_with fail
          go_roundw
          case rel => exact ⟨K, by go_num, by have := HK.out; omega, by have := HK.out; omega, hid (by rw [← HRO.out]; exact HSZ.out), HFZ⟩
          case measure => have := HK.out; simp [intOf]; omega
        case neg =>
          obtain rfl : k = E := by omega
          go_wp2_with fail
          refine bodyPost_ret (results_none rfl _ _ _) rfl ?_
          have hm := HMG.out
          rw [HE.out] at hm
          exact ⟨rfl, _, HPk.out, hm.1, hm.2, HFk.out⟩
set_option maxRecDepth 100000 in
set_option maxHeartbeats 12800000 in
theorem symmerge_two (d : Nat → Pt) (g n cap a m b : Nat) (H : PR w base g n cap d) (H2 : Two2 ptO d a m b) (ham : a < m) (hmb : m < b) (hb : b ≤ n) (hn : n < 1000000) (h1 : m ≠ a + 1) (h2 : b = m + 1) :
    Calls Try.prog 65 #[.slice (some ⟨g, 0, none⟩) n cap, .int .i64 a, .int .i64 m, .int .i64 b, .func (.func 32) #[] #[]] w fun e w' => e = .returned (.tuple #[]) ∧ ∃ d', PR w' base g n cap d' ∧ Mv a b d d' ∧ Sd ptO d' a b ∧ Fr (One g) w w' := by
  have HH := hid H
  have HT := hid H2
  have mixed := Try.mixed_
  have hs1 : IntKind.i64.wrap ((m : Int) - (a : Int)) = ((m - a : Nat) : Int) := by rw [IntKind.wrap_i64]; omega
  have hs2 : IntKind.i64.wrap ((b : Int) - (m : Int)) = ((b - m : Nat) : Int) := by rw [IntKind.wrap_i64]; omega
  clear H H2
  subst h2
  have hs3 : IntKind.i64.wrap (((m + 1 : Nat) : Int) - (m : Int)) = 1 := by rw [IntKind.wrap_i64]; omega
  have hd1 : (((m - a : Nat) : Int) == 1) = false := beq_eq_false_iff_ne.2 (by omega)
  obtain ⟨D, hD⟩ : ∃ D, m - a = D := ⟨_, rfl⟩
  rw [hD] at hs1 hd1
  clear hD hs2
  obtain ⟨M, hM⟩ : ∃ M, m + 1 = M := ⟨_, rfl⟩
  have HM := hid hM
  rw [hM] at hs3 hmb hb ⊢
  clear hM h1
  go_enter Try.func65, Try.ntmps65
  go_wp2_with fail
  clear hs1 hd1 hs3
  go_loopw [14, 15] (fun u v wr => ∃ i j : Nat, u = .int .i64 i ∧ v = .int .i64 j ∧ i ≤ j ∧ j ≤ m ∧ a ≤ i ∧ Hid (Srch (srch2 ptO d m) a m i j) ∧ Hid (PR wr base g n cap d) ∧ Hid (Fr (One g) w wr)) (fun u v _ => (intOf v).toNat - (intOf u).toNat)
  case atStart => exact ⟨a, m, by first | rfl | go_num, by first | rfl | go_num, by omega, by omega, by omega, hid (Srch.start _ (by omega)), HH, hid (Fr.refl _ _)⟩
  case round =>
    obtain ⟨i, j, rfl, rfl, hij, hjh, hli, HS, HP, HF⟩ := hrel
    by_cases hlt : i < j
    case pos =>
      obtain ⟨h, hh⟩ : ∃ h, (i + j) / 2 = h := ⟨_, rfl⟩
      have hmid : ((i : Int) + (j : Int)) / 2 = (h : Int) := by omega
      have hh1 : i ≤ h := by omega
      have hh2 : h < j := by omega
      clear hh
      have HG := hid (fun (q : Nat) (os : Array Obj) => HP.out.grown q os)
      have HFG := hid (fun (q : Nat) (os : Array Obj) => HF.out.trans (fr_grown wr q os) (fun _ h => h.elim))
      have hIn : m < n := by omega
      have hJn : h < n := by omega
      have hcg := fun (q : Nat) (os : Array Obj) => cmp_class (grow (wr.drewN q) os) (d m) (d h)
      have hp := fun (q : Nat) (os : Array Obj) => (HP.out.grown q os).cells (i := m) (by omega)
      have hq := fun (q : Nat) (os : Array Obj) => (HP.out.grown q os).cells (i := h) (by omega)
      have p0 := fun q os => (hp q os).1
      have p1 := fun q os => (hp q os).2.1
      have p2 := fun q os => (hp q os).2.2.1
      have p3 := fun q os => (hp q os).2.2.2.1
      have p4 := fun q os => (hp q os).2.2.2.2.1
      have p5 := fun q os => (hp q os).2.2.2.2.2.1
      have p6 := fun q os => (hp q os).2.2.2.2.2.2
      have q0 := fun q os => (hq q os).1
      have q1 := fun q os => (hq q os).2.1
      have q2 := fun q os => (hq q os).2.2.1
      have q3 := fun q os => (hq q os).2.2.2.1
      have q4 := fun q os => (hq q os).2.2.2.2.1
      have q5 := fun q os => (hq q os).2.2.2.2.2.1
      have q6 := fun q os => (hq q os).2.2.2.2.2.2
      clear hp hq
      have HYES := hid (fun (h : cmp3 (d m).p.dl (d h).p.dl < 0) => ptO_true h)
      have HNO := hid (fun (h : ¬ cmp3 (d m).p.dl (d h).p.dl < 0) => ptO_false h)
      obtain ⟨x, hx⟩ : ∃ x, d m = x := ⟨_, rfl⟩
      obtain ⟨y, hy⟩ : ∃ y, d h = y := ⟨_, rfl⟩
      simp only [hx] at hcg p0 p1 p2 p3 p4 p5 p6
      simp only [hy] at hcg q0 q1 q2 q3 q4 q5 q6
      have HX := hid hx
      have HY := hid hy
      clear hx hy
      obtain ⟨⟨xc, xb, xd, xp, xt⟩, xk, xj⟩ := x
      obtain ⟨⟨yc, yb, yd, yp, yt⟩, yk, yj⟩ := y
      unfold encPt at hcg
      simp only at p0 p1 p2 p3 p4 p5 p6 q0 q1 q2 q3 q4 q5 q6 hcg
      have HCE := hid (show cmp3 (d m).p.dl (d h).p.dl = cmp3 xd yd from by rw [HX.out, HY.out])
      obtain ⟨c, hcc⟩ : ∃ c, cmp3 xd yd = c := ⟨_, rfl⟩
      rw [hcc] at hcg HCE
      clear hcc
      by_cases hc : c < 0
      case pos =>
        have HLO := hid (HYES.out (by rw [HCE.out]; exact hc))
        clear HYES HNO HX HY HCE
        go_wp2_with fail
        go_quiet_grown (first | (go_at_call 32; refine Calls.grown_of (hcg _ _)))
        clear p0 p1 p2 p3 p4 p5 p6 q0 q1 q2 q3 q4 q5 q6 hcg
        have HPW := hid (HG.out nq osq)
        have HFZ := hid (HFG.out nq osq)
        clear HG HFG
        generalize grow (wr.drewN nq) osq = W2 at *
        go_wp2_with fail
        have HSN := hid (HS.out.left (srch2_mono HT.out) hh1 hh2 (by exact HLO.out))
        go_roundw
        case rel => exact ⟨i, h, rfl, by go_num, by omega, by omega, by omega, HSN, HPW, HFZ⟩
        case measure => simp [intOf]; omega
      case neg =>
        have HLO := hid (HNO.out (by rw [HCE.out]; exact hc))
        clear HYES HNO HX HY HCE
        have hcn : 0 ≤ c := by omega
        have hcb : decide (c < 0) = false := decide_eq_false hc
        go_wp2_with fail
        go_quiet_grown (first | (go_at_call 32; refine Calls.grown_of (hcg _ _)))
        clear p0 p1 p2 p3 p4 p5 p6 q0 q1 q2 q3 q4 q5 q6 hcg
        have HPW := hid (HG.out nq osq)
        have HFZ := hid (HFG.out nq osq)
        clear HG HFG
        generalize grow (wr.drewN nq) osq = W2 at *
        go_wp2_with fail
        have HSN := hid (HS.out.right (srch2_mono HT.out) hh1 hh2 (by exact HLO.out))
        go_roundw
        case rel => exact ⟨h + 1, j, by go_num, rfl, by omega, by omega, by omega, HSN, HPW, HFZ⟩
        case measure => simp [intOf]; omega
    case neg =>
      obtain rfl : i = j := by omega
      have HMG := hid (merge2 HT.out HS.out)
      have HP0 := hid (show PR wr base g n cap (rot d m m (m + 1)) by rw [rot_two0]; exact HP.out)
      clear HP
      go_wp2_with fail
      go_loopw [17] (fun v wr => ∃ k : Nat, v = .int .i64 k ∧ i ≤ k ∧ k ≤ m ∧ Hid (PR wr base g n cap (rot d k m (m + 1))) ∧ Hid (Fr (One g) w wr)) (fun v _ => (intOf v).toNat - i)
      case atStart => exact ⟨m, rfl, by omega, Nat.le_refl _, HP0, HF⟩
      case round =>
        obtain ⟨k, rfl, hik, hkm, HPk, HFk⟩ := hrel
        by_cases hke : i < k
        case pos =>
          obtain ⟨K, hK⟩ : ∃ K, k - 1 = K := ⟨_, rfl⟩
          have hKw : IntKind.i64.wrap ((k : Int) - 1) = (K : Int) := by rw [IntKind.wrap_i64]; omega
          have HK := hid (show k = K + 1 by omega)
          have hKn : K < n := by omega
          have hkn : k < n := by omega
          have HRO := hid (show swf (rot d k m (m + 1)) k K = rot d K m (m + 1) from by rw [HK.out]; exact rot_two d m K (by omega))
          clear hK
          obtain ⟨wz, hwz, hsz, hfz⟩ := HPk.out.swapped (i := k) (j := K) (hkn) (hKn)
          have HSZ := hid hsz
          have HFZ := hid (hfz _ HFk.out)
          clear hsz hfz
          have HP2 : PR wr.drew base g n cap (rot d k m (m + 1)) := HPk.out
          obtain ⟨p0, p1, p2, p3, p4, p5, p6⟩ := HP2.cells (i := k) (hkn)
          obtain ⟨q0, q1, q2, q3, q4, q5, q6⟩ := HP2.cells (i := K) (hKn)
          obtain ⟨r0, r1, r2, r3, r4, r5, r6⟩ := HPk.out.cells (i := k) (hkn)
          obtain ⟨s0, s1, s2, s3, s4, s5, s6⟩ := HPk.out.cells (i := K) (hKn)
          have hfz1 : ∀ k, wr.drew.frozen? ⟨g, k, none⟩ = false := fun k => own_free HP2 k
          have hfz2 : ∀ k, wr.frozen? ⟨g, k, none⟩ = false := fun k => own_free HPk.out k
          clear HP2
          generalize (rot d k m (m + 1)) k = x at hwz p0 p1 p2 p3 p4 p5 p6 r0 r1 r2 r3 r4 r5 r6
          generalize (rot d k m (m + 1)) K = y at hwz q0 q1 q2 q3 q4 q5 q6 s0 s1 s2 s3 s4 s5 s6
          obtain ⟨⟨xc, xb, xd, xp, xt⟩, xk, xj⟩ := x
          obtain ⟨⟨yc, yb, yd, yp, yt⟩, yk, yj⟩ := y
          simp only at p0 p1 p2 p3 p4 p5 p6 q0 q1 q2 q3 q4 q5 q6 r0 r1 r2 r3 r4 r5 r6 s0 s1 s2 s3 s4 s5 s6
          unfold stPt at hwz
          simp only at hwz
          have hne : k ≠ K := by have := HK.out; omega
          have HWZ := hid hwz
          clear hwz
          go_wp2_with fail
          go_region
          rw [← HWZ.out]
          clear p0 p1 p2 p3 p4 p5 p6 q0 q1 q2 q3 q4 q5 q6 r0 r1 r2 r3 r4 r5 r6 s0 s1 s2 s3 s4 s5 s6 hfz1 hfz2 HWZ
          go_wp2_with fail
          go_roundw
          case rel => exact ⟨K, by go_num, by have := HK.out; omega, by have := HK.out; omega, hid (by rw [← HRO.out]; exact HSZ.out), HFZ⟩
          case measure => have := HK.out; simp [intOf]; omega
        case neg =>
          obtain rfl : k = i := by omega
          go_wp2_with fail
          refine bodyPost_ret (results_none rfl _ _ _) rfl ?_
          exact ⟨rfl, _, HPk.out, by rw [← HM.out]; exact HMG.out.1, by rw [← HM.out]; exact HMG.out.2, HFk.out⟩
end
end Go.Proofs.Ytppildaahmlfmaa
