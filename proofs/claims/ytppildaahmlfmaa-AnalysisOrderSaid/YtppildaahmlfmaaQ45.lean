/- Joined: Dem6. -/
import Derived.Test.YtppildaahmlfmaaQ44
set_option linter.unusedVariables false
set_option linter.unusedSimpArgs false
/- Package demand: Test (contract). -/
set_option linter.unusedVariables false
set_option linter.unusedSimpArgs false
namespace Go.Proofs.Ytppildaahmlfmaa
open Go.RowKit

theorem busyS_range {l : List Wk} {block rel : Int} (hok : ∀ x ∈ l, WkOk x) (hb : 0 ≤ block ∧ block ≤ 1099511627776) (hr : 0 ≤ rel) : ∀ (k : Nat) {n t : Int}, 1 ≤ n ∧ n ≤ 9223372036854775807 → busyS l block rel k n = (t, 0) → 1 ≤ t ∧ t ≤ 9223372036854775807
  | 0, n, t, _, h => by cases h
  | k + 1, n, t, hn, h => by
    have hg := good_sum (F := comeO rel n) (l := l) (fun x hx => good_come (hok x hx) (by omega) hr) (n := block) (by omega)
    unfold busyS comeV at h
    cases e : sumO (comeO rel n) block l with
    | none => rw [e] at h; simp at h
    | some m =>
      rw [e] at h
      simp only at h
      have hm := hg m e
      by_cases hmn : m ≤ n
      · rw [if_pos hmn] at h
        injection h with h _
        omega
      · rw [if_neg hmn] at h
        exact busyS_range hok hb hr k ⟨by omega, hm.2⟩ h
theorem busyV_range {l : List Wk} {block rel t : Int} (hR : demRightB l block rel = true) (h : busyV l block rel = (t, 0)) : 1 ≤ t ∧ t ≤ 9223372036854775807 := by
  obtain ⟨hok, _, hb, hr⟩ := demRight_ok hR
  unfold busyV at h
  rw [if_pos hR] at h
  by_cases hf : fullB l rel = true
  · rw [if_pos hf] at h; cases h
  · rw [if_neg hf] at h
    exact busyS_range hok hb hr.1 _ (by omega) h
theorem busyS_err (l : List Wk) (block rel : Int) : ∀ (k : Nat) (n : Int), (busyS l block rel k n).2 ≠ 0 → (busyS l block rel k n).1 = 0
  | 0, n, h => rfl
  | k + 1, n, h => by
    unfold busyS at h ⊢
    cases e : comeV l block rel n with
    | none => rfl
    | some m =>
      rw [e] at h
      simp only at h ⊢
      by_cases hmn : m ≤ n
      · rw [if_pos hmn] at h; simp at h
      · rw [if_neg hmn] at h ⊢
        exact busyS_err l block rel k m h
theorem leastV_range {l : List Wk} (hok : ∀ x ∈ l, WkOk x) : 1 ≤ leastV l ∧ leastV l ≤ 1099511627777 := by
  induction l with
  | nil => simp [leastV]
  | cons x l ih =>
    have h1 := ih (fun y hy => hok y (by simp [hy]))
    have h2 := (hok x (by simp)).d
    unfold leastV
    split
    · exact h1
    · omega
section
variable {w : World}
set_option maxRecDepth 100000 in
set_option maxHeartbeats 3200000 in
theorem dtest_any (l : List Wk) (A : Option Addr) (n cap : Nat) (block rel : Int) (hl : Rowp 4 wkR w (.slice A n cap) l) :
    Calls Try.prog 45 #[.slice A n cap, .int .i64 block, .int .i64 rel] w fun e w' => e = .returned (.int .i64 (testV l block rel)) ∧ Below w.heap.size w w' := by
  have hn := hl.len
  have hnm : n ≤ 9223372036854775807 := by have := hl.room; unfold maxLen at this; omega
  have HN := hid hn
  have HL := hid hl
  have HR := hid (dright_any (w := w) l A n cap block rel hl)
  have HBY := hid (fun W (h : Below w.heap.size w W) hR => busy_any (w := W) l A n cap block rel (hl.later wkR.stays h) hR)
  have HAK := hid (fun W (h : Below w.heap.size w W) t hR ht => ask_any (w := W) l A n cap block rel t (hl.later wkR.stays h) hR ht)
  clear hl hn
  cases hR : demRightB l block rel
  case false =>
    rw [hR] at HR
    have HV := hid (show testV l block rel = 1 by unfold testV; rw [if_neg (by rw [hR]; simp)])
    clear hR
    go_enter Try.func45, Try.ntmps45
    go_wp2_with fail
    go_step3
    go_wp2_with fail
    refine HR.out.mono ?_
    rintro e w1 ⟨rfl, hb1⟩
    have HB1 := hid hb1
    clear hb1
    go_wp2_with fail
    try rw [Exit.noGoto_ret]
    go_ret
    exact ⟨by rw [HV.out]; rfl, HB1.out⟩
  case true =>
    obtain ⟨hok, hlen, hbl, hrl⟩ := demRight_ok hR
    rw [hR] at HR
    have HRT := hid hR
    have HOK := hid hok
    have HV := hid (show testV l block rel = if 1099511627776 < leastV l then 0 else if (busyV l block rel).2 ≠ 0 then (busyV l block rel).2 else testS l block rel (leastV l) 5000 (busyV l block rel).1 by unfold testV; rw [if_pos hR])
    have HLR := hid (leastV_range hok)
    have HGA := hid (fun t (ht : 1 ≤ t) => good_sum (F := askO rel t) (l := l) (fun x hx => good_ask (hok x hx) ht hrl.1) (n := block) (by omega))
    obtain ⟨V, hV⟩ : ∃ V, testV l block rel = V := ⟨_, rfl⟩
    rw [hV] at HV ⊢
    clear hR hok hV
    go_enter Try.func45, Try.ntmps45
    go_wp2_with fail
    go_step3
    go_wp2_with fail
    refine HR.out.mono ?_
    rintro e w1 ⟨rfl, hb1⟩
    have HB1 := hid hb1
    clear hb1 HR
    go_wp2_with fail
    go_loopw [21, 7] (fun v u wr => ∃ (k : Nat) (cur : Int), k ≤ n ∧ v = .int .i64 k ∧ u = .int .i64 cur ∧ Hid (1 ≤ cur ∧ cur ≤ 1099511627777) ∧ Hid (leastV l = min cur (leastV (l.drop k))) ∧ Hid (Below w.heap.size w wr)) (fun v _ _ => n - (intOf v).toNat)
    case atStart => exact ⟨0, _, by omega, rfl, rfl, hid (by omega), hid (by rw [List.drop_zero]; have := HLR.out; omega), HB1⟩
    case round =>
      obtain ⟨k, cur, hk, rfl, rfl, HCU, HLE, HB⟩ := hrel
      by_cases hlt : k < n
      case pos =>
        obtain ⟨x, hx⟩ : ∃ x, l[k]? = some x := ⟨_, List.getElem?_eq_getElem (by have := HN.out; omega)⟩
        obtain ⟨b, o, cs, hA, hbl, _, hc, hr⟩ := HL.out.at hx
        subst hA
        have hr' : cs = [.int .i64 x.work, .int .i64 x.per, .int .i64 x.dl, .bool x.top] := hr
        subst hr'
        have HXO := hid (HOK.out x (List.mem_of_getElem? hx)).d
        have HLE2 := hid (show leastV l = min cur (if x.top = true then leastV (l.drop (k + 1)) else min x.dl (leastV (l.drop (k + 1)))) by rw [HLE.out, drop_at hx]; rfl)
        obtain ⟨xa, xb, xc, xd⟩ := x
        simp only at hc HXO HLE2
        have e0 : wr.cell? ⟨b, o + k * 4, none⟩ = some (.int .i64 xa) := (HB.out.cell (p := ⟨b, o + k * 4, none⟩) hbl).trans (by simpa using hc 0 _ rfl)
        have e1 : wr.cell? ⟨b, o + k * 4 + 1, none⟩ = some (.int .i64 xb) := (HB.out.cell (p := ⟨b, o + k * 4 + 1, none⟩) hbl).trans (hc 1 _ rfl)
        have e2 : wr.cell? ⟨b, o + k * 4 + 2, none⟩ = some (.int .i64 xc) := (HB.out.cell (p := ⟨b, o + k * 4 + 2, none⟩) hbl).trans (hc 2 _ rfl)
        have e3 : wr.cell? ⟨b, o + k * 4 + 3, none⟩ = some (.bool xd) := (HB.out.cell (p := ⟨b, o + k * 4 + 3, none⟩) hbl).trans (hc 3 _ rfl)
        clear hx hbl hc hr
        have HB7 := hid (below_new HB.out (.cells #[.int .i64 xa, .int .i64 xb, .int .i64 xc, .bool xd] 96))
        cases xd
        case true =>
          have HLE3 := hid (show leastV l = min cur (leastV (l.drop (k + 1))) by rw [HLE2.out, if_pos rfl])
          go_wp2_with fail
          go_roundw
          case rel => exact ⟨k + 1, cur, by omega, by go_num, rfl, HCU, HLE3, HB7⟩
          case measure => simp [intOf]; omega
        case false =>
          have HLE3 := hid (show leastV l = min (min cur xc) (leastV (l.drop (k + 1))) by rw [HLE2.out, if_neg (by simp)]; omega)
          have hm1 : (if xc < cur then xc else cur) = min cur xc := by split <;> omega
          have hm2 : (if cur < xc then cur else xc) = min cur xc := by split <;> omega
          have hm3 : (if xc ≤ cur then xc else cur) = min cur xc := by split <;> omega
          have hm4 : (if cur ≤ xc then cur else xc) = min cur xc := by split <;> omega
          have HCU2 := hid (show 1 ≤ min cur xc ∧ min cur xc ≤ 1099511627777 by have := HCU.out; have := HXO.out; omega)
          obtain ⟨mn, hmn⟩ : ∃ m, min cur xc = m := ⟨_, rfl⟩
          rw [hmn] at HLE3 HCU2 hm1 hm2 hm3 hm4
          clear hmn
          go_wp2_with fail
          go_roundw
          case rel => exact ⟨k + 1, mn, by omega, by go_num, rfl, HCU2, HLE3, HB7⟩
          case measure => simp [intOf]; omega
      case neg =>
        obtain rfl : k = n := by omega
        have hle : leastV l = cur := by
          have h1 := HLE.out
          rw [HN.out, List.drop_length] at h1
          have h2 := HCU.out
          rw [h1]
          show min cur (1099511627776 + 1) = cur
          omega
        rw [hle] at HV
        by_cases hbig : 1099511627776 < cur
        case pos =>
          have HV2 := hid (show V = 0 by rw [HV.out, if_pos hbig])
          have d0 : decide (1099511627776 < cur) = true := decide_eq_true hbig
          clear hle
          go_wp2_with fail
          try rw [Exit.noGoto_ret]
          go_ret
          exact ⟨by rw [HV2.out]; rfl, HB.out⟩
        case neg =>
          have HV2 := hid (show V = if (busyV l block rel).2 ≠ 0 then (busyV l block rel).2 else testS l block rel cur 5000 (busyV l block rel).1 by rw [HV.out, if_neg hbig])
          have d0 : decide (1099511627776 < cur) = false := decide_eq_false hbig
          have HBZ := hid (HBY.out wr HB.out HRT.out)
          have HBR := hid (fun t => busyV_range (l := l) (block := block) (rel := rel) (t := t) HRT.out)
          obtain ⟨bt, be, hby⟩ : ∃ t e, busyV l block rel = (t, e) := ⟨_, _, rfl⟩
          rw [hby] at HBZ HV2 HBR
          unfold numE at HBZ
          simp only at HBZ HV2 HBR
          clear hle hby
          go_wp2_with fail
          refine HBZ.out.mono ?_
          rintro e w2 ⟨rfl, hb2⟩
          have HB2 := hid (below_then HB.out hb2)
          clear hb2 HBZ
          by_cases hbe : be = 0
          case neg =>
            have HV3 := hid (show V = be by rw [HV2.out, if_pos hbe])
            go_wp2_with fail
            try rw [Exit.noGoto_ret]
            go_ret
            exact ⟨by rw [HV3.out]; rfl, HB2.out⟩
          case pos =>
            subst hbe
            have HV3 := hid (show V = testS l block rel cur 5000 bt by rw [HV2.out, if_neg (by simp)])
            have HBT := hid (show 0 ≤ bt ∧ bt ≤ 9223372036854775807 by have := HBR.out bt rfl; omega)
            clear HV2 HBR
            go_wp2_with fail
            go_step3
            go_wp2_with fail
            go_loopw [45, 10] (fun v u wr => ∃ (k : Nat) (t : Int), k ≤ 5000 ∧ v = .int .i64 ((5000 - k : Nat) : Int) ∧ u = .int .i64 t ∧ Hid (0 ≤ t ∧ t ≤ 9223372036854775807) ∧ Hid (V = testS l block rel cur k t) ∧ Hid (Below w.heap.size w wr)) (fun v _ _ => 5000 - (intOf v).toNat)
            case atStart => exact ⟨5000, bt, Nat.le_refl _, rfl, rfl, HBT, HV3, HB2⟩
            case round =>
              obtain ⟨q0, t, hq0, rfl, rfl, HT, HVK, HBr⟩ := hrel
              cases q0 with
              | zero =>
                go_wp2_with fail
                try rw [Exit.noGoto_ret]
                go_ret
                exact ⟨by rw [HVK.out]; rfl, HBr.out⟩
              | succ q0 =>
                have hkk : ((5000 - (q0 + 1) : Nat) : Int) < 5000 := by omega
                have hki : ((5000 - (q0 + 1) : Nat) : Int) + 1 = ((5000 - q0 : Nat) : Int) := by omega
                obtain ⟨q, hq⟩ : ∃ q, 5000 - (q0 + 1) = q := ⟨_, rfl⟩
                rw [hq] at hkk hki ⊢
                have HVS := hid (show V = if t < cur then 0 else (match askV l block rel t with | none => 2 | some a => if t < a then 12 else if a = t then testS l block rel cur q0 (t - 1) else testS l block rel cur q0 a) from HVK.out)
                by_cases htc : t < cur
                case pos =>
                  have HV4 := hid (show V = 0 by rw [HVS.out, if_pos htc])
                  have d1 : decide (t < cur) = true := decide_eq_true htc
                  go_wp2_with fail
                  try rw [Exit.noGoto_ret]
                  go_ret
                  exact ⟨by rw [HV4.out]; rfl, HBr.out⟩
                case neg =>
                  have d1 : decide (t < cur) = false := decide_eq_false htc
                  have ht1 : 1 ≤ t ∧ t ≤ 9223372036854775807 := by have := HT.out; have := HCU.out; omega
                  have HAS := hid (HAK.out wr HBr.out t HRT.out ht1)
                  have HGM := hid (HGA.out t ht1.1)
                  have HVS2 := hid (show V = (match askV l block rel t with | none => 2 | some a => if t < a then 12 else if a = t then testS l block rel cur q0 (t - 1) else testS l block rel cur q0 a) by rw [HVS.out, if_neg htc])
                  rw [show sumO (askO rel t) block l = askV l block rel t from rfl] at HGM
                  obtain ⟨sa, hsa⟩ : ∃ s, askV l block rel t = s := ⟨_, rfl⟩
                  rw [hsa] at HAS HGM HVS2
                  have HT1 := hid ht1
                  clear hsa htc ht1 HVS
                  go_wp2_with fail
                  refine HAS.out.mono ?_
                  rintro e w4 ⟨rfl, hb4⟩
                  have HB4 := hid (below_then HBr.out hb4)
                  clear hb4 HAS
                  cases sa with
                  | none =>
                    have HV4 := hid (show V = 2 from HVS2.out)
                    unfold okV
                    go_wp2_with fail
                    try rw [Exit.noGoto_ret]
                    go_ret
                    exact ⟨by rw [HV4.out]; rfl, HB4.out⟩
                  | some a =>
                    have ha := HGM.out a rfl
                    have HV4 := hid (show V = if t < a then 12 else if a = t then testS l block rel cur q0 (t - 1) else testS l block rel cur q0 a from HVS2.out)
                    unfold okV
                    by_cases hta : t < a
                    case pos =>
                      have HV5 := hid (show V = 12 by rw [HV4.out, if_pos hta])
                      have d2 : decide (t < a) = true := decide_eq_true hta
                      go_wp2_with fail
                      try rw [Exit.noGoto_ret]
                      go_ret
                      exact ⟨by rw [HV5.out]; rfl, HB4.out⟩
                    case neg =>
                      have d2 : decide (t < a) = false := decide_eq_false hta
                      by_cases hat : a = t
                      case pos =>
                        have HV5 := hid (show V = testS l block rel cur q0 (t - 1) by rw [HV4.out, if_neg hta, if_pos hat])
                        have hab : (a == t) = true := beq_iff_eq.2 hat
                        have ht2 : -9223372036854775808 ≤ t - 1 ∧ t - 1 ≤ 9223372036854775807 := by have := HT1.out; omega
                        have HT2 := hid (show 0 ≤ t - 1 ∧ t - 1 ≤ 9223372036854775807 by have := HT1.out; omega)
                        clear hat
                        go_wp2_with fail
                        go_roundw
                        case rel => exact ⟨q0, t - 1, by omega, (by first | rfl | exact int_eq hki), rfl, HT2, HV5, HB4⟩
                        case measure => simp [intOf]; omega
                      case neg =>
                        have HV5 := hid (show V = testS l block rel cur q0 a by rw [HV4.out, if_neg hta, if_neg hat])
                        have hab : (a == t) = false := beq_eq_false_iff_ne.2 hat
                        go_wp2_with fail
                        go_roundw
                        case rel => exact ⟨q0, a, by omega, (by first | rfl | exact int_eq hki), rfl, hid ha, HV5, HB4⟩
                        case measure => simp [intOf]; omega
end
end Go.Proofs.Ytppildaahmlfmaa
