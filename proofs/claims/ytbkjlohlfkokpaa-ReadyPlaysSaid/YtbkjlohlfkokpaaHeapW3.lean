/- Package heap: settle (contract): the order that is broken at one place is mended; what the row holds is the same. -/
import Derived.Test.YtbkjlohlfkokpaaHeapW2
set_option linter.unusedVariables false
set_option linter.unusedSimpArgs false
namespace Go.Proofs.Ytbkjlohlfkokpaa
open Go.RowKit Go.Maps

/-- The row has been turned, its things are the same. -/
structure SetR (w wr : World) (base h bm : Nat) (v : Value) (M : Nat) (room turn : Int) (a a' : List It) : Prop where
  perm : a'.Perm a
  raw : HRaw wr base h bm v M room turn a' (atF a')
  fr : Fr (HSet h bm v) w wr
section
variable {w wr wx w' : World} {base h bm M : Nat} {v : Value} {room turn : Int} {a a' : List It}
theorem SetR.later (H : SetR w wr base h bm v M room turn a a') (k : Below wr.heap.size wr wx) : SetR w wx base h bm v M room turn a a' := ⟨H.perm, H.raw.later k, H.fr.andBelow k⟩
theorem SetR.len (H : SetR w wr base h bm v M room turn a a') : a'.length = a.length := H.perm.length_eq
def IdsOk (a : List It) : Prop := ∀ x ∈ a, -9223372036854775808 ≤ x.id ∧ x.id ≤ 9223372036854775807
theorem SetR.swap (H : SetR w wr base h bm v M room turn a a') (hnd : (ids a).Nodup) (hid' : IdsOk a) {i k : Nat} (hi : i < a.length) (hk : k < a.length) (hn : a.length ≤ 256) (hM : M < 1099511627000) :
    Calls Try.prog 76 #[.pointer (some ⟨h, 0, none⟩), .int .i64 i, .int .i64 k] wr fun e w' => e = .returned (.tuple #[]) ∧ SetR w w' base h bm v (M + 2) room turn a (swL a' i k) := by
  have hl := H.len
  refine (heap_swap H.raw (i := i) (k := k) (by omega) (by omega) (by omega) hM (fun x hx => hid' x (H.perm.subset hx))).mono ?_
  rintro e w2 ⟨rfl, h2, hF⟩
  have hnd' := nodup_perm H.perm hnd
  exact ⟨rfl, (swL_perm (by omega) (by omega)).trans H.perm, h2.fun_ (atF_swap hnd' (by omega) (by omega)), H.fr.trans hF (fun x hx => .inl hx)⟩
theorem SetR.less (H : SetR w wr base h bm v M room turn a a') {i k : Nat} (hi : i < a.length) (hk : k < a.length) (hn : a.length ≤ 256) :
    Calls Try.prog 93 #[.pointer (some ⟨h, 0, none⟩), .int .i64 i, .int .i64 k] wr fun e w' => e = .returned (.bool (decide (ltI (gl a' i) (gl a' k)))) ∧ SetR w w' base h bm v M room turn a a' := by
  have hl := H.len
  refine (heap_less H.raw (i := i) (k := k) (by omega) (by omega) (by omega)).mono ?_
  rintro e w2 ⟨rfl, hg⟩
  exact ⟨rfl, H.later hg.below⟩
set_option maxRecDepth 100000 in
set_option maxHeartbeats 3200000 in
theorem heap_settle (H : HRaw w base h bm v M room turn a (atF a)) (hnd : (ids a).Nodup) (hids : IdsOk a) {i : Nat} (hi : i < a.length) (hB : HB (gl a) a.length i) (hn : a.length ≤ 256) (hM : M < 1099511600000) :
    Calls Try.prog 72 #[.pointer (some ⟨h, 0, none⟩), .int .i64 i] w fun e w' =>
      e = .returned (.tuple #[]) ∧ ∃ a', HP (gl a') a.length ∧ SetR w w' base h bm v (M + 1100) room turn a a' := by
  have HS0 : Hid (SetR w w base h bm v M room turn a a) := hid ⟨List.Perm.refl _, H, Fr.refl _ _⟩
  obtain ⟨g, cap, hv, hc1, hc2, hx1, hx2⟩ := H.at_ hi
  clear hx1 hx2
  have HLT := hid (fun (M' : Nat) (a' : List It) (wr : World) (hh : SetR w wr base h bm v M' room turn a a') => (blk_cell hh.raw.hb 2 : wr.cell? ⟨h, 2, none⟩ = some v))
  obtain ⟨n, hnn⟩ : ∃ n, a.length = n := ⟨_, rfl⟩
  have HB0 := hid hB
  have HND := hid hnd
  have HIDS := hid hids
  have HN := hid hnn
  have HV := hid hv
  rw [hnn] at hi hn hc1
  clear H hB hnd hids hv hnn
  go_enter Try.func72, Try.ntmps72
  go_upto_block 0 with fail
  go_cut [1] (fun v1 wx => ∃ (i' M' : Nat) (a' : List It), v1 = .int .i64 i' ∧ i' < n ∧ M' ≤ M + 512 ∧ SetR w wx base h bm v M' room turn a a' ∧ Hid (HD (gl a') n i'))
  case first =>
    as_aux_lemma =>
      go_wp2_with fail
      go_loopw [1] (fun v1 wx => ∃ (i' M' : Nat) (a' : List It), v1 = .int .i64 i' ∧ i' < n ∧ M' + 2 * i' ≤ M + 512 ∧ SetR w wx base h bm v M' room turn a a' ∧ Hid (HB (gl a') n i')) (fun v1 _ => (intOf v1).toNat)
      case atStart => exact ⟨i, M, a, rfl, hi, by omega, HS0.out, by rw [← HN.out]; exact HB0⟩
      case round =>
        obtain ⟨i', M', a', rfl, hi', hM', hS, hHB⟩ := hrel
        have HS := hid hS
        clear hS
        rcases i' with _ | q
        · have hz : decide ((0 : Int) < ((0 : Nat) : Int)) = false := rfl
          go_wp2_with fail
          go_meet
          exact ⟨0, M', a', rfl, hi', by omega, HS.out, hid (hHB.out.done (.inl rfl))⟩
        · obtain ⟨p, hp⟩ : ∃ p, q / 2 = p := ⟨_, rfl⟩
          have hpi : (q : Int) / 2 = (p : Int) := by omega
          have hq0 : decide ((0 : Int) < ((q + 1 : Nat) : Int)) = true := decide_eq_true (by omega)
          have hpn : p < n := by omega
          have hless := HS.out.less (i := q + 1) (k := p) (by rw [HN.out]; omega) (by rw [HN.out]; omega) (by rw [HN.out]; omega)
          obtain ⟨lb, hlb⟩ : ∃ lb, decide (ltI (gl a' (q + 1)) (gl a' p)) = lb := ⟨_, rfl⟩
          rw [hlb] at hless
          have HL := hid hless
          have HLB := hid hlb
          have HP := hid (show (q + 1 - 1) / 2 = p by rw [Nat.add_sub_cancel]; exact hp)
          clear hless hlb hp
          cases lb
          · have HD := hid (hHB.out.done (.inr (show leI (gl a' ((q + 1 - 1) / 2)) (gl a' (q + 1)) from by rw [HP.out]; exact of_decide_eq_false HLB.out)))
            go_wp2_with (go_at_call 93; refine HL.out.mono ?_; rintro e w2 ⟨rfl, hS2⟩; have HS2 := hid hS2; clear hS2)
            go_meet
            exact ⟨q + 1, M', a', by go_num, hi', by omega, HS2.out, HD⟩
          · have hup := hHB.out.up (by omega) hi' (show ltI (gl a' (q + 1)) (gl a' ((q + 1 - 1) / 2)) from by rw [HP.out]; exact of_decide_eq_true HLB.out)
            rw [HP.out, ← gl_swL (by have := HS.out.len; rw [HN.out] at this; omega) (by have := HS.out.len; rw [HN.out] at this; omega)] at hup
            have HUP := hid hup
            clear hup
            have hp2 : 2 * p ≤ q := by omega
            go_wp2_with (go_at_call 93; refine HL.out.mono ?_; rintro e w2 ⟨rfl, hS2⟩; have HS2 := hid hS2; clear hS2)
            refine (HS2.out.swap HND.out HIDS.out (i := q + 1) (k := p) (by rw [HN.out]; omega) (by rw [HN.out]; omega) (by rw [HN.out]; omega) (by omega)).mono ?_
            rintro e w3 ⟨rfl, hS3⟩
            have HS3 := hid hS3
            clear hS3
            go_wp2_with fail
            go_roundw
            case rel => exact ⟨p, M' + 2, _, rfl, hpn, by omega, HS3.out, HUP⟩
            case measure => simp [intOf]; omega
  obtain ⟨i1, M1, a1, rfl, hi1, hM1, hS1, hD1⟩ := hcut
  have HS1 := hid hS1
  clear hS1
  go_wp2_with fail
  go_loopw [1] (fun v1 wx => ∃ (i' M' : Nat) (a' : List It), v1 = .int .i64 i' ∧ i' < n ∧ M' ≤ M + 512 + 2 * i' ∧ SetR w wx base h bm v M' room turn a a' ∧ Hid (HD (gl a') n i')) (fun v1 _ => n - (intOf v1).toNat)
  case atStart => exact ⟨i1, M1, a1, rfl, hi1, by omega, HS1.out, hD1⟩
  case round =>
    clear HS1 hD1 hM1
    obtain ⟨i', M', a', rfl, hi', hM', hS, hHD⟩ := hrel
    have HS := hid hS
    clear hS
    obtain ⟨c1, hc1⟩ : ∃ c1, 2 * i' + 1 = c1 := ⟨_, rfl⟩
    have hc1i : 2 * (i' : Int) + 1 = (c1 : Int) := by omega
    go_upto_region 4 with fail
    obtain ⟨lb, hlb⟩ : ∃ lb, decide (c1 + 1 < n ∧ ltI (gl a' (c1 + 1)) (gl a' c1)) = lb := ⟨_, rfl⟩
    have HLB := hid hlb
    have HC1 := hid hc1
    have cl := HLT.out _ _ _ HS.out
    have HV2 := hid HV.out
    clear hlb hc1
    rw [HV.out, HN.out] at cl
    go_cut [41] (fun v41 wx => v41 = .bool lb ∧ SetR w wx base h bm v M' room turn a a')
    case first =>
      as_aux_lemma =>
        by_cases hcn : c1 + 1 < n
        · have hcn1 : decide ((c1 : Int) + 1 < (n : Int)) = true := decide_eq_true (by omega)
          have hless := HS.out.less (i := c1 + 1) (k := c1) (by rw [HN.out]; omega) (by rw [HN.out]; omega) (by rw [HN.out]; omega)
          have hl2 : decide (ltI (gl a' (c1 + 1)) (gl a' c1)) = lb := by rw [← HLB.out]; simp [hcn]
          rw [hl2] at hless
          have HL := hid hless
          clear hless hl2
          go_wp2_with (go_at_call 93; refine HL.out.mono ?_; rintro e w2 ⟨rfl, hS2⟩; have HS2 := hid hS2; clear hS2)
          go_meet
          exact ⟨rfl, HS2.out⟩
        · have hcn1 : decide ((c1 : Int) + 1 < (n : Int)) = false := decide_eq_false (by omega)
          have hl2 : lb = false := by rw [← HLB.out]; simp [hcn]
          subst hl2
          go_wp2_with fail
          go_meet
          exact ⟨rfl, HS.out⟩
    obtain ⟨rfl, hS2⟩ := hcut
    have HS2 := hid hS2
    clear hS2 HS cl
    go_upto_if 41 with fail
    go_cut [4] (fun v4 wx => ∃ k : Nat, v4 = .int .i64 k ∧ SetR w wx base h bm v M' room turn a a' ∧ (k = c1 ∨ k = c1 + 1) ∧ (n ≤ k → n ≤ c1) ∧ Hid (∀ c, 0 < c → c < n → (c - 1) / 2 = i' → leI (gl a' k) (gl a' c)))
    case first =>
      as_aux_lemma =>
        cases lb
        · go_wp2_with fail
          go_meet
          refine ⟨c1, rfl, HS2.out, .inl rfl, id, hid (fun c hc0 hcn hcp => ?_)⟩
          have h1 := of_decide_eq_false HLB.out
          have h2 := HC1.out
          rcases (show c = c1 ∨ c = c1 + 1 by omega) with rfl | rfl
          · exact leI_refl _
          · exact fun h3 => h1 ⟨hcn, h3⟩
        · have hcn := (of_decide_eq_true HLB.out).1
          go_wp2_with fail
          go_meet
          refine ⟨c1 + 1, by go_num, HS2.out, .inr rfl, fun h => by omega, hid (fun c hc0 hcn hcp => ?_)⟩
          have h1 := of_decide_eq_true HLB.out
          have h2 := HC1.out
          rcases (show c = c1 ∨ c = c1 + 1 by omega) with rfl | rfl
          · exact leI_of_lt h1.2
          · exact leI_refl _
    obtain ⟨k, rfl, hS3, hkc, hkn, hmin⟩ := hcut
    have HS3 := hid hS3
    have cl := HLT.out _ _ _ hS3
    rw [HV.out, HN.out] at cl
    have hki : i' + 1 ≤ k := by have := HC1.out; omega
    have HKP := hid (show (k - 1) / 2 = i' by have := HC1.out; omega)
    obtain ⟨rb, hrb⟩ : ∃ rb, decide (n ≤ k ∨ ¬ ltI (gl a' k) (gl a' i')) = rb := ⟨_, rfl⟩
    have HRB := hid hrb
    clear hrb hS3 HS2 HLB lb hc1i
    go_upto_region 6 with fail
    go_cut [57] (fun v57 wx => v57 = .bool rb ∧ SetR w wx base h bm v M' room turn a a')
    case first =>
      as_aux_lemma =>
        by_cases hk : n ≤ k
        · have hk1 : decide ((n : Int) ≤ (k : Int)) = true := decide_eq_true (by omega)
          have hr2 : rb = true := by rw [← HRB.out]; simp [hk]
          subst hr2
          go_wp2_with fail
          go_meet
          exact ⟨rfl, HS3.out⟩
        · have hk1 : decide ((n : Int) ≤ (k : Int)) = false := decide_eq_false (by omega)
          have hless := HS3.out.less (i := k) (k := i') (by rw [HN.out]; omega) (by rw [HN.out]; omega) (by rw [HN.out]; omega)
          obtain ⟨lb, hlb⟩ : ∃ lb, decide (ltI (gl a' k) (gl a' i')) = lb := ⟨_, rfl⟩
          rw [hlb] at hless
          have HL := hid hless
          have hr2 : rb = !lb := by rw [← HRB.out, ← hlb]; simp [hk]
          subst hr2
          clear hless hlb HRB
          go_wp2_with (go_at_call 93; refine HL.out.mono ?_; rintro e w2 ⟨rfl, hS2⟩; have HS2 := hid hS2; clear hS2)
          go_meet
          exact ⟨rfl, HS2.out⟩
    obtain ⟨rfl, hS4⟩ := hcut
    have HS4 := hid hS4
    clear hS4 HS3 cl
    go_upto_if 57 with fail
    cases rb
    · have hlt := of_decide_eq_false HRB.out
      have hkn2 : k < n := by omega
      have hltk : ltI (gl a' k) (gl a' i') := Classical.byContradiction fun h => hlt (.inr h)
      have hdn := hHD.out.down HKP.out (by omega) hkn2 hmin.out hltk
      have hal : a'.length = n := by rw [HS4.out.len, HN.out]
      rw [← gl_swL (by omega) (by omega)] at hdn
      have HDN := hid hdn
      clear hlt hltk hdn hal hmin HRB
      go_wp2_with fail
      refine (HS4.out.swap HND.out HIDS.out (i := i') (k := k) (by rw [HN.out]; omega) (by rw [HN.out]; omega) (by rw [HN.out]; omega) (by omega)).mono ?_
      rintro e w5 ⟨rfl, hS5⟩
      have HS5 := hid hS5
      clear hS5
      go_wp2_with fail
      go_roundw
      case rel => exact ⟨k, M' + 2, _, rfl, hkn2, by omega, HS5.out, HDN⟩
      case measure => simp [intOf]; omega
    · have hge := of_decide_eq_true HRB.out
      have hp : HP (gl a') n := hHD.out.done (fun c hc0 hcn hcp => by
        have h1 := hmin.out c hc0 hcn hcp
        rcases hge with hge | hge
        · have h2 := hkn hge
          have h3 := HC1.out
          omega
        · exact leI_trans hge h1)
      have HPH := hid hp
      clear hge hp hmin HRB
      go_wp2_with fail
      refine bodyPost_ret (results_none rfl _ _ _) rfl ?_
      exact ⟨rfl, a', by rw [HN.out]; exact HPH.out, HS4.out.perm, HS4.out.raw.more (by omega), HS4.out.fr⟩
end
end Go.Proofs.Ytbkjlohlfkokpaa
