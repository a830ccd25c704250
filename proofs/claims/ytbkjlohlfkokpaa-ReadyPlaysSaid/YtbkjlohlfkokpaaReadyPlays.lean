/- ReadyPlays: a queue does, deed by deed, just what the document's queue does, of either policy: the walk. Whatever policy, whatever deeds. -/
import Derived.Test.YtbkjlohlfkokpaaReadyBoth
set_option linter.unusedVariables false
set_option linter.unusedSimpArgs false
namespace Go.Proofs.Ytbkjlohlfkokpaa
open Go.RowKit Go.Maps

theorem heads_same {L : List (Int × Int)} {ts : List Int} (h : ts = fsts L) : ts.headD (-1) = if L.isEmpty then -1 else (headP L).1 := by
  subst h
  cases L with
  | nil => rfl
  | cons p L => rfl
attribute [local irreducible] pushP insP offP fsts headP upF upL upE pickN
set_option maxRecDepth 1000000 in
set_option maxHeartbeats 3200000 in
theorem readyplays_no {w : World} (c : Int) (A : Option Addr) (len cap : Nat) (h0 : c ≠ 1 ∧ c ≠ 2) :
    Calls Try.prog 15 #[.int .i64 c, .slice A len cap] w fun e w' => e = .returned (.bool true) ∧ Below w.heap.size w w' := by
  go_enter Try.func15, Try.ntmps15
  go_wp2_with fail
  refine readyex_any.mono ?_
  rintro e w1 ⟨rfl, hb1⟩
  go_wp2_with fail
  refine (q_new_no c h0).mono ?_
  rintro e w2 ⟨rfl, rfl⟩
  go_wp2_with fail
  refine (r12_new_no c h0).mono ?_
  rintro e w3 ⟨rfl, rfl⟩
  go_wp2_with fail
  go_ret
  exact ⟨rfl, hb1⟩
set_option maxRecDepth 1000000 in
set_option maxHeartbeats 6400000 in
theorem readyplays_yes {w : World} (c : Int) (A : Option Addr) (len cap : Nat) (h0 : c = 1 ∨ c = 2) (hlen : len ≤ 9223372036854775807) (Z : Nat → Nat → Int) (hz : IntRows w A len 3 Z) :
    Calls Try.prog 15 #[.int .i64 c, .slice A len cap] w fun e w' => e = .returned (.bool true) ∧ Below w.heap.size w w' := by
  have HZ := hid hz
  clear hz
  go_enter Try.func15, Try.ntmps15
  go_wp2_with fail
  refine readyex_any.mono ?_
  rintro e w1 ⟨rfl, hb1⟩
  go_wp2_with fail
  refine (q_new c h0).mono ?_
  rintro e w2 ⟨q, Q0, rfl, hI2, hb2⟩
  go_wp2_with fail
  refine (r12_new_yes c h0).mono ?_
  rintro e w3 ⟨rfl, hR3, hb3⟩
  obtain ⟨x, hx⟩ : ∃ x, x = w2.heap.size := ⟨_, rfl⟩
  have hb3' : Below w2.heap.size w2 w3 := hb3
  have hsz := hb1.size
  have HA : Hid (QR w w3 q Q0 0 x (.slice none 0 0) c (fun _ => none) [] []) := hid ⟨below_then (below_then hb1 hb2) hb3', (hI2.later hb3').weak hsz, by
      have h := hR3
      rw [← hx] at h
      exact ⟨h.hx, own_mono h.row (by have := hb2.size; omega), by have := hb2.size; omega⟩, (fun k hk e => by
      have h1 := (hI2.lt k hk).2
      rcases e with e | e
      · omega
      · cases e), same_nil⟩
  rw [← hx]
  clear hI2 hR3 hb1 hb2 hb3 hb3' hsz hx h0
  go_wp2_with fail
  go_loopw [9] (fun i wr => ∃ (k T : Nat) (f : Int → Option Rk) (L : List (Int × Int)) (M : List Od) (Q : Nat → Prop) (v : Value), k ≤ len ∧ k ≤ 200 ∧ i = .int .i64 k ∧ T ≤ k ∧ QR w wr q Q T x v c f L M) (fun i _ => 200 - (intOf i).toNat)
  case atStart => exact ⟨0, 0, _, [], [], Q0, _, by omega, by omega, rfl, by omega, HA.out⟩
  case round =>
    obtain ⟨k, T, f, L, M, Q, v, hk1, hk2, rfl, hT, hI⟩ := hrel
    by_cases h1 : k < len
    · by_cases h2 : k < 200
      · obtain ⟨ab, ao, rfl, hbl, hcs⟩ := HZ.out k h1
        obtain ⟨hc0, hd01, hd02⟩ := hcs 0 (by omega)
        obtain ⟨hc1, hd11, hd12⟩ := hcs 1 (by omega)
        obtain ⟨hc2, hd21, hd22⟩ := hcs 2 (by omega)
        have c0 : wr.cell? ⟨ab, ao + k * 3, none⟩ = some (.int .i64 (Z k 0)) := (hI.below.cell hbl).trans hc0
        have c1 : wr.cell? ⟨ab, ao + k * 3 + 1, none⟩ = some (.int .i64 (Z k 1)) := (hI.below.cell hbl).trans hc1
        have c2 : wr.cell? ⟨ab, ao + k * 3 + 2, none⟩ = some (.int .i64 (Z k 2)) := (hI.below.cell hbl).trans hc2
        clear hc0 hc1 hc2 hcs
        generalize Z k 0 = d0 at *
        generalize Z k 1 = d1 at *
        generalize Z k 2 = d2 at *
        have hK := pickN_bd d0 4 (by omega)
        have hKp := fun W => readypick_any (w := W) d0 4 hd01 hd02 (by omega) (by omega)
        generalize pickN d0 4 = K at *
        have HK := hid hKp
        clear hKp
        obtain ⟨hI1, hD1⟩ := hI.beside (.cells #[.int .i64 d0, .int .i64 d1, .int .i64 d2] 76)
        have HI := hid hI1
        have HD := hid hD1
        have HOK := hid hI.ok
        clear hI hI1 hD1
        go_upto_block 2 with (go_at_call 50; refine (HK.out _).mono ?_; rintro e w' ⟨rfl, rfl⟩)
        generalize hw1 : wr.alloc (.cells #[.int .i64 d0, .int .i64 d1, .int .i64 d2] 76) = w1
        rw [hw1] at HI HD
        obtain ⟨D, hDe⟩ : ∃ D, wr.heap.size = D := ⟨_, rfl⟩
        rw [hDe] at HD ⊢
        clear hw1 hDe c0 c1 c2
        go_cut [11, 12] (fun a b wx => ∃ r T' f' L' M' Q' v', a = .int .i64 r ∧ b = .int .i64 r ∧ T' ≤ k + 1 ∧ QR w wx q Q' T' x v' c f' L' M' ∧ BsdQ wx D (.cells #[.int .i64 d0, .int .i64 d1, .int .i64 d2] 76 (0, 0)) Q' x v')
        case first =>
          as_aux_lemma =>
            have F1 := hid (fun (W : World) (h : W.heap[D]? = some (.cells #[.int .i64 d0, .int .i64 d1, .int .i64 d2] 76 (0, 0))) => (blk_cell h 1 : W.cell? ⟨D, 1, none⟩ = some (.int .i64 d1)))
            have F2 := hid (fun (W : World) (h : W.heap[D]? = some (.cells #[.int .i64 d0, .int .i64 d1, .int .i64 d2] 76 (0, 0))) => (blk_cell h 2 : W.cell? ⟨D, 2, none⟩ = some (.int .i64 d2)))
            rcases (show K = 0 ∨ K = 1 ∨ K = 2 ∨ K = 3 by omega) with rfl | rfl | rfl | rfl
            · obtain ⟨r, f', L', M', hB⟩ := both_add (policy := c) (t := d1) (l := d2) HOK.out hd22
              have HB := hid hB
              have f11 := F1.out _ HD.out.blk
              have f12 := F2.out _ HD.out.blk
              clear hB HOK
              go_wp2_with fail
              refine (HI.out.callA HD.out HB.out (by omega)).mono ?_
              rintro e w4 ⟨rfl, Q4, hI4, hD4⟩
              have HI4 := hid hI4
              have HD4 := hid hD4
              clear hI4 hD4 f11 f12
              have f11 := F1.out _ HD4.out.blk
              have f12 := F2.out _ HD4.out.blk
              go_wp2_with fail
              refine (HI4.out.callB HD4.out HB.out).mono ?_
              rintro e w5 ⟨rfl, v5, hI5, hD5⟩
              have HI5 := hid hI5
              have HD5 := hid hD5
              clear hI5 hD5 f11 f12
              go_wp2_with fail
              go_meet
              exact ⟨r, T + 1, f', L', M', Q4, v5, rfl, rfl, by omega, HI5.out, HD5.out⟩
            · obtain ⟨r, f', L', M', hB⟩ := both_raise (policy := c) (t := d1) (l := d2) HOK.out hd22
              have HB := hid hB
              have f11 := F1.out _ HD.out.blk
              have f12 := F2.out _ HD.out.blk
              clear hB HOK
              go_wp2_with fail
              refine (HI.out.callA HD.out HB.out (by omega)).mono ?_
              rintro e w4 ⟨rfl, Q4, hI4, hD4⟩
              have HI4 := hid hI4
              have HD4 := hid hD4
              clear hI4 hD4 f11 f12
              have f11 := F1.out _ HD4.out.blk
              have f12 := F2.out _ HD4.out.blk
              go_wp2_with fail
              refine (HI4.out.callB HD4.out HB.out).mono ?_
              rintro e w5 ⟨rfl, v5, hI5, hD5⟩
              have HI5 := hid hI5
              have HD5 := hid hD5
              clear hI5 hD5 f11 f12
              go_wp2_with fail
              go_meet
              exact ⟨r, T + 1, f', L', M', Q4, v5, rfl, rfl, by omega, HI5.out, HD5.out⟩
            · obtain ⟨r, f', L', M', hB⟩ := both_fall (policy := c) (t := d1) HOK.out ⟨hd11, hd12⟩
              have HB := hid hB
              have f11 := F1.out _ HD.out.blk
              clear hB HOK
              go_wp2_with fail
              refine (HI.out.callA HD.out HB.out (by omega)).mono ?_
              rintro e w4 ⟨rfl, Q4, hI4, hD4⟩
              have HI4 := hid hI4
              have HD4 := hid hD4
              clear hI4 hD4 f11
              have f11 := F1.out _ HD4.out.blk
              go_wp2_with fail
              refine (HI4.out.callB HD4.out HB.out).mono ?_
              rintro e w5 ⟨rfl, v5, hI5, hD5⟩
              have HI5 := hid hI5
              have HD5 := hid hD5
              clear hI5 hD5 f11
              go_wp2_with fail
              go_meet
              exact ⟨r, T + 1, f', L', M', Q4, v5, rfl, rfl, by omega, HI5.out, HD5.out⟩
            · obtain ⟨r, f', L', M', hB⟩ := both_remove (policy := c) (t := d1) HOK.out ⟨hd11, hd12⟩
              have HB := hid hB
              have f11 := F1.out _ HD.out.blk
              clear hB HOK
              go_wp2_with fail
              refine (HI.out.callA HD.out HB.out (by omega)).mono ?_
              rintro e w4 ⟨rfl, Q4, hI4, hD4⟩
              have HI4 := hid hI4
              have HD4 := hid hD4
              clear hI4 hD4 f11
              have f11 := F1.out _ HD4.out.blk
              go_wp2_with fail
              refine (HI4.out.callB HD4.out HB.out).mono ?_
              rintro e w5 ⟨rfl, v5, hI5, hD5⟩
              have HI5 := hid hI5
              have HD5 := hid hD5
              clear hI5 hD5 f11
              go_wp2_with fail
              go_meet
              exact ⟨r, T + 1, f', L', M', Q4, v5, rfl, rfl, by omega, HI5.out, HD5.out⟩
        obtain ⟨r, T4, f4, L4, M4, Q4, v4, rfl, rfl, hT4, hI4, hD4⟩ := hcut
        have HOK4 := hid hI4.ok
        have hM4 := hI4.ok.mlen
        obtain ⟨ln, lb, hla, hlb⟩ := both_level (policy := c) hI4.ok (t := d1) ⟨hd11, hd12⟩
        have HLA := hid hla
        have HLB := hid hlb
        have HI4 := hid hI4
        have HD4 := hid hD4
        have e11 : wc.cell? ⟨D, 1, none⟩ = some (.int .i64 d1) := blk_cell HD4.out.blk 1
        clear hI4 hD4 HI HD HOK hla hlb
        go_wp2_with fail
        refine (HLA.out _ _ _ _ _ HI4.out.q).mono ?_
        rintro e w5 ⟨rfl, hb5⟩
        have HI5 := hid (HI4.out.later hb5)
        have HD5 := hid (HD4.out.later hb5)
        clear hb5 HI4 HD4 e11
        have e11 : w5.cell? ⟨D, 1, none⟩ = some (.int .i64 d1) := blk_cell HD5.out.blk 1
        go_wp2_with fail
        refine (HLB.out _ _ _ _ HI5.out.ref).mono ?_
        rintro e w6 ⟨rfl, hb6⟩
        have HI6 := hid (HI5.out.later hb6)
        clear hb6 HI5 HD5 e11 HLA HLB
        go_wp2_with fail
        refine (q_all HI6.out.q).mono ?_
        rintro e w7 ⟨u, rfl, hu, hb7⟩
        have HI7 := hid (HI6.out.later hb7)
        obtain ⟨m, hm⟩ : ∃ m, L4.length = m := ⟨_, rfl⟩
        have hlf : (fsts L4).length = m := by rw [← hm]; unfold fsts; rw [List.length_map]
        have hlm : m ≤ 24 := by have := HOK4.out.len; omega
        rw [hm] at hu
        obtain ⟨Au, cu, rfl⟩ := own_slice hu
        have HU := hid hu
        have HLF := hid hlf
        clear hu hb7 HI6 hlf hm
        go_wp2_with fail
        refine (r12_all HI7.out.ref HOK4.out.mok (by omega)).mono ?_
        rintro e w8 ⟨u2, ts, rfl, hsel, hu2, hb8⟩
        have hts := same_sel HOK4.out.same HOK4.out.inv HOK4.out.nd HOK4.out.so hsel
        rw [hts, HLF.out] at hu2
        obtain ⟨A2, c2, rfl⟩ := own_slice hu2
        have HI8 := hid (HI7.out.later hb8)
        have HU8 := hid (own_kept HU.out (fr0 hb8) (fun _ _ h => h))
        have HN8 := hid (own_holds hu2)
        clear hu2 hb8 HI7 HU hsel hts
        go_wp2_with fail
        refine (readynumbers_same Au A2 m cu c2 (fsts L4) HLF.out.symm (own_holds HU8.out) HN8.out (by omega)).mono ?_
        rintro e w9 ⟨rfl, q9, hq⟩
        have HI9 : Hid (QR w w9 q Q4 T4 x v4 c f4 L4 M4) := by rw [hq]; exact hid (HI8.out.later (below_drewN' (Below.refl _ _) q9))
        clear hq HI8 HU8 HN8
        have hn1 : (r != r) = false := by simp
        have hn2 : (ln != ln) = false := by simp
        have hn3 : (lb != lb) = false := by simp
        go_wp2_with fail
        refine (q_first HI9.out.q).mono ?_
        rintro e wa ⟨rfl, qa, hq⟩
        have HIa : Hid (QR w wa q Q4 T4 x v4 c f4 L4 M4) := by rw [hq]; exact hid (HI9.out.later (below_drewN' (Below.refl _ _) qa))
        clear hq HI9
        obtain ⟨p1, hp1⟩ : ∃ p1, (if L4.isEmpty then -1 else (headP L4).1) = p1 := ⟨_, rfl⟩
        rw [hp1]
        have HP1 := hid hp1
        clear hp1
        go_wp2_with fail
        refine (r12_first HIa.out.ref HOK4.out.mok (by omega)).mono ?_
        rintro e wb ⟨ts, hsel, rfl, hbb⟩
        have hts := heads_same (same_sel HOK4.out.same HOK4.out.inv HOK4.out.nd HOK4.out.so hsel)
        rw [HP1.out] at hts
        rw [hts]
        have HIb := hid (HIa.out.later hbb)
        have hn4 : (p1 != p1) = false := by simp
        clear hbb HIa hsel hts
        go_wp2_with fail
        go_roundw
        case rel => exact ⟨k + 1, T4, f4, L4, M4, Q4, _, by omega, by omega, by go_num, by omega, HIb.out⟩
        case measure => simp [intOf]; omega
      · have HI := hid hI
        clear hI
        go_wp2_with fail
        go_ret
        exact ⟨rfl, HI.out.below⟩
    · have HI := hid hI
      clear hI
      go_wp2_with fail
      go_ret
      exact ⟨rfl, HI.out.below⟩
end Go.Proofs.Ytbkjlohlfkokpaa
