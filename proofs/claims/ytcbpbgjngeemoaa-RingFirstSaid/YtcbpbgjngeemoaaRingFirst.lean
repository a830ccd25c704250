/- RingFirst: what is taken comes in the order in which it was put, tickets rise, each given once: the walk. Whatever deeds. -/
import Derived.Test.YtcbpbgjngeemoaaRingInv
import Derived.Test.YtcbpbgjngeemoaaDeed
import Derived.Deep.CutBlock
import Derived.Deep.DeepCutAuto
set_option linter.unusedVariables false
set_option linter.unusedSimpArgs false
namespace Go.Proofs.Ytcbpbgjngeemoaa
open Go.RowKit
attribute [local irreducible] putR place ticketOf headOf takeR dropL pickN
/-- The law's ring in a world. -/
structure RAt (w wr : World) (r s m : Nat) (L T : Int) (R : RS) : Prop where
  below : Below w.heap.size w wr
  ring : IsRing wr r s R
  inv : RInv m L T R
theorem RAt.step {w wx w' : World} {r s m : Nat} {L T L' T' : Int} {R R' : RS} (h : RAt w wx r s m L T R) (hB : IsRing w' r s R') (hF : Fr (Two r s) wx w') (hr : w.heap.size ≤ r) (hs : w.heap.size ≤ s) (hi : RInv m L' T' R') : RAt w w' r s m L' T' R' :=
  ⟨below_two h.below hF hr hs, hB, hi⟩
theorem RAt.later {w wx w' : World} {r s m : Nat} {L T : Int} {R : RS} (h : RAt w wx r s m L T R) (hb : Below wx.heap.size wx w') : RAt w w' r s m L T R :=
  ⟨below_then h.below hb, h.ring.kept (fr0 hb) (fun h => h) (fun h => h), h.inv⟩
theorem RAt.alloc {w wx : World} {r s m : Nat} {L T : Int} {R : RS} (h : RAt w wx r s m L T R) (o : Obj) : RAt w (wx.alloc o) r s m L T R :=
  ⟨below_new h.below o, h.ring.kept ((Fr.refl NoB wx).alloc o) (fun h => h) (fun h => h), h.inv⟩
theorem RAt.drewN {w wx : World} {r s m : Nat} {L T : Int} {R : RS} (h : RAt w wx r s m L T R) (q : Nat) : RAt w (wx.drewN q) r s m L T R :=
  ⟨below_drewN' h.below q, h.ring.drewN q, h.inv⟩

set_option maxRecDepth 1000000 in
set_option maxHeartbeats 3200000 in
theorem ringfirst_walk {w : World} (A : Option Addr) (len cap : Nat) (hlen : len ≤ 9223372036854775807) (Z : Nat → Nat → Int) (hz : IntRows w A len 2 Z) :
    Calls Try.prog 7 #[.slice A len cap] w fun e w' => e = .returned (.bool true) ∧ Below w.heap.size w w' := by
  have HZ := hid hz
  clear hz
  go_enter Try.func7, Try.ntmps7
  go_wp2_with fail
  refine ringex_any.mono ?_
  rintro e w1 ⟨rfl, hb1⟩
  go_wp2_with fail
  refine (new_yes 256 (by omega)).mono ?_
  rintro e w2 ⟨r, s, rfl, H0, hb2, hr, hs⟩
  have hsz := hb1.size
  have hr0 : w.heap.size ≤ r := by omega
  have hs0 : w.heap.size ≤ s := by omega
  have HA := hid (RAt.mk (below_then hb1 hb2) H0 (RInv.mk (m := 256) (L := 0) (T := 0) rfl rfl (by simp) (by simp) (by omega)))
  clear H0 hb1 hb2 hr hs hsz
  go_wp2_with fail
  go_loopw [6, 7, 8] (fun l t i wr => ∃ (k : Nat) (L T : Int) (R : RS), k ≤ len ∧ k ≤ 200 ∧ L ≤ k ∧ i = .int .i64 k ∧ l = .int .i64 L ∧ t = .int .i64 T ∧ RAt w wr r s 256 L T R) (fun _ _ i _ => 200 - (intOf i).toNat)
  case atStart => exact ⟨0, 0, 0, _, by omega, by omega, by omega, rfl, rfl, rfl, HA.out⟩
  case round =>
    obtain ⟨k, L, T, R, hk1, hk2, hkL, rfl, rfl, rfl, hI⟩ := hrel
    by_cases h1 : k < len
    · by_cases h2 : k < 200
      · obtain ⟨ab, ao, rfl, hbl, hcs⟩ := HZ.out k h1
        obtain ⟨hc0, hd1, hd2⟩ := hcs 0 (by omega)
        have hc1 := (hcs 1 (by omega)).1
        have c0 : wr.cell? ⟨ab, ao + k * 2, none⟩ = some (.int .i64 (Z k 0)) := (hI.below.cell hbl).trans hc0
        have c1 : wr.cell? ⟨ab, ao + k * 2 + 1, none⟩ = some (.int .i64 (Z k 1)) := (hI.below.cell hbl).trans hc1
        clear hc0 hc1 hcs
        generalize Z k 0 = d0 at *
        generalize Z k 1 = d1 at *
        have hK := pickN_bd d0 3 (by omega)
        have hKp := fun W => ringpick_any (w := W) d0 3 hd1 hd2 (by omega) (by omega)
        generalize pickN d0 3 = K at *
        have HK := hid hKp
        clear hKp
        have hT0 := hI.inv.t0
        have f1 : (wr.alloc (.cells #[.int .i64 d0, .int .i64 d1] 54)).cell? ⟨wr.heap.size, 1, none⟩ = some (.int .i64 d1) := blk_cell (blk_new _ _) 1
        have HI := hid (hI.alloc (.cells #[.int .i64 d0, .int .i64 d1] 54))
        clear hI
        go_upto_block 2 with (go_at_call 16; refine (HK.out _).mono ?_; rintro e w' ⟨rfl, rfl⟩)
        go_cut [6, 7] (fun l t wx => ∃ L' T' R', l = .int .i64 L' ∧ t = .int .i64 T' ∧ L' ≤ k + 1 ∧ RAt w wx r s 256 L' T' R')
        case first =>
          as_aux_lemma =>
            rcases (show K = 0 ∨ K = 1 ∨ K = 2 by omega) with rfl | rfl | rfl
            · obtain ⟨a, b, R', hp, hcase⟩ := HI.out.inv.put d1
              have HP := hid hp
              have HC := hid hcase
              have hlast : R.last < 4611686018427387904 := by have := HI.out.inv.last; omega
              clear hp hcase
              go_wp2_with fail
              refine (ring_put_is HI.out.ring d1 hlast HP.out).mono ?_
              rintro e w3 ⟨rfl, hR3, hF3⟩
              rcases HC.out with ⟨rfl, rfl, hi⟩ | ⟨hb, rfl, hi⟩
              · have HI3 := hid (HI.out.step hR3 hF3 hr0 hs0 hi)
                clear hR3 hF3 hi HP HC
                go_wp2_with fail
                go_meet
                exact ⟨_, _, _, rfl, rfl, by omega, HI3.out⟩
              · have HI3 := hid (HI.out.step hR3 hF3 hr0 hs0 hi)
                clear hR3 hF3 hi HP HC
                rcases hb with rfl | rfl
                · go_wp2_with fail
                  go_meet
                  exact ⟨_, _, _, rfl, rfl, by omega, HI3.out⟩
                · go_wp2_with fail
                  go_meet
                  exact ⟨_, _, _, rfl, rfl, by omega, HI3.out⟩
            · have f2 := fun q => (RAt.drewN HI.out q).ring
              rcases HI.out.inv.take with ⟨hl, hh, he, ht, hi⟩ | ⟨x, l, hl, hh, he, ht, hTx, hxL, hi⟩
              · have HH := hid hh
                have HE := hid he
                have HT := hid ht
                have HF := hid f2
                have HV := hid hi
                clear hl hh he ht hi f2
                go_wp2_with fail
                refine (ring_head_is HI.out.ring HH.out HE.out).mono ?_
                rintro e w3 ⟨rfl, q3, rfl⟩
                go_wp2_with fail
                refine (ring_ticket_is (HI.out.ring.drewN q3) 0 HT.out).mono ?_
                rintro e w4 ⟨rfl, q4, rfl⟩
                go_wp2_with fail
                refine (ring_take_is (HI.out.ring.drewN (q3 + q4)) HH.out HE.out).mono ?_
                rintro e w5 ⟨rfl, hR5, hF5⟩
                have HI3 := hid ((HI.out.drewN (q3 + q4)).step hR5 hF5 hr0 hs0 HV.out)
                clear hR5 hF5 HH HE HT HV HF
                go_wp2_with fail
                go_meet
                exact ⟨_, _, _, rfl, rfl, by omega, HI3.out⟩
              · have HH := hid hh
                have HE := hid he
                have HT := hid ht
                have HF := hid f2
                have HV := hid hi
                have hTx2 : ¬ (x.2 ≤ T) := by omega
                clear hl hh he ht hi f2
                go_wp2_with fail
                refine (ring_head_is HI.out.ring HH.out HE.out).mono ?_
                rintro e w3 ⟨rfl, q3, rfl⟩
                go_wp2_with fail
                refine (ring_ticket_is (HI.out.ring.drewN q3) x.1 HT.out).mono ?_
                rintro e w4 ⟨rfl, q4, rfl⟩
                go_wp2_with fail
                refine (ring_take_is (HI.out.ring.drewN (q3 + q4)) HH.out HE.out).mono ?_
                rintro e w5 ⟨rfl, hR5, hF5⟩
                have HI3 := hid ((HI.out.drewN (q3 + q4)).step hR5 hF5 hr0 hs0 HV.out)
                clear hR5 hF5 HH HE HT HV HF
                go_wp2_with fail
                go_meet
                exact ⟨_, _, _, rfl, rfl, by omega, HI3.out⟩
            · go_wp2_with fail
              refine (ring_drop HI.out.ring d1).mono ?_
              rintro e w3 ⟨rfl, hR3, hF3⟩
              have HI3 := hid (HI.out.step hR3 hF3 hr0 hs0 (HI.out.inv.drop d1))
              clear hR3 hF3
              go_wp2_with fail
              go_meet
              exact ⟨_, _, _, rfl, rfl, by omega, HI3.out⟩
        obtain ⟨L', T', R', rfl, rfl, hL', hJ⟩ := hcut
        have HJ := hid hJ
        clear hJ
        go_wp2_with fail
        refine (ring_all HJ.out.ring).mono ?_
        rintro e w5 ⟨v, rfl, hb5, hown, hnil⟩
        have HJ5 := hid (HJ.out.later hb5)
        have hn : (ids R'.l).length = R'.l.length := by simp [ids]
        rw [hn] at hown
        clear hb5
        obtain ⟨n, hnn⟩ : ∃ n, n = R'.l.length := ⟨_, rfl⟩
        by_cases h0 : n = 0
        · have hv := hnil (by rw [show R'.l = [] from List.length_eq_zero_iff.1 (by omega)]; rfl)
          subst hv
          clear hown hn hnil hnn h0
          go_wp2_with fail
          go_loopw [18] (fun i wx => i = .int .i64 1 ∧ wx = w5) (fun _ _ => 0)
          case atStart => exact ⟨rfl, rfl⟩
          case round =>
            obtain ⟨rfl, rfl⟩ := hrel
            go_wp2_with fail
            go_roundw
            case rel => exact ⟨k + 1, L', T', R', by omega, by omega, by omega, by go_num, rfl, rfl, HJ5.out⟩
            case measure => simp [intOf]; omega
        · obtain ⟨g, gc, cur, rfl, _⟩ := own_shape hown (by omega)
          rw [← hnn] at hown ⊢
          have HO := hid hown
          have HN := hid hnn
          have hn0 : 1 ≤ n := by omega
          have hn256 : n ≤ 256 := by have := HJ5.out.ring.len; omega
          clear hown hn hnil hnn h0
          go_wp2_with fail
          go_loopw [18] (fun i wx => ∃ (j : Nat), j + 1 ≤ n ∧ i = .int .i64 ((j : Int) + 1) ∧ RAt w wx r s 256 L' T' R' ∧ wx.ownsRow wc.heap.size 3 1 (.slice (some ⟨g, 0, none⟩) n gc) n (intCells (ids R'.l))) (fun i _ => n - (intOf i).toNat)
          case atStart => exact ⟨0, by omega, rfl, HJ5.out, HO.out⟩
          case round =>
            obtain ⟨j, hj, rfl, hJ6, hO6⟩ := hrel
            have HJ6 := hid hJ6
            have HO6 := hid hO6
            clear hJ6 hO6
            by_cases hj2 : j + 1 < n
            · obtain ⟨x, hx⟩ : ∃ x, R'.l[j + 1]? = some x := ⟨_, List.getElem?_eq_getElem (by have := HN.out; omega)⟩
              obtain ⟨y, hy⟩ : ∃ y, R'.l[j]? = some y := ⟨_, List.getElem?_eq_getElem (by have := HN.out; omega)⟩
              have hc1 : wr.cell? ⟨g, j + 1, none⟩ = some (.int .i64 x.1) := own_cell HO6.out (j := j + 1) (by simp [intCells, ids, hx])
              have hc0 : wr.cell? ⟨g, j, none⟩ = some (.int .i64 y.1) := own_cell HO6.out (j := j) (by simp [intCells, ids, hy])
              have pw := HJ5.out.inv.pw
              have hlt : ¬ (x.2 ≤ y.2) := by have := (pw_lt pw hy hx (by omega)).2; omega
              have TX := hid (pw_ticket pw hx)
              have TY := hid (pw_ticket pw hy)
              have PX := hid (show place R'.l x.1 = (j : Int) + 1 by rw [pw_place pw hx]; rfl)
              have HR := hid (fun m => HJ6.out.ring.drewN m)
              have hW : IntKind.i64.wrap ((j : Int) + 1 - 1) = j := by rw [show (j : Int) + 1 - 1 = j by omega]; exact wraps_i64 _ (by omega) (by omega)
              have i1 : (j : Int) + 1 < (n : Int) := by omega
              have i2 : (0 : Int) ≤ (j : Int) + 1 := by omega
              have i3 : ((j : Int) + 1).toNat = j + 1 := by omega
              have i4 : (j : Int) < (n : Int) := by omega
              clear pw hx hy
              go_upto_region 31 with fail
              go_quiet ((first
                | (go_at_call 31; exact Calls.quiet_of (ring_ticket_is (HR.out _) _ TX.out))
                | (go_at_call 31; exact Calls.quiet_of (ring_ticket_is (HR.out _) _ TY.out))
                | (go_at_call 18; exact Calls.quiet_of (ring_place_is (HR.out _) _ PX.out))))
              go_wp2_with fail
              go_roundw
              case rel => exact ⟨j + 1, by omega, by go_num, HJ6.out.drewN _, own_drewN HO6.out _⟩
              case measure => simp [intOf]; omega
            · go_wp2_with fail
              go_roundw
              case rel => exact ⟨k + 1, L', T', R', by omega, by omega, by omega, by go_num, rfl, rfl, HJ6.out⟩
              case measure => simp [intOf]; omega
      · go_wp2_with fail
        go_ret
        exact ⟨rfl, hI.below⟩
    · go_wp2_with fail
      go_ret
      exact ⟨rfl, hI.below⟩
end Go.Proofs.Ytcbpbgjngeemoaa
