/- RingRoom: a ring has never more than its room; with room it takes everybody that is not there: the walk. Whatever room and ids. -/
import Derived.Test.YtcbpbgjngeemoaaRingEx
namespace Go.Proofs.Ytcbpbgjngeemoaa
open Go.RowKit

set_option maxRecDepth 100000 in
set_option maxHeartbeats 1600000 in
theorem ringroom_walk {w : World} (room : Int) (A : Option Addr) (len cap : Nat) (zs : List Int) (h0 : -9223372036854775808 ≤ room) (h1 : room ≤ 9223372036854775807) (hlen : len ≤ 9223372036854775807)
    (hz : ∀ k, k < len → ∃ a, A = some a ∧ w.cell? (a.add k) = some (.int .i64 (zs.getD k 0))) :
    Calls Try.prog 3 #[.int .i64 room, .slice A len cap] w fun e w' => e = .returned (.bool true) ∧ Below w.heap.size w w' := by
  have hb := pickN_bd room 257 (by omega)
  obtain ⟨m, hm⟩ : ∃ m : Nat, pickN room 257 = m := ⟨(pickN room 257).toNat, by omega⟩
  have HP := ringpick_any (w := w) room 257 h0 h1 (by omega) (by omega)
  rw [hm] at hb
  have HZ := hid hz
  have HM := hid hm
  clear hz hm HP
  go_enter Try.func3, Try.ntmps3
  go_wp2_with fail
  refine ringex_any.mono ?_
  rintro e w1 ⟨rfl, hb1⟩
  have HB1 := hid hb1
  clear hb1
  go_wp2_with fail
  refine (ringpick_any room 257 h0 h1 (by omega) (by omega)).mono ?_
  rintro e w1' ⟨rfl, rfl⟩
  rw [HM.out]
  go_wp2_with fail
  refine (new_yes m (by omega)).mono ?_
  rintro e w2 ⟨r, s, rfl, H0, hb2, hr, hs⟩
  have HB2 := hid (below_then HB1.out hb2)
  have HR0 := hid H0
  clear hb2 H0
  have hsz := HB1.out.size
  go_wp2_with fail
  go_loopw [8] (fun i wr => ∃ (k : Nat) (R : RS), k ≤ len ∧ k ≤ 300 ∧ i = .int .i64 k ∧ Below w.heap.size w wr ∧ IsRing wr r s R ∧ Hid (R.room = m ∧ R.last ≤ k)) (fun i _ => 300 - (intOf i).toNat)
  case atStart => exact ⟨0, ⟨m, 0, []⟩, by omega, by omega, rfl, HB2.out, HR0.out, rfl, Nat.le_refl _⟩
  case round =>
    obtain ⟨k, R, hk1, hk2, rfl, hb, hR, hI⟩ := hrel
    by_cases h1 : k < len
    · by_cases h2 : k < 300
      · obtain ⟨a, rfl, hc⟩ := HZ.out k h1
        obtain ⟨z, hz⟩ : ∃ z, z = zs.getD k 0 := ⟨_, rfl⟩
        rw [← hz] at hc
        have hbl := World.block_lt_of_cell? w _ hc
        have hcr := (hb.cell hbl).trans hc
        obtain ⟨hl1, hl2⟩ := hR.len
        rw [hI.out.1] at hl1
        have hlast := hI.out.2
        clear hz hc
        have HP := hid (ring_place hR z)
        have HI := hid hI.out.1
        by_cases h3 : 0 ≤ place R.l z
        · have HU := hid (fun W (h : IsRing W r s R) => ring_put_is (R' := R) (a := 0) (b := 4) h z (by omega) (by unfold putR; rw [if_pos h3]))
          generalize place R.l z = pl at *
          go_wp2_with fail
          refine HP.out.mono ?_
          rintro e w3 ⟨rfl, q3, rfl⟩
          go_wp2_with fail
          refine (ring_len (hR.drewN q3)).mono ?_
          rintro e w4 ⟨rfl, rfl⟩
          go_wp2_with fail
          refine (HU.out _ (hR.drewN q3)).mono ?_
          rintro e w4 ⟨rfl, hR4, hF4⟩
          go_wp2_with fail
          refine (ring_len hR4).mono ?_
          rintro e w5 ⟨rfl, rfl⟩
          have HB4 := hid (below_two (below_drewN' hb q3) hF4 (Nat.le_trans hsz hr) (Nat.le_trans hsz hs))
          clear hb hF4
          go_wp2_with fail
          go_roundw
          case rel => exact ⟨k + 1, R, by omega, by omega, by go_num, HB4.out, hR4, HI.out, by omega⟩
          case measure => simp [intOf]; omega
        · by_cases h4 : R.l.length = m
          · have HU := hid (fun W (h : IsRing W r s R) => ring_put_is (R' := R) (a := 0) (b := 3) h z (by omega) (by unfold putR; rw [if_neg h3, if_pos (by rw [HI.out, h4]; omega)]))
            have h5 : ((R.l.length : Int) == (m : Int)) = true := beq_iff_eq.2 (by omega)
            generalize place R.l z = pl at *
            have H4 := hid h4
            clear h4
            go_wp2_with fail
            refine HP.out.mono ?_
            rintro e w3 ⟨rfl, q3, rfl⟩
            go_wp2_with fail
            refine (ring_len (hR.drewN q3)).mono ?_
            rintro e w4 ⟨rfl, rfl⟩
            go_wp2_with fail
            refine (HU.out _ (hR.drewN q3)).mono ?_
            rintro e w4 ⟨rfl, hR4, hF4⟩
            go_wp2_with fail
            refine (ring_len hR4).mono ?_
            rintro e w5 ⟨rfl, rfl⟩
            have HB4 := hid (below_two (below_drewN' hb q3) hF4 (Nat.le_trans hsz hr) (Nat.le_trans hsz hs))
            clear hb hF4
            go_wp2_with fail
            go_roundw
            case rel => exact ⟨k + 1, R, by omega, by omega, by go_num, HB4.out, hR4, HI.out, by omega⟩
            case measure => simp [intOf]; omega
          · have HU := hid (fun W (h : IsRing W r s R) => ring_put_is (R' := ⟨R.room, R.last + 1, R.l ++ [(z, (R.last : Int) + 1)]⟩) (a := (R.last : Int) + 1) (b := 0) h z (by omega) (by unfold putR; rw [if_neg h3, if_neg (by rw [HI.out]; omega)]))
            have h5 : ((R.l.length : Int) == (m : Int)) = false := beq_eq_false_iff_ne.2 (by omega)
            have h6 : R.l.length + 1 ≤ m := by omega
            generalize place R.l z = pl at *
            have H4 := hid h4
            clear h4
            go_wp2_with fail
            refine HP.out.mono ?_
            rintro e w3 ⟨rfl, q3, rfl⟩
            go_wp2_with fail
            refine (ring_len (hR.drewN q3)).mono ?_
            rintro e w4 ⟨rfl, rfl⟩
            go_wp2_with fail
            refine (HU.out _ (hR.drewN q3)).mono ?_
            rintro e w4 ⟨rfl, hR4, hF4⟩
            go_wp2_with fail
            refine (ring_len hR4).mono ?_
            rintro e w5 ⟨rfl, rfl⟩
            have HB4 := hid (below_two (below_drewN' hb q3) hF4 (Nat.le_trans hsz hr) (Nat.le_trans hsz hs))
            clear hb hF4
            go_wp2_with fail
            go_roundw
            case rel => exact ⟨k + 1, _, by omega, by omega, by go_num, HB4.out, hR4, HI.out, by simp; omega⟩
            case measure => simp [intOf]; omega
      · have HB := hid hb
        clear hb
        go_wp2_with fail
        go_ret
        exact ⟨rfl, HB.out⟩
    · have HB := hid hb
      clear hb
      go_wp2_with fail
      go_ret
      exact ⟨rfl, HB.out⟩
end Go.Proofs.Ytcbpbgjngeemoaa
