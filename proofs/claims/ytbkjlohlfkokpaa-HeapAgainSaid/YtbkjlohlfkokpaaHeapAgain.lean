/- HeapAgain: what is taken, and put in again with its key, goes behind all of this key; and so round about: the walk. Whatever many, key, times. -/
import Derived.Test.YtbkjlohlfkokpaaHeapEx
set_option linter.unusedVariables false
set_option linter.unusedSimpArgs false
namespace Go.Proofs.Ytbkjlohlfkokpaa
open Go.RowKit

theorem insP_same {t key : Int} {L : List (Int × Int)} (h : ∀ q ∈ L, q.2 = key) : insP (t, key) L = L ++ [(t, key)] := by
  unfold insP
  rw [List.filter_eq_self.2 (fun q hq => by simp [h q hq]), List.filter_eq_nil_iff.2 (fun q hq => by simp [h q hq])]
def rotR (i n : Nat) (key : Int) : List (Int × Int) := (List.range n).map (fun j => ((((i + j) % n : Nat) : Int), key))
def fillR (i : Nat) (key : Int) : List (Int × Int) := (List.range i).map (fun j => (((j : Nat) : Int), key))
theorem fill_keys (i : Nat) (key : Int) : ∀ q ∈ fillR i key, q.2 = key := fun q hq => by
  obtain ⟨j, _, rfl⟩ := List.mem_map.1 hq
  rfl
theorem fill_push (i : Nat) (key : Int) (hi : i < 256) : pushP 256 (fillR i key) i key = (0, fillR (i + 1) key) := by
  have hn : ((i : Nat) : Int) ∉ fsts (fillR i key) := fun hm => by
    unfold fsts fillR at hm
    rw [List.map_map] at hm
    obtain ⟨j, hj, e⟩ := List.mem_map.1 hm
    have := List.mem_range.1 hj
    simp at e
    omega
  have hl : (fillR i key).length = i := by simp [fillR]
  unfold pushP
  rw [if_neg (by omega), if_neg hn, if_neg (by omega), insP_same (fill_keys i key)]
  simp [fillR, List.range_succ]
theorem rot_zero (n : Nat) (key : Int) : fillR n key = rotR 0 n key := by
  unfold fillR rotR
  refine List.map_congr_left (fun j hj => ?_)
  have := List.mem_range.1 hj
  rw [Nat.zero_add, Nat.mod_eq_of_lt this]
theorem rot_keys (i n : Nat) (key : Int) : ∀ q ∈ rotR i n key, q.2 = key := fun q hq => by
  obtain ⟨j, _, rfl⟩ := List.mem_map.1 hq
  rfl
theorem rot_step (i n : Nat) (key : Int) (hn : 0 < n) : ∃ T, rotR i n key = (((i % n : Nat) : Int), key) :: T ∧ T ++ [(((i % n : Nat) : Int), key)] = rotR (i + 1) n key := by
  obtain ⟨m, rfl⟩ : ∃ m, n = m + 1 := ⟨n - 1, by omega⟩
  refine ⟨(List.range m).map (fun j => ((((i + 1 + j) % (m + 1) : Nat) : Int), key)), ?_, ?_⟩
  · unfold rotR
    rw [List.range_succ_eq_map, List.map_cons, List.map_map]
    refine (congrArg (fun T => _ :: T) (List.map_congr_left (fun j _ => ?_)))
    show ((((i + (j + 1)) % (m + 1) : Nat) : Int), key) = _
    rw [show i + (j + 1) = i + 1 + j by omega]
  · unfold rotR
    rw [List.range_succ, List.map_append, List.map_cons, List.map_nil]
    have e : (i + 1 + m) % (m + 1) = i % (m + 1) := by rw [show i + 1 + m = i + (m + 1) by omega, Nat.add_mod_right]
    rw [e]
theorem rot_push {w : World} {base h T : Nat} {Q : Nat → Prop} (i n : Nat) (key : Int) (hn : 0 < n) (hn2 : n ≤ 60) (H : IsHeap w base h Q 256 T (rotR i n key)) :
    ∃ R, rotR i n key = (((i % n : Nat) : Int), key) :: R ∧ pushP 256 R ((i % n : Nat) : Int) key = (0, rotR (i + 1) n key) := by
  obtain ⟨R, e1, e2⟩ := rot_step i n key hn
  refine ⟨R, e1, ?_⟩
  have hf := H.facts.1
  rw [e1] at hf
  obtain ⟨hf1, _⟩ := List.nodup_cons.1 (show (((i % n : Nat) : Int) :: fsts R).Nodup from hf)
  have hl : (rotR i n key).length = n := by simp [rotR]
  rw [e1] at hl
  have hk : ∀ q ∈ R, q.2 = key := fun q hq => rot_keys i n key q (by rw [e1]; exact List.mem_cons_of_mem _ hq)
  unfold pushP
  rw [if_neg (by omega), if_neg hf1, if_neg (by simp at hl; omega), insP_same hk, e2]
attribute [local irreducible] rotR fillR pushP
set_option maxRecDepth 100000 in
set_option maxHeartbeats 1600000 in
theorem heapagain_walk {w : World} (many key times : Int) (hm : -9223372036854775808 ≤ many ∧ many ≤ 9223372036854775807) (hk : -9223372036854775808 ≤ key ∧ key ≤ 9223372036854775807) (ht : -9223372036854775808 ≤ times ∧ times ≤ 9223372036854775807) :
    Calls Try.prog 10 #[.int .i64 many, .int .i64 key, .int .i64 times] w fun e w' => e = .returned (.bool true) ∧ Below w.heap.size w w' := by
  go_enter Try.func10, Try.ntmps10
  go_wp2_with fail
  refine heapex_any.mono ?_
  rintro e w1 ⟨rfl, hb1⟩
  go_wp2_with fail
  refine (heap_new 256 (by omega)).mono ?_
  rintro e w2 ⟨h, Q0, rfl, h0, hb2⟩
  have H0 := hid (show HW w w2 h Q0 256 0 [] from ⟨below_then hb1 hb2, h0.weak hb1.size⟩)
  clear h0 hb1 hb2
  go_wp2_with fail
  refine (heappick_any many 60 hm.1 hm.2 (by omega) (by omega)).mono ?_
  rintro e w' ⟨rfl, rfl⟩
  have hpb := pickN_bd many 60 (by omega)
  generalize pickN many 60 = p at *
  obtain ⟨n, hn⟩ : ∃ n : Nat, p = (n : Int) := ⟨p.toNat, by omega⟩
  subst hn
  have HPT := hid (fun W => heappick_any (w := W) times 200 ht.1 ht.2 (by omega) (by omega))
  have htb := pickN_bd times 200 (by omega)
  generalize pickN times 200 = m at *
  have hw1 : IntKind.i64.wrap (1 + (n : Int)) = ((n + 1 : Nat) : Int) := by rw [wraps_i64 _ (by omega) (by omega)]; omega
  obtain ⟨n1, hn1⟩ : ∃ n1, n + 1 = n1 := ⟨_, rfl⟩
  rw [hn1] at hw1
  have hnb : 0 < n1 ∧ n1 ≤ 60 := by omega
  clear hn1
  clear hm ht hpb
  go_wp2_with fail
  have hfill : [] = fillR 0 key := by unfold fillR; rfl
  have H0 := hid (hfill ▸ H0.out)
  clear hfill
  go_loopw [11] (fun i wr => ∃ (k : Nat) (Q : Nat → Prop), k ≤ n1 ∧ i = .int .i64 k ∧ HW w wr h Q 256 k (fillR k key)) (fun i _ => n1 - (intOf i).toNat)
  case atStart => exact ⟨0, Q0, by omega, rfl, H0.out⟩
  case round =>
    obtain ⟨k, Q, hk1, rfl, HH⟩ := hrel
    by_cases hlt : k < n1
    · have HH := hid HH
      have HP := hid (fill_push k key (by omega))
      go_wp2_with fail
      refine (heap_push HH.out.heap (t := k) (k := key) (by omega) (by omega) HP.out).mono ?_
      rintro e w3 ⟨rfl, hB⟩
      obtain ⟨Q1, hH1, -⟩ := HH.out.step hB
      have HH1 := hid hH1
      clear hB hH1
      go_wp2_with fail
      go_roundw
      case rel => exact ⟨k + 1, Q1, by omega, by go_num, HH1.out⟩
      case measure => simp [intOf]; omega
    · obtain rfl : k = n1 := by omega
      rw [rot_zero] at HH
      have HH := hid HH
      go_wp2_with fail
      go_loopw [12] (fun i wr => ∃ (j : Nat) (Q : Nat → Prop), (j : Int) ≤ m ∧ i = .int .i64 j ∧ HW w wr h Q 256 (k + 2 * j) (rotR j k key)) (fun i _ => 200 - (intOf i).toNat)
      case atStart => exact ⟨0, Q, by omega, rfl, HH.out⟩
      case round =>
        obtain ⟨j, Q, hj1, rfl, HJ⟩ := hrel
        have hlr : (rotR j k key).length = k := by unfold rotR; simp
        have HJ := hid HJ
        by_cases hlt : (j : Int) < m
        · clear hlr
          obtain ⟨R, e1, e2⟩ := rot_push j k key hnb.1 hnb.2 HJ.out.heap
          have E2 := hid e2
          have HJ2 := HJ.out
          rw [e1] at HJ2
          have HJ3 := hid HJ2
          have hmd : ((j : Int)).tmod (k : Int) = ((j % k : Nat) : Int) := by rw [Int.tmod_eq_emod_of_nonneg (by omega)]; rfl
          have hqb : 0 ≤ ((j % k : Nat) : Int) ∧ ((j % k : Nat) : Int) ≤ 60 := by have := Nat.mod_lt j hnb.1; omega
          generalize ((j % k : Nat) : Int) = q at *
          clear e1 e2 HJ2
          go_wp2_with fail
          refine (HPT.out _).mono ?_
          rintro e w' ⟨rfl, rfl⟩
          go_wp2_with fail
          refine (heap_pop HJ3.out.heap (by omega)).mono ?_
          rintro e w3 ⟨rfl, hB⟩
          obtain ⟨Q1, hH1, -⟩ := HJ3.out.step hB
          have HH1 := hid hH1
          clear hB hH1
          rw [show headP ((q, key) :: R) = (q, key) from rfl]
          go_wp2_with fail
          refine (heap_push HH1.out.heap (t := q) (k := key) (by omega) (by omega) E2.out).mono ?_
          rintro e w4 ⟨rfl, hB⟩
          obtain ⟨Q2, hH2, -⟩ := HH1.out.step hB
          have HH2 := hid hH2
          clear hB hH2
          go_wp2_with fail
          go_roundw
          case rel => exact ⟨j + 1, Q2, by omega, by go_num, by rw [show k + 2 * (j + 1) = k + 2 * j + 1 + 1 by omega]; exact HH2.out⟩
          case measure => simp [intOf]; omega
        · go_wp2_with fail
          refine (HPT.out _).mono ?_
          rintro e w' ⟨rfl, rfl⟩
          go_wp2_with fail
          refine (heap_len HJ.out.heap).mono ?_
          rintro e w' ⟨rfl, rfl⟩
          rw [hlr]
          go_wp2_with fail
          go_ret
          exact ⟨rfl, HJ.out.below⟩
end Go.Proofs.Ytbkjlohlfkokpaa
