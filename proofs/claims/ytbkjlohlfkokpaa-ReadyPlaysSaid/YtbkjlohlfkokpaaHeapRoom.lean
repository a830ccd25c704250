/- HeapRoom: a heap takes what is not there as long as there is room, and what is gone makes room: the walk. Whatever room and deeds. -/
import Derived.Test.YtbkjlohlfkokpaaHeapEx
set_option linter.unusedVariables false
set_option linter.unusedSimpArgs false
namespace Go.Proofs.Ytbkjlohlfkokpaa
open Go.RowKit

theorem Try.info_bool : (Try.prog.info? 4).map (fun i => (i.zero, i.size, i.bytes)) = some (some (.bool false), 1, 1) := by kernel_rfl
theorem fsts_ins {t k u : Int} {L : List (Int × Int)} : u ∈ fsts (insP (t, k) L) ↔ u = t ∨ u ∈ fsts L := by
  unfold fsts insP
  simp only [List.map_append, List.map_cons, List.mem_append, List.mem_cons, List.mem_map, List.mem_filter]
  constructor
  · rintro (⟨q, ⟨h1, _⟩, rfl⟩ | rfl | ⟨q, ⟨h1, _⟩, rfl⟩)
    · exact .inr ⟨q, h1, rfl⟩
    · exact .inl rfl
    · exact .inr ⟨q, h1, rfl⟩
  · rintro (rfl | ⟨q, h1, rfl⟩)
    · exact .inr (.inl rfl)
    · by_cases h : q.2 ≤ k
      · exact .inl ⟨q, ⟨h1, by simpa using h⟩, rfl⟩
      · exact .inr (.inr ⟨q, ⟨h1, by simp; omega⟩, rfl⟩)
theorem fsts_off {t u : Int} {L : List (Int × Int)} : u ∈ fsts (offP t L) ↔ u ≠ t ∧ u ∈ fsts L := by
  unfold fsts offP
  simp only [List.mem_map, List.mem_filter]
  constructor
  · rintro ⟨q, ⟨h1, h2⟩, rfl⟩
    exact ⟨by simpa using h2, q, h1, rfl⟩
  · rintro ⟨h, q, h1, rfl⟩
    exact ⟨q, ⟨h1, by simpa using h⟩, rfl⟩
theorem offP_out {t : Int} {L : List (Int × Int)} (h : t ∉ fsts L) : offP t L = L := by
  unfold offP
  exact List.filter_eq_self.2 (fun q hq => by
    have : q.1 ≠ t := fun e => h (by rw [← e]; exact List.mem_map.2 ⟨q, hq, rfl⟩)
    simpa using this)
theorem offP_less : ∀ {t : Int} {L : List (Int × Int)}, (fsts L).Nodup → t ∈ fsts L → (offP t L).length + 1 = L.length
  | t, [], _, h => by cases h
  | t, q :: L, hn, h => by
    obtain ⟨h1, h2⟩ := List.nodup_cons.1 (show (q.1 :: fsts L).Nodup from hn)
    by_cases e : q.1 = t
    · subst e
      rw [offP_head hn]
      rfl
    · have h3 : t ∈ fsts L := by
        rcases List.mem_cons.1 (show t ∈ q.1 :: fsts L from h) with h | h
        · exact absurd h.symm e
        · exact h
      have := offP_less h2 h3
      have e2 : offP t (q :: L) = q :: offP t L := by unfold offP; rw [List.filter_cons, if_pos (by simpa using e)]
      rw [e2, List.length_cons, List.length_cons, this]
theorem make_bools (n : Nat) (hn : n ≤ 256) (w : World) : (Instr.makeSlice 52 (.int .i64 (n : Int)) (.int .i64 (n : Int))).run Try.prog w = .ok (.slice (some ⟨w.heap.size, 0, none⟩) n n) (w.alloc (.cells (List.replicate n (.bool false)).toArray 4)) := by
  obtain ⟨i0, hi, hz0, hz1, hz2⟩ := info_parts Try.info_bool
  have := run_make (P := Try.prog) (w := w) 52 4 i0 _ Try.underlying52 hi hz0 .i64 .i64 n n (by omega) (by omega) (by rw [hz2]; omega) (by omega)
  rw [hz1, show (Value.bool false).cells = #[Value.bool false] by simp [Value.cells], Nat.mul_one, made_one] at this
  simpa using this
/-- A slice of marks. -/
structure Marks (w : World) (g n : Nat) (f : Nat → Bool) : Prop where
  ex : ∃ C, w.heap[g]? = some (.cells C 4 (0, 0)) ∧ C.size = n ∧ ∀ j, j < n → C[j]? = some (.bool (f j))
theorem Marks.made (w : World) (n : Nat) : Marks (w.alloc (.cells (List.replicate n (.bool false)).toArray 4)) w.heap.size n (fun _ => false) :=
  ⟨⟨_, blk_new _ _, by simp, fun j hj => by simp [hj]⟩⟩
theorem Marks.kept {w w' : World} {g n : Nat} {f : Nat → Bool} (h : Marks w g n f) (k : ∀ o, w.heap[g]? = some o → w'.heap[g]? = some o) : Marks w' g n f := by
  obtain ⟨C, h1, h2⟩ := h.ex
  exact ⟨⟨C, k _ h1, h2⟩⟩
theorem Marks.cell {w : World} {g n : Nat} {f : Nat → Bool} (h : Marks w g n f) {j : Nat} (hj : j < n) : w.cell? ⟨g, j, none⟩ = some (.bool (f j)) := by
  obtain ⟨C, h1, h2, h3⟩ := h.ex
  rw [blk_cell h1]
  exact h3 j hj
theorem Marks.free {w : World} {g n : Nat} {f : Nat → Bool} (h : Marks w g n f) (j : Nat) : w.frozen? ⟨g, j, none⟩ = false := by
  obtain ⟨C, h1, _⟩ := h.ex
  exact blk_free h1 j
theorem Marks.set {w : World} {g n : Nat} {f f' : Nat → Bool} (h : Marks w g n f) {j : Nat} (hj : j < n) (b : Bool) (hf : ∀ i, i < n → f' i = if i = j then b else f i) : Marks (w.setCell ⟨g, j, none⟩ (.bool b)) g n f' := by
  obtain ⟨C, h1, h2, h3⟩ := h.ex
  refine ⟨⟨_, blk_set h1 j _, by simpa using h2, fun i hi => ?_⟩⟩
  rw [hf i hi, Array.getElem?_setIfInBounds]
  by_cases e : i = j
  · subst e
    rw [if_pos rfl, if_pos (by omega), if_pos rfl]
  · rw [if_neg (fun h => e h.symm), if_neg e]
    exact h3 i hi
theorem Marks.congr {w : World} {g n : Nat} {f f' : Nat → Bool} (h : Marks w g n f) (hf : ∀ i, i < n → f' i = f i) : Marks w g n f' := by
  obtain ⟨C, h1, h2, h3⟩ := h.ex
  exact ⟨⟨C, h1, h2, fun j hj => by rw [hf j hj]; exact h3 j hj⟩⟩
def inB (L : List (Int × Int)) (j : Nat) : Bool := decide ((j : Int) ∈ fsts L)
/-- A heap and its marks behind a call's start. -/
structure HM (w wx : World) (h : Nat) (Q : Nat → Prop) (room T g : Nat) (L : List (Int × Int)) : Prop where
  hw : HW w wx h Q room T L
  marks : Marks wx g 40 (inB L)
  lo : w.heap.size ≤ g
  nq : ¬ Q g
theorem HM.step {w wx w' : World} {h room T T' g : Nat} {Q : Nat → Prop} {L L' : List (Int × Int)} (H : HM w wx h Q room T g L) (hB : HBehind wx w.heap.size h Q room T' L' w') (hL : L' = L) : ∃ Q', HM w w' h Q' room T' g L := by
  subst hL
  obtain ⟨Q', hH, hk⟩ := H.hw.step hB
  obtain ⟨C, h1, _⟩ := H.marks.ex
  exact ⟨Q', hH, H.marks.kept (fun o ho => (hk g o ho H.nq).1), H.lo, (hk g _ h1 H.nq).2⟩
/-- A deed, and the mark that goes with it. -/
theorem HM.mark {w wx w' : World} {h room T T' g : Nat} {Q : Nat → Prop} {L L' : List (Int × Int)} (H : HM w wx h Q room T g L) (hB : HBehind wx w.heap.size h Q room T' L' w') :
    ∃ Q', HW w w' h Q' room T' L' ∧ Marks w' g 40 (inB L) ∧ ¬ Q' g := by
  obtain ⟨Q', hH, hk⟩ := H.hw.step hB
  obtain ⟨C, h1, _⟩ := H.marks.ex
  exact ⟨Q', hH, H.marks.kept (fun o ho => (hk g o ho H.nq).1), (hk g _ h1 H.nq).2⟩
theorem HM.marked {w wx : World} {h room T g : Nat} {Q : Nat → Prop} {L L' : List (Int × Int)} (H : HW w wx h Q room T L') (M : Marks wx g 40 (inB L)) (hn : ¬ Q g) (lo : w.heap.size ≤ g) {j : Nat} (hj : j < 40) (b : Bool) (hf : ∀ i, i < 40 → inB L' i = if i = j then b else inB L i) :
    HM w (wx.setCell ⟨g, j, none⟩ (.bool b)) h Q room T g L' :=
  ⟨H.kept (P := One g) ((Fr.refl _ _).one j _) (fun k hk e => hn (by rw [show g = k from e.symm]; exact hk)) (fun k hk => by rw [show k = g from hk]; exact lo), M.set hj b hf, lo, hn⟩
theorem HM.later {w wx : World} {h room T T' g : Nat} {Q : Nat → Prop} {L : List (Int × Int)} (H : HM w wx h Q room T g L) (hT : T ≤ T') : HM w wx h Q room T' g L := ⟨H.hw.more hT, H.marks, H.lo, H.nq⟩
attribute [local irreducible] inB pushP insP offP
set_option maxRecDepth 100000 in
set_option maxHeartbeats 1600000 in
theorem heaproom_walk {w : World} (room : Int) (A : Option Addr) (len cap : Nat) (hlen : len ≤ 9223372036854775807) (Z : Nat → Nat → Int) (hr : -9223372036854775808 ≤ room ∧ room ≤ 9223372036854775807) (hz : IntRows w A len 3 Z) :
    Calls Try.prog 9 #[.int .i64 room, .slice A len cap] w fun e w' => e = .returned (.bool true) ∧ Below w.heap.size w w' := by
  have HZ := hid hz
  clear hz
  have hmake : ∀ w, (Instr.makeSlice 52 (.int .i64 40) (.int .i64 40)).run Try.prog w = .ok (.slice (some ⟨w.heap.size, 0, none⟩) 40 40) (w.alloc (.cells (List.replicate 40 (.bool false)).toArray 4)) := make_bools 40 (by omega)
  go_enter Try.func9, Try.ntmps9
  go_wp2_with fail
  refine heapex_any.mono ?_
  rintro e w1 ⟨rfl, hb1⟩
  go_wp2_with fail
  refine (heappick_any room 257 hr.1 hr.2 (by omega) (by omega)).mono ?_
  rintro e w' ⟨rfl, rfl⟩
  have hpb := pickN_bd room 257 (by omega)
  generalize pickN room 257 = p at *
  obtain ⟨m, hm⟩ : ∃ m : Nat, p = (m : Int) := ⟨p.toNat, by omega⟩
  subst hm
  go_wp2_with fail
  refine (heap_new m (by omega)).mono ?_
  rintro e w2 ⟨h, Q0, rfl, h0, hb2⟩
  have H0 := hid (show HW w w2 h Q0 m 0 [] from ⟨below_then hb1 hb2, h0.weak hb1.size⟩)
  have hmb : m ≤ 256 := by omega
  clear h0 hb1 hb2 hr hpb
  go_wp2_with fail
  have HM0 : HM w (w2.alloc (.cells (List.replicate 40 (.bool false)).toArray 4)) h Q0 m 0 w2.heap.size [] :=
    ⟨H0.out.later ((Below.refl _ w2).alloc (Nat.le_refl _) _), (Marks.made w2 40).congr (fun i _ => by unfold inB fsts; simp), H0.out.below.size, fun hq => Nat.lt_irrefl _ (H0.out.heap.lt _ hq).2⟩
  have HM1 := hid HM0
  generalize w2.heap.size = g at *
  clear HM0 H0
  go_loopw [9, 10] (fun y i wr => ∃ (k n : Nat) (L : List (Int × Int)) (Q : Nat → Prop), k ≤ len ∧ k ≤ 300 ∧ y = .int .i64 n ∧ i = .int .i64 k ∧ Hid (n = L.length) ∧ HM w wr h Q m k g L) (fun _ i _ => 300 - (intOf i).toNat)
  case atStart => exact ⟨0, 0, [], Q0, by omega, by omega, rfl, rfl, rfl, HM1.out⟩
  case round =>
    obtain ⟨k, n, L, Q, hk1, hk2, rfl, rfl, HN, HH⟩ := hrel
    have HH := hid HH
    by_cases h1 : k < len
    · by_cases h2 : k < 300
      · obtain ⟨ab, ao, rfl, hbl, hcs⟩ := HZ.out k h1
        obtain ⟨hc0, hd0, hd1⟩ := hcs 0 (by omega)
        obtain ⟨hc1, hr0, hr1⟩ := hcs 1 (by omega)
        obtain ⟨hc2, ht0, ht1⟩ := hcs 2 (by omega)
        have c0 : wr.cell? ⟨ab, ao + k * 3, none⟩ = some (.int .i64 (Z k 0)) := (HH.out.hw.below.cell hbl).trans hc0
        have c1 : wr.cell? ⟨ab, ao + k * 3 + 1, none⟩ = some (.int .i64 (Z k 1)) := (HH.out.hw.below.cell hbl).trans hc1
        have c2 : wr.cell? ⟨ab, ao + k * 3 + 2, none⟩ = some (.int .i64 (Z k 2)) := (HH.out.hw.below.cell hbl).trans hc2
        clear hc0 hc1 hc2 hcs
        generalize Z k 0 = d0 at *
        generalize Z k 1 = d1 at *
        generalize Z k 2 = d2 at *
        have hK := pickN_bd d1 40 (by omega)
        have hR := pickN_bd d0 2 (by omega)
        have HKp := hid (fun W => heappick_any (w := W) d1 40 hr0 hr1 (by omega) (by omega))
        have HRp := hid (fun W => heappick_any (w := W) d0 2 hd0 hd1 (by omega) (by omega))
        generalize pickN d1 40 = K0 at *
        generalize pickN d0 2 = R at *
        obtain ⟨K, hKn⟩ : ∃ K : Nat, K0 = (K : Int) := ⟨K0.toNat, by omega⟩
        subst hKn
        go_wp2_with fail
        refine (HKp.out _).mono ?_
        rintro e w' ⟨rfl, rfl⟩
        go_wp2_with fail
        refine (HRp.out _).mono ?_
        rintro e w' ⟨rfl, rfl⟩
        have hlr := HH.out.hw.heap.facts.2.2.2.1
        have hll : L.length = n := HN.out.symm
        have hnd := HH.out.hw.heap.facts.1
        rw [hll] at hlr
        rcases (show R = 0 ∨ R = 1 by omega) with rfl | rfl
        · by_cases hin : (K : Int) ∈ fsts L
          · have hinb : inB L K = true := by unfold inB; simpa using hin
            have hp : pushP m L K d2 = (4, L) := by unfold pushP; rw [if_neg (by omega), if_pos hin]
            have HP := hid hp
            have HINB := hid hinb
            clear hp hinb hin hnd hll
            go_wp2_with fail
            refine (heap_push HH.out.hw.heap (by omega) (by omega) HP.out).mono ?_
            rintro e w3 ⟨rfl, hB⟩
            obtain ⟨Q1, hH1⟩ := HH.out.step hB rfl
            have HH1 := hid hH1
            have b1 := hH1.marks.cell (j := K) (by omega)
            rw [HINB.out] at b1
            clear hB hH1
            go_wp2_with fail
            refine (heap_len HH1.out.hw.heap).mono ?_
            rintro e w' ⟨rfl, rfl⟩
            rw [← HN.out]
            go_wp2_with fail
            go_roundw
            case rel => exact ⟨k + 1, n, L, Q1, by omega, by omega, rfl, by go_num, HN, HH1.out⟩
            case measure => simp [intOf]; omega
          · have hinb : inB L K = false := by unfold inB; simpa using hin
            by_cases hroom : m ≤ n
            · have hp : pushP m L K d2 = (3, L) := by unfold pushP; rw [if_neg (by omega), if_neg hin, if_pos (by omega)]
              have HP := hid hp
              have HINB := hid hinb
              clear hp hinb hin hnd hll
              go_wp2_with fail
              refine (heap_push HH.out.hw.heap (by omega) (by omega) HP.out).mono ?_
              rintro e w3 ⟨rfl, hB⟩
              obtain ⟨Q1, hH1⟩ := HH.out.step hB rfl
              have HH1 := hid hH1
              have b1 := hH1.marks.cell (j := K) (by omega)
              rw [HINB.out] at b1
              clear hB hH1
              go_wp2_with fail
              refine (heap_len HH1.out.hw.heap).mono ?_
              rintro e w' ⟨rfl, rfl⟩
              rw [← HN.out]
              go_wp2_with fail
              go_roundw
              case rel => exact ⟨k + 1, n, L, Q1, by omega, by omega, rfl, by go_num, HN, HH1.out⟩
              case measure => simp [intOf]; omega
            · have hroom2 : n < m := by omega
              clear hroom
              have hp : pushP m L K d2 = (0, insP (K, d2) L) := by unfold pushP; rw [if_neg (by omega), if_neg hin, if_neg (by omega)]
              have HIB := hid (fun i (_ : i < 40) => (show inB (insP (K, d2) L) i = if i = K then true else inB L i by
                unfold inB
                by_cases e : i = K
                · subst e; simp [fsts_ins]
                · have e2 : (i : Int) ≠ K := by omega
                  simp [fsts_ins, e, e2]))
              have HLN := hid (show n + 1 = (insP (K, d2) L).length by rw [insP_len, hll])
              generalize insP (K, d2) L = L' at *
              have HP := hid hp
              have HINB := hid hinb
              clear hp hinb hin hnd hll
              go_wp2_with fail
              refine (heap_push HH.out.hw.heap (by omega) (by omega) HP.out).mono ?_
              rintro e w3 ⟨rfl, hB⟩
              obtain ⟨Q1, hH1, hM1, hq1⟩ := HH.out.mark hB
              have b1 := hM1.cell (j := K) (by omega)
              have f1 := hM1.free K
              rw [HINB.out] at b1
              have HM2 := hid (HM.marked hH1 hM1 hq1 HH.out.lo (by omega) true HIB.out)
              clear hB hH1 hM1 hq1
              go_wp2_with fail
              refine (heap_len HM2.out.hw.heap).mono ?_
              rintro e w' ⟨rfl, rfl⟩
              rw [← HLN.out]
              go_wp2_with fail
              go_roundw
              case rel => exact ⟨k + 1, n + 1, L', Q1, by omega, by omega, by go_num, by go_num, HLN, HM2.out⟩
              case measure => simp [intOf]; omega
        · by_cases hin : (K : Int) ∈ fsts L
          · have hinb : inB L K = true := by unfold inB; simpa using hin
            have HIB := hid (fun i (_ : i < 40) => (show inB (offP K L) i = if i = K then false else inB L i by
                unfold inB
                by_cases e : i = K
                · subst e; simp [fsts_off]
                · have e2 : (i : Int) ≠ K := by omega
                  simp [fsts_off, e, e2]))
            have hL1 := offP_less hnd hin
            obtain ⟨n', hn'⟩ : ∃ n', n = n' + 1 := ⟨(offP K L).length, by omega⟩
            have HLN := hid (show n' = (offP K L).length by omega)
            have HR := hid (heap_remove_yes HH.out.hw.heap hin (by omega))
            generalize offP K L = L' at *
            have HINB := hid hinb
            clear hinb hin hnd hll hL1
            subst hn'
            go_wp2_with fail
            refine HR.out.mono ?_
            rintro e w3 ⟨rfl, hB⟩
            obtain ⟨Q1, hH1, hM1, hq1⟩ := HH.out.mark hB
            have b1 := hM1.cell (j := K) (by omega)
            have f1 := hM1.free K
            rw [HINB.out] at b1
            have HM2 := hid (HM.marked hH1 hM1 hq1 HH.out.lo (by omega) false HIB.out)
            clear hB hH1 hM1 hq1
            go_wp2_with fail
            refine (heap_len HM2.out.hw.heap).mono ?_
            rintro e w' ⟨rfl, rfl⟩
            rw [← HLN.out]
            go_wp2_with fail
            go_roundw
            case rel => exact ⟨k + 1, n', L', Q1, by omega, by omega, by go_num, by go_num, HLN, HM2.out⟩
            case measure => simp [intOf]; omega
          · have hinb : inB L K = false := by unfold inB; simpa using hin
            have HR := hid (heap_remove_no HH.out.hw.heap (by omega) hin)
            have b1 := HH.out.marks.cell (j := K) (by omega)
            rw [hinb] at b1
            clear hinb hin hnd hll
            go_wp2_with fail
            refine HR.out.mono ?_
            rintro e w' ⟨rfl, rfl⟩
            go_wp2_with fail
            refine (heap_len HH.out.hw.heap).mono ?_
            rintro e w' ⟨rfl, rfl⟩
            rw [← HN.out]
            go_wp2_with fail
            go_roundw
            case rel => exact ⟨k + 1, n, L, Q, by omega, by omega, rfl, by go_num, HN, HH.out.later (by omega)⟩
            case measure => simp [intOf]; omega
      · go_wp2_with fail
        go_ret
        exact ⟨rfl, HH.out.hw.below⟩
    · go_wp2_with fail
      go_ret
      exact ⟨rfl, HH.out.hw.below⟩
end Go.Proofs.Ytbkjlohlfkokpaa
