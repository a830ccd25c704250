/- Package ring: New, list, All, Drop (contracts). -/
import Derived.Test.YtcbpbgjngeemoaaRing
import Derived.Deep.RegionLaw
import Derived.Laws.CopyOwn
set_option linter.unusedVariables false
set_option linter.unusedSimpArgs false
namespace Go.Proofs.Ytcbpbgjngeemoaa
open Go.RowKit

theorem Try.info_seat : (Try.prog.info? 98).map (fun i => (i.zero, i.size, i.bytes)) = some (some (.agg #[.int .i64 0, .int .i64 0]), 2, 16) := by kernel_rfl
theorem Try.size_seat : (Try.prog.info? 98).map (·.size) = some 2 := by kernel_rfl
theorem Try.info_int : (Try.prog.info? 3).map (fun i => (i.zero, i.size, i.bytes)) = some (some (.int .i64 0), 1, 8) := by kernel_rfl

set_option maxHeartbeats 400000 in
theorem new_no {w : World} (room : Int) (h : room < 0 ∨ 256 < room) :
    Calls Try.prog 17 #[.int .i64 room] w fun e w' => e = .returned (.tuple #[.pointer none, .int .i64 1]) ∧ w' = w := by
  rcases h with h | h
  · go_enter Try.func17, Try.ntmps17
    go_wp2
    go_ret2
    exact ⟨rfl, rfl⟩
  · have h2 : ¬ room < 0 := by omega
    go_enter Try.func17, Try.ntmps17
    go_wp2
    go_ret2
    exact ⟨rfl, rfl⟩

theorem madeCells_get (z : Array Value) (n j : Nat) (h : j < n) : (madeCells z n)[j]? = some (z[j % z.size]!) := by
  simp [madeCells, h]
theorem madeCells_seat (p i : Nat) (h : i < p) : Seat (madeCells #[.int .i64 0, .int .i64 0] (p * 2)) i (0, 0) := by
  constructor
  · rw [madeCells_get _ _ _ (by omega)]
    simp
  · rw [madeCells_get _ _ _ (by omega)]
    simp [Nat.mul_add_mod_self_right]
theorem pow_double {p : Nat} (h : ∃ k, k ≤ 8 ∧ p = 2 ^ k) (hp : p < 256) : p * 2 ≤ 256 ∧ ∃ k, k ≤ 8 ∧ p * 2 = 2 ^ k := by
  obtain ⟨k, hk, rfl⟩ := h
  have : k ≤ 7 := by
    rcases Nat.lt_or_ge k 8 with h8 | h8
    · omega
    · have : k = 8 := by omega
      subst this
      omega
  exact ⟨by have := Nat.pow_le_pow_right (n := 2) (by omega) this; omega, k + 1, by omega, by rw [Nat.pow_succ]⟩
theorem make_seats (p : Nat) (hp : p ≤ 256) : ∃ C : Array Value, C.size = p * 2 ∧ (∀ i, i < p → Seat C i (0, 0)) ∧
    ∀ w, (Instr.makeSlice 94 (.int .i64 (p : Int)) (.int .i64 (p : Int))).run Try.prog w = .ok (.slice (some ⟨w.heap.size, 0, none⟩) p p) (w.alloc (.cells C 98)) := by
  obtain ⟨i0, hi, hz0, hz1, hz2⟩ := info_parts Try.info_seat
  refine ⟨madeCells #[.int .i64 0, .int .i64 0] (p * 2), size_madeCells _ _, fun i h => madeCells_seat p i h, fun w => ?_⟩
  have := run_make (P := Try.prog) (w := w) 94 98 i0 _ Try.underlying94 hi hz0 .i64 .i64 p p (by omega) (by omega) (by rw [hz2]; omega) (by omega)
  rw [hz1, show (Value.agg #[Value.int .i64 0, Value.int .i64 0]).cells = #[Value.int .i64 0, Value.int .i64 0] by simp [Value.cells]] at this
  simpa using this

/-- A ring has been made. -/
def NewRing (w : World) (room : Nat) (e : Ending) (w' : World) : Prop :=
  ∃ r s, e = .returned (.tuple #[.pointer (some ⟨r, 0, none⟩), .int .i64 0]) ∧ IsRing w' r s ⟨room, 0, []⟩ ∧ Below w.heap.size w w' ∧ w.heap.size ≤ r ∧ w.heap.size ≤ s
set_option maxHeartbeats 400000 in
theorem new_yes {w : World} (room : Nat) (h : room ≤ 256) :
    Calls Try.prog 17 #[.int .i64 room] w (NewRing w room) := by
  go_enter Try.func17, Try.ntmps17
  go_wp2
  go_loop [4] (fun v => ∃ p : Nat, v = .int .i64 p ∧ 1 ≤ p ∧ p ≤ 256 ∧ Hid (∃ k, k ≤ 8 ∧ p = 2 ^ k)) (fun v => 1000 - (intOf v).toNat)
  case atStart => exact ⟨1, by simp, by omega, by omega, 0, by omega, rfl⟩
  case round =>
    obtain ⟨p, rfl, hp1, hp2, hpow⟩ := hrel
    by_cases hlt : p < room
    · have HP := pow_double hpow.out (by omega)
      go_wp2
      go_round
      case rel => exact ⟨p * 2, by go_num, by omega, HP.1, HP.2⟩
      case measure => simp [intOf]; omega
    · obtain ⟨C, hC, hS, hmk⟩ := make_seats p (by omega)
      have HC := hid (And.intro hC hS)
      clear hC hS
      go_wp2
      go_ret2
      have h1 : ((w.alloc (.cells C 98)).alloc (.cells #[.int .i64 (room : Int), .int .i64 0, .int .i64 0, .int .i64 0, .slice (some ⟨w.heap.size, 0, none⟩) p p] 96)).heap[w.heap.size + 1]? = some (.cells #[.int .i64 (room : Int), .int .i64 0, .int .i64 0, .int .i64 0, .slice (some ⟨w.heap.size, 0, none⟩) p p] 96 (0, 0)) := by
        have := blk_new (w.alloc (.cells C 98)) (.cells #[.int .i64 (room : Int), .int .i64 0, .int .i64 0, .int .i64 0, .slice (some ⟨w.heap.size, 0, none⟩) p p] 96)
        rwa [show (w.alloc (.cells C 98)).heap.size = w.heap.size + 1 by simp] at this
      exact ⟨w.heap.size + 1, w.heap.size, rfl, ⟨p, 0, C, h1, blk_old (blk_new _ _) _, HC.out.1, hpow.out, by omega, by simp, by simp; omega, fun i hi => ⟨_, HC.out.2 i hi⟩, fun i q hq => by simp at hq⟩,
        ((Fr.refl (fun _ => False) w).alloc _ |>.alloc _).to_below (fun _ h => h.elim), by omega, by omega⟩

theorem RingAt.below {w w' : World} {r s room last n first : Nat} {l : List (Int × Int)} {C : Array Value} (h : RingAt w r s room last n first l C) (k : Below w.heap.size w w') : RingAt w' r s room last n first l C :=
  ⟨(k.block r (blk_lt h.hr)).trans h.hr, (k.block s (blk_lt h.hs)).trans h.hs, h.size, h.pow, h.flt, h.len, h.room_le, h.any, h.seats⟩
/-- Seats as cells. -/
def seatCells (l : List (Int × Int)) : List Value := l.flatMap fun p => [.int .i64 p.1, .int .i64 p.2]
theorem seat_take {l : List (Int × Int)} {k : Nat} {x : Int × Int} (h : l[k]? = some x) : seatCells (l.take (k + 1)) = seatCells (l.take k) ++ [.int .i64 x.1, .int .i64 x.2] := by
  rw [List.take_add_one, h]
  simp [seatCells]
/-- A row of seats has been made. -/
def OwnedSeats (w : World) (l : List (Int × Int)) (e : Ending) (w' : World) : Prop :=
  ∃ v, e = .returned v ∧ Below w.heap.size w w' ∧ w'.ownsRow w.heap.size 98 2 v l.length (seatCells l) ∧ (l = [] → v = .slice none 0 0)
set_option maxHeartbeats 400000 in
/-- The seats that are taken, as a list. -/
theorem list_any {w : World} {r s room last n first : Nat} {l : List (Int × Int)} {C : Array Value} (H : RingAt w r s room last n first l C) :
    Calls Try.prog 73 #[.pointer (some ⟨r, 0, none⟩)] w (OwnedSeats w l) := by
  have HH := hid H
  have hn2 := H.n_le
  have hl := H.len
  have hr := H.room_le
  obtain ⟨m, hm⟩ : ∃ m : Nat, m = l.length := ⟨_, rfl⟩
  have c3 : w.cell? ⟨r, 3, none⟩ = some (.int .i64 m) := by rw [hm]; exact blk_cell H.hr 3
  have HM := hid hm
  rw [← hm] at hl
  clear H hm
  obtain ⟨i0, hi, hz0, hz1, hz2⟩ := info_parts Try.info_seat
  go_enter Try.func73, Try.ntmps73
  go_wp2
  go_loopw [3, 4, 9] (fun v _ i wr => ∃ k : Nat, k ≤ m ∧ i = .int .i64 k ∧ Below w.heap.size w wr ∧ wr.ownsRow w.heap.size 98 2 v k (seatCells (l.take k)) ∧ Hid (k = 0 → v = .slice none 0 0)) (fun _ _ i _ => m - (intOf i).toNat)
  case atStart => exact ⟨0, by omega, rfl, Below.refl _ _, World.ownsRow_nil _ _ _ _, fun _ => rfl⟩
  case round =>
    obtain ⟨k, hk, rfl, hb, hown, hnil⟩ := hrel
    by_cases hlt : k < m
    · obtain ⟨x, hx⟩ : ∃ x, l[k]? = some x := ⟨l[k]'(by rw [← HM.out]; exact hlt), by simp⟩
      obtain ⟨hs1, hs2⟩ := HH.out.seats k x hx
      have hlts := blk_lt HH.out.hs
      have hatk := at_any (HH.out.below hb) k (by omega)
      have cx1 : wr.cell? ⟨s, (first + k) % n * 2, none⟩ = some (.int .i64 x.1) := (hb.cell hlts).trans ((blk_cell HH.out.hs _).trans hs1)
      have cx2 : wr.cell? ⟨s, (first + k) % n * 2 + 1, none⟩ = some (.int .i64 x.2) := (hb.cell hlts).trans ((blk_cell HH.out.hs _).trans hs2)
      have HX := hid hx
      have HAT := hid hatk
      generalize (first + k) % n = j at *
      clear hx hs1 hs2 hatk
      have hw := hb.size
      go_wp2_with (first | (go_at_call 70; refine HAT.out.mono ?_; rintro e w' ⟨rfl, q2, rfl⟩) | (at_builtin; refine append_new (W := wr.drewN _) rfl _ _ 94 rfl w.heap.size 98 i0 _ 2 16 Try.underlying94 hi hz0 hz1 hz2 rfl (by decide) #[.int .i64 x.1, .int .i64 x.2] _ k _ rfl _ rfl (by simp) (own_drewN hown _) rfl (two_one _ _) (by unfold maxLen; omega) (by omega) (by simp; omega) ?_))
      intro v' w1 hown' hfr hloc
      have HB := hid (below_fr hb _ hfr (own_ge hown))
      have HO := hid hown'
      clear hown' hfr hloc hb hown hw
      go_wp2
      go_roundw
      case rel => exact ⟨k + 1, by omega, by go_num, HB.out, by rw [seat_take HX.out]; exact HO.out, fun h => by omega⟩
      case measure => simp [intOf]; omega
    · have hkm : k = l.length := by rw [← HM.out]; omega
      have HB := hid hb
      have HO := hid hown
      have HK := hid hkm
      clear hb hown hkm
      go_wp2
      go_ret
      refine ⟨_, rfl, HB.out, ?_, fun h => hnil.out (by rw [HK.out, h]; rfl)⟩
      have := HO.out
      rw [HK.out, List.take_length] at this
      exact this
theorem ring_list {w : World} {r s : Nat} {R : RS} (H : IsRing w r s R) :
    Calls Try.prog 73 #[.pointer (some ⟨r, 0, none⟩)] w (OwnedSeats w R.l) := by
  obtain ⟨n, f, C, H⟩ := H
  exact list_any H

/-- Whole numbers as cells. -/
def intCells (l : List Int) : List Value := l.map (Value.int .i64)
theorem int_take {l : List Int} {k : Nat} {x : Int} (h : l[k]? = some x) : intCells (l.take (k + 1)) = intCells (l.take k) ++ [.int .i64 x] := by
  rw [List.take_add_one, h]
  simp [intCells]
/-- A row of whole numbers has been made. -/
def OwnedInts (w : World) (l : List Int) (e : Ending) (w' : World) : Prop :=
  ∃ v, e = .returned v ∧ Below w.heap.size w w' ∧ w'.ownsRow w.heap.size 3 1 v l.length (intCells l) ∧ (l = [] → v = .slice none 0 0)
def ids (l : List (Int × Int)) : List Int := l.map (·.1)
theorem ids_get {l : List (Int × Int)} {k : Nat} {x : Int × Int} (h : l[k]? = some x) : (ids l)[k]? = some x.1 := by simp [ids, h]
theorem seatCells_length (l : List (Int × Int)) : (seatCells l).length = l.length * 2 := by
  induction l with
  | nil => rfl
  | cons x l ih => simp [seatCells] at ih ⊢; omega
theorem seatCells_get : ∀ (l : List (Int × Int)) (k : Nat) (x : Int × Int), l[k]? = some x → (seatCells l)[k * 2]? = some (.int .i64 x.1) ∧ (seatCells l)[k * 2 + 1]? = some (.int .i64 x.2)
  | [], k, x, h => by simp at h
  | y :: l, 0, x, h => by simp at h; subst h; simp [seatCells]
  | y :: l, k + 1, x, h => by
    have ih := seatCells_get l k x (by simpa using h)
    have e : seatCells (y :: l) = .int .i64 y.1 :: .int .i64 y.2 :: seatCells l := by simp [seatCells]
    rw [e, show (k + 1) * 2 = k * 2 + 1 + 1 by omega]
    simpa using ih
theorem own_cell {w : World} {base g cap : Nat} {e : TypeId} {size n : Nat} {xs : List Value} (h : w.ownsRow base e size (.slice (some ⟨g, 0, none⟩) n cap) n xs) {j : Nat} {u : Value} (hj : xs[j]? = some u) : w.cell? ⟨g, j, none⟩ = some u := by
  have := h.cells (g := g) rfl j u hj
  have hadd : (⟨g, 0, none⟩ : Addr).add j = ⟨g, j, none⟩ := by unfold Addr.add; split <;> simp_all
  rwa [hadd] at this

set_option maxHeartbeats 400000 in
theorem ring_all {w : World} {r s : Nat} {R : RS} (H : IsRing w r s R) :
    Calls Try.prog 34 #[.pointer (some ⟨r, 0, none⟩)] w (OwnedInts w (ids R.l)) := by
  have HL := hid (ring_list H)
  obtain ⟨hl1, hl2⟩ := H.len
  obtain ⟨m, hm⟩ : ∃ m : Nat, m = R.l.length := ⟨_, rfl⟩
  have HM := hid hm
  rw [← hm] at hl1
  clear H hm
  obtain ⟨i0, hi, hz0, hz1, hz2⟩ := info_parts Try.info_int
  go_enter Try.func34, Try.ntmps34
  go_wp2_with (go_at_call 73; refine HL.out.mono ?_; rintro e w1 ⟨v0, rfl, hb1, hown1, hnil1⟩; obtain ⟨A, cap, rfl⟩ := own_slice hown1; rw [← HM.out] at hown1; rw [← HM.out])
  have HN := hid hnil1
  have HW1 := hid hb1
  have hz1w := hb1.size
  have HO1 := hid hown1
  clear hnil1 hb1 hown1 HL
  go_loopw [3, 9] (fun v i wr => ∃ k : Nat, k ≤ m ∧ i = .int .i64 k ∧ Below w1.heap.size w1 wr ∧ wr.ownsRow w1.heap.size 3 1 v k (intCells ((ids R.l).take k)) ∧ Hid (k = 0 → v = .slice none 0 0)) (fun _ i _ => m - (intOf i).toNat)
  case atStart => exact ⟨0, by omega, rfl, Below.refl _ _, World.ownsRow_nil _ _ _ _, fun _ => rfl⟩
  case round =>
    obtain ⟨k, hk, rfl, hb, hown, hnil⟩ := hrel
    by_cases hlt : k < m
    · obtain ⟨x, hx⟩ : ∃ x, R.l[k]? = some x := ⟨R.l[k]'(by rw [← HM.out]; exact hlt), by simp⟩
      obtain ⟨g, cap', cur, hv, hg1, hg2, _⟩ := own_shape HO1.out (by omega)
      cases hv
      obtain ⟨hs1, hs2⟩ := seatCells_get _ _ _ hx
      have hlg := blk_lt hg2
      have cx1 : wr.cell? ⟨g, k * 2, none⟩ = some (.int .i64 x.1) := (hb.cell hlg).trans (own_cell HO1.out hs1)
      have cx2 : wr.cell? ⟨g, k * 2 + 1, none⟩ = some (.int .i64 x.2) := (hb.cell hlg).trans (own_cell HO1.out hs2)
      have HX := hid hx
      clear hx hs1 hs2 hg2
      have hw := hb.size
      go_wp2_with (at_builtin; refine append_new rfl _ _ 22 rfl w1.heap.size 3 i0 _ 1 8 Try.underlying22 hi hz0 hz1 hz2 rfl (by decide) #[.int .i64 x.1] _ k _ rfl _ rfl (by simp) (hown.alloc _) rfl (one_one _) (by unfold maxLen; omega) (by omega) (by simp; omega) ?_)
      intro v' w2 hown' hfr hloc
      have HB := hid (below_fr (below_new hb _) 0 hfr (own_ge hown))
      have HO := hid hown'
      clear hown' hfr hloc hb hown hw cx1 cx2
      go_wp2
      go_roundw
      case rel => exact ⟨k + 1, by omega, by go_num, HB.out, by rw [int_take (ids_get HX.out)]; exact HO.out, fun h => by omega⟩
      case measure => simp [intOf]; omega
    · have hkm : k = (ids R.l).length := by simp [ids, ← HM.out]; omega
      have HB := hid hb
      have HO := hid hown
      have HK := hid hkm
      clear hb hown hkm
      go_wp2
      go_ret
      have hO := HO.out
      rw [HK.out, List.take_length] at hO
      exact ⟨_, rfl, below_then HW1.out HB.out, own_mono hO hz1w, fun h => hnil.out (by rw [HK.out, h]; rfl)⟩

/-- Drop: the list behind. -/
def dropL (l : List (Int × Int)) (id : Int) : List (Int × Int) := if place l id < 0 then l else l.eraseIdx (place l id).toNat
theorem seatCells_append (a b : List (Int × Int)) : seatCells (a ++ b) = seatCells a ++ seatCells b := by simp [seatCells]
theorem seatCells_one (l : List (Int × Int)) : ∀ u ∈ seatCells l, u.oneCell' = true := by
  intro u hu
  simp only [seatCells, List.mem_flatMap] at hu
  obtain ⟨p, _, hp⟩ := hu
  simp at hp
  rcases hp with rfl | rfl <;> rfl
theorem seatCells_take (l : List (Int × Int)) (k : Nat) : (seatCells l).take (k * 2) = seatCells (l.take k) := by
  have e := List.take_append_drop k l
  conv => lhs; rw [← e, seatCells_append]
  rcases Nat.lt_or_ge k l.length with h | h
  · exact List.take_left' (by rw [seatCells_length, List.length_take, Nat.min_eq_left (by omega)])
  · rw [List.drop_eq_nil_of_le h, List.take_of_length_le h]
    rw [show seatCells [] = [] from rfl, List.append_nil]
    exact List.take_of_length_le (by rw [seatCells_length]; omega)
theorem seatCells_drop (l : List (Int × Int)) (k : Nat) : (seatCells l).drop (k * 2) = seatCells (l.drop k) := by
  have e := List.take_append_drop k l
  conv => lhs; rw [← e, seatCells_append]
  rcases Nat.lt_or_ge k l.length with h | h
  · exact List.drop_left' (by rw [seatCells_length, List.length_take, Nat.min_eq_left (by omega)])
  · rw [List.drop_eq_nil_of_le h, List.take_of_length_le h]
    rw [show seatCells [] = [] from rfl, List.append_nil]
    exact List.drop_eq_nil_of_le (by rw [seatCells_length]; omega)
theorem seatCells_erase (l : List (Int × Int)) (k : Nat) : seatCells (l.take k) ++ seatCells (l.drop (k + 1)) = seatCells (l.eraseIdx k) := by
  rw [← seatCells_append, List.eraseIdx_eq_take_drop_succ]
theorem seat_of_cells {l : List (Int × Int)} {C : Array Value} {k : Nat} {x : Int × Int} (h : l[k]? = some x) (T : List Value) (hC : C.toList = seatCells l ++ T) : Seat C k x := by
  have hk := (List.getElem?_eq_some_iff.1 h).1
  have hl := seatCells_length l
  obtain ⟨h1, h2⟩ := seatCells_get l k x h
  constructor
  · rw [← Array.getElem?_toList, hC, List.getElem?_append_left (by omega)]; exact h1
  · rw [← Array.getElem?_toList, hC, List.getElem?_append_left (by omega)]; exact h2

set_option maxHeartbeats 400000 in
theorem drop_none {w : World} {r s : Nat} {R : RS} (H : IsRing w r s R) (id : Int) (h1 : place R.l id < 0) :
    Calls Try.prog 33 #[.pointer (some ⟨r, 0, none⟩), .int .i64 id] w fun e w' => e = .returned (.bool false) ∧ ∃ q, w' = w.drewN q := by
  have HP := hid (ring_place H id)
  clear H
  generalize place R.l id = pl at *
  go_enter Try.func33, Try.ntmps33
  go_wp2_with (go_at_call 18; refine HP.out.mono ?_; rintro e w' ⟨rfl, q2, rfl⟩)
  go_ret
  exact ⟨rfl, _, rfl⟩

theorem add_off (g o j : Nat) : (⟨g, o, none⟩ : Addr).add j = ⟨g, o + j, none⟩ := by
  unfold Addr.add
  split <;> first | rfl | simp_all
theorem drop_news {w : World} {g m k cap : Nat} {l : List (Int × Int)} {cur : Array Value} {t : TypeId} (hm : m = l.length) (hcur : cur.toList.take (m * 2) = seatCells l) (hk : k < m) (hc : m ≤ cap) (hg : w.heap[g]? = some (.cells cur t (0, 0))) :
    ∃ A, (if cap = k + 1 then some (⟨g, 0, none⟩ : Addr) else some ⟨g, (k + 1) * 2, none⟩) = some A ∧ ∀ j u, (seatCells (l.drop (k + 1)))[j]? = some u → w.cell? (A.add j) = some u := by
  by_cases h : cap = k + 1
  · rw [if_pos h]
    refine ⟨_, rfl, fun j u hj => ?_⟩
    rw [List.drop_eq_nil_of_le (by omega), show seatCells [] = [] from rfl] at hj
    simp at hj
  · rw [if_neg h]
    refine ⟨_, rfl, fun j u hj => ?_⟩
    rw [← seatCells_drop, List.getElem?_drop, ← hcur] at hj
    rw [add_off, blk_cell hg]
    rw [List.getElem?_take] at hj
    split at hj
    · simpa using hj
    · cases hj
theorem drop_row {m k : Nat} {l : List (Int × Int)} {cur : Array Value} (hm : m = l.length) (hcur : cur.toList.take (m * 2) = seatCells l) (hk : k < m) : cur.toList.take (k * 2) = seatCells (l.take k) := by
  rw [← seatCells_take, ← hcur, List.take_take, Nat.min_eq_left (by omega)]
theorem drop_src {w : World} {g k e : Nat} {l : List (Int × Int)} {cur : Array Value} {t : TypeId} (hT : cur.toList.take (k * 2) = seatCells (l.take k))
    (hg : w.heap[g]? = some (.cells (cur.toList.take (k * 2) ++ seatCells (l.drop (k + 1)) ++ cur.toList.drop e).toArray t (0, 0))) : ∀ j u, (seatCells (l.eraseIdx k))[j]? = some u → w.cell? ((⟨g, 0, none⟩ : Addr).add j) = some u := by
  intro j u hj
  have hl := (List.getElem?_eq_some_iff.1 hj).1
  rw [add_off, blk_cell hg, hT, seatCells_erase, List.getElem?_toArray, Nat.zero_add, List.getElem?_append_left hl]
  exact hj
theorem RingAt.drop {w : World} {r s room last n first : Nat} {l : List (Int × Int)} {C : Array Value} (h : RingAt w r s room last n first l C) {l' : List (Int × Int)} (hl' : l'.length ≤ l.length) {w1 : World} {C' : Array Value} (hC : C' = (seatCells l' ++ C.toList.drop (seatCells l').length).toArray)
    (hs : w1.heap[s]? = some (.cells C' 98 (0, 0))) (hr : w1.heap[r]? = w.heap[r]?) :
    RingAt ((w1.setCell ⟨r, 2, none⟩ (.int .i64 0)).setCell ⟨r, 3, none⟩ (.int .i64 ((l'.length : Nat) : Int))) r s room last n 0 l' C' := by
  have hf := h.flt
  have hl := h.len
  have hrl := h.room_le
  have hln := seatCells_length l'
  have hsz := h.size
  refine ⟨?_, blk_set_ne (blk_set_ne hs h.ne _ _) h.ne _ _, ?_, h.pow, by omega, by omega, hrl, fun i hi => ?_, fun i p hp => ?_⟩
  · rw [blk_set (blk_set (hr.trans h.hr) _ _) _ _]
    simp
  · rw [hC]
    simp [hln, hsz]
    omega
  · rcases Nat.lt_or_ge i l'.length with hi' | hi'
    · exact ⟨l'[i], seat_of_cells (List.getElem?_eq_getElem hi') _ (by rw [hC])⟩
    · obtain ⟨q, hq1, hq2⟩ := h.any i hi
      refine ⟨q, ?_, ?_⟩
      · rw [hC]
        simp only [List.getElem?_toArray]
        rw [List.getElem?_append_right (by omega), List.getElem?_drop]
        rw [show (seatCells l').length + (i * 2 - (seatCells l').length) = i * 2 by omega]
        simpa using hq1
      · rw [hC]
        simp only [List.getElem?_toArray]
        rw [List.getElem?_append_right (by omega), List.getElem?_drop]
        rw [show (seatCells l').length + (i * 2 + 1 - (seatCells l').length) = i * 2 + 1 by omega]
        simpa using hq2
  · have hi := (List.getElem?_eq_some_iff.1 hp).1
    rw [show (0 + i) % n = i by rw [Nat.zero_add]; exact Nat.mod_eq_of_lt (by omega)]
    exact seat_of_cells hp _ (by rw [hC])

set_option maxHeartbeats 800000 in
set_option maxRecDepth 100000 in
theorem drop_some {w : World} {r s room last n first : Nat} {l : List (Int × Int)} {C : Array Value} (H : RingAt w r s room last n first l C) (id : Int) (k : Nat) (h1 : place l id = k) :
    Calls Try.prog 33 #[.pointer (some ⟨r, 0, none⟩), .int .i64 id] w fun e w' => e = .returned (.bool true) ∧ (∃ C', RingAt w' r s room last n 0 (l.eraseIdx k) C') ∧ Fr (Two r s) w w' := by
  have hpl := place_any H id
  have hge := place_ge l id
  rw [h1] at hpl hge
  have HP := hid hpl
  have HH := hid H
  have hn2 := H.n_le
  have hl := H.len
  have hr := H.room_le
  obtain ⟨m, hm⟩ : ∃ m : Nat, m = l.length := ⟨_, rfl⟩
  rw [← hm] at hge hl
  have HM := hid hm
  clear H hpl h1 hm
  obtain ⟨i0, hi, hz0, hz1, hz2⟩ := info_parts Try.info_seat
  go_enter Try.func33, Try.ntmps33
  go_wp2_with fail
  refine HP.out.mono ?_
  rintro e w' ⟨rfl, q2, rfl⟩
  go_wp2_with fail
  refine (list_any (HH.out.drewN _)).mono ?_
  rintro e w1 ⟨v0, rfl, hb1, hown1, _⟩
  rw [← HM.out] at hown1
  obtain ⟨g, cap, cur, rfl, hg1, hg2, hg3, hg4, hg5, hg6⟩ := own_shape hown1 (by omega)
  have HG := hid (And.intro hg2 (And.intro hg5 hg6))
  have HB := hid hb1
  clear hown1 hg2 hg5 hg6 hg4 hb1
  go_wp2_with fail
  have HW := HH.out.drewN q2 |>.below HB.out
  have c4 : w1.cell? ⟨r, 4, none⟩ = some (.slice (some ⟨s, 0, none⟩) n n) := blk_cell HW.hr 4
  have c2 : w1.cell? ⟨r, 2, none⟩ = some (.int .i64 first) := blk_cell HW.hr 2
  have c3 : w1.cell? ⟨r, 3, none⟩ = some (.int .i64 m) := by rw [HM.out]; exact blk_cell HW.hr 3
  have hk1 : (0 : Int) ≤ (k : Int) := by omega
  have hk2 : (k : Int) ≤ (cap : Int) := by omega
  have hk3 : (0 : Int) ≤ (k : Int) + 1 := by omega
  have hk4 : (k : Int) + 1 ≤ (m : Int) := by omega
  have hk5 : (m : Int) ≤ (cap : Int) := by omega
  have e1 : IntKind.i64.wrap ((k : Int) + 1) = (k : Int) + 1 := wraps_i64 _ (by omega) (by omega)
  have e2 : ((k : Int) + 1).toNat = k + 1 := by omega
  have hrg : r ≠ g := by have := blk_lt HH.out.hr; have h2 : (w.drewN q2).heap.size = w.heap.size := rfl; omega
  have hsg : s ≠ g := by have := blk_lt HH.out.hs; have h2 : (w.drewN q2).heap.size = w.heap.size := rfl; omega
  obtain ⟨A, hA, hN⟩ := drop_news (w := w1.drew) (k := k) HM.out HG.out.2.2 (by omega) hg3 HG.out.1
  have hL : (seatCells (l.drop (k + 1))).length = (m - (k + 1)) * 2 := by rw [seatCells_length, List.length_drop, ← HM.out]
  have hFit : k * 2 + (seatCells (l.drop (k + 1))).length ≤ cur.size := by rw [hL, HG.out.2.1]; omega
  have hEl : (l.eraseIdx k).length = m - 1 := by rw [List.length_eraseIdx_of_lt (by rw [← HM.out]; omega), ← HM.out]
  have hEc : (seatCells (l.eraseIdx k)).length = (m - 1) * 2 := by rw [seatCells_length, hEl]
  have hT := drop_row HM.out HG.out.2.2 (show k < m by omega)
  have HHW := hid HW
  have HN := hid hN
  have HL := hid hL
  have HF := hid hFit
  have HEL := hid hEl
  have HEC := hid hEc
  have HT := hid hT
  have hMin : m - 1 = Nat.min (k + (m - (k + 1))) n := by rw [show k + (m - (k + 1)) = m - 1 by omega]; exact (Nat.min_eq_left (by omega)).symm
  have HMIN := hid hMin
  have hFC : (seatCells (l.eraseIdx k)).length ≤ C.size := by rw [hEc, HW.size]; omega
  have HFC := hid hFC
  have hrs := HW.ne.symm
  have hF2x : Hid (∀ w2 : World, Fr (fun k => k = g) w1.drew w2 → w2.heap[r]? = some (.cells #[.int .i64 room, .int .i64 last, .int .i64 first, .int .i64 l.length, .slice (some ⟨s, 0, none⟩) n n] 96 (0, 0))) := fun w2 h => h.blk HW.hr hrg
  clear HW hN hL hFit hEl hEc hT hMin hFC
  go_region_law (first
    | (refine step_append_row rfl (.tmp 22) (.tmp 26) 94 rfl 98 i0 2 Try.underlying94 hi hz1 g k cap (by simp [Act.eval, Act.put]) A (m - (k + 1)) (cap - (k + 1)) (by simp [Act.eval, Act.put]) cur HG.out.1 (seatCells (l.drop (k + 1))) HL.out HN.out (seatCells_one _) (by omega) HF.out ?_
       intro w2 hg2 hF2
       have HG2 := hid hg2
       have HF2 := hid hF2
       have c22 := hF2.cell (p := ⟨r, 2, none⟩) c2 hrg
       have c42 := hF2.cell (p := ⟨r, 4, none⟩) c4 hrg
       have c32 := hF2.cell (p := ⟨r, 3, none⟩) c3 hrg
       clear hg2 hF2)
    | (refine step_copy_row rfl (.tmp 19) (.tmp 27) 94 94 rfl 98 2 Try.underlying94 Try.size_seat s n n (by simp [Act.eval, Act.put]) ⟨g, 0, none⟩ (k + (m - (k + 1))) cap (by simp [Act.eval, Act.put]) C 98 (HF2.out.blk HHW.out.hs hsg) (seatCells (l.eraseIdx k)) (m - 1) HMIN.out HEC.out (drop_src HT.out HG2.out) HFC.out (seatCells_one _) ?_
       intro w3 hg3' hF3
       have HG3 := hid hg3'
       have HF3 := hid hF3
       have c23 := hF3.cell (p := ⟨r, 2, none⟩) c22 hrs
       have c33 := hF3.cell (p := ⟨r, 3, none⟩) c32 hrs
       have hr3 := hF3.blk (hF2x.out _ HF2.out) hrs
       have f23 : w3.frozen? ⟨r, 2, none⟩ = false := blk_free hr3 2
       have f33 : w3.frozen? ⟨r, 3, none⟩ = false := blk_free hr3 3
       have HR3 := hid hr3
       clear hg3' hF3 hr3))
  all_goals
    go_wp2
    go_ret
    have hR := HHW.out.drop (l' := l.eraseIdx k) (by rw [HEL.out, ← HM.out]; omega) rfl HG3.out (HR3.out.trans HHW.out.hr.symm)
    rw [HEL.out] at hR
    refine ⟨rfl, ⟨_, hR⟩, ?_⟩
    have F1 := ((Fr.refl (Two r s) w).drewN q2).trans (Fr.of_below (S := fun _ => False) HB.out) (fun _ h => h.elim)
    exact ((((F1.drew).trans HF2.out (fun x hx => .inr (by rw [hx]; exact hg1))).trans HF3.out (fun x hx => .inl (.inr hx))).set (.inl (.inl rfl)) _).set (.inl (.inl rfl)) _
/-- What Drop does. -/
theorem ring_drop {w : World} {r s : Nat} {R : RS} (H : IsRing w r s R) (id : Int) :
    Calls Try.prog 33 #[.pointer (some ⟨r, 0, none⟩), .int .i64 id] w fun e w' => e = .returned (.bool (decide (0 ≤ place R.l id))) ∧ IsRing w' r s ⟨R.room, R.last, dropL R.l id⟩ ∧ Fr (Two r s) w w' := by
  by_cases h : place R.l id < 0
  · refine (drop_none H id h).mono fun e w' ⟨he, q, hw⟩ => ⟨?_, ?_, ?_⟩
    · rw [he, decide_eq_false (by omega)]
    · rw [hw]; unfold dropL; rw [if_pos h]; exact H.drewN q
    · rw [hw]; exact (Fr.refl _ _).drewN q
  · obtain ⟨n, f, C, H⟩ := H
    refine (drop_some H id (place R.l id).toNat (by omega)).mono fun e w' ⟨he, hR, hF⟩ => ⟨?_, ?_, hF⟩
    · rw [he, decide_eq_true (by omega)]
    · obtain ⟨C', hR⟩ := hR
      unfold dropL
      rw [if_neg h]
      exact ⟨n, 0, C', hR⟩
end Go.Proofs.Ytcbpbgjngeemoaa
