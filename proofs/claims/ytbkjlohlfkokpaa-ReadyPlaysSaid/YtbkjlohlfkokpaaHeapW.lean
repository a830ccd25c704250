/- Package heap: the comparison, less, set, swap (contracts), on the row of items. -/
import Derived.Test.YtbkjlohlfkokpaaHeapPlain
import Derived.Test.YtbkjlohlfkokpaaSrc
import Derived.Test.YtbkjlohlfkokpaaSort
set_option linter.unusedVariables false
set_option linter.unusedSimpArgs false
namespace Go.Proofs.Ytbkjlohlfkokpaa
open Go.RowKit

theorem wp_region_class {P : Program} {C : World → Prop} {id : Nat} {Q : Exit → Act → World → Prop} {a : Act} {w : World} {l : List Oper} (hm : P.follows .mixedOrders = true) (hB : Region.lexB .any l.toArray = true) (hC : C w.drew)
    (h : wpQuiet P l.toArray C (fun a' => ∀ w', C w' → Q .normal a' w') l a) : (Code.region id l.toArray true).wp P Q a w :=
  wp_region_quiet (C := C) hm hB hC (by simpa using h)
def encI (x : It) : List Value := [.int .i64 x.id, .int .i64 x.key, .int .i64 x.turn]
theorem encI_len (x : It) : (encI x).length = 3 := rfl
theorem encI_one (x : It) : ∀ u ∈ encI x, u.oneCell' = true := by
  intro u hu
  simp [encI] at hu
  rcases hu with rfl | rfl | rfl <;> rfl
def cmpI (x y : It) : Int := if Lib.compareInt x.key y.key = 0 then Lib.compareInt x.turn y.turn else Lib.compareInt x.key y.key
theorem cmpI_lt (x y : It) : cmpI x y < 0 ↔ ltI x y := by
  unfold cmpI Lib.compareInt ltI
  split <;> (repeat' split) <;> omega
theorem cmpI_dec (x y : It) : decide (cmpI x y < 0) = decide (ltI x y) := by
  by_cases h : ltI x y
  · rw [decide_eq_true h, decide_eq_true ((cmpI_lt x y).2 h)]
  · rw [decide_eq_false h, decide_eq_false (fun h2 => h ((cmpI_lt x y).1 h2))]
section
variable {w w' : World}
/-- cmp.Or of two. -/
theorem cmp_or2 {x y r : Int} {s : Nat} (hr : (if x = 0 then y else x) = r) (hb : w.heap[s]? = some (.cells #[.int .i64 x, .int .i64 y] 3 (0, 0))) :
    Calls Try.prog 69 #[.slice (some ⟨s, 0, none⟩) 2 2] w fun e w' => e = .returned (.int .i64 r) ∧ w' = w := by
  have k0 : w.cell? ⟨s, 0, none⟩ = some (.int .i64 x) := blk_cell hb 0
  have k1 : w.cell? ⟨s, 1, none⟩ = some (.int .i64 y) := blk_cell hb 1
  clear hb
  have HR := hid hr
  clear hr
  go_enter Try.func69, Try.ntmps69
  go_wp2_with fail
  refine wp_loop_rounds 3 ?_
  rw [rounds_succ]
  go_wp2_with fail
  · have h : x ≠ 0 := by simp_all
    go_ret
    exact ⟨ret_eq (int_eq (by rw [← HR.out, if_neg h])), rfl⟩
  · have h : x = 0 := by simp_all
    have HX := hid h
    clear h
    rw [rounds_succ]
    go_wp2_with fail
    · have h : y ≠ 0 := by simp_all
      go_ret
      exact ⟨ret_eq (int_eq (by rw [← HR.out, if_pos HX.out])), rfl⟩
    · have h : y = 0 := by simp_all
      have HY := hid h
      clear h
      rw [rounds_succ]
      go_wp2_with fail
      go_ret
      exact ⟨ret_eq (int_eq (by rw [← HR.out, if_pos HX.out, HY.out])), rfl⟩
set_option maxRecDepth 100000 in
set_option maxHeartbeats 1600000 in
theorem item_cmp (x y : It) : Calls Try.prog 75 #[.agg #[.int .i64 x.id, .int .i64 x.key, .int .i64 x.turn], .agg #[.int .i64 y.id, .int .i64 y.key, .int .i64 y.turn]] w fun e w' => e = .returned (.int .i64 (cmpI x y)) ∧ Grows w w' := by
  obtain ⟨xi, xk, xt⟩ := x
  obtain ⟨yi, yk, yt⟩ := y
  obtain ⟨r, hrr⟩ : ∃ r, cmpI ⟨xi, xk, xt⟩ ⟨yi, yk, yt⟩ = r := ⟨_, rfl⟩
  have hr : (if Lib.compareInt xk yk = 0 then Lib.compareInt xt yt else Lib.compareInt xk yk) = r := by rw [← hrr]; rfl
  rw [hrr]
  have HCI := hid (fun a b (W : World) => Try.cmp_Compare_int a b W)
  obtain ⟨r1, hr1⟩ : ∃ r, Lib.compareInt xk yk = r := ⟨_, rfl⟩
  obtain ⟨r2, hr2⟩ : ∃ r, Lib.compareInt xt yt = r := ⟨_, rfl⟩
  have HC1 : Hid (∀ W, Calls Try.prog 70 #[.int .i64 xk, .int .i64 yk] W fun e w' => e = .returned (.int .i64 r1) ∧ w' = W) := by rw [← hr1]; exact hid (fun W => HCI.out xk yk W)
  have HC2 : Hid (∀ W, Calls Try.prog 70 #[.int .i64 xt, .int .i64 yt] W fun e w' => e = .returned (.int .i64 r2) ∧ w' = W) := by rw [← hr2]; exact hid (fun W => HCI.out xt yt W)
  rw [hr1, hr2] at hr
  have HR := hid hr
  clear hr hr1 hr2 HCI hrr
  go_enter Try.func75, Try.ntmps75
  go_upto_region 1 with fail
  have hb0 := blk_old (blk_new w (.cells #[.int .i64 xi, .int .i64 xk, .int .i64 xt] 99)) (.cells #[.int .i64 yi, .int .i64 yk, .int .i64 yt] 99)
  have hb1 := blk_new (w.alloc (.cells #[.int .i64 xi, .int .i64 xk, .int .i64 xt] 99)) (.cells #[.int .i64 yi, .int .i64 yk, .int .i64 yt] 99)
  have hs1 : (w.alloc (.cells #[.int .i64 xi, .int .i64 xk, .int .i64 xt] 99)).heap.size = w.heap.size + 1 := by simp
  rw [hs1] at hb1
  have hg : Grows w ((w.alloc (.cells #[.int .i64 xi, .int .i64 xk, .int .i64 xt] 99)).alloc (.cells #[.int .i64 yi, .int .i64 yk, .int .i64 yt] 99)) := ((Grows.refl w).alloc _).alloc _
  generalize ((w.alloc (.cells #[.int .i64 xi, .int .i64 xk, .int .i64 xt] 99)).alloc (.cells #[.int .i64 yi, .int .i64 yk, .int .i64 yt] 99)) = wc at *
  have G70 := hid (fun W (h : Grows wc W) => h.cell (p := ⟨w.heap.size, 1, none⟩) (v := .int .i64 xk) (blk_cell hb0 1))
  have G71 := hid (fun W (h : Grows wc W) => h.cell (p := ⟨w.heap.size, 2, none⟩) (v := .int .i64 xt) (blk_cell hb0 2))
  have G80 := hid (fun W (h : Grows wc W) => h.cell (p := ⟨w.heap.size + 1, 1, none⟩) (v := .int .i64 yk) (blk_cell hb1 1))
  have G81 := hid (fun W (h : Grows wc W) => h.cell (p := ⟨w.heap.size + 1, 2, none⟩) (v := .int .i64 yt) (blk_cell hb1 2))
  have HG := hid hg
  clear hg hb0 hb1 hs1
  refine wp_region_held_drew (S := Grows wc) (by kernel_rfl) (Grows.drew wc) (fun hHeld => ?_)
  refine wpAnyH_take (i := 0) (oi := ?oib0) (v := ?vb0) ?hib0 (by kernel_rfl) (by kernel_rfl) (by kernel_rfl) ?hqb0 (Or.inl ⟨?wab0, ?hyb0⟩) (by assumption) ?hrb0
  case hib0 => (simp only [List.getElem?_toArray, List.getElem?_cons_succ, List.getElem?_cons_zero]; rfl)
  case wab0 => rfl
  case hyb0 => ((intro w hSw; (try dsimp only at hSw); go_simp); all_goals (with_reducible rfl))
  case hqb0 => exact fun _ _ _ h => h
  try simp only [Act.put, List.setIfInBounds_toArray, List.set_cons_zero, List.set_cons_succ]
  refine wpAnyH_take (i := 1) (oi := ?oib1) (v := ?vb1) ?hib1 (by kernel_rfl) (by kernel_rfl) (by kernel_rfl) ?hqb1 (Or.inl ⟨?wab1, ?hyb1⟩) (by assumption) ?hrb1
  case hib1 => (simp only [List.getElem?_toArray, List.getElem?_cons_succ, List.getElem?_cons_zero]; rfl)
  case wab1 => rfl
  case hyb1 => ((intro w hSw; have q0 := G70.out w hSw; (try dsimp only at hSw); go_simp); all_goals (with_reducible rfl))
  case hqb1 => exact fun _ _ _ h => h
  try simp only [Act.put, List.setIfInBounds_toArray, List.set_cons_zero, List.set_cons_succ]
  refine wpAnyH_take (i := 2) (oi := ?oib2) (v := ?vb2) ?hib2 (by kernel_rfl) (by kernel_rfl) (by kernel_rfl) ?hqb2 (Or.inl ⟨?wab2, ?hyb2⟩) (by assumption) ?hrb2
  case hib2 => (simp only [List.getElem?_toArray, List.getElem?_cons_succ, List.getElem?_cons_zero]; rfl)
  case wab2 => rfl
  case hyb2 => ((intro w hSw; (try dsimp only at hSw); go_simp); all_goals (with_reducible rfl))
  case hqb2 => exact fun _ _ _ h => h
  try simp only [Act.put, List.setIfInBounds_toArray, List.set_cons_zero, List.set_cons_succ]
  refine wpAnyH_take (i := 3) (oi := ?oib3) (v := ?vb3) ?hib3 (by kernel_rfl) (by kernel_rfl) (by kernel_rfl) ?hqb3 (Or.inl ⟨?wab3, ?hyb3⟩) (by assumption) ?hrb3
  case hib3 => (simp only [List.getElem?_toArray, List.getElem?_cons_succ, List.getElem?_cons_zero]; rfl)
  case wab3 => rfl
  case hyb3 => ((intro w hSw; have q0 := G80.out w hSw; (try dsimp only at hSw); go_simp); all_goals (with_reducible rfl))
  case hqb3 => exact fun _ _ _ h => h
  try simp only [Act.put, List.setIfInBounds_toArray, List.set_cons_zero, List.set_cons_succ]
  refine wpAnyH_take (i := 5) (oi := ?oib5) (v := ?vb5) ?hib5 (by kernel_rfl) (by kernel_rfl) (by kernel_rfl) ?hqb5 (Or.inl ⟨?wab5, ?hyb5⟩) (by assumption) ?hrb5
  case hib5 => (simp only [List.getElem?_toArray, List.getElem?_cons_succ, List.getElem?_cons_zero]; rfl)
  case wab5 => rfl
  case hyb5 => ((intro w hSw; (try dsimp only at hSw); go_simp); all_goals (with_reducible rfl))
  case hqb5 => exact fun _ _ _ h => h
  try simp only [Act.put, List.setIfInBounds_toArray, List.set_cons_zero, List.set_cons_succ]
  refine wpAnyH_take (i := 6) (oi := ?oib6) (v := ?vb6) ?hib6 (by kernel_rfl) (by kernel_rfl) (by kernel_rfl) ?hqb6 (Or.inl ⟨?wab6, ?hyb6⟩) (by assumption) ?hrb6
  case hib6 => (simp only [List.getElem?_toArray, List.getElem?_cons_succ, List.getElem?_cons_zero]; rfl)
  case wab6 => rfl
  case hyb6 => ((intro w hSw; have q0 := G71.out w hSw; (try dsimp only at hSw); go_simp); all_goals (with_reducible rfl))
  case hqb6 => exact fun _ _ _ h => h
  try simp only [Act.put, List.setIfInBounds_toArray, List.set_cons_zero, List.set_cons_succ]
  refine wpAnyH_take (i := 7) (oi := ?oib7) (v := ?vb7) ?hib7 (by kernel_rfl) (by kernel_rfl) (by kernel_rfl) ?hqb7 (Or.inl ⟨?wab7, ?hyb7⟩) (by assumption) ?hrb7
  case hib7 => (simp only [List.getElem?_toArray, List.getElem?_cons_succ, List.getElem?_cons_zero]; rfl)
  case wab7 => rfl
  case hyb7 => ((intro w hSw; (try dsimp only at hSw); go_simp); all_goals (with_reducible rfl))
  case hqb7 => exact fun _ _ _ h => h
  try simp only [Act.put, List.setIfInBounds_toArray, List.set_cons_zero, List.set_cons_succ]
  refine wpAnyH_take (i := 8) (oi := ?oib8) (v := ?vb8) ?hib8 (by kernel_rfl) (by kernel_rfl) (by kernel_rfl) ?hqb8 (Or.inl ⟨?wab8, ?hyb8⟩) (by assumption) ?hrb8
  case hib8 => (simp only [List.getElem?_toArray, List.getElem?_cons_succ, List.getElem?_cons_zero]; rfl)
  case wab8 => rfl
  case hyb8 => ((intro w hSw; have q0 := G81.out w hSw; (try dsimp only at hSw); go_simp); all_goals (with_reducible rfl))
  case hqb8 => exact fun _ _ _ h => h
  try simp only [Act.put, List.setIfInBounds_toArray, List.set_cons_zero, List.set_cons_succ]
  refine wpAnyH_ready (rs := [4]) (by kernel_rfl) (by simp) ?_
  refine (AllReadyH.cons (i := 4) (o := ?ob4) ?hib4 ?stb4 AllReadyH.nil)
  case hib4 => (simp only [List.getElem?_toArray, List.getElem?_cons_succ, List.getElem?_cons_zero]; rfl)
  case stb4 =>
    intro K hK
    go_simp
    refine (HC1.out _).mono ?_
    rintro e w' ⟨rfl, rfl⟩
    go_wp2_with fail
    refine hK.out _ _ ?_ (fun hHeld => ?_)
    · first | exact Grows.drew wc | exact ((Grows.refl wc).alloc _).drewN 1
    clear hK K
    try simp only [Act.put, List.setIfInBounds_toArray, List.set_cons_zero, List.set_cons_succ]
    refine wpAnyH_ready (rs := [9]) (by kernel_rfl) (by simp) ?_
    refine (AllReadyH.cons (i := 9) (o := ?ob4_9) ?hib4_9 ?stb4_9 AllReadyH.nil)
    case hib4_9 => (simp only [List.getElem?_toArray, List.getElem?_cons_succ, List.getElem?_cons_zero]; rfl)
    case stb4_9 =>
      intro K hK
      go_simp
      refine (HC2.out _).mono ?_
      rintro e w' ⟨rfl, rfl⟩
      go_wp2_with fail
      refine hK.out _ _ ?_ (fun hHeld => ?_)
      · first | exact Grows.drew wc | exact ((Grows.refl wc).alloc _).drewN 1
      clear hK K
      try simp only [Act.put, List.setIfInBounds_toArray, List.set_cons_zero, List.set_cons_succ]
      refine wpAnyH_ready (rs := [10]) (by kernel_rfl) (by simp) ?_
      refine (AllReadyH.cons (i := 10) (o := ?ob4_9_10) ?hib4_9_10 ?stb4_9_10 AllReadyH.nil)
      case hib4_9_10 => (simp only [List.getElem?_toArray, List.getElem?_cons_succ, List.getElem?_cons_zero]; rfl)
      case stb4_9_10 =>
        intro K hK
        go_simp
        go_wp2_with fail
        refine hK.out _ _ ?_ (fun hHeld => ?_)
        · first | exact Grows.drew wc | exact ((Grows.refl wc).alloc _).drewN 1
        clear hK K
        try simp only [Act.put, List.setIfInBounds_toArray, List.set_cons_zero, List.set_cons_succ]
        refine wpAnyH_ready (rs := [11]) (by kernel_rfl) (by simp) ?_
        refine (AllReadyH.cons (i := 11) (o := ?ob4_9_10_11) ?hib4_9_10_11 ?stb4_9_10_11 AllReadyH.nil)
        case hib4_9_10_11 => (simp only [List.getElem?_toArray, List.getElem?_cons_succ, List.getElem?_cons_zero]; rfl)
        case stb4_9_10_11 =>
          intro K hK
          go_simp
          refine (cmp_or2 (w := (wc.alloc (.cells #[.int .i64 r1, .int .i64 r2] 3)).drew) (s := wc.heap.size) HR.out (blk_new wc _)).mono ?_
          rintro e w' ⟨rfl, rfl⟩
          go_wp2_with fail
          refine hK.out _ _ ?_ (fun hHeld => ?_)
          · first | exact Grows.drew wc | exact ((Grows.refl wc).alloc _).drewN 1
          clear hK K
          try simp only [Act.put, List.setIfInBounds_toArray, List.set_cons_zero, List.set_cons_succ]
          refine wpAnyH_ready (rs := [12]) (by kernel_rfl) (by simp) ?_
          refine (AllReadyH.cons (i := 12) (o := ?ob4_9_10_11_12) ?hib4_9_10_11_12 ?stb4_9_10_11_12 AllReadyH.nil)
          case hib4_9_10_11_12 => (simp only [List.getElem?_toArray, List.getElem?_cons_succ, List.getElem?_cons_zero]; rfl)
          case stb4_9_10_11_12 =>
            intro K hK
            go_simp
            go_wp2_with fail
            refine hK.out _ _ ?_ (fun hHeld => ?_)
            · first | exact Grows.drew wc | exact ((Grows.refl wc).alloc _).drewN 1
            clear hK K
            try simp only [Act.put, List.setIfInBounds_toArray, List.set_cons_zero, List.set_cons_succ]
            refine wpAnyH_done (by kernel_rfl) ?_ _
            go_wp2_with fail
            go_ret
            exact ⟨rfl, HG.out.trans (((Grows.refl wc).alloc _).drewN 1)⟩
/-- Block h is a heap: its room, its turn, its row's slice, its map; the row holds a, the map reads as f. -/
structure HRaw (w : World) (base h bm : Nat) (v : Value) (M : Nat) (room turn : Int) (a : List It) (f : Int → Option Int) : Prop where
  hb : w.heap[h]? = some (.cells #[.int .i64 room, .int .i64 turn, v, .map (some bm)] 97 (0, 0))
  row : w.ownsRow base 99 3 v a.length (flat encI a)
  map : MapIs Try.prog 3 3 w bm M f
  lo : base ≤ h ∧ base ≤ bm
def HSet (h bm : Nat) (v : Value) : Nat → Prop := fun k => k = h ∨ k = bm ∨ v.ownBlock = some k
variable {base h bm M : Nat} {v : Value} {room turn : Int} {a : List It} {f : Int → Option Int}
theorem HRaw.ap (H : HRaw w base h bm v M room turn a f) : ∀ k, v.ownBlock = some k → k ≠ h := kind_ne H.row H.hb (by decide)
theorem HRaw.mapb (H : HRaw w base h bm v M room turn a f) : ∃ es c, w.heap[bm]? = some (.map es c) := by
  obtain ⟨D, ⟨es, clock, hm, _⟩, _⟩ := H.map
  exact ⟨es, clock, hm⟩
theorem HRaw.apm (H : HRaw w base h bm v M room turn a f) : ∀ k, v.ownBlock = some k → k ≠ bm := fun k hk => by
  obtain ⟨D, hD⟩ := own_kind H.row hk
  obtain ⟨es, c, hm⟩ := H.mapb
  exact blk_ne hD hm cells_map
theorem HRaw.hm (H : HRaw w base h bm v M room turn a f) : h ≠ bm := by
  obtain ⟨es, c, hm⟩ := H.mapb
  exact blk_ne H.hb hm cells_map
theorem HRaw.lt (H : HRaw w base h bm v M room turn a f) : ∀ k, HSet h bm v k → base ≤ k ∧ k < w.heap.size := fun k hk => by
  rcases hk with rfl | rfl | hk
  · exact ⟨H.lo.1, blk_lt H.hb⟩
  · exact ⟨H.lo.2, H.map.lt⟩
  · exact H.row.lt k hk
theorem HRaw.kept {S : Nat → Prop} (H : HRaw w base h bm v M room turn a f) (k : Fr S w w') (hn : ∀ j, HSet h bm v j → ¬ S j) : HRaw w' base h bm v M room turn a f :=
  ⟨k.blk H.hb (hn h (.inl rfl)), own_kept H.row k (fun j hj => hn j (.inr (.inr hj))), H.map.kept k (hn bm (.inr (.inl rfl))), H.lo⟩
theorem HRaw.later (H : HRaw w base h bm v M room turn a f) (k : Below w.heap.size w w') : HRaw w' base h bm v M room turn a f := H.kept (fr0 k) (fun _ _ h => h)
theorem HRaw.more {M' : Nat} (H : HRaw w base h bm v M room turn a f) (hM : M ≤ M') : HRaw w base h bm v M' room turn a f := ⟨H.hb, H.row, H.map.mono hM, H.lo⟩
theorem HRaw.fun_ {f' : Int → Option Int} (H : HRaw w base h bm v M room turn a f) (e : f = f') : HRaw w base h bm v M room turn a f' := e ▸ H
/-- What stands at an index of the row. -/
theorem HRaw.at_ (H : HRaw w base h bm v M room turn a f) {i : Nat} (hi : i < a.length) : ∃ g cap, v = .slice (some ⟨g, 0, none⟩) a.length cap ∧ a.length ≤ cap ∧ cap ≤ 9223372036854775807 ∧ w.cell? ⟨h, 2, none⟩ = some v ∧
    ∀ j (hj : j < a.length), w.cell? ⟨g, j * 3, none⟩ = some (.int .i64 (gl a j).id) ∧ w.cell? ⟨g, j * 3 + 1, none⟩ = some (.int .i64 (gl a j).key) ∧ w.cell? ⟨g, j * 3 + 2, none⟩ = some (.int .i64 (gl a j).turn) := by
  obtain ⟨g, cap, cur, hv, _, _, h1, h2, _⟩ := own_shape H.row (Nat.lt_of_le_of_lt (Nat.zero_le _) hi)
  have hrow := H.row
  rw [hv] at hrow
  refine ⟨g, cap, hv, h1, by unfold maxLen at h2; omega, blk_cell H.hb 2, fun j hj => ?_⟩
  have hx := gl_get hj
  obtain ⟨g0, e0, d0⟩ := row_cell (j := 0) encI_len hrow hx rfl
  obtain ⟨g1, e1, d1⟩ := row_cell (j := 1) encI_len hrow hx rfl
  obtain ⟨g2, e2, d2⟩ := row_cell (j := 2) encI_len hrow hx rfl
  cases e0
  cases e1
  cases e2
  exact ⟨by simpa using d0, d1, d2⟩
set_option maxRecDepth 100000 in
set_option maxHeartbeats 1600000 in
theorem heap_less (H : HRaw w base h bm v M room turn a f) {i k : Nat} (hi : i < a.length) (hk : k < a.length) (hn : a.length < 1000000) :
    Calls Try.prog 93 #[.pointer (some ⟨h, 0, none⟩), .int .i64 i, .int .i64 k] w fun e w' => e = .returned (.bool (decide (ltI (gl a i) (gl a k)))) ∧ Grows w w' := by
  obtain ⟨g, cap, rfl, hc1, hc2, ch, hat⟩ := H.at_ hi
  obtain ⟨x0, x1, x2⟩ := hat i hi
  obtain ⟨y0, y1, y2⟩ := hat k hk
  rw [← cmpI_dec]
  obtain ⟨n, hnn⟩ : ∃ n, a.length = n := ⟨_, rfl⟩
  rw [hnn] at hi hk hn ch
  have A1 := hid (fun (W : World) (h : Grows w W) => (item_cmp (w := W) (gl a i) (gl a k)).mono (fun e w' ⟨he, hg⟩ => (⟨he, h.trans hg⟩ : e = Ending.returned (.int .i64 (cmpI (gl a i) (gl a k))) ∧ Grows w w')))
  generalize gl a i = x at *
  generalize gl a k = y at *
  obtain ⟨r, hr⟩ : ∃ r, cmpI x y = r := ⟨_, rfl⟩
  rw [hr] at A1 ⊢
  obtain ⟨xi, xk, xt⟩ := x
  obtain ⟨yi, yk, yt⟩ := y
  simp only at x0 x1 x2 y0 y1 y2 A1
  have FH := hid (fun W (h : Grows w W) => h.cell ch)
  have FX0 := hid (fun W (h : Grows w W) => h.cell x0)
  have FX1 := hid (fun W (h : Grows w W) => h.cell x1)
  have FX2 := hid (fun W (h : Grows w W) => h.cell x2)
  have FY0 := hid (fun W (h : Grows w W) => h.cell y0)
  have FY1 := hid (fun W (h : Grows w W) => h.cell y1)
  have FY2 := hid (fun W (h : Grows w W) => h.cell y2)
  clear H x0 x1 x2 y0 y1 y2 ch hat hr hnn
  go_enter Try.func93, Try.ntmps93
  go_upto_region 1 with fail
  obtain ⟨C, hCd⟩ : ∃ C : World → Prop, C = Grows w := ⟨_, rfl⟩
  rw [← hCd] at FH FX0 FX1 FX2 FY0 FY1 FY2 A1
  have HC0 := hid (show C w.drew by rw [hCd]; exact Grows.drew w)
  have HCD := hid hCd
  clear hCd
  refine wp_region_class (C := C) (by kernel_rfl) (by kernel_rfl) (HC0.out) ?_
  refine wpQuiet_step (fun K hK => ?_)
  rw [if_pos (by rfl)]
  refine Exists.intro ?_ (And.intro (fun W HW => ?_) (hK _ ?_))
  rotate_left
  · ((go_simp); all_goals (with_reducible rfl))
  clear hK K
  try simp only [Act.put, List.setIfInBounds_toArray, List.set_cons_zero, List.set_cons_succ]
  refine wpQuiet_step (fun K hK => ?_)
  rw [if_pos (by rfl)]
  refine Exists.intro ?_ (And.intro (fun W HW => ?_) (hK _ ?_))
  rotate_left
  · ((go_simp); all_goals (with_reducible rfl))
  clear hK K
  try simp only [Act.put, List.setIfInBounds_toArray, List.set_cons_zero, List.set_cons_succ]
  refine wpQuiet_step (fun K hK => ?_)
  rw [if_pos (by rfl)]
  refine Exists.intro ?_ (And.intro (fun W HW => ?_) (hK _ ?_))
  rotate_left
  · ((go_simp); all_goals (with_reducible rfl))
  clear hK K
  try simp only [Act.put, List.setIfInBounds_toArray, List.set_cons_zero, List.set_cons_succ]
  refine wpQuiet_step (fun K hK => ?_)
  rw [if_pos (by rfl)]
  refine Exists.intro ?_ (And.intro (fun W HW => ?_) (hK _ ?_))
  rotate_left
  · (have q0 := FH.out W HW; (go_simp); all_goals (with_reducible rfl))
  clear hK K
  try simp only [Act.put, List.setIfInBounds_toArray, List.set_cons_zero, List.set_cons_succ]
  refine wpQuiet_step (fun K hK => ?_)
  rw [if_pos (by rfl)]
  refine Exists.intro ?_ (And.intro (fun W HW => ?_) (hK _ ?_))
  rotate_left
  · ((go_simp); all_goals (with_reducible rfl))
  clear hK K
  try simp only [Act.put, List.setIfInBounds_toArray, List.set_cons_zero, List.set_cons_succ]
  refine wpQuiet_step (fun K hK => ?_)
  rw [if_pos (by rfl)]
  refine Exists.intro ?_ (And.intro (fun W HW => ?_) (hK _ ?_))
  rotate_left
  · ((go_simp); all_goals (with_reducible rfl))
  clear hK K
  try simp only [Act.put, List.setIfInBounds_toArray, List.set_cons_zero, List.set_cons_succ]
  refine wpQuiet_step (fun K hK => ?_)
  rw [if_pos (by rfl)]
  refine Exists.intro ?_ (And.intro (fun W HW => ?_) (hK _ ?_))
  rotate_left
  · (have q0 := FX0.out W HW; have q1 := FX1.out W HW; have q2 := FX2.out W HW; (go_simp); all_goals (with_reducible rfl))
  clear hK K
  try simp only [Act.put, List.setIfInBounds_toArray, List.set_cons_zero, List.set_cons_succ]
  refine wpQuiet_step (fun K hK => ?_)
  rw [if_pos (by rfl)]
  refine Exists.intro ?_ (And.intro (fun W HW => ?_) (hK _ ?_))
  rotate_left
  · ((go_simp); all_goals (with_reducible rfl))
  clear hK K
  try simp only [Act.put, List.setIfInBounds_toArray, List.set_cons_zero, List.set_cons_succ]
  refine wpQuiet_step (fun K hK => ?_)
  rw [if_pos (by rfl)]
  refine Exists.intro ?_ (And.intro (fun W HW => ?_) (hK _ ?_))
  rotate_left
  · ((go_simp); all_goals (with_reducible rfl))
  clear hK K
  try simp only [Act.put, List.setIfInBounds_toArray, List.set_cons_zero, List.set_cons_succ]
  refine wpQuiet_step (fun K hK => ?_)
  rw [if_pos (by rfl)]
  refine Exists.intro ?_ (And.intro (fun W HW => ?_) (hK _ ?_))
  rotate_left
  · ((go_simp); all_goals (with_reducible rfl))
  clear hK K
  try simp only [Act.put, List.setIfInBounds_toArray, List.set_cons_zero, List.set_cons_succ]
  refine wpQuiet_step (fun K hK => ?_)
  rw [if_pos (by rfl)]
  refine Exists.intro ?_ (And.intro (fun W HW => ?_) (hK _ ?_))
  rotate_left
  · (have q0 := FH.out W HW; (go_simp); all_goals (with_reducible rfl))
  clear hK K
  try simp only [Act.put, List.setIfInBounds_toArray, List.set_cons_zero, List.set_cons_succ]
  refine wpQuiet_step (fun K hK => ?_)
  rw [if_pos (by rfl)]
  refine Exists.intro ?_ (And.intro (fun W HW => ?_) (hK _ ?_))
  rotate_left
  · ((go_simp); all_goals (with_reducible rfl))
  clear hK K
  try simp only [Act.put, List.setIfInBounds_toArray, List.set_cons_zero, List.set_cons_succ]
  refine wpQuiet_step (fun K hK => ?_)
  rw [if_pos (by rfl)]
  refine Exists.intro ?_ (And.intro (fun W HW => ?_) (hK _ ?_))
  rotate_left
  · ((go_simp); all_goals (with_reducible rfl))
  clear hK K
  try simp only [Act.put, List.setIfInBounds_toArray, List.set_cons_zero, List.set_cons_succ]
  refine wpQuiet_step (fun K hK => ?_)
  rw [if_pos (by rfl)]
  refine Exists.intro ?_ (And.intro (fun W HW => ?_) (hK _ ?_))
  rotate_left
  · (have q0 := FY0.out W HW; have q1 := FY1.out W HW; have q2 := FY2.out W HW; (go_simp); all_goals (with_reducible rfl))
  clear hK K
  try simp only [Act.put, List.setIfInBounds_toArray, List.set_cons_zero, List.set_cons_succ]
  refine wpQuiet_step (fun K hK => ?_)
  rw [if_pos (by rfl)]
  refine Exists.intro ?_ (And.intro (fun W HW => ?_) (hK _ ?_))
  rotate_left
  · (go_simp; exact A1.out W HW)
  clear hK K
  try simp only [Act.put, List.setIfInBounds_toArray, List.set_cons_zero, List.set_cons_succ]
  refine wpQuiet_step (fun K hK => ?_)
  rw [if_pos (by rfl)]
  refine Exists.intro ?_ (And.intro (fun W HW => ?_) (hK _ ?_))
  rotate_left
  · ((go_simp); all_goals (with_reducible rfl))
  clear hK K
  try simp only [Act.put, List.setIfInBounds_toArray, List.set_cons_zero, List.set_cons_succ]
  refine wpQuiet_step (fun K hK => ?_)
  rw [if_pos (by rfl)]
  refine Exists.intro ?_ (And.intro (fun W HW => ?_) (hK _ ?_))
  rotate_left
  · ((go_simp); all_goals (with_reducible rfl))
  clear hK K
  try simp only [Act.put, List.setIfInBounds_toArray, List.set_cons_zero, List.set_cons_succ]
  refine wpQuiet_nil ?_
  intro wd hCw
  have HW := hid (show Grows w wd by rw [← HCD.out]; exact hCw)
  clear hCw
  go_wp2_with fail
  go_ret
  exact ⟨rfl, HW.out⟩
end
end Go.Proofs.Ytbkjlohlfkokpaa
