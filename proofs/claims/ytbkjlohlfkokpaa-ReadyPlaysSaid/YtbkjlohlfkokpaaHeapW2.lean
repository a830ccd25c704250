/- Package heap: set, swap (contracts). -/
import Derived.Test.YtbkjlohlfkokpaaHeapW
set_option linter.unusedVariables false
set_option linter.unusedSimpArgs false
namespace Go.Proofs.Ytbkjlohlfkokpaa
open Go.RowKit Go.Maps

section
variable {w w' : World} {base h bm M : Nat} {v : Value} {room turn : Int} {a : List It} {f : Int → Option Int}
theorem MapIs.update_eq {P : Program} {K E t : TypeId} {b n : Nat} (hk : P.underlying K = some (.int .i64)) (he : P.underlying E = some (.int .i64)) (ht : P.underlying t = some (.map K E)) (H : MapIs P K E w b n f) {key val : Int} (hw : (Lit.int .i64 key).wf = true) (hwv : (Lit.int .i64 val).wf = true) (hn : n < maxLen) :
    ∃ w', (Instr.mapUpdate t (.map (some b)) (.int .i64 key) (.int .i64 val)).run P w = .ok () w' ∧ MapIs P K E w' b (n + 1) (fun t => if t = key then some val else f t) ∧ Fr (One b) w w' := by
  obtain ⟨D, hown, hD⟩ := H
  obtain ⟨w', hrun, h', g'⟩ := hown.update (int_keyed hk) ht hn (keyOf_int_mk hk hw) (plainElem_int he hwv)
  refine ⟨w', hrun, ⟨_, h', fun t htw => ?_⟩, fr_grownBy g'⟩
  by_cases e : t = key
  · subst e
    simp only [if_pos]
    have hIK : WideAt.IsKeyLit (Lit.int .i64 t) := True.intro
    exact ⟨has_put_same (hown.isMap) hIK _, atKey_put_same (hown.isMap) hIK _ _⟩
  · simp only [if_neg e]
    have hne : (Lit.int .i64 t) ≠ .int .i64 key := fun h => by injection h with _ h; exact e h
    rw [has_put_other hne, atKey_put_other hne]
    exact hD t htw
/-- Three stores put an item into a row that is owned. -/
theorem own_item {g n cap : Nat} (H : w.ownsRow base 99 3 (.slice (some ⟨g, 0, none⟩) n cap) n (flat encI a)) {i : Nat} (hi : i < a.length) (hn : n = a.length) (x : It) :
    (((w.setCell ⟨g, i * 3, none⟩ (.int .i64 x.id)).setCell ⟨g, i * 3 + 1, none⟩ (.int .i64 x.key)).setCell ⟨g, i * 3 + 2, none⟩ (.int .i64 x.turn)).ownsRow base 99 3 (.slice (some ⟨g, 0, none⟩) n cap) n (flat encI (a.set i x)) := by
  have h0 := own_set H (i * 3) (.int .i64 x.id) (by omega)
  have e0 := flat_set encI_len a i 0 (gl a i) ⟨x.id, (gl a i).key, (gl a i).turn⟩ (.int .i64 x.id) (gl_get hi) (by omega) rfl
  rw [Nat.add_zero] at e0
  rw [e0] at h0
  have h1 := own_set h0 (i * 3 + 1) (.int .i64 x.key) (by omega)
  have e1 := flat_set encI_len (a.set i ⟨x.id, (gl a i).key, (gl a i).turn⟩) i 1 ⟨x.id, (gl a i).key, (gl a i).turn⟩ ⟨x.id, x.key, (gl a i).turn⟩ (.int .i64 x.key) (List.getElem?_set_self hi) (by omega) rfl
  rw [e1, List.set_set] at h1
  have h2 := own_set h1 (i * 3 + 2) (.int .i64 x.turn) (by omega)
  have e2 := flat_set encI_len (a.set i ⟨x.id, x.key, (gl a i).turn⟩) i 2 ⟨x.id, x.key, (gl a i).turn⟩ x (.int .i64 x.turn) (List.getElem?_set_self hi) (by omega) rfl
  rw [e2, List.set_set] at h2
  exact h2
set_option maxRecDepth 100000 in
set_option maxHeartbeats 1600000 in
theorem heap_set (H : HRaw w base h bm v M room turn a f) (x : It) {i : Nat} (hi : i < a.length) (hn : a.length < 1000000) (hM : M < 1099511627776) (hx : -9223372036854775808 ≤ x.id ∧ x.id ≤ 9223372036854775807) :
    Calls Try.prog 71 #[.pointer (some ⟨h, 0, none⟩), .int .i64 i, .agg #[.int .i64 x.id, .int .i64 x.key, .int .i64 x.turn]] w fun e w' =>
      e = .returned (.tuple #[]) ∧ HRaw w' base h bm v (M + 1) room turn (a.set i x) (fun t => if t = x.id then some (i : Int) else f t) ∧ Fr (HSet h bm v) w w' := by
  obtain ⟨xi, xk, xt⟩ := x
  obtain ⟨w1, hw1⟩ : ∃ w1, w1 = w.alloc (.cells #[.int .i64 xi, .int .i64 xk, .int .i64 xt] 99) := ⟨_, rfl⟩
  have hb1 : Below w.heap.size w w1 := by rw [hw1]; exact (Below.refl _ w).alloc (Nat.le_refl _) _
  have hk := blk_new w (.cells #[.int .i64 xi, .int .i64 xk, .int .i64 xt] 99)
  rw [← hw1] at hk
  have H1 := H.later hb1
  obtain ⟨g, cap, rfl, hc1, hc2, ch, hat⟩ := H1.at_ hi
  obtain ⟨x0, x1, x2⟩ := hat i hi
  have f0 : w1.frozen? ⟨g, i * 3, none⟩ = false := own_free H1.row _
  have f1 : w1.frozen? ⟨g, i * 3 + 1, none⟩ = false := own_free H1.row _
  have f2 : w1.frozen? ⟨g, i * 3 + 2, none⟩ = false := own_free H1.row _
  have k0 : w1.cell? ⟨w.heap.size, 0, none⟩ = some (.int .i64 xi) := blk_cell hk 0
  have k1 : w1.cell? ⟨w.heap.size, 1, none⟩ = some (.int .i64 xk) := blk_cell hk 1
  have k2 : w1.cell? ⟨w.heap.size, 2, none⟩ = some (.int .i64 xt) := blk_cell hk 2
  have hgw : g < w.heap.size := by have := (H.lt g (.inr (.inr rfl))).2; omega
  obtain ⟨n, hnn⟩ : ∃ n, a.length = n := ⟨_, rfl⟩
  rw [hnn] at hi hn ch
  have HH := hid H1
  have HW1 := hid hw1
  have HB1 := hid hb1
  have HN := hid hnn
  have HK := hid hk
  clear H H1 hw1 hb1 hat hnn hk
  go_enter Try.func71, Try.ntmps71
  go_upto_region 1 with fail
  rw [← HW1.out]
  go_region
  all_goals
    have hrow := HH.out.row
    rw [HN.out] at hrow
    have hrow2 := own_item hrow (by rw [HN.out]; exact hi) HN.out.symm ⟨xi, xk, xt⟩
    have hF2 : Fr (One g) w1 (((w1.setCell ⟨g, i * 3, none⟩ (.int .i64 xi)).setCell ⟨g, i * 3 + 1, none⟩ (.int .i64 xk)).setCell ⟨g, i * 3 + 2, none⟩ (.int .i64 xt)).drew :=
      ((((Fr.refl (One g) w1).one (i * 3) (.int .i64 xi)).one (i * 3 + 1) (.int .i64 xk)).one (i * 3 + 2) (.int .i64 xt)).drew
    have hrow3 := own_drewN hrow2 1
    obtain ⟨w2, hw2⟩ : ∃ w2, w2 = (((w1.setCell ⟨g, i * 3, none⟩ (.int .i64 xi)).setCell ⟨g, i * 3 + 1, none⟩ (.int .i64 xk)).setCell ⟨g, i * 3 + 2, none⟩ (.int .i64 xt)).drew := ⟨_, rfl⟩
    have hrow4 : w2.ownsRow base 99 3 (.slice (some ⟨g, 0, none⟩) n cap) n (flat encI (a.set i ⟨xi, xk, xt⟩)) := by rw [hw2]; exact hrow3
    rw [← hw2] at hF2 ⊢
    have hgh : h ≠ g := fun e => HH.out.ap g rfl e.symm
    have hgm : bm ≠ g := fun e => HH.out.apm g rfl e.symm
    have hb2 := hF2.blk HH.out.hb hgh
    have hM2 := (HH.out.map.kept hF2 hgm).kept (Fr.refl NoB w2).drew (fun h => h)
    have hk2 := hF2.blk HK.out (fun e => by have e2 : w.heap.size = g := e; omega)
    have m3 : w2.cell? ⟨h, 3, none⟩ = some (.map (some bm)) := blk_cell hb2 3
    have j0 : w2.cell? ⟨w.heap.size, 0, none⟩ = some (.int .i64 xi) := blk_cell hk2 0
    obtain ⟨w5, hrun, hM5, hF5⟩ := hM2.update_eq (t := 94) Try.underlying3 Try.underlying3 Try.underlying94 (key := xi) (val := (i : Int)) (wfI hx.1 hx.2) (wfI (by omega) (by omega)) (by unfold maxLen; omega)
    have HM5 := hid hM5
    have HF5 := hid hF5
    have HF2 := hid hF2
    have HB2 := hid hb2
    have HR4 := hid hrow4
    have HNE := hid HH.out.hm
    have HAM := hid hgm
    clear hrow hrow2 hrow3 hrow4 hw2 hF2 hgh hgm hb2 hM2 hk2 hM5 hF5 x0 x1 x2 f0 f1 f2 k0 k1 k2 ch
    go_upto_region 2 with fail
    go_region
    all_goals
      go_wp2_with fail
      go_end0
      have hF0 : Fr (HSet h bm (.slice (some ⟨g, 0, none⟩) a.length cap)) w w2 := ((Fr.of_below (S := HSet h bm (.slice (some ⟨g, 0, none⟩) a.length cap)) HB1.out).trans HF2.out (fun x hx => .inl (.inr (.inr (by rw [show x = g from hx]; rfl)))))
      refine ⟨rfl, ⟨?_, ?_, HM5.out, HH.out.lo⟩, hF0.drew.trans HF5.out (fun x hx => .inl (.inr (.inl hx)))⟩
      · exact HF5.out.blk HB2.out HNE.out
      · rw [List.length_set, HN.out]
        exact own_kept (own_drewN HR4.out 1) HF5.out (fun b hb e => HAM.out (by have e1 : b = bm := e; have e2 : some g = some b := hb; injection e2 with e2; rw [← e1, e2]))
theorem two_xy (w : World) (X Y : Array Value) (t : TypeId) : ∃ a6 a7, Value.pointer (some ⟨w.heap.size, 0, none⟩) = .pointer (some ⟨a6, 0, none⟩) ∧ Value.pointer (some ⟨w.heap.size + 1, 0, none⟩) = .pointer (some ⟨a7, 0, none⟩) ∧
    Grows w ((w.alloc (.cells X t)).alloc (.cells Y t)).drew ∧ w.heap.size ≤ a6 ∧ ((w.alloc (.cells X t)).alloc (.cells Y t)).drew.heap[a6]? = some (.cells X t (0, 0)) ∧ ((w.alloc (.cells X t)).alloc (.cells Y t)).drew.heap[a7]? = some (.cells Y t (0, 0)) := by
  refine ⟨_, _, rfl, rfl, (((Grows.refl w).alloc _).alloc _).drewN 1, Nat.le_refl _, blk_old (blk_new w _) _, ?_⟩
  have h := blk_new (w.alloc (.cells X t)) (.cells Y t)
  have hs : (w.alloc (.cells X t)).heap.size = w.heap.size + 1 := by simp
  rw [hs] at h
  exact h
theorem two_yx (w : World) (X Y : Array Value) (t : TypeId) : ∃ a6 a7, Value.pointer (some ⟨w.heap.size + 1, 0, none⟩) = .pointer (some ⟨a6, 0, none⟩) ∧ Value.pointer (some ⟨w.heap.size, 0, none⟩) = .pointer (some ⟨a7, 0, none⟩) ∧
    Grows w ((w.alloc (.cells Y t)).alloc (.cells X t)).drew ∧ w.heap.size ≤ a6 ∧ ((w.alloc (.cells Y t)).alloc (.cells X t)).drew.heap[a6]? = some (.cells X t (0, 0)) ∧ ((w.alloc (.cells Y t)).alloc (.cells X t)).drew.heap[a7]? = some (.cells Y t (0, 0)) := by
  obtain ⟨a, b, ha, hb, hg, _, h1, h2⟩ := two_xy w Y X t
  exact ⟨b, a, hb, ha, hg, by injection hb with hb; injection hb with hb; injection hb with hb; omega, h2, h1⟩
set_option maxRecDepth 100000 in
set_option maxHeartbeats 1600000 in
theorem heap_swap (H : HRaw w base h bm v M room turn a f) {i k : Nat} (hi : i < a.length) (hk : k < a.length) (hn : a.length < 1000000) (hM : M < 1099511627000) (hids : ∀ x ∈ a, -9223372036854775808 ≤ x.id ∧ x.id ≤ 9223372036854775807) :
    Calls Try.prog 76 #[.pointer (some ⟨h, 0, none⟩), .int .i64 i, .int .i64 k] w fun e w' =>
      e = .returned (.tuple #[]) ∧ HRaw w' base h bm v (M + 2) room turn (swL a i k) (fun t => if t = (gl a i).id then some (k : Int) else if t = (gl a k).id then some (i : Int) else f t) ∧ Fr (HSet h bm v) w w' := by
  have HH := hid H
  obtain ⟨g, cap, hv, hc1, hc2, ch, hat⟩ := H.at_ hi
  obtain ⟨x0, x1, x2⟩ := hat i hi
  obtain ⟨y0, y1, y2⟩ := hat k hk
  have hix := hids _ (gl_mem hi)
  have hiy := hids _ (gl_mem hk)
  obtain ⟨n, hnn⟩ : ∃ n, a.length = n := ⟨_, rfl⟩
  rw [hv, hnn] at ch
  rw [hnn] at hi hk hn
  have HN := hid hnn
  have hsw : swL a i k = (a.set i (gl a k)).set k (gl a i) := rfl
  rw [hsw]
  have HX := hid (show gl a i = gl a i from rfl)
  generalize gl a i = x at *
  generalize gl a k = y at *
  obtain ⟨xi, xk, xt⟩ := x
  obtain ⟨yi, yk, yt⟩ := y
  simp only at x0 x1 x2 y0 y1 y2 hix hiy
  have FH := hid (fun W (h : Grows w W) => h.cell ch)
  have FX0 := hid (fun W (h : Grows w W) => h.cell x0)
  have FX1 := hid (fun W (h : Grows w W) => h.cell x1)
  have FX2 := hid (fun W (h : Grows w W) => h.cell x2)
  have FY0 := hid (fun W (h : Grows w W) => h.cell y0)
  have FY1 := hid (fun W (h : Grows w W) => h.cell y1)
  have FY2 := hid (fun W (h : Grows w W) => h.cell y2)
  clear H x0 x1 x2 y0 y1 y2 ch hat hnn hv hids HX hsw
  go_enter Try.func76, Try.ntmps76
  go_upto_region 0 with fail
  go_cut [6, 7] (fun v6 v7 wx => ∃ a6 a7, v6 = .pointer (some ⟨a6, 0, none⟩) ∧ v7 = .pointer (some ⟨a7, 0, none⟩) ∧ Grows w wx ∧ w.heap.size ≤ a6 ∧ wx.heap[a6]? = some (.cells #[.int .i64 xi, .int .i64 xk, .int .i64 xt] 99 (0, 0)) ∧ wx.heap[a7]? = some (.cells #[.int .i64 yi, .int .i64 yk, .int .i64 yt] 99 (0, 0)))
  case first =>
    refine wp_region_held_drew (S := Grows w) (by kernel_rfl) (Grows.drew w) (fun hHeld => ?_)
    refine wpAnyH_take (i := 0) (oi := ?ois0) (v := ?vs0) ?his0 (by kernel_rfl) (by kernel_rfl) (by kernel_rfl) ?hqs0 (Or.inl ⟨?was0, ?hys0⟩) (by assumption) ?hrs0
    case his0 => (simp only [List.getElem?_toArray, List.getElem?_cons_succ, List.getElem?_cons_zero]; rfl)
    case was0 => rfl
    case hys0 => ((intro w hSw; (try dsimp only at hSw); go_simp); all_goals (with_reducible rfl))
    case hqs0 => exact fun _ _ _ h => h
    try simp only [Act.put, List.setIfInBounds_toArray, List.set_cons_zero, List.set_cons_succ]
    refine wpAnyH_take (i := 1) (oi := ?ois1) (v := ?vs1) ?his1 (by kernel_rfl) (by kernel_rfl) (by kernel_rfl) ?hqs1 (Or.inl ⟨?was1, ?hys1⟩) (by assumption) ?hrs1
    case his1 => (simp only [List.getElem?_toArray, List.getElem?_cons_succ, List.getElem?_cons_zero]; rfl)
    case was1 => rfl
    case hys1 => ((intro w hSw; (try dsimp only at hSw); go_simp); all_goals (with_reducible rfl))
    case hqs1 => exact fun _ _ _ h => h
    try simp only [Act.put, List.setIfInBounds_toArray, List.set_cons_zero, List.set_cons_succ]
    refine wpAnyH_take (i := 2) (oi := ?ois2) (v := ?vs2) ?his2 (by kernel_rfl) (by kernel_rfl) (by kernel_rfl) ?hqs2 (Or.inl ⟨?was2, ?hys2⟩) (by assumption) ?hrs2
    case his2 => (simp only [List.getElem?_toArray, List.getElem?_cons_succ, List.getElem?_cons_zero]; rfl)
    case was2 => rfl
    case hys2 => ((intro w hSw; (try dsimp only at hSw); go_simp); all_goals (with_reducible rfl))
    case hqs2 => exact fun _ _ _ h => h
    try simp only [Act.put, List.setIfInBounds_toArray, List.set_cons_zero, List.set_cons_succ]
    refine wpAnyH_take (i := 3) (oi := ?ois3) (v := ?vs3) ?his3 (by kernel_rfl) (by kernel_rfl) (by kernel_rfl) ?hqs3 (Or.inl ⟨?was3, ?hys3⟩) (by assumption) ?hrs3
    case his3 => (simp only [List.getElem?_toArray, List.getElem?_cons_succ, List.getElem?_cons_zero]; rfl)
    case was3 => rfl
    case hys3 => ((intro w hSw; have q0 := FH.out w hSw; (try dsimp only at hSw); go_simp); all_goals (with_reducible rfl))
    case hqs3 => exact fun _ _ _ h => h
    try simp only [Act.put, List.setIfInBounds_toArray, List.set_cons_zero, List.set_cons_succ]
    refine wpAnyH_take (i := 4) (oi := ?ois4) (v := ?vs4) ?his4 (by kernel_rfl) (by kernel_rfl) (by kernel_rfl) ?hqs4 (Or.inl ⟨?was4, ?hys4⟩) (by assumption) ?hrs4
    case his4 => (simp only [List.getElem?_toArray, List.getElem?_cons_succ, List.getElem?_cons_zero]; rfl)
    case was4 => rfl
    case hys4 => ((intro w hSw; (try dsimp only at hSw); go_simp); all_goals (with_reducible rfl))
    case hqs4 => exact fun _ _ _ h => h
    try simp only [Act.put, List.setIfInBounds_toArray, List.set_cons_zero, List.set_cons_succ]
    refine wpAnyH_take (i := 5) (oi := ?ois5) (v := ?vs5) ?his5 (by kernel_rfl) (by kernel_rfl) (by kernel_rfl) ?hqs5 (Or.inl ⟨?was5, ?hys5⟩) (by assumption) ?hrs5
    case his5 => (simp only [List.getElem?_toArray, List.getElem?_cons_succ, List.getElem?_cons_zero]; rfl)
    case was5 => rfl
    case hys5 => ((intro w hSw; (try dsimp only at hSw); go_simp); all_goals (with_reducible rfl))
    case hqs5 => exact fun _ _ _ h => h
    try simp only [Act.put, List.setIfInBounds_toArray, List.set_cons_zero, List.set_cons_succ]
    refine wpAnyH_take (i := 6) (oi := ?ois6) (v := ?vs6) ?his6 (by kernel_rfl) (by kernel_rfl) (by kernel_rfl) ?hqs6 (Or.inl ⟨?was6, ?hys6⟩) (by assumption) ?hrs6
    case his6 => (simp only [List.getElem?_toArray, List.getElem?_cons_succ, List.getElem?_cons_zero]; rfl)
    case was6 => rfl
    case hys6 => ((intro w hSw; have q0 := FX0.out w hSw; have q1 := FX1.out w hSw; have q2 := FX2.out w hSw; (try dsimp only at hSw); go_simp); all_goals (with_reducible rfl))
    case hqs6 => exact fun _ _ _ h => h
    try simp only [Act.put, List.setIfInBounds_toArray, List.set_cons_zero, List.set_cons_succ]
    refine wpAnyH_take (i := 7) (oi := ?ois7) (v := ?vs7) ?his7 (by kernel_rfl) (by kernel_rfl) (by kernel_rfl) ?hqs7 (Or.inl ⟨?was7, ?hys7⟩) (by assumption) ?hrs7
    case his7 => (simp only [List.getElem?_toArray, List.getElem?_cons_succ, List.getElem?_cons_zero]; rfl)
    case was7 => rfl
    case hys7 => ((intro w hSw; (try dsimp only at hSw); go_simp); all_goals (with_reducible rfl))
    case hqs7 => exact fun _ _ _ h => h
    try simp only [Act.put, List.setIfInBounds_toArray, List.set_cons_zero, List.set_cons_succ]
    refine wpAnyH_take (i := 8) (oi := ?ois8) (v := ?vs8) ?his8 (by kernel_rfl) (by kernel_rfl) (by kernel_rfl) ?hqs8 (Or.inl ⟨?was8, ?hys8⟩) (by assumption) ?hrs8
    case his8 => (simp only [List.getElem?_toArray, List.getElem?_cons_succ, List.getElem?_cons_zero]; rfl)
    case was8 => rfl
    case hys8 => ((intro w hSw; (try dsimp only at hSw); go_simp); all_goals (with_reducible rfl))
    case hqs8 => exact fun _ _ _ h => h
    try simp only [Act.put, List.setIfInBounds_toArray, List.set_cons_zero, List.set_cons_succ]
    refine wpAnyH_take (i := 9) (oi := ?ois9) (v := ?vs9) ?his9 (by kernel_rfl) (by kernel_rfl) (by kernel_rfl) ?hqs9 (Or.inl ⟨?was9, ?hys9⟩) (by assumption) ?hrs9
    case his9 => (simp only [List.getElem?_toArray, List.getElem?_cons_succ, List.getElem?_cons_zero]; rfl)
    case was9 => rfl
    case hys9 => ((intro w hSw; (try dsimp only at hSw); go_simp); all_goals (with_reducible rfl))
    case hqs9 => exact fun _ _ _ h => h
    try simp only [Act.put, List.setIfInBounds_toArray, List.set_cons_zero, List.set_cons_succ]
    refine wpAnyH_take (i := 10) (oi := ?ois10) (v := ?vs10) ?his10 (by kernel_rfl) (by kernel_rfl) (by kernel_rfl) ?hqs10 (Or.inl ⟨?was10, ?hys10⟩) (by assumption) ?hrs10
    case his10 => (simp only [List.getElem?_toArray, List.getElem?_cons_succ, List.getElem?_cons_zero]; rfl)
    case was10 => rfl
    case hys10 => ((intro w hSw; have q0 := FH.out w hSw; (try dsimp only at hSw); go_simp); all_goals (with_reducible rfl))
    case hqs10 => exact fun _ _ _ h => h
    try simp only [Act.put, List.setIfInBounds_toArray, List.set_cons_zero, List.set_cons_succ]
    refine wpAnyH_take (i := 11) (oi := ?ois11) (v := ?vs11) ?his11 (by kernel_rfl) (by kernel_rfl) (by kernel_rfl) ?hqs11 (Or.inl ⟨?was11, ?hys11⟩) (by assumption) ?hrs11
    case his11 => (simp only [List.getElem?_toArray, List.getElem?_cons_succ, List.getElem?_cons_zero]; rfl)
    case was11 => rfl
    case hys11 => ((intro w hSw; (try dsimp only at hSw); go_simp); all_goals (with_reducible rfl))
    case hqs11 => exact fun _ _ _ h => h
    try simp only [Act.put, List.setIfInBounds_toArray, List.set_cons_zero, List.set_cons_succ]
    refine wpAnyH_take (i := 12) (oi := ?ois12) (v := ?vs12) ?his12 (by kernel_rfl) (by kernel_rfl) (by kernel_rfl) ?hqs12 (Or.inl ⟨?was12, ?hys12⟩) (by assumption) ?hrs12
    case his12 => (simp only [List.getElem?_toArray, List.getElem?_cons_succ, List.getElem?_cons_zero]; rfl)
    case was12 => rfl
    case hys12 => ((intro w hSw; (try dsimp only at hSw); go_simp); all_goals (with_reducible rfl))
    case hqs12 => exact fun _ _ _ h => h
    try simp only [Act.put, List.setIfInBounds_toArray, List.set_cons_zero, List.set_cons_succ]
    refine wpAnyH_take (i := 13) (oi := ?ois13) (v := ?vs13) ?his13 (by kernel_rfl) (by kernel_rfl) (by kernel_rfl) ?hqs13 (Or.inl ⟨?was13, ?hys13⟩) (by assumption) ?hrs13
    case his13 => (simp only [List.getElem?_toArray, List.getElem?_cons_succ, List.getElem?_cons_zero]; rfl)
    case was13 => rfl
    case hys13 => ((intro w hSw; have q0 := FY0.out w hSw; have q1 := FY1.out w hSw; have q2 := FY2.out w hSw; (try dsimp only at hSw); go_simp); all_goals (with_reducible rfl))
    case hqs13 => exact fun _ _ _ h => h
    try simp only [Act.put, List.setIfInBounds_toArray, List.set_cons_zero, List.set_cons_succ]
    refine wpAnyH_ready (rs := [14, 15]) (by kernel_rfl) (by simp) ?_
    refine (AllReadyH.cons (i := 14) (o := ?os14) ?his14 ?sts14 (AllReadyH.cons (i := 15) (o := ?os15) ?his15 ?sts15 AllReadyH.nil))
    case his14 => (simp only [List.getElem?_toArray, List.getElem?_cons_succ, List.getElem?_cons_zero]; rfl)
    case his15 => (simp only [List.getElem?_toArray, List.getElem?_cons_succ, List.getElem?_cons_zero]; rfl)
    case sts14 =>
      intro K hK
      go_simp
      go_wp2_with fail
      refine hK.out _ _ ?_ (fun hHeld => ?_)
      · first | exact Grows.drew w | exact ((Grows.refl w).alloc _).drewN 1 | exact (((Grows.refl w).alloc _).alloc _).drewN 1
      clear hK K
      try simp only [Act.put, List.setIfInBounds_toArray, List.set_cons_zero, List.set_cons_succ]
      refine wpAnyH_ready (rs := [15]) (by kernel_rfl) (by simp) ?_
      refine (AllReadyH.cons (i := 15) (o := ?os14_15) ?his14_15 ?sts14_15 AllReadyH.nil)
      case his14_15 => (simp only [List.getElem?_toArray, List.getElem?_cons_succ, List.getElem?_cons_zero]; rfl)
      case sts14_15 =>
        intro K hK
        go_simp
        go_wp2_with fail
        refine hK.out _ _ ?_ (fun hHeld => ?_)
        · first | exact Grows.drew w | exact ((Grows.refl w).alloc _).drewN 1 | exact (((Grows.refl w).alloc _).alloc _).drewN 1
        clear hK K
        try simp only [Act.put, List.setIfInBounds_toArray, List.set_cons_zero, List.set_cons_succ]
        refine wpAnyH_ready (rs := [16]) (by kernel_rfl) (by simp) ?_
        refine (AllReadyH.cons (i := 16) (o := ?os14_15_16) ?his14_15_16 ?sts14_15_16 AllReadyH.nil)
        case his14_15_16 => (simp only [List.getElem?_toArray, List.getElem?_cons_succ, List.getElem?_cons_zero]; rfl)
        case sts14_15_16 =>
          intro K hK
          go_simp
          go_wp2_with fail
          refine hK.out _ _ ?_ (fun hHeld => ?_)
          · first | exact Grows.drew w | exact ((Grows.refl w).alloc _).drewN 1 | exact (((Grows.refl w).alloc _).alloc _).drewN 1
          clear hK K
          try simp only [Act.put, List.setIfInBounds_toArray, List.set_cons_zero, List.set_cons_succ]
          refine wpAnyH_ready (rs := [17]) (by kernel_rfl) (by simp) ?_
          refine (AllReadyH.cons (i := 17) (o := ?os14_15_16_17) ?his14_15_16_17 ?sts14_15_16_17 AllReadyH.nil)
          case his14_15_16_17 => (simp only [List.getElem?_toArray, List.getElem?_cons_succ, List.getElem?_cons_zero]; rfl)
          case sts14_15_16_17 =>
            intro K hK
            go_simp
            go_wp2_with fail
            refine hK.out _ _ ?_ (fun hHeld => ?_)
            · first | exact Grows.drew w | exact ((Grows.refl w).alloc _).drewN 1 | exact (((Grows.refl w).alloc _).alloc _).drewN 1
            clear hK K
            try simp only [Act.put, List.setIfInBounds_toArray, List.set_cons_zero, List.set_cons_succ]
            refine wpAnyH_done (by kernel_rfl) ?_ _
            go_wp2_with fail
            go_meet
            exact two_xy w _ _ _
    case sts15 =>
      intro K hK
      go_simp
      go_wp2_with fail
      refine hK.out _ _ ?_ (fun hHeld => ?_)
      · first | exact Grows.drew w | exact ((Grows.refl w).alloc _).drewN 1 | exact (((Grows.refl w).alloc _).alloc _).drewN 1
      clear hK K
      try simp only [Act.put, List.setIfInBounds_toArray, List.set_cons_zero, List.set_cons_succ]
      refine wpAnyH_ready (rs := [14]) (by kernel_rfl) (by simp) ?_
      refine (AllReadyH.cons (i := 14) (o := ?os15_14) ?his15_14 ?sts15_14 AllReadyH.nil)
      case his15_14 => (simp only [List.getElem?_toArray, List.getElem?_cons_succ, List.getElem?_cons_zero]; rfl)
      case sts15_14 =>
        intro K hK
        go_simp
        go_wp2_with fail
        refine hK.out _ _ ?_ (fun hHeld => ?_)
        · first | exact Grows.drew w | exact ((Grows.refl w).alloc _).drewN 1 | exact (((Grows.refl w).alloc _).alloc _).drewN 1
        clear hK K
        try simp only [Act.put, List.setIfInBounds_toArray, List.set_cons_zero, List.set_cons_succ]
        refine wpAnyH_ready (rs := [16]) (by kernel_rfl) (by simp) ?_
        refine (AllReadyH.cons (i := 16) (o := ?os15_14_16) ?his15_14_16 ?sts15_14_16 AllReadyH.nil)
        case his15_14_16 => (simp only [List.getElem?_toArray, List.getElem?_cons_succ, List.getElem?_cons_zero]; rfl)
        case sts15_14_16 =>
          intro K hK
          go_simp
          go_wp2_with fail
          refine hK.out _ _ ?_ (fun hHeld => ?_)
          · first | exact Grows.drew w | exact ((Grows.refl w).alloc _).drewN 1 | exact (((Grows.refl w).alloc _).alloc _).drewN 1
          clear hK K
          try simp only [Act.put, List.setIfInBounds_toArray, List.set_cons_zero, List.set_cons_succ]
          refine wpAnyH_ready (rs := [17]) (by kernel_rfl) (by simp) ?_
          refine (AllReadyH.cons (i := 17) (o := ?os15_14_16_17) ?his15_14_16_17 ?sts15_14_16_17 AllReadyH.nil)
          case his15_14_16_17 => (simp only [List.getElem?_toArray, List.getElem?_cons_succ, List.getElem?_cons_zero]; rfl)
          case sts15_14_16_17 =>
            intro K hK
            go_simp
            go_wp2_with fail
            refine hK.out _ _ ?_ (fun hHeld => ?_)
            · first | exact Grows.drew w | exact ((Grows.refl w).alloc _).drewN 1 | exact (((Grows.refl w).alloc _).alloc _).drewN 1
            clear hK K
            try simp only [Act.put, List.setIfInBounds_toArray, List.set_cons_zero, List.set_cons_succ]
            refine wpAnyH_done (by kernel_rfl) ?_ _
            go_wp2_with fail
            go_meet
            exact two_yx w _ _ _
  obtain ⟨a6, a7, rfl, rfl, hg, hlo, hb6, hb7⟩ := hcut
  have p0 : wc.cell? ⟨a7, 0, none⟩ = some (.int .i64 yi) := blk_cell hb7 0
  have p1 : wc.cell? ⟨a7, 1, none⟩ = some (.int .i64 yk) := blk_cell hb7 1
  have p2 : wc.cell? ⟨a7, 2, none⟩ = some (.int .i64 yt) := blk_cell hb7 2
  have HG := hid hg
  have HB6 := hid hb6
  have hset1 := heap_set (HH.out.later hg.below) ⟨yi, yk, yt⟩ (i := i) (by rw [HN.out]; exact hi) (by rw [HN.out]; exact hn) (by omega) hiy
  have HS1 := hid hset1
  clear hset1 hg hb6 hb7 FH FX0 FX1 FX2 FY0 FY1 FY2
  go_wp2_with fail
  refine HS1.out.mono ?_
  rintro e w2 ⟨rfl, H2, hF2⟩
  have hb62 := hF2.blk HB6.out (fun e => by have := ((HH.out.lt a6 e).2); omega)
  have q0 : w2.cell? ⟨a6, 0, none⟩ = some (.int .i64 xi) := blk_cell hb62 0
  have q1 : w2.cell? ⟨a6, 1, none⟩ = some (.int .i64 xk) := blk_cell hb62 1
  have q2 : w2.cell? ⟨a6, 2, none⟩ = some (.int .i64 xt) := blk_cell hb62 2
  have hset2 := heap_set H2 ⟨xi, xk, xt⟩ (i := k) (by rw [List.length_set, HN.out]; exact hk) (by rw [List.length_set, HN.out]; exact hn) (by omega) hix
  have HS2 := hid hset2
  have HF2 := hid hF2
  clear hset2 H2 hF2 hb62 p0 p1 p2
  go_wp2_with fail
  refine HS2.out.mono ?_
  rintro e w3 ⟨rfl, H3, hF3⟩
  have HF3 := hid hF3
  have H3' := hid H3
  clear H3 hF3
  go_wp2_with fail
  go_end0
  exact ⟨rfl, H3'.out, ((Fr.of_below (S := HSet h bm v) HG.out.below).trans HF2.out (fun x hx => .inl hx)).trans HF3.out (fun x hx => .inl hx)⟩
end
end Go.Proofs.Ytbkjlohlfkokpaa
