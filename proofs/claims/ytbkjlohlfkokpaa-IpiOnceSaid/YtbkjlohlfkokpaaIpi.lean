/- Package ipi: New, Due, Send (contracts), on a function from core and task to when a note is due and its turn. -/
import Derived.Test.YtbkjlohlfkokpaaPairMap
import Derived.Test.YtbkjlohlfkokpaaBase
import Derived.Deep.CutBlock
import Derived.Deep.DeepCutAuto
set_option linter.unusedVariables false
set_option linter.unusedSimpArgs false
namespace Go.Proofs.Ytbkjlohlfkokpaa
open Go.RowKit

/-- Block b is boxes: their cores, the last turn; block bm is the map of notes. -/
structure IpiAt (w : World) (base b bm n : Nat) (cores turn : Int) (f : Int × Int → Option (Int × Int)) : Prop where
  hb : w.heap[b]? = some (.cells #[.int .i64 cores, .int .i64 turn, .map (some bm)] 80 (0, 0))
  map : MapP w bm n f
  lo : base ≤ b ∧ base ≤ bm
def ISet (b bm k : Nat) : Prop := k = b ∨ k = bm
section
variable {w w' : World} {base b bm n : Nat} {cores turn : Int} {f : Int × Int → Option (Int × Int)}
theorem IpiAt.ne (h : IpiAt w base b bm n cores turn f) : b ≠ bm := by
  obtain ⟨D, ⟨es, clock, hm, _⟩, _⟩ := h.map
  intro e
  have := h.hb
  rw [e, hm] at this
  cases this
theorem IpiAt.lt (h : IpiAt w base b bm n cores turn f) : ∀ k, ISet b bm k → base ≤ k ∧ k < w.heap.size := fun k hk => by
  rcases hk with rfl | rfl
  · exact ⟨h.lo.1, blk_lt h.hb⟩
  · exact ⟨h.lo.2, h.map.lt⟩
theorem IpiAt.kept {S : Nat → Prop} (h : IpiAt w base b bm n cores turn f) (k : Fr S w w') (hn : ∀ j, ISet b bm j → ¬ S j) : IpiAt w' base b bm n cores turn f :=
  ⟨k.blk h.hb (hn b (.inl rfl)), h.map.kept k (hn bm (.inr rfl)), h.lo⟩
theorem IpiAt.later (h : IpiAt w base b bm n cores turn f) (k : Below w.heap.size w w') : IpiAt w' base b bm n cores turn f := h.kept (fr0 k) (fun _ _ h => h)
theorem IpiAt.weak (h : IpiAt w base b bm n cores turn f) : ∀ {base' : Nat}, base' ≤ base → IpiAt w base' b bm n cores turn f := fun hb => ⟨h.hb, h.map, Nat.le_trans hb h.lo.1, Nat.le_trans hb h.lo.2⟩
theorem cells_ne' {A B : Array Value} {s t : TypeId} {f g : Nat × Nat} (h : s ≠ t) : Obj.cells A s f ≠ Obj.cells B t g := fun e => by injection e with _ e _; exact h e
theorem blk_ne' {w : World} {a c : Nat} {o1 o2 : Obj} (h1 : w.heap[a]? = some o1) (h2 : w.heap[c]? = some o2) (h : o1 ≠ o2) : a ≠ c := by
  intro e
  rw [e, h2] at h1
  injection h1 with h1
  exact h h1.symm
theorem ipi_new_no {w : World} (c : Int) (h : c < 1 ∨ 8 < c) : Calls Try.prog 17 #[.int .i64 c] w fun e w' => e = .returned (.tuple #[.pointer none, .int .i64 1]) ∧ w' = w := by
  by_cases h0 : c < 1
  · go_enter Try.func17, Try.ntmps17
    go_wp2_with fail
    go_ret2
    exact ⟨rfl, rfl⟩
  · have h1 : 8 < c := by omega
    clear h
    go_enter Try.func17, Try.ntmps17
    go_wp2_with fail
    go_ret2
    exact ⟨rfl, rfl⟩
set_option maxRecDepth 100000 in
theorem ipi_new_yes {w : World} (c : Int) (h : 1 ≤ c) (h8 : c ≤ 8) : Calls Try.prog 17 #[.int .i64 c] w fun e w' => ∃ b bm, e = .returned (.tuple #[.pointer (some ⟨b, 0, none⟩), .int .i64 0]) ∧ IpiAt w' w.heap.size b bm 0 c 0 (fun _ => none) ∧ Below w.heap.size w w' := by
  have hmm := @run_makeMap Try.prog
  go_enter Try.func17, Try.ntmps17
  go_wp2_with fail
  go_ret2
  have hb := blk_new (w.alloc (.map #[] 0)) (.cells #[.int .i64 c, .int .i64 0, .map (some w.heap.size)] 80)
  rw [show (w.alloc (.map #[] 0)).heap.size = w.heap.size + 1 by simp] at hb
  exact ⟨w.heap.size + 1, w.heap.size, rfl, ⟨hb, (MapP.made w).kept ((Fr.refl NoB _).alloc _) (fun h => h), by omega, Nat.le_refl _⟩, ((Below.refl _ _).alloc (Nat.le_refl _) _).alloc (by simp) _⟩
theorem Try.zero_note (w : World) : (zeroValue 87).run Try.prog w = .ok (pairV (0, 0)) w := by kernel_rfl
def dueF (f : Int × Int → Option (Int × Int)) (p : Int × Int) : Int := match f p with | none => -1 | some q => q.1
set_option maxRecDepth 100000 in
set_option maxHeartbeats 400000 in
theorem ipi_due (H : IpiAt w base b bm n cores turn f) {c t : Int} (hp : pairW (c, t)) :
    Calls Try.prog 24 #[.pointer (some ⟨b, 0, none⟩), .int .i64 c, .int .i64 t] w fun e w' => e = .returned (.int .i64 (dueF f (c, t))) ∧ Below w.heap.size w w' := by
  have c2 : w.cell? ⟨b, 2, none⟩ = some (.map (some bm)) := blk_cell H.hb 2
  have HM := hid H.map
  have HP := hid hp
  clear H hp
  cases hf : f (c, t) with
  | none =>
    have e1 := hid (show dueF f (c, t) = -1 by unfold dueF; rw [hf])
    have HF := hid hf
    clear hf
    go_enter Try.func24, Try.ntmps24
    go_wp2_with (at_lookup; refine wp_plook_ok rfl _ _ _ rfl Try.underlying78 (Try.zero_note _) HM.out rfl (c, t) rfl HP.out ?_; rw [HF.out]; unfold pairV)
    go_ret
    exact ⟨ret_eq (by rw [e1.out]; rfl), (Below.refl _ _).alloc (Nat.le_refl _) _⟩
  | some q =>
    have e1 := hid (show dueF f (c, t) = q.1 by unfold dueF; rw [hf])
    have HF := hid hf
    clear hf
    go_enter Try.func24, Try.ntmps24
    go_wp2_with (at_lookup; refine wp_plook_ok rfl _ _ _ rfl Try.underlying78 (Try.zero_note _) HM.out rfl (c, t) rfl HP.out ?_; rw [HF.out]; unfold pairV)
    go_ret
    exact ⟨ret_eq (by rw [e1.out]; rfl), (Below.refl _ _).alloc (Nat.le_refl _) _⟩
set_option maxRecDepth 100000 in
theorem MapP.look_eq (H : MapP w bm n f) {p : Int × Int} (hw : pairW p) : (Instr.lookup 78 (.map (some bm)) (pairV p) true).run Try.prog w = .ok (.tuple #[pairV ((f p).getD (0, 0)), .bool (f p).isSome]) w := by
  obtain ⟨D, hown, hD⟩ := H
  obtain ⟨h1, h2⟩ := hD p _ (Try.key_mk hw)
  obtain ⟨v, ps, hrun, hv⟩ := hown.look_ok Try.keyed_to Try.underlying78 (Try.zero_note w) (pairR_mk (0, 0)) (Try.key_mk hw)
  obtain ⟨q, rfl, hq⟩ := pairR_inv hv
  rw [h2] at hq
  injection hq with hq _
  rw [hrun, ← pairD_inj hq, h1]
/-- May it be sent? -/
def sendB (cores : Int) (f : Int × Int → Option (Int × Int)) (c t now : Int) : Bool := (f (c, t)).isNone && decide (0 ≤ c ∧ c < cores ∧ 0 ≤ t ∧ t < 24 ∧ 0 ≤ now ∧ now < 9007199254740992)
set_option maxRecDepth 100000 in
set_option maxHeartbeats 800000 in
theorem ipi_send_there (H : IpiAt w base b bm n cores turn f) {c t now lat : Int} (hp : pairW (c, t)) (h : f (c, t) ≠ none) :
    Calls Try.prog 20 #[.pointer (some ⟨b, 0, none⟩), .int .i64 c, .int .i64 t, .int .i64 now, .int .i64 lat] w fun e w' => e = .returned (.bool false) ∧ Below w.heap.size w w' := by
  obtain ⟨q, hf⟩ : ∃ q, f (c, t) = some q := by cases e : f (c, t) with | none => exact absurd e h | some q => exact ⟨q, rfl⟩
  obtain ⟨w1, hw1⟩ : ∃ w1, w1 = w.alloc (.cells #[.int .i64 c, .int .i64 t] 85) := ⟨_, rfl⟩
  have hb1 : Below w.heap.size w w1 := by rw [hw1]; exact (Below.refl _ w).alloc (Nat.le_refl _) _
  have H1 := H.later hb1
  have hsz : w1.heap.size = w.heap.size + 1 := by rw [hw1]; simp
  have hk := blk_new w (.cells #[.int .i64 c, .int .i64 t] 85)
  rw [← hw1] at hk
  have c2 : w1.cell? ⟨b, 2, none⟩ = some (.map (some bm)) := blk_cell H1.hb 2
  have k0 : w1.cell? ⟨w.heap.size, 0, none⟩ = some (.int .i64 c) := blk_cell hk 0
  have k1 : w1.cell? ⟨w.heap.size, 1, none⟩ = some (.int .i64 t) := blk_cell hk 1
  have l1 := (H1.map.kept (Fr.refl NoB w1).drew (fun h => h)).look_eq hp
  have l2 := ((H1.map.kept ((Fr.refl NoB w1).alloc (.cells #[.int .i64 0, .int .i64 0] 87)) (fun h => h)).kept (Fr.refl NoB _).drew (fun h => h)).look_eq hp
  rw [hf] at l1 l2
  simp only [pairV, Option.getD_some, Option.isSome_some] at l1 l2
  have HB1 := hid hb1
  have HW1 := hid hw1
  have hbl := blk_lt H1.hb
  have hkl := blk_lt hk
  have c2a : (w1.alloc (.cells #[.int .i64 0, .int .i64 0] 87)).cell? ⟨b, 2, none⟩ = some (.map (some bm)) := blk_cell (blk_old H1.hb _) 2
  have k0a : (w1.alloc (.cells #[.int .i64 0, .int .i64 0] 87)).cell? ⟨w.heap.size, 0, none⟩ = some (.int .i64 c) := blk_cell (blk_old hk _) 0
  have k1a : (w1.alloc (.cells #[.int .i64 0, .int .i64 0] 87)).cell? ⟨w.heap.size, 1, none⟩ = some (.int .i64 t) := blk_cell (blk_old hk _) 1
  clear H H1 hb1 hw1 hk hf h hp
  go_enter Try.func20, Try.ntmps20
  go_upto_region 2 with fail
  rw [← HW1.out]
  go_region
  all_goals
    go_wp2_with fail
    go_ret
    exact ⟨rfl, below_drewN' (below_new HB1.out _) 1⟩
theorem MapP.update_eq (H : MapP w bm n f) {p : Int × Int} (hw : pairW p) (q : Int × Int) (hn : n < maxLen) : ∃ w', (Instr.mapUpdate 78 (.map (some bm)) (pairV p) (pairV q)).run Try.prog w = .ok () w' ∧ MapP w' bm (n + 1) (fun t => if t = p then some q else f t) ∧ Fr (One bm) w w' := by
  obtain ⟨D, hown, hD⟩ := H
  obtain ⟨w', hrun, h', g'⟩ := hown.update Try.keyed_to Try.underlying78 hn (Try.key_mk hw) (pairR_mk q)
  refine ⟨w', hrun, ⟨_, h', fun p2 l hl => ?_⟩, fr_grownBy g'⟩
  by_cases e : p2 = p
  · subst e
    have hl2 := Try.key_mk hw
    rw [hl] at hl2
    injection hl2 with hl2
    subst hl2
    simp only [if_pos]
    have hIK : WideAt.IsKeyLit (Lit.string (keyBytes [.int .i64 p2.1, .int .i64 p2.2])) := True.intro
    exact ⟨Go.Maps.has_put_same (hown.isMap) hIK _, Go.Maps.atKey_put_same (hown.isMap) hIK _ _⟩
  · simp only [if_neg e]
    have hne := key_ne hl (Try.key_mk hw) e
    rw [Go.Maps.has_put_other hne, Go.Maps.atKey_put_other hne]
    exact hD p2 l hl
theorem shr53 {now : Int} (h : 0 ≤ now) (h2 : now ≤ 9223372036854775807) : now >>> (53 : Nat) = now / 9007199254740992 := by
  rw [Int.shiftRight_eq_div_pow]
  rfl
set_option maxRecDepth 100000 in
set_option maxHeartbeats 1600000 in
theorem ipi_send_no (H : IpiAt w base b bm n cores turn f) {c t now lat : Int} (hp : pairW (c, t)) (hn2 : now ≤ 9223372036854775807) (hf : f (c, t) = none) (h : ¬ (0 ≤ c ∧ c < cores ∧ 0 ≤ t ∧ t < 24 ∧ 0 ≤ now ∧ now < 9007199254740992)) :
    Calls Try.prog 20 #[.pointer (some ⟨b, 0, none⟩), .int .i64 c, .int .i64 t, .int .i64 now, .int .i64 lat] w fun e w' => e = .returned (.bool false) ∧ Below w.heap.size w w' := by
  obtain ⟨w1, hw1⟩ : ∃ w1, w1 = w.alloc (.cells #[.int .i64 c, .int .i64 t] 85) := ⟨_, rfl⟩
  have hb1 : Below w.heap.size w w1 := by rw [hw1]; exact (Below.refl _ w).alloc (Nat.le_refl _) _
  have H1 := H.later hb1
  have hsz : w1.heap.size = w.heap.size + 1 := by rw [hw1]; simp
  have hk := blk_new w (.cells #[.int .i64 c, .int .i64 t] 85)
  rw [← hw1] at hk
  have c2 : w1.cell? ⟨b, 2, none⟩ = some (.map (some bm)) := blk_cell H1.hb 2
  have c0 : w1.cell? ⟨b, 0, none⟩ = some (.int .i64 cores) := blk_cell H1.hb 0
  have k0 : w1.cell? ⟨w.heap.size, 0, none⟩ = some (.int .i64 c) := blk_cell hk 0
  have k1 : w1.cell? ⟨w.heap.size, 1, none⟩ = some (.int .i64 t) := blk_cell hk 1
  have l1 := (H1.map.kept (Fr.refl NoB w1).drew (fun h => h)).look_eq hp
  have l2 := ((H1.map.kept ((Fr.refl NoB w1).alloc (.cells #[.int .i64 0, .int .i64 0] 87)) (fun h => h)).kept (Fr.refl NoB _).drew (fun h => h)).look_eq hp
  rw [hf] at l1 l2
  simp only [pairV, Option.getD_none, Option.isSome_none] at l1 l2
  have HB1 := hid hb1
  have HW1 := hid hw1
  have hbl := blk_lt H1.hb
  have hkl := blk_lt hk
  have c2a : (w1.alloc (.cells #[.int .i64 0, .int .i64 0] 87)).cell? ⟨b, 2, none⟩ = some (.map (some bm)) := blk_cell (blk_old H1.hb _) 2
  have c0a : (w1.alloc (.cells #[.int .i64 0, .int .i64 0] 87)).cell? ⟨b, 0, none⟩ = some (.int .i64 cores) := blk_cell (blk_old H1.hb _) 0
  have k0a : (w1.alloc (.cells #[.int .i64 0, .int .i64 0] 87)).cell? ⟨w.heap.size, 0, none⟩ = some (.int .i64 c) := blk_cell (blk_old hk _) 0
  have k1a : (w1.alloc (.cells #[.int .i64 0, .int .i64 0] 87)).cell? ⟨w.heap.size, 1, none⟩ = some (.int .i64 t) := blk_cell (blk_old hk _) 1
  have HN := hid h
  clear H H1 hb1 hw1 hk hf hp h
  go_enter Try.func20, Try.ntmps20
  go_upto_region 2 with fail
  rw [← HW1.out]
  go_region
  all_goals
    by_cases g1 : c < 0
    · go_wp2_with fail
      go_ret
      exact ⟨rfl, below_drewN' (below_new HB1.out _) 1⟩
    · by_cases g2 : cores ≤ c
      · go_wp2_with fail
        go_ret
        exact ⟨rfl, below_drewN' (below_new HB1.out _) 1⟩
      · by_cases g3 : t < 0
        · go_wp2_with fail
          go_ret
          exact ⟨rfl, below_drewN' (below_new HB1.out _) 1⟩
        · by_cases g4 : 24 ≤ t
          · go_wp2_with fail
            go_ret
            exact ⟨rfl, below_drewN' (below_new HB1.out _) 1⟩
          · by_cases g5 : now < 0
            · go_wp2_with fail
              go_ret
              exact ⟨rfl, below_drewN' (below_new HB1.out _) 1⟩
            · have g6 : 9007199254740992 ≤ now := by have := HN.out; omega
              have g7 : (now / 9007199254740992 == 0) = false := beq_eq_false_iff_ne.2 (by omega)
              go_wp2_with fail
              go_ret
              exact ⟨rfl, below_drewN' (below_new HB1.out _) 1⟩
/-- A latency, held between a tick and the greatest one. -/
def latV (lat : Int) : Int := (if 50 < (if lat < 1 then 1 else lat) then 50 else (if lat < 1 then 1 else lat))
theorem latV_bd (lat : Int) : 1 ≤ latV lat ∧ latV lat ≤ 50 := by
  unfold latV
  split <;> split at * <;> omega
/-- What sending leaves. -/
def sentF (f : Int × Int → Option (Int × Int)) (c t due turn : Int) : Int × Int → Option (Int × Int) := fun p => if p = (c, t) then some (due, turn) else f p
set_option maxRecDepth 100000 in
set_option maxHeartbeats 1600000 in
theorem ipi_send_yes (H : IpiAt w base b bm n cores turn f) {c t now lat : Int} (hp : pairW (c, t)) (hf : f (c, t) = none) (h : 0 ≤ c ∧ c < cores ∧ 0 ≤ t ∧ t < 24 ∧ 0 ≤ now ∧ now < 9007199254740992) (hn : n < 1000000) (ht0 : 0 ≤ turn) (ht1 : turn < 1000000) :
    Calls Try.prog 20 #[.pointer (some ⟨b, 0, none⟩), .int .i64 c, .int .i64 t, .int .i64 now, .int .i64 lat] w fun e w' => e = .returned (.bool true) ∧
      IpiAt w' base b bm (n + 1) cores (turn + 1) (sentF f c t (now + latV lat) (turn + 1)) ∧ Fr (ISet b bm) w w' := by
  obtain ⟨w1, hw1⟩ : ∃ w1, w1 = w.alloc (.cells #[.int .i64 c, .int .i64 t] 85) := ⟨_, rfl⟩
  have hb1 : Below w.heap.size w w1 := by rw [hw1]; exact (Below.refl _ w).alloc (Nat.le_refl _) _
  have H1 := H.later hb1
  have hsz : w1.heap.size = w.heap.size + 1 := by rw [hw1]; simp
  have hk := blk_new w (.cells #[.int .i64 c, .int .i64 t] 85)
  rw [← hw1] at hk
  have c2 : w1.cell? ⟨b, 2, none⟩ = some (.map (some bm)) := blk_cell H1.hb 2
  have c0 : w1.cell? ⟨b, 0, none⟩ = some (.int .i64 cores) := blk_cell H1.hb 0
  have k0 : w1.cell? ⟨w.heap.size, 0, none⟩ = some (.int .i64 c) := blk_cell hk 0
  have k1 : w1.cell? ⟨w.heap.size, 1, none⟩ = some (.int .i64 t) := blk_cell hk 1
  have l1 := (H1.map.kept (Fr.refl NoB w1).drew (fun h => h)).look_eq hp
  have l2 := ((H1.map.kept ((Fr.refl NoB w1).alloc (.cells #[.int .i64 0, .int .i64 0] 87)) (fun h => h)).kept (Fr.refl NoB _).drew (fun h => h)).look_eq hp
  rw [hf] at l1 l2
  simp only [pairV, Option.getD_none, Option.isSome_none] at l1 l2
  have HB1 := hid hb1
  have HW1 := hid hw1
  have hbl := blk_lt H1.hb
  have hkl := blk_lt hk
  have c2a : (w1.alloc (.cells #[.int .i64 0, .int .i64 0] 87)).cell? ⟨b, 2, none⟩ = some (.map (some bm)) := blk_cell (blk_old H1.hb _) 2
  have c0a : (w1.alloc (.cells #[.int .i64 0, .int .i64 0] 87)).cell? ⟨b, 0, none⟩ = some (.int .i64 cores) := blk_cell (blk_old H1.hb _) 0
  have k0a : (w1.alloc (.cells #[.int .i64 0, .int .i64 0] 87)).cell? ⟨w.heap.size, 0, none⟩ = some (.int .i64 c) := blk_cell (blk_old hk _) 0
  have k1a : (w1.alloc (.cells #[.int .i64 0, .int .i64 0] 87)).cell? ⟨w.heap.size, 1, none⟩ = some (.int .i64 t) := blk_cell (blk_old hk _) 1
  have c1 : w1.cell? ⟨b, 1, none⟩ = some (.int .i64 turn) := blk_cell H1.hb 1
  have hlb := latV_bd lat
  obtain ⟨v, hv⟩ : ∃ v, latV lat = v := ⟨_, rfl⟩
  have hcase : (lat < 1 ∧ v = 1) ∨ (50 < lat ∧ v = 50) ∨ (¬ lat < 1 ∧ ¬ 50 < lat ∧ v = lat) := by
    rw [← hv]; unfold latV
    by_cases g1 : lat < 1
    · exact .inl ⟨g1, by rw [if_pos g1]; rfl⟩
    · by_cases g2 : 50 < lat
      · exact .inr (.inl ⟨g2, by rw [if_neg g1, if_pos g2]⟩)
      · exact .inr (.inr ⟨g1, g2, by rw [if_neg g1, if_neg g2]⟩)
  rw [hv] at hlb ⊢
  have HCASE := hid hcase
  have hwr : IntKind.i64.wrap (now + v) = now + v := wraps_i64 _ (by omega) (by omega)
  clear hv hcase
  have hwt : IntKind.i64.wrap (turn + 1) = turn + 1 := wraps_i64 _ (by omega) (by omega)
  have g7 : now / 9007199254740992 = 0 := by omega
  obtain ⟨h1, h2, h3, h4, h5, h6⟩ := h
  have HH1 := hid H1
  have HK := hid hk
  have HP := hid hp
  clear H H1 hb1 hw1 hk hf hp
  go_enter Try.func20, Try.ntmps20
  go_upto_region 2 with fail
  rw [← HW1.out]
  go_region
  all_goals
    generalize hw3 : (w1.alloc (.cells #[.int .i64 0, .int .i64 0] 87)).drew = w3
    have hb3 : Below w1.heap.size w1 w3 := by rw [← hw3]; exact below_drewN' ((Below.refl _ w1).alloc (Nat.le_refl _) _) 1
    have H3 := HH1.out.later hb3
    have hk3 := (fr0 hb3).blk HK.out (fun h => h)
    have d0 : w3.cell? ⟨b, 0, none⟩ = some (.int .i64 cores) := blk_cell H3.hb 0
    have d1 : w3.cell? ⟨b, 1, none⟩ = some (.int .i64 turn) := blk_cell H3.hb 1
    have fd1 : w3.frozen? ⟨b, 1, none⟩ = false := blk_free H3.hb 1
    have HB3 := hid hb3
    have HH3 := hid H3
    have HK3 := hid hk3
    clear hb3 H3 hk3 hw3 c0 c1 c2 c0a k0 k1 k0a k1a c2a l1 l2
    go_upto_region 6 with fail
    generalize hw4 : w3.setCell ⟨b, 1, none⟩ (.int .i64 (turn + 1)) = w4
    have hb4 : w4.heap[b]? = some (.cells #[.int .i64 cores, .int .i64 (turn + 1), .map (some bm)] 80 (0, 0)) := by rw [← hw4]; simpa using blk_set HH3.out.hb 1 (.int .i64 (turn + 1))
    have hF4 : Fr (One b) w3 w4 := by rw [← hw4]; exact (Fr.refl (One b) w3).one 1 _
    have hbne : b ≠ bm := HH3.out.ne
    have hM4 := (HH3.out.map.kept hF4 (fun e => hbne e.symm)).kept (Fr.refl NoB w4).drew (fun h => h)
    have hk4 := hF4.blk HK3.out (fun e => by have h1 : w.heap.size = b := e; exact blk_ne' HK3.out HH3.out.hb (cells_ne' (by decide)) h1)
    have e1 : w4.cell? ⟨b, 1, none⟩ = some (.int .i64 (turn + 1)) := blk_cell hb4 1
    have e2 : w4.cell? ⟨b, 2, none⟩ = some (.map (some bm)) := blk_cell hb4 2
    have k40 : w4.cell? ⟨w.heap.size, 0, none⟩ = some (.int .i64 c) := blk_cell hk4 0
    have k41 : w4.cell? ⟨w.heap.size, 1, none⟩ = some (.int .i64 t) := blk_cell hk4 1
    obtain ⟨w5, hrun, hM5, hF5⟩ := hM4.update_eq HP.out (now + v, turn + 1) (by unfold maxLen; omega)
    simp only [pairV] at hrun
    have HM5 := hid hM5
    have HF5 := hid hF5
    have HF4 := hid hF4
    have HB4 := hid hb4
    have HNE := hid hbne
    clear hM4 hM5 hF5 hF4 hb4 hk4 hw4 d0 d1 fd1 hbne
    rcases HCASE.out with ⟨g8, rfl⟩ | ⟨g8, rfl⟩ | ⟨g8, g9, rfl⟩
    all_goals go_region
    all_goals
      go_wp2_with fail
      go_ret
      have hF0 : Fr (ISet b bm) w w4 := ((Fr.of_below (S := ISet b bm) HB1.out).trans (Fr.of_below (S := NoB) HB3.out) (fun _ h => h.elim)).trans HF4.out (fun x hx => .inl (.inl hx))
      exact ⟨rfl, ⟨HF5.out.blk HB4.out HNE.out, HM5.out, HH3.out.lo⟩, (hF0.drew).trans HF5.out (fun x hx => .inl (.inr hx))⟩
end
end Go.Proofs.Ytbkjlohlfkokpaa
