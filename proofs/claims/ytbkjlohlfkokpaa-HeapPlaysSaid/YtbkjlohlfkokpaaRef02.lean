/- The document's heap (a list kept in order): what its functions do, each once (contracts). -/
import Derived.Test.YtbkjlohlfkokpaaHeapKeeps
set_option linter.unusedVariables false
set_option linter.unusedSimpArgs false
namespace Go.Proofs.Ytbkjlohlfkokpaa
open Go.RowKit

def enc2 (p : Int × Int) : List Value := [.int .i64 p.1, .int .i64 p.2]
theorem enc2_len (p : Int × Int) : (enc2 p).length = 2 := rfl
theorem enc2_one (p : Int × Int) : ∀ u ∈ enc2 p, u.oneCell' = true := by
  intro u hu
  simp [enc2] at hu
  rcases hu with rfl | rfl <;> rfl
theorem Try.info_it02 : (Try.prog.info? 111).map (fun i => (i.zero, i.size, i.bytes)) = some (some (.agg #[.int .i64 0, .int .i64 0]), 2, 16) := by kernel_rfl
structure R02 (w : World) (base x : Nat) (v : Value) (room : Nat) (L : List (Int × Int)) : Prop where
  hx : w.heap[x]? = some (.cells #[.int .i64 room, v] 66 (0, 0))
  row : w.ownsRow base 111 2 v L.length (flat enc2 L)
  bx : base ≤ x
def R02Set (x : Nat) (v : Value) : Nat → Prop := fun k => k = x ∨ v.ownBlock = some k
def R02Behind (w : World) (base x : Nat) (v : Value) (room : Nat) (L' : List (Int × Int)) (w' : World) : Prop :=
  ∃ v', R02 w' base x v' room L' ∧ Fr (R02Set x v) w w' ∧ ∀ k, R02Set x v' k → R02Set x v k ∨ w.heap.size ≤ k
theorem eraseIdx_off : ∀ {L : List (Int × Int)} {j : Nat} {p : Int × Int}, (fsts L).Nodup → L[j]? = some p → L.eraseIdx j = offP p.1 L
  | [], j, p, _, h => by simp at h
  | q :: L, 0, p, hn, h => by
    simp at h
    subst h
    rw [offP_head hn]
    rfl
  | q :: L, j + 1, p, hn, h => by
    obtain ⟨h1, h2⟩ := List.nodup_cons.1 (show (q.1 :: fsts L).Nodup by unfold fsts at hn ⊢; exact hn)
    have h3 : L[j]? = some p := by simpa using h
    have ih := eraseIdx_off h2 h3
    have hm : p.1 ∈ fsts L := List.mem_map.2 ⟨p, List.mem_of_getElem? h3, rfl⟩
    have hne : q.1 ≠ p.1 := fun e => h1 (by rw [e]; exact hm)
    rw [List.eraseIdx_cons_succ, ih]
    unfold offP
    rw [List.filter_cons, if_pos (by simpa using hne)]
theorem put_at {L : List (Int × Int)} {s : Nat} {t k : Int} (hs : L.Pairwise (fun p q => p.2 ≤ q.2)) (hlow : ∀ j q, j < s → L[j]? = some q → q.2 ≤ k) (hk : ∀ q, L[s]? = some q → k < q.2) :
    L.take s ++ [(t, k)] ++ L.drop s = insP (t, k) L := by
  have h1 : ∀ q ∈ L.take s, q.2 ≤ k := fun q hq => by
    obtain ⟨j, hj⟩ := List.mem_iff_getElem?.1 hq
    rw [List.getElem?_take] at hj
    split at hj
    · exact hlow j q (by assumption) hj
    · cases hj
  have h2 : ∀ q ∈ L.drop s, k < q.2 := fun q hq => by
    obtain ⟨i, hi⟩ := List.mem_iff_getElem?.1 hq
    rw [List.getElem?_drop] at hi
    obtain ⟨hl, he⟩ := List.getElem?_eq_some_iff.1 hi
    have h3 := hk _ (List.getElem?_eq_getElem (show s < L.length by omega))
    rcases Nat.eq_zero_or_pos i with h0 | h0
    · subst h0
      simp at he
      rw [← he]; exact h3
    · have h4 := List.pairwise_iff_getElem.1 hs s (s + i) (by omega) hl (by omega)
      rw [he] at h4
      omega
  have e1 : L.filter (fun q => decide (q.2 ≤ k)) = L.take s := by
    conv => lhs; rw [← List.take_append_drop s L]
    rw [List.filter_append, List.filter_eq_self.2 (fun q hq => by simpa using h1 q hq), List.filter_eq_nil_iff.2 (fun q hq => by have := h2 q hq; simp; omega), List.append_nil]
  have e2 : L.filter (fun q => decide (k < q.2)) = L.drop s := by
    conv => lhs; rw [← List.take_append_drop s L]
    rw [List.filter_append, List.filter_eq_nil_iff.2 (fun q hq => by have := h1 q hq; simp; omega), List.filter_eq_self.2 (fun q hq => by simpa using h2 q hq), List.nil_append]
  show _ = L.filter (fun q => decide (q.2 ≤ k)) ++ (t, k) :: L.filter (fun q => decide (k < q.2))
  rw [e1, e2]
  simp
section
variable {w w' w'' : World} {base x room : Nat} {v : Value} {L L' : List (Int × Int)}
theorem R02.ap (h : R02 w base x v room L) : ∀ k, v.ownBlock = some k → k ≠ x := kind_ne h.row h.hx (by decide)
theorem R02.lt (h : R02 w base x v room L) : ∀ k, R02Set x v k → base ≤ k ∧ k < w.heap.size := by
  intro k hk
  rcases hk with rfl | hk
  · exact ⟨h.bx, blk_lt h.hx⟩
  · exact h.row.lt k hk
theorem R02.kept {S : Nat → Prop} (h : R02 w base x v room L) (f : Fr S w w') (hn : ∀ k, R02Set x v k → ¬ S k) : R02 w' base x v room L :=
  ⟨f.blk h.hx (hn x (.inl rfl)), own_kept h.row f (fun k hk => hn k (.inr hk)), h.bx⟩
theorem R02.later (h : R02 w base x v room L) (k : Below w.heap.size w w') : R02 w' base x v room L := h.kept (fr0 k) (fun _ _ h => h)
theorem R02.behind (h : R02 w base x v room L) : R02Behind w base x v room L w := ⟨v, h, Fr.refl _ _, fun _ h => .inl h⟩
theorem R02Behind.trans {v1 : Value} {w1 : World} (h : R02 w1 base x v1 room L) (f : Fr (R02Set x v) w w1) (hn : ∀ k, R02Set x v1 k → R02Set x v k ∨ w.heap.size ≤ k) (k : R02Behind w1 base x v1 room L' w') : R02Behind w base x v room L' w' := by
  obtain ⟨v2, h2, f2, n2⟩ := k
  exact ⟨v2, h2, f.trans f2 hn, fun j hj => (n2 j hj).elim (hn j) (fun h => .inr (Nat.le_trans f.size h))⟩
theorem r02_new_no (c : Int) (h : c < 0 ∨ 256 < c) : Calls Try.prog 38 #[.int .i64 c] w fun e w' => e = .returned (.pointer none) ∧ w' = w := by
  go_enter Try.func38, Try.ntmps38
  rcases h with h | h
  · go_wp2_with fail
    go_ret
    exact ⟨rfl, rfl⟩
  · have h2 : ¬ c < 0 := by omega
    go_wp2_with fail
    go_ret
    exact ⟨rfl, rfl⟩
theorem r02_new_yes (c : Nat) (h : c ≤ 256) : Calls Try.prog 38 #[.int .i64 c] w fun e w' => e = .returned (.pointer (some ⟨w.heap.size, 0, none⟩)) ∧ R02 w' w.heap.size w.heap.size (.slice none 0 0) c [] ∧ Below w.heap.size w w' := by
  go_enter Try.func38, Try.ntmps38
  go_wp2_with fail
  go_ret
  exact ⟨rfl, ⟨blk_new _ _, World.ownsRow_nil _ _ _ _, Nat.le_refl _⟩, (Below.refl _ _).alloc (Nat.le_refl _) _⟩
set_option maxHeartbeats 400000 in
theorem r02_at (H : R02 w base x v room L) (t : Int) (hm : L.length < 1000) :
    Calls Try.prog 77 #[.pointer (some ⟨x, 0, none⟩), .int .i64 t] w fun e w' => (∃ r, e = .returned (.int .i64 r) ∧ ((r = -1 ∧ t ∉ fsts L) ∨ ∃ (j : Nat) (p : Int × Int), r = j ∧ L[j]? = some p ∧ p.1 = t)) ∧ w' = w := by
  obtain ⟨m, hm2⟩ : ∃ m, m = L.length := ⟨_, rfl⟩
  have hrow := H.row
  have hxx := H.hx
  rw [← hm2] at hrow hm
  obtain ⟨A, cap, rfl⟩ := own_slice hrow
  have c1 : w.cell? ⟨x, 1, none⟩ = some (.slice A m cap) := blk_cell hxx 1
  have HO := hid hrow
  have HM := hid hm2
  clear H hm2 hrow hxx
  go_enter Try.func77, Try.ntmps77
  go_wp2_with fail
  go_loopw [5] (fun i wr => ∃ k : Nat, k ≤ m ∧ i = .int .i64 k ∧ wr = w ∧ Hid (∀ (j : Nat) (q : Int × Int), j < k → L[j]? = some q → q.1 ≠ t)) (fun i _ => m - (intOf i).toNat)
  case atStart => exact ⟨0, by omega, rfl, rfl, fun j p hj => by omega⟩
  case round =>
    obtain ⟨k, hk, rfl, rfl, hno⟩ := hrel
    by_cases hlt : k < m
    · obtain ⟨y, hy⟩ : ∃ y, L[k]? = some y := ⟨_, List.getElem?_eq_getElem (by have := HM.out; omega)⟩
      obtain ⟨g, rfl, d0⟩ := row_cell (j := 0) enc2_len HO.out hy rfl
      simp only [Nat.add_zero] at d0
      have HY := hid hy
      clear hy
      by_cases g1 : y.1 = t
      · have b1 : (y.1 == t) = true := beq_iff_eq.2 g1
        have HD := hid g1
        clear g1
        go_wp2_with fail
        go_ret
        exact ⟨⟨k, rfl, .inr ⟨k, y, rfl, HY.out, HD.out⟩⟩, rfl⟩
      · have b1 : (y.1 == t) = false := beq_eq_false_iff_ne.2 g1
        have HS : Hid (∀ (j : Nat) (q : Int × Int), j < k + 1 → L[j]? = some q → q.1 ≠ t) := hid (fun j p hj hp => by
          rcases Nat.lt_or_ge j k with h | h
          · exact hno.out j p h hp
          · obtain rfl : j = k := by omega
            rw [HY.out] at hp
            cases hp
            exact g1)
        clear g1
        go_wp2_with fail
        go_roundw
        case rel => exact ⟨k + 1, by omega, by go_num, by trivial, HS⟩
        case measure => simp [intOf]; omega
    · go_wp2_with fail
      go_ret
      refine ⟨⟨-1, rfl, .inl ⟨rfl, fun hm => ?_⟩⟩, rfl⟩
      obtain ⟨p, hp, e⟩ := List.mem_map.1 hm
      obtain ⟨j, hj⟩ := List.mem_iff_getElem?.1 hp
      exact hno.out j p (by have := (List.getElem?_eq_some_iff.1 hj).1; have := HM.out; omega) hj e
set_option maxRecDepth 100000 in
set_option maxHeartbeats 1600000 in
theorem r02_off (H : R02 w base x v room L) (j : Nat) (hj : j < L.length) (hm : L.length < 1000) :
    Calls Try.prog 79 #[.pointer (some ⟨x, 0, none⟩), .int .i64 j] w fun e w' => e = .returned (.tuple #[]) ∧ R02Behind w base x v room (L.eraseIdx j) w' := by
  obtain ⟨m, hm2⟩ : ∃ m, m = L.length := ⟨_, rfl⟩
  have hrow := H.row
  have hxx := H.hx
  have hxl := blk_lt hxx
  have hbx := H.bx
  rw [← hm2] at hrow hm hj
  obtain ⟨A, cap, rfl⟩ := own_slice hrow
  have c1 : w.cell? ⟨x, 1, none⟩ = some (.slice A m cap) := blk_cell hxx 1
  have hcap := own_cap hrow
  have hc1 := hcap.1
  have hc2 : cap ≤ 9223372036854775807 := by have := hcap.2; unfold maxLen at this; omega
  have hsrc := own_src hrow
  have hs1 : Src w A (flat enc2 (L.take j)) := by rw [← flat_take enc2_len]; exact hsrc.take _
  have hs2 := Src.rest hsrc (by rw [flat_length enc2_len, ← hm2]) hc1 (j + 1)
  rw [flat_drop enc2_len] at hs2
  have hl1 : (flat enc2 (L.take j)).length = j * 2 := by rw [flat_length enc2_len, List.length_take, ← hm2, Nat.min_eq_left (by omega)]
  have hl2 : (flat enc2 (L.drop (j + 1))).length = (m - (j + 1)) * 2 := by rw [flat_length enc2_len, List.length_drop, ← hm2]
  have HER := hid (show flat enc2 (L.eraseIdx j) = flat enc2 (L.take j) ++ flat enc2 (L.drop (j + 1)) by rw [← flat_append, List.eraseIdx_eq_take_drop_succ])
  have HEL := hid (show (L.eraseIdx j).length = j + (m - (j + 1)) by rw [List.length_eraseIdx]; rw [← hm2, if_pos hj]; omega)
  obtain ⟨j1, hj1⟩ : ∃ j1, j + 1 = j1 := ⟨_, rfl⟩
  rw [hj1] at hs2 hl2 HER HEL
  have hwr : IntKind.i64.wrap ((j : Int) + 1) = (j1 : Int) := by rw [wraps_i64 _ (by omega) (by omega)]; omega
  have hj1m : j1 ≤ m := by omega
  have HXX := hid hxx
  have HS2 := hid hs2
  obtain ⟨i0, hi, hz0, hz1, hz2⟩ := info_parts Try.info_it02
  have HONE := hid (And.intro (flat_one enc2_one (L.take j)) (flat_one enc2_one (L.drop j1)))
  generalize L.eraseIdx j = L' at *
  generalize flat enc2 (L.take j) = fa at *
  generalize flat enc2 (L.drop j1) = fb at *
  clear H hrow hsrc hs2 hcap hm2 hj1 hxx
  go_enter Try.func79, Try.ntmps79
  go_wp2_with (at_builtin; refine append_src rfl _ _ 64 rfl w.heap.size 111 i0 _ 2 16 Try.underlying64 hi hz0 hz1 hz2 rfl (by decide) (.slice none 0 0) 0 [] rfl (World.ownsRow_nil _ _ _ _) A j cap fa rfl hl1 hs1 HONE.out.1 (by unfold maxLen; omega) (by omega) (Nat.le_refl _) ?_)
  intro v3 w3 hown3 hf3 hl3
  obtain ⟨A3, c3, rfl⟩ := own_slice hown3
  have hb3 : Below w.heap.size w w3 := hf3.to_below (fun x h => by cases h)
  have hx3 := (fr0 hb3).blk HXX.out (fun h => h)
  have c13 : w3.cell? ⟨x, 1, none⟩ = some (.slice A m cap) := blk_cell hx3 1
  have hs3 := HS2.out.kept (fr0 hb3) (fun _ _ h => h)
  have HB3 := hid hb3
  have HX3 := hid hx3
  have HO3 := hid hown3
  have hsz3 := hb3.size
  clear hf3 hl3 hb3 hx3 hs1
  have hfin : ∀ (v5 : Value) (w5 : World), w5.ownsRow w.heap.size 111 2 v5 (j + (m - j1)) (fa ++ fb) → Fr (fun k => (Value.slice A3 j c3).ownBlock = some k) w3 w5 →
      w5.heap[x]? = some (.cells #[.int .i64 room, .slice A m cap] 66 (0, 0)) ∧ R02Behind w base x (.slice A m cap) room L' (w5.setCell ⟨x, 1, none⟩ v5) := by
    intro v5 w5 hown5 hf5
    have hne : ∀ k, (Value.slice A3 j c3).ownBlock = some k → k ≠ x := fun k hk e => by have := own_ge HO3.out k hk; omega
    have hx5 := hf5.blk HX3.out (fun h => hne x h rfl)
    have hF : Fr (One x) w5 (w5.setCell ⟨x, 1, none⟩ v5) := (Fr.refl _ _).one 1 _
    have hge := own_ge hown5
    refine ⟨hx5, v5, ⟨by simpa using blk_set hx5 1 v5, ?_, hbx⟩, ?_, fun k hk => ?_⟩
    · rw [HEL.out, HER.out]
      exact own_mono (own_kept hown5 hF (fun k hk e => by have := hge k hk; have e2 : k = x := e; omega)) (by omega)
    · exact ((Fr.of_below (S := R02Set x (.slice A m cap)) HB3.out).trans hf5 (fun k hk => .inr (own_ge HO3.out k hk))).trans hF (fun k hk => .inl (.inl hk))
    · rcases hk with hk | hk
      · exact .inl (.inl hk)
      · exact .inr (hge k hk)
  have HFIN := hid hfin
  clear hfin
  by_cases hcs : cap = j1
  · rw [if_pos hcs] at hs3
    obtain rfl : j1 = cap := hcs.symm
    obtain rfl : j1 = m := by omega
    rw [Nat.sub_self] at hl2
    go_wp2_with (at_builtin; refine append_src rfl _ _ 64 rfl w.heap.size 111 i0 _ 2 16 Try.underlying64 hi hz0 hz1 hz2 rfl (by decide) (.slice A3 j c3) j _ rfl hown3 A 0 0 fb rfl hl2 hs3 HONE.out.2 (by unfold maxLen; omega) (by omega) hsz3 ?_)
    intro v5 w5 hown5 hf5 hl5
    obtain ⟨hx5, hR⟩ := HFIN.out v5 w5 (by rw [Nat.sub_self]; exact hown5) hf5
    obtain ⟨A5, c5, rfl⟩ := own_slice hown5
    have f1 : w5.frozen? ⟨x, 1, none⟩ = false := blk_free hx5 1
    have c15 : w5.cell? ⟨x, 1, none⟩ = some (.slice A j1 j1) := blk_cell hx5 1
    have HR := hid hR
    clear hown5 hf5 hl5 hR hx5 hown3 c13 hs3
    go_wp2_with fail
    go_end0
    exact ⟨rfl, HR.out⟩
  · rw [if_neg hcs] at hs3
    go_wp2_with (at_builtin; refine append_src rfl _ _ 64 rfl w.heap.size 111 i0 _ 2 16 Try.underlying64 hi hz0 hz1 hz2 rfl (by decide) (.slice A3 j c3) j _ rfl hown3 (A.map (·.add (j1 * 2))) (m - j1) (cap - j1) fb rfl hl2 hs3 HONE.out.2 (by unfold maxLen; omega) (by omega) hsz3 ?_)
    intro v5 w5 hown5 hf5 hl5
    obtain ⟨hx5, hR⟩ := HFIN.out v5 w5 hown5 hf5
    obtain ⟨A5, c5, rfl⟩ := own_slice hown5
    have f1 : w5.frozen? ⟨x, 1, none⟩ = false := blk_free hx5 1
    have c15 : w5.cell? ⟨x, 1, none⟩ = some (.slice A m cap) := blk_cell hx5 1
    have HR := hid hR
    clear hown5 hf5 hl5 hR hx5 hown3 c13 hs3
    go_wp2_with fail
    go_end0
    exact ⟨rfl, HR.out⟩
set_option maxRecDepth 100000 in
set_option maxHeartbeats 1600000 in
theorem r02_put (H : R02 w base x v room L) (t k : Int) (hs : L.Pairwise (fun p q => p.2 ≤ q.2)) (hm : L.length < 1000) :
    Calls Try.prog 78 #[.pointer (some ⟨x, 0, none⟩), .agg #[.int .i64 t, .int .i64 k]] w fun e w' => e = .returned (.tuple #[]) ∧ R02Behind w base x v room (insP (t, k) L) w' := by
  obtain ⟨L', hL'⟩ : ∃ L', insP (t, k) L = L' := ⟨_, rfl⟩
  rw [hL']
  have HLL := hid hL'
  clear hL'
  obtain ⟨m, hm2⟩ : ∃ m, m = L.length := ⟨_, rfl⟩
  have hxx := H.hx
  have hxl := blk_lt hxx
  have hbx := H.bx
  have hrow0 := H.row
  rw [← hm2] at hm hrow0
  obtain ⟨A, cap, rfl⟩ := own_slice hrow0
  have hb1 : Below w.heap.size w (w.alloc (.cells #[.int .i64 t, .int .i64 k] 111)) := (Below.refl _ _).alloc (Nat.le_refl _) _
  have xk := blk_new w (.cells #[.int .i64 t, .int .i64 k] 111)
  obtain ⟨w1, hw1⟩ : ∃ w1, w.alloc (.cells #[.int .i64 t, .int .i64 k] 111) = w1 := ⟨_, rfl⟩
  rw [hw1] at hb1 xk
  have hrow := own_kept hrow0 (fr0 hb1) (fun _ _ h => h)
  have hx1 := (fr0 hb1).blk hxx (fun h => h)
  have HROW := hid hrow
  have HXX := hid hx1
  have HB1 := hid hb1
  have HXK := hid xk
  have HM := hid hm2
  have HS := hid hs
  have c11 : w1.cell? ⟨x, 1, none⟩ = some (.slice A m cap) := blk_cell hx1 1
  have k1 : w1.cell? ⟨w.heap.size, 1, none⟩ = some (.int .i64 k) := blk_cell xk 1
  obtain ⟨i0, hi, hz0, hz1, hz2⟩ := info_parts Try.info_it02
  have HI := hid (And.intro hi (And.intro hz0 (And.intro hz1 hz2)))
  clear hi hz0 hz1 hz2 H hrow hrow0 hx1 hb1 xk hm2 hs hxx
  go_enter Try.func78, Try.ntmps78
  go_upto_block 0 with fail
  clear hw1
  go_cut [4] (fun i wx => ∃ s nq : Nat, s ≤ m ∧ i = .int .i64 s ∧ wx = w1.drewN nq ∧ Hid (L.take s ++ [(t, k)] ++ L.drop s = insP (t, k) L))
  case first =>
    as_aux_lemma =>
      go_wp2_with fail
      go_loopw [4] (fun i wx => ∃ s nq : Nat, s ≤ m ∧ i = .int .i64 s ∧ wx = w1.drewN nq ∧ Hid (∀ j (q : Int × Int), j < s → L[j]? = some q → q.2 ≤ k)) (fun i _ => m - (intOf i).toNat)
      case atStart => exact ⟨0, 0, by omega, rfl, rfl, hid (fun j q hj => by omega)⟩
      case round =>
        obtain ⟨s, nq', hs, rfl, rfl, hlow⟩ := hrel
        by_cases hlt : s < m
        · obtain ⟨p, hp⟩ : ∃ p, L[s]? = some p := ⟨_, List.getElem?_eq_getElem (by have := HM.out; omega)⟩
          obtain ⟨g7, e7, p1⟩ := row_cell (j := 1) enc2_len HROW.out hp rfl
          obtain rfl := e7
          have HP := hid hp
          obtain ⟨pk, hpk⟩ : ∃ pk, p.2 = pk := ⟨_, rfl⟩
          rw [hpk] at p1
          have HPK := hid hpk
          clear hp hpk
          by_cases hc : pk ≤ k
          · have hdc : decide (pk ≤ k) = true := decide_eq_true hc
            have HLOW : Hid (∀ j (q : Int × Int), j < s + 1 → L[j]? = some q → q.2 ≤ k) := hid (fun j p' hj hp' => by
              rcases Nat.lt_or_ge j s with h | h
              · exact hlow.out j p' h hp'
              · obtain rfl : j = s := by omega
                rw [HP.out] at hp'
                cases hp'
                rw [HPK.out]; exact hc)
            clear hc
            go_wp2_with fail
            go_quiet (fail)
            go_wp2_with fail
            go_roundw
            case rel => exact ⟨s + 1, nq' + nq, by omega, by go_num, by simp, HLOW⟩
            case measure => simp [intOf]; omega
          · have hdc : decide (pk ≤ k) = false := decide_eq_false hc
            have hfin := hid (put_at (t := t) HS.out hlow.out (fun q hq => by
              rw [HP.out] at hq
              cases hq
              rw [HPK.out]; omega))
            clear hc
            go_wp2_with fail
            go_quiet (fail)
            go_wp2_with fail
            go_meet
            exact ⟨s, nq' + nq, by omega, rfl, by simp, hfin⟩
        · have hfin := hid (put_at (t := t) HS.out hlow.out (fun q hq => by have := (List.getElem?_eq_some_iff.1 hq).1; have := HM.out; omega))
          go_wp2_with fail
          go_quiet (fail)
          go_wp2_with fail
          go_meet
          exact ⟨s, nq' + nq, by omega, rfl, by simp, hfin⟩
  obtain ⟨s, nq, hs, rfl, rfl, hpart⟩ := hcut
  obtain ⟨w2, hw2⟩ : ∃ w2, w1.drewN nq = w2 := ⟨_, rfl⟩
  have HB2 : Hid (Below w.heap.size w w2) := by rw [← hw2]; exact hid (below_drewN' HB1.out nq)
  have XK2 : Hid (w2.heap[w.heap.size]? = some (.cells #[.int .i64 t, .int .i64 k] 111 (0, 0))) := by rw [← hw2]; exact hid (blk_drewN HXK.out nq)
  have hx2 : w2.heap[x]? = some (.cells #[.int .i64 room, .slice A m cap] 66 (0, 0)) := by rw [← hw2]; exact blk_drewN HXX.out nq
  have hown2 : w2.ownsRow base 111 2 (.slice A m cap) m (flat enc2 L) := by rw [← hw2]; exact own_drewN HROW.out nq
  rw [hw2]
  have c12 : w2.cell? ⟨x, 1, none⟩ = some (.slice A m cap) := blk_cell hx2 1
  have hsz2 := HB2.out.size
  have hcap := own_cap hown2
  have hsrc := own_src hown2
  have hs1 : Src w2 A (flat enc2 (L.take s)) := by rw [← flat_take enc2_len]; exact hsrc.take _
  have hl1 : (flat enc2 (L.take s)).length = s * 2 := by rw [flat_length enc2_len, List.length_take, ← HM.out, Nat.min_eq_left hs]
  have hs2 := Src.rest hsrc (by rw [flat_length enc2_len, ← HM.out]) hcap.1 s
  rw [flat_drop enc2_len] at hs2
  have hl2 : (flat enc2 (L.drop s)).length = (m - s) * 2 := by rw [flat_length enc2_len, List.length_drop, ← HM.out]
  have hc1 := hcap.1
  have hc2 : cap ≤ 9223372036854775807 := by have := hcap.2; unfold maxLen at this; omega
  have HEL := hid (show L'.length = s + 1 + (m - s) by rw [← HLL.out, insP_len, ← HM.out]; omega)
  have HER := hid (show flat enc2 L' = flat enc2 (L.take s) ++ .int .i64 t :: .int .i64 k :: flat enc2 (L.drop s) by rw [← HLL.out, ← hpart.out, flat_append, flat_snoc]; simp [enc2])
  have HONE := hid (And.intro (flat_one enc2_one (L.take s)) (flat_one enc2_one (L.drop s)))
  have HX2 := hid hx2
  have HS2 := hid hs2
  obtain ⟨hi, hz0, hz1, hz2⟩ := HI.out
  have hlo : ∀ y, y = w.heap.size → y ≠ x := fun y hy => by omega
  generalize flat enc2 (L.take s) = fa at *
  generalize flat enc2 (L.drop s) = fb at *
  have HOW2 := hid hown2
  clear hw2 HB1 HXK HXX HROW hown2 hsrc hcap hx2 hs2 hpart
  go_wp2_with (at_builtin; refine append_src rfl _ _ 64 rfl w.heap.size 111 i0 _ 2 16 Try.underlying64 hi hz0 hz1 hz2 rfl (by decide) (.slice none 0 0) 0 [] rfl (World.ownsRow_nil _ _ _ _) A s cap fa rfl hl1 hs1 HONE.out.1 (by unfold maxLen; omega) (by omega) hsz2 ?_)
  intro v3 w3 hown3 hf3 hl3
  obtain ⟨A3, c3, rfl⟩ := own_slice hown3
  have hb3 : Below w2.heap.size w2 w3 := hf3.to_below (fun x h => by cases h)
  have HX3 := hid ((fr0 hb3).blk HX2.out (fun h => h))
  have XK3 := (fr0 hb3).blk XK2.out (fun h => h)
  have k30 : w3.cell? ⟨w.heap.size, 0, none⟩ = some (.int .i64 t) := blk_cell XK3 0
  have k31 : w3.cell? ⟨w.heap.size, 1, none⟩ = some (.int .i64 k) := blk_cell XK3 1
  have HS3 := hid (HS2.out.kept (fr0 hb3) (fun _ _ h => h))
  have HB3 := hid (below_then HB2.out hb3)
  have HO3 := hid hown3
  have HAP := hid (show ∀ a, (if cap = s then A else A.map (·.add (s * 2))) = some a → (Value.slice A3 s c3).ownBlock ≠ some a.block from fun a ha e => by
    have h1 := Apart.grown (Apart.nil (.slice A m cap)) hl3 HOW2.out (Nat.le_refl _) _ e
    apply h1
    rcases A with _ | ad
    · split at ha <;> cases ha
    · have h2 : a.block = ad.block := by
        split at ha
        · injection ha with ha; rw [ha]
        · injection ha with ha; rw [← ha]; unfold Addr.add; split <;> rfl
      rw [h2]
      rfl)
  have hsz3 := HB3.out.size
  clear hf3 hl3 hb3 XK3 hs1 c12
  have hown3' := hown3
  clear hown3
  go_wp2_with (at_builtin; refine append_new rfl _ _ 64 rfl w.heap.size 111 i0 _ 2 16 Try.underlying64 hi hz0 hz1 hz2 rfl (by decide) #[.int .i64 t, .int .i64 k] (.slice A3 s c3) s fa rfl _ rfl rfl hown3' rfl (enc2_one (t, k)) (by unfold maxLen; omega) (by omega) hsz3 ?_)
  intro v4 w4 hown4 hf4 hl4
  obtain ⟨g4, c4, cur4, rfl, _⟩ := own_shape hown4 (Nat.succ_pos _)
  have hge3 := own_ge HO3.out
  have HX4 := hid (hf4.blk HX3.out (fun h => by have := hge3 x h; omega))
  have c14 : w4.cell? ⟨x, 1, none⟩ = some (.slice A m cap) := blk_cell HX4.out 1
  have HB4 := hid (((Fr.of_below (S := NoB) HB3.out).trans hf4 (fun b hb => .inr (hge3 b hb))).no)
  have hsz4 := HB4.out.size
  have HO4 := hid hown4
  have hs4 := HS3.out.kept hf4 (fun a ha e => HAP.out a ha e)
  clear hf4 hl4 hown3' k30 k31 hge3
  have hfin : ∀ (v5 : Value) (w5 : World), w5.ownsRow w.heap.size 111 2 v5 (s + 1 + (m - s)) (fa ++ .int .i64 t :: .int .i64 k :: fb) → Fr (fun k => (Value.slice (some ⟨g4, 0, none⟩) (s + 1) c4).ownBlock = some k) w4 w5 →
      w5.heap[x]? = some (.cells #[.int .i64 room, .slice A m cap] 66 (0, 0)) ∧ R02Behind w base x (.slice A m cap) room L' (w5.setCell ⟨x, 1, none⟩ v5) := by
    intro v5 w5 hown5 hf5
    have hge4 := own_ge HO4.out
    have hx5 := hf5.blk HX4.out (fun h => by have := hge4 x h; omega)
    have hF : Fr (One x) w5 (w5.setCell ⟨x, 1, none⟩ v5) := (Fr.refl _ _).one 1 _
    have hge := own_ge hown5
    refine ⟨hx5, v5, ⟨by simpa using blk_set hx5 1 v5, ?_, hbx⟩, ?_, fun k hk => ?_⟩
    · rw [HEL.out, HER.out]
      exact own_mono (own_kept hown5 hF (fun k hk e => by have := hge k hk; have e2 : k = x := e; omega)) (by omega)
    · exact ((Fr.of_below (S := R02Set x (.slice A m cap)) HB4.out).trans hf5 (fun k hk => .inr (hge4 k hk))).trans hF (fun k hk => .inl (.inl hk))
    · rcases hk with hk | hk
      · exact .inl (.inl hk)
      · exact .inr (hge k hk)
  have HFIN := hid hfin
  clear hfin
  by_cases hcs : cap = s
  · rw [if_pos hcs] at hs4
    obtain rfl : s = cap := hcs.symm
    obtain rfl : s = m := by omega
    rw [Nat.sub_self] at hl2
    go_wp2_with (at_builtin; refine append_src rfl _ _ 64 rfl w.heap.size 111 i0 _ 2 16 Try.underlying64 hi hz0 hz1 hz2 rfl (by decide) (.slice (some ⟨g4, 0, none⟩) (s + 1) c4) (s + 1) _ rfl hown4 A 0 0 fb rfl hl2 hs4 HONE.out.2 (by unfold maxLen; omega) (by omega) hsz4 ?_)
    intro v5 w5 hown5 hf5 hl5
    obtain ⟨hx5, hR⟩ := HFIN.out v5 w5 (by rw [Nat.sub_self, Nat.add_zero]; exact hown5) hf5
    obtain ⟨A5, c5, rfl⟩ := own_slice hown5
    have f1 : w5.frozen? ⟨x, 1, none⟩ = false := blk_free hx5 1
    have c15 : w5.cell? ⟨x, 1, none⟩ = some (.slice A s s) := blk_cell hx5 1
    have HR := hid hR
    clear hown5 hf5 hl5 hR hx5 hown4 c14 hs4
    go_wp2_with fail
    go_end0
    exact ⟨rfl, HR.out⟩
  · rw [if_neg hcs] at hs4
    go_wp2_with (at_builtin; refine append_src rfl _ _ 64 rfl w.heap.size 111 i0 _ 2 16 Try.underlying64 hi hz0 hz1 hz2 rfl (by decide) (.slice (some ⟨g4, 0, none⟩) (s + 1) c4) (s + 1) _ rfl hown4 (A.map (·.add (s * 2))) (m - s) (cap - s) fb rfl hl2 hs4 HONE.out.2 (by unfold maxLen; omega) (by omega) hsz4 ?_)
    intro v5 w5 hown5 hf5 hl5
    obtain ⟨hx5, hR⟩ := HFIN.out v5 w5 hown5 hf5
    obtain ⟨A5, c5, rfl⟩ := own_slice hown5
    have f1 : w5.frozen? ⟨x, 1, none⟩ = false := blk_free hx5 1
    have c15 : w5.cell? ⟨x, 1, none⟩ = some (.slice A m cap) := blk_cell hx5 1
    have HR := hid hR
    clear hown5 hf5 hl5 hR hx5 hown4 c14 hs4
    go_wp2_with fail
    go_end0
    exact ⟨rfl, HR.out⟩
theorem R02.nil (h : R02 w base x v room L) (hL : L = []) : L.length = 0 := by rw [hL]; rfl
theorem r02_len_cell (h : R02 w base x v room L) : ∃ A cap, v = .slice A L.length cap ∧ w.cell? ⟨x, 1, none⟩ = some v := by
  obtain ⟨A, cap, hv⟩ := own_slice h.row
  exact ⟨A, cap, hv, blk_cell h.hx 1⟩
theorem r02_at_no (H : R02 w base x v room L) {t : Int} (hm : L.length < 1000) (h : t ∉ fsts L) : Calls Try.prog 77 #[.pointer (some ⟨x, 0, none⟩), .int .i64 t] w fun e w' => e = .returned (.int .i64 (-1)) ∧ w' = w := by
  refine (r02_at H t hm).mono ?_
  rintro e w' ⟨⟨r, rfl, hr⟩, rfl⟩
  rcases hr with ⟨rfl, _⟩ | ⟨j, p, rfl, hj, hp⟩
  · exact ⟨rfl, rfl⟩
  · exact absurd (List.mem_map.2 ⟨p, List.mem_of_getElem? hj, hp⟩) h
theorem r02_at_yes (H : R02 w base x v room L) {t : Int} (hn : (fsts L).Nodup) (hm : L.length < 1000) (h : t ∈ fsts L) : ∃ (j : Nat) (p : Int × Int), L[j]? = some p ∧ p.1 = t ∧ Calls Try.prog 77 #[.pointer (some ⟨x, 0, none⟩), .int .i64 t] w fun e w' => e = .returned (.int .i64 j) ∧ w' = w := by
  obtain ⟨p, hp, e⟩ := List.mem_map.1 h
  obtain ⟨j, hj⟩ := List.mem_iff_getElem?.1 hp
  refine ⟨j, p, hj, e, (r02_at H t hm).mono ?_⟩
  rintro e' w' ⟨⟨r, rfl, hr⟩, rfl⟩
  rcases hr with ⟨_, hno⟩ | ⟨j', p', rfl, hj', hp'⟩
  · exact absurd h hno
  · have h1 : (fsts L)[j]? = some t := by unfold fsts; rw [List.getElem?_map, hj, ← e]; rfl
    have h2 : (fsts L)[j']? = some t := by unfold fsts; rw [List.getElem?_map, hj', ← hp']; rfl
    obtain ⟨l1, e1⟩ := List.getElem?_eq_some_iff.1 h1
    obtain ⟨l2, e2⟩ := List.getElem?_eq_some_iff.1 h2
    obtain rfl : j = j' := (List.getElem_inj hn).1 (by rw [e1, e2])
    exact ⟨rfl, rfl⟩
set_option maxHeartbeats 400000 in
theorem r02_key (H : R02 w base x v room L) (hn : (fsts L).Nodup) (t : Int) (hm : L.length < 1000) :
    Calls Try.prog 44 #[.pointer (some ⟨x, 0, none⟩), .int .i64 t] w fun e w' => e = .returned (.tuple #[.int .i64 ((keyP L t).getD 0), .bool (keyP L t).isSome]) ∧ w' = w := by
  have hrow := H.row
  obtain ⟨A, cap, rfl, c1⟩ := r02_len_cell H
  by_cases hin : t ∈ fsts L
  · obtain ⟨j, p, hj, hp, hc⟩ := r02_at_yes H hn hm hin
    have hk := keyP_some hn (List.mem_of_getElem? hj)
    rw [hp] at hk
    rw [hk]
    simp only [Option.getD_some, Option.isSome_some]
    obtain ⟨g, rfl, d1⟩ := row_cell (j := 1) enc2_len hrow hj rfl
    have hjm := (List.getElem?_eq_some_iff.1 hj).1
    have HC := hid hc
    generalize p.2 = pk at *
    clear H hrow hn hin hj hp hc hk
    generalize L.length = m at *
    go_enter Try.func44, Try.ntmps44
    go_wp2_with fail
    refine HC.out.mono ?_
    rintro e w' ⟨rfl, rfl⟩
    go_wp2_with fail
    go_ret2
    exact ⟨rfl, rfl⟩
  · have HC := hid (r02_at_no H hm hin)
    rw [keyP_none hin]
    simp only [Option.getD_none, Option.isSome_none]
    clear H hrow hn hin
    go_enter Try.func44, Try.ntmps44
    go_wp2_with fail
    refine HC.out.mono ?_
    rintro e w' ⟨rfl, rfl⟩
    go_wp2_with fail
    go_ret2
    exact ⟨rfl, rfl⟩
set_option maxHeartbeats 400000 in
theorem r02_first (H : R02 w base x v room L) (hm : L.length < 1000) :
    Calls Try.prog 47 #[.pointer (some ⟨x, 0, none⟩)] w fun e w' => e = .returned (.tuple #[.int .i64 (headP L).1, .int .i64 (headP L).2, .bool (!L.isEmpty)]) ∧ ∃ q, w' = w.drewN q := by
  have hrow := H.row
  obtain ⟨A, cap, rfl, c1⟩ := r02_len_cell H
  rcases L with _ | ⟨p, L⟩
  · clear H hrow
    go_enter Try.func47, Try.ntmps47
    go_wp2_with fail
    go_ret3
    exact ⟨rfl, 0, rfl⟩
  · obtain ⟨m, hm2⟩ : ∃ m, (p :: L).length = m + 1 := ⟨L.length, rfl⟩
    rw [hm2] at c1 hrow hm
    obtain ⟨g, rfl, d0⟩ := row_cell (j := 0) (k := 0) enc2_len hrow rfl rfl
    obtain ⟨g', e1, d1⟩ := row_cell (j := 1) (k := 0) enc2_len hrow rfl rfl
    cases e1
    simp only [Nat.zero_mul, Nat.add_zero, Nat.zero_add] at d0 d1
    have he : (headP (p :: L)) = p := rfl
    have he2 : (!(p :: L).isEmpty) = true := rfl
    rw [he, he2]
    have hm0 : (((m + 1 : Nat) : Int) == 0) = false := beq_eq_false_iff_ne.2 (by omega)
    clear H hrow he he2 hm2
    go_enter Try.func47, Try.ntmps47
    go_wp2_with fail
    go_quiet (fail)
    go_wp2_with fail
    go_ret3
    exact ⟨rfl, _, rfl⟩
set_option maxRecDepth 100000 in
set_option maxHeartbeats 800000 in
theorem r02_push (H : R02 w base x v room L) (hs : L.Pairwise (fun p q => p.2 ≤ q.2)) (hn : (fsts L).Nodup) (t k : Int) (hm : L.length < 1000) (hr : room ≤ 256) :
    Calls Try.prog 39 #[.pointer (some ⟨x, 0, none⟩), .int .i64 t, .int .i64 k] w fun e w' => e = .returned (.int .i64 (pushP room L t k).1) ∧ R02Behind w base x v room (pushP room L t k).2 w' := by
  have HB := hid H.behind
  have c0 : w.cell? ⟨x, 0, none⟩ = some (.int .i64 room) := blk_cell H.hx 0
  by_cases g1 : t < 0
  · have hp : pushP room L t k = (1, L) := by unfold pushP; rw [if_pos g1]
    rw [hp]
    clear H hs hn hp hm
    go_enter Try.func39, Try.ntmps39
    go_wp2_with fail
    go_ret
    exact ⟨rfl, HB.out⟩
  · by_cases hin : t ∈ fsts L
    · have hp : pushP room L t k = (4, L) := by unfold pushP; rw [if_neg g1, if_pos hin]
      rw [hp]
      obtain ⟨j, p, hj, hp2, hc⟩ := r02_at_yes H hn hm hin
      have HC := hid hc
      clear H hs hn hp hin hj hp2 hc hm
      go_enter Try.func39, Try.ntmps39
      go_wp2_with fail
      refine HC.out.mono ?_
      rintro e w' ⟨rfl, rfl⟩
      go_wp2_with fail
      go_ret
      exact ⟨rfl, HB.out⟩
    · have HC := hid (r02_at_no H hm hin)
      have HBQ := hid (fun q => (show R02Behind w base x v room L (w.drewN q) from ⟨v, ⟨H.hx, H.row, H.bx⟩, (Fr.refl _ w).drewN q, fun _ h => .inl h⟩))
      have HPUT := hid (fun q => r02_put (w := w.drewN q) (base := base) (x := x) (v := v) (room := room) (L := L) ⟨H.hx, H.row, H.bx⟩ t k hs hm)
      obtain ⟨A, cap, rfl, c1⟩ := r02_len_cell H
      by_cases g2 : room ≤ L.length
      · have hp : pushP room L t k = (3, L) := by unfold pushP; rw [if_neg g1, if_neg hin, if_pos g2]
        rw [hp]
        clear H hs hn hp hin HPUT
        generalize L.length = m at *
        go_enter Try.func39, Try.ntmps39
        go_wp2_with fail
        refine HC.out.mono ?_
        rintro e w' ⟨rfl, rfl⟩
        go_wp2_with fail
        go_quiet (fail)
        go_wp2_with fail
        go_ret
        exact ⟨rfl, HBQ.out _⟩
      · have hp : pushP room L t k = (0, insP (t, k) L) := by unfold pushP; rw [if_neg g1, if_neg hin, if_neg g2]
        rw [hp]
        have g3 : L.length < room := by omega
        generalize insP (t, k) L = L' at *
        clear H hs hn hp hin g2 HB
        generalize L.length = m at *
        go_enter Try.func39, Try.ntmps39
        go_wp2_with fail
        refine HC.out.mono ?_
        rintro e w' ⟨rfl, rfl⟩
        go_wp2_with fail
        go_quiet (fail)
        go_wp2_with fail
        refine (HPUT.out _).mono ?_
        rintro e w5 ⟨rfl, hB⟩
        have HB5 := hid hB
        clear hB HPUT HBQ HC
        go_wp2_with fail
        go_ret
        obtain ⟨v', h1, h2, h3⟩ := HB5.out
        exact ⟨rfl, v', h1, ((Fr.refl _ w').drewN _).trans h2 (fun _ h => .inl h), fun j hj => h3 j hj⟩
end
end Go.Proofs.Ytbkjlohlfkokpaa
