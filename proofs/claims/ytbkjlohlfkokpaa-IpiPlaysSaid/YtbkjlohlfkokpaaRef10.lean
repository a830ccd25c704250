/- The document's boxes (a list of notes): what its functions do, each once (contracts). -/
import Derived.Test.YtbkjlohlfkokpaaSrc
set_option linter.unusedVariables false
set_option linter.unusedSimpArgs false
namespace Go.Proofs.Ytbkjlohlfkokpaa
open Go.RowKit

/-- A note of the document: its core, its task, when it is due. -/
abbrev Nd := Int × Int × Int
def enc3 (p : Nd) : List Value := [.int .i64 p.1, .int .i64 p.2.1, .int .i64 p.2.2]
theorem enc3_len (p : Nd) : (enc3 p).length = 3 := rfl
theorem enc3_one (p : Nd) : ∀ u ∈ enc3 p, u.oneCell' = true := by
  intro u hu
  simp [enc3] at hu
  rcases hu with rfl | rfl | rfl <;> rfl
theorem Try.info_nd : (Try.prog.info? 91).map (fun i => (i.zero, i.size, i.bytes)) = some (some (.agg #[.int .i64 0, .int .i64 0, .int .i64 0]), 3, 24) := by kernel_rfl
structure R10 (w : World) (base x : Nat) (v : Value) (cores : Int) (L : List Nd) : Prop where
  hx : w.heap[x]? = some (.cells #[.int .i64 cores, v] 83 (0, 0))
  row : w.ownsRow base 91 3 v L.length (flat enc3 L)
  bx : base ≤ x
def R10Set (x : Nat) (v : Value) : Nat → Prop := fun k => k = x ∨ v.ownBlock = some k
def R10Behind (w : World) (base x : Nat) (v : Value) (cores : Int) (L' : List Nd) (w' : World) : Prop :=
  ∃ v', R10 w' base x v' cores L' ∧ Fr (R10Set x v) w w' ∧ ∀ k, R10Set x v' k → R10Set x v k ∨ w.heap.size ≤ k
section
variable {w w' : World} {base x : Nat} {v : Value} {cores : Int} {L : List Nd}
theorem R10.ap (h : R10 w base x v cores L) : ∀ k, v.ownBlock = some k → k ≠ x := kind_ne h.row h.hx (by decide)
theorem R10.lt (h : R10 w base x v cores L) : ∀ k, R10Set x v k → base ≤ k ∧ k < w.heap.size := by
  intro k hk
  rcases hk with rfl | hk
  · exact ⟨h.bx, blk_lt h.hx⟩
  · exact h.row.lt k hk
theorem R10.kept {S : Nat → Prop} (h : R10 w base x v cores L) (f : Fr S w w') (hn : ∀ k, R10Set x v k → ¬ S k) : R10 w' base x v cores L :=
  ⟨f.blk h.hx (hn x (.inl rfl)), own_kept h.row f (fun k hk => hn k (.inr hk)), h.bx⟩
theorem R10.later (h : R10 w base x v cores L) (k : Below w.heap.size w w') : R10 w' base x v cores L := h.kept (fr0 k) (fun _ _ h => h)
theorem r10_new_no (c : Int) (h : c < 1 ∨ 8 < c) : Calls Try.prog 18 #[.int .i64 c] w fun e w' => e = .returned (.pointer none) ∧ w' = w := by
  go_enter Try.func18, Try.ntmps18
  rcases h with h | h
  · go_wp2_with fail
    go_ret
    exact ⟨rfl, rfl⟩
  · have h2 : ¬ c < 1 := by omega
    go_wp2_with fail
    go_ret
    exact ⟨rfl, rfl⟩
theorem r10_new_yes (c : Int) (h : 1 ≤ c ∧ c ≤ 8) : Calls Try.prog 18 #[.int .i64 c] w fun e w' => e = .returned (.pointer (some ⟨w.heap.size, 0, none⟩)) ∧ R10 w' w.heap.size w.heap.size (.slice none 0 0) c [] ∧ Below w.heap.size w w' := by
  obtain ⟨h1, h2⟩ := h
  go_enter Try.func18, Try.ntmps18
  go_wp2_with fail
  go_ret
  exact ⟨rfl, ⟨blk_new _ _, World.ownsRow_nil _ _ _ _, Nat.le_refl _⟩, (Below.refl _ _).alloc (Nat.le_refl _) _⟩

def dueL : List Nd → Int → Int → Int
  | [], _, _ => -1
  | p :: L, c, t => if p.1 = c ∧ p.2.1 = t then p.2.2 else dueL L c t
theorem dueL_hit : ∀ {L : List Nd} {c t : Int} {k : Nat} {p : Nd}, (∀ (j : Nat) (q : Nd), j < k → L[j]? = some q → ¬ (q.1 = c ∧ q.2.1 = t)) → L[k]? = some p → p.1 = c → p.2.1 = t → dueL L c t = p.2.2
  | [], c, t, k, p, _, h, _, _ => by simp at h
  | q :: L, c, t, 0, p, _, h, h1, h2 => by
    simp at h
    subst h
    unfold dueL
    rw [if_pos ⟨h1, h2⟩]
  | q :: L, c, t, k + 1, p, hn, h, h1, h2 => by
    unfold dueL
    rw [if_neg (hn 0 q (by omega) rfl)]
    exact dueL_hit (fun j r hj hr => hn (j + 1) r (Nat.succ_lt_succ hj) (by simpa using hr)) (by simpa using h) h1 h2
theorem dueL_none : ∀ {L : List Nd} {c t : Int}, (∀ (j : Nat) (q : Nd), L[j]? = some q → ¬ (q.1 = c ∧ q.2.1 = t)) → dueL L c t = -1
  | [], _, _, _ => rfl
  | q :: L, c, t, h => by
    unfold dueL
    rw [if_neg (h 0 q rfl)]
    exact dueL_none (fun j r hr => h (j + 1) r (by simpa using hr))
set_option maxHeartbeats 400000 in
theorem r10_due (H : R10 w base x v cores L) (c t : Int) (hm : L.length < 4611686018427387904) :
    Calls Try.prog 25 #[.pointer (some ⟨x, 0, none⟩), .int .i64 c, .int .i64 t] w fun e w' => e = .returned (.int .i64 (dueL L c t)) ∧ w' = w := by
  obtain ⟨m, hm2⟩ : ∃ m, m = L.length := ⟨_, rfl⟩
  have hrow := H.row
  have hxx := H.hx
  rw [← hm2] at hrow hm
  obtain ⟨A, cap, rfl⟩ := own_slice hrow
  have c1 : w.cell? ⟨x, 1, none⟩ = some (.slice A m cap) := blk_cell hxx 1
  have HO := hid hrow
  have HM := hid hm2
  clear H hm2 hrow hxx
  go_enter Try.func25, Try.ntmps25
  go_wp2_with fail
  go_loopw [7] (fun i wr => ∃ k : Nat, k ≤ m ∧ i = .int .i64 k ∧ wr = w ∧ Hid (∀ (j : Nat) (q : Nd), j < k → L[j]? = some q → ¬ (q.1 = c ∧ q.2.1 = t))) (fun i _ => m - (intOf i).toNat)
  case atStart => exact ⟨0, by omega, rfl, rfl, fun j p hj => by omega⟩
  case round =>
    obtain ⟨k, hk, rfl, rfl, hno⟩ := hrel
    by_cases hlt : k < m
    · obtain ⟨y, hy⟩ : ∃ y, L[k]? = some y := ⟨_, List.getElem?_eq_getElem (by have := HM.out; omega)⟩
      obtain ⟨g, rfl, d0⟩ := row_cell (j := 0) enc3_len HO.out hy rfl
      obtain ⟨g', e1, d1⟩ := row_cell (j := 1) enc3_len HO.out hy rfl
      obtain ⟨g'', e2, d2⟩ := row_cell (j := 2) enc3_len HO.out hy rfl
      cases e1
      cases e2
      simp only [Nat.add_zero] at d0
      have HY := hid hy
      clear hy
      have hstep : ¬ (y.1 = c ∧ y.2.1 = t) → Hid (∀ (j : Nat) (q : Nd), j < k + 1 → L[j]? = some q → ¬ (q.1 = c ∧ q.2.1 = t)) := fun hne => hid (fun j p hj hp => by
        rcases Nat.lt_or_ge j k with h | h
        · exact hno.out j p h hp
        · obtain rfl : j = k := by omega
          rw [HY.out] at hp
          cases hp
          exact hne)
      have HSTEP := hid hstep
      clear hstep
      by_cases g1 : y.1 = c
      · have b1 : (y.1 == c) = true := beq_iff_eq.2 g1
        by_cases g2 : y.2.1 = t
        · have b2 : (y.2.1 == t) = true := beq_iff_eq.2 g2
          have HD := hid (dueL_hit hno.out HY.out g1 g2)
          clear g1 g2
          go_wp2_with fail
          go_ret
          exact ⟨ret_eq (by rw [HD.out]; rfl), rfl⟩
        · have b2 : (y.2.1 == t) = false := beq_eq_false_iff_ne.2 g2
          have HS := HSTEP.out (fun h => g2 h.2)
          clear g1 g2
          go_wp2_with fail
          go_roundw
          case rel => exact ⟨k + 1, by omega, by go_num, by trivial, HS⟩
          case measure => simp [intOf]; omega
      · have b1 : (y.1 == c) = false := beq_eq_false_iff_ne.2 g1
        have HS := HSTEP.out (fun h => g1 h.1)
        clear g1
        go_wp2_with fail
        go_roundw
        case rel => exact ⟨k + 1, by omega, by go_num, by trivial, HS⟩
        case measure => simp [intOf]; omega
    · go_wp2_with fail
      go_ret
      exact ⟨ret_eq (by rw [dueL_none (fun j p hp => hno.out j p (by have := (List.getElem?_eq_some_iff.1 hp).1; have := HM.out; omega) hp)]; rfl), rfl⟩
def lenL (L : List Nd) (c : Int) : Nat := (L.filter (fun p => decide (p.1 = c))).length
theorem lenL_le (L : List Nd) (c : Int) : lenL L c ≤ L.length := List.length_filter_le _ _
theorem lenL_succ {L : List Nd} {c : Int} {k : Nat} {p : Nd} (h : L[k]? = some p) : lenL (L.take (k + 1)) c = lenL (L.take k) c + (if p.1 = c then 1 else 0) := by
  unfold lenL
  rw [List.take_add_one, h, List.filter_append, List.length_append]
  by_cases g : p.1 = c
  · simp [g]
  · simp [g]
set_option maxHeartbeats 400000 in
theorem r10_len (H : R10 w base x v cores L) (c : Int) (hm : L.length < 4611686018427387904) :
    Calls Try.prog 27 #[.pointer (some ⟨x, 0, none⟩), .int .i64 c] w fun e w' => e = .returned (.int .i64 (lenL L c : Nat)) ∧ w' = w := by
  obtain ⟨m, hm2⟩ : ∃ m, m = L.length := ⟨_, rfl⟩
  have hrow := H.row
  have hxx := H.hx
  rw [← hm2] at hrow hm
  obtain ⟨A, cap, rfl⟩ := own_slice hrow
  have c1 : w.cell? ⟨x, 1, none⟩ = some (.slice A m cap) := blk_cell hxx 1
  have HO := hid hrow
  have HM := hid hm2
  clear H hm2 hrow hxx
  go_enter Try.func27, Try.ntmps27
  go_wp2_with fail
  go_loopw [5, 6] (fun n i wr => ∃ k q : Nat, k ≤ m ∧ i = .int .i64 k ∧ n = .int .i64 q ∧ q ≤ k ∧ wr = w ∧ Hid (q = lenL (L.take k) c)) (fun _ i _ => m - (intOf i).toNat)
  case atStart => exact ⟨0, 0, by omega, rfl, rfl, by omega, rfl, rfl⟩
  case round =>
    obtain ⟨k, q, hk, rfl, rfl, hq, rfl, hno⟩ := hrel
    by_cases hlt : k < m
    · obtain ⟨y, hy⟩ : ∃ y, L[k]? = some y := ⟨_, List.getElem?_eq_getElem (by have := HM.out; omega)⟩
      obtain ⟨g, rfl, d0⟩ := row_cell (j := 0) enc3_len HO.out hy rfl
      simp only [Nat.add_zero] at d0
      have HS := hid (lenL_succ (c := c) hy)
      clear hy
      by_cases g1 : y.1 = c
      · have b1 : (y.1 == c) = true := beq_iff_eq.2 g1
        have HQ : Hid (q + 1 = lenL (L.take (k + 1)) c) := hid (by rw [HS.out, if_pos g1, hno.out])
        clear g1
        go_wp2_with fail
        go_roundw
        case rel => exact ⟨k + 1, q + 1, by omega, by go_num, by go_num, by omega, by trivial, HQ⟩
        case measure => simp [intOf]; omega
      · have b1 : (y.1 == c) = false := beq_eq_false_iff_ne.2 g1
        have HQ : Hid (q = lenL (L.take (k + 1)) c) := hid (by rw [HS.out, if_neg g1, hno.out]; rfl)
        clear g1
        go_wp2_with fail
        go_roundw
        case rel => exact ⟨k + 1, q, by omega, by go_num, rfl, by omega, by trivial, HQ⟩
        case measure => simp [intOf]; omega
    · have hk2 : L.take k = L := List.take_of_length_le (by have := HM.out; omega)
      rw [hk2] at hno
      clear hk2
      go_wp2_with fail
      go_ret
      exact ⟨ret_eq (by rw [hno.out]; rfl), rfl⟩
end
end Go.Proofs.Ytbkjlohlfkokpaa
