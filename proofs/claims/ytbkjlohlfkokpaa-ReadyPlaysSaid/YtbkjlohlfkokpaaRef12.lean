/- The document's queue (a list of those that are there): what its functions do, each once (contracts): New, may, counts, ahead, at, Level. -/
import Derived.Test.YtbkjlohlfkokpaaReadyEx
set_option linter.unusedVariables false
set_option linter.unusedSimpArgs false
namespace Go.Proofs.Ytbkjlohlfkokpaa
open Go.RowKit

/-- One that is there: its task and its rank. -/
structure Od where
  t : Int
  r : Rk
def encO (p : Od) : List Value := [.int .i64 p.t, .int .i64 p.r.own, .int .i64 p.r.up, .bool p.r.ra]
theorem encO_len (p : Od) : (encO p).length = 4 := rfl
theorem encO_one (p : Od) : ∀ u ∈ encO p, u.oneCell' = true := by
  intro u hu
  simp [encO] at hu
  rcases hu with rfl | rfl | rfl | rfl <;> rfl
def odV (p : Od) : Value := .agg #[.int .i64 p.t, .int .i64 p.r.own, .int .i64 p.r.up, .bool p.r.ra]
theorem Try.info_od : (Try.prog.info? 126).map (fun i => (i.zero, i.size, i.bytes)) = some (some (.agg #[.int .i64 0, .int .i64 0, .int .i64 0, .bool false]), 4, 32) := by kernel_rfl
structure R12 (w : World) (base x : Nat) (v : Value) (policy : Int) (L : List Od) : Prop where
  hx : w.heap[x]? = some (.cells #[.int .i64 policy, v] 124 (0, 0))
  row : w.ownsRow base 126 4 v L.length (flat encO L)
  bx : base ≤ x
def R12Set (x : Nat) (v : Value) : Nat → Prop := fun k => k = x ∨ v.ownBlock = some k
def R12Behind (w : World) (base x : Nat) (v : Value) (policy : Int) (L' : List Od) (w' : World) : Prop :=
  ∃ v', R12 w' base x v' policy L' ∧ Fr (R12Set x v) w w' ∧ ∀ k, R12Set x v' k → R12Set x v k ∨ w.heap.size ≤ k
def odT (L : List Od) : List Int := L.map Od.t
section
variable {w w' : World} {base x : Nat} {v : Value} {policy : Int} {L L' : List Od}
theorem R12.ap (h : R12 w base x v policy L) : ∀ k, v.ownBlock = some k → k ≠ x := kind_ne h.row h.hx (by decide)
theorem R12.lt (h : R12 w base x v policy L) : ∀ k, R12Set x v k → base ≤ k ∧ k < w.heap.size := by
  intro k hk
  rcases hk with rfl | hk
  · exact ⟨h.bx, blk_lt h.hx⟩
  · exact h.row.lt k hk
theorem R12.kept {S : Nat → Prop} (h : R12 w base x v policy L) (f : Fr S w w') (hn : ∀ k, R12Set x v k → ¬ S k) : R12 w' base x v policy L :=
  ⟨f.blk h.hx (hn x (.inl rfl)), own_kept h.row f (fun k hk => hn k (.inr hk)), h.bx⟩
theorem R12.later (h : R12 w base x v policy L) (k : Below w.heap.size w w') : R12 w' base x v policy L := h.kept (fr0 k) (fun _ _ h => h)
theorem R12.behind (h : R12 w base x v policy L) : R12Behind w base x v policy L w := ⟨v, h, Fr.refl _ _, fun _ h => .inl h⟩
theorem r12_len_cell (h : R12 w base x v policy L) : ∃ A cap, v = .slice A L.length cap ∧ w.cell? ⟨x, 1, none⟩ = some v := by
  obtain ⟨A, cap, hv⟩ := own_slice h.row
  exact ⟨A, cap, hv, blk_cell h.hx 1⟩
theorem r12_new_no (c : Int) (h : c ≠ 1 ∧ c ≠ 2) : Calls Try.prog 59 #[.int .i64 c] w fun e w' => e = .returned (.pointer none) ∧ w' = w := by
  have h1 : (c != 1) = true := by simp [h.1]
  have h2 : (c != 2) = true := by simp [h.2]
  go_enter Try.func59, Try.ntmps59
  go_wp2_with fail
  go_ret
  exact ⟨rfl, rfl⟩
theorem r12_new_yes (c : Int) (h : c = 1 ∨ c = 2) : Calls Try.prog 59 #[.int .i64 c] w fun e w' => e = .returned (.pointer (some ⟨w.heap.size, 0, none⟩)) ∧ R12 w' w.heap.size w.heap.size (.slice none 0 0) c [] ∧ Below w.heap.size w w' := by
  go_enter Try.func59, Try.ntmps59
  rcases h with rfl | rfl
  all_goals
    go_wp2_with fail
    go_ret
    exact ⟨rfl, ⟨blk_new _ _, World.ownsRow_nil _ _ _ _, Nat.le_refl _⟩, (Below.refl _ _).alloc (Nat.le_refl _) _⟩
theorem r12_counts (p : Od) : Calls Try.prog 88 #[odV p] w fun e w' => e = .returned (.int .i64 p.r.level) ∧ Below w.heap.size w w' := by
  obtain ⟨t, o, u, ra⟩ := p
  unfold odV Rk.level
  go_enter Try.func88, Try.ntmps88
  cases ra
  · go_wp2_with fail
    go_ret
    exact ⟨rfl, (Below.refl _ _).alloc (Nat.le_refl _) _⟩
  · go_wp2_with fail
    go_ret
    exact ⟨rfl, (Below.refl _ _).alloc (Nat.le_refl _) _⟩
set_option maxHeartbeats 400000 in
theorem r12_at (H : R12 w base x v policy L) (t : Int) (hm : L.length < 1000) :
    Calls Try.prog 87 #[.pointer (some ⟨x, 0, none⟩), .int .i64 t] w fun e w' => (∃ r, e = .returned (.int .i64 r) ∧ ((r = -1 ∧ t ∉ odT L) ∨ ∃ (j : Nat) (p : Od), r = j ∧ L[j]? = some p ∧ p.t = t)) ∧ w' = w := by
  obtain ⟨m, hm2⟩ : ∃ m, m = L.length := ⟨_, rfl⟩
  have hrow := H.row
  have hxx := H.hx
  rw [← hm2] at hrow hm
  obtain ⟨A, cap, rfl⟩ := own_slice hrow
  have c1 : w.cell? ⟨x, 1, none⟩ = some (.slice A m cap) := blk_cell hxx 1
  have HO := hid hrow
  have HM := hid hm2
  clear H hm2 hrow hxx
  go_enter Try.func87, Try.ntmps87
  go_wp2_with fail
  go_loopw [5] (fun i wr => ∃ k : Nat, k ≤ m ∧ i = .int .i64 k ∧ wr = w ∧ Hid (∀ (j : Nat) (q : Od), j < k → L[j]? = some q → q.t ≠ t)) (fun i _ => m - (intOf i).toNat)
  case atStart => exact ⟨0, by omega, rfl, rfl, fun j p hj => by omega⟩
  case round =>
    obtain ⟨k, hk, rfl, rfl, hno⟩ := hrel
    by_cases hlt : k < m
    · obtain ⟨y, hy⟩ : ∃ y, L[k]? = some y := ⟨_, List.getElem?_eq_getElem (by have := HM.out; omega)⟩
      obtain ⟨g, rfl, d0⟩ := row_cell (j := 0) encO_len HO.out hy rfl
      simp only [Nat.add_zero] at d0
      have HY := hid hy
      clear hy
      by_cases g1 : y.t = t
      · have b1 : (y.t == t) = true := beq_iff_eq.2 g1
        have HD := hid g1
        clear g1
        go_wp2_with fail
        go_ret
        exact ⟨⟨k, rfl, .inr ⟨k, y, rfl, HY.out, HD.out⟩⟩, rfl⟩
      · have b1 : (y.t == t) = false := beq_eq_false_iff_ne.2 g1
        have HS : Hid (∀ (j : Nat) (q : Od), j < k + 1 → L[j]? = some q → q.t ≠ t) := hid (fun j p hj hp => by
          rcases Nat.lt_or_ge j k with h | h
          · exact hno.out j p h hp
          · obtain rfl : j = k := by omega
            rw [HY.out] at hp
            cases hp
            exact g1)
        clear g1
        go_wp2_with fail
        go_roundw
        case rel => exact ⟨k + 1, by omega, by go_num, by trivial, HS⟩
        case measure => simp [intOf]; omega
    · go_wp2_with fail
      go_ret
      refine ⟨⟨-1, rfl, .inl ⟨rfl, fun hm => ?_⟩⟩, rfl⟩
      obtain ⟨p, hp, e⟩ := List.mem_map.1 hm
      obtain ⟨j, hj⟩ := List.mem_iff_getElem?.1 hp
      exact hno.out j p (by have := (List.getElem?_eq_some_iff.1 hj).1; have := HM.out; omega) hj e
/-- Does one stand ahead of another one? By its key. -/
def aheadB (p q : Od) : Bool := if p.r.level ≠ q.r.level then decide (p.r.level < q.r.level) else if p.r.ra ≠ q.r.ra then p.r.ra else decide (p.t < q.t)
theorem ahead_key {p q : Od} (hp : 0 ≤ p.t ∧ p.t < 24) (hq : 0 ≤ q.t ∧ q.t < 24) : aheadB p q = decide (p.r.key p.t < q.r.key q.t) := by
  unfold aheadB Rk.key
  obtain ⟨pt, po, pu, pr⟩ := p
  obtain ⟨qt, qo, qu, qr⟩ := q
  simp only at hp hq ⊢
  generalize (Rk.mk po pu pr).level = a at *
  generalize (Rk.mk qo qu qr).level = b at *
  by_cases h1 : a = b
  · subst h1
    cases pr <;> cases qr <;> simp <;> omega
  · rw [if_pos h1]
    cases pr <;> cases qr <;> simp <;> omega
end
end Go.Proofs.Ytbkjlohlfkokpaa
