/- The document's locks: what its functions do, each once (contracts), in the words of package locks'. -/
import Derived.Test.YtcbpbgjngeemoaaGrid
set_option linter.unusedVariables false
set_option linter.unusedSimpArgs false
namespace Go.Proofs.Ytcbpbgjngeemoaa
open Go.RowKit

theorem wants_hit : ∀ (Q : List (List Int)) (t : Int) (k : Nat) (q : List Int), (∀ (i : Nat) q', i < k → Q[i]? = some q' → t ∉ q') → Q[k]? = some q → t ∈ q → wantsQ Q t = k
  | [], _, _, _, _, h, _ => by simp at h
  | x :: Q, t, 0, q, _, h, ht => by simp at h; subst h; unfold wantsQ; rw [if_pos ht]; rfl
  | x :: Q, t, k + 1, q, hn, h, ht => by
    have ih := wants_hit Q t k q (fun i q' hi hq => hn (i + 1) q' (by omega) (by simpa using hq)) (by simpa using h) ht
    unfold wantsQ
    rw [if_neg (hn 0 x (by omega) (by simp)), ih, if_neg (by omega)]
    omega
/-- Block x is the document's lock. -/
structure R13 (w : World) (base x g : Nat) (vs : List Value) (Q : List (List Int)) : Prop where
  hx : w.heap[x]? = some (.cells #[.slice (some ⟨g, 0, none⟩) Q.length Q.length] 115 (0, 0))
  grid : GridAt w base g vs Q
  lo : base ≤ x
def RSet (x g : Nat) (vs : List Value) (k : Nat) : Prop := k = x ∨ GSet g vs k
section
variable {w w' : World} {base x g : Nat} {vs : List Value} {Q : List (List Int)}
theorem R13.lt (h : R13 w base x g vs Q) : ∀ k, RSet x g vs k → base ≤ k ∧ k < w.heap.size := by
  intro k hk
  rcases hk with rfl | hk
  · exact ⟨h.lo, blk_lt h.hx⟩
  · exact h.grid.lt k hk
theorem R13.kept {S : Nat → Prop} (h : R13 w base x g vs Q) (k : Fr S w w') (hn : ∀ j, RSet x g vs j → ¬ S j) : R13 w' base x g vs Q :=
  ⟨k.blk h.hx (hn x (.inl rfl)), h.grid.kept k (fun j hj => hn j (.inr hj)), h.lo⟩
theorem R13.later (h : R13 w base x g vs Q) (k : Below w.heap.size w w') : R13 w' base x g vs Q := h.kept (fr0 k) (fun _ _ h => h)
theorem R13.drewN (h : R13 w base x g vs Q) (q : Nat) : R13 (w.drewN q) base x g vs Q := h.later (below_drewN' (Below.refl _ _) q)
theorem R13.weak {base' : Nat} (h : R13 w base x g vs Q) (hb : base' ≤ base) : R13 w base' x g vs Q := ⟨h.hx, h.grid.base hb, Nat.le_trans hb h.lo⟩
theorem R13.row (h : R13 w base x g vs Q) {i : Nat} {q : List Int} (hq : Q[i]? = some q) : ∃ A c, vs[i]? = some (.slice A q.length c) ∧ w.ownsRow base 3 1 (.slice A q.length c) q.length (intCells q) ∧ w.cell? ⟨g, i, none⟩ = some (.slice A q.length c) := by
  have hi := (List.getElem?_eq_some_iff.1 hq).1
  obtain ⟨v, hv⟩ : ∃ v, vs[i]? = some v := ⟨_, List.getElem?_eq_getElem (by rw [h.grid.len]; exact hi)⟩
  have hr := h.grid.rows i v q hv hq
  obtain ⟨A, c, rfl⟩ := own_slice hr
  exact ⟨A, c, hv, hr, h.grid.cell hv⟩
/-- What a deed leaves. -/
def R13Behind (w : World) (base x g : Nat) (vs : List Value) (Q' : List (List Int)) (w' : World) : Prop :=
  ∃ vs', R13 w' base x g vs' Q' ∧ Fr (RSet x g vs) w w' ∧ ∀ k, RSet x g vs' k → RSet x g vs k ∨ w.heap.size ≤ k
theorem R13Behind.same (h : R13 w base x g vs Q) (hb : Below w.heap.size w w') : R13Behind w base x g vs Q w' :=
  ⟨vs, h.later hb, Fr.of_below hb, fun k hk => .inl hk⟩
/-- Row i turns. -/
theorem R13.turn (h : R13 w base x g vs Q) {w1 : World} {i : Nat} {v v' : Value} {q q' : List Int} (hv : vs[i]? = some v) (hq : Q[i]? = some q) (hown : w1.ownsRow base 3 1 v' q'.length (intCells q')) (hF : Fr (fun k => v.ownBlock = some k) w w1)
    (hloc : ∀ k, v'.ownBlock = some k → v.ownBlock = some k ∨ w.heap.size ≤ k) : R13Behind w base x g vs (Q.set i q') (w1.setCell ⟨g, i, none⟩ v') := by
  obtain ⟨hG, hFr, hN⟩ := h.grid.turn hv hq hown hF hloc
  have hx1 : w1.heap[x]? = some (.cells #[.slice (some ⟨g, 0, none⟩) Q.length Q.length] 115 (0, 0)) := hF.blk h.hx (fun e => by
    obtain ⟨C, hC⟩ := own_kind (h.grid.rows i v q hv hq) e
    exact blk_ne hC h.hx (cells_ne (by decide)) rfl)
  have hgx : x ≠ g := blk_ne h.hx h.grid.hg (cells_ne (by decide))
  refine ⟨_, ⟨by rw [List.length_set]; exact blk_set_ne hx1 hgx i v', hG, h.lo⟩, hFr.mono (fun k hk => .inl (.inr hk)), fun k hk => ?_⟩
  rcases hk with hk | hk
  · exact .inl (.inl hk)
  · exact (hN k hk).imp (fun e => .inr e) (fun e => e)
theorem r13_new_no {w : World} (n : Int) (h : n < 0 ∨ 8 < n) : Calls Try.prog 44 #[.int .i64 n] w fun e w' => e = .returned (.pointer none) ∧ w' = w := by
  by_cases h0 : n < 0
  · go_enter Try.func44, Try.ntmps44
    go_wp2_with fail
    go_ret
    exact ⟨rfl, rfl⟩
  · have h1 : 8 < n := by omega
    clear h
    go_enter Try.func44, Try.ntmps44
    go_wp2_with fail
    go_ret
    exact ⟨rfl, rfl⟩
set_option maxRecDepth 100000 in
theorem r13_new_yes {w : World} (n : Nat) (h : n ≤ 8) :
    Calls Try.prog 44 #[.int .i64 n] w fun e w' => ∃ x g vs, e = .returned (.pointer (some ⟨x, 0, none⟩)) ∧ R13 w' w.heap.size x g vs (List.replicate n []) ∧ Below w.heap.size w w' := by
  obtain ⟨C1, hC1⟩ : ∃ C : Array Value, C = (List.replicate n (.slice none 0 0)).toArray := ⟨_, rfl⟩
  have hm1 : ∀ w : World, (Instr.makeSlice 80 (.int .i64 (n : Int)) (.int .i64 (n : Int))).run Try.prog w = .ok (.slice (some ⟨w.heap.size, 0, none⟩) n n) (w.alloc (.cells C1 22)) := fun w => by rw [hC1]; exact make_grid n (by omega) w
  have HC := hid hC1
  clear hC1
  go_enter Try.func44, Try.ntmps44
  go_wp2_with fail
  go_ret
  have hb1 : Below w.heap.size w (w.alloc (.cells C1 22)) := (Below.refl _ w).alloc (Nat.le_refl _) _
  have hx := blk_new (w.alloc (.cells C1 22)) (.cells #[.slice (some ⟨w.heap.size, 0, none⟩) n n] 115)
  rw [show (w.alloc (.cells C1 22)).heap.size = w.heap.size + 1 by simp] at hx
  refine ⟨w.heap.size + 1, w.heap.size, List.replicate n (.slice none 0 0), rfl, ⟨by rw [List.length_replicate]; exact hx, ?_, by omega⟩, hb1.alloc (by simp) _⟩
  rw [HC.out]
  exact (GridAt.made w n).later ((Below.refl _ _).alloc (Nat.le_refl _) _)
set_option maxHeartbeats 800000 in
theorem r13_wants (H : R13 w base x g vs Q) (t : Int) (h8 : Q.length ≤ 8) (hl : ∀ q ∈ Q, q.length < 4611686018427387904) :
    Calls Try.prog 53 #[.pointer (some ⟨x, 0, none⟩), .int .i64 t] w fun e w' => e = .returned (.int .i64 (wantsQ Q t)) ∧ w' = w := by
  obtain ⟨n, hn⟩ : ∃ n, n = Q.length := ⟨_, rfl⟩
  have c0 : w.cell? ⟨x, 0, none⟩ = some (.slice (some ⟨g, 0, none⟩) n n) := by rw [blk_cell H.hx 0, hn]; rfl
  have HH := hid H
  have HN := hid hn
  have HL := hid hl
  rw [← hn] at h8
  clear H hn hl
  go_enter Try.func53, Try.ntmps53
  go_wp2_with fail
  go_loopw [5] (fun i wr => ∃ k : Nat, k ≤ n ∧ i = .int .i64 k ∧ wr = w ∧ Hid (∀ (i : Nat) q', i < k → Q[i]? = some q' → t ∉ q')) (fun i _ => n - (intOf i).toNat)
  case atStart => exact ⟨0, by omega, rfl, rfl, fun i q' hi => by omega⟩
  case round =>
    obtain ⟨k, hk, rfl, rfl, hno⟩ := hrel
    by_cases hlt : k < n
    · obtain ⟨q, hq⟩ : ∃ q, Q[k]? = some q := ⟨_, List.getElem?_eq_getElem (by have := HN.out; omega)⟩
      obtain ⟨A, c, hv, hown, cg⟩ := HH.out.row hq
      have hql := HL.out q (List.mem_of_getElem? hq)
      obtain ⟨m, hm⟩ : ∃ m, m = q.length := ⟨_, rfl⟩
      have HO := hid (own_holds hown)
      rw [← hm] at cg hql
      have HM := hid hm
      have HQ := hid hq
      clear hv hown hm hq
      go_wp2_with fail
      go_loopw [6] (fun i wx => ∃ j : Nat, j ≤ m ∧ i = .int .i64 j ∧ wx = wr ∧ Hid (∀ (i : Nat) y, i < j → q[i]? = some y → y ≠ t)) (fun i _ => m - (intOf i).toNat)
      case atStart => exact ⟨0, by omega, rfl, rfl, fun i q' hi => by omega⟩
      case round =>
        obtain ⟨j, hj, rfl, rfl, hno2⟩ := hrel
        by_cases hlt2 : j < m
        · obtain ⟨y, hy⟩ : ∃ y, q[j]? = some y := ⟨_, List.getElem?_eq_getElem (by have := HM.out; omega)⟩
          obtain ⟨b1, o1, rfl, cy⟩ := HO.out j y hy
          have HY := hid hy
          clear hy
          go_wp2_with fail
          · go_ret
            have he : (y == t) = true := by assumption
            exact ⟨ret_eq (by rw [wants_hit Q t k q hno.out HQ.out (by rw [← show y = t by simpa using he]; exact List.mem_of_getElem? HY.out)]; rfl), rfl⟩
          · go_roundw
            case rel => exact ⟨j + 1, by omega, by go_num, by trivial, fun i z hi hz => by
              rcases Nat.lt_or_ge i j with h | h
              · exact hno2.out i z h hz
              · obtain rfl : i = j := by omega
                rw [HY.out] at hz
                cases hz
                have hne : (y == t) = false := by assumption
                simpa using hne⟩
            case measure => simp [intOf]; omega
        · have hnq : t ∉ q := fun hm => by
            obtain ⟨i, hi, e⟩ := List.getElem_of_mem hm
            exact hno2.out i t (by have := HM.out; omega) (by rw [List.getElem?_eq_getElem hi, e]) rfl
          have HNQ := hid hnq
          clear hnq
          go_wp2_with fail
          go_roundw
          case rel => exact ⟨k + 1, by omega, by go_num, by trivial, fun i z hi hz => by
            rcases Nat.lt_or_ge i k with h | h
            · exact hno.out i z h hz
            · obtain rfl : i = k := by omega
              rw [HQ.out] at hz
              cases hz
              exact HNQ.out⟩
          case measure => simp [intOf]; omega
    · go_wp2_with fail
      go_ret
      exact ⟨ret_eq (by rw [wants_no (t := t) (fun i q hq => hno.out i q (by have := (List.getElem?_eq_some_iff.1 hq).1; have := HN.out; omega) hq)]; rfl), rfl⟩
end
end Go.Proofs.Ytcbpbgjngeemoaa
