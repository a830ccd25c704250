/- The document's ring (a list) and the law's numbers: what each function does, once (contracts), in the words of package ring's own contracts. -/
import Derived.Test.YtcbpbgjngeemoaaRingInv
import Derived.Test.YtcbpbgjngeemoaaDeed
set_option linter.unusedVariables false
set_option linter.unusedSimpArgs false
namespace Go.Proofs.Ytcbpbgjngeemoaa
open Go.RowKit

/-- What a slice holds: whole numbers. -/
def Holds (w : World) (A : Option Addr) (L : List Int) : Prop := ∀ k x, L[k]? = some x → ∃ b o, A = some ⟨b, o, none⟩ ∧ w.cell? ⟨b, o + k, none⟩ = some (.int .i64 x)
theorem Holds.drewN {w : World} {A : Option Addr} {L : List Int} (h : Holds w A L) (q : Nat) : Holds (w.drewN q) A L := h
theorem Holds.kept {w w' : World} {A : Option Addr} {L : List Int} {S : Nat → Prop} (h : Holds w A L) (f : Fr S w w') (hn : ∀ a, A = some a → ¬ S a.block) : Holds w' A L := fun k x hk => by
  obtain ⟨b, o, hA, hc⟩ := h k x hk
  exact ⟨b, o, hA, f.cell hc (show ¬ S b from hn ⟨b, o, none⟩ hA)⟩
theorem own_holds {w : World} {base : Nat} {e : TypeId} {A : Option Addr} {n cap : Nat} {L : List Int} (h : w.ownsRow base e 1 (.slice A n cap) n (intCells L)) : Holds w A L := fun k x hk => by
  have hl := h.1
  have hk' := (List.getElem?_eq_some_iff.1 hk).1
  have hn : 0 < n := by simp [intCells] at hl; omega
  obtain ⟨g, cap', cur, hv, _⟩ := own_shape h hn
  cases hv
  exact ⟨g, 0, rfl, by rw [Nat.zero_add]; exact own_cell h (by simp [intCells, hk])⟩
/-- The rest of a row from k on. -/
theorem own_rest {w : World} {base g : Nat} {e : TypeId} {n cap k : Nat} {L : List Int} (h : w.ownsRow base e 1 (.slice (some ⟨g, 0, none⟩) n cap) n (intCells L)) (hk : k < cap) : Holds w (some ⟨g, k, none⟩) (L.drop k) := fun j x hj => by
  rw [List.getElem?_drop] at hj
  exact ⟨g, k, rfl, own_cell h (by simp [intCells, hj])⟩
theorem holds_nil (w : World) (A : Option Addr) : Holds w A [] := fun k x hk => by simp at hk

/-! Two rings of one kind -/
/-- Two rings in a world, behind a call's start. -/
structure RR (w wr : World) (r s r2 s2 : Nat) (R R2 : RS) : Prop where
  below : Below w.heap.size w wr
  a : IsRing wr r s R
  b : IsRing wr r2 s2 R2
  lo : w.heap.size ≤ r ∧ w.heap.size ≤ s ∧ w.heap.size ≤ r2 ∧ w.heap.size ≤ s2
  apart : r ≠ r2 ∧ r ≠ s2 ∧ s ≠ r2 ∧ s ≠ s2
theorem RR.stepA {w wx w' : World} {r s r2 s2 : Nat} {R R2 R' : RS} (h : RR w wx r s r2 s2 R R2) (hB : IsRing w' r s R') (hF : Fr (Two r s) wx w') : RR w w' r s r2 s2 R' R2 := by
  obtain ⟨h1, h2, h3, h4⟩ := h.apart
  exact ⟨below_two h.below hF h.lo.1 h.lo.2.1, hB, h.b.kept hF (fun e => by rcases e with e | e <;> omega) (fun e => by rcases e with e | e <;> omega), h.lo, h.apart⟩
theorem RR.stepB {w wx w' : World} {r s r2 s2 : Nat} {R R2 R' : RS} (h : RR w wx r s r2 s2 R R2) (hB : IsRing w' r2 s2 R') (hF : Fr (Two r2 s2) wx w') : RR w w' r s r2 s2 R R' := by
  obtain ⟨h1, h2, h3, h4⟩ := h.apart
  exact ⟨below_two h.below hF h.lo.2.2.1 h.lo.2.2.2, h.a.kept hF (fun e => by rcases e with e | e <;> omega) (fun e => by rcases e with e | e <;> omega), hB, h.lo, h.apart⟩
theorem RR.later {w wx w' : World} {r s r2 s2 : Nat} {R R2 : RS} (h : RR w wx r s r2 s2 R R2) (hb : Below wx.heap.size wx w') : RR w w' r s r2 s2 R R2 :=
  ⟨below_then h.below hb, h.a.kept (fr0 hb) (fun h => h) (fun h => h), h.b.kept (fr0 hb) (fun h => h) (fun h => h), h.lo, h.apart⟩
theorem RR.drewN {w wx : World} {r s r2 s2 : Nat} {R R2 : RS} (h : RR w wx r s r2 s2 R R2) (q : Nat) : RR w (wx.drewN q) r s r2 s2 R R2 :=
  ⟨below_drewN' h.below q, h.a.drewN q, h.b.drewN q, h.lo, h.apart⟩
theorem place_nil (id : Int) : place [] id = -1 := rfl
theorem putR_ne {R R' : RS} {id a b : Int} (h : putR R id = (a, b, R')) (hm : 0 < R.room) : R'.l ≠ [] := by
  unfold putR at h
  split at h
  · rename_i h1
    simp only [Prod.mk.injEq] at h
    rw [← h.2.2]
    intro e
    rw [e, place_nil] at h1
    omega
  · split at h
    · rename_i h2
      simp only [Prod.mk.injEq] at h
      rw [← h.2.2]
      intro e
      rw [e] at h2
      simp at h2
      omega
    · simp only [Prod.mk.injEq] at h
      rw [← h.2.2]
      simp

/-! The law's numbers -/
set_option maxHeartbeats 400000 in
theorem numbers_same {w : World} (A B : Option Addr) (n ca cb : Nat) (L : List Int) (hn : n = L.length) (hA : Holds w A L) (hB : Holds w B L) (hm : n < 4611686018427387904) :
    Calls Try.prog 39 #[.slice A n ca, .slice B n cb] w fun e w' => e = .returned (.bool true) ∧ ∃ q, w' = w.drewN q := by
  have HA := hid hA
  have HB := hid hB
  have HN := hid hn
  clear hA hB hn
  go_enter Try.func39, Try.ntmps39
  go_wp2_with fail
  go_loopw [5] (fun i wr => ∃ k q : Nat, k ≤ n ∧ i = .int .i64 k ∧ wr = w.drewN q) (fun i _ => n - (intOf i).toNat)
  case atStart => exact ⟨0, 0, by omega, rfl, rfl⟩
  case round =>
    obtain ⟨k, q, hk, rfl, rfl⟩ := hrel
    by_cases hlt : k < n
    · obtain ⟨x, hx⟩ : ∃ x, L[k]? = some x := ⟨_, List.getElem?_eq_getElem (by have := HN.out; omega)⟩
      obtain ⟨ba, oa, rfl, ca1⟩ := HA.out k x hx
      obtain ⟨bb, ob, rfl, cb1⟩ := HB.out k x hx
      clear hx
      go_wp2_with fail
      go_quiet (fail)
      go_wp2_with fail
      go_roundw
      case rel => exact ⟨k + 1, _, by omega, by go_num, rfl⟩
      case measure => simp [intOf]; omega
    · go_wp2_with fail
      go_ret
      exact ⟨rfl, _, rfl⟩
end Go.Proofs.Ytcbpbgjngeemoaa
