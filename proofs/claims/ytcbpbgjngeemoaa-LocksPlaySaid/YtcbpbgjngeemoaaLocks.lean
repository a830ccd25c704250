/- Package locks: what its functions do, each once (contracts), on queues of whole numbers. -/
import Derived.Test.YtcbpbgjngeemoaaRingInv
import Derived.Test.YtcbpbgjngeemoaaMap
import Derived.Test.YtcbpbgjngeemoaaLockPlain
import Derived.Deep.CutBlock
import Derived.Deep.DeepCutAuto
set_option linter.unusedVariables false
set_option linter.unusedSimpArgs false
namespace Go.Proofs.Ytcbpbgjngeemoaa
open Go.RowKit

theorem blk_ne {w : World} {a c : Nat} {o1 o2 : Obj} (h1 : w.heap[a]? = some o1) (h2 : w.heap[c]? = some o2) (h : o1 ≠ o2) : a ≠ c := by
  intro e
  rw [e, h2] at h1
  injection h1 with h1
  exact h h1.symm
theorem cells_ne {A B : Array Value} {s t : TypeId} {f g : Nat × Nat} (h : s ≠ t) : Obj.cells A s f ≠ Obj.cells B t g := fun e => by injection e with _ e _; exact h e
theorem cells_map {A : Array Value} {s : TypeId} {f : Nat × Nat} {es : Array MapEntry} {c : Nat} : Obj.cells A s f ≠ .map es c := fun e => by cases e
theorem IsRing.kinds {w : World} {r s : Nat} {R : RS} (h : IsRing w r s R) : (∃ A, w.heap[r]? = some (.cells A 96 (0, 0))) ∧ ∃ C, w.heap[s]? = some (.cells C 98 (0, 0)) := by
  obtain ⟨n, f, C, h⟩ := h
  exact ⟨⟨_, h.hr⟩, _, h.hs⟩
/-- Pointers as cells. -/
def ptrs (P : List (Nat × Nat)) : List Value := P.map fun p => .pointer (some ⟨p.1, 0, none⟩)
/-- A ring that holds a queue; c: the last ticket at most. -/
def RingQ (w : World) (p : Nat × Nat) (c : Nat) (q : List Int) : Prop := ∃ R, IsRing w p.1 p.2 R ∧ R.room = 24 ∧ R.last ≤ c ∧ ids R.l = q
theorem RingQ.mono {w : World} {p : Nat × Nat} {c c' : Nat} {q : List Int} (h : RingQ w p c q) (hc : c ≤ c') : RingQ w p c' q := let ⟨R, a, b, d, e⟩ := h; ⟨R, a, b, Nat.le_trans d hc, e⟩
theorem RingQ.kept {w w' : World} {p : Nat × Nat} {c : Nat} {q : List Int} {S : Nat → Prop} (h : RingQ w p c q) (f : Fr S w w') (h1 : ¬ S p.1) (h2 : ¬ S p.2) : RingQ w' p c q := let ⟨R, a, b⟩ := h; ⟨R, a.kept f h1 h2, b⟩
/-- A lock in a world: its rings hold Q, its map reads as f. -/
structure LockPart (w : World) (base b bm : Nat) (qv : Value) (P : List (Nat × Nat)) (c : Nat) (Q : List (List Int)) (f : Int → Option Int) : Prop where
  hb : w.heap[b]? = some (.cells #[qv, .map (some bm)] 113 (0, 0))
  row : w.ownsRow base 25 1 qv P.length (ptrs P)
  len : P.length = Q.length
  rings : ∀ (i : Nat) p q, P[i]? = some p → Q[i]? = some q → RingQ w p c q
  pw : P.Pairwise (fun p q => p.1 ≠ q.1 ∧ p.2 ≠ q.2)
  map : MapIs Try.prog 3 3 w bm c f
  lo : base ≤ b ∧ base ≤ bm ∧ ∀ p ∈ P, base ≤ p.1 ∧ base ≤ p.2
/-- Its blocks. -/
def LSet (b bm : Nat) (qv : Value) (P : List (Nat × Nat)) (k : Nat) : Prop := k = b ∨ k = bm ∨ qv.ownBlock = some k ∨ ∃ p ∈ P, k = p.1 ∨ k = p.2
section
variable {w w' : World} {base b bm c : Nat} {qv : Value} {P : List (Nat × Nat)} {Q : List (List Int)} {f : Int → Option Int}
theorem LockPart.ring (h : LockPart w base b bm qv P c Q f) {p : Nat × Nat} (hp : p ∈ P) : ∃ q, RingQ w p c q := by
  obtain ⟨i, hi, rfl⟩ := List.getElem_of_mem hp
  have hq : i < Q.length := by have := h.len; omega
  exact ⟨Q[i], h.rings i _ _ (List.getElem?_eq_getElem hi) (List.getElem?_eq_getElem hq)⟩
theorem LockPart.lt (h : LockPart w base b bm qv P c Q f) : ∀ k, LSet b bm qv P k → base ≤ k ∧ k < w.heap.size := by
  intro k hk
  rcases hk with rfl | rfl | hk | ⟨p, hp, hk⟩
  · exact ⟨h.lo.1, blk_lt h.hb⟩
  · exact ⟨h.lo.2.1, h.map.lt⟩
  · exact h.row.lt k hk
  · obtain ⟨q, R, hR, _⟩ := h.ring hp
    have h1 := h.lo.2.2 p hp
    have h2 := hR.lt
    rcases hk with rfl | rfl
    · exact ⟨h1.1, h2.1⟩
    · exact ⟨h1.2, h2.2⟩
theorem LockPart.kept {S : Nat → Prop} (h : LockPart w base b bm qv P c Q f) (k : Fr S w w') (hn : ∀ j, LSet b bm qv P j → ¬ S j) : LockPart w' base b bm qv P c Q f :=
  ⟨k.blk h.hb (hn b (.inl rfl)), own_kept h.row k (fun j hj => hn j (.inr (.inr (.inl hj)))), h.len,
    fun i p q hp hq => (h.rings i p q hp hq).kept k (hn _ (.inr (.inr (.inr ⟨p, List.mem_of_getElem? hp, .inl rfl⟩)))) (hn _ (.inr (.inr (.inr ⟨p, List.mem_of_getElem? hp, .inr rfl⟩)))),
    h.pw, h.map.kept k (hn bm (.inr (.inl rfl))), h.lo⟩
theorem pw_get {P : List (Nat × Nat)} (h : P.Pairwise (fun p q => p.1 ≠ q.1 ∧ p.2 ≠ q.2)) {i j : Nat} {p q : Nat × Nat} (hi : P[i]? = some p) (hj : P[j]? = some q) (hij : i ≠ j) : p.1 ≠ q.1 ∧ p.2 ≠ q.2 := by
  obtain ⟨h1, rfl⟩ := List.getElem?_eq_some_iff.1 hi
  obtain ⟨h2, rfl⟩ := List.getElem?_eq_some_iff.1 hj
  rcases Nat.lt_or_gt_of_ne hij with h' | h'
  · exact List.pairwise_iff_getElem.1 h i j h1 h2 h'
  · have := List.pairwise_iff_getElem.1 h j i h2 h1 h'
    exact ⟨this.1.symm, this.2.symm⟩
theorem own_kind {w : World} {base : Nat} {e : TypeId} {size n : Nat} {v : Value} {xs : List Value} (h : w.ownsRow base e size v n xs) {k : Nat} (hk : v.ownBlock = some k) : ∃ C, w.heap[k]? = some (.cells C e (0, 0)) := by
  rcases h.2 with ⟨h2, _⟩ | ⟨g, cap, cur, rfl, _, hg, _⟩
  · rw [h2] at hk; cases hk
  · cases hk; exact ⟨cur, hg⟩
/-- Ring number i turns. -/
theorem LockPart.stepRing (h : LockPart w base b bm qv P c Q f) {i : Nat} {p : Nat × Nat} {q q' : List Int} {c' : Nat} (hp : P[i]? = some p) (hq : Q[i]? = some q) (hR : RingQ w' p c' q') (hF : Fr (Two p.1 p.2) w w') (hc : c ≤ c') :
    LockPart w' base b bm qv P c' (Q.set i q') f := by
  obtain ⟨R, hRing, _⟩ := h.rings i p q hp hq
  obtain ⟨⟨A, hA⟩, C, hC⟩ := hRing.kinds
  have hmap : ∃ es cl, w.heap[bm]? = some (.map es cl) := by obtain ⟨D, ⟨es, cl, h1, _⟩, _⟩ := h.map; exact ⟨es, cl, h1⟩
  obtain ⟨es, cl, hm⟩ := hmap
  refine ⟨hF.blk h.hb (fun e => ?_), own_kept h.row hF (fun k hk e => ?_), by rw [List.length_set]; exact h.len, fun j p2 q2 hp2 hq2 => ?_, h.pw, (h.map.kept hF (fun e => ?_)).mono hc, h.lo⟩
  · rcases e with e | e
    · exact blk_ne h.hb hA (cells_ne (by decide)) e
    · exact blk_ne h.hb hC (cells_ne (by decide)) e
  · obtain ⟨C2, hC2⟩ := own_kind h.row hk
    rcases e with e | e
    · exact blk_ne hC2 hA (cells_ne (by decide)) e
    · exact blk_ne hC2 hC (cells_ne (by decide)) e
  · rcases set_cases hq2 with ⟨rfl, rfl⟩ | ⟨hne, hq2⟩
    · rw [hp] at hp2; injection hp2 with hp2; rw [← hp2]; exact hR
    · obtain ⟨R2, hRing2, _⟩ := h.rings j p2 q2 hp2 hq2
      obtain ⟨⟨A2, hA2⟩, C2, hC2⟩ := hRing2.kinds
      have hap := pw_get h.pw hp2 hp hne
      refine ((h.rings j p2 q2 hp2 hq2).kept hF (fun e => ?_) (fun e => ?_)).mono hc
      · rcases e with e | e
        · exact hap.1 e
        · exact blk_ne hA2 hC (cells_ne (by decide)) e
      · rcases e with e | e
        · exact blk_ne hC2 hA (cells_ne (by decide)) e
        · exact hap.2 e
  · rcases e with e | e
    · exact blk_ne hA hm cells_map e.symm
    · exact blk_ne hC hm cells_map e.symm
/-- The map turns. -/
theorem LockPart.stepMap (h : LockPart w base b bm qv P c Q f) {c' : Nat} {f' : Int → Option Int} (hM : MapIs Try.prog 3 3 w' bm c' f') (hF : Fr (One bm) w w') (hc : c ≤ c') : LockPart w' base b bm qv P c' Q f' := by
  have hmap : ∃ es cl, w.heap[bm]? = some (.map es cl) := by obtain ⟨D, ⟨es, cl, h1, _⟩, _⟩ := h.map; exact ⟨es, cl, h1⟩
  obtain ⟨es, cl, hm⟩ := hmap
  refine ⟨hF.blk h.hb (fun e => blk_ne h.hb hm cells_map e), own_kept h.row hF (fun k hk e => ?_), h.len, fun j p q hp hq => ?_, h.pw, hM, h.lo⟩
  · obtain ⟨C2, hC2⟩ := own_kind h.row hk
    exact blk_ne hC2 hm cells_map e
  · obtain ⟨R2, hRing2, _⟩ := h.rings j p q hp hq
    obtain ⟨⟨A2, hA2⟩, C2, hC2⟩ := hRing2.kinds
    exact ((h.rings j p q hp hq).kept hF (fun e => blk_ne hA2 hm cells_map e) (fun e => blk_ne hC2 hm cells_map e)).mono hc
theorem MapIs.congr {P : Program} {K E : TypeId} {n : Nat} {f g : Int → Option Int} (h : MapIs P K E w b n f) (e : ∀ t, f t = g t) : MapIs P K E w b n g := by
  rwa [show f = g from funext e] at h
end
/-- A lock: what its map says is what its queues say; no task twice. -/
structure LockAt (w : World) (base b bm : Nat) (qv : Value) (P : List (Nat × Nat)) (c : Nat) (Q : List (List Int)) : Prop where
  part : LockPart w base b bm qv P c Q (wantF Q)
  inv : QInv Q

/-! ### the functions -/
theorem Try.zero_int (w : World) : (zeroValue 3).run Try.prog w = .ok (.int .i64 0) w := by kernel_rfl
section
variable {w : World} {base b bm c : Nat} {qv : Value} {P : List (Nat × Nat)} {Q : List (List Int)} {f : Int → Option Int}
set_option maxHeartbeats 400000 in
theorem queue_in (H : LockPart w base b bm qv P c Q f) {i : Nat} {p : Nat × Nat} (hp : P[i]? = some p) :
    Calls Try.prog 74 #[.pointer (some ⟨b, 0, none⟩), .int .i64 i] w fun e w' => e = .returned (.pointer (some ⟨p.1, 0, none⟩)) ∧ w' = w := by
  have hi := (List.getElem?_eq_some_iff.1 hp).1
  obtain ⟨n, hn⟩ : ∃ n, n = P.length := ⟨_, rfl⟩
  have hrow := H.row
  rw [← hn] at hrow hi
  obtain ⟨g, cap, cur, rfl, _⟩ := own_shape hrow (by omega)
  have c0 : w.cell? ⟨b, 0, none⟩ = some (.slice (some ⟨g, 0, none⟩) n cap) := blk_cell H.hb 0
  have cg : w.cell? ⟨g, i, none⟩ = some (.pointer (some ⟨p.1, 0, none⟩)) := own_cell0 hrow (by simp [ptrs, hp])
  clear H hp hn hrow
  go_enter Try.func74, Try.ntmps74
  go_wp2_with fail
  go_ret
  exact ⟨rfl, rfl⟩
set_option maxHeartbeats 400000 in
theorem queue_out (H : LockPart w base b bm qv P c Q f) {res : Int} (hr : res < 0 ∨ (P.length : Int) ≤ res) :
    Calls Try.prog 74 #[.pointer (some ⟨b, 0, none⟩), .int .i64 res] w fun e w' => e = .returned (.pointer (some ⟨w.heap.size, 0, none⟩)) ∧ w' = w.alloc (.cells #[.int .i64 0, .int .i64 0, .int .i64 0, .int .i64 0, .slice none 0 0] 96) := by
  obtain ⟨n, hn⟩ : ∃ n, n = P.length := ⟨_, rfl⟩
  have hrow := H.row
  rw [← hn] at hrow hr
  obtain ⟨A, cap, rfl⟩ := own_slice hrow
  have c0 : w.cell? ⟨b, 0, none⟩ = some (.slice A n cap) := blk_cell H.hb 0
  clear H hn hrow
  by_cases h0 : res < 0
  · go_enter Try.func74, Try.ntmps74
    go_wp2_with fail
    go_ret
    exact ⟨rfl, rfl⟩
  · have h1 : (n : Int) ≤ res := by omega
    clear hr
    go_enter Try.func74, Try.ntmps74
    go_wp2_with fail
    go_ret
    exact ⟨rfl, rfl⟩
end
theorem head_zero {w : World} {r : Nat} (c3 : w.cell? ⟨r, 3, none⟩ = some (.int .i64 0)) :
    Calls Try.prog 30 #[.pointer (some ⟨r, 0, none⟩)] w fun e w' => e = .returned (.tuple #[.int .i64 0, .bool false]) ∧ w' = w := by
  go_enter Try.func30, Try.ntmps30
  go_wp2_with fail
  go_ret2
  exact ⟨rfl, rfl⟩
theorem list_zero {w : World} {r : Nat} (c3 : w.cell? ⟨r, 3, none⟩ = some (.int .i64 0)) :
    Calls Try.prog 73 #[.pointer (some ⟨r, 0, none⟩)] w fun e w' => e = .returned (.slice none 0 0) ∧ w' = w := by
  go_enter Try.func73, Try.ntmps73
  go_wp2_with fail
  go_loopw [3, 4, 9] (fun v _ i wr => i = .int .i64 0 ∧ v = .slice none 0 0 ∧ wr = w) (fun _ _ _ _ => 0)
  case atStart => exact ⟨rfl, rfl, rfl⟩
  case round =>
    obtain ⟨rfl, rfl, rfl⟩ := hrel
    go_wp2_with fail
    go_ret
    exact ⟨rfl, rfl⟩
theorem all_zero {w : World} {r : Nat} (c3 : w.cell? ⟨r, 3, none⟩ = some (.int .i64 0)) :
    Calls Try.prog 34 #[.pointer (some ⟨r, 0, none⟩)] w fun e w' => e = .returned (.slice none 0 0) ∧ w' = w := by
  have HL := hid (list_zero c3)
  clear c3
  go_enter Try.func34, Try.ntmps34
  go_wp2_with (go_at_call 73; refine HL.out.mono ?_; rintro e w1 ⟨rfl, rfl⟩)
  go_loopw [3, 9] (fun v i wr => i = .int .i64 0 ∧ v = .slice none 0 0 ∧ wr = w1) (fun _ _ _ => 0)
  case atStart => exact ⟨rfl, rfl, rfl⟩
  case round =>
    obtain ⟨rfl, rfl, rfl⟩ := hrel
    go_wp2_with fail
    go_ret
    exact ⟨rfl, rfl⟩
end Go.Proofs.Ytcbpbgjngeemoaa
