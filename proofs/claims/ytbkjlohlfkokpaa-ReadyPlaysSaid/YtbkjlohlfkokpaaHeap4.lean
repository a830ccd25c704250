/- Package heap: what its functions do, each once (contracts), on the list of ids with their keys, in order. -/
import Derived.Test.YtbkjlohlfkokpaaHeapW3
set_option linter.unusedVariables false
set_option linter.unusedSimpArgs false
namespace Go.Proofs.Ytbkjlohlfkokpaa
open Go.RowKit Go.Maps

/-! The list of pairs -/
def prI (x : It) : Int × Int := (x.id, x.key)
def insP (p : Int × Int) (L : List (Int × Int)) : List (Int × Int) := L.filter (fun q => decide (q.2 ≤ p.2)) ++ p :: L.filter (fun q => decide (p.2 < q.2))
def offP (t : Int) (L : List (Int × Int)) : List (Int × Int) := L.filter (fun q => decide (q.1 ≠ t))
def fsts (L : List (Int × Int)) : List Int := L.map Prod.fst
theorem ids_pr (S : List It) : fsts (S.map prI) = ids S := by unfold fsts ids; rw [List.map_map]; rfl
theorem ins_pr (x : It) (S : List It) : (insI x S).map prI = insP (prI x) (S.map prI) := by
  unfold insI insP
  rw [List.filter_map, List.filter_map, List.map_append, List.map_cons]
  rfl
theorem off_pr (t : Int) (S : List It) : (offI t S).map prI = offP t (S.map prI) := by
  unfold offI offP
  rw [List.filter_map]
  rfl
theorem insP_len (p : Int × Int) (L : List (Int × Int)) : (insP p L).length = L.length + 1 := by
  unfold insP
  have h := (List.filter_append_perm (fun q : Int × Int => decide (q.2 ≤ p.2)) L).length_eq
  have e : (fun q : Int × Int => decide (p.2 < q.2)) = (fun q => !decide (q.2 ≤ p.2)) := funext fun q => by
    by_cases h : q.2 ≤ p.2
    · simp [h]
    · simp [h]; omega
  rw [e]
  simp at h ⊢
  omega
theorem offP_len (t : Int) (L : List (Int × Int)) : (offP t L).length ≤ L.length := List.length_filter_le _ _
/-- A heap, all its parts told. -/
structure HSt (w : World) (base h bm : Nat) (v : Value) (M room T : Nat) (turn : Int) (a S : List It) (L : List (Int × Int)) : Prop where
  raw : HRaw w base h bm v M room turn a (atF a)
  rep : HRep turn a S
  t0 : 0 ≤ turn
  t1 : turn ≤ T
  m1 : M ≤ 2000 * T
  eq : S.map prI = L
  hi : ∀ x ∈ S, x.id ≤ 9223372036854775807
  room_ : room ≤ 256
  len_ : L.length ≤ room
/-- Block h is a heap; it lies in the blocks Q; L has its ids with their keys, in order. -/
def IsHeap (w : World) (base h : Nat) (Q : Nat → Prop) (room T : Nat) (L : List (Int × Int)) : Prop := ∃ bm v M turn a S, HSt w base h bm v M room T turn a S L ∧ Q = HSet h bm v
/-- What a deed leaves. -/
def HBehind (w : World) (base h : Nat) (Q : Nat → Prop) (room T : Nat) (L : List (Int × Int)) (w' : World) : Prop := ∃ Q', IsHeap w' base h Q' room T L ∧ Fr Q w w' ∧ ∀ k, Q' k → Q k ∨ w.heap.size ≤ k
section
variable {w w' : World} {base h bm M room T : Nat} {v : Value} {turn : Int} {a S : List It} {L : List (Int × Int)} {Q : Nat → Prop}
theorem HSt.alen (H : HSt w base h bm v M room T turn a S L) : a.length = L.length := by rw [H.rep.len, ← H.eq, List.length_map]
theorem HSt.idsL (H : HSt w base h bm v M room T turn a S L) : Go.Proofs.Ytbkjlohlfkokpaa.fsts L = ids S := by rw [← H.eq, ids_pr]
theorem HSt.nd (H : HSt w base h bm v M room T turn a S L) : (ids a).Nodup := H.rep.nodupA
theorem HSt.ok (H : HSt w base h bm v M room T turn a S L) : IdsOk a := fun x hx => by
  have h1 := H.rep.perm.subset hx
  have h2 := H.rep.bd x h1
  have h3 := H.hi x h1
  omega
theorem HSt.later (H : HSt w base h bm v M room T turn a S L) (k : Below w.heap.size w w') : HSt w' base h bm v M room T turn a S L := ⟨H.raw.later k, H.rep, H.t0, H.t1, H.m1, H.eq, H.hi, H.room_, H.len_⟩
theorem HSt.behind (H : HSt w base h bm v M room T turn a S L) (k : Below w.heap.size w w') : HBehind w base h (HSet h bm v) room T L w' := ⟨_, ⟨bm, v, M, turn, a, S, H.later k, rfl⟩, Fr.of_below k, fun _ h => .inl h⟩
theorem IsHeap.lt (H : IsHeap w base h Q room T L) : ∀ k, Q k → base ≤ k ∧ k < w.heap.size := by
  obtain ⟨bm, v, M, turn, a, S, H, rfl⟩ := H
  exact H.raw.lt
theorem IsHeap.kept {P : Nat → Prop} (H : IsHeap w base h Q room T L) (k : Fr P w w') (hn : ∀ j, Q j → ¬ P j) : IsHeap w' base h Q room T L := by
  obtain ⟨bm, v, M, turn, a, S, H, rfl⟩ := H
  exact ⟨bm, v, M, turn, a, S, ⟨H.raw.kept k hn, H.rep, H.t0, H.t1, H.m1, H.eq, H.hi, H.room_, H.len_⟩, rfl⟩
theorem IsHeap.later (H : IsHeap w base h Q room T L) (k : Below w.heap.size w w') : IsHeap w' base h Q room T L := H.kept (fr0 k) (fun _ _ h => h)
theorem IsHeap.more {T' : Nat} (H : IsHeap w base h Q room T L) (hT : T ≤ T') : IsHeap w base h Q room T' L := by
  obtain ⟨bm, v, M, turn, a, S, H, rfl⟩ := H
  exact ⟨bm, v, M, turn, a, S, ⟨H.raw, H.rep, H.t0, by have := H.t1; omega, by have := H.m1; omega, H.eq, H.hi, H.room_, H.len_⟩, rfl⟩
theorem IsHeap.weak {base' : Nat} (H : IsHeap w base h Q room T L) (hb : base' ≤ base) : IsHeap w base' h Q room T L := by
  obtain ⟨bm, v, M, turn, a, S, H, rfl⟩ := H
  exact ⟨bm, v, M, turn, a, S, ⟨⟨H.raw.hb, own_mono H.raw.row hb, H.raw.map, by have := H.raw.lo; omega⟩, H.rep, H.t0, H.t1, H.m1, H.eq, H.hi, H.room_, H.len_⟩, rfl⟩
/-- What always holds of the list. -/
theorem IsHeap.facts (H : IsHeap w base h Q room T L) : (Go.Proofs.Ytbkjlohlfkokpaa.fsts L).Nodup ∧ L.Pairwise (fun p q => p.2 ≤ q.2) ∧ (∀ p ∈ L, 0 ≤ p.1 ∧ p.1 ≤ 9223372036854775807) ∧ L.length ≤ room ∧ room ≤ 256 := by
  obtain ⟨bm, v, M, turn, a, S, H, rfl⟩ := H
  refine ⟨by rw [H.idsL]; exact H.rep.nodup, ?_, fun p hp => ?_, H.len_, H.room_⟩
  · rw [← H.eq, List.pairwise_map]
    exact H.rep.sorted.imp (fun {x y} hxy => by unfold ltI at hxy; show x.key ≤ y.key; omega)
  · rw [← H.eq] at hp
    obtain ⟨x, hx, rfl⟩ := List.mem_map.1 hp
    exact ⟨(H.rep.bd x hx).1, H.hi x hx⟩
theorem heap_new_no (c : Int) (hc : c < 0 ∨ 256 < c) : Calls Try.prog 29 #[.int .i64 c] w fun e w' => e = .returned (.tuple #[.pointer none, .int .i64 1]) ∧ w' = w := by
  go_enter Try.func29, Try.ntmps29
  rcases hc with hc | hc
  · go_wp2_with fail
    go_ret2
    exact ⟨rfl, rfl⟩
  · have h2 : ¬ c < 0 := by omega
    go_wp2_with fail
    go_ret2
    exact ⟨rfl, rfl⟩
theorem heap_new (c : Nat) (hc : c ≤ 256) : Calls Try.prog 29 #[.int .i64 c] w fun e w' => ∃ h Q, e = .returned (.tuple #[.pointer (some ⟨h, 0, none⟩), .int .i64 0]) ∧ IsHeap w' w.heap.size h Q c 0 [] ∧ Below w.heap.size w w' := by
  have hmm := @run_makeMap Try.prog
  go_enter Try.func29, Try.ntmps29
  go_wp2_with fail
  go_ret2
  have hs : (w.alloc (.map #[] 0)).heap.size = w.heap.size + 1 := by simp
  have hb := blk_new (w.alloc (.map #[] 0)) (.cells #[.int .i64 c, .int .i64 0, .slice none 0 0, .map (some w.heap.size)] 97)
  rw [hs] at hb
  refine ⟨w.heap.size + 1, _, rfl, ⟨w.heap.size, .slice none 0 0, 0, 0, [], [], ⟨⟨hb, World.ownsRow_nil _ _ _ _, ?_, ⟨by omega, Nat.le_refl _⟩⟩, HRep.nil 0, by omega, by omega, by omega, rfl, (fun _ h => by cases h), hc, by simp⟩, rfl⟩, below_new (below_new (Below.refl _ w) _) _⟩
  exact ((MapIs.made w).kept ((Fr.refl NoB _).alloc _) (fun h => h)).congr (fun t => rfl)
theorem HSt.len_cell (H : HSt w base h bm v M room T turn a S L) : ∃ A cap, v = .slice A L.length cap ∧ w.cell? ⟨h, 2, none⟩ = some v := by
  have hrow := H.raw.row
  rw [H.alen] at hrow
  obtain ⟨A, cap, hv⟩ := own_slice hrow
  exact ⟨A, cap, hv, blk_cell H.raw.hb 2⟩
theorem heap_len (H : IsHeap w base h Q room T L) : Calls Try.prog 37 #[.pointer (some ⟨h, 0, none⟩)] w fun e w' => e = .returned (.int .i64 (L.length : Nat)) ∧ w' = w := by
  obtain ⟨bm, v, M, turn, a, S, H, rfl⟩ := H
  obtain ⟨A, cap, rfl, c2⟩ := H.len_cell
  have hl := H.len_
  have hr := H.room_
  clear H
  generalize L.length = n at *
  go_enter Try.func37, Try.ntmps37
  go_wp2_with fail
  go_ret
  exact ⟨rfl, rfl⟩
/-- The first one. -/
def headP (L : List (Int × Int)) : Int × Int := match L with | [] => (0, 0) | p :: _ => p
set_option maxRecDepth 100000 in
set_option maxHeartbeats 800000 in
theorem heap_first (H : IsHeap w base h Q room T L) : Calls Try.prog 46 #[.pointer (some ⟨h, 0, none⟩)] w fun e w' =>
    e = .returned (.tuple #[.int .i64 (headP L).1, .int .i64 (headP L).2, .bool (!L.isEmpty)]) ∧ ∃ q, w' = w.drewN q := by
  obtain ⟨bm, v, M, turn, a, S, H, rfl⟩ := H
  have hrl := H.len_
  have hrr := H.room_
  rcases hL : L with _ | ⟨p, L'⟩
  · subst hL
    obtain ⟨A, cap, rfl, c2⟩ := H.len_cell
    simp only [List.length_nil] at c2
    clear H
    go_enter Try.func46, Try.ntmps46
    go_wp2_with fail
    go_ret3
    exact ⟨rfl, 0, rfl⟩
  · subst hL
    have hal := H.alen
    have ha : 0 < a.length := by rw [hal]; simp
    obtain ⟨T', hS⟩ := H.rep.first ha
    have hp : prI (gl a 0) = p := by
      have := H.eq
      rw [hS, List.map_cons] at this
      injection this
    obtain ⟨g, cap, rfl, hc1, hc2, c2, hat⟩ := H.raw.at_ ha
    obtain ⟨x0, x1, x2⟩ := hat 0 ha
    simp only [Nat.zero_mul, Nat.zero_add] at x0 x1
    have h1 : (gl a 0).id = p.1 := by rw [← hp]; rfl
    have h2 : (gl a 0).key = p.2 := by rw [← hp]; rfl
    rw [h1] at x0
    rw [h2] at x1
    obtain ⟨n, hn⟩ : ∃ n, a.length = n := ⟨_, rfl⟩
    have hn0 : ((n : Int) == 0) = false := beq_eq_false_iff_ne.2 (by omega)
    have hnn : n < 1000 := by omega
    rw [hn] at c2 ha
    clear H hS hp hat x2 h1 h2 hal hn hrl hrr
    go_enter Try.func46, Try.ntmps46
    go_wp2_with fail
    go_quiet (fail)
    go_wp2_with fail
    go_ret3
    exact ⟨rfl, nq, rfl⟩
end
end Go.Proofs.Ytbkjlohlfkokpaa
