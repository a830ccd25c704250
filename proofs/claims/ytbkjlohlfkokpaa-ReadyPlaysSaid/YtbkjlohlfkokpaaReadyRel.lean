/- ReadyPlays: what both queues have in common (plain). -/
import Derived.Test.YtbkjlohlfkokpaaRef12g
set_option linter.unusedVariables false
set_option linter.unusedSimpArgs false
namespace Go.Proofs.Ytbkjlohlfkokpaa
open Go.RowKit

/-- The document's list and the queue's ranks are the same. -/
structure Same (f : Int → Option Rk) (M : List Od) : Prop where
  nd : (odT M).Nodup
  fwd : ∀ p ∈ M, f p.t = some p.r
  bwd : ∀ t r, f t = some r → ∃ p ∈ M, p.t = t
theorem same_nil : Same (fun _ => none) [] := ⟨List.nodup_nil, fun p hp => (by cases hp), fun t r h => (by cases h)⟩
theorem same_in {f : Int → Option Rk} {M : List Od} (h : Same f M) {t : Int} : t ∈ odT M ↔ (f t).isSome = true := by
  constructor
  · intro hm
    obtain ⟨p, hp, rfl⟩ := List.mem_map.1 hm
    rw [h.fwd p hp]
    rfl
  · intro hs
    obtain ⟨r, hr⟩ := Option.isSome_iff_exists.1 hs
    obtain ⟨p, hp, rfl⟩ := h.bwd t r hr
    exact List.mem_map.2 ⟨p, hp, rfl⟩
theorem same_perm {f : Int → Option Rk} {M : List Od} {L : List (Int × Int)} (h : Same f M) (hq : RqInv f L) (hn : (fsts L).Nodup) : L.Perm (M.map prO) := by
  have n1 : L.Nodup := (List.pairwise_map.1 (show (L.map Prod.fst).Pairwise (· ≠ ·) from hn)).imp (fun {a b} hab e => hab (by rw [e]))
  have n2 : (M.map prO).Nodup := List.pairwise_map.2 ((List.pairwise_map.1 (show (M.map Od.t).Pairwise (· ≠ ·) from h.nd)).imp (fun {a b} hab e => hab (by unfold prO at e; injection e)))
  refine (List.perm_ext_iff_of_nodup n1 n2).2 (fun a => ⟨fun ha => ?_, fun ha => ?_⟩)
  · obtain ⟨r, h1, h2⟩ := hq.fwd a ha
    obtain ⟨p, hp, e⟩ := h.bwd _ r h1
    have h3 := h.fwd p hp
    rw [e, h1] at h3
    injection h3 with h3
    refine List.mem_map.2 ⟨p, hp, ?_⟩
    unfold prO keyO
    rw [← h3, e, ← h2]
  · obtain ⟨p, hp, rfl⟩ := List.mem_map.1 ha
    have h1 := h.fwd p hp
    obtain ⟨h2, _⟩ := hq.bwd _ _ h1
    obtain ⟨b, hb, e⟩ := List.mem_map.1 h2
    obtain ⟨r, h3, h4⟩ := hq.fwd b hb
    rw [e, h1] at h3
    injection h3 with h3
    have : b = prO p := by
      unfold prO keyO
      rw [h3, ← e, ← h4]
    rw [← this]
    exact hb
theorem same_ok {f : Int → Option Rk} {M : List Od} {L : List (Int × Int)} (h : Same f M) (hq : RqInv f L) : ∀ p ∈ M, 0 ≤ p.t ∧ p.t < 24 := fun p hp => by
  obtain ⟨_, h1, h2, _⟩ := hq.bwd _ _ (h.fwd p hp)
  exact ⟨h1, h2⟩
theorem same_len {f : Int → Option Rk} {M : List Od} {L : List (Int × Int)} (h : Same f M) (hq : RqInv f L) (hn : (fsts L).Nodup) : M.length = L.length := by
  have := (same_perm h hq hn).length_eq
  rw [List.length_map] at this
  exact this.symm
theorem key_task {p q : Od} (hp : 0 ≤ p.t ∧ p.t < 24) (hq : 0 ≤ q.t ∧ q.t < 24) (h : keyO p = keyO q) : p.t = q.t := by
  unfold keyO Rk.key at h
  split at h <;> split at h <;> omega
theorem same_sel {f : Int → Option Rk} {M : List Od} {L : List (Int × Int)} {ts : List Int} (h : Same f M) (hq : RqInv f L) (hn : (fsts L).Nodup) (hs : L.Pairwise (fun p q => p.2 ≤ q.2)) (hsel : Sel M ts) : ts = fsts L :=
  sel_is hsel hs (same_perm h hq hn) (fun p hp q hq2 e => key_task (same_ok h hq p hp) (same_ok h hq q hq2) e)
theorem same_add {f : Int → Option Rk} {M : List Od} {t l : Int} (h : Same f M) (ht : t ∉ odT M) : Same (addF f t l) (M ++ [⟨t, ⟨l, 0, false⟩⟩]) := by
  refine ⟨?_, fun p hp => ?_, fun s r hs => ?_⟩
  · unfold odT
    rw [List.map_append]
    refine List.nodup_append.2 ⟨h.nd, by simp, fun a ha b hb e => ?_⟩
    simp at hb
    subst hb
    exact ht (by rw [← e]; exact ha)
  · unfold addF
    rcases List.mem_append.1 hp with hp | hp
    · have : p.t ≠ t := fun e => ht (by rw [← e]; exact List.mem_map.2 ⟨p, hp, rfl⟩)
      rw [if_neg this]
      exact h.fwd p hp
    · simp at hp
      subst hp
      rw [if_pos rfl]
  · unfold addF at hs
    by_cases e : s = t
    · exact ⟨⟨t, ⟨l, 0, false⟩⟩, by simp, e.symm⟩
    · rw [if_neg e] at hs
      obtain ⟨p, hp, e2⟩ := h.bwd s r hs
      exact ⟨p, List.mem_append_left _ hp, e2⟩
theorem same_none {f : Int → Option Rk} {M : List Od} {t : Int} (h : Same f M) (ht : t ∉ odT M) : f t = none := by
  cases e : f t with
  | none => rfl
  | some r => exact absurd (same_in h |>.2 (by rw [e]; rfl)) ht
theorem odT_set {M : List Od} {j : Nat} {p : Od} (hj : M[j]? = some p) (r : Rk) : odT (M.set j ⟨p.t, r⟩) = odT M := by
  unfold odT
  refine List.ext_getElem? (fun i => ?_)
  rw [List.getElem?_map, List.getElem?_map, List.getElem?_set]
  by_cases e : j = i
  · subst e
    have := (List.getElem?_eq_some_iff.1 hj).1
    rw [if_pos rfl, if_pos this, hj]
    rfl
  · rw [if_neg e]
theorem same_set {f : Int → Option Rk} {M : List Od} {j : Nat} {p : Od} (h : Same f M) (hj : M[j]? = some p) (g : Rk → Rk) : Same (upF f p.t g) (M.set j ⟨p.t, g p.r⟩) := by
  have hp := h.fwd p (List.mem_of_getElem? hj)
  refine ⟨by rw [odT_set hj]; exact h.nd, fun q hq => ?_, fun s r hs => ?_⟩
  · unfold upF
    obtain ⟨i, hi⟩ := List.mem_iff_getElem?.1 hq
    rw [List.getElem?_set] at hi
    by_cases e : j = i
    · subst e
      have hjl := (List.getElem?_eq_some_iff.1 hj).1
      rw [if_pos rfl, if_pos hjl] at hi
      injection hi with hi
      subst hi
      rw [if_pos rfl, hp]
      rfl
    · rw [if_neg e] at hi
      have hne : q.t ≠ p.t := fun e2 => by
        have h1 : (odT M)[i]? = some p.t := by unfold odT; rw [List.getElem?_map, hi, ← e2]; rfl
        have h2 : (odT M)[j]? = some p.t := by unfold odT; rw [List.getElem?_map, hj]; rfl
        obtain ⟨l1, e3⟩ := List.getElem?_eq_some_iff.1 h1
        obtain ⟨l2, e4⟩ := List.getElem?_eq_some_iff.1 h2
        exact e ((List.getElem_inj h.nd).1 (by rw [e3, e4])).symm
      rw [if_neg hne]
      exact h.fwd q (List.mem_of_getElem? hi)
  · have hm : s ∈ odT M := by
      unfold upF at hs
      by_cases e : s = p.t
      · rw [e]; exact List.mem_map.2 ⟨p, List.mem_of_getElem? hj, rfl⟩
      · rw [if_neg e] at hs
        exact (same_in h).2 (by rw [hs]; rfl)
    rw [← odT_set hj (g p.r)] at hm
    obtain ⟨q, hq, e⟩ := List.mem_map.1 hm
    exact ⟨q, hq, e⟩
theorem same_erase {f : Int → Option Rk} {M : List Od} {j : Nat} {p : Od} (h : Same f M) (hj : M[j]? = some p) : Same (fun s => if s = p.t then none else f s) (M.eraseIdx j) := by
  have hperm := perm_erase hj
  have hnd : (odT (p :: M.eraseIdx j)).Nodup := (hperm.map Od.t).nodup h.nd
  obtain ⟨n1, n2⟩ := List.nodup_cons.1 (show (p.t :: odT (M.eraseIdx j)).Nodup from hnd)
  refine ⟨n2, fun q hq => ?_, fun s r hs => ?_⟩
  · have hne : q.t ≠ p.t := fun e => n1 (by rw [← e]; exact List.mem_map.2 ⟨q, hq, rfl⟩)
    show (if q.t = p.t then none else f q.t) = _
    rw [if_neg hne]
    exact h.fwd q (List.mem_of_mem_eraseIdx hq)
  · have hs2 : (if s = p.t then none else f s) = some r := hs
    by_cases e : s = p.t
    · rw [if_pos e] at hs2
      cases hs2
    · rw [if_neg e] at hs2
      obtain ⟨q, hq, e2⟩ := h.bwd s r hs2
      rcases List.mem_cons.1 (hperm.subset hq) with rfl | hq2
      · exact absurd e2.symm e
      · exact ⟨q, hq2, e2⟩
end Go.Proofs.Ytbkjlohlfkokpaa
