/- Joined: OGridI. -/
import Derived.Test.YtmhochjpdedlgaaQ33
import Derived.Test.YtmhochjpdedlgaaQ30
set_option linter.unusedVariables false
set_option linter.unusedSimpArgs false
/- A list of lists that a call has made, of whole numbers: the outer row and its rows, each the call's own. -/
set_option linter.unusedVariables false
set_option linter.unusedSimpArgs false
namespace Go.Proofs.Ytmhochjpdedlgaa
open Go.RowKit

structure OI (w : World) (base : Nat) (u : Value) (vs : List Value) (Q : List (List Int)) : Prop where
  out : w.ownsRow base 39 1 u vs.length vs
  len : vs.length = Q.length
  rows : ∀ (i : Nat) v q, vs[i]? = some v → Q[i]? = some q → w.ownsRow base 3 1 v q.length (intCells q)
  apart : ∀ v ∈ vs, ∀ k, v.ownBlock = some k → u.ownBlock ≠ some k
def OISet (u : Value) (vs : List Value) (k : Nat) : Prop := u.ownBlock = some k ∨ ∃ v ∈ vs, v.ownBlock = some k
section
variable {w w' : World} {base : Nat} {u u' : Value} {vs : List Value} {Q : List (List Int)}
theorem OI.nil (w : World) (base : Nat) : OI w base (.slice none 0 0) [] [] := ⟨World.ownsRow_nil _ _ _ _, rfl, fun i v q h => by simp at h, fun v h => by simp at h⟩
theorem OI.row (h : OI w base u vs Q) {v : Value} (hv : v ∈ vs) : ∃ q, w.ownsRow base 3 1 v q.length (intCells q) := by
  obtain ⟨i, hi⟩ := List.mem_iff_getElem?.1 hv
  have hq : i < Q.length := by have := h.len; have := (List.getElem?_eq_some_iff.1 hi).1; omega
  exact ⟨Q[i], h.rows i _ _ hi (List.getElem?_eq_getElem hq)⟩
theorem OI.lt (h : OI w base u vs Q) : ∀ k, OISet u vs k → base ≤ k ∧ k < w.heap.size := by
  intro k hk
  rcases hk with hk | ⟨v, hv, hk⟩
  · exact h.out.lt k hk
  · obtain ⟨q, hq⟩ := h.row hv
    exact hq.lt k hk
theorem OI.kept {S : Nat → Prop} (h : OI w base u vs Q) (k : Fr S w w') (hn : ∀ j, OISet u vs j → ¬ S j) : OI w' base u vs Q :=
  ⟨own_kept h.out k (fun j hj => hn j (.inl hj)), h.len, fun i v q hv hq => own_kept (h.rows i v q hv hq) k (fun j hj => hn j (.inr ⟨v, List.mem_of_getElem? hv, hj⟩)), h.apart⟩
theorem OI.later (h : OI w base u vs Q) (k : Below w.heap.size w w') : OI w' base u vs Q := h.kept (fr0 k) (fun _ _ h => h)
/-- One more row. -/
theorem OI.snoc (h : OI w base u vs Q) {v : Value} {q : List Int} (hv : w.ownsRow base 3 1 v q.length (intCells q)) (hd : ∀ k, v.ownBlock = some k → u.ownBlock ≠ some k)
    (hown : w'.ownsRow base 39 1 u' (vs.length + 1) (vs ++ [v])) (hF : Fr (fun k => u.ownBlock = some k) w w') (hu : u'.ownBlock = u.ownBlock ∨ ∃ k, u'.ownBlock = some k ∧ w.heap.size ≤ k) : OI w' base u' (vs ++ [v]) (Q ++ [q]) := by
  have key : ∀ x ∈ vs ++ [v], ∃ q, w.ownsRow base 3 1 x q.length (intCells q) ∧ ∀ k, x.ownBlock = some k → u.ownBlock ≠ some k := by
    intro x hx
    rcases List.mem_append.1 hx with hx | hx
    · obtain ⟨q, hq⟩ := h.row hx
      exact ⟨q, hq, h.apart x hx⟩
    · simp at hx
      subst hx
      exact ⟨q, hv, hd⟩
  refine ⟨by rw [List.length_append]; exact hown, by simp [h.len], fun i x y hx hy => ?_, fun x hx k hk e => ?_⟩
  · by_cases hi : i < vs.length
    · rw [List.getElem?_append_left hi] at hx
      rw [List.getElem?_append_left (by have := h.len; omega)] at hy
      exact own_kept (h.rows i x y hx hy) hF (fun k hk e => h.apart x (List.mem_of_getElem? hx) k hk e)
    · have hi2 : i = vs.length := by have := (List.getElem?_eq_some_iff.1 hx).1; simp at this; omega
      subst hi2
      rw [List.getElem?_append_right (Nat.le_refl _)] at hx
      rw [List.getElem?_append_right (by have := h.len; omega)] at hy
      simp at hx
      rw [h.len] at hy
      simp at hy
      subst hx
      subst hy
      exact own_kept hv hF (fun k hk e => hd k hk e)
  · obtain ⟨q2, hq2, hap⟩ := key x hx
    rcases hu with hu | ⟨j, hu, hj⟩
    · exact hap k hk (by rw [← hu]; exact e)
    · rw [hu] at e
      injection e with e
      have := (hq2.lt k hk).2
      omega
theorem flat_fsti : ∀ (vs : List Value) (Q : List (List Int)), vs.length = Q.length → flat (fun x : Value × List Int => [x.1]) (vs.zip Q) = vs
  | [], _, _ => by simp [flat]
  | v :: vs, [], h => by simp at h
  | v :: vs, q :: Q, h => by
    have := flat_fsti vs Q (by simpa using h)
    simp [flat] at this ⊢
    exact this
/-- It is a plan. -/
theorem OI.plan (h : OI w base u vs Q) : Rowp 1 (RowR 1 IntR) w u Q := by
  have h1 : Rowp 1 (fun w cs (x : Value × List Int) => cs = [x.1] ∧ Rowp 1 IntR w x.1 x.2) w u (vs.zip Q) := by
    refine Rowp.of_own (base := base) (e := 39) (n := vs.length) (enc := fun x => [x.1]) (fun x => rfl) (by rw [flat_fsti vs Q h.len]; exact h.out) (by rw [List.length_zip, h.len]; simp) (by decide) (fun x hx => ⟨rfl, ?_⟩)
    obtain ⟨i, hi⟩ := List.mem_iff_getElem?.1 hx
    rw [List.getElem?_zip_eq_some] at hi
    exact Rowp.ints (h.rows i _ _ hi.1 hi.2) rfl
  have h2 := h1.mono (R' := RowR 1 IntR) (f := Prod.snd) (fun cs x _ hr => ⟨x.1, hr.1, hr.2⟩)
  rwa [List.map_snd_zip (by rw [h.len]; exact Nat.le_refl _)] at h2
end
/-! Ceilings, plain. -/
def upd (f : Nat → Int) (r : Nat) (p : Int) : Nat → Int := fun j => if j = r then (if f r = 0 ∨ p < f r then p else f r) else f j
def topF (L : List (Nat × Int)) : Nat → Int := L.foldl (fun f u => upd f u.1 u.2) (fun _ => 0)
theorem topF_snoc (L : List (Nat × Int)) (u : Nat × Int) : topF (L ++ [u]) = upd (topF L) u.1 u.2 := by unfold topF; rw [List.foldl_append]; rfl
def secsOf (S : Sy) (i : Nat) : List Sec := (S.tasks[i]?.map Tsk.secs).getD []
def prioOf (S : Sy) (P : Pl) (i : Nat) : Int := (((rankL S P)[i]?.getD []).head?.map Pc.prio).getD 0
def whereAt (P : Pl) (i : Nat) : Int := ((P.map whereOf)[i]?).getD (-1)
/-- What task i does to the ceilings of a core. -/
def upsT (S : Sy) (P : Pl) (c : Int) (i : Nat) : List (Nat × Int) := if whereAt P i = c then (secsOf S i).map (fun x => (x.res.toNat, max 1 (prioOf S P i))) else []
def upsN (S : Sy) (P : Pl) (c : Int) (k : Nat) : List (Nat × Int) := (List.range k).flatMap (upsT S P c)
theorem upsN_succ (S : Sy) (P : Pl) (c : Int) (k : Nat) : upsN S P c (k + 1) = upsN S P c k ++ upsT S P c k := by
  unfold upsN
  rw [List.range_succ, List.flatMap_append]
  simp
def ceilRow (S : Sy) (P : Pl) (c : Int) : List Int := (List.range S.resn.toNat).map (topF (upsN S P c P.length))
def ceilL (S : Sy) (P : Pl) : List (List Int) := (List.range S.cores.toNat).map fun c : Nat => ceilRow S P (c : Int)
/-- Within task i: k of its sections are done. -/
def upsK (S : Sy) (P : Pl) (c : Int) (i k : Nat) : List (Nat × Int) := upsN S P c i ++ (if whereAt P i = c then ((secsOf S i).take k).map (fun x => (x.res.toNat, max 1 (prioOf S P i))) else [])
theorem upsK_zero (S : Sy) (P : Pl) (c : Int) (i : Nat) : upsK S P c i 0 = upsN S P c i := by unfold upsK; simp
theorem upsK_all (S : Sy) (P : Pl) (c : Int) (i : Nat) : upsK S P c i (secsOf S i).length = upsN S P c (i + 1) := by
  unfold upsK
  rw [upsN_succ, List.take_length]
  rfl
theorem upsK_no {S : Sy} {P : Pl} {c : Int} {i : Nat} (h : whereAt P i ≠ c) (k : Nat) : upsK S P c i k = upsN S P c (i + 1) := by
  unfold upsK
  rw [upsN_succ, if_neg h]
  unfold upsT
  rw [if_neg h]
theorem upsK_succ {S : Sy} {P : Pl} {c : Int} {i k : Nat} {x : Sec} (h : whereAt P i = c) (hx : (secsOf S i)[k]? = some x) : upsK S P c i (k + 1) = upsK S P c i k ++ [(x.res.toNat, max 1 (prioOf S P i))] := by
  unfold upsK
  rw [if_pos h, if_pos h, take_next hx, List.map_append, List.append_assoc]
  rfl
end Go.Proofs.Ytmhochjpdedlgaa
