/- Joined: PGrid. -/
import Derived.Test.YtppildaahmlfmaaQ35
import Derived.Test.YtppildaahmlfmaaQ36
set_option linter.unusedVariables false
set_option linter.unusedSimpArgs false
/- A list of lists of pieces that a call has made, as functions of the index: rows that no other one shares. -/
set_option linter.unusedVariables false
set_option linter.unusedSimpArgs false
namespace Go.Proofs.Ytppildaahmlfmaa
open Go.RowKit

theorem make_plan (n : Nat) (hn : n ≤ 256) (w : World) : (Instr.makeSlice 25 (.int .i64 (n : Int)) (.int .i64 (n : Int))).run Try.prog w = .ok (.slice (some ⟨w.heap.size, 0, none⟩) n n) (w.alloc (.cells (List.replicate n (.slice none 0 0)).toArray 31)) := by
  obtain ⟨i0, hi, hz0, hz1, hz2⟩ := info_parts Try.info_pieces
  have := run_make (P := Try.prog) (w := w) 25 31 i0 _ Try.underlying25 hi hz0 .i64 .i64 n n (by omega) (by omega) (by rw [hz2]; omega) (by omega)
  rw [hz1, show (Value.slice none 0 0).cells = #[Value.slice none 0 0] by simp [Value.cells], Nat.mul_one, made_one] at this
  simpa using this
def rV (V : Nat → Value) (n : Nat) : List Value := (List.range n).map V
theorem rV_get (V : Nat → Value) {n i : Nat} (h : i < n) : (rV V n)[i]? = some (V i) := by simp [rV, h]
structure GR (w : World) (base g n cap : Nat) (V : Nat → Value) (Q : Nat → List Pc) : Prop where
  out : w.ownsRow base 31 1 (.slice (some ⟨g, 0, none⟩) n cap) n (rV V n)
  rows : ∀ i, i < n → w.ownsRow base 41 5 (V i) (Q i).length (flat encPc (Q i))
  apart : ∀ i, i < n → (V i).ownBlock ≠ some g
  dist : ∀ i j k, i < n → j < n → i ≠ j → (V i).ownBlock = some k → (V j).ownBlock ≠ some k
def GRSet (g n : Nat) (V : Nat → Value) (k : Nat) : Prop := k = g ∨ ∃ i, i < n ∧ (V i).ownBlock = some k
section
variable {w w' : World} {base g n cap : Nat} {V : Nat → Value} {Q : Nat → List Pc} {i k : Nat}
theorem GR.made (w : World) (n : Nat) (hn : n ≤ 256) : GR (w.alloc (.cells (List.replicate n (.slice none 0 0)).toArray 31)) w.heap.size w.heap.size n n (fun _ => .slice none 0 0) (fun _ => []) := by
  have hr : rV (fun _ => Value.slice none 0 0) n = List.replicate n (.slice none 0 0) := by
    apply List.ext_getElem?
    intro i
    by_cases h : i < n <;> simp [rV, h]
  refine ⟨?_, fun i hi => World.ownsRow_nil _ _ _ _, (fun i hi e => by cases e), (fun i j k _ _ _ e => by cases e)⟩
  rw [hr]
  exact ⟨by simp, .inr ⟨w.heap.size, n, _, rfl, Nat.le_refl _, blk_new _ _, Nat.le_refl _, by unfold maxLen; omega, by simp, by simp⟩⟩
theorem GR.lt (h : GR w base g n cap V Q) : ∀ k, GRSet g n V k → base ≤ k ∧ k < w.heap.size := by
  intro k hk
  rcases hk with rfl | ⟨i, hi, hk⟩
  · exact h.out.lt k rfl
  · exact (h.rows i hi).lt k hk
theorem GR.kept {S : Nat → Prop} (h : GR w base g n cap V Q) (k : Fr S w w') (hn : ∀ j, GRSet g n V j → ¬ S j) : GR w' base g n cap V Q :=
  ⟨own_kept h.out k (fun j hj => hn j (.inl (by cases hj; rfl))), fun i hi => own_kept (h.rows i hi) k (fun j hj => hn j (.inr ⟨i, hi, hj⟩)), h.apart, h.dist⟩
theorem GR.later (h : GR w base g n cap V Q) (k : Below w.heap.size w w') : GR w' base g n cap V Q := h.kept (fr0 k) (fun _ _ h => h)
theorem GR.cell (h : GR w base g n cap V Q) (hi : i < n) : w.cell? ⟨g, i, none⟩ = some (V i) := own_cell0 h.out (rV_get V hi)
theorem GR.free (h : GR w base g n cap V Q) (i : Nat) : w.frozen? ⟨g, i, none⟩ = false := own_free h.out i
theorem GR.congr {Q' : Nat → List Pc} (h : GR w base g n cap V Q) (e : ∀ i, i < n → Q' i = Q i) : GR w base g n cap V Q' := ⟨h.out, fun i hi => by rw [e i hi]; exact h.rows i hi, h.apart, h.dist⟩
theorem GR.mono {base' : Nat} (h : GR w base g n cap V Q) (hb : base' ≤ base) : GR w base' g n cap V Q := ⟨own_mono h.out hb, fun i hi => own_mono (h.rows i hi) hb, h.apart, h.dist⟩
/-- A new row is put at its place. -/
theorem GR.store (h : GR w base g n cap V Q) (hi : i < n) {v : Value} {q : List Pc} (hv : w.ownsRow base 41 5 v q.length (flat encPc q)) (hd : ∀ k, v.ownBlock = some k → ¬ GRSet g n V k) :
    GR (w.setCell ⟨g, i, none⟩ v) base g n cap (fun j => if j = i then v else V j) (fun j => if j = i then q else Q j) := by
  have h1 := own_set h.out i v (by omega)
  have e : (rV V n).set i v = rV (fun j => if j = i then v else V j) n := by
    apply List.ext_getElem?
    intro j
    rw [List.getElem?_set]
    by_cases hj : j < n
    · by_cases e : i = j
      · subst e; simp [rV, hj]
      · rw [if_neg e, rV_get V hj, rV_get _ hj, if_neg (fun x => e x.symm)]
    · have h2 : (rV V n)[j]? = none := List.getElem?_eq_none (by simp [rV]; omega)
      have h3 : (rV (fun j => if j = i then v else V j) n)[j]? = none := List.getElem?_eq_none (by simp [rV]; omega)
      rw [h2, h3, if_neg (by omega)]
  rw [e] at h1
  refine ⟨h1, fun j hj => ?_, fun j hj => ?_, fun a b k ha hb hne hk => ?_⟩
  · by_cases e : j = i
    · simp only [if_pos e]
      exact own_set_ne hv (fun b hb e => hd b hb (.inl e)) i v
    · simp only [if_neg e]
      exact own_set_ne (h.rows j hj) (fun b hb e => by subst e; exact h.apart j hj hb) i v
  · by_cases e : j = i
    · simp only [if_pos e]
      exact fun hg => hd g hg (.inl rfl)
    · simp only [if_neg e]
      exact h.apart j hj
  · by_cases ea : a = i
    · have eb : ¬ b = i := fun e => hne (ea.trans e.symm)
      simp only [if_pos ea] at hk
      simp only [if_neg eb]
      exact fun hb2 => hd k hk (.inr ⟨b, hb, hb2⟩)
    · simp only [if_neg ea] at hk
      by_cases eb : b = i
      · simp only [if_pos eb]
        exact fun hv2 => hd k hv2 (.inr ⟨a, ha, hk⟩)
      · simp only [if_neg eb]
        exact h.dist a b k ha hb hne hk
/-- Where a row lies that is not empty. -/
theorem GR.row (h : GR w base g n cap V Q) (hi : i < n) (hk : 0 < (Q i).length) : ∃ b c, V i = .slice (some ⟨b, 0, none⟩) (Q i).length c ∧ (Q i).length ≤ c ∧ c ≤ maxLen := by
  obtain ⟨b, c, cur, hv, _, _, h1, h2, _⟩ := own_shape (h.rows i hi) hk
  exact ⟨b, c, hv, h1, h2⟩
/-- A piece's priority is put. -/
theorem GR.prio (h : GR w base g n cap V Q) (hi : i < n) {p : Pc} (hk : (Q i)[k]? = some p) {b m c : Nat} (hV : V i = .slice (some ⟨b, 0, none⟩) m c) (x : Int) :
    GR (w.setCell ⟨b, k * 5 + 3, none⟩ (.int .i64 x)) base g n cap V (fun j => if j = i then (Q i).set k ⟨p.core, p.bud, p.dl, x, p.tight⟩ else Q j) := by
  have hkl := (List.getElem?_eq_some_iff.1 hk).1
  have hr := h.rows i hi
  rw [hV] at hr
  obtain ⟨b', c', hv', _⟩ := h.row hi (by omega)
  rw [hV] at hv'
  injection hv' with _ e2 _
  subst e2
  have h1 := own_set hr (k * 5 + 3) (.int .i64 x) (by omega)
  rw [flat_set encPc_len (Q i) k 3 p ⟨p.core, p.bud, p.dl, x, p.tight⟩ (.int .i64 x) hk (by decide) rfl] at h1
  have hbg : b ≠ g := fun e => h.apart i hi (by rw [hV, e]; rfl)
  refine ⟨own_set_ne h.out (fun j hj => by cases hj; exact hbg.symm) _ _, fun j hj => ?_, h.apart, h.dist⟩
  by_cases e : j = i
  · subst e
    simp only [if_true]
    rw [List.length_set, hV]
    exact h1
  · simp only [if_neg e]
    exact own_set_ne (h.rows j hj) (fun b2 hb2 e2 => by subst e2; exact h.dist i j b2 hi hj (fun x => e x.symm) (by rw [hV]; rfl) hb2) _ _
theorem GR.pcell (h : GR w base g n cap V Q) (hi : i < n) {p : Pc} (hk : (Q i)[k]? = some p) {b m c : Nat} (hV : V i = .slice (some ⟨b, 0, none⟩) m c) : w.cell? ⟨b, k * 5 + 3, none⟩ = some (.int .i64 p.prio) ∧ w.frozen? ⟨b, k * 5 + 3, none⟩ = false := by
  have hr := h.rows i hi
  rw [hV] at hr
  have hkl := (List.getElem?_eq_some_iff.1 hk).1
  obtain ⟨b', c', hv', _⟩ := h.row hi (by omega)
  rw [hV] at hv'
  injection hv' with _ e2 _
  subst e2
  obtain ⟨g', e3, hc⟩ := row_cell encPc_len hr hk (j := 3) (u := .int .i64 p.prio) rfl
  injection e3 with e3
  injection e3 with e3
  subst e3
  exact ⟨hc, own_free hr _⟩
/-- It is a plan. -/
theorem GR.plan (h : GR w base g n cap V Q) : Rowp 1 (RowR 5 pcR) w (.slice (some ⟨g, 0, none⟩) n cap) ((List.range n).map Q) := by
  have hfl : flat (fun x : Nat => [V x]) (List.range n) = rV V n := by
    unfold rV flat
    generalize List.range n = l
    induction l with
    | nil => rfl
    | cons a l ih => rw [List.flatMap_cons, ih, List.map_cons]; rfl
  have h1 : Rowp 1 (fun w cs (x : Nat) => cs = [V x] ∧ Rowp 5 pcR w (V x) (Q x)) w (.slice (some ⟨g, 0, none⟩) n cap) (List.range n) :=
    Rowp.of_own (base := base) (e := 31) (n := n) (enc := fun x => [V x]) (fun x => rfl) (by rw [hfl]; exact h.out) (by simp) (by decide) (fun x hx => ⟨rfl, Rowp.of_own encPc_len (h.rows x (by simpa using hx)) rfl (by decide) (fun p _ => rfl)⟩)
  exact h1.mono (R' := RowR 5 pcR) (f := Q) (fun cs x _ hr => ⟨V x, hr.1, hr.2⟩)
end
end Go.Proofs.Ytppildaahmlfmaa
