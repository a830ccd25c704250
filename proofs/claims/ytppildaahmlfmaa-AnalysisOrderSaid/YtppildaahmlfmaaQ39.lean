/- Joined: CeilG. -/
import Derived.Test.YtppildaahmlfmaaQ38
import Derived.Test.YtppildaahmlfmaaQ22
set_option linter.unusedVariables false
set_option linter.unusedSimpArgs false
/- A list of lists of whole numbers that a call has made, rows as functions; the record of analysis.rank. -/
set_option linter.unusedVariables false
set_option linter.unusedSimpArgs false
namespace Go.Proofs.Ytppildaahmlfmaa
open Go.RowKit

def cV (X : Nat → Nat) (rn c : Nat) : List Value := (List.range c).map fun i => .slice (some ⟨X i, 0, none⟩) rn rn
theorem cV_get (X : Nat → Nat) (rn : Nat) {c i : Nat} (h : i < c) : (cV X rn c)[i]? = some (.slice (some ⟨X i, 0, none⟩) rn rn) := by simp [cV, h]
structure CT (w : World) (base : Nat) (u : Value) (c : Nat) (X : Nat → Nat) (rn : Nat) (f : Nat → Nat → Int) : Prop where
  out : w.ownsRow base 27 1 u c (cV X rn c)
  rows : ∀ i, i < c → Tally w (X i) rn (f i)
  lo : ∀ i, i < c → base ≤ X i
  apart : ∀ i, i < c → u.ownBlock ≠ some (X i)
  dist : ∀ i j, i < c → j < c → i ≠ j → X i ≠ X j
def CTSet (u : Value) (c : Nat) (X : Nat → Nat) (k : Nat) : Prop := u.ownBlock = some k ∨ ∃ i, i < c ∧ X i = k
section
variable {w w' : World} {base c rn : Nat} {u u' : Value} {X : Nat → Nat} {f f' : Nat → Nat → Int} {i : Nat}
theorem CT.nil (w : World) (base rn : Nat) : CT w base (.slice none 0 0) 0 (fun _ => 0) rn f := ⟨World.ownsRow_nil _ _ _ _, fun i h => by omega, fun i h => by omega, fun i h => by omega, fun i j h => by omega⟩
theorem CT.lt (h : CT w base u c X rn f) : ∀ k, CTSet u c X k → base ≤ k ∧ k < w.heap.size := by
  intro k hk
  rcases hk with hk | ⟨i, hi, rfl⟩
  · exact h.out.lt k hk
  · exact ⟨h.lo i hi, (h.rows i hi).lt⟩
theorem CT.kept {S : Nat → Prop} (h : CT w base u c X rn f) (k : Fr S w w') (hn : ∀ j, CTSet u c X j → ¬ S j) : CT w' base u c X rn f :=
  ⟨own_kept h.out k (fun j hj => hn j (.inl hj)), fun i hi => (h.rows i hi).kept (fun o ho => k.blk ho (hn _ (.inr ⟨i, hi, rfl⟩))), h.lo, h.apart, h.dist⟩
theorem CT.later (h : CT w base u c X rn f) (k : Below w.heap.size w w') : CT w' base u c X rn f := h.kept (fr0 k) (fun _ _ h => h)
theorem CT.congr (h : CT w base u c X rn f) (e : ∀ i, i < c → ∀ j, j < rn → f' i j = f i j) : CT w base u c X rn f' := ⟨h.out, fun i hi => (h.rows i hi).congr (e i hi), h.lo, h.apart, h.dist⟩
theorem CT.mono {base' : Nat} (h : CT w base u c X rn f) (hb : base' ≤ base) : CT w base' u c X rn f := ⟨own_mono h.out hb, h.rows, fun i hi => Nat.le_trans hb (h.lo i hi), h.apart, h.dist⟩
/-- One more row, whose block is x. -/
theorem CT.snoc (h : CT w base u c X rn f) {x : Nat} {g : Nat → Int} (hx : Tally w x rn g) (hxb : base ≤ x) (hxn : ¬ CTSet u c X x)
    (hown : w'.ownsRow base 27 1 u' (c + 1) (cV X rn c ++ [.slice (some ⟨x, 0, none⟩) rn rn])) (hF : Fr (fun k => u.ownBlock = some k) w w') (hu : u'.ownBlock = u.ownBlock ∨ ∃ k, u'.ownBlock = some k ∧ w.heap.size ≤ k) :
    CT w' base u' (c + 1) (fun i => if i = c then x else X i) rn (fun i => if i = c then g else f i) := by
  have e : cV (fun i => if i = c then x else X i) rn (c + 1) = cV X rn c ++ [.slice (some ⟨x, 0, none⟩) rn rn] := by
    unfold cV
    rw [List.range_succ, List.map_append]
    congr 1
    · refine List.map_congr_left (fun i hi => ?_)
      have : i < c := by simpa using hi
      show Value.slice (some ⟨if i = c then x else X i, 0, none⟩) rn rn = _
      rw [if_neg (by omega)]
    · simp
  have lt1 := h.lt
  have hxl := hx.lt
  have hub : ∀ y, CTSet u c X y ∨ y = x → ¬ u.ownBlock = some y → u'.ownBlock ≠ some y := by
    intro y hy hne e
    rcases hu with hu | ⟨k, hu, hk⟩
    · exact hne (hu.symm.trans e)
    · rw [hu] at e
      injection e with e
      subst e
      rcases hy with hy | hy
      · have := (lt1 _ hy).2; omega
      · omega
  refine ⟨by rw [e]; exact hown, fun i hi => ?_, fun i hi => ?_, fun i hi => ?_, fun i j hi hj hne => ?_⟩
  · by_cases e1 : i = c
    · simp only [if_pos e1]
      exact hx.kept (fun o ho => hF.blk ho (fun h2 => hxn (.inl h2)))
    · simp only [if_neg e1]
      exact (h.rows i (by omega)).kept (fun o ho => hF.blk ho (h.apart i (by omega)))
  · by_cases e1 : i = c
    · simp only [if_pos e1]; exact hxb
    · simp only [if_neg e1]; exact h.lo i (by omega)
  · by_cases e1 : i = c
    · simp only [if_pos e1]
      exact hub x (.inr rfl) (fun h2 => hxn (.inl h2))
    · simp only [if_neg e1]
      exact hub (X i) (.inl (.inr ⟨i, by omega, rfl⟩)) (h.apart i (by omega))
  · by_cases e1 : i = c
    · by_cases e2 : j = c
      · exact absurd (e1.trans e2.symm) hne
      · simp only [if_pos e1, if_neg e2]
        exact fun h2 => hxn (.inr ⟨j, by omega, h2.symm⟩)
    · by_cases e2 : j = c
      · simp only [if_neg e1, if_pos e2]
        exact fun h2 => hxn (.inr ⟨i, by omega, h2⟩)
      · simp only [if_neg e1, if_neg e2]
        exact h.dist i j (by omega) (by omega) hne
/-- A number of a row is put. -/
theorem CT.put (h : CT w base u c X rn f) (hi : i < c) {r : Nat} (hr : r < rn) (v : Int) (e : ∀ a, a < c → ∀ b, b < rn → f' a b = if a = i ∧ b = r then v else f a b) : CT (w.setCell ⟨X i, r, none⟩ (.int .i64 v)) base u c X rn f' := by
  have hF := (Fr.refl (One (X i)) w).one r (.int .i64 v)
  refine ⟨own_kept h.out hF (fun b hb e2 => h.apart i hi (hb.trans (congrArg some (e2 : b = X i)))), fun a ha => ?_, h.lo, h.apart, h.dist⟩
  by_cases e1 : a = i
  · subst e1
    exact (h.rows a ha).set hr v (fun b hb => by rw [e a ha b hb]; by_cases e2 : b = r <;> simp [e2])
  · refine ((h.rows a ha).kept (fun o ho => hF.blk ho (fun e2 => h.dist a i ha hi e1 e2))).congr (fun b hb => ?_)
    rw [e a ha b hb, if_neg (fun x => e1 x.1)]
theorem CT.cell (h : CT w base u c X rn f) (hi : i < c) : ∃ g cap, u = .slice (some ⟨g, 0, none⟩) c cap ∧ w.cell? ⟨g, i, none⟩ = some (.slice (some ⟨X i, 0, none⟩) rn rn) := by
  obtain ⟨g, cap, cur, hv, _⟩ := own_shape h.out (by omega)
  have h2 := h.out
  rw [hv] at h2
  exact ⟨g, cap, hv, own_cell0 h2 (cV_get X rn hi)⟩
/-- It is a list of rows. -/
theorem CT.plan (h : CT w base u c X rn f) (hm : rn ≤ maxLen) : Rowp 1 (RowR 1 IntR) w u ((List.range c).map fun i => (List.range rn).map (f i)) := by
  have hfl : flat (fun x : Nat => [Value.slice (some ⟨X x, 0, none⟩) rn rn]) (List.range c) = cV X rn c := by
    unfold cV flat
    generalize List.range c = l
    induction l with
    | nil => rfl
    | cons a l ih => rw [List.flatMap_cons, ih, List.map_cons]; rfl
  have h1 : Rowp 1 (fun w cs (x : Nat) => cs = [Value.slice (some ⟨X x, 0, none⟩) rn rn] ∧ Rowp 1 IntR w (.slice (some ⟨X x, 0, none⟩) rn rn) ((List.range rn).map (f x))) w u (List.range c) :=
    Rowp.of_own (base := base) (e := 27) (n := c) (enc := fun x => [Value.slice (some ⟨X x, 0, none⟩) rn rn]) (fun x => rfl) (by rw [hfl]; exact h.out) (by simp) (by decide) (fun x hx => ⟨rfl, Rowp.ints ((h.rows x (by simpa using hx)).own (h.lo x (by simpa using hx)) hm) (by simp)⟩)
  exact h1.mono (R' := RowR 1 IntR) (f := fun i => (List.range rn).map (f i)) (fun cs x _ hr => ⟨_, hr.1, hr.2⟩)
end
def rkC (S : Sy) (tv a b c : Value) : Array Value := #[.int .i64 S.cores, .int .i64 S.policy, .int .i64 S.prot, .int .i64 S.rel, .int .i64 S.sw, .int .i64 S.fin, .int .i64 S.lat, .int .i64 S.resn, tv, a, b, c]
/-- What analysis.rank makes. -/
structure IsRk (w : World) (base R : Nat) (S : Sy) (tv : Value) (P : Pl) (n : Nat) (g : Nat) (V : Nat → Value) (uw uc : Value) (X : Nat → Nat) : Prop where
  hr : w.heap[R]? = some (.cells (rkC S tv (.slice (some ⟨g, 0, none⟩) n n) uw uc) 64 (0, 0))
  lo : base ≤ R
  gr : GR w base g n n V (rowsC S P S.cores)
  wh : w.ownsRow base 3 1 uw n (intCells (P.map whereOf))
  ce : CT w base uc S.cores.toNat X S.resn.toNat (fun c => topF (upsN S P c P.length))
end Go.Proofs.Ytppildaahmlfmaa
