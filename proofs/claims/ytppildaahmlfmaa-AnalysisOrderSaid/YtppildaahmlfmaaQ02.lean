/- Joined: Map. -/
import Derived.Test.YtppildaahmlfmaaQ00
import Derived.Maps.OwnOps
import Derived.Maps.OwnSet
set_option linter.unusedVariables false
set_option linter.unusedSimpArgs false
/- A map from whole numbers to whole numbers that a call made, as a function: look-up, store, delete at the operation. They speak of no program of their own; no condition. -/
set_option linter.unusedVariables false
set_option linter.unusedSimpArgs false
namespace Go.Proofs.Ytppildaahmlfmaa
open Go.RowKit Go.Maps

def keyI (t : Int) : Lit := .int .i64 t
theorem wfI {t : Int} (h0 : -9223372036854775808 ≤ t) (h1 : t ≤ 9223372036854775807) : (Lit.int .i64 t).wf = true := WalkArith.wf_i64 ⟨h0, by omega⟩
/-- Block b is a map that reads as f (at whole numbers that may be). -/
def MapIs (P : Program) (K E : TypeId) (w : World) (b n : Nat) (f : Int → Option Int) : Prop :=
  ∃ D : DataW Unit, w.ownsMap P K (plainElem P E) b n D ∧ ∀ t, (Lit.int .i64 t).wf = true → Maps.has D (.int .i64 t) = (f t).isSome ∧ D.atKey (.int .i64 t) (.lit (.int .i64 0)) = .lit (.int .i64 ((f t).getD 0))
section
variable {P : Program} {K E : TypeId} {w w' : World} {b n : Nat} {f : Int → Option Int}
theorem MapIs.made (w : World) : MapIs P K E (w.alloc (.map #[] 0)) w.heap.size 0 (fun _ => none) :=
  ⟨.map [], World.ownsMap_made _ _ _ _, fun t _ => ⟨rfl, rfl⟩⟩
theorem MapIs.lt (h : MapIs P K E w b n f) : b < w.heap.size := let ⟨_, h, _⟩ := h; h.lt
theorem MapIs.mono (h : MapIs P K E w b n f) {n' : Nat} (hn : n ≤ n') : MapIs P K E w b n' f := let ⟨D, h, k⟩ := h; ⟨D, h.mono hn, k⟩
theorem MapIs.drewN (h : MapIs P K E w b n f) (q : Nat) : MapIs P K E (w.drewN q) b n f := h
theorem MapIs.kept {S : Nat → Prop} (h : MapIs P K E w b n f) (k : Fr S w w') (hn : ¬ S b) : MapIs P K E w' b n f := by
  obtain ⟨D, h, hD⟩ := h
  refine ⟨D, ?_, hD⟩
  obtain ⟨es, clock, hb, r⟩ := h
  exact ⟨es, clock, k.blk hb hn, r⟩
theorem fr_turned (h : w.mapTurned w' b) : Fr (One b) w w' := by
  have g := h.grown
  exact ⟨g.os, g.tape, g.output, g.size, fun k hk hn => g.block k hk (fun e => hn (by cases e; rfl))⟩
theorem fr_grownBy (g : w.grownBy w' (some b)) : Fr (One b) w w' :=
  ⟨g.os, g.tape, g.output, g.size, fun k hk hn => g.block k hk (fun e => hn (by cases e; rfl))⟩
end

section
variable {P : Program} {K E : TypeId} {w : World} {ops : Array Oper} {rest : List Oper} {o : Oper} {a : Act} {Q : Exit → Act → World → Prop} {b n : Nat} {f : Int → Option Int}
/-- 'v, ok := m[k]'. -/
theorem wp_look_ok (hg : o.guard = none) (m x : Operand) (t : TypeId) (hop : o.op = Op.lookup t m x true) (hk : P.underlying K = some (.int .i64)) (he : P.underlying E = some (.int .i64)) (ht : P.underlying t = some (.map K E))
    (hz : (zeroValue E).run P w = .ok (.int .i64 0) w) (H : MapIs P K E w b n f) (hm : a.eval m = .map (some b)) (key : Int) (hx : a.eval x = .int .i64 key) (hw : (Lit.int .i64 key).wf = true)
    (hK : wpList P ops Q rest (a.put o.dst (.tuple #[.int .i64 ((f key).getD 0), .bool (f key).isSome])) w) : wpList P ops Q (o :: rest) a w := by
  obtain ⟨D, hown, hD⟩ := H
  obtain ⟨h1, h2⟩ := hD key hw
  refine wpList_lookup_own_ok_int w hg m x t hop K E .i64 (int_keyed hk) ht he hz b n D hm hown _ _ hx (keyOf_int_mk hk hw) ?_
  intro c hat _
  rw [h2] at hat
  injection hat with hat
  injection hat with _ hat
  rw [← hat, h1]
  exact hK
/-- 'm[k]'. -/
theorem wp_look (hg : o.guard = none) (m x : Operand) (t : TypeId) (hop : o.op = Op.lookup t m x false) (hk : P.underlying K = some (.int .i64)) (he : P.underlying E = some (.int .i64)) (ht : P.underlying t = some (.map K E))
    (hz : (zeroValue E).run P w = .ok (.int .i64 0) w) (H : MapIs P K E w b n f) (hm : a.eval m = .map (some b)) (key : Int) (hx : a.eval x = .int .i64 key) (hw : (Lit.int .i64 key).wf = true)
    (hK : wpList P ops Q rest (a.put o.dst (.int .i64 ((f key).getD 0))) w) : wpList P ops Q (o :: rest) a w := by
  obtain ⟨D, hown, hD⟩ := H
  obtain ⟨h1, h2⟩ := hD key hw
  refine wpList_lookup_own_int w hg m x t hop K E .i64 (int_keyed hk) ht he hz b n D hm hown _ _ hx (keyOf_int_mk hk hw) ?_
  intro c hat _
  rw [h2] at hat
  injection hat with hat
  injection hat with _ hat
  rw [← hat]
  exact hK
/-- 'm[k] = v'. -/
theorem wp_store (hg : o.guard = none) (m x v : Operand) (t : TypeId) (hop : o.op = Op.mapUpdate t m x v) (hk : P.underlying K = some (.int .i64)) (he : P.underlying E = some (.int .i64)) (ht : P.underlying t = some (.map K E))
    (H : MapIs P K E w b n f) (hn : n < maxLen) (hm : a.eval m = .map (some b)) (key val : Int) (hx : a.eval x = .int .i64 key) (hv : a.eval v = .int .i64 val) (hw : (Lit.int .i64 key).wf = true) (hwv : (Lit.int .i64 val).wf = true)
    (hK : ∀ w', MapIs P K E w' b (n + 1) (fun t => if t = key then some val else f t) → Fr (One b) w w' → wpList P ops Q rest (a.put o.dst undef) w') : wpList P ops Q (o :: rest) a w := by
  obtain ⟨D, hown, hD⟩ := H
  refine wpList_mapUpdate_own w hg m x v t hop K E (int_keyed hk) ht (plainElem P E) b n D hm hown hn _ _ _ hx hv (keyOf_int_mk hk hw) _ [] (plainElem_int he hwv) ?_
  intro w' h' g'
  refine hK w' ⟨_, h', fun t htw => ?_⟩ (fr_grownBy g')
  by_cases e : t = key
  · subst e
    simp only [if_pos]
    have hIK : WideAt.IsKeyLit (Lit.int .i64 t) := True.intro
    exact ⟨has_put_same (hown.isMap) hIK _, atKey_put_same (hown.isMap) hIK _ _⟩
  · simp only [if_neg e]
    have hne : (Lit.int .i64 t) ≠ .int .i64 key := fun h => by injection h with _ h; exact e h
    rw [has_put_other hne, atKey_put_other hne]
    exact hD t htw
/-- 'delete(m, k)'. -/
theorem wp_delete (hg : o.guard = none) (m x : Operand) (t : TypeId) (hop : o.op = Op.call { callee := Callee.builtin Builtin.delete, args := #[m, x], argTypes := #[t, K] }) (hk : P.underlying K = some (.int .i64)) (ht : P.underlying t = some (.map K E))
    (H : MapIs P K E w b n f) (hm : a.eval m = .map (some b)) (key : Int) (hx : a.eval x = .int .i64 key) (hw : (Lit.int .i64 key).wf = true)
    (hK : ∀ w', MapIs P K E w' b n (fun t => if t = key then none else f t) → Fr (One b) w w' → wpList P ops Q rest (a.put o.dst (.tuple #[])) w') : wpList P ops Q (o :: rest) a w := by
  obtain ⟨D, hown, hD⟩ := H
  refine wpList_delete_own w hg m x t K hop E (int_keyed hk) ht (plainElem P E) b n D hm hown _ _ hx (keyOf_int_mk hk hw) ?_
  intro w' h' g'
  refine hK w' ⟨_, h', fun t htw => ?_⟩ (fr_turned g')
  by_cases e : t = key
  · subst e
    simp only [if_pos]
    exact ⟨has_del_same, atKey_del_same _⟩
  · simp only [if_neg e]
    have hne : (Lit.int .i64 t) ≠ .int .i64 key := fun h => by injection h with _ h; exact e h
    rw [has_del_other hne, atKey_del_other hne]
    exact hD t htw
end
end Go.Proofs.Ytppildaahmlfmaa
