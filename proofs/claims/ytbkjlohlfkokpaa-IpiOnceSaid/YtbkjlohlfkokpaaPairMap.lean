/- A map from pairs of whole numbers to pairs of whole numbers that a call made, as a function: look-up, store, delete, range at the operation. -/
import Derived.Test.YtbkjlohlfkokpaaProg
import Derived.Test.YtbkjlohlfkokpaaMap
import Derived.DeepKeys4
import Derived.Maps.RangeWalk
set_option linter.unusedVariables false
set_option linter.unusedSimpArgs false
namespace Go.Proofs.Ytbkjlohlfkokpaa
open Go.RowKit Go.Maps

def pairV (p : Int × Int) : Value := .agg #[.int .i64 p.1, .int .i64 p.2]
def pairW (p : Int × Int) : Prop := (Lit.int .i64 p.1).wf = true ∧ (Lit.int .i64 p.2).wf = true
def pairD (p : Int × Int) : DataW Unit := .agg [.lit (.int .i64 p.1), .lit (.int .i64 p.2)]
def pairR : Value → Option (DataW Unit × List MemPlace)
  | .agg cs => match cs.toList with
    | [.int .i64 a, .int .i64 b] => some (pairD (a, b), [])
    | _ => none
  | _ => none
theorem pairR_mk (p : Int × Int) : pairR (pairV p) = some (pairD p, []) := rfl
theorem pairR_inv {v : Value} {y : DataW Unit × List MemPlace} (h : pairR v = some y) : ∃ p, v = pairV p ∧ y = (pairD p, []) := by
  unfold pairR at h
  split at h
  · rename_i cs
    split at h
    · rename_i a b hcs
      refine ⟨(a, b), ?_, by injection h with h; exact h.symm⟩
      unfold pairV
      rw [← Array.toArray_toList (xs := cs), hcs]
    · cases h
  · cases h
theorem pairD_inj {p q : Int × Int} (h : pairD p = pairD q) : p = q := by
  unfold pairD at h
  injection h with h
  injection h with h1 h2
  injection h2 with h2 _
  injection h1 with h1
  injection h2 with h2
  injection h1 with _ h1
  injection h2 with _ h2
  exact Prod.ext h1 h2
theorem pairV_inj {p q : Int × Int} (h : pairV p = pairV q) : p = q := by
  have e : pairR (pairV p) = pairR (pairV q) := by rw [h]
  rw [pairR_mk, pairR_mk] at e
  exact pairD_inj (congrArg (fun o => (o.getD (pairD (0, 0), [])).1) e)
/-- The seat's key type. -/
theorem Try.laidOut0 : laidOutB Try.prog = true := by kernel_rfl
theorem Try.to_row : 85 < Try.prog.types.size := of_decide_eq_true (by kernel_rfl)
theorem Try.to_wide : (match Try.prog.underlying 85 with | some (.array _ _) | some (.struct _) => true | _ => false) = true := by kernel_rfl
theorem Try.to_kt : Try.prog.keyTypeAt 2 85 = true := by kernel_rfl
set_option maxRecDepth 100000 in
theorem Try.to_law : WideMaps.KeyLaw Try.prog 85 := deep_law_laid Try.laidOut0 (m := 2) (by omega) Try.to_row Try.to_kt Try.to_wide
theorem Try.keyed_to : Keyed Try.prog 85 := Keyed.of_law Try.to_law
theorem Try.to_key : Try.prog.keyType 85 = true := by kernel_rfl
theorem Try.to_cells : Try.prog.cellsOf 85 = 2 := by kernel_rfl
theorem Try.int_cells : Try.prog.cellsOf 3 = 1 := by kernel_rfl
theorem two_of {cs : List Value} (h : cs.length = 2) : ∃ c0 c1, cs = [c0, c1] := by
  rcases cs with _ | ⟨a, _ | ⟨b, _ | ⟨c, l⟩⟩⟩
  · simp at h
  · simp at h
  · exact ⟨a, b, rfl⟩
  · simp at h
theorem Try.int_lits (n : Nat) (c : Value) (ls : List Lit) : Try.prog.keyLits (n + 1) 3 [c] = some ls ↔ ∃ a, c = .int .i64 a ∧ (Lit.int .i64 a).wf = true ∧ ls = [.int .i64 a] := by
  unfold Program.keyLits
  rw [Try.underlying3]
  cases c with
  | int q a =>
    constructor
    · intro h
      simp only at h
      split at h
      · rename_i hq
        obtain ⟨rfl, hw⟩ := hq
        injection h with h
        exact ⟨a, rfl, hw, h.symm⟩
      · cases h
    · rintro ⟨b, e, hw, rfl⟩
      cases e
      simp [hw]
  | _ => simp
set_option maxRecDepth 100000 in
theorem Try.to_lits (n : Nat) (cs : List Value) (ls : List Lit) : Try.prog.keyLits (n + 1 + 1) 85 cs = some ls ↔ ∃ p, cs = [.int .i64 p.1, .int .i64 p.2] ∧ pairW p ∧ ls = [.int .i64 p.1, .int .i64 p.2] := by
  conv => lhs; unfold Program.keyLits
  rw [Try.underlying85]
  simp only [Try.to_cells, Try.int_cells]
  constructor
  · intro h
    split at h
    · rename_i hl
      obtain ⟨c0, c1, rfl⟩ := two_of hl.1
      simp [Try.int_cells] at h
      cases e0 : Try.prog.keyLits (n + 1) 3 [c0] with
      | none => rw [e0] at h; simp at h
      | some a =>
        cases e1 : Try.prog.keyLits (n + 1) 3 [c1] with
        | none => rw [e0, e1] at h; simp at h
        | some b =>
          rw [e0, e1] at h
          simp at h
          obtain ⟨x, rfl, hx, rfl⟩ := (Try.int_lits n c0 a).1 e0
          obtain ⟨y, rfl, hy, rfl⟩ := (Try.int_lits n c1 b).1 e1
          exact ⟨(x, y), rfl, ⟨hx, hy⟩, by rw [← h]; rfl⟩
    · cases h
  · rintro ⟨p, rfl, ⟨h1, h2⟩, rfl⟩
    have e1 := (Try.int_lits n (.int .i64 p.1) _).2 ⟨_, rfl, h1, rfl⟩
    have e2 := (Try.int_lits n (.int .i64 p.2) _).2 ⟨_, rfl, h2, rfl⟩
    simp [Try.int_cells, e1, e2]
set_option maxRecDepth 100000 in
/-- Every pair that may be is a key, and no other value is one. -/
theorem Try.key_mk {p : Int × Int} (h : pairW p) : keyOf Try.prog 85 (pairV p) = some (.string (keyBytes [.int .i64 p.1, .int .i64 p.2])) := by
  obtain ⟨n, hn⟩ : ∃ n, Try.prog.types.size = n + 1 := ⟨Try.prog.types.size - 1, by have := Try.to_row; omega⟩
  unfold keyOf
  rw [Try.underlying85]
  have hf : (pairV p).formed Try.prog 85 = true := by
    unfold pairV Value.formed
    rw [Try.underlying85, Try.to_cells]
    rfl
  have hl := (Try.to_lits n [.int .i64 p.1, .int .i64 p.2] _).2 ⟨p, rfl, h, rfl⟩
  have hc : (pairV p).cells.toList = [.int .i64 p.1, .int .i64 p.2] := rfl
  simp only [Try.to_key, hf, hc, hn, hl, Bool.and_self, if_true, Option.map_some]
set_option maxRecDepth 100000 in
theorem Try.key_inv {v : Value} {l : Lit} (h : keyOf Try.prog 85 v = some l) : ∃ p, v = pairV p ∧ pairW p := by
  obtain ⟨n, hn⟩ : ∃ n, Try.prog.types.size = n + 1 := ⟨Try.prog.types.size - 1, by have := Try.to_row; omega⟩
  unfold keyOf at h
  rw [Try.underlying85] at h
  simp only at h
  split at h
  · rename_i hc
    simp only [Bool.and_eq_true] at hc
    obtain ⟨_, hf⟩ := hc
    cases e : Try.prog.keyLits (Try.prog.types.size + 1) 85 v.cells.toList with
    | none => rw [e] at h; cases h
    | some ls =>
      rw [hn] at e
      obtain ⟨p, hp, hw, _⟩ := (Try.to_lits n _ ls).1 e
      refine ⟨p, ?_, hw⟩
      unfold Value.formed at hf
      rw [Try.underlying85] at hf
      cases v with
      | agg cs =>
        have : cs.toList = [.int .i64 p.1, .int .i64 p.2] := hp
        unfold pairV
        rw [← Array.toArray_toList (xs := cs), this]
      | _ => simp at hf
  · cases h

/-- Block b is a map that reads as f. -/
def MapP (w : World) (b n : Nat) (f : Int × Int → Option (Int × Int)) : Prop :=
  ∃ D : DataW Unit, w.ownsMap Try.prog 85 pairR b n D ∧ ∀ p l, keyOf Try.prog 85 (pairV p) = some l → Maps.has D l = (f p).isSome ∧ D.atKey l (pairD (0, 0)) = pairD ((f p).getD (0, 0))
/-- Block r is an iterator over it: the pairs still to come are those of L. -/
def RangeP (w : World) (b r n : Nat) (f : Int × Int → Option (Int × Int)) (L : Int × Int → Bool) (cnt : Nat) : Prop :=
  ∃ (D : DataW Unit) (left : Lit → Bool), w.ranges Try.prog 85 pairR b r n D left cnt ∧ (∀ p l, keyOf Try.prog 85 (pairV p) = some l → Maps.has D l = (f p).isSome ∧ D.atKey l (pairD (0, 0)) = pairD ((f p).getD (0, 0))) ∧
    (∀ p l, keyOf Try.prog 85 (pairV p) = some l → left l = L p)
theorem key_ne {p q : Int × Int} {lp lq : Lit} (hp : keyOf Try.prog 85 (pairV p) = some lp) (hq : keyOf Try.prog 85 (pairV q) = some lq) (h : p ≠ q) : lp ≠ lq := fun e => by
  subst e
  have := Try.keyed_to.inj hp hq
  exact h (pairV_inj this)
section
variable {w w' : World} {b r n cnt : Nat} {f : Int × Int → Option (Int × Int)} {L : Int × Int → Bool}
theorem MapP.made (w : World) : MapP (w.alloc (.map #[] 0)) w.heap.size 0 (fun _ => none) :=
  ⟨.map [], World.ownsMap_made _ _ _ _, fun p l _ => ⟨rfl, rfl⟩⟩
theorem MapP.lt (h : MapP w b n f) : b < w.heap.size := let ⟨_, h, _⟩ := h; h.lt
theorem MapP.mono (h : MapP w b n f) {n' : Nat} (hn : n ≤ n') : MapP w b n' f := let ⟨D, h, k⟩ := h; ⟨D, h.mono hn, k⟩
theorem MapP.kept {S : Nat → Prop} (h : MapP w b n f) (k : Fr S w w') (hn : ¬ S b) : MapP w' b n f := by
  obtain ⟨D, ⟨es, clock, hb, r⟩, hD⟩ := h
  exact ⟨D, ⟨es, clock, k.blk hb hn, r⟩, hD⟩
theorem MapP.congr {g : Int × Int → Option (Int × Int)} (h : MapP w b n f) (e : ∀ t, f t = g t) : MapP w b n g := by
  rwa [show f = g from funext e] at h
theorem RangeP.owns (h : RangeP w b r n f L cnt) : MapP w b n f := let ⟨D, _, h, k, _⟩ := h; ⟨D, h.owns, k⟩
theorem RangeP.left_eq (h : RangeP w b r n f L cnt) : w.rangeLeft b r = cnt := let ⟨_, _, h, _⟩ := h; h.left_eq
theorem RangeP.kept {S : Nat → Prop} (h : RangeP w b r n f L cnt) (k : Fr S w w') (hb : ¬ S b) (hr : ¬ S r) : RangeP w' b r n f L cnt := by
  obtain ⟨D, left, ⟨es, clock, since, seen, c0, h1, h2, h3, h4, h5, h6⟩, hD⟩ := h
  exact ⟨D, left, ⟨es, clock, since, seen, c0, k.blk h1 hb, h2, h3, h4, k.blk h5 hr, h6⟩, hD⟩
variable {ops : Array Oper} {rest : List Oper} {o : Oper} {a : Act} {Q : Exit → Act → World → Prop}
/-- 'v, ok := m[k]'. -/
theorem wp_plook_ok (hg : o.guard = none) (m x : Operand) (t : TypeId) (hop : o.op = Op.lookup t m x true) (ht : Try.prog.underlying t = some (.map 85 87))
    (hz : (zeroValue 87).run Try.prog w = .ok (pairV (0, 0)) w) (H : MapP w b n f) (hm : a.eval m = .map (some b)) (p : Int × Int) (hx : a.eval x = pairV p) (hw : pairW p)
    (hK : wpList Try.prog ops Q rest (a.put o.dst (.tuple #[pairV ((f p).getD (0, 0)), .bool (f p).isSome])) w) : wpList Try.prog ops Q (o :: rest) a w := by
  obtain ⟨D, hown, hD⟩ := H
  obtain ⟨h1, h2⟩ := hD p _ (Try.key_mk hw)
  refine wpList_lookup_own_ok w hg m x t hop 85 87 Try.keyed_to ht pairR hz (pairD (0, 0)) [] (pairR_mk _) b n D hm hown _ _ hx (Try.key_mk hw) ?_
  intro v ps hv
  obtain ⟨q, rfl, hq⟩ := pairR_inv hv
  rw [h2] at hq
  injection hq with hq _
  rw [← pairD_inj hq, h1]
  exact hK
/-- 'm[k]'. -/
theorem wp_pstore (hg : o.guard = none) (m x v : Operand) (t : TypeId) (hop : o.op = Op.mapUpdate t m x v) (ht : Try.prog.underlying t = some (.map 85 87))
    (H : MapP w b n f) (hn : n < maxLen) (hm : a.eval m = .map (some b)) (p q : Int × Int) (hx : a.eval x = pairV p) (hv : a.eval v = pairV q) (hw : pairW p)
    (hK : ∀ w', MapP w' b (n + 1) (fun t => if t = p then some q else f t) → Fr (One b) w w' → wpList Try.prog ops Q rest (a.put o.dst undef) w') : wpList Try.prog ops Q (o :: rest) a w := by
  obtain ⟨D, hown, hD⟩ := H
  refine wpList_mapUpdate_own w hg m x v t hop 85 87 Try.keyed_to ht pairR b n D hm hown hn _ _ _ hx hv (Try.key_mk hw) _ [] (pairR_mk q) ?_
  intro w' h' g'
  refine hK w' ⟨_, h', fun p2 l hl => ?_⟩ (fr_grownBy g')
  by_cases e : p2 = p
  · subst e
    have hl2 := Try.key_mk hw
    rw [hl] at hl2
    injection hl2 with hl2
    subst hl2
    simp only [if_pos]
    have hIK : WideAt.IsKeyLit (Lit.string (keyBytes [.int .i64 p2.1, .int .i64 p2.2])) := True.intro
    exact ⟨has_put_same (hown.isMap) hIK _, atKey_put_same (hown.isMap) hIK _ _⟩
  · simp only [if_neg e]
    have hne := key_ne hl (Try.key_mk hw) e
    rw [has_put_other hne, atKey_put_other hne]
    exact hD p2 l hl
/-- 'delete(m, k)'. -/
theorem wp_pdelete (hg : o.guard = none) (m x : Operand) (t : TypeId) (hop : o.op = Op.call { callee := Callee.builtin Builtin.delete, args := #[m, x], argTypes := #[t, 85] }) (ht : Try.prog.underlying t = some (.map 85 87))
    (H : MapP w b n f) (hm : a.eval m = .map (some b)) (p : Int × Int) (hx : a.eval x = pairV p) (hw : pairW p)
    (hK : ∀ w', MapP w' b n (fun t => if t = p then none else f t) → Fr (One b) w w' → wpList Try.prog ops Q rest (a.put o.dst (.tuple #[])) w') : wpList Try.prog ops Q (o :: rest) a w := by
  obtain ⟨D, hown, hD⟩ := H
  refine wpList_delete_own w hg m x t 85 hop 87 Try.keyed_to ht pairR b n D hm hown _ _ hx (Try.key_mk hw) ?_
  intro w' h' g'
  refine hK w' ⟨_, h', fun p2 l hl => ?_⟩ (fr_turned g')
  by_cases e : p2 = p
  · subst e
    have hl2 := Try.key_mk hw
    rw [hl] at hl2
    injection hl2 with hl2
    subst hl2
    simp only [if_pos]
    exact ⟨has_del_same, atKey_del_same _⟩
  · simp only [if_neg e]
    have hne := key_ne hl (Try.key_mk hw) e
    rw [has_del_other hne, atKey_del_other hne]
    exact hD p2 l hl
/-- 'range m'. -/
theorem wp_prange (hg : o.guard = none) (m : Operand) (t : TypeId) (hop : o.op = Op.range t m) (ht : Try.prog.underlying t = some (.map 85 87))
    (H : MapP w b n f) (hm : a.eval m = .map (some b))
    (hK : ∀ w' cnt, RangeP w' b w.heap.size n f (fun p => (f p).isSome) cnt → Fr NoB w w' → w'.heap.size = w.heap.size + 1 → wpList Try.prog ops Q rest (a.put o.dst (.pointer (some ⟨w.heap.size, 0, none⟩))) w') : wpList Try.prog ops Q (o :: rest) a w := by
  obtain ⟨D, hown, hD⟩ := H
  refine wpList_range_own w hg m t hop 85 87 Try.keyed_to ht pairR b n D hm hown ?_
  intro w' h' g' hs
  exact hK w' _ ⟨D, _, h', hD, fun p l hl => (hD p l hl).1⟩ ((Fr.refl NoB w).grown g' (fun k hk => by cases hk)) hs
set_option maxRecDepth 100000 in
/-- The step. -/
theorem wp_pnext (hg : o.guard = none) (it : Operand) (hop : o.op = Op.next it false) (H : RangeP w b r n f L cnt) (hit : a.eval it = .pointer (some ⟨r, 0, none⟩))
    (hDone : (∀ p, pairW p → L p = false) → wpList Try.prog ops Q rest (a.put o.dst (.tuple #[.bool false])) w)
    (hMore : ∀ (p q : Int × Int) (w' : World) (cnt' : Nat), pairW p → L p = true → f p = some q → RangeP w' b r n f (fun z => L z && !decide (z = p)) cnt' → cnt' < cnt → Fr (One r) w w' → w'.heap.size = w.heap.size →
      (Instr.entry (.pointer (some ⟨r, 0, none⟩))).run Try.prog w' = .ok (.tuple #[pairV p, pairV q]) w' → wpList Try.prog ops Q rest (a.put o.dst (.tuple #[.bool true, pairV p, pairV q])) w') : wpList Try.prog ops Q (o :: rest) a w := by
  obtain ⟨D, left, h, hD, hL⟩ := H
  refine wpList_next_ranges w hg it hop 85 Try.keyed_to pairR pairV pairV (fun key kl hkey => by obtain ⟨p, e, _⟩ := Try.key_inv hkey; exact ⟨p, e⟩) (fun v y hv => by obtain ⟨p, e, _⟩ := pairR_inv hv; exact ⟨p, e⟩) b r n D left cnt hit h ?_ ?_
  · intro _ hl
    exact hDone fun p hp => by rw [← hL p _ (Try.key_mk hp)]; exact hl _
  · intro p q kl y w' cnt' hkey hlk hv hat hrg hlt hgr hsz hen
    obtain ⟨p', e, hw⟩ := Try.key_inv hkey
    obtain rfl : p = p' := pairV_inj e
    have hy : y = (pairD q, []) := by rw [pairR_mk] at hv; injection hv with hv; exact hv.symm
    obtain ⟨h1, h2⟩ := hD p kl hkey
    have hh : (f p).isSome = true := by rw [← h1]; exact has_true_of_atKey hat
    have hfp : f p = some q := by
      cases hf : f p with
      | none => rw [hf] at hh; cases hh
      | some q2 =>
        rw [hf, hat (pairD (0, 0)), hy] at h2
        rw [pairD_inj h2]; rfl
    refine hMore p q w' cnt' hw (by rw [← hL p kl hkey]; exact hlk) hfp ⟨D, _, hrg, hD, fun p2 l hl => ?_⟩ hlt (fr_grownBy hgr) hsz hen
    rw [hL p2 l hl]
    by_cases e2 : p2 = p
    · subst e2
      rw [hkey] at hl
      injection hl with hl
      rw [← hl, WideAt.sameKey_self (Try.keyed_to.key hkey)]
      simp
    · rw [sameKey_ne (key_ne hl hkey e2)]
      simp [e2]
end
end Go.Proofs.Ytbkjlohlfkokpaa
