/- Joined: MapG. -/
import Derived.Test.YtppildaahmlfmaaQ02
import Derived.Maps.RangeWalk
import Derived.DeepKeys4
set_option linter.unusedVariables false
set_option linter.unusedSimpArgs false
/- Maps that a call made, as functions, whatever keys and elements: look-up, store, range as runs. No program; no condition. -/
set_option linter.unusedVariables false
set_option linter.unusedSimpArgs false
namespace Go.Proofs.Ytppildaahmlfmaa
open Go.RowKit Go.Maps

/-- Keys of type K are the x of α with kw; elements of type E are the y of β. -/
structure MapLaw {α β : Type} (P : Program) (K E : TypeId) (kv : α → Value) (kw : α → Prop) (ev : β → Value) (ed : β → DataW Unit) (R : Value → Option (DataW Unit × List MemPlace)) (ez : β) : Prop where
  keyed : Keyed P K
  kmk : ∀ x, kw x → ∃ l, keyOf P K (kv x) = some l
  kinv : ∀ v l, keyOf P K v = some l → ∃ x, v = kv x ∧ kw x
  kinj : ∀ x y, kv x = kv y → x = y
  rmk : ∀ y, R (ev y) = some (ed y, [])
  rinv : ∀ v z, R v = some z → ∃ y, v = ev y ∧ z = (ed y, [])
  einj : ∀ x y, ed x = ed y → x = y
  zero : ∀ w, (zeroValue E).run P w = .ok (ev ez) w
/-- Block b is a map that reads as f. -/
def MapG {α β : Type} (P : Program) (K : TypeId) (kv : α → Value) (ed : β → DataW Unit) (R : Value → Option (DataW Unit × List MemPlace)) (ez : β) (w : World) (b n : Nat) (f : α → Option β) : Prop :=
  ∃ D : DataW Unit, w.ownsMap P K R b n D ∧ ∀ x l, keyOf P K (kv x) = some l → Maps.has D l = (f x).isSome ∧ D.atKey l (ed ez) = ed ((f x).getD ez)
/-- Block r is an iterator over it: those still to come are those of L. -/
def RangeG {α β : Type} (P : Program) (K : TypeId) (kv : α → Value) (ed : β → DataW Unit) (R : Value → Option (DataW Unit × List MemPlace)) (ez : β) (w : World) (b r n : Nat) (f : α → Option β) (L : α → Bool) (cnt : Nat) : Prop :=
  ∃ (D : DataW Unit) (left : Lit → Bool), w.ranges P K R b r n D left cnt ∧ (∀ x l, keyOf P K (kv x) = some l → Maps.has D l = (f x).isSome ∧ D.atKey l (ed ez) = ed ((f x).getD ez)) ∧ (∀ x l, keyOf P K (kv x) = some l → left l = L x)
section
variable {α β : Type} {P : Program} {K E : TypeId} {kv : α → Value} {kw : α → Prop} {ev : β → Value} {ed : β → DataW Unit} {R : Value → Option (DataW Unit × List MemPlace)} {ez : β} {w w' : World} {b r n cnt : Nat} {f : α → Option β} {L : α → Bool}
theorem MapG.made (w : World) : MapG (α := α) P K kv ed R ez (w.alloc (.map #[] 0)) w.heap.size 0 (fun _ => none) := ⟨.map [], World.ownsMap_made _ _ _ _, fun p l _ => ⟨rfl, rfl⟩⟩
theorem MapG.lt (h : MapG P K kv ed R ez w b n f) : b < w.heap.size := let ⟨_, h, _⟩ := h; h.lt
theorem MapG.mono (h : MapG P K kv ed R ez w b n f) {n' : Nat} (hn : n ≤ n') : MapG P K kv ed R ez w b n' f := let ⟨D, h, k⟩ := h; ⟨D, h.mono hn, k⟩
theorem MapG.isMap (h : MapG P K kv ed R ez w b n f) : ∃ es cl, w.heap[b]? = some (.map es cl) := by
  obtain ⟨D, ⟨es, clock, hb, _⟩, _⟩ := h
  exact ⟨es, clock, hb⟩
theorem MapG.kept {S : Nat → Prop} (h : MapG P K kv ed R ez w b n f) (k : Fr S w w') (hn : ¬ S b) : MapG P K kv ed R ez w' b n f := by
  obtain ⟨D, ⟨es, clock, hb, r⟩, hD⟩ := h
  exact ⟨D, ⟨es, clock, k.blk hb hn, r⟩, hD⟩
theorem MapG.grown {row : Option Nat} (h : MapG P K kv ed R ez w b n f) (hg : w.grownBy w' row) (hne : some b ≠ row) : MapG P K kv ed R ez w' b n f := by
  obtain ⟨D, h, hD⟩ := h
  exact ⟨D, h.kept hg hne, hD⟩
theorem MapG.congr {g : α → Option β} (h : MapG P K kv ed R ez w b n f) (e : ∀ t, f t = g t) : MapG P K kv ed R ez w b n g := by rwa [show f = g from funext e] at h
theorem RangeG.owns (h : RangeG P K kv ed R ez w b r n f L cnt) : MapG P K kv ed R ez w b n f := let ⟨D, _, h, k, _⟩ := h; ⟨D, h.owns, k⟩
theorem RangeG.left_eq (h : RangeG P K kv ed R ez w b r n f L cnt) : w.rangeLeft b r = cnt := let ⟨_, _, h, _⟩ := h; h.left_eq
theorem RangeG.kept {S : Nat → Prop} (h : RangeG P K kv ed R ez w b r n f L cnt) (k : Fr S w w') (hb : ¬ S b) (hr : ¬ S r) : RangeG P K kv ed R ez w' b r n f L cnt := by
  obtain ⟨D, left, ⟨es, clock, since, seen, c0, h1, h2, h3, h4, h5, h6⟩, hD⟩ := h
  exact ⟨D, left, ⟨es, clock, since, seen, c0, k.blk h1 hb, h2, h3, h4, k.blk h5 hr, h6⟩, hD⟩
variable (M : MapLaw P K E kv kw ev ed R ez)
include M
theorem MapLaw.key_ne {p q : α} {lp lq : Lit} (hp : keyOf P K (kv p) = some lp) (hq : keyOf P K (kv q) = some lq) (h : p ≠ q) : lp ≠ lq := fun e => by
  subst e
  exact h (M.kinj _ _ (M.keyed.inj hp hq))
/-- 'm[k]'. -/
theorem MapLaw.look {t : TypeId} (ht : P.underlying t = some (.map K E)) (H : MapG P K kv ed R ez w b n f) {x : α} (hx : kw x) : (Instr.lookup t (.map (some b)) (kv x) false).run P w = .ok (ev ((f x).getD ez)) w := by
  obtain ⟨D, hown, hD⟩ := H
  obtain ⟨l, hl⟩ := M.kmk x hx
  obtain ⟨h1, h2⟩ := hD x l hl
  obtain ⟨v, ps, hr, hv⟩ := hown.lookup M.keyed ht (M.zero w) (M.rmk ez) hl
  obtain ⟨y, rfl, hy⟩ := M.rinv _ _ hv
  rw [h2] at hy
  injection hy with hy _
  rw [hr, ← M.einj _ _ hy]
/-- 'v, ok := m[k]'. -/
theorem MapLaw.look_ok {t : TypeId} (ht : P.underlying t = some (.map K E)) (H : MapG P K kv ed R ez w b n f) {x : α} (hx : kw x) : (Instr.lookup t (.map (some b)) (kv x) true).run P w = .ok (.tuple #[ev ((f x).getD ez), .bool (f x).isSome]) w := by
  obtain ⟨D, hown, hD⟩ := H
  obtain ⟨l, hl⟩ := M.kmk x hx
  obtain ⟨h1, h2⟩ := hD x l hl
  obtain ⟨v, ps, hr, hv⟩ := hown.look_ok M.keyed ht (M.zero w) (M.rmk ez) hl
  obtain ⟨y, rfl, hy⟩ := M.rinv _ _ hv
  rw [h2] at hy
  injection hy with hy _
  rw [hr, ← M.einj _ _ hy, h1]
/-- 'm[k] = v'. -/
theorem MapLaw.store [DecidableEq α] {t : TypeId} (ht : P.underlying t = some (.map K E)) (H : MapG P K kv ed R ez w b n f) (hn : n < maxLen) {x : α} (hx : kw x) (y : β) :
    ∃ w', (Instr.mapUpdate t (.map (some b)) (kv x) (ev y)).run P w = .ok () w' ∧ MapG P K kv ed R ez w' b (n + 1) (fun z => if z = x then some y else f z) ∧ w.grownBy w' (some b) := by
  obtain ⟨D, hown, hD⟩ := H
  obtain ⟨l, hl⟩ := M.kmk x hx
  obtain ⟨w', hrun, h', g'⟩ := hown.update M.keyed ht hn hl (M.rmk y)
  refine ⟨w', hrun, ⟨_, h', fun x2 l2 hl2 => ?_⟩, g'⟩
  by_cases e : x2 = x
  · subst e
    rw [hl] at hl2
    injection hl2 with hl2
    subst hl2
    simp only [if_pos]
    have hIK := M.keyed.key hl
    exact ⟨has_put_same (hown.isMap) hIK _, atKey_put_same (hown.isMap) hIK _ _⟩
  · simp only [if_neg e]
    have hne := M.key_ne hl2 hl e
    rw [has_put_other hne, atKey_put_other hne]
    exact hD x2 l2 hl2
variable {ops : Array Oper} {rest : List Oper} {o : Oper} {a : Act} {Q : Exit → Act → World → Prop}
/-- 'range m'. -/
theorem MapLaw.range (hg : o.guard = none) (m : Operand) (t : TypeId) (hop : o.op = Op.range t m) (ht : P.underlying t = some (.map K E)) (H : MapG P K kv ed R ez w b n f) (hm : a.eval m = .map (some b))
    (hK : ∀ w' cnt, RangeG P K kv ed R ez w' b w.heap.size n f (fun p => (f p).isSome) cnt → Fr NoB w w' → w'.heap.size = w.heap.size + 1 → wpList P ops Q rest (a.put o.dst (.pointer (some ⟨w.heap.size, 0, none⟩))) w') : wpList P ops Q (o :: rest) a w := by
  obtain ⟨D, hown, hD⟩ := H
  refine wpList_range_own w hg m t hop K E M.keyed ht R b n D hm hown ?_
  intro w' h' g' hs
  exact hK w' _ ⟨D, _, h', hD, fun p l hl => (hD p l hl).1⟩ ((Fr.refl NoB w).grown g' (fun k hk => by cases hk)) hs
/-- The step. -/
theorem MapLaw.next [DecidableEq α] (hg : o.guard = none) (it : Operand) (hop : o.op = Op.next it false) (H : RangeG P K kv ed R ez w b r n f L cnt) (hit : a.eval it = .pointer (some ⟨r, 0, none⟩))
    (hDone : (∀ p, kw p → L p = false) → wpList P ops Q rest (a.put o.dst (.tuple #[.bool false])) w)
    (hMore : ∀ (p : α) (q : β) (w' : World) (cnt' : Nat), kw p → L p = true → f p = some q → RangeG P K kv ed R ez w' b r n f (fun z => L z && !decide (z = p)) cnt' → cnt' < cnt → Fr (One r) w w' → w'.heap.size = w.heap.size →
      (Instr.entry (.pointer (some ⟨r, 0, none⟩))).run P w' = .ok (.tuple #[kv p, ev q]) w' → wpList P ops Q rest (a.put o.dst (.tuple #[.bool true, kv p, ev q])) w') : wpList P ops Q (o :: rest) a w := by
  obtain ⟨D, left, h, hD, hL⟩ := H
  refine wpList_next_ranges w hg it hop K M.keyed R kv ev (fun key kl hkey => by obtain ⟨p, e, _⟩ := M.kinv _ _ hkey; exact ⟨p, e⟩) (fun v y hv => by obtain ⟨p, e, _⟩ := M.rinv _ _ hv; exact ⟨p, e⟩) b r n D left cnt hit h ?_ ?_
  · intro _ hl
    exact hDone fun p hp => by
      obtain ⟨l, hkl⟩ := M.kmk p hp
      rw [← hL p l hkl]; exact hl _
  · intro p q kl y w' cnt' hkey hlk hv hat hrg hlt hgr hsz hen
    obtain ⟨p', e, hw⟩ := M.kinv _ _ hkey
    obtain rfl : p = p' := M.kinj _ _ e
    have hy : y = (ed q, []) := by rw [M.rmk] at hv; injection hv with hv; exact hv.symm
    obtain ⟨h1, h2⟩ := hD p kl hkey
    have hh : (f p).isSome = true := by rw [← h1]; exact has_true_of_atKey hat
    have hfp : f p = some q := by
      cases hf : f p with
      | none => rw [hf] at hh; cases hh
      | some q2 =>
        rw [hf, hat (ed ez), hy] at h2
        rw [M.einj _ _ h2]; rfl
    refine hMore p q w' cnt' hw (by rw [← hL p kl hkey]; exact hlk) hfp ⟨D, _, hrg, hD, fun p2 l hl => ?_⟩ hlt (fr_grownBy hgr) hsz hen
    rw [hL p2 l hl]
    by_cases e2 : p2 = p
    · subst e2
      rw [hkey] at hl
      injection hl with hl
      rw [← hl, WideAt.sameKey_self (M.keyed.key hkey)]
      simp
    · rw [sameKey_ne (M.key_ne hl hkey e2)]
      simp [e2]
end

/-! Elements -/
def eIntR : Value → Option (DataW Unit × List MemPlace)
  | .int .i64 a => some (.lit (.int .i64 a), [])
  | _ => none
def eBoolR : Value → Option (DataW Unit × List MemPlace)
  | .bool a => some (.lit (.bool a), [])
  | _ => none
def eI (a : Int) : Value := .int .i64 a
def eB (a : Bool) : Value := .bool a
def dI (a : Int) : DataW Unit := .lit (.int .i64 a)
def dB (a : Bool) : DataW Unit := .lit (.bool a)
theorem eIntR_inv {v : Value} {z : DataW Unit × List MemPlace} (h : eIntR v = some z) : ∃ y, v = eI y ∧ z = (dI y, []) := by
  unfold eIntR at h
  split at h
  · rename_i a
    injection h with h
    exact ⟨a, rfl, h.symm⟩
  · cases h
theorem eBoolR_inv {v : Value} {z : DataW Unit × List MemPlace} (h : eBoolR v = some z) : ∃ y, v = eB y ∧ z = (dB y, []) := by
  unfold eBoolR at h
  split at h
  · rename_i a
    injection h with h
    exact ⟨a, rfl, h.symm⟩
  · cases h
theorem dI_inj {x y : Int} (h : dI x = dI y) : x = y := by
  unfold dI at h
  injection h with h
  injection h
theorem dB_inj {x y : Bool} (h : dB x = dB y) : x = y := by
  unfold dB at h
  injection h with h
  injection h
/-! Keys -/
def kwI (x : Int) : Prop := (Lit.int .i64 x).wf = true
theorem kwI_mk {x : Int} (h0 : -9223372036854775808 ≤ x) (h1 : x ≤ 9223372036854775807) : kwI x := wfI h0 h1
section
variable {P : Program} {K E : TypeId}
theorem key_int (hk : P.underlying K = some (.int .i64)) : (∀ x, kwI x → ∃ l, keyOf P K (eI x) = some l) ∧ (∀ v l, keyOf P K v = some l → ∃ x, v = eI x ∧ kwI x) := by
  refine ⟨fun x hx => ⟨_, keyOf_int_mk hk hx⟩, fun v l h => ?_⟩
  simp only [keyOf, hk] at h
  unfold mapKey at h
  rw [hk] at h
  cases v with
  | int q a =>
    simp only at h
    split at h
    · rename_i hq
      obtain ⟨rfl, hw⟩ := hq
      exact ⟨a, rfl, hw⟩
    · cases h
  | _ => simp at h
theorem law_int_int (hk : P.underlying K = some (.int .i64)) (hz : ∀ w, (zeroValue E).run P w = .ok (.int .i64 0) w) : MapLaw P K E eI kwI eI dI eIntR 0 :=
  ⟨int_keyed hk, (key_int hk).1, (key_int hk).2, fun x y h => by unfold eI at h; injection h, fun y => rfl, fun v z h => eIntR_inv h, fun x y h => dI_inj h, hz⟩
theorem law_int_bool (hk : P.underlying K = some (.int .i64)) (hz : ∀ w, (zeroValue E).run P w = .ok (.bool false) w) : MapLaw P K E eI kwI eB dB eBoolR false :=
  ⟨int_keyed hk, (key_int hk).1, (key_int hk).2, fun x y h => by unfold eI at h; injection h, fun y => rfl, fun v z h => eBoolR_inv h, fun x y h => dB_inj h, hz⟩
def pairV (p : Int × Int) : Value := .agg #[.int .i64 p.1, .int .i64 p.2]
def pairW (p : Int × Int) : Prop := kwI p.1 ∧ kwI p.2
theorem pairV_inj {p q : Int × Int} (h : pairV p = pairV q) : p = q := by
  unfold pairV at h
  injection h with h
  have h1 := congrArg (fun a : Array Value => a.toList) h
  simp at h1
  exact Prod.ext h1.1 h1.2
theorem int_lits (hk : P.underlying K = some (.int .i64)) (n : Nat) (c : Value) (ls : List Lit) : P.keyLits (n + 1) K [c] = some ls ↔ ∃ a, c = .int .i64 a ∧ kwI a ∧ ls = [.int .i64 a] := by
  unfold Program.keyLits
  rw [hk]
  cases c with
  | int q a =>
    constructor
    · intro h
      simp only at h
      split at h
      · rename_i hq
        obtain ⟨rfl, hw⟩ := hq
        injection h with h
        exact ⟨a, rfl, hw, h.symm⟩
      · cases h
    · rintro ⟨b, e, hw, rfl⟩
      cases e
      have hw' : (Lit.int .i64 a).wf = true := hw
      simp [hw']
  | _ => simp
theorem two_of {cs : List Value} (h : cs.length = 2) : ∃ c0 c1, cs = [c0, c1] := by
  rcases cs with _ | ⟨a, _ | ⟨b, _ | ⟨c, l⟩⟩⟩
  · simp at h
  · simp at h
  · exact ⟨a, b, rfl⟩
  · simp at h
/-- What is asked of a type of pairs. -/
structure PairT (P : Program) (K : TypeId) : Prop where
  row : K < P.types.size
  kt : P.keyType K = true
  cells : P.cellsOf K = 2
  lits : ∀ (n : Nat) (cs : List Value) (ls : List Lit), P.keyLits (n + 1 + 1) K cs = some ls ↔ ∃ p : Int × Int, cs = [.int .i64 p.1, .int .i64 p.2] ∧ pairW p ∧ ls = [.int .i64 p.1, .int .i64 p.2]
  wide : (∃ n e, P.underlying K = some (.array n e)) ∨ (∃ fs, P.underlying K = some (.struct fs))
theorem PairT.keyOf_eq (H : PairT P K) (v : Value) : keyOf P K v = if P.keyType K && v.formed P K then (P.keyLits (P.types.size + 1) K v.cells.toList).map fun ls => .string (keyBytes ls) else none := by
  unfold keyOf
  rcases H.wide with ⟨n, e, h⟩ | ⟨fs, h⟩ <;> rw [h]
theorem PairT.formed (H : PairT P K) (v : Value) : v.formed P K = true ↔ ∃ cs, v = .agg cs ∧ cs.size = 2 := by
  unfold Value.formed
  rcases H.wide with ⟨n, e, h⟩ | ⟨fs, h⟩ <;> cases v <;> simp [h, H.cells]
theorem PairT.key (H : PairT P K) : (∀ x, pairW x → ∃ l, keyOf P K (pairV x) = some l) ∧ (∀ v l, keyOf P K v = some l → ∃ x, v = pairV x ∧ pairW x) := by
  obtain ⟨n, hn⟩ : ∃ n, P.types.size = n + 1 := ⟨P.types.size - 1, (Nat.succ_pred_eq_of_pos (Nat.lt_of_le_of_lt (Nat.zero_le _) H.row)).symm⟩
  refine ⟨fun x hx => ⟨.string (keyBytes [.int .i64 x.1, .int .i64 x.2]), ?_⟩, fun v l h => ?_⟩
  · rw [H.keyOf_eq, hn]
    have hf : (pairV x).formed P K = true := (H.formed _).2 ⟨_, rfl, rfl⟩
    have hl := (H.lits n [.int .i64 x.1, .int .i64 x.2] _).2 ⟨x, rfl, hx, rfl⟩
    have hc : (pairV x).cells.toList = [.int .i64 x.1, .int .i64 x.2] := rfl
    simp only [H.kt, hf, hc, hl, Bool.and_self, if_true, Option.map_some]
  · rw [H.keyOf_eq, hn] at h
    split at h
    · rename_i hc
      simp only [Bool.and_eq_true] at hc
      obtain ⟨_, hf⟩ := hc
      cases e : P.keyLits (n + 1 + 1) K v.cells.toList with
      | none => rw [e] at h; cases h
      | some ls =>
        obtain ⟨p, hp, hw, _⟩ := (H.lits n _ ls).1 e
        refine ⟨p, ?_, hw⟩
        obtain ⟨cs, rfl, _⟩ := (H.formed _).1 hf
        have : cs.toList = [.int .i64 p.1, .int .i64 p.2] := hp
        unfold pairV
        rw [← Array.toArray_toList (xs := cs), this]
    · cases h
theorem law_pair_bool (H : PairT P K) (hK : Keyed P K) (hz : ∀ w, (zeroValue E).run P w = .ok (.bool false) w) : MapLaw P K E pairV pairW eB dB eBoolR false :=
  ⟨hK, H.key.1, H.key.2, fun x y h => pairV_inj h, fun y => rfl, fun v z h => eBoolR_inv h, fun x y h => dB_inj h, hz⟩
theorem law_pair_int (H : PairT P K) (hK : Keyed P K) (hz : ∀ w, (zeroValue E).run P w = .ok (.int .i64 0) w) : MapLaw P K E pairV pairW eI dI eIntR 0 :=
  ⟨hK, H.key.1, H.key.2, fun x y h => pairV_inj h, fun y => rfl, fun v z h => eIntR_inv h, fun x y h => dI_inj h, hz⟩
/-- An array of two whole numbers. -/
theorem pairT_array {e : TypeId} (hrow : K < P.types.size) (hkt : P.keyType K = true) (hu : P.underlying K = some (.array 2 e)) (he : P.underlying e = some (.int .i64)) (hc : P.cellsOf K = 2) (hce : P.cellsOf e = 1) : PairT P K := by
  refine ⟨hrow, hkt, hc, fun n cs ls => ?_, .inl ⟨_, _, hu⟩⟩
  conv => lhs; unfold Program.keyLits
  rw [hu]
  simp only [hc, hce]
  constructor
  · intro h
    split at h
    · rename_i hl
      obtain ⟨c0, c1, rfl⟩ := two_of hl
      simp [List.range_succ] at h
      cases e0 : P.keyLits (n + 1) e [c0] with
      | none => rw [e0] at h; simp at h
      | some a =>
        cases e1 : P.keyLits (n + 1) e [c1] with
        | none => rw [e0, e1] at h; simp at h
        | some b =>
          rw [e0, e1] at h
          simp at h
          obtain ⟨x, rfl, hx, rfl⟩ := (int_lits he n c0 a).1 e0
          obtain ⟨y, rfl, hy, rfl⟩ := (int_lits he n c1 b).1 e1
          exact ⟨(x, y), rfl, ⟨hx, hy⟩, by rw [← h]; rfl⟩
    · cases h
  · rintro ⟨p, rfl, ⟨h1, h2⟩, rfl⟩
    have e1 := (int_lits he n (.int .i64 p.1) _).2 ⟨_, rfl, h1, rfl⟩
    have e2 := (int_lits he n (.int .i64 p.2) _).2 ⟨_, rfl, h2, rfl⟩
    simp [List.range_succ, e1, e2]
/-- A struct of two whole numbers. -/
theorem pairT_struct {f0 f1 : Field} (hrow : K < P.types.size) (hkt : P.keyType K = true) (hu : P.underlying K = some (.struct #[f0, f1])) (h0 : P.underlying f0.type = some (.int .i64)) (h1 : P.underlying f1.type = some (.int .i64))
    (hc : P.cellsOf K = 2) (hc0 : P.cellsOf f0.type = 1) (hc1 : P.cellsOf f1.type = 1) (ho0 : f0.offset = 0) (ho1 : f1.offset = 1) (hn0 : (f0.name != "_") = true) (hn1 : (f1.name != "_") = true) : PairT P K := by
  refine ⟨hrow, hkt, hc, fun n cs ls => ?_, .inr ⟨_, hu⟩⟩
  conv => lhs; unfold Program.keyLits
  rw [hu]
  simp only [hc]
  constructor
  · intro h
    split at h
    · rename_i hl
      obtain ⟨c0, c1, rfl⟩ := two_of hl.1
      simp [hc0, hc1, ho0, ho1] at h
      cases e0 : P.keyLits (n + 1) f0.type [c0] with
      | none => rw [e0] at h; simp at h
      | some a =>
        cases e1 : P.keyLits (n + 1) f1.type [c1] with
        | none => rw [e0, e1] at h; simp at h
        | some b =>
          rw [e0, e1] at h
          simp at h
          obtain ⟨x, rfl, hx, rfl⟩ := (int_lits h0 n c0 a).1 e0
          obtain ⟨y, rfl, hy, rfl⟩ := (int_lits h1 n c1 b).1 e1
          exact ⟨(x, y), rfl, ⟨hx, hy⟩, by rw [← h]; rfl⟩
    · cases h
  · rintro ⟨p, rfl, ⟨w1, w2⟩, rfl⟩
    have e1 := (int_lits h0 n (.int .i64 p.1) _).2 ⟨_, rfl, w1, rfl⟩
    have e2 := (int_lits h1 n (.int .i64 p.2) _).2 ⟨_, rfl, w2, rfl⟩
    have g0 : f0.name ≠ "_" := by simpa using hn0
    have g1 : f1.name ≠ "_" := by simpa using hn1
    simp [hc0, hc1, ho0, ho1, e1, e2, g0, g1]
end
end Go.Proofs.Ytppildaahmlfmaa
