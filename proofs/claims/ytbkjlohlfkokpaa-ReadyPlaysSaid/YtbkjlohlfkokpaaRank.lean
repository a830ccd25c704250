/- Package ready: ranks; a map from tasks to ranks as a function; level, key, may (contracts). -/
import Derived.Test.YtbkjlohlfkokpaaHeapKeeps
set_option linter.unusedVariables false
set_option linter.unusedSimpArgs false
namespace Go.Proofs.Ytbkjlohlfkokpaa
open Go.RowKit Go.Maps

/-- A rank. -/
structure Rk where
  own : Int
  up : Int
  ra : Bool
def Rk.zero : Rk := ⟨0, 0, false⟩
def rkV (r : Rk) : Value := .agg #[.int .i64 r.own, .int .i64 r.up, .bool r.ra]
def rkD (r : Rk) : DataW Unit := .agg [.lit (.int .i64 r.own), .lit (.int .i64 r.up), .lit (.bool r.ra)]
def rkR : Value → Option (DataW Unit × List MemPlace)
  | .agg cs => match cs.toList with
    | [.int .i64 a, .int .i64 b, .bool c] => some (rkD ⟨a, b, c⟩, [])
    | _ => none
  | _ => none
theorem rkR_mk (r : Rk) : rkR (rkV r) = some (rkD r, []) := rfl
theorem rkR_inv {v : Value} {y : DataW Unit × List MemPlace} (h : rkR v = some y) : ∃ r, v = rkV r ∧ y = (rkD r, []) := by
  unfold rkR at h
  split at h
  · rename_i cs
    split at h
    · rename_i a b c hcs
      refine ⟨⟨a, b, c⟩, ?_, by injection h with h; exact h.symm⟩
      unfold rkV
      rw [← Array.toArray_toList (xs := cs), hcs]
    · cases h
  · cases h
theorem rkD_inj {p q : Rk} (h : rkD p = rkD q) : p = q := by
  obtain ⟨a, b, c⟩ := p
  obtain ⟨a', b', c'⟩ := q
  unfold rkD at h
  injection h with h
  injection h with h1 h2
  injection h2 with h2 h3
  injection h3 with h3 _
  injection h1 with h1
  injection h2 with h2
  injection h3 with h3
  injection h1 with _ h1
  injection h2 with _ h2
  injection h3 with h3
  simp only at h1 h2 h3
  rw [h1, h2, h3]
/-- Block b is a map that reads as f. -/
def MapR (w : World) (b n : Nat) (f : Int → Option Rk) : Prop :=
  ∃ D : DataW Unit, w.ownsMap Try.prog 3 rkR b n D ∧ ∀ t, (Lit.int .i64 t).wf = true → Maps.has D (.int .i64 t) = (f t).isSome ∧ D.atKey (.int .i64 t) (rkD Rk.zero) = rkD ((f t).getD Rk.zero)
theorem Try.zero_rank (w : World) : (zeroValue 117).run Try.prog w = .ok (rkV Rk.zero) w := by kernel_rfl
section
variable {w w' : World} {b n : Nat} {f : Int → Option Rk}
theorem MapR.made (w : World) : MapR (w.alloc (.map #[] 0)) w.heap.size 0 (fun _ => none) :=
  ⟨.map [], World.ownsMap_made _ _ _ _, fun t _ => ⟨rfl, rfl⟩⟩
theorem MapR.lt (h : MapR w b n f) : b < w.heap.size := let ⟨_, h, _⟩ := h; h.lt
theorem MapR.mono (h : MapR w b n f) {n' : Nat} (hn : n ≤ n') : MapR w b n' f := let ⟨D, h, k⟩ := h; ⟨D, h.mono hn, k⟩
theorem MapR.kept {S : Nat → Prop} (h : MapR w b n f) (k : Fr S w w') (hn : ¬ S b) : MapR w' b n f := by
  obtain ⟨D, ⟨es, clock, hb, r⟩, hD⟩ := h
  exact ⟨D, ⟨es, clock, k.blk hb hn, r⟩, hD⟩
variable {ops : Array Oper} {rest : List Oper} {o : Oper} {a : Act} {Q : Exit → Act → World → Prop}
/-- 'v, ok := m[k]'. -/
theorem wp_rlook_ok (hg : o.guard = none) (m x : Operand) (t : TypeId) (hop : o.op = Op.lookup t m x true) (ht : Try.prog.underlying t = some (.map 3 117))
    (H : MapR w b n f) (hm : a.eval m = .map (some b)) (key : Int) (hx : a.eval x = .int .i64 key) (hw : (Lit.int .i64 key).wf = true)
    (hK : wpList Try.prog ops Q rest (a.put o.dst (.tuple #[rkV ((f key).getD Rk.zero), .bool (f key).isSome])) w) : wpList Try.prog ops Q (o :: rest) a w := by
  obtain ⟨D, hown, hD⟩ := H
  obtain ⟨h1, h2⟩ := hD key hw
  refine wpList_lookup_own_ok w hg m x t hop 3 117 (int_keyed Try.underlying3) ht rkR (Try.zero_rank w) (rkD Rk.zero) [] (rkR_mk _) b n D hm hown _ _ hx (keyOf_int_mk Try.underlying3 hw) ?_
  intro v ps hv
  obtain ⟨q, rfl, hq⟩ := rkR_inv hv
  rw [h2] at hq
  injection hq with hq _
  rw [← rkD_inj hq, h1]
  exact hK
/-- 'm[k] = v', as a run. -/
theorem MapR.update_eq {t : TypeId} (ht : Try.prog.underlying t = some (.map 3 117)) (H : MapR w b n f) {key : Int} (r : Rk) (hw : (Lit.int .i64 key).wf = true) (hn : n < maxLen) :
    ∃ w', (Instr.mapUpdate t (.map (some b)) (.int .i64 key) (rkV r)).run Try.prog w = .ok () w' ∧ MapR w' b (n + 1) (fun t => if t = key then some r else f t) ∧ Fr (One b) w w' := by
  obtain ⟨D, hown, hD⟩ := H
  obtain ⟨w', hrun, h', g'⟩ := hown.update (int_keyed Try.underlying3) ht hn (keyOf_int_mk Try.underlying3 hw) (rkR_mk r)
  refine ⟨w', hrun, ⟨_, h', fun t htw => ?_⟩, fr_grownBy g'⟩
  by_cases e : t = key
  · subst e
    simp only [if_pos]
    have hIK : WideAt.IsKeyLit (Lit.int .i64 t) := True.intro
    exact ⟨has_put_same (hown.isMap) hIK _, atKey_put_same (hown.isMap) hIK _ _⟩
  · simp only [if_neg e]
    have hne : (Lit.int .i64 t) ≠ .int .i64 key := fun h => by injection h with _ h; exact e h
    rw [has_put_other hne, atKey_put_other hne]
    exact hD t htw
/-- 'delete(m, k)'. -/
theorem wp_rdelete (hg : o.guard = none) (m x : Operand) (t : TypeId) (hop : o.op = Op.call { callee := Callee.builtin Builtin.delete, args := #[m, x], argTypes := #[t, 3] }) (ht : Try.prog.underlying t = some (.map 3 117))
    (H : MapR w b n f) (hm : a.eval m = .map (some b)) (key : Int) (hx : a.eval x = .int .i64 key) (hw : (Lit.int .i64 key).wf = true)
    (hK : ∀ w', MapR w' b n (fun t => if t = key then none else f t) → Fr (One b) w w' → wpList Try.prog ops Q rest (a.put o.dst (.tuple #[])) w') : wpList Try.prog ops Q (o :: rest) a w := by
  obtain ⟨D, hown, hD⟩ := H
  refine wpList_delete_own w hg m x t 3 hop 117 (int_keyed Try.underlying3) ht rkR b n D hm hown _ _ hx (keyOf_int_mk Try.underlying3 hw) ?_
  intro w' h' g'
  refine hK w' ⟨_, h', fun t htw => ?_⟩ (fr_turned g')
  by_cases e : t = key
  · subst e
    simp only [if_pos]
    exact ⟨has_del_same, atKey_del_same _⟩
  · simp only [if_neg e]
    have hne : (Lit.int .i64 t) ≠ .int .i64 key := fun h => by injection h with _ h; exact e h
    rw [has_del_other hne, atKey_del_other hne]
    exact hD t htw
end
/-! The functions -/
def Rk.level (r : Rk) : Int := if r.ra then r.up else r.own
def Rk.key (r : Rk) (t : Int) : Int := r.level * 64 + (if r.ra then 0 else 32) + t
structure Rk.Ok (r : Rk) : Prop where
  o0 : 0 ≤ r.own
  o1 : r.own < 9007199254740992
  u0 : 0 ≤ r.up
  u1 : r.up < 9007199254740992
theorem Rk.Ok.lev {r : Rk} (h : r.Ok) : 0 ≤ r.level ∧ r.level < 9007199254740992 := by
  unfold Rk.level
  split
  · exact ⟨h.u0, h.u1⟩
  · exact ⟨h.o0, h.o1⟩
set_option maxRecDepth 100000 in
theorem or_i64_nat (a b : Nat) (ha : a < 4611686018427387904) (hb : b < 4611686018427387904) : bits .or .i64 (a : Int) (b : Int) = ((a ||| b : Nat) : Int) := by
  have hx : a ||| b < 2 ^ 62 := Nat.or_lt_two_pow (by omega) (by omega)
  have h1 : (BitVec.ofInt 64 (a : Int)).toNat = a := by
    rw [BitVec.ofInt_natCast, BitVec.toNat_ofNat]; exact Nat.mod_eq_of_lt (by omega)
  have h2 : (BitVec.ofInt 64 (b : Int)).toNat = b := by
    rw [BitVec.ofInt_natCast, BitVec.toNat_ofNat]; exact Nat.mod_eq_of_lt (by omega)
  show IntKind.i64.wrap ((BitVec.ofInt 64 (a : Int) ||| BitVec.ofInt 64 (b : Int)).toNat : Int) = _
  rw [BitVec.toNat_or, h1, h2]
  exact wraps_i64 _ (by omega) (by omega)
theorem or_addN (m c k : Nat) (hc : c < 2 ^ k) (h1 : 2 ^ k * m < 2305843009213693952) (h2 : c < 2305843009213693952) : bits .or .i64 ((2 ^ k * m : Nat) : Int) (c : Int) = ((2 ^ k * m + c : Nat) : Int) := by
  rw [or_i64_nat _ _ (by omega) (by omega), ← Nat.two_pow_add_eq_or_of_lt hc]
theorem or64 (a b : Int) (h0 : 0 ≤ a) (h1 : a < 18014398509481984) (hb0 : 0 ≤ b) (hb : b < 64) : bits .or .i64 (a * 64) b = a * 64 + b := by
  obtain ⟨m, rfl⟩ : ∃ m : Nat, a = m := ⟨a.toNat, by omega⟩
  obtain ⟨c, rfl⟩ : ∃ c : Nat, b = c := ⟨b.toNat, by omega⟩
  have := or_addN m c 6 (by omega) (by omega) (by omega)
  rw [show ((m : Int) * 64) = ((2 ^ 6 * m : Nat) : Int) by omega, this]
  omega
theorem or32 (a b : Int) (h0 : 0 ≤ a) (h1 : a < 36028797018963968) (hb0 : 0 ≤ b) (hb : b < 32) : bits .or .i64 (a * 32) b = a * 32 + b := by
  obtain ⟨m, rfl⟩ : ∃ m : Nat, a = m := ⟨a.toNat, by omega⟩
  obtain ⟨c, rfl⟩ : ∃ c : Nat, b = c := ⟨b.toNat, by omega⟩
  have := or_addN m c 5 (by omega) (by omega) (by omega)
  rw [show ((m : Int) * 32) = ((2 ^ 5 * m : Nat) : Int) by omega, this]
  omega
section
variable {w : World}
set_option maxHeartbeats 400000 in
theorem rank_level (r : Rk) : Calls Try.prog 84 #[rkV r] w fun e w' => e = .returned (.int .i64 r.level) ∧ Below w.heap.size w w' := by
  obtain ⟨o, u, ra⟩ := r
  unfold rkV Rk.level
  go_enter Try.func84, Try.ntmps84
  cases ra
  · go_wp2_with fail
    go_ret
    exact ⟨rfl, (Below.refl _ _).alloc (Nat.le_refl _) _⟩
  · go_wp2_with fail
    go_ret
    exact ⟨rfl, (Below.refl _ _).alloc (Nat.le_refl _) _⟩
set_option maxHeartbeats 800000 in
theorem rank_key (r : Rk) (t : Int) (hr : r.Ok) (ht : 0 ≤ t ∧ t < 24) : Calls Try.prog 81 #[rkV r, .int .i64 t] w fun e w' => e = .returned (.int .i64 (r.key t)) ∧ Below w.heap.size w w' := by
  have HLV := hid (fun W => rank_level (w := W) r)
  obtain ⟨l, hl⟩ : ∃ l, r.level = l := ⟨_, rfl⟩
  have hlb := hr.lev
  rw [hl] at hlb HLV
  have e1 : r.key t = l * 64 + (if r.ra then 0 else 32) + t := by unfold Rk.key; rw [hl]
  rw [e1]
  clear e1
  obtain ⟨o, u, ra⟩ := r
  clear hr hl
  unfold rkV at *
  simp only at HLV ⊢
  have hsh : IntKind.i64.wrap (l * 64) = l * 64 := wraps_i64 _ (by omega) (by omega)
  go_enter Try.func81, Try.ntmps81
  have hb1 := fun (o : Obj) => (Below.refl w.heap.size w).alloc (Nat.le_refl _) o
  cases ra
  · have ho1 : bits .or .i64 (l * 64) 32 = l * 64 + 32 := or64 l 32 (by omega) (by omega) (by omega) (by omega)
    have ho2 : bits .or .i64 (l * 64 + 32) t = l * 64 + 32 + t := by
      rw [show l * 64 + 32 = (l * 2 + 1) * 32 by omega]
      exact or32 _ t (by omega) (by omega) (by omega) (by omega)
    go_wp2_with fail
    refine (HLV.out _).mono ?_
    rintro e w2 ⟨rfl, hb2⟩
    have HB := hid (below_then (hb1 _) hb2)
    clear hb2 hb1
    go_wp2_with fail
    go_ret
    exact ⟨rfl, HB.out⟩
  · have ho1 : bits .or .i64 (l * 64) 0 = l * 64 := by rw [or64 l 0 (by omega) (by omega) (by omega) (by omega)]; omega
    have ho2 : bits .or .i64 (l * 64) t = l * 64 + t := by
      rw [show l * 64 = (l * 2) * 32 by omega]
      exact or32 _ t (by omega) (by omega) (by omega) (by omega)
    go_wp2_with fail
    refine (HLV.out _).mono ?_
    rintro e w2 ⟨rfl, hb2⟩
    have HB := hid (below_then (hb1 _) hb2)
    clear hb2 hb1
    go_wp2_with fail
    go_ret
    exact ⟨ret_eq (by simp), HB.out⟩
def mayB (t l : Int) : Bool := decide (0 ≤ t ∧ t < 24 ∧ 0 ≤ l ∧ l < 9007199254740992)
theorem sh53 {now : Int} : now >>> (53 : Nat) = now / 9007199254740992 := by
  rw [Int.shiftRight_eq_div_pow]
  rfl
set_option maxHeartbeats 800000 in
theorem ready_may (t l : Int) (hl : l ≤ 9223372036854775807) : Calls Try.prog 80 #[.int .i64 t, .int .i64 l] w fun e w' => e = .returned (.bool (mayB t l)) ∧ w' = w := by
  have hsh : l >>> (53 : Nat) = l / 9007199254740992 := sh53
  by_cases h1 : 0 ≤ t
  · by_cases h2 : t < 24
    · by_cases h3 : 0 ≤ l
      · by_cases h4 : l < 9007199254740992
        · rw [show mayB t l = true by unfold mayB; exact decide_eq_true ⟨h1, h2, h3, h4⟩]
          have hq : l / 9007199254740992 = 0 := by omega
          go_enter Try.func80, Try.ntmps80
          go_wp2_with fail
          go_ret
          exact ⟨rfl, rfl⟩
        · rw [show mayB t l = false by unfold mayB; exact decide_eq_false (fun h => h4 h.2.2.2)]
          obtain ⟨q, hq⟩ : ∃ q, l / 9007199254740992 = q := ⟨_, rfl⟩
          have hq0 : (q == 0) = false := beq_eq_false_iff_ne.2 (by omega)
          go_enter Try.func80, Try.ntmps80
          go_wp2_with fail
          go_ret
          exact ⟨rfl, rfl⟩
      · rw [show mayB t l = false by unfold mayB; exact decide_eq_false (fun h => h3 h.2.2.1)]
        go_enter Try.func80, Try.ntmps80
        go_wp2_with fail
        go_ret
        exact ⟨rfl, rfl⟩
    · rw [show mayB t l = false by unfold mayB; exact decide_eq_false (fun h => h2 h.2.1)]
      go_enter Try.func80, Try.ntmps80
      go_wp2_with fail
      go_ret
      exact ⟨rfl, rfl⟩
  · rw [show mayB t l = false by unfold mayB; exact decide_eq_false (fun h => h1 h.1)]
    go_enter Try.func80, Try.ntmps80
    go_wp2_with fail
    go_ret
    exact ⟨rfl, rfl⟩
end
end Go.Proofs.Ytbkjlohlfkokpaa
