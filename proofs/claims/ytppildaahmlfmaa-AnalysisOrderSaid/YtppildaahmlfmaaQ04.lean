/- Joined: Open. -/
import Derived.Test.YtppildaahmlfmaaQ03
import Derived.Deep.Slices
import Derived.Deep.Fields
import Derived.ChangeSame
import Derived.OpenShut
set_option linter.unusedVariables false
set_option linter.unusedSimpArgs false
/- Arguments opened: a slice of things, whatever they hold; structs of cells. It speaks of no program; no condition. -/
set_option linter.unusedVariables false
set_option linter.unusedSimpArgs false
namespace Go.Proofs.Ytppildaahmlfmaa
open Go.ChangeShapes Go.WideShapes Go.Deep Go.RowKit
section
variable {H : Type} {enc : TypeId × Value → H} {P : Program} {w : World} {base : Nat} {spare : Nat → Bool} {held : Bool}
/-- What cells of a type say. -/
def Opens {α : Type} (enc : TypeId × Value → H) (P : Program) (w : World) (base : Nat) (spare : Nat → Bool) (held : Bool) (e : TypeId) (R : Reads α) (Q : α → Prop) : Prop :=
  ∀ fuel cs y, DataW.trod enc P w base spare held fuel e cs = some y → ∃ x, R w cs x ∧ Q x
theorem choose_list {α : Type} {p : Nat → α → Prop} : ∀ (n : Nat), (∀ k, k < n → ∃ x, p k x) → ∃ l : List α, l.length = n ∧ ∀ k x, l[k]? = some x → p k x
  | 0, _ => ⟨[], rfl, fun k x h => by simp at h⟩
  | n + 1, h => by
    obtain ⟨l, hl, hp⟩ := choose_list n (fun k hk => h k (by omega))
    obtain ⟨x, hx⟩ := h n (by omega)
    refine ⟨l ++ [x], by simp [hl], fun k y hk => ?_⟩
    by_cases e : k < n
    · rw [List.getElem?_append_left (by omega)] at hk
      exact hp k y hk
    · rw [List.getElem?_append_right (by omega)] at hk
      obtain ⟨h1, h2⟩ : k - l.length < 1 ∧ x = y := by
        have := (List.getElem?_eq_some_iff.1 hk).1
        simp at this
        refine ⟨by omega, ?_⟩
        rw [show k - l.length = 0 by omega] at hk
        simpa using hk
      subst h2
      rw [show k = n by omega]
      exact hx
theorem rowp_of_slice {α : Type} {R : Reads α} {Q : α → Prop} {t e : TypeId} {sz : Nat} (ht : P.underlying t = some (.slice e)) (hC : P.cellsOf e = sz) (hz : 0 < sz) (hO : Opens enc P w base spare held e R Q)
    {fuel : Nat} {cs : List Value} {x : DataW H × List MemPlace} (h : DataW.trod enc P w base spare held fuel t cs = some x) : ∃ u l, cs = [u] ∧ Rowp sz R w u l ∧ ∀ x ∈ l, Q x := by
  rcases open_slice ht h with ⟨rfl, _⟩ | ⟨a, len, cap, m, n, D, Pl, rfl, hb, hl, hm, hmm, hx, hi⟩
  · exact ⟨_, [], rfl, Rowp.nil _ _ _, fun x hx => by cases hx⟩
  · have hlm : len ≤ m := by rw [hmm]; split <;> omega
    obtain ⟨l, hll, hp⟩ := choose_list (p := fun i x => ∃ cs', w.cells? base (a.add (i * P.cellsOf e)) (P.cellsOf e) = some cs' ∧ R w cs' x ∧ Q x) len (fun i hi' => by
      obtain ⟨cs', hc, ht'⟩ := hi i (by omega)
      obtain ⟨x, h1, h2⟩ := hO _ _ _ ht'
      exact ⟨x, cs', hc, h1, h2⟩)
    refine ⟨_, l, rfl, ⟨some a, cap, by rw [hll], by omega, hm, fun i x hx => ?_⟩, fun x hx => ?_⟩
    · obtain ⟨cs', hc, hr, _⟩ := hp i x hx
      rw [hC] at hc
      obtain ⟨_, hcl, hat⟩ := World.cells?_some hc
      have h0 : ∃ v, cs'[0]? = some v := ⟨_, List.getElem?_eq_getElem (by omega)⟩
      obtain ⟨v0, hv0⟩ := h0
      have ha : ∃ b o, a = ⟨b, o, none⟩ ∧ b < w.heap.size := by
        obtain ⟨cs0, hc0, _⟩ := hp 0 (l[0]'(by have := (List.getElem?_eq_some_iff.1 hx).1; omega)) (List.getElem?_eq_getElem _)
        rw [hC] at hc0
        obtain ⟨_, hcl0, hat0⟩ := World.cells?_some hc0
        have := hat0 0 hz
        rw [Nat.zero_mul, List.getElem?_eq_getElem (show 0 < cs0.length by omega)] at this
        have h2 : (a.add 0).add 0 = a.add 0 := by simp [Addr.add]
        rw [h2] at this
        exact at_zero this
      obtain ⟨b, o, rfl, hlt⟩ := ha
      refine ⟨b, o, cs', rfl, hlt, hcl, fun j c hj => ?_, hr⟩
      have hjl := (List.getElem?_eq_some_iff.1 hj).1
      have := hat j (by omega)
      rw [hj] at this
      rw [← this, Go.WideShapes.add_plain, Go.WideShapes.add_plain]
    · obtain ⟨i, hi⟩ := List.mem_iff_getElem?.1 hx
      obtain ⟨_, _, _, hq⟩ := hp i x hi
      exact hq
/-- A struct of cells: each field's own cell. -/
theorem struct_cells {t : TypeId} {fs : Array Field} (hs : P.underlying t = some (.struct fs)) (hone : oneCellFields P fs = true) (hC : P.cellsOf t = fs.size) {fuel : Nat} {cs : List Value} {x : DataW H × List MemPlace} (h : DataW.trod enc P w base spare held fuel t cs = some x) :
    cs.length = fs.size ∧ ∀ (j : Nat) (f : Field), fs[j]? = some f → ∃ c n y, cs[j]? = some c ∧ DataW.trod enc P w base spare held n f.type [c] = some y := by
  obtain ⟨xs, n, _, _, hlen, hxl, hf⟩ := DataW.trod_struct hs h
  rw [hC] at hlen
  refine ⟨hlen, fun j f hj => ?_⟩
  have hjl := (Array.getElem?_eq_some_iff.1 hj).1
  obtain ⟨ho, hk⟩ := hone_of hone j f hj
  have h1 := hf j f hj
  rw [ho, hk] at h1
  have hone' : (cs.drop j).take 1 = [cs[j]'(by omega)] := by
    rw [List.drop_eq_getElem_cons (by omega)]
    rfl
  rw [hone'] at h1
  obtain ⟨y, hy⟩ : ∃ y, xs[j]? = some y := ⟨_, List.getElem?_eq_getElem (by omega)⟩
  rw [hy] at h1
  exact ⟨_, n, y, List.getElem?_eq_getElem (by omega), h1⟩
theorem opens_int {e : TypeId} (he : P.underlying e = some (.int .i64)) : Opens enc P w base spare held e IntR I64 := fun fuel cs y h => by
  obtain ⟨n, rfl, _, hw⟩ := DataW.trod_int he h
  exact ⟨n, rfl, bounds_i64 hw⟩
/-- One cell that is a whole number. -/
theorem cell_int {e : TypeId} (he : P.underlying e = some (.int .i64)) {n : Nat} {c : Value} {y : DataW H × List MemPlace} (h : DataW.trod enc P w base spare held n e [c] = some y) : ∃ z, c = .int .i64 z ∧ I64 z := by
  obtain ⟨z, hz, _, hw⟩ := DataW.trod_int he h
  injection hz with hz
  exact ⟨z, hz, bounds_i64 hw⟩
theorem cell_bool {e : TypeId} (he : P.underlying e = some .bool) {n : Nat} {c : Value} {y : DataW H × List MemPlace} (h : DataW.trod enc P w base spare held n e [c] = some y) : ∃ z, c = .bool z := by
  obtain ⟨z, hz, _⟩ := DataW.trod_bool he h
  injection hz with hz
  exact ⟨z, hz⟩
theorem opens_row {α : Type} {R : Reads α} {Q : α → Prop} {t e : TypeId} {sz : Nat} (ht : P.underlying t = some (.slice e)) (hC : P.cellsOf e = sz) (hz : 0 < sz) (hO : Opens enc P w base spare held e R Q) :
    Opens enc P w base spare held t (RowR sz R) (fun l => ∀ x ∈ l, Q x) := fun fuel cs y h => by
  obtain ⟨u, l, rfl, hr, hq⟩ := rowp_of_slice ht hC hz hO h
  exact ⟨l, ⟨u, rfl, hr⟩, hq⟩
/-- Three cells. -/
theorem list3 {cs : List Value} (h : cs.length = 3) {a b c : Value} (h0 : cs[0]? = some a) (h1 : cs[1]? = some b) (h2 : cs[2]? = some c) : cs = [a, b, c] := by
  match cs, h with
  | [x, y, z], _ => simp at h0 h1 h2; rw [h0, h1, h2]
theorem list4 {cs : List Value} (h : cs.length = 4) {a b c d : Value} (h0 : cs[0]? = some a) (h1 : cs[1]? = some b) (h2 : cs[2]? = some c) (h3 : cs[3]? = some d) : cs = [a, b, c, d] := by
  match cs, h with
  | [x, y, z, u], _ => simp at h0 h1 h2 h3; rw [h0, h1, h2, h3]
theorem list5 {cs : List Value} (h : cs.length = 5) {a b c d e : Value} (h0 : cs[0]? = some a) (h1 : cs[1]? = some b) (h2 : cs[2]? = some c) (h3 : cs[3]? = some d) (h4 : cs[4]? = some e) : cs = [a, b, c, d, e] := by
  match cs, h with
  | [x, y, z, u, v], _ => simp at h0 h1 h2 h3 h4; rw [h0, h1, h2, h3, h4]
theorem opens_sec {e : TypeId} {f0 f1 f2 : Field} (hs : P.underlying e = some (.struct #[f0, f1, f2])) (hone : oneCellFields P #[f0, f1, f2] = true) (hC : P.cellsOf e = 3)
    (h0 : P.underlying f0.type = some (.int .i64)) (h1 : P.underlying f1.type = some (.int .i64)) (h2 : P.underlying f2.type = some (.int .i64)) :
    Opens enc P w base spare held e secR Sec.Wf := fun fuel cs y h => by
  obtain ⟨hl, hf⟩ := struct_cells hs hone hC h
  obtain ⟨c0, _, _, e0, t0⟩ := hf 0 f0 rfl
  obtain ⟨c1, _, _, e1, t1⟩ := hf 1 f1 rfl
  obtain ⟨c2, _, _, e2, t2⟩ := hf 2 f2 rfl
  obtain ⟨z0, rfl, w0⟩ := cell_int h0 t0
  obtain ⟨z1, rfl, w1⟩ := cell_int h1 t1
  obtain ⟨z2, rfl, w2⟩ := cell_int h2 t2
  exact ⟨⟨z0, z1, z2⟩, list3 hl e0 e1 e2, w0, w1, w2⟩
theorem opens_tsk {e es sl : TypeId} {f0 f1 f2 f3 : Field} (hs : P.underlying e = some (.struct #[f0, f1, f2, f3])) (hone : oneCellFields P #[f0, f1, f2, f3] = true) (hC : P.cellsOf e = 4)
    (h0 : P.underlying f0.type = some (.int .i64)) (h1 : P.underlying f1.type = some (.int .i64)) (h2 : P.underlying f2.type = some (.int .i64))
    (h3 : P.underlying f3.type = some (.slice es)) (hCs : P.cellsOf es = 3) (hO : Opens enc P w base spare held es secR Sec.Wf) :
    Opens enc P w base spare held e tskR Tsk.Wf := fun fuel cs y h => by
  obtain ⟨hl, hf⟩ := struct_cells hs hone hC h
  obtain ⟨c0, _, _, e0, t0⟩ := hf 0 f0 rfl
  obtain ⟨c1, _, _, e1, t1⟩ := hf 1 f1 rfl
  obtain ⟨c2, _, _, e2, t2⟩ := hf 2 f2 rfl
  obtain ⟨c3, _, _, e3, t3⟩ := hf 3 f3 rfl
  obtain ⟨z0, rfl, w0⟩ := cell_int h0 t0
  obtain ⟨z1, rfl, w1⟩ := cell_int h1 t1
  obtain ⟨z2, rfl, w2⟩ := cell_int h2 t2
  obtain ⟨u, l, hu, hr, hq⟩ := rowp_of_slice h3 hCs (by omega) hO t3
  injection hu with hu
  subst hu
  exact ⟨⟨z0, z1, z2, l⟩, ⟨c3, list4 hl e0 e1 e2 e3, hr⟩, w0, w1, w2, hq⟩
theorem opens_pc {e : TypeId} {f0 f1 f2 f3 f4 : Field} (hs : P.underlying e = some (.struct #[f0, f1, f2, f3, f4])) (hone : oneCellFields P #[f0, f1, f2, f3, f4] = true) (hC : P.cellsOf e = 5)
    (h0 : P.underlying f0.type = some (.int .i64)) (h1 : P.underlying f1.type = some (.int .i64)) (h2 : P.underlying f2.type = some (.int .i64)) (h3 : P.underlying f3.type = some (.int .i64)) (h4 : P.underlying f4.type = some .bool) :
    Opens enc P w base spare held e pcR Pc.Wf := fun fuel cs y h => by
  obtain ⟨hl, hf⟩ := struct_cells hs hone hC h
  obtain ⟨c0, _, _, e0, t0⟩ := hf 0 f0 rfl
  obtain ⟨c1, _, _, e1, t1⟩ := hf 1 f1 rfl
  obtain ⟨c2, _, _, e2, t2⟩ := hf 2 f2 rfl
  obtain ⟨c3, _, _, e3, t3⟩ := hf 3 f3 rfl
  obtain ⟨c4, _, _, e4, t4⟩ := hf 4 f4 rfl
  obtain ⟨z0, rfl, w0⟩ := cell_int h0 t0
  obtain ⟨z1, rfl, w1⟩ := cell_int h1 t1
  obtain ⟨z2, rfl, w2⟩ := cell_int h2 t2
  obtain ⟨z3, rfl, w3⟩ := cell_int h3 t3
  obtain ⟨z4, rfl⟩ := cell_bool h4 t4
  exact ⟨⟨z0, z1, z2, z3, z4⟩, list5 hl e0 e1 e2 e3 e4, w0, w1, w2, w3⟩
end
end Go.Proofs.Ytppildaahmlfmaa
