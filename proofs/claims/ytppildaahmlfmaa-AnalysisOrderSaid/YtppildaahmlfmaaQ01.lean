/- Joined: Deed. -/
import Derived.Test.YtppildaahmlfmaaQ00
import Derived.Deep.Slices
import Derived.Deep.Fields
import Derived.OpenShut
set_option linter.unusedVariables false
set_option linter.unusedSimpArgs false
/- A slice of structs of whole numbers that came in: opened at every index. -/
set_option linter.unusedVariables false
set_option linter.unusedSimpArgs false
namespace Go.Proofs.Ytppildaahmlfmaa
open Go.ChangeShapes Go.WideShapes Go.Deep Go.RowKit
theorem at_zero {w : World} {a : Addr} {v : Value} (h : w.cell? (a.add 0) = some v) : ∃ b o, a = ⟨b, o, none⟩ ∧ b < w.heap.size := by
  have h' : w.cell? a = some v := by simpa [Addr.add] using h
  obtain ⟨b, o, s⟩ := a
  have hs := World.cell?_spot h'
  simp at hs
  subst hs
  refine ⟨b, o, rfl, ?_⟩
  unfold World.cell? at h'
  split at h'
  · rename_i hb
    exact (Array.getElem?_eq_some_iff.1 hb).1
  · simp at h'

/-- every field is a whole number of kind i64 -/
def intFields (P : Program) (fs : Array Field) : Bool := fs.toList.all fun f => match P.underlying f.type with
  | some (.int .i64) => true
  | _ => false

theorem intFields_at {P : Program} {fs : Array Field} (h : intFields P fs = true) {j : Nat} {f : Field} (hj : fs[j]? = some f) : P.underlying f.type = some (.int .i64) := by
  have hm : f ∈ fs.toList := by
    rw [← Array.getElem?_toList] at hj
    exact List.mem_of_getElem? hj
  have := List.all_eq_true.1 h f hm
  split at this <;> simp_all

theorem rows_of_slice {H : Type} {enc : TypeId × Value → H} {P : Program} {w : World} {base : Nat} {spare : Nat → Bool} {held : Bool} {t e : TypeId} {fs : Array Field} {fuel : Nat} {A : Option Addr} {len cap : Nat} {x : DataW H × List MemPlace}
    (ht : P.underlying t = some (.slice e)) (he : P.underlying e = some (.struct fs)) (hone : oneCellFields P fs = true) (hint : intFields P fs = true) (hpos : 0 < fs.size) (hC : P.cellsOf e = fs.size)
    (h : DataW.trod enc P w base spare held fuel t [.slice A len cap] = some x) :
    len ≤ maxLen ∧ ∃ Z, IntRows w A len fs.size Z := by
  rcases open_slice ht h with ⟨hcs, _⟩ | ⟨a, l, c, m, n, D, Pl, hcs, hb, hl, hm, hmm, hx, hi⟩
  · simp at hcs
    obtain ⟨rfl, rfl, rfl⟩ := hcs
    exact ⟨Nat.zero_le _, fun _ _ => 0, fun k hk => absurd hk (Nat.not_lt_zero k)⟩
  · simp at hcs
    obtain ⟨rfl, rfl, rfl⟩ := hcs
    refine ⟨Nat.le_trans hl hm, ?_⟩
    have hlm : len ≤ m := by rw [hmm]; split <;> omega
    have key : ∀ k, k < len → ∃ z : Nat → Int, ∀ j, j < fs.size → w.cell? (a.add (k * fs.size + j)) = some (.int .i64 (z j)) ∧ (Lit.int .i64 (z j)).wf = true := by
      intro k hk
      obtain ⟨cs', hc, ht'⟩ := hi k (by omega)
      rw [hC] at hc
      obtain ⟨xs, n', _, _, hlen, hxl, hf⟩ := DataW.trod_struct he ht'
      obtain ⟨_, hcl, hat⟩ := World.cells?_some hc
      refine choose_lt (p := fun j z => w.cell? (a.add (k * fs.size + j)) = some (.int .i64 z) ∧ (Lit.int .i64 z).wf = true) fun j hj => ?_
      have hfj : fs[j]? = some fs[j] := Array.getElem?_eq_getElem hj
      obtain ⟨ho, hk1⟩ := hone_of hone j _ hfj
      have h1 := hf j _ hfj
      rw [ho, hk1, take1_drop cs' j default (by omega)] at h1
      obtain ⟨y, hy⟩ : ∃ y, xs[j]? = some y := ⟨_, List.getElem?_eq_getElem (by omega)⟩
      rw [hy] at h1
      obtain ⟨z, hz, _, hwf⟩ := DataW.trod_int (intFields_at hint hfj) h1
      refine ⟨z, ?_, hwf⟩
      have hcell := hat j hj
      rw [← Go.Deep.add_add, hcell, List.getElem?_eq_getElem (show j < cs'.length by omega)]
      simp [List.getD, List.getElem?_eq_getElem (show j < cs'.length by omega)] at hz
      rw [hz]
    obtain ⟨Z, hZ⟩ := choose_lt key
    refine ⟨Z, fun k hk => ?_⟩
    have h0 := (hZ 0 (by omega) 0 hpos).1
    rw [show 0 * fs.size + 0 = 0 by simp] at h0
    obtain ⟨b, o, rfl, hlt⟩ := at_zero h0
    refine ⟨b, o, rfl, hlt, fun j hj => ?_⟩
    · obtain ⟨g1, g2⟩ := hZ k hk j hj
      have := bounds_i64 g2
      refine ⟨?_, this.1, this.2⟩
      rw [Go.WideShapes.add_plain] at g1
      simpa [Nat.add_assoc] using g1
/-- A slice of whole numbers that came in: number k is z k. -/
def Ints (w : World) (A : Option Addr) (len : Nat) (z : Nat → Int) : Prop :=
  ∀ k, k < len → ∃ b o, A = some ⟨b, o, none⟩ ∧ b < w.heap.size ∧ w.cell? ⟨b, o + k, none⟩ = some (.int .i64 (z k)) ∧ -9223372036854775808 ≤ z k ∧ z k ≤ 9223372036854775807

theorem ints_of_slice {H : Type} {enc : TypeId × Value → H} {P : Program} {w : World} {base : Nat} {spare : Nat → Bool} {held : Bool} {t e : TypeId} {fuel : Nat} {A : Option Addr} {len cap : Nat} {x : DataW H × List MemPlace}
    (ht : P.underlying t = some (.slice e)) (he : P.underlying e = some (.int .i64)) (hC : P.cellsOf e = 1) (h : DataW.trod enc P w base spare held fuel t [.slice A len cap] = some x) :
    len ≤ maxLen ∧ ∃ z, Ints w A len z := by
  rcases open_ints ht he hC h with ⟨hcs, _⟩ | ⟨a, l, c, zs, hcs, _, hl, hm, hz, _, hcell, hwz⟩
  · simp at hcs
    obtain ⟨rfl, rfl, rfl⟩ := hcs
    exact ⟨Nat.zero_le _, fun _ => 0, fun k hk => absurd hk (Nat.not_lt_zero k)⟩
  · simp at hcs
    obtain ⟨rfl, rfl, rfl⟩ := hcs
    refine ⟨Nat.le_trans hl hm, fun k => zs.getD k 0, fun k hk => ?_⟩
    have hlz : len ≤ zs.length := by rw [hz]; split <;> omega
    have h0 := hcell k (by omega)
    obtain ⟨b, o, rfl, hlt⟩ := at_zero (hcell 0 (by omega))
    have hb := bounds_i64 (hwz (zs.getD k 0) (by simp [List.getD, List.getElem?_eq_getElem (show k < zs.length by omega)]))
    exact ⟨b, o, rfl, hlt, by rw [Go.WideShapes.add_plain] at h0; exact h0, hb.1, hb.2⟩
end Go.Proofs.Ytppildaahmlfmaa
