/- Joined: PRightRel. -/
import Derived.Test.YtppildaahmlfmaaQ11
import Derived.Test.YtppildaahmlfmaaQ16
import Derived.Test.YtppildaahmlfmaaQ12
set_option linter.unusedVariables false
set_option linter.unusedSimpArgs false
/- analysis.Right: what holds between two rounds over the parts. -/
set_option linter.unusedVariables false
set_option linter.unusedSimpArgs false
namespace Go.Proofs.Ytppildaahmlfmaa
open Go.RowKit Go.Shelf Go.Maps

/-! The seat's maps -/
theorem Try.zero_bool (w : World) : (zeroValue 4).run Try.prog w = .ok (.bool false) w := by kernel_rfl
theorem Try.laidOut0 : laidOutB Try.prog = true := by kernel_rfl
theorem Try.arr2_pair : PairT Try.prog 83 := pairT_array (e := 3) (of_decide_eq_true (by kernel_rfl)) (by kernel_rfl) Try.underlying83 Try.underlying3 (by kernel_rfl) (by kernel_rfl)
set_option maxRecDepth 100000 in
theorem Try.arr2_law : WideMaps.KeyLaw Try.prog 83 := deep_law_laid Try.laidOut0 (m := 2) (by omega) Try.arr2_pair.row (by kernel_rfl) (by kernel_rfl)
theorem Try.mapHas : MapLaw Try.prog 83 4 pairV pairW eB dB eBoolR false := law_pair_bool Try.arr2_pair (Keyed.of_law Try.arr2_law) Try.zero_bool
theorem Try.mapII : MapLaw Try.prog 3 3 eI kwI eI dI eIntR 0 := law_int_int Try.underlying3 Try.zero_int
theorem Try.mapIB : MapLaw Try.prog 3 4 eI kwI eB dB eBoolR false := law_int_bool Try.underlying3 Try.zero_bool
abbrev MHas (w : World) (b n : Nat) (f : Int × Int → Option Bool) : Prop := MapG Try.prog 83 pairV dB eBoolR false w b n f
abbrev MII (w : World) (b n : Nat) (f : Int → Option Int) : Prop := MapG Try.prog 3 eI dI eIntR 0 w b n f
abbrev MIB (w : World) (b n : Nat) (f : Int → Option Bool) : Prop := MapG Try.prog 3 eI dB eBoolR false w b n f
/-- The world within Right: the system's box, the result's cell. -/
structure PW (w wr : World) (B : Nat) (CS : Array Value) : Prop where
  below : Below w.heap.size w wr
  lo : w.heap.size ≤ B
  b0 : wr.heap[B]? = some (.cells CS 24 (0, 0))
  b1 : wr.heap[B + 1]? = some (.cells #[.bool false] 4 (0, 0))
section
variable {w wr w' : World} {B : Nat} {CS : Array Value}
theorem PW.later (H : PW w wr B CS) (h : Below wr.heap.size wr w') : PW w w' B CS := ⟨below_then H.below h, H.lo, (fr0 h).blk H.b0 (fun h => h), (fr0 h).blk H.b1 (fun h => h)⟩
theorem PW.new (H : PW w wr B CS) (o : Obj) : PW w (wr.alloc o) B CS := H.later (below_new (Below.refl _ _) o)
theorem PW.grown {row : Option Nat} (H : PW w wr B CS) (hg : wr.grownBy w' row) (hr : ∀ r, row = some r → B + 1 < r) : PW w w' B CS :=
  ⟨H.below.grown hg H.below.size (fun k e => by have := hr k e; have := H.lo; omega), H.lo, (hg.block B (blk_lt H.b0) (fun e => by have := hr B e.symm; omega)).trans H.b0, (hg.block (B + 1) (blk_lt H.b1) (fun e => by have := hr (B + 1) e.symm; omega)).trans H.b1⟩
theorem PW.put (H : PW w wr B CS) (b : Bool) : (wr.setCell ⟨B + 1, 0, none⟩ (.bool b)).cell? ⟨B + 1, 0, none⟩ = some (.bool b) ∧ Below w.heap.size w (wr.setCell ⟨B + 1, 0, none⟩ (.bool b)) :=
  ⟨blk_cell (blk_set H.b1 0 (.bool b)) 0, H.below.setCell (p := ⟨B + 1, 0, none⟩) (by have := H.lo; simp; omega) _⟩
theorem PW.putF (H : PW w wr B CS) : PW w (wr.setCell ⟨B + 1, 0, none⟩ (.bool false)) B CS :=
  ⟨H.below.setCell (p := ⟨B + 1, 0, none⟩) (by have := H.lo; simp; omega) _, H.lo, blk_set_ne H.b0 (by omega) _ _, by have := blk_set H.b1 0 (.bool false); simpa using this⟩
end
/-- Between two rounds: boxes and maps. -/
structure RI (w W : World) (B Z : Nat) (CS : Array Value) (n1 n2 n3 : Nat) (f1 : Int × Int → Option Bool) (f2 : Int → Option Int) (f3 : Int → Option Bool) : Prop where
  pw : PW w W B CS
  lo : B + 1 < Z
  x1 : W.heap[Z + 1]? = some (.cells #[.map (some Z)] 77 (0, 0))
  x2 : W.heap[Z + 1 + 1 + 1]? = some (.cells #[.map (some (Z + 1 + 1))] 78 (0, 0))
  x3 : W.heap[Z + 1 + 1 + 1 + 1 + 1]? = some (.cells #[.map (some (Z + 1 + 1 + 1 + 1))] 79 (0, 0))
  m1 : MHas W Z n1 f1
  m2 : MII W (Z + 1 + 1) n2 f2
  m3 : MIB W (Z + 1 + 1 + 1 + 1) n3 f3
section
variable {w W W' : World} {B Z : Nat} {CS : Array Value} {n1 n2 n3 : Nat} {f1 : Int × Int → Option Bool} {f2 : Int → Option Int} {f3 : Int → Option Bool}
theorem blk_grown {W W' : World} {row : Option Nat} {k : Nat} {o : Obj} (h : W.heap[k]? = some o) (hg : W.grownBy W' row) (hr : some k ≠ row) : W'.heap[k]? = some o := (hg.block k (blk_lt h) hr).trans h
theorem RI.grown {row : Option Nat} (H : RI w W B Z CS n1 n2 n3 f1 f2 f3) (hg : W.grownBy W' row) (hr : ∀ r, row = some r → Z + 5 < r) : RI w W' B Z CS n1 n2 n3 f1 f2 f3 :=
  have hne : ∀ k, k ≤ Z + 5 → some k ≠ row := fun k hk e => by have := hr k e.symm; omega
  ⟨H.pw.grown hg (fun r e => by have := hr r e; have := H.lo; omega), H.lo, blk_grown H.x1 hg (hne _ (by omega)), blk_grown H.x2 hg (hne _ (by omega)), blk_grown H.x3 hg (hne _ (by omega)),
    H.m1.grown hg (hne _ (by omega)), H.m2.grown hg (hne _ (by omega)), H.m3.grown hg (hne _ (by omega))⟩
theorem RI.new (H : RI w W B Z CS n1 n2 n3 f1 f2 f3) (o : Obj) : RI w (W.alloc o) B Z CS n1 n2 n3 f1 f2 f3 := H.grown (World.grownBy_alloc W o none) (fun r e => by cases e)
theorem grownBy_drew (W : World) : W.grownBy W.drew none := ⟨rfl, rfl, rfl, Nat.le_refl _, fun _ _ _ => rfl⟩
theorem RI.drew (H : RI w W B Z CS n1 n2 n3 f1 f2 f3) : RI w W.drew B Z CS n1 n2 n3 f1 f2 f3 := H.grown (grownBy_drew W) (fun r e => by cases e)
theorem RI.x1c (H : RI w W B Z CS n1 n2 n3 f1 f2 f3) : W.cell? ⟨Z + 1, 0, none⟩ = some (.map (some Z)) := blk_cell H.x1 0
theorem RI.x2c (H : RI w W B Z CS n1 n2 n3 f1 f2 f3) : W.cell? ⟨Z + 1 + 1 + 1, 0, none⟩ = some (.map (some (Z + 1 + 1))) := blk_cell H.x2 0
theorem RI.x3c (H : RI w W B Z CS n1 n2 n3 f1 f2 f3) : W.cell? ⟨Z + 1 + 1 + 1 + 1 + 1, 0, none⟩ = some (.map (some (Z + 1 + 1 + 1 + 1))) := blk_cell H.x3 0
/-- The three stores. -/
theorem RI.st1 (H : RI w W B Z CS n1 n2 n3 f1 f2 f3) (hn : n1 < maxLen) {q : Int × Int} (hq : pairW q) :
    ∃ W', (Instr.mapUpdate 77 (.map (some Z)) (pairV q) (.bool true)).run Try.prog W = .ok () W' ∧ RI w W' B Z CS (n1 + 1) n2 n3 (fun z => if z = q then some true else f1 z) f2 f3 ∧ W.grownBy W' (some Z) := by
  obtain ⟨W', hr, hm, hg⟩ := Try.mapHas.store Try.underlying77 H.m1 hn hq true
  have hne : ∀ k, k ≠ Z → some k ≠ some Z := fun k h e => h (by injection e)
  exact ⟨W', hr, ⟨H.pw.grown hg (fun r e => by cases e; exact H.lo), H.lo, blk_grown H.x1 hg (hne _ (by omega)), blk_grown H.x2 hg (hne _ (by omega)), blk_grown H.x3 hg (hne _ (by omega)), hm, H.m2.grown hg (hne _ (by omega)), H.m3.grown hg (hne _ (by omega))⟩, hg⟩
theorem RI.st2 (H : RI w W B Z CS n1 n2 n3 f1 f2 f3) (hn : n2 < maxLen) {c : Int} (hc : kwI c) (v : Int) :
    ∃ W', (Instr.mapUpdate 78 (.map (some (Z + 1 + 1))) (.int .i64 c) (.int .i64 v)).run Try.prog W = .ok () W' ∧ RI w W' B Z CS n1 (n2 + 1) n3 f1 (fun z => if z = c then some v else f2 z) f3 ∧ W.grownBy W' (some (Z + 1 + 1)) := by
  obtain ⟨W', hr, hm, hg⟩ := Try.mapII.store Try.underlying78 H.m2 hn hc v
  have hne : ∀ k, k ≠ Z + 1 + 1 → some k ≠ some (Z + 1 + 1) := fun k h e => h (by injection e)
  exact ⟨W', hr, ⟨H.pw.grown hg (fun r e => by cases e; have := H.lo; omega), H.lo, blk_grown H.x1 hg (hne _ (by omega)), blk_grown H.x2 hg (hne _ (by omega)), blk_grown H.x3 hg (hne _ (by omega)), H.m1.grown hg (hne _ (by omega)), hm, H.m3.grown hg (hne _ (by omega))⟩, hg⟩
theorem RI.st3 (H : RI w W B Z CS n1 n2 n3 f1 f2 f3) (hn : n3 < maxLen) {c : Int} (hc : kwI c) (v : Bool) :
    ∃ W', (Instr.mapUpdate 79 (.map (some (Z + 1 + 1 + 1 + 1))) (.int .i64 c) (.bool v)).run Try.prog W = .ok () W' ∧ RI w W' B Z CS n1 n2 (n3 + 1) f1 f2 (fun z => if z = c then some v else f3 z) ∧ W.grownBy W' (some (Z + 1 + 1 + 1 + 1)) := by
  obtain ⟨W', hr, hm, hg⟩ := Try.mapIB.store Try.underlying79 H.m3 hn hc v
  have hne : ∀ k, k ≠ Z + 1 + 1 + 1 + 1 → some k ≠ some (Z + 1 + 1 + 1 + 1) := fun k h e => h (by injection e)
  exact ⟨W', hr, ⟨H.pw.grown hg (fun r e => by cases e; have := H.lo; omega), H.lo, blk_grown H.x1 hg (hne _ (by omega)), blk_grown H.x2 hg (hne _ (by omega)), blk_grown H.x3 hg (hne _ (by omega)), H.m1.grown hg (hne _ (by omega)), H.m2.grown hg (hne _ (by omega)), hm⟩, hg⟩
theorem RI.lk1 (H : RI w W B Z CS n1 n2 n3 f1 f2 f3) {q : Int × Int} (hq : pairW q) : (Instr.lookup 77 (.map (some Z)) (pairV q) false).run Try.prog W = .ok (.bool ((f1 q).getD false)) W := Try.mapHas.look Try.underlying77 H.m1 hq
theorem RI.lk2 (H : RI w W B Z CS n1 n2 n3 f1 f2 f3) {c : Int} (hc : kwI c) : (Instr.lookup 78 (.map (some (Z + 1 + 1))) (.int .i64 c) false).run Try.prog W = .ok (.int .i64 ((f2 c).getD 0)) W := Try.mapII.look Try.underlying78 H.m2 hc
theorem RI.lk3 (H : RI w W B Z CS n1 n2 n3 f1 f2 f3) {c : Int} (hc : kwI c) : (Instr.lookup 79 (.map (some (Z + 1 + 1 + 1 + 1))) (.int .i64 c) false).run Try.prog W = .ok (.bool ((f3 c).getD false)) W := Try.mapIB.look Try.underlying79 H.m3 hc
theorem RI.congr {n1' n2' n3' : Nat} {g1 : Int × Int → Option Bool} {g2 : Int → Option Int} {g3 : Int → Option Bool} (H : RI w W B Z CS n1 n2 n3 f1 f2 f3) (h1 : n1 ≤ n1') (h2 : n2 ≤ n2') (h3 : n3 ≤ n3') (e1 : ∀ t, f1 t = g1 t) (e2 : ∀ t, f2 t = g2 t) (e3 : ∀ t, f3 t = g3 t) : RI w W B Z CS n1' n2' n3' g1 g2 g3 :=
  ⟨H.pw, H.lo, H.x1, H.x2, H.x3, (H.m1.mono h1).congr e1, (H.m2.mono h2).congr e2, (H.m3.mono h3).congr e3⟩
theorem PW.fr {wr w' : World} {T : Nat → Prop} (H : PW w wr B CS) (hF : Fr T wr w') (hn : ∀ k, T k → B + 1 < k) : PW w w' B CS :=
  ⟨((Fr.of_below (S := NoB) H.below).trans hF (fun x hx => .inr (by have := hn x hx; have := H.lo; omega))).no, H.lo, hF.blk H.b0 (fun h => by have := hn _ h; omega), hF.blk H.b1 (fun h => by have := hn _ h; omega)⟩
theorem RI.fr {T : Nat → Prop} (H : RI w W B Z CS n1 n2 n3 f1 f2 f3) (hF : Fr T W W') (hn : ∀ k, T k → Z + 5 < k) : RI w W' B Z CS n1 n2 n3 f1 f2 f3 :=
  have hne : ∀ k, k ≤ Z + 5 → ¬ T k := fun k hk h => by have := hn k h; omega
  ⟨H.pw.fr hF (fun k h => by have := hn k h; have := H.lo; omega), H.lo, hF.blk H.x1 (hne _ (by omega)), hF.blk H.x2 (hne _ (by omega)), hF.blk H.x3 (hne _ (by omega)), H.m1.kept hF (hne _ (by omega)), H.m2.kept hF (hne _ (by omega)), H.m3.kept hF (hne _ (by omega))⟩
/-- A block beside them. -/
theorem RI.start (hp : PW w W B CS) (hZ : W.heap.size = Z) (o : Obj) :
    RI w (((((((W.alloc (.map #[] 0)).alloc (.cells #[.map (some Z)] 77)).alloc (.map #[] 0)).alloc (.cells #[.map (some (Z + 1 + 1))] 78)).alloc (.map #[] 0)).alloc (.cells #[.map (some (Z + 1 + 1 + 1 + 1))] 79)).alloc o) B Z CS 0 0 0 (fun _ => none) (fun _ => none) (fun _ => none) := by
  subst hZ
  have hB := blk_lt hp.b1
  refine ⟨(((((((hp.new _).new _).new _).new _).new _).new _).new _), hB, ?_, ?_, ?_, ?_, ?_, ?_⟩
  · have := blk_new (W.alloc (.map #[] 0)) (.cells #[.map (some W.heap.size)] 77)
    simp only [World.size_alloc] at this
    exact blk_old (blk_old (blk_old (blk_old (blk_old this _) _) _) _) _
  · have := blk_new (((W.alloc (.map #[] 0)).alloc (.cells #[.map (some W.heap.size)] 77)).alloc (.map #[] 0)) (.cells #[.map (some (W.heap.size + 1 + 1))] 78)
    simp only [World.size_alloc] at this
    exact blk_old (blk_old (blk_old this _) _) _
  · have := blk_new (((((W.alloc (.map #[] 0)).alloc (.cells #[.map (some W.heap.size)] 77)).alloc (.map #[] 0)).alloc (.cells #[.map (some (W.heap.size + 1 + 1))] 78)).alloc (.map #[] 0)) (.cells #[.map (some (W.heap.size + 1 + 1 + 1 + 1))] 79)
    simp only [World.size_alloc] at this
    exact blk_old this _
  · have hm : MHas (W.alloc (.map #[] 0)) W.heap.size 0 (fun _ => none) := MapG.made W
    exact ((((((hm.grown (World.grownBy_alloc _ _ none) (by simp)).grown (World.grownBy_alloc _ _ none) (by simp)).grown (World.grownBy_alloc _ _ none) (by simp)).grown (World.grownBy_alloc _ _ none) (by simp)).grown (World.grownBy_alloc _ _ none) (by simp)).grown (World.grownBy_alloc _ _ none) (by simp))
  · have hm : MII (((W.alloc (.map #[] 0)).alloc (.cells #[.map (some W.heap.size)] 77)).alloc (.map #[] 0)) ((W.alloc (.map #[] 0)).alloc (.cells #[.map (some W.heap.size)] 77)).heap.size 0 (fun _ => none) := MapG.made _
    simp only [World.size_alloc] at hm
    exact ((((hm.grown (World.grownBy_alloc _ _ none) (by simp)).grown (World.grownBy_alloc _ _ none) (by simp)).grown (World.grownBy_alloc _ _ none) (by simp)).grown (World.grownBy_alloc _ _ none) (by simp))
  · have hm : MIB (((((W.alloc (.map #[] 0)).alloc (.cells #[.map (some W.heap.size)] 77)).alloc (.map #[] 0)).alloc (.cells #[.map (some (W.heap.size + 1 + 1))] 78)).alloc (.map #[] 0)) ((((W.alloc (.map #[] 0)).alloc (.cells #[.map (some W.heap.size)] 77)).alloc (.map #[] 0)).alloc (.cells #[.map (some (W.heap.size + 1 + 1))] 78)).heap.size 0 (fun _ => none) := MapG.made _
    simp only [World.size_alloc] at hm
    exact ((hm.grown (World.grownBy_alloc _ _ none) (by simp)).grown (World.grownBy_alloc _ _ none) (by simp))
end
/-- What holds when some parts have come. -/
abbrev RIL (w W : World) (B Z : Nat) (CS : Array Value) (S : Sy) (l : List Pt) : Prop := RI w W B Z CS l.length l.length l.length (hasF l) (tightF l) (usersF S l)
def valsOf {P : Pl} (pre : List (PtOf P)) : List Pt := pre.map (·.1)
theorem vals_prefix {P : Pl} {pre : List (PtOf P)} (h : pre <+: ptL P) : valsOf pre <+: partsOf P := by
  have h2 := h.map (fun x : PtOf P => x.1)
  unfold ptL at h2
  rwa [List.attach_map_subtype_val] at h2
theorem vals_all (P : Pl) : valsOf (ptL P) = partsOf P := by
  unfold valsOf ptL
  rw [List.attach_map_subtype_val]
theorem vals_snoc {P : Pl} (pre : List (PtOf P)) (x : PtOf P) : valsOf (pre ++ [x]) = valsOf pre ++ [x.1] := by simp [valsOf]
theorem vals_length {P : Pl} (pre : List (PtOf P)) : (valsOf pre).length = pre.length := by simp [valsOf]
end Go.Proofs.Ytppildaahmlfmaa
