/- Joined: PGrid, Rank17, CeilG, PRank, PRank2, PCeil, TabEq, Tab. -/
import Derived.Test.YtmhochjpdedlgaaQ31
import Derived.Test.YtmhochjpdedlgaaQ32
import Derived.BigRegion
import Derived.Test.YtmhochjpdedlgaaQ35
import Derived.Deep.RegionLaw
import Derived.Deep.CutBlock
import Derived.Deep.DeepCutAuto
set_option linter.unusedVariables false
set_option linter.unusedSimpArgs false
/- A list of lists of pieces that a call has made, as functions of the index: rows that no other one shares. -/
set_option linter.unusedVariables false
set_option linter.unusedSimpArgs false
namespace Go.Proofs.Ytmhochjpdedlgaa
open Go.RowKit

theorem make_plan (n : Nat) (hn : n ≤ 256) (w : World) : (Instr.makeSlice 48 (.int .i64 (n : Int)) (.int .i64 (n : Int))).run Try.prog w = .ok (.slice (some ⟨w.heap.size, 0, none⟩) n n) (w.alloc (.cells (List.replicate n (.slice none 0 0)).toArray 52)) := by
  obtain ⟨i0, hi, hz0, hz1, hz2⟩ := info_parts Try.info_pieces
  have := run_make (P := Try.prog) (w := w) 48 52 i0 _ Try.underlying48 hi hz0 .i64 .i64 n n (by omega) (by omega) (by rw [hz2]; omega) (by omega)
  rw [hz1, show (Value.slice none 0 0).cells = #[Value.slice none 0 0] by simp [Value.cells], Nat.mul_one, made_one] at this
  simpa using this
def rV (V : Nat → Value) (n : Nat) : List Value := (List.range n).map V
theorem rV_get (V : Nat → Value) {n i : Nat} (h : i < n) : (rV V n)[i]? = some (V i) := by simp [rV, h]
structure GR (w : World) (base g n cap : Nat) (V : Nat → Value) (Q : Nat → List Pc) : Prop where
  out : w.ownsRow base 52 1 (.slice (some ⟨g, 0, none⟩) n cap) n (rV V n)
  rows : ∀ i, i < n → w.ownsRow base 62 5 (V i) (Q i).length (flat encPc (Q i))
  apart : ∀ i, i < n → (V i).ownBlock ≠ some g
  dist : ∀ i j k, i < n → j < n → i ≠ j → (V i).ownBlock = some k → (V j).ownBlock ≠ some k
def GRSet (g n : Nat) (V : Nat → Value) (k : Nat) : Prop := k = g ∨ ∃ i, i < n ∧ (V i).ownBlock = some k
section
variable {w w' : World} {base g n cap : Nat} {V : Nat → Value} {Q : Nat → List Pc} {i k : Nat}
theorem GR.made (w : World) (n : Nat) (hn : n ≤ 256) : GR (w.alloc (.cells (List.replicate n (.slice none 0 0)).toArray 52)) w.heap.size w.heap.size n n (fun _ => .slice none 0 0) (fun _ => []) := by
  have hr : rV (fun _ => Value.slice none 0 0) n = List.replicate n (.slice none 0 0) := by
    apply List.ext_getElem?
    intro i
    by_cases h : i < n <;> simp [rV, h]
  refine ⟨?_, fun i hi => World.ownsRow_nil _ _ _ _, (fun i hi e => by cases e), (fun i j k _ _ _ e => by cases e)⟩
  rw [hr]
  exact ⟨by simp, .inr ⟨w.heap.size, n, _, rfl, Nat.le_refl _, blk_new _ _, Nat.le_refl _, by unfold maxLen; omega, by simp, by simp⟩⟩
theorem GR.lt (h : GR w base g n cap V Q) : ∀ k, GRSet g n V k → base ≤ k ∧ k < w.heap.size := by
  intro k hk
  rcases hk with rfl | ⟨i, hi, hk⟩
  · exact h.out.lt k rfl
  · exact (h.rows i hi).lt k hk
theorem GR.kept {S : Nat → Prop} (h : GR w base g n cap V Q) (k : Fr S w w') (hn : ∀ j, GRSet g n V j → ¬ S j) : GR w' base g n cap V Q :=
  ⟨own_kept h.out k (fun j hj => hn j (.inl (by cases hj; rfl))), fun i hi => own_kept (h.rows i hi) k (fun j hj => hn j (.inr ⟨i, hi, hj⟩)), h.apart, h.dist⟩
theorem GR.later (h : GR w base g n cap V Q) (k : Below w.heap.size w w') : GR w' base g n cap V Q := h.kept (fr0 k) (fun _ _ h => h)
theorem GR.cell (h : GR w base g n cap V Q) (hi : i < n) : w.cell? ⟨g, i, none⟩ = some (V i) := own_cell0 h.out (rV_get V hi)
theorem GR.free (h : GR w base g n cap V Q) (i : Nat) : w.frozen? ⟨g, i, none⟩ = false := own_free h.out i
theorem GR.congr {Q' : Nat → List Pc} (h : GR w base g n cap V Q) (e : ∀ i, i < n → Q' i = Q i) : GR w base g n cap V Q' := ⟨h.out, fun i hi => by rw [e i hi]; exact h.rows i hi, h.apart, h.dist⟩
theorem GR.mono {base' : Nat} (h : GR w base g n cap V Q) (hb : base' ≤ base) : GR w base' g n cap V Q := ⟨own_mono h.out hb, fun i hi => own_mono (h.rows i hi) hb, h.apart, h.dist⟩
/-- A new row is put at its place. -/
theorem GR.store (h : GR w base g n cap V Q) (hi : i < n) {v : Value} {q : List Pc} (hv : w.ownsRow base 62 5 v q.length (flat encPc q)) (hd : ∀ k, v.ownBlock = some k → ¬ GRSet g n V k) :
    GR (w.setCell ⟨g, i, none⟩ v) base g n cap (fun j => if j = i then v else V j) (fun j => if j = i then q else Q j) := by
  have h1 := own_set h.out i v (by omega)
  have e : (rV V n).set i v = rV (fun j => if j = i then v else V j) n := by
    apply List.ext_getElem?
    intro j
    rw [List.getElem?_set]
    by_cases hj : j < n
    · by_cases e : i = j
      · subst e; simp [rV, hj]
      · rw [if_neg e, rV_get V hj, rV_get _ hj, if_neg (fun x => e x.symm)]
    · have h2 : (rV V n)[j]? = none := List.getElem?_eq_none (by simp [rV]; omega)
      have h3 : (rV (fun j => if j = i then v else V j) n)[j]? = none := List.getElem?_eq_none (by simp [rV]; omega)
      rw [h2, h3, if_neg (by omega)]
  rw [e] at h1
  refine ⟨h1, fun j hj => ?_, fun j hj => ?_, fun a b k ha hb hne hk => ?_⟩
  · by_cases e : j = i
    · simp only [if_pos e]
      exact own_set_ne hv (fun b hb e => hd b hb (.inl e)) i v
    · simp only [if_neg e]
      exact own_set_ne (h.rows j hj) (fun b hb e => by subst e; exact h.apart j hj hb) i v
  · by_cases e : j = i
    · simp only [if_pos e]
      exact fun hg => hd g hg (.inl rfl)
    · simp only [if_neg e]
      exact h.apart j hj
  · by_cases ea : a = i
    · have eb : ¬ b = i := fun e => hne (ea.trans e.symm)
      simp only [if_pos ea] at hk
      simp only [if_neg eb]
      exact fun hb2 => hd k hk (.inr ⟨b, hb, hb2⟩)
    · simp only [if_neg ea] at hk
      by_cases eb : b = i
      · simp only [if_pos eb]
        exact fun hv2 => hd k hv2 (.inr ⟨a, ha, hk⟩)
      · simp only [if_neg eb]
        exact h.dist a b k ha hb hne hk
/-- Where a row lies that is not empty. -/
theorem GR.row (h : GR w base g n cap V Q) (hi : i < n) (hk : 0 < (Q i).length) : ∃ b c, V i = .slice (some ⟨b, 0, none⟩) (Q i).length c ∧ (Q i).length ≤ c ∧ c ≤ maxLen := by
  obtain ⟨b, c, cur, hv, _, _, h1, h2, _⟩ := own_shape (h.rows i hi) hk
  exact ⟨b, c, hv, h1, h2⟩
/-- A piece's priority is put. -/
theorem GR.prio (h : GR w base g n cap V Q) (hi : i < n) {p : Pc} (hk : (Q i)[k]? = some p) {b m c : Nat} (hV : V i = .slice (some ⟨b, 0, none⟩) m c) (x : Int) :
    GR (w.setCell ⟨b, k * 5 + 3, none⟩ (.int .i64 x)) base g n cap V (fun j => if j = i then (Q i).set k ⟨p.core, p.bud, p.dl, x, p.tight⟩ else Q j) := by
  have hkl := (List.getElem?_eq_some_iff.1 hk).1
  have hr := h.rows i hi
  rw [hV] at hr
  obtain ⟨b', c', hv', _⟩ := h.row hi (by omega)
  rw [hV] at hv'
  injection hv' with _ e2 _
  subst e2
  have h1 := own_set hr (k * 5 + 3) (.int .i64 x) (by omega)
  rw [flat_set encPc_len (Q i) k 3 p ⟨p.core, p.bud, p.dl, x, p.tight⟩ (.int .i64 x) hk (by decide) rfl] at h1
  have hbg : b ≠ g := fun e => h.apart i hi (by rw [hV, e]; rfl)
  refine ⟨own_set_ne h.out (fun j hj => by cases hj; exact hbg.symm) _ _, fun j hj => ?_, h.apart, h.dist⟩
  by_cases e : j = i
  · subst e
    simp only [if_true]
    rw [List.length_set, hV]
    exact h1
  · simp only [if_neg e]
    exact own_set_ne (h.rows j hj) (fun b2 hb2 e2 => by subst e2; exact h.dist i j b2 hi hj (fun x => e x.symm) (by rw [hV]; rfl) hb2) _ _
theorem GR.pcell (h : GR w base g n cap V Q) (hi : i < n) {p : Pc} (hk : (Q i)[k]? = some p) {b m c : Nat} (hV : V i = .slice (some ⟨b, 0, none⟩) m c) : w.cell? ⟨b, k * 5 + 3, none⟩ = some (.int .i64 p.prio) ∧ w.frozen? ⟨b, k * 5 + 3, none⟩ = false := by
  have hr := h.rows i hi
  rw [hV] at hr
  have hkl := (List.getElem?_eq_some_iff.1 hk).1
  obtain ⟨b', c', hv', _⟩ := h.row hi (by omega)
  rw [hV] at hv'
  injection hv' with _ e2 _
  subst e2
  obtain ⟨g', e3, hc⟩ := row_cell encPc_len hr hk (j := 3) (u := .int .i64 p.prio) rfl
  injection e3 with e3
  injection e3 with e3
  subst e3
  exact ⟨hc, own_free hr _⟩
/-- It is a plan. -/
theorem GR.plan (h : GR w base g n cap V Q) : Rowp 1 (RowR 5 pcR) w (.slice (some ⟨g, 0, none⟩) n cap) ((List.range n).map Q) := by
  have hfl : flat (fun x : Nat => [V x]) (List.range n) = rV V n := by
    unfold rV flat
    generalize List.range n = l
    induction l with
    | nil => rfl
    | cons a l ih => rw [List.flatMap_cons, ih, List.map_cons]; rfl
  have h1 : Rowp 1 (fun w cs (x : Nat) => cs = [V x] ∧ Rowp 5 pcR w (V x) (Q x)) w (.slice (some ⟨g, 0, none⟩) n cap) (List.range n) :=
    Rowp.of_own (base := base) (e := 52) (n := n) (enc := fun x => [V x]) (fun x => rfl) (by rw [hfl]; exact h.out) (by simp) (by decide) (fun x hx => ⟨rfl, Rowp.of_own encPc_len (h.rows x (by simpa using hx)) rfl (by decide) (fun p _ => rfl)⟩)
  exact h1.mono (R' := RowR 5 pcR) (f := Q) (fun cs x _ hr => ⟨V x, hr.1, hr.2⟩)
end
end Go.Proofs.Ytmhochjpdedlgaa
/- analysis.Rank (contract): the pieces with the priorities that the document says, in rows of the call's own. -/
set_option linter.unusedVariables false
set_option linter.unusedSimpArgs false
namespace Go.Proofs.Ytmhochjpdedlgaa
open Go.RowKit Go.Sort

def zrow (j : Nat) (pl : List Pc) : List Pc := pl.mapIdx fun x p => if x < j then zeroP p else p
section
variable {j : Nat} {pl : List Pc} {p : Pc}
theorem zrow_len (j : Nat) (pl : List Pc) : (zrow j pl).length = pl.length := by simp [zrow]
theorem zrow_zero (pl : List Pc) : zrow 0 pl = pl := by
  apply List.ext_getElem?
  intro i
  simp [zrow]
theorem zrow_get (h : pl[j]? = some p) : (zrow j pl)[j]? = some p := by unfold zrow; rw [List.getElem?_mapIdx, h]; simp
theorem zrow_set (h : pl[j]? = some p) : (zrow j pl).set j ⟨p.core, p.bud, p.dl, 0, p.tight⟩ = zrow (j + 1) pl := by
  have hj := (List.getElem?_eq_some_iff.1 h).1
  apply List.ext_getElem?
  intro i
  by_cases e : j = i
  · subst e
    rw [List.getElem?_set_self (by rw [zrow_len]; exact hj)]
    unfold zrow
    rw [List.getElem?_mapIdx, h]
    simp [zeroP]
  · rw [List.getElem?_set_ne e]
    unfold zrow
    rw [List.getElem?_mapIdx, List.getElem?_mapIdx]
    cases pl[i]? with
    | none => rfl
    | some q =>
      show some (if i < j then zeroP q else q) = some (if i < j + 1 then zeroP q else q)
      by_cases h1 : i < j
      · rw [if_pos h1, if_pos (by omega)]
      · rw [if_neg h1, if_neg (by omega)]
theorem zrow_all (pl : List Pc) : zrow pl.length pl = pl.map zeroP := by
  apply List.ext_getElem?
  intro i
  unfold zrow
  rw [List.getElem?_mapIdx, List.getElem?_map]
  cases h : pl[i]? with
  | none => rfl
  | some q =>
    have := (List.getElem?_eq_some_iff.1 h).1
    show some (if i < pl.length then zeroP q else q) = some (zeroP q)
    rw [if_pos this]
end
/-- The rows while they are copied: those below k are done, row k is at j. -/
def copyQ (P : Pl) (k : Nat) (i : Nat) : List Pc := if i < k then ((P[i]?).getD []).map zeroP else []
def copyQ2 (P : Pl) (k j : Nat) (i : Nat) : List Pc := if i = k then zrow j ((P[k]?).getD []) else copyQ P k i
theorem copyQ2_end (P : Pl) (k : Nat) (i : Nat) : copyQ2 P k ((P[k]?).getD []).length i = copyQ P (k + 1) i := by
  unfold copyQ2 copyQ
  by_cases e : i = k
  · subst e
    rw [if_pos rfl, zrow_all, if_pos (by omega)]
  · rw [if_neg e]
    by_cases h : i < k
    · rw [if_pos h, if_pos (by omega)]
    · rw [if_neg h, if_neg (by omega)]
/-- Rows that are ranked, piece by piece. -/
def rowsC (S : Sy) (P : Pl) (c : Int) : Nat → List Pc := rowsD S P fun y => decide (y.p.core < c)
theorem rowsC_zero {S : Sy} {P : Pl} (h : ∀ x ∈ partsOf P, 0 ≤ x.p.core) {n : Nat} (hn : n = P.length) (i : Nat) (hi : i < n) : rowsC S P 0 i = copyQ P n i := by
  have hl : P[i]? = some P[i] := List.getElem?_eq_getElem (by omega)
  unfold copyQ rowsC
  rw [if_pos hi, hl]
  show _ = P[i].map zeroP
  rw [← rowsD_none (S := S) hl]
  refine rowsD_congr (fun k p l hl2 hk hne => ?_)
  exfalso
  apply hne
  have := h ⟨p, i, k⟩ (mem_parts.2 ⟨l, hl2, hk⟩)
  exact decide_eq_false (by simp only at this ⊢; omega)
theorem rowsC_all {S : Sy} {P : Pl} {c : Int} (h : ∀ x ∈ partsOf P, x.p.core < c) (i : Nat) (l : List Pc) (hl : P[i]? = some l) : rowsC S P c i = rankRow S (partsOf P) i l :=
  rowsD_all (fun x hx => decide_eq_true (h x hx)) hl
section
variable {w : World}
/-- The world within Rank: the system's box B; what is made lies behind Z. -/
structure RKZ (w wr : World) (B Z : Nat) (C : Array Value) : Prop where
  below : Below w.heap.size w wr
  b0 : wr.heap[B]? = some (.cells C 24 (0, 0))
  lo : w.heap.size ≤ Z
  bz : B < Z
  sz : Z ≤ wr.heap.size
theorem RKZ.fr {w wr w' : World} {B Z : Nat} {C : Array Value} {T : Nat → Prop} (H : RKZ w wr B Z C) (hF : Fr T wr w') (hn : ∀ k, T k → Z ≤ k) : RKZ w w' B Z C :=
  ⟨((Fr.of_below (S := NoB) H.below).trans hF (fun x hx => .inr (by have := hn x hx; have := H.lo; omega))).no, hF.blk H.b0 (fun h => by have := hn _ h; have := H.bz; omega), H.lo, H.bz, Nat.le_trans H.sz hF.size⟩
theorem RKZ.later {w wr w' : World} {B Z : Nat} {C : Array Value} (H : RKZ w wr B Z C) (h : Below wr.heap.size wr w') : RKZ w w' B Z C := H.fr (fr0 h) (fun _ h => h.elim)
set_option maxRecDepth 100000 in
set_option maxHeartbeats 6400000 in
theorem rank_any (S : Sy) (A0 : Option Addr) (n0 c0 : Nat) (A : Option Addr) (n cap : Nat) (P : Pl) (hs : IsSys w (.slice A0 n0 c0) S) (hp : IsPlan w (.slice A n cap) P) :
    Calls Try.prog 20 #[sysV S (.slice A0 n0 c0), .slice A n cap] w fun e w' =>
      (planB S P = false ∧ e = .returned (.tuple #[.slice none 0 0, .int .i64 1]) ∧ Below w.heap.size w w') ∨
      (planB S P = true ∧ ∃ g V, e = .returned (.tuple #[.slice (some ⟨g, 0, none⟩) n n, .int .i64 0]) ∧ GR w' w.heap.size g n n V (rowsC S P S.cores) ∧ Below w.heap.size w w') := by
  have hn := hp.rows.len
  have HP := hid hp
  have HN := hid hn
  have hnm : n ≤ 9223372036854775807 := by have := hp.rows.room; unfold maxLen at this; omega
  have HVR := hid (fun W (h : Below w.heap.size w W) => pright_any (w := W) S A0 n0 c0 A n cap P (hs.later h) (hp.later h))
  obtain ⟨CS, hCS⟩ : ∃ C, C = sysC S (.slice A0 n0 c0) := ⟨_, rfl⟩
  have HCS := hid hCS
  obtain ⟨rb, hrb⟩ : ∃ r, planB S P = r := ⟨_, rfl⟩
  have HRB := hid hrb
  rw [hrb] at HVR ⊢
  unfold sysV at *
  clear hs hp hn hCS hrb
  go_enter Try.func20, Try.ntmps20
  go_wp2_with fail
  refine (HVR.out _ (below_new (Below.refl _ _) _)).mono ?_
  rintro e w1 ⟨rfl, hb1⟩
  have q0 : w1.heap[w.heap.size]? = some (.cells (sysC S (.slice A0 n0 c0)) 24 (0, 0)) := (fr0 hb1).blk (blk_new w _) (fun h => h)
  have hbw := below_then (below_new (Below.refl _ _) _) hb1
  rw [← HCS.out] at q0
  obtain ⟨B, hB⟩ : ∃ B, w.heap.size = B := ⟨_, rfl⟩
  obtain ⟨Z, hZ⟩ : ∃ Z, w1.heap.size = Z := ⟨_, rfl⟩
  have HRK := hid (show RKZ w w1 w.heap.size w1.heap.size CS from ⟨hbw, q0, hbw.size, blk_lt q0, Nat.le_refl _⟩)
  rw [hB] at HRK ⊢
  rw [hZ] at HRK
  have HBW := hid hB
  have HZW := hid hZ
  clear q0 hbw hb1 hB hZ
  cases rb
  case false =>
    go_wp2_with fail
    go_ret2
    first | exact .inl ⟨rfl, rfl, HRK.out.below⟩ | exact ⟨rfl, HRK.out.below⟩
  case true =>
    have HOK := hid (planB_ok HRB.out)
    have hn24 : n ≤ 24 := by have h1 := HOK.out.len; have h2 := HOK.out.sys.len; have := HN.out; omega
    have HPO := hid (show ∀ l ∈ P, l.length ≤ 8 ∧ ∀ p ∈ l, 0 ≤ p.core ∧ p.core < S.cores from fun l hl => by
      obtain ⟨i, hi⟩ := List.mem_iff_getElem?.1 hl
      have hi2 := (List.getElem?_eq_some_iff.1 hi).1
      have ok := HOK.out
      have h1 := ok.len
      have ht : S.tasks[i]? = some (S.tasks[i]'(by omega)) := List.getElem?_eq_getElem _
      have := listOk_pcs ok.sys (ok.sys.tasks _ (List.mem_of_getElem? ht)) (ok.lists i _ l ht hi)
      exact ⟨this.1, fun p hp => ⟨(this.2 p hp).c0, (this.2 p hp).c1⟩⟩)
    have HMK := hid (fun W => make_plan n (by omega) W)
    go_upto_region 3 with fail
    have hmk := HMK.out w1
    go_upto_region 4 with fail
    clear hmk
    have HG0 := hid (GR.made w1 n (by omega))
    have HR0 := hid (HRK.out.later (below_new (Below.refl w1.heap.size w1) (.cells (List.replicate n (.slice none 0 0)).toArray 52)))
    rw [HZW.out] at HG0 ⊢
    rw [show (List.replicate n (Value.slice none 0 0)).toArray = Array.replicate n (Value.slice none 0 0) by simp] at HG0 HR0
    generalize w1.alloc (.cells (Array.replicate n (.slice none 0 0)) 52) = w2 at HG0 HR0 ⊢
    clear HMK
    go_wp2_with fail
    go_loopw [23] (fun v wr => ∃ (k : Nat) (V : Nat → Value), k ≤ n ∧ v = .int .i64 k ∧ Hid (GR wr Z Z n n V (copyQ P k)) ∧ Hid (RKZ w wr B Z CS)) (fun v _ => n - (intOf v).toNat)
    case atStart => exact ⟨0, _, by omega, rfl, hid (HG0.out.congr (fun i hi => by unfold copyQ; rw [if_neg (by omega)])), HR0⟩
    case round =>
      obtain ⟨k, V, hk, rfl, HG, HR⟩ := hrel
      by_cases hlt : k < n
      case pos =>
        obtain ⟨pl, hpl⟩ : ∃ pl, P[k]? = some pl := ⟨_, List.getElem?_eq_getElem (by have := HN.out; omega)⟩
        obtain ⟨b2, o2, cs2, hA2, hbl2, _, hc2, ul, hv1, hv2⟩ := HP.out.rows.at hpl
        subst hA2
        subst hv1
        obtain ⟨A3, c3, hv3, hv4⟩ := hv2.shape
        obtain ⟨m3, hm3⟩ : ∃ m, m = pl.length := ⟨_, rfl⟩
        rw [← hm3] at hv3 hv4
        subst hv3
        have hm8 : m3 ≤ 8 := by rw [hm3]; exact (HPO.out pl (List.mem_of_getElem? hpl)).1
        have HY := hid hpl
        have HM3 := hid hm3
        have HCL := hid (clone_any (w := wr) pl A3 m3 c3 (hv2.later pcR.stays HR.out.below) (by omega))
        have d0 : wr.cell? ⟨b2, o2 + k, none⟩ = some (.slice A3 m3 c3) := (HR.out.below.cell (p := ⟨b2, o2 + k, none⟩) hbl2).trans (by simpa using hc2 0 _ rfl)
        clear hpl hm3 hv2 hv4 hc2 hbl2
        go_wp2_with fail
        refine HCL.out.mono ?_
        rintro e w3 ⟨v', rfl, ho, hb3⟩
        have HG3 := hid (HG.out.later hb3)
        have HR3 := hid (HR.out.later hb3)
        obtain ⟨A4, c4, rfl⟩ := own_slice ho
        have HS := hid (HG3.out.store hlt (v := .slice A4 m3 c4) (q := pl) (by rw [← HM3.out]; exact own_mono ho HR.out.sz) (fun b hb hg => by
          have h1 := (ho.lt b hb).1
          have h2 := (HG.out.lt b hg).2
          omega))
        have HRS := hid (HR3.out.fr ((Fr.refl (One Z) w3).one k (.slice A4 m3 c4)) (fun b hb => by cases hb; exact Nat.le_refl _))
        have c0 := HG3.out.cell hlt
        have f0 := HG3.out.free k
        clear d0 ho hb3
        go_upto_region 8 with fail
        clear c0 f0
        obtain ⟨V2, hV2⟩ : ∃ V2, V2 = fun j => if j = k then Value.slice A4 m3 c4 else V j := ⟨_, rfl⟩
        rw [← hV2] at HS
        have hVk : V2 k = .slice A4 m3 c4 := by rw [hV2]; simp
        clear hV2
        generalize w3.setCell ⟨Z, k, none⟩ (.slice A4 m3 c4) = w4 at HS HRS ⊢
        have c0 : w4.cell? ⟨Z, k, none⟩ = some (.slice A4 m3 c4) := by rw [← hVk]; exact HS.out.cell hlt
        have HVK := hid hVk
        clear hVk
        go_wp2_with fail
        clear c0
        go_loopw [38] (fun v wr => ∃ j : Nat, j ≤ m3 ∧ v = .int .i64 j ∧ Hid (GR wr Z Z n n V2 (copyQ2 P k j)) ∧ Hid (RKZ w wr B Z CS)) (fun v _ => m3 - (intOf v).toNat)
        case atStart => exact ⟨0, by omega, rfl, hid (HS.out.congr (fun i hi => by unfold copyQ2; by_cases e : i = k <;> simp [e, zrow_zero, HY.out])), HRS⟩
        case round =>
          obtain ⟨j, hj, rfl, HGj, HRj⟩ := hrel
          by_cases hjm : j < m3
          case pos =>
            obtain ⟨q, hq⟩ : ∃ q, pl[j]? = some q := ⟨_, List.getElem?_eq_getElem (by have := HM3.out; omega)⟩
            have hQk : copyQ2 P k j k = zrow j pl := by unfold copyQ2; rw [if_pos rfl, HY.out]; rfl
            obtain ⟨b5, c5, hV5, _⟩ := HGj.out.row hlt (by rw [hQk, zrow_len]; have := HM3.out; omega)
            rw [HVK.out] at hV5
            injection hV5 with e1 _ e3
            subst e1
            have hzg : (copyQ2 P k j k)[j]? = some q := by rw [hQk]; exact zrow_get hq
            have HG5 := hid (HGj.out.prio hlt hzg HVK.out 0)
            obtain ⟨pc, pf⟩ := HGj.out.pcell hlt hzg HVK.out
            have HE5 := hid (show ∀ i, i < n → copyQ2 P k (j + 1) i = (if i = k then (copyQ2 P k j k).set j ⟨q.core, q.bud, q.dl, 0, q.tight⟩ else copyQ2 P k j i) from fun i hi => by
              by_cases e : i = k
              · subst e
                rw [if_pos rfl, hQk, zrow_set hq]
                unfold copyQ2
                rw [if_pos rfl, HY.out]
                rfl
              · rw [if_neg e]
                unfold copyQ2
                rw [if_neg e, if_neg e])
            have HR5 := hid (HRj.out.fr ((Fr.refl (One b5) wr).one (j * 5 + 3) (.int .i64 0)) (fun b hb => by cases hb; exact (HGj.out.lt b5 (.inr ⟨k, hlt, by rw [HVK.out]; rfl⟩)).1))
            have c0 : wr.cell? ⟨Z, k, none⟩ = some (.slice (some ⟨b5, 0, none⟩) m3 c4) := by rw [← HVK.out]; exact HGj.out.cell hlt
            clear hq hQk hzg
            go_wp2_with fail
            go_roundw
            case rel => exact ⟨j + 1, by omega, by go_num, hid (HG5.out.congr HE5.out), HR5⟩
            case measure => simp [intOf]; omega
          case neg =>
            obtain rfl : j = m3 := by omega
            have HGE := hid (HGj.out.congr (Q' := copyQ P (k + 1)) (fun i hi => by
              have := copyQ2_end P k i
              rw [HY.out] at this
              rw [← this]
              have e : (Option.getD (some pl) []).length = j := HM3.out.symm
              rw [e]))
            go_wp2_with fail
            go_roundw
            case rel => exact ⟨k + 1, V2, by omega, by go_num, HGE, HRj⟩
            case measure => simp [intOf]; omega
      case neg =>
        obtain rfl : k = n := by omega
        have hcs := HOK.out.sys.cores
        have hpc0 : ∀ x ∈ partsOf P, 0 ≤ x.p.core ∧ x.p.core < S.cores := fun x hx => by
          obtain ⟨l, hl, hk2⟩ := mem_parts.1 hx
          exact (HPO.out l (List.mem_of_getElem? hl)).2 _ (List.mem_of_getElem? hk2)
        have HPC := hid hpc0
        have HGC := hid (HG.out.congr (Q' := rowsC S P ((0 : Nat) : Int)) (fun i hi => rowsC_zero (fun x hx => (hpc0 x hx).1) HN.out i hi))
        obtain ⟨nc, hnc⟩ : ∃ nc : Nat, S.cores = nc := ⟨S.cores.toNat, by omega⟩
        have HNC := hid hnc
        have hncb : nc ≤ 8 := by omega
        have c0 : wr.cell? ⟨B, 0, none⟩ = some (.int .i64 nc) := (blk_cell HR.out.b0 0).trans (by rw [HCS.out, ← hnc]; rfl)
        have HLN := hid (show (partsOf P).length < 1000000 from by
          have h1 := parts_len_le (fun l hl => (HPO.out l hl).1)
          have := HN.out
          omega)
        clear hpc0 hcs hnc
        go_wp2_with fail
        clear c0
        obtain ⟨ws, hws⟩ : ∃ ws, ws = wr := ⟨_, rfl⟩
        subst hws
        go_loopw [52] (fun v wr => ∃ c : Nat, v = .int .i64 c ∧ c ≤ nc ∧ Hid (GR wr Z Z k k V (rowsC S P c)) ∧ Hid (RKZ w wr B Z CS)) (fun v _ => nc - (intOf v).toNat)
        case atStart => exact ⟨0, rfl, by omega, HGC, HR⟩
        case round =>
          obtain ⟨c, rfl, hc, HGc, HRc⟩ := hrel
          by_cases hcl : c < nc
          case pos =>
            have HON := hid (on_any (w := wr) P A k cap (HP.out.later HRc.out.below) c HLN.out)
            go_wp2_with fail
            refine HON.out.mono ?_
            rintro e w3 ⟨u, rfl, hou, hb3⟩
            have HOU := hid hou
            have HR3 := hid (HRc.out.later hb3)
            have HG3 := hid (HGc.out.later hb3)
            have HLO := hid (fun b (hb : GRSet Z k V b) => (HGc.out.lt b hb).2)
            have HUB := hid (fun b (hb : u.ownBlock = some b) => (hou.lt b hb).1)
            have HDF := hid (delfunc_all (w := w3) (onP P c) u (onP P c).length B S.policy hou rfl (blk_lt HR3.out.b0) (fun b hb e => by have := (hou.lt b hb).1; have := blk_lt HRc.out.b0; omega) ((blk_cell HR3.out.b0 1).trans (by rw [HCS.out]; rfl)))
            have hol : (onP P c).length ≤ 24 := by have := on_len HOK.out.dist c; have := HN.out; omega
            obtain ⟨A5, c5, rfl⟩ := own_slice hou
            clear hou hb3
            go_wp2_with fail
            refine HDF.out.mono ?_
            rintro e w4 ⟨v', rfl, hov, hf4, hvb⟩
            have HR4 := hid (HR3.out.fr hf4 (fun b hb => by have := HUB.out b hb; have := HRc.out.sz; omega))
            have HG4 := hid (HG3.out.kept hf4 (fun b hb hu => by have := HUB.out b hu; have := HLO.out b hb; omega))
            have HKE := hid (keep_rising HOK.out.dist S.policy c)
            have hkl : (keepL S.policy (onP P c)).length ≤ 24 := Nat.le_trans (keepL_len _ _) hol
            have HST := hid (sort_all (w := w4) (keepL S.policy (onP P c)) v' _ hov rfl (by omega) HKE.out)
            have HVB := hid (fun b (hb : v'.ownBlock = some b) => HUB.out b (by rw [← hvb]; exact hb))
            obtain ⟨A6, c6, rfl⟩ := own_slice hov
            clear hov hf4 hvb
            go_wp2_with fail
            refine HST.out.mono ?_
            rintro e w5 ⟨rfl, l', hol', hll, hmem, hsrt, hf5⟩
            have HR5 := hid (HR4.out.fr hf5 (fun b hb => by have := HVB.out b hb; have := HRc.out.sz; omega))
            have HG5 := hid (HG4.out.kept hf5 (fun b hb hu => by have := HVB.out b hu; have := HLO.out b hb; omega))
            have HOL := hid hol'
            have HMEM := hid hmem
            have HSRT := hid hsrt
            obtain ⟨m, hm⟩ : ∃ m, (keepL S.policy (onP P c)).length = m := ⟨_, rfl⟩
            rw [hm] at hkl hll HOL ⊢
            have HLL := hid hll
            obtain ⟨D0, hD0⟩ : ∃ D, wr.heap.size = D := ⟨_, rfl⟩
            rw [hD0] at HLO HVB HOL
            clear hol' hmem hsrt hf5 hm hll hD0 hol
            go_wp2_with fail
            obtain ⟨ws2, hws2⟩ : ∃ ws, ws = wr := ⟨_, rfl⟩
            subst hws2
            go_loopw [64] (fun v wr => ∃ j : Nat, j ≤ m ∧ v = .int .i64 j ∧ Hid (GR wr Z Z k k V (rowsD S P (doneD c l' j))) ∧ Hid (wr.ownsRow D0 107 7 (.slice A6 m c6) m (flat encPt l')) ∧ Hid (RKZ w wr B Z CS)) (fun v _ => m - (intOf v).toNat)
            case atStart => exact ⟨0, by omega, rfl, hid (by rw [doneD_start]; exact HG5.out), HOL, HR5⟩
            case round =>
              obtain ⟨j, hj, rfl, HGj, HOj, HRj⟩ := hrel
              by_cases hjm : j < m
              case pos =>
                obtain ⟨x, hx⟩ : ∃ x, l'[j]? = some x := ⟨_, List.getElem?_eq_getElem (by have := HLL.out; omega)⟩
                have HIX := hid (idx_rank HOK.out HMEM.out HSRT.out hx)
                have HDS := hid (doneD_succ (c := c) hx)
                have HXP := hid (mem_parts.1 (mem_keep.1 ((HMEM.out x).1 (List.mem_of_getElem? hx))).1)
                have hcell : ∃ gl, A6 = some ⟨gl, 0, none⟩ ∧ D0 ≤ gl ∧ ∀ (t : Nat) (u : Value), (encPt x)[t]? = some u → wr.cell? ⟨gl, j * 7 + t, none⟩ = some u := by
                  obtain ⟨gl, cl, cur, hv, hbg, _⟩ := own_shape HOj.out (by omega)
                  injection hv with e1 _ _
                  refine ⟨gl, e1, hbg, fun t u ht => ?_⟩
                  obtain ⟨g', e2, hc2⟩ := row_cell encPt_len HOj.out hx ht
                  rw [e1] at e2
                  injection e2 with e2
                  injection e2 with e2
                  subst e2
                  exact hc2
                obtain ⟨gl, rfl, hgl, hcell⟩ := hcell
                obtain ⟨⟨pc, pb, pd, pp, ti⟩, tk, kk⟩ := x
                obtain ⟨l0, hl0, hk0⟩ := HXP.out
                simp only at hl0 hk0
                have hkn : tk < k := by have := (List.getElem?_eq_some_iff.1 hl0).1; have := HN.out; omega
                have hkk : kk < 8 := by have := (List.getElem?_eq_some_iff.1 hk0).1; have := (HPO.out l0 (List.mem_of_getElem? hl0)).1; omega
                unfold encPt at hcell
                simp only at hcell
                have e0 : wr.cell? ⟨gl, j * 7, none⟩ = some (.int .i64 pc) := by have := hcell 0 (.int .i64 pc) rfl; simpa using this
                have e1 : wr.cell? ⟨gl, j * 7 + 1, none⟩ = some (.int .i64 pb) := by have := hcell 1 (.int .i64 pb) rfl; simpa using this
                have e2 : wr.cell? ⟨gl, j * 7 + 2, none⟩ = some (.int .i64 pd) := by have := hcell 2 (.int .i64 pd) rfl; simpa using this
                have e3 : wr.cell? ⟨gl, j * 7 + 3, none⟩ = some (.int .i64 pp) := by have := hcell 3 (.int .i64 pp) rfl; simpa using this
                have e4 : wr.cell? ⟨gl, j * 7 + 4, none⟩ = some (.bool ti) := by have := hcell 4 (.bool ti) rfl; simpa using this
                have e5 : wr.cell? ⟨gl, j * 7 + 5, none⟩ = some (.int .i64 tk) := by have := hcell 5 (.int .i64 tk) rfl; simpa using this
                have e6 : wr.cell? ⟨gl, j * 7 + 6, none⟩ = some (.int .i64 kk) := by have := hcell 6 (.int .i64 kk) rfl; simpa using this
                clear hx hcell
                go_upto_region 22 with fail
                obtain ⟨D, hD⟩ : ∃ D, D = wr.heap.size := ⟨_, rfl⟩
                rw [← hD]
                generalize hw3 : wr.alloc (.cells #[.int .i64 pc, .int .i64 pb, .int .i64 pd, .int .i64 pp, .bool ti, .int .i64 tk, .int .i64 kk] 107) = w6
                have hbel : Below wr.heap.size wr w6 := by rw [← hw3]; exact below_new (Below.refl _ _) _
                have hblk : w6.heap[D]? = some (.cells #[.int .i64 pc, .int .i64 pb, .int .i64 pd, .int .i64 pp, .bool ti, .int .i64 tk, .int .i64 kk] 107 (0, 0)) := by rw [← hw3, hD]; exact blk_new _ _
                have HG6 := hid (HGj.out.later hbel)
                have HR6 := hid (HRj.out.later hbel)
                have HO6 := hid (own_kept HOj.out (fr0 hbel) (fun _ _ h => h))
                clear hw3 hD hbel e0 e1 e2 e3 e4 e5 e6
                -- the row of the task
                have hQg := rowsD_get (S := S) (D := doneD c l' j) hl0 hk0
                have hQl := rowsD_len (S := S) (D := doneD c l' j) hl0
                obtain ⟨b5, c7, hV5, hm5, hm6⟩ := HG6.out.row hkn (by rw [hQl]; have := (List.getElem?_eq_some_iff.1 hk0).1; omega)
                rw [hQl] at hV5 hm5
                obtain ⟨m5, hm5e⟩ : ∃ m5, l0.length = m5 := ⟨_, rfl⟩
                rw [hm5e] at hV5 hm5
                have hk5 : kk < m5 := by rw [← hm5e]; exact (List.getElem?_eq_some_iff.1 hk0).1
                obtain ⟨pf0, pf1⟩ := HG6.out.pcell hkn hQg hV5
                have HGZ := hid (HG6.out.prio hkn hQg hV5 (1 + (j : Int)))
                have HE := hid (show ∀ i, i < k → rowsD S P (doneD c l' (j + 1)) i = (if i = tk then (rowsD S P (doneD c l' j) tk).set kk ⟨(if doneD c l' j ⟨⟨pc, pb, pd, pp, ti⟩, tk, kk⟩ = true then rankOne S (partsOf P) tk ⟨pc, pb, pd, pp, ti⟩ else zeroP ⟨pc, pb, pd, pp, ti⟩).core, (if doneD c l' j ⟨⟨pc, pb, pd, pp, ti⟩, tk, kk⟩ = true then rankOne S (partsOf P) tk ⟨pc, pb, pd, pp, ti⟩ else zeroP ⟨pc, pb, pd, pp, ti⟩).bud, (if doneD c l' j ⟨⟨pc, pb, pd, pp, ti⟩, tk, kk⟩ = true then rankOne S (partsOf P) tk ⟨pc, pb, pd, pp, ti⟩ else zeroP ⟨pc, pb, pd, pp, ti⟩).dl, 1 + (j : Int), (if doneD c l' j ⟨⟨pc, pb, pd, pp, ti⟩, tk, kk⟩ = true then rankOne S (partsOf P) tk ⟨pc, pb, pd, pp, ti⟩ else zeroP ⟨pc, pb, pd, pp, ti⟩).tight⟩ else rowsD S P (doneD c l' j) i) from fun i hi => by
                  rw [HDS.out]
                  by_cases e : i = tk
                  · subst e
                    rw [if_pos rfl, ← rowsD_set hl0 hk0]
                    have hI := HIX.out
                    simp only at hI
                    rw [hI]
                    congr 1
                    split <;> rfl
                  · rw [if_neg e]
                    exact rowsD_other e)
                have HTB := hid ((HGj.out.lt b5 (.inr ⟨tk, hkn, by rw [hV5]; rfl⟩)).1)
                have HTC := hid (HLO.out b5 (.inr ⟨tk, hkn, by rw [hV5]; rfl⟩))
                obtain ⟨wz, hwz⟩ : ∃ wz : World, wz = (w6.setCell ⟨b5, kk * 5 + 3, none⟩ (.int .i64 (1 + (j : Int)))).drew := ⟨_, rfl⟩
                have HWZ := hid hwz
                have HGF := hid (show GR wz Z Z k k V (rowsD S P (doneD c l' (j + 1))) from by rw [hwz]; exact (HGZ.out.congr HE.out).kept (S := NoB) ((Fr.refl _ _).drew) (fun _ _ h => h))
                have hfz := ((Fr.refl (One b5) w6).one (kk * 5 + 3) (.int .i64 (1 + (j : Int)))).drew
                rw [← hwz] at hfz
                have HRF := hid (HR6.out.fr hfz (fun b hb => by cases hb; exact HTB.out))
                have HOF := hid (own_kept HO6.out hfz (fun b hb e => by have h1 := HTC.out; have h2 : some gl = some b := hb; injection h2 with h2; have h3 : b = b5 := e; omega))
                have f5 : w6.cell? ⟨D, 5, none⟩ = some (.int .i64 tk) := blk_cell hblk 5
                have f6 : w6.cell? ⟨D, 6, none⟩ = some (.int .i64 kk) := blk_cell hblk 6
                have v0 : w6.cell? ⟨Z, tk, none⟩ = some (.slice (some ⟨b5, 0, none⟩) m5 c7) := by rw [← hV5]; exact HG6.out.cell hkn
                have f5d : w6.drew.cell? ⟨D, 5, none⟩ = some (.int .i64 tk) := f5
                have f6d : w6.drew.cell? ⟨D, 6, none⟩ = some (.int .i64 kk) := f6
                have v0d : w6.drew.cell? ⟨Z, tk, none⟩ = some (.slice (some ⟨b5, 0, none⟩) m5 c7) := v0
                have pf0d : w6.drew.cell? ⟨b5, kk * 5 + 3, none⟩ = some (.int .i64 _) := pf0
                have pf1d : w6.drew.frozen? ⟨b5, kk * 5 + 3, none⟩ = false := pf1
                clear hblk hQg hQl hV5 hm5 hm6 hm5e hwz hfz hl0 hk0
                go_region
                rw [← HWZ.out]
                clear f5 f6 v0 f5d f6d v0d pf0 pf1 pf0d pf1d HWZ
                go_wp2_with fail
                go_roundw
                case rel => exact ⟨j + 1, by omega, by go_num, HGF, HOF, HRF⟩
                case measure => simp [intOf]; omega
              case neg =>
                obtain rfl : j = m := by omega
                have HGE := hid (HGj.out.congr (Q' := rowsC S P ((c + 1 : Nat) : Int)) (fun i hi => by
                  have := doneD_end (S := S) (P := P) (c := (c : Int)) HMEM.out i
                  rw [HLL.out] at this
                  rw [this]
                  unfold rowsC
                  congr 1))
                go_wp2_with fail
                go_roundw
                case rel => exact ⟨c + 1, by go_num, by omega, HGE, HRj⟩
                case measure => simp [intOf]; omega
          case neg =>
            obtain rfl : c = nc := by omega
            have hend := HGc.out.mono HRc.out.lo
            rw [← HNC.out] at hend
            have HEND := hid hend
            clear hend
            go_wp2_with fail
            go_ret2
            first | exact .inr ⟨rfl, Z, V, rfl, HEND.out, HRc.out.below⟩ | exact ⟨Z, V, rfl, HEND.out, HRc.out.below⟩ | exact ⟨Z, rfl, ⟨V, HEND.out⟩, HRc.out.below⟩
end
end Go.Proofs.Ytmhochjpdedlgaa
/- A list of lists of whole numbers that a call has made, rows as functions; the record of analysis.rank. -/
set_option linter.unusedVariables false
set_option linter.unusedSimpArgs false
namespace Go.Proofs.Ytmhochjpdedlgaa
open Go.RowKit

def cV (X : Nat → Nat) (rn c : Nat) : List Value := (List.range c).map fun i => .slice (some ⟨X i, 0, none⟩) rn rn
theorem cV_get (X : Nat → Nat) (rn : Nat) {c i : Nat} (h : i < c) : (cV X rn c)[i]? = some (.slice (some ⟨X i, 0, none⟩) rn rn) := by simp [cV, h]
structure CT (w : World) (base : Nat) (u : Value) (c : Nat) (X : Nat → Nat) (rn : Nat) (f : Nat → Nat → Int) : Prop where
  out : w.ownsRow base 39 1 u c (cV X rn c)
  rows : ∀ i, i < c → Tally w (X i) rn (f i)
  lo : ∀ i, i < c → base ≤ X i
  apart : ∀ i, i < c → u.ownBlock ≠ some (X i)
  dist : ∀ i j, i < c → j < c → i ≠ j → X i ≠ X j
def CTSet (u : Value) (c : Nat) (X : Nat → Nat) (k : Nat) : Prop := u.ownBlock = some k ∨ ∃ i, i < c ∧ X i = k
section
variable {w w' : World} {base c rn : Nat} {u u' : Value} {X : Nat → Nat} {f f' : Nat → Nat → Int} {i : Nat}
theorem CT.nil (w : World) (base rn : Nat) : CT w base (.slice none 0 0) 0 (fun _ => 0) rn f := ⟨World.ownsRow_nil _ _ _ _, fun i h => by omega, fun i h => by omega, fun i h => by omega, fun i j h => by omega⟩
theorem CT.lt (h : CT w base u c X rn f) : ∀ k, CTSet u c X k → base ≤ k ∧ k < w.heap.size := by
  intro k hk
  rcases hk with hk | ⟨i, hi, rfl⟩
  · exact h.out.lt k hk
  · exact ⟨h.lo i hi, (h.rows i hi).lt⟩
theorem CT.kept {S : Nat → Prop} (h : CT w base u c X rn f) (k : Fr S w w') (hn : ∀ j, CTSet u c X j → ¬ S j) : CT w' base u c X rn f :=
  ⟨own_kept h.out k (fun j hj => hn j (.inl hj)), fun i hi => (h.rows i hi).kept (fun o ho => k.blk ho (hn _ (.inr ⟨i, hi, rfl⟩))), h.lo, h.apart, h.dist⟩
theorem CT.later (h : CT w base u c X rn f) (k : Below w.heap.size w w') : CT w' base u c X rn f := h.kept (fr0 k) (fun _ _ h => h)
theorem CT.congr (h : CT w base u c X rn f) (e : ∀ i, i < c → ∀ j, j < rn → f' i j = f i j) : CT w base u c X rn f' := ⟨h.out, fun i hi => (h.rows i hi).congr (e i hi), h.lo, h.apart, h.dist⟩
theorem CT.mono {base' : Nat} (h : CT w base u c X rn f) (hb : base' ≤ base) : CT w base' u c X rn f := ⟨own_mono h.out hb, h.rows, fun i hi => Nat.le_trans hb (h.lo i hi), h.apart, h.dist⟩
/-- One more row, whose block is x. -/
theorem CT.snoc (h : CT w base u c X rn f) {x : Nat} {g : Nat → Int} (hx : Tally w x rn g) (hxb : base ≤ x) (hxn : ¬ CTSet u c X x)
    (hown : w'.ownsRow base 39 1 u' (c + 1) (cV X rn c ++ [.slice (some ⟨x, 0, none⟩) rn rn])) (hF : Fr (fun k => u.ownBlock = some k) w w') (hu : u'.ownBlock = u.ownBlock ∨ ∃ k, u'.ownBlock = some k ∧ w.heap.size ≤ k) :
    CT w' base u' (c + 1) (fun i => if i = c then x else X i) rn (fun i => if i = c then g else f i) := by
  have e : cV (fun i => if i = c then x else X i) rn (c + 1) = cV X rn c ++ [.slice (some ⟨x, 0, none⟩) rn rn] := by
    unfold cV
    rw [List.range_succ, List.map_append]
    congr 1
    · refine List.map_congr_left (fun i hi => ?_)
      have : i < c := by simpa using hi
      show Value.slice (some ⟨if i = c then x else X i, 0, none⟩) rn rn = _
      rw [if_neg (by omega)]
    · simp
  have lt1 := h.lt
  have hxl := hx.lt
  have hub : ∀ y, CTSet u c X y ∨ y = x → ¬ u.ownBlock = some y → u'.ownBlock ≠ some y := by
    intro y hy hne e
    rcases hu with hu | ⟨k, hu, hk⟩
    · exact hne (hu.symm.trans e)
    · rw [hu] at e
      injection e with e
      subst e
      rcases hy with hy | hy
      · have := (lt1 _ hy).2; omega
      · omega
  refine ⟨by rw [e]; exact hown, fun i hi => ?_, fun i hi => ?_, fun i hi => ?_, fun i j hi hj hne => ?_⟩
  · by_cases e1 : i = c
    · simp only [if_pos e1]
      exact hx.kept (fun o ho => hF.blk ho (fun h2 => hxn (.inl h2)))
    · simp only [if_neg e1]
      exact (h.rows i (by omega)).kept (fun o ho => hF.blk ho (h.apart i (by omega)))
  · by_cases e1 : i = c
    · simp only [if_pos e1]; exact hxb
    · simp only [if_neg e1]; exact h.lo i (by omega)
  · by_cases e1 : i = c
    · simp only [if_pos e1]
      exact hub x (.inr rfl) (fun h2 => hxn (.inl h2))
    · simp only [if_neg e1]
      exact hub (X i) (.inl (.inr ⟨i, by omega, rfl⟩)) (h.apart i (by omega))
  · by_cases e1 : i = c
    · by_cases e2 : j = c
      · exact absurd (e1.trans e2.symm) hne
      · simp only [if_pos e1, if_neg e2]
        exact fun h2 => hxn (.inr ⟨j, by omega, h2.symm⟩)
    · by_cases e2 : j = c
      · simp only [if_neg e1, if_pos e2]
        exact fun h2 => hxn (.inr ⟨i, by omega, h2⟩)
      · simp only [if_neg e1, if_neg e2]
        exact h.dist i j (by omega) (by omega) hne
/-- A number of a row is put. -/
theorem CT.put (h : CT w base u c X rn f) (hi : i < c) {r : Nat} (hr : r < rn) (v : Int) (e : ∀ a, a < c → ∀ b, b < rn → f' a b = if a = i ∧ b = r then v else f a b) : CT (w.setCell ⟨X i, r, none⟩ (.int .i64 v)) base u c X rn f' := by
  have hF := (Fr.refl (One (X i)) w).one r (.int .i64 v)
  refine ⟨own_kept h.out hF (fun b hb e2 => h.apart i hi (hb.trans (congrArg some (e2 : b = X i)))), fun a ha => ?_, h.lo, h.apart, h.dist⟩
  by_cases e1 : a = i
  · subst e1
    exact (h.rows a ha).set hr v (fun b hb => by rw [e a ha b hb]; by_cases e2 : b = r <;> simp [e2])
  · refine ((h.rows a ha).kept (fun o ho => hF.blk ho (fun e2 => h.dist a i ha hi e1 e2))).congr (fun b hb => ?_)
    rw [e a ha b hb, if_neg (fun x => e1 x.1)]
theorem CT.cell (h : CT w base u c X rn f) (hi : i < c) : ∃ g cap, u = .slice (some ⟨g, 0, none⟩) c cap ∧ w.cell? ⟨g, i, none⟩ = some (.slice (some ⟨X i, 0, none⟩) rn rn) := by
  obtain ⟨g, cap, cur, hv, _⟩ := own_shape h.out (by omega)
  have h2 := h.out
  rw [hv] at h2
  exact ⟨g, cap, hv, own_cell0 h2 (cV_get X rn hi)⟩
/-- It is a list of rows. -/
theorem CT.plan (h : CT w base u c X rn f) (hm : rn ≤ maxLen) : Rowp 1 (RowR 1 IntR) w u ((List.range c).map fun i => (List.range rn).map (f i)) := by
  have hfl : flat (fun x : Nat => [Value.slice (some ⟨X x, 0, none⟩) rn rn]) (List.range c) = cV X rn c := by
    unfold cV flat
    generalize List.range c = l
    induction l with
    | nil => rfl
    | cons a l ih => rw [List.flatMap_cons, ih, List.map_cons]; rfl
  have h1 : Rowp 1 (fun w cs (x : Nat) => cs = [Value.slice (some ⟨X x, 0, none⟩) rn rn] ∧ Rowp 1 IntR w (.slice (some ⟨X x, 0, none⟩) rn rn) ((List.range rn).map (f x))) w u (List.range c) :=
    Rowp.of_own (base := base) (e := 39) (n := c) (enc := fun x => [Value.slice (some ⟨X x, 0, none⟩) rn rn]) (fun x => rfl) (by rw [hfl]; exact h.out) (by simp) (by decide) (fun x hx => ⟨rfl, Rowp.ints ((h.rows x (by simpa using hx)).own (h.lo x (by simpa using hx)) hm) (by simp)⟩)
  exact h1.mono (R' := RowR 1 IntR) (f := fun i => (List.range rn).map (f i)) (fun cs x _ hr => ⟨_, hr.1, hr.2⟩)
end
def rkC (S : Sy) (tv a b c : Value) : Array Value := #[.int .i64 S.cores, .int .i64 S.policy, .int .i64 S.prot, .int .i64 S.rel, .int .i64 S.sw, .int .i64 S.fin, .int .i64 S.lat, .int .i64 S.resn, tv, a, b, c]
/-- What analysis.rank makes. -/
structure IsRk (w : World) (base R : Nat) (S : Sy) (tv : Value) (P : Pl) (n : Nat) (g : Nat) (V : Nat → Value) (uw uc : Value) (X : Nat → Nat) : Prop where
  hr : w.heap[R]? = some (.cells (rkC S tv (.slice (some ⟨g, 0, none⟩) n n) uw uc) 104 (0, 0))
  lo : base ≤ R
  gr : GR w base g n n V (rowsC S P S.cores)
  wh : w.ownsRow base 3 1 uw n (intCells (P.map whereOf))
  ce : CT w base uc S.cores.toNat X S.resn.toNat (fun c => topF (upsN S P c P.length))
end Go.Proofs.Ytmhochjpdedlgaa
/- analysis.rank (contract): the record of a plan that is right. -/
set_option linter.unusedVariables false
set_option linter.unusedSimpArgs false
namespace Go.Proofs.Ytmhochjpdedlgaa
open Go.RowKit

/-- The world within rank: the box B of the system, the record R with its plan; what is made lies behind Z. -/
structure RkW (w wr : World) (B R Z : Nat) (CS : Array Value) (S : Sy) (P : Pl) (tv : Value) (n g : Nat) (V : Nat → Value) (uw uc : Value) (X : Nat → Nat) (k c : Nat) (f : Nat → Nat → Int) : Prop where
  below : Below w.heap.size w wr
  lo : w.heap.size ≤ Z
  bz : B < Z
  rz : Z ≤ R
  b0 : wr.heap[B]? = some (.cells CS 24 (0, 0))
  hr : wr.heap[R]? = some (.cells (rkC S tv (.slice (some ⟨g, 0, none⟩) n n) uw uc) 104 (0, 0))
  gr : GR wr Z g n n V (rowsC S P S.cores)
  wh : wr.ownsRow Z 3 1 uw k (intCells ((P.map whereOf).take k))
  ce : CT wr Z uc c X S.resn.toNat f
  rg : ¬ GRSet g n V R
  rw : uw.ownBlock ≠ some R
  rc : ¬ CTSet uc c X R
  gw : ∀ b, uw.ownBlock = some b → ¬ GRSet g n V b
  gc : ∀ b, CTSet uc c X b → ¬ GRSet g n V b
  wc : ∀ b, uw.ownBlock = some b → ¬ CTSet uc c X b
section
variable {w wr w' : World} {B R Z : Nat} {CS : Array Value} {S : Sy} {P : Pl} {tv : Value} {n g : Nat} {V : Nat → Value} {uw uc uw' uc' : Value} {X X' : Nat → Nat} {k c k' c' : Nat} {f f' : Nat → Nat → Int}
theorem RkW.later (H : RkW w wr B R Z CS S P tv n g V uw uc X k c f) (h : Below wr.heap.size wr w') : RkW w w' B R Z CS S P tv n g V uw uc X k c f :=
  ⟨below_then H.below h, H.lo, H.bz, H.rz, (fr0 h).blk H.b0 (fun h => h), (fr0 h).blk H.hr (fun h => h), H.gr.later h, own_kept H.wh (fr0 h) (fun _ _ h => h), H.ce.later h, H.rg, H.rw, H.rc, H.gw, H.gc, H.wc⟩
theorem RkW.drew (H : RkW w wr B R Z CS S P tv n g V uw uc X k c f) : RkW w wr.drew B R Z CS S P tv n g V uw uc X k c f :=
  ⟨⟨H.below.os, H.below.tape, H.below.output, H.below.size, H.below.block⟩, H.lo, H.bz, H.rz, H.b0, H.hr, H.gr.kept (S := NoB) ((Fr.refl _ _).drew) (fun _ _ h => h), H.wh, H.ce.kept (S := NoB) ((Fr.refl _ _).drew) (fun _ _ h => h), H.rg, H.rw, H.rc, H.gw, H.gc, H.wc⟩
theorem RkW.frBelow {T : Nat → Prop} (H : RkW w wr B R Z CS S P tv n g V uw uc X k c f) (hF : Fr T wr w') (hn : ∀ x, T x → Z ≤ x) : Below w.heap.size w w' :=
  ((Fr.of_below (S := NoB) H.below).trans hF (fun x hx => .inr (by have := hn x hx; have := H.lo; omega))).no
/-- The ceilings have grown by a row: then the record has it. -/
theorem RkW.ceil (H : RkW w wr B R Z CS S P tv n g V uw uc X k c f) {w1 : World} (hb : Below wr.heap.size wr w1) {x : Nat} {h : Nat → Int} (hx : Tally w1 x S.resn.toNat h) (hxl : wr.heap.size ≤ x)
    (hown : w'.ownsRow Z 39 1 uc' (c + 1) (cV X S.resn.toNat c ++ [.slice (some ⟨x, 0, none⟩) S.resn.toNat S.resn.toNat])) (hF : Fr (fun b => uc.ownBlock = some b) w1 w') (hu : uc'.ownBlock = uc.ownBlock ∨ ∃ b, uc'.ownBlock = some b ∧ w1.heap.size ≤ b) :
    RkW w (w'.setCell ⟨R, 11, none⟩ uc') B R Z CS S P tv n g V uw uc' (fun i => if i = c then x else X i) k (c + 1) (fun i => if i = c then h else f i) := by
  have H1 := H.later hb
  have hRl := blk_lt H.hr
  have hR1 := blk_lt H1.hr
  have grl := H.gr.lt
  have whl := H.wh.lt
  have cel := H.ce.lt
  have hxn : ¬ CTSet uc c X x := fun h2 => by have := (cel _ h2).2; omega
  have CE := H1.ce.snoc hx (by have := H.lo; have := H.below.size; have := blk_lt H.b0; have := H.rz; omega) hxn hown hF hu
  have hFR := (Fr.refl (One R) w').one 11 uc'
  have hold : ∀ b, b < wr.heap.size → ¬ CTSet uc c X b → ¬ CTSet uc' (c + 1) (fun i => if i = c then x else X i) b := by
    intro b hb2 hn h2
    rcases h2 with h2 | ⟨i, hi, h2⟩
    · rcases hu with hu | ⟨y, hu, hy⟩
      · exact hn (.inl (hu.symm.trans h2))
      · rw [hu] at h2
        injection h2 with h2
        have := hb.size
        omega
    · by_cases e : i = c
      · simp only [if_pos e] at h2; omega
      · simp only [if_neg e] at h2; exact hn (.inr ⟨i, by omega, h2⟩)
  have hfw : Fr (fun b => uc.ownBlock = some b ∨ b = R) w1 (w'.setCell ⟨R, 11, none⟩ uc') := (hF.mono (S' := fun b => uc.ownBlock = some b ∨ b = R) (fun x hx => .inl (.inl hx))).trans hFR (fun x hx => .inl (.inr hx))
  refine ⟨H1.frBelow hfw (fun x hx => ?_), H.lo, H.bz, H.rz, hfw.blk H1.b0 (fun h2 => ?_), ?_, H1.gr.kept hfw (fun j hj h2 => ?_), own_kept H1.wh hfw (fun j hj h2 => ?_), CE.kept hFR (fun j hj e => ?_), H.rg, H.rw, hold R hRl H.rc, H.gw, fun b hb2 hg => ?_, fun b hb2 => hold b (whl b hb2).2 (H.wc b hb2)⟩
  · rcases hx with hx | rfl
    · exact (cel x (.inl hx)).1
    · exact H.rz
  · have hbz := H.bz
    rcases h2 with h2 | h2
    · have := (cel B (.inl h2)).1; omega
    · have := H.rz; omega
  · exact blk_set (hF.blk H1.hr (fun h2 => H.rc (.inl h2))) 11 uc'
  · rcases h2 with h2 | rfl
    · exact H.gc j (.inl h2) hj
    · exact H.rg hj
  · rcases h2 with h2 | rfl
    · exact H.wc j hj (.inl h2)
    · exact H.rw hj
  · have e' : j = R := e
    subst e'
    exact hold j hRl H.rc hj
  · exact hold b (grl b hg).2 (fun h2 => H.gc b h2 hg) hb2
/-- The cores have grown by one. -/
theorem RkW.where_ (H : RkW w wr B R Z CS S P tv n g V uw uc X k c f) {x : Int} (hx : (P.map whereOf)[k]? = some x)
    (hown : w'.ownsRow Z 3 1 uw' (k + 1) (intCells ((P.map whereOf).take k) ++ [.int .i64 x])) (hF : Fr (fun b => uw.ownBlock = some b) wr w') (hu : uw'.ownBlock = uw.ownBlock ∨ ∃ b, uw'.ownBlock = some b ∧ wr.heap.size ≤ b) :
    RkW w (w'.setCell ⟨R, 10, none⟩ uw') B R Z CS S P tv n g V uw' uc X (k + 1) c f := by
  have hRl := blk_lt H.hr
  have grl := H.gr.lt
  have whl := H.wh.lt
  have cel := H.ce.lt
  have hFR := (Fr.refl (One R) w').one 10 uw'
  have hfw : Fr (fun b => uw.ownBlock = some b ∨ b = R) wr (w'.setCell ⟨R, 10, none⟩ uw') := (hF.mono (S' := fun b => uw.ownBlock = some b ∨ b = R) (fun x hx => .inl (.inl hx))).trans hFR (fun x hx => .inl (.inr hx))
  have hw2 : ∀ b, b < wr.heap.size → uw.ownBlock ≠ some b → uw'.ownBlock ≠ some b := by
    intro b hb hn e
    rcases hu with hu | ⟨y, hu, hy⟩
    · exact hn (hu.symm.trans e)
    · rw [hu] at e
      injection e with e
      omega
  refine ⟨H.frBelow hfw (fun x hx => ?_), H.lo, H.bz, H.rz, hfw.blk H.b0 (fun h2 => ?_), ?_, H.gr.kept hfw (fun j hj h2 => ?_), ?_, H.ce.kept hfw (fun j hj h2 => ?_), H.rg, hw2 R hRl H.rw, H.rc, fun b hb hg => hw2 b (grl b hg).2 (fun e => H.gw b e hg) hb, H.gc, fun b hb hc => hw2 b (cel b hc).2 (fun e => H.wc b e hc) hb⟩
  · rcases hx with hx | rfl
    · exact (whl x hx).1
    · exact H.rz
  · have hbz := H.bz
    rcases h2 with h2 | h2
    · have := (whl B h2).1; omega
    · have := H.rz; omega
  · exact blk_set (hF.blk H.hr (fun h2 => H.rw h2)) 10 uw'
  · rcases h2 with h2 | rfl
    · exact H.gw j h2 hj
    · exact H.rg hj
  · rw [take_next hx]
    have : intCells ((P.map whereOf).take k ++ [x]) = intCells ((P.map whereOf).take k) ++ [.int .i64 x] := by simp [intCells]
    rw [this]
    exact own_kept hown hFR (fun b hb e => hw2 R hRl H.rw (hb.trans (congrArg some (e : b = R))))
  · rcases h2 with h2 | rfl
    · exact H.wc j h2 hj
    · exact H.rc hj
/-- A ceiling is put. -/
theorem RkW.put (H : RkW w wr B R Z CS S P tv n g V uw uc X k c f) {i : Nat} (hi : i < c) {r : Nat} (hr : r < S.resn.toNat) (v : Int) (e : ∀ a, a < c → ∀ b, b < S.resn.toNat → f' a b = if a = i ∧ b = r then v else f a b) :
    RkW w (wr.setCell ⟨X i, r, none⟩ (.int .i64 v)) B R Z CS S P tv n g V uw uc X k c f' := by
  have hF := (Fr.refl (One (X i)) wr).one r (.int .i64 v)
  have hs : CTSet uc c X (X i) := .inr ⟨i, hi, rfl⟩
  have hl := H.ce.lo i hi
  refine ⟨H.frBelow hF (fun x hx => by cases hx; exact hl), H.lo, H.bz, H.rz, hF.blk H.b0 (fun h2 => by have h3 : B = X i := h2; have := H.bz; omega), hF.blk H.hr (fun h2 => H.rc (by have h3 : R = X i := h2; rw [h3]; exact hs)), H.gr.kept hF (fun j hj h2 => by have h3 : j = X i := h2; subst h3; exact H.gc _ hs hj), own_kept H.wh hF (fun j hj h2 => by have h3 : j = X i := h2; subst h3; exact H.wc _ hj hs), H.ce.put hi hr v e, H.rg, H.rw, H.rc, H.gw, H.gc, H.wc⟩
theorem RkW.congr (H : RkW w wr B R Z CS S P tv n g V uw uc X k c f) (e : ∀ i, i < c → ∀ j, j < S.resn.toNat → f' i j = f i j) : RkW w wr B R Z CS S P tv n g V uw uc X k c f' :=
  ⟨H.below, H.lo, H.bz, H.rz, H.b0, H.hr, H.gr, H.wh, H.ce.congr e, H.rg, H.rw, H.rc, H.gw, H.gc, H.wc⟩
end
end Go.Proofs.Ytmhochjpdedlgaa
/- analysis.rank (contract): the walk. -/
set_option linter.unusedVariables false
set_option linter.unusedSimpArgs false
namespace Go.Proofs.Ytmhochjpdedlgaa
open Go.RowKit

section
variable {w : World}
set_option maxRecDepth 100000 in
set_option maxHeartbeats 6400000 in
theorem prank_any (S : Sy) (A0 : Option Addr) (n0 c0 : Nat) (A : Option Addr) (n cap : Nat) (P : Pl) (hs : IsSys w (.slice A0 n0 c0) S) (hp : IsPlan w (.slice A n cap) P) :
    Calls Try.prog 52 #[sysV S (.slice A0 n0 c0), .slice A n cap] w fun e w' =>
      (planB S P = false ∧ e = .returned (.tuple #[.pointer none, .int .i64 1]) ∧ Below w.heap.size w w') ∨
      (planB S P = true ∧ ∃ R g V uw uc X, e = .returned (.tuple #[.pointer (some ⟨R, 0, none⟩), .int .i64 0]) ∧ IsRk w' w.heap.size R S (.slice A0 n0 c0) P n g V uw uc X ∧ Below w.heap.size w w') := by
  have hn := hp.rows.len
  have hn0 := hs.tasks.len
  have HP := hid hp
  have HS := hid hs
  have HN := hid hn
  have HN0 := hid hn0
  have hnm : n ≤ 9223372036854775807 := by have := hp.rows.room; unfold maxLen at this; omega
  have hn0m : n0 ≤ 9223372036854775807 := by have := hs.tasks.room; unfold maxLen at this; omega
  have HVR := hid (fun W (h : Below w.heap.size w W) => rank_any (w := W) S A0 n0 c0 A n cap P (hs.later h) (hp.later h))
  obtain ⟨CS, hCS⟩ : ∃ C, C = sysC S (.slice A0 n0 c0) := ⟨_, rfl⟩
  have HCS := hid hCS
  obtain ⟨i0, hi, hz0, hz1, hz2⟩ := info_parts Try.info_ints
  obtain ⟨i1, hi', hy0, hy1, hy2⟩ := info_parts Try.info_int
  have hq0 := blk_new w (.cells (sysC S (.slice A0 n0 c0)) 24)
  have HQ0 := hid hq0
  unfold sysV at *
  clear hs hp hn hn0 hCS hq0
  go_enter Try.func52, Try.ntmps52
  go_wp2_with fail
  refine (HVR.out _ (below_new (Below.refl _ _) _)).mono ?_
  intro e w1 hor
  rcases hor with ⟨hpb, rfl, hb1⟩ | ⟨hpb, g, V, rfl, hgr, hb1⟩
  · have HB := hid (below_then (below_new (Below.refl _ _) _) hb1)
    have HPB := hid hpb
    clear hb1 hpb
    go_wp2_with fail
    go_ret2
    exact .inl ⟨HPB.out, rfl, HB.out⟩
  · have q0 : w1.heap[w.heap.size]? = some (.cells (sysC S (.slice A0 n0 c0)) 24 (0, 0)) := (fr0 hb1).blk HQ0.out (fun h => h)
    have hbw := below_then (below_new (Below.refl _ _) _) hb1
    have hsz : ∀ o, (w.alloc o).heap.size = w.heap.size + 1 := fun o => by simp
    rw [hsz] at hgr
    clear hsz
    have hRk0 := blk_new w1 (.cells (rkC S (.slice A0 n0 c0) (.slice (some ⟨g, 0, none⟩) n n) (.slice none 0 0) (.slice none 0 0)) 104)
    have hK : RkW w (w1.alloc (.cells (rkC S (.slice A0 n0 c0) (.slice (some ⟨g, 0, none⟩) n n) (.slice none 0 0) (.slice none 0 0)) 104)) w.heap.size w1.heap.size (w.heap.size + 1) (sysC S (.slice A0 n0 c0)) S P (.slice A0 n0 c0) n g V (.slice none 0 0) (.slice none 0 0) (fun _ => 0) 0 0 (fun c => topF (upsN S P c 0)) :=
      ⟨below_new hbw _, by omega, by omega, by have := blk_lt q0; omega, blk_old q0 _, hRk0, hgr.later (below_new (Below.refl _ _) _), World.ownsRow_nil _ _ _ _, CT.nil _ _ _, fun h => by have := (hgr.lt _ h).2; omega, (fun h => by cases h), (fun h => by rcases h with h | ⟨i, hi, _⟩; cases h; omega), (fun b h => by cases h), (fun b h => by rcases h with h | ⟨i, hi, _⟩; cases h; omega), (fun b h => by cases h)⟩
    have HK0 := hid hK
    have HOK := hid (planB_ok hpb)
    have HPB := hid hpb
    rw [← HCS.out] at q0 HK0
    have s0 : w1.cell? ⟨w.heap.size, 0, none⟩ = some (.int .i64 S.cores) := by rw [blk_cell q0 0, HCS.out]; rfl
    have s1 : w1.cell? ⟨w.heap.size, 1, none⟩ = some (.int .i64 S.policy) := by rw [blk_cell q0 1, HCS.out]; rfl
    have s2 : w1.cell? ⟨w.heap.size, 2, none⟩ = some (.int .i64 S.prot) := by rw [blk_cell q0 2, HCS.out]; rfl
    have s3 : w1.cell? ⟨w.heap.size, 3, none⟩ = some (.int .i64 S.rel) := by rw [blk_cell q0 3, HCS.out]; rfl
    have s4 : w1.cell? ⟨w.heap.size, 4, none⟩ = some (.int .i64 S.sw) := by rw [blk_cell q0 4, HCS.out]; rfl
    have s5 : w1.cell? ⟨w.heap.size, 5, none⟩ = some (.int .i64 S.fin) := by rw [blk_cell q0 5, HCS.out]; rfl
    have s6 : w1.cell? ⟨w.heap.size, 6, none⟩ = some (.int .i64 S.lat) := by rw [blk_cell q0 6, HCS.out]; rfl
    have s7 : w1.cell? ⟨w.heap.size, 7, none⟩ = some (.int .i64 S.resn) := by rw [blk_cell q0 7, HCS.out]; rfl
    have s8 : w1.cell? ⟨w.heap.size, 8, none⟩ = some (.slice A0 n0 c0) := by rw [blk_cell q0 8, HCS.out]; rfl
    clear hgr hb1 hbw hK hpb q0 hRk0
    unfold rkC at HK0
    go_upto_region 5 with fail
    obtain ⟨R, hR⟩ : ∃ R, R = w1.heap.size := ⟨_, rfl⟩
    rw [← hR] at HK0 ⊢
    generalize w1.alloc (.cells #[.int .i64 S.cores, .int .i64 S.policy, .int .i64 S.prot, .int .i64 S.rel, .int .i64 S.sw, .int .i64 S.fin, .int .i64 S.lat, .int .i64 S.resn, .slice A0 n0 c0, .slice (some ⟨g, 0, none⟩) n n, .slice none 0 0, .slice none 0 0] 104) = w2 at HK0 ⊢
    clear s0 s1 s2 s3 s4 s5 s6 s7 s8 hR HVR HQ0
    obtain ⟨nc, hnc⟩ : ∃ nc : Nat, S.cores = nc := ⟨S.cores.toNat, by have := HOK.out.sys.cores; omega⟩
    obtain ⟨rn, hrn⟩ : ∃ rn : Nat, S.resn = rn := ⟨S.resn.toNat, by have := HOK.out.sys.resn; omega⟩
    have hnc8 : nc ≤ 8 := by have := HOK.out.sys.cores; omega
    have hrn8 : rn ≤ 8 := by have := HOK.out.sys.resn; omega
    have hn24 : n ≤ 24 := by have h1 := HOK.out.len; have h2 := HOK.out.sys.len; have := HN.out; omega
    have HNC := hid hnc
    have HRN := hid hrn
    have hrnt : S.resn.toNat = rn := by omega
    have HRT := hid hrnt
    have c0' : w2.cell? ⟨w.heap.size, 0, none⟩ = some (.int .i64 S.cores) := by rw [blk_cell HK0.out.b0 0, HCS.out]; rfl
    rw [hnc] at c0'
    obtain ⟨C0, hC0⟩ : ∃ C, C = (List.replicate rn (.int .i64 0) : List Value).toArray := ⟨_, rfl⟩
    have hmake : ∀ w, (Instr.makeSlice 39 (.int .i64 (rn : Int)) (.int .i64 (rn : Int))).run Try.prog w = .ok (.slice (some ⟨w.heap.size, 0, none⟩) rn rn) (w.alloc (.cells C0 3)) := fun w => by rw [hC0]; exact make_ints rn (by omega) w
    have HMK := hid hmake
    have HC0 := hid hC0
    clear hmake hC0 hnc hrn hrnt
    go_wp2_with fail
    clear c0'
    go_loopw [30] (fun v wr => ∃ (c : Nat) (uc : Value) (X : Nat → Nat), c ≤ nc ∧ v = .int .i64 c ∧ Hid (RkW w wr w.heap.size R (w.heap.size + 1) CS S P (.slice A0 n0 c0) n g V (.slice none 0 0) uc X 0 c (fun c => topF (upsN S P c 0)))) (fun v _ => nc - (intOf v).toNat)
    case atStart => exact ⟨0, _, _, by omega, rfl, HK0⟩
    case round =>
      obtain ⟨c, uc, X, hc, rfl, HK⟩ := hrel
      by_cases hcl : c < nc
      case pos =>
        have hmake := HMK.out
        have hcell := blk_cell HK.out.hr 11
        have hrd := HK.out.drew
        have x7 : wr.cell? ⟨w.heap.size, 7, none⟩ = some (.int .i64 rn) := by rw [blk_cell HK.out.b0 7, HCS.out, ← HRN.out]; rfl
        have x7d : wr.drew.cell? ⟨w.heap.size, 7, none⟩ = some (.int .i64 rn) := x7
        have r11 : wr.cell? ⟨R, 11, none⟩ = some uc := hcell
        have r11d : wr.drew.cell? ⟨R, 11, none⟩ = some uc := hcell
        have hown := hrd.ce.out
        have hbz : R < wr.heap.size := blk_lt HK.out.hr
        have hbs : w.heap.size < wr.heap.size := blk_lt HK.out.b0
        obtain ⟨Au, cu, rfl⟩ := own_slice hown
        have HRD := hid hrd
        have HOWN := hid hown
        clear hcell hrd hown
        go_upto_region 7 with fail
        go_region_law (first
          | (refine step_append_new (W := wr.drew.alloc (.cells C0 3)) rfl (.tmp 36) (.tmp 40) 26 rfl (w.heap.size + 1) 39 i0 _ 1 24 Try.underlying26 hi hz0 hz1 hz2 rfl (by decide) #[.slice (some ⟨wr.heap.size, 0, none⟩) rn rn] (.slice Au c cu) c (cV X S.resn.toNat c) (by simp [Act.eval, Act.put]) (wr.heap.size + 1) (by simp [Act.eval, Act.put]) (by simp) (HOWN.out.alloc _) rfl (fun u hu => by simp at hu; subst hu; rfl) (by unfold maxLen; omega) (by omega) (by simp; omega) ?_
             intro v' w3 ho hf hv
             obtain ⟨A', c', rfl⟩ := own_slice ho
             have HO3 := hid ho
             have HF3 := hid hf
             have HV3 := hid hv
             have hr3 := hf.blk (blk_old HRD.out.hr _) (fun h => HRD.out.rc (.inl h))
             have g11 : w3.cell? ⟨R, 11, none⟩ = some (.slice Au c cu) := blk_cell hr3 11
             have z11 : w3.frozen? ⟨R, 11, none⟩ = false := blk_free hr3 11
             clear ho hf hv hr3))
        all_goals
          have HCN := hid (HRD.out.ceil (uc' := .slice A' (c + 1) c') (w1 := wr.drew.alloc (.cells C0 3)) (w' := w3) (h := fun _ => 0) (x := wr.heap.size) (below_new (Below.refl _ _) _) ⟨⟨C0, blk_new wr.drew _, by rw [HC0.out, HRT.out]; simp, fun j hj => by rw [HRT.out] at hj; rw [HC0.out]; simp [hj]⟩⟩ (Nat.le_refl _) (by rw [HRT.out]; have h := HO3.out; rw [HRT.out] at h; exact h) HF3.out (HV3.out.elim .inl (fun h => .inr ⟨_, h, Nat.le_succ _⟩)))
          have HCN2 := hid (HCN.out.congr (f' := fun c => topF (upsN S P c 0)) (fun i hi j hj => by
            by_cases e : i = c
            · rw [if_pos e]; rfl
            · rw [if_neg e]))
          clear r11 r11d g11 z11 x7 x7d hmake HCN
          generalize w3.setCell ⟨R, 11, none⟩ (.slice A' (c + 1) c') = w4 at HCN2 ⊢
          go_wp2_with fail
          go_roundw
          case rel => exact ⟨c + 1, _, _, by omega, by go_num, HCN2⟩
          case measure => simp [intOf]; omega
      case neg =>
        obtain rfl : c = nc := by omega
        have hown := HK.out.ce.out
        obtain ⟨Au, cu, rfl⟩ := own_slice hown
        clear hown
        have HPO := hid (show ∀ l ∈ P, l.length ≤ 8 ∧ ∀ p ∈ l, 0 ≤ p.core ∧ p.core < S.cores from fun l hl => by
          obtain ⟨i, hi⟩ := List.mem_iff_getElem?.1 hl
          have hi2 := (List.getElem?_eq_some_iff.1 hi).1
          have ok := HOK.out
          have h1 := ok.len
          have ht : S.tasks[i]? = some (S.tasks[i]'(by omega)) := List.getElem?_eq_getElem _
          have := listOk_pcs ok.sys (ok.sys.tasks _ (List.mem_of_getElem? ht)) (ok.lists i _ l ht hi)
          exact ⟨this.1, fun p hp => ⟨(this.2 p hp).c0, (this.2 p hp).c1⟩⟩)
        have HALL := hid (show ∀ x ∈ partsOf P, x.p.core < S.cores from fun x hx => by
          obtain ⟨l, hl, hk2⟩ := mem_parts.1 hx
          exact ((HPO.out l (List.mem_of_getElem? hl)).2 _ (List.mem_of_getElem? hk2)).2)
        go_wp2_with fail
        go_loopw [47] (fun v wr => ∃ (i : Nat) (uw : Value), i ≤ n ∧ v = .int .i64 i ∧ Hid (RkW w wr w.heap.size R (w.heap.size + 1) CS S P (.slice A0 n0 c0) n g V uw (.slice Au c cu) X i c (fun c => topF (upsN S P c i)))) (fun v _ => n - (intOf v).toNat)
        case atStart => exact ⟨0, _, by omega, rfl, HK⟩
        case round =>
          obtain ⟨i, uw, hin, rfl, HKi⟩ := hrel
          by_cases hil : i < n
          case pos =>
            obtain ⟨pl, hpl⟩ : ∃ pl, P[i]? = some pl := ⟨_, List.getElem?_eq_getElem (by have := HN.out; omega)⟩
            obtain ⟨t, ht⟩ : ∃ t, S.tasks[i]? = some t := ⟨_, List.getElem?_eq_getElem (by have h1 := HOK.out.len; have := HN.out; omega)⟩
            have hQi : rowsC S P S.cores i = rankRow S (partsOf P) i pl := rowsC_all HALL.out i pl hpl
            have hrow := HKi.out.gr.rows i hil
            obtain ⟨m, hm⟩ : ∃ m, (rowsC S P S.cores i).length = m := ⟨_, rfl⟩
            rw [hm] at hrow
            obtain ⟨Av, cv, hVi⟩ := own_slice hrow
            have hmp : m = pl.length := by rw [← hm, hQi]; unfold rankRow; rw [List.length_map]
            have v0 : wr.cell? ⟨g, i, none⟩ = some (.slice Av m cv) := by rw [← hVi]; exact HKi.out.gr.cell hil
            obtain ⟨wv, hwv⟩ : ∃ x, whereOf pl = x := ⟨_, rfl⟩
            have hwhole : 0 ≤ wv → m = 1 ∧ ∃ p, pl[0]? = some p ∧ p.tight = false ∧ p.core = wv := fun h => by
              by_cases e : pl.length = 1
              · obtain ⟨p, hp⟩ : ∃ p, pl[0]? = some p := ⟨_, List.getElem?_eq_getElem (by omega)⟩
                rw [whereOf_one e hp] at hwv
                cases ht : p.tight with
                | true => rw [ht, if_pos rfl] at hwv; omega
                | false => rw [ht] at hwv; exact ⟨by omega, p, hp, ht, by simpa using hwv⟩
              · rw [whereOf_no e] at hwv; omega
            have hother : ¬ 0 ≤ wv → wv = -1 := fun h => by
              by_cases e : pl.length = 1
              · obtain ⟨p, hp⟩ : ∃ p, pl[0]? = some p := ⟨_, List.getElem?_eq_getElem (by omega)⟩
                rw [whereOf_one e hp] at hwv
                have h2 := ((HPO.out pl (List.mem_of_getElem? hpl)).2 p (List.mem_of_getElem? hp)).1
                split at hwv <;> omega
              · rw [whereOf_no e] at hwv; omega
            have hrk : ∀ p, pl[0]? = some p → m = 1 → ∃ b, Av = some ⟨b, 0, none⟩ ∧ b < wr.heap.size ∧ wr.cell? ⟨b, 0, none⟩ = some (.int .i64 p.core) ∧ wr.cell? ⟨b, 3, none⟩ = some (.int .i64 (rankOne S (partsOf P) i p).prio) ∧ wr.cell? ⟨b, 4, none⟩ = some (.bool p.tight) := fun p hp hm1 => by
              rw [hVi] at hrow
              obtain ⟨b, cap2, cur, hv, _, hb, _⟩ := own_shape hrow (by omega)
              injection hv with e1 _ _
              have hx : (rowsC S P S.cores i)[0]? = some (rankOne S (partsOf P) i p) := by rw [hQi]; unfold rankRow; rw [List.getElem?_map, hp]; rfl
              have hc : ∀ (k : Nat) (u : Value), (encPc (rankOne S (partsOf P) i p))[k]? = some u → wr.cell? ⟨b, k, none⟩ = some u := fun k u hk => by
                rw [e1] at hrow
                obtain ⟨g', e2, hc2⟩ := row_cell encPc_len hrow hx hk
                injection e2 with e2
                injection e2 with e2
                subst e2
                simpa using hc2
              exact ⟨b, e1, blk_lt hb, hc 0 _ rfl, hc 3 _ rfl, hc 4 _ rfl⟩
            have HWH := hid hwhole
            have HOT := hid hother
            have HRKC := hid hrk
            have HPL := hid hpl
            have HT := hid ht
            have HWV := hid hwv
            have HQI := hid hQi
            have HVI := hid hVi
            have HMP := hid hmp
            have hm8 : m ≤ 8 := by rw [hmp]; exact (HPO.out pl (List.mem_of_getElem? hpl)).1
            clear hwhole hother hrk hpl ht hwv hQi hrow hm hVi hmp
            go_upto_region 13 with fail
            clear v0
            go_cut [61] (fun v wx => ∃ gb : Bool, v = .bool gb ∧ Hid (gb = decide (0 ≤ wv)) ∧ wr = wx)
            case first =>
              by_cases hm1 : m = 1
              case pos =>
                obtain ⟨p, hp⟩ : ∃ p, pl[0]? = some p := ⟨_, List.getElem?_eq_getElem (by have := HMP.out; omega)⟩
                obtain ⟨b, rfl, _, _, _, p4⟩ := HRKC.out p hp hm1
                have HE := hid (show (!p.tight) = decide (0 ≤ wv) from by
                  have h1 := HWV.out
                  rw [whereOf_one (by have := HMP.out; omega) hp] at h1
                  cases ht : p.tight with
                  | true => rw [ht, if_pos rfl] at h1; rw [← h1]; rfl
                  | false =>
                    rw [ht] at h1
                    have h2 := ((HPO.out pl (List.mem_of_getElem? HPL.out)).2 p (List.mem_of_getElem? hp)).1
                    have h3 : p.core = wv := by simpa using h1
                    rw [decide_eq_true (by omega)]
                    rfl)
                subst hm1
                clear hp
                go_wp2_with fail
                go_meet
                exact ⟨_, rfl, HE, rfl⟩
              case neg =>
                have hmb : ((m : Int) == 1) = false := beq_eq_false_iff_ne.2 (by omega)
                have HE := hid (show decide (0 ≤ wv) = false from decide_eq_false (fun h => hm1 (HWH.out h).1))
                clear hm1
                go_wp2_with fail
                go_meet
                exact ⟨_, rfl, hid HE.out.symm, rfl⟩
            obtain ⟨gb, rfl, HGB, rfl⟩ := hcut
            go_upto_if 61 with fail
            go_cut [10] (fun v wx => v = .int .i64 wv ∧ Hid (RkW w wx w.heap.size R (w.heap.size + 1) CS S P (.slice A0 n0 c0) n g V uw (.slice Au c cu) X i c (fun c => topF (upsN S P c (i + 1)))))
            case first =>
              cases gb
              case false =>
                have hw : ¬ 0 ≤ wv := of_decide_eq_false HGB.out.symm
                have hwe := HOT.out hw
                have HKN := hid (HKi.out.congr (f' := fun c => topF (upsN S P c (i + 1))) (fun a ha b hb => by
                  have h1 : whereAt P i = wv := by unfold whereAt; rw [List.getElem?_map, HPL.out]; exact HWV.out
                  have h2 := upsK_no (S := S) (P := P) (c := (a : Int)) (i := i) (by rw [h1]; omega) 0
                  rw [upsK_zero] at h2
                  show topF (upsN S P a (i + 1)) b = topF (upsN S P a i) b
                  rw [h2]))
                have HWE := hid hwe
                clear hw hwe
                go_wp2_with fail
                go_meet
                exact ⟨int_eq HWE.out.symm, HKN⟩
              case true =>
                have hw : 0 ≤ wv := of_decide_eq_true HGB.out.symm
                obtain ⟨hm1, p, hp, hpt, hpc⟩ := HWH.out hw
                subst hm1
                obtain ⟨b7, rfl, hb7, k0, k3, k4⟩ := HRKC.out p hp rfl
                obtain ⟨cw, hcw⟩ : ∃ cw : Nat, wv = cw := ⟨wv.toNat, by omega⟩
                have hcwc : cw < c := by
                  have h2 := ((HPO.out pl (List.mem_of_getElem? HPL.out)).2 p (List.mem_of_getElem? hp)).2
                  have := HNC.out
                  omega
                rw [hpc, hcw] at k0
                have HCW := hid hcw
                obtain ⟨pr, hpr⟩ : ∃ x, (rankOne S (partsOf P) i p).prio = x := ⟨_, rfl⟩
                rw [hpr] at k3
                have HPR := hid (show prioOf S P i = pr from by
                  unfold prioOf rankL
                  rw [List.getElem?_mapIdx, HPL.out]
                  show (((rankRow S (partsOf P) i pl).head?.map Pc.prio).getD 0) = _
                  rw [List.head?_eq_getElem?]
                  unfold rankRow
                  rw [List.getElem?_map, hp]
                  exact hpr)
                obtain ⟨b1, o1, cs1, hA1, hbl1, _, hcs1, us1, hu1, hu2⟩ := HS.out.tasks.at HT.out
                subst hA1
                subst hu1
                obtain ⟨A1, c1, hu3, _⟩ := hu2.shape
                obtain ⟨m1, hm1⟩ : ∃ m, m = t.secs.length := ⟨_, rfl⟩
                rw [← hm1] at hu3
                subst hu3
                have HSO := hid (show secsOf S i = t.secs by unfold secsOf; rw [HT.out]; rfl)
                have HTO := hid (HOK.out.sys.tasks t (List.mem_of_getElem? HT.out))
                have hm4 : m1 ≤ 4 := by rw [hm1]; exact HTO.out.n
                have HU2 := hid hu2
                have HM1 := hid hm1
                have s8 : wr.cell? ⟨w.heap.size, 8, none⟩ = some (.slice (some ⟨b1, o1, none⟩) n0 c0) := by rw [blk_cell HKi.out.b0 8, HCS.out]; rfl
                have s9 : wr.cell? ⟨b1, o1 + i * 4 + 3, none⟩ = some (.slice A1 m1 c1) := (HKi.out.below.cell (p := ⟨b1, o1 + i * 4 + 3, none⟩) hbl1).trans (hcs1 3 _ rfl)
                have hin0 : i < n0 := by have h1 := HOK.out.len; have := HN.out; have := HN0.out; omega
                have HK0' := hid (HKi.out.congr (f' := fun c => topF (upsK S P c i 0)) (fun a ha b hb => by rw [upsK_zero]))
                have HX3 := hid (fun W (h : GR W (w.heap.size + 1) g n n V (rowsC S P S.cores)) => show W.cell? ⟨b7, 3, none⟩ = some (.int .i64 pr) from by
                  have hrow := h.rows i hil
                  have hx : (rowsC S P S.cores i)[0]? = some (rankOne S (partsOf P) i p) := by rw [HQI.out]; unfold rankRow; rw [List.getElem?_map, hp]; rfl
                  rw [HVI.out] at hrow
                  have hl : (rowsC S P S.cores i).length = 1 := by rw [HQI.out]; unfold rankRow; rw [List.length_map]; exact HMP.out.symm
                  rw [hl] at hrow
                  obtain ⟨g', e2, hc2⟩ := row_cell encPc_len hrow hx (j := 3) (u := .int .i64 (rankOne S (partsOf P) i p).prio) rfl
                  injection e2 with e2
                  injection e2 with e2
                  subst e2
                  rw [← hpr]
                  simpa using hc2)
                have HBW1 := hid (fun W (h : Below w.heap.size w W) (k : Nat) (x : Sec) (hx : t.secs[k]? = some x) => (HU2.out.later secR.stays h).at hx)
                clear hw hp hpt hpc hcw hpr hbl1 hcs1 hu2 hm1 hb7
                go_wp2_with fail
                clear s8 s9 k0 k3 k4
                obtain ⟨ws, hws⟩ : ∃ ws, ws = wr := ⟨_, rfl⟩
                subst hws
                go_loopw [73] (fun v wr => ∃ k : Nat, k ≤ m1 ∧ v = .int .i64 k ∧ Hid (RkW w wr w.heap.size R (w.heap.size + 1) CS S P (.slice (some ⟨b1, o1, none⟩) n0 c0) n g V uw (.slice Au c cu) X i c (fun c => topF (upsK S P c i k)))) (fun v _ => m1 - (intOf v).toNat)
                case atStart => exact ⟨0, by omega, rfl, HK0'⟩
                case round =>
                  obtain ⟨k, hk, rfl, HKk⟩ := hrel
                  by_cases hkm : k < m1
                  case neg =>
                    obtain rfl : k = m1 := by omega
                    have HKN := hid (HKk.out.congr (f' := fun c => topF (upsN S P c (i + 1))) (fun a ha b hb => by
                      have h1 : whereAt P i = wv := by unfold whereAt; rw [List.getElem?_map, HPL.out]; exact HWV.out
                      show topF (upsN S P a (i + 1)) b = topF (upsK S P a i k) b
                      by_cases e : a = cw
                      · have h2 := upsK_all S P (a : Int) i
                        rw [HSO.out, ← HM1.out] at h2
                        rw [h2]
                      · rw [upsK_no (by rw [h1, HCW.out]; omega)]))
                    go_wp2_with fail
                    go_meet
                    exact ⟨int_eq HCW.out.symm, HKN⟩
                  case pos =>
                    obtain ⟨x, hx⟩ : ∃ x, t.secs[k]? = some x := ⟨_, List.getElem?_eq_getElem (by have := HM1.out; omega)⟩
                    obtain ⟨b8, o8, cs8, hA8, hbl8, _, hcs8, hr8⟩ := HBW1.out wr HKk.out.below k x hx
                    subst hA8
                    have hr8' : cs8 = [.int .i64 x.at_, .int .i64 x.res, .int .i64 x.len] := hr8
                    subst hr8'
                    have hxo := HTO.out.s x (List.mem_of_getElem? hx)
                    obtain ⟨jr, hjr⟩ : ∃ j : Nat, x.res = j := ⟨x.res.toNat, by have := hxo.r0; omega⟩
                    have hjn : jr < rn := by have := hxo.r1; have := HRN.out; omega
                    have HUS := hid (show topF (upsK S P cw i (k + 1)) = upd (topF (upsK S P cw i k)) jr (max 1 pr) by
                      rw [upsK_succ (by unfold whereAt; rw [List.getElem?_map, HPL.out]; exact HWV.out.trans HCW.out) (by rw [HSO.out]; exact hx), topF_snoc, HPR.out, hjr]
                      rfl)
                    have HUN := hid (show ∀ a : Nat, a ≠ cw → topF (upsK S P a i (k + 1)) = topF (upsK S P a i k) from fun a ha => by
                      have h1 : whereAt P i ≠ (a : Int) := by unfold whereAt; rw [List.getElem?_map, HPL.out]; show whereOf pl ≠ _; rw [HWV.out, HCW.out]; omega
                      rw [upsK_no h1, upsK_no h1])
                    rw [hjr] at hcs8
                    have e0 : wr.cell? ⟨b8, o8 + k * 3, none⟩ = some (.int .i64 x.at_) := by simpa using hcs8 0 _ rfl
                    have e1 : wr.cell? ⟨b8, o8 + k * 3 + 1, none⟩ = some (.int .i64 jr) := hcs8 1 _ rfl
                    have e2 : wr.cell? ⟨b8, o8 + k * 3 + 2, none⟩ = some (.int .i64 x.len) := hcs8 2 _ rfl
                    clear hx hbl8 hcs8 hr8 hxo hjr
                    obtain ⟨xa, hxa⟩ : ∃ v, x.at_ = v := ⟨_, rfl⟩
                    obtain ⟨xl, hxl⟩ : ∃ v, x.len = v := ⟨_, rfl⟩
                    rw [hxa] at e0
                    rw [hxl] at e2
                    clear hxa hxl
                    go_upto_region 18 with fail
                    obtain ⟨D, hD⟩ : ∃ D, D = wr.heap.size := ⟨_, rfl⟩
                    rw [← hD]
                    generalize hw6 : wr.alloc (.cells #[.int .i64 xa, .int .i64 jr, .int .i64 xl] 128) = w6
                    have hbel : Below wr.heap.size wr w6 := by rw [← hw6]; exact below_new (Below.refl _ _) _
                    have hblk : w6.heap[D]? = some (.cells #[.int .i64 xa, .int .i64 jr, .int .i64 xl] 128 (0, 0)) := by rw [← hw6, hD]; exact blk_new _ _
                    have HK6 := hid (HKk.out.later hbel)
                    have f1 : w6.cell? ⟨D, 1, none⟩ = some (.int .i64 jr) := blk_cell hblk 1
                    have f1d : w6.drew.cell? ⟨D, 1, none⟩ = some (.int .i64 jr) := f1
                    clear hw6 hD hbel hblk e0 e1 e2
                    obtain ⟨gu, cap2, hu5, hu6⟩ := HK6.out.ce.cell hcwc
                    injection hu5 with e3 _ _
                    subst e3
                    rw [HRT.out] at hu6
                    have hu6d : w6.drew.cell? ⟨gu, cw, none⟩ = some (.slice (some ⟨X cw, 0, none⟩) rn rn) := hu6
                    have r11 : w6.cell? ⟨R, 11, none⟩ = some (.slice (some ⟨gu, 0, none⟩) c cu) := blk_cell HK6.out.hr 11
                    have r11d : w6.drew.cell? ⟨R, 11, none⟩ = some (.slice (some ⟨gu, 0, none⟩) c cu) := r11
                    have HK7 := hid HK6.out.drew
                    go_region
                    clear f1 f1d hu6 hu6d r11 r11d
                    generalize w6.drew = w7 at HK7 ⊢
                    have p3 := HX3.out w7 HK7.out.gr
                    go_upto_region 20 with fail
                    clear p3
                    obtain ⟨pm, hpm⟩ : ∃ y, max 1 pr = y := ⟨_, rfl⟩
                    rw [hpm] at HUS
                    have hpe : (if 1 < pr then pr else 1) = pm := by rw [← hpm]; split <;> omega
                    first | rw [hpm] | rw [hpe]
                    clear hpe hpm
                    obtain ⟨tv, htv⟩ : ∃ y, topF (upsK S P cw i k) jr = y := ⟨_, rfl⟩
                    have x0 : w7.cell? ⟨X cw, jr, none⟩ = some (.int .i64 tv) := by rw [(HK7.out.ce.rows cw hcwc).cell (by rw [HRT.out]; exact hjn), htv]
                    have x1 : w7.frozen? ⟨X cw, jr, none⟩ = false := (HK7.out.ce.rows cw hcwc).free jr
                    have HTV := hid htv
                    clear htv
                    have HPUT := hid (fun (hp : tv = 0 ∨ pm < tv) => HK7.out.put (f' := fun c => topF (upsK S P c i (k + 1))) hcwc (r := jr) (by rw [HRT.out]; exact hjn) pm (fun a ha b hb => by
                      by_cases e : a = cw
                      · subst e
                        simp only [HUS.out]
                        unfold upd
                        by_cases e2 : b = jr
                        · rw [if_pos e2, HTV.out, if_pos hp]
                          simp [e2]
                        · rw [if_neg e2]
                          simp [e2]
                      · rw [if_neg (fun h => e h.1)]
                        simp only [HUN.out a e]))
                    have HSKIP := hid (fun (hp : ¬ (tv = 0 ∨ pm < tv)) => HK7.out.congr (f' := fun c => topF (upsK S P c i (k + 1))) (fun a ha b hb => by
                      by_cases e : a = cw
                      · subst e
                        simp only [HUS.out]
                        unfold upd
                        by_cases e2 : b = jr
                        · rw [if_pos e2, HTV.out, if_neg hp, e2, HTV.out]
                        · rw [if_neg e2]
                      · simp only [HUN.out a e]))
                    by_cases hz : tv = 0
                    case pos =>
                      have hzb : (tv == 0) = true := beq_iff_eq.2 hz
                      have HC4 := hid (HPUT.out (.inl hz))
                      clear hz HPUT HSKIP
                      go_wp2_with fail
                      go_roundw
                      case rel => exact ⟨k + 1, by omega, by go_num, HC4⟩
                      case measure => simp [intOf]; omega
                    case neg =>
                      have hzb : (tv == 0) = false := beq_eq_false_iff_ne.2 hz
                      by_cases hl : pm < tv
                      case pos =>
                        have hlb : decide (pm < tv) = true := decide_eq_true hl
                        have HC4 := hid (HPUT.out (.inr hl))
                        clear hz HPUT HSKIP
                        go_wp2_with fail
                        go_roundw
                        case rel => exact ⟨k + 1, by omega, by go_num, HC4⟩
                        case measure => simp [intOf]; omega
                      case neg =>
                        have hlb : decide (pm < tv) = false := decide_eq_false hl
                        have HC4 := hid (HSKIP.out (fun h => h.elim hz hl))
                        clear hz HPUT HSKIP
                        go_wp2_with fail
                        go_roundw
                        case rel => exact ⟨k + 1, by omega, by go_num, HC4⟩
                        case measure => simp [intOf]; omega
            obtain ⟨rfl, HKC⟩ := hcut
            obtain ⟨w8, hw8⟩ : ∃ x, x = wc := ⟨_, rfl⟩
            subst hw8
            have hwm := hid (show (P.map whereOf)[i]? = some wv by rw [List.getElem?_map, HPL.out]; exact congrArg some HWV.out)
            have hown := HKC.out.wh
            obtain ⟨Aw, cw2, rfl⟩ := own_slice hown
            have HOWN := hid hown
            have r10 : w8.cell? ⟨R, 10, none⟩ = some (.slice Aw i cw2) := blk_cell HKC.out.hr 10
            have hbs : w.heap.size < w8.heap.size := blk_lt HKC.out.b0
            clear hown
            go_wp2_with (at_builtin; refine append_new rfl _ _ 39 rfl (w.heap.size + 1) 3 i1 _ 1 8 Try.underlying39 hi' hy0 hy1 hy2 rfl (by decide) #[.int .i64 wv] (.slice Aw i cw2) i (intCells ((P.map whereOf).take i)) rfl _ rfl rfl HOWN.out rfl (one_one _) (by unfold maxLen; omega) (by omega) (by omega) ?_; intro v' w9 ho hf hv; obtain ⟨A', c', rfl⟩ := own_slice ho; have HO9 := hid ho; have HF9 := hid hf; have HV9 := hid hv; have hr9 := hf.blk HKC.out.hr (fun h => HKC.out.rw h); have g10 : w9.cell? ⟨R, 10, none⟩ = some (.slice Aw i cw2) := blk_cell hr9 10; have z10 : w9.frozen? ⟨R, 10, none⟩ = false := blk_free hr9 10; clear ho hf hv hr9)
            have HKN := hid (HKC.out.where_ hwm.out HO9.out HF9.out (HV9.out.elim .inl (fun h => .inr ⟨_, h, Nat.le_succ _⟩)))
            go_roundw
            case rel => exact ⟨i + 1, _, by omega, by go_num, HKN⟩
            case measure => simp [intOf]; omega
          case neg =>
            obtain rfl : i = n := by omega
            have HEND := hid (show IsRk wr w.heap.size R S (.slice A0 n0 c0) P i g V uw (.slice Au c cu) X from
              ⟨HKi.out.hr, by have := HKi.out.rz; omega, HKi.out.gr.mono (Nat.le_succ _), by
                have h := own_mono HKi.out.wh (Nat.le_succ w.heap.size)
                rw [List.take_of_length_le (by rw [List.length_map, HN.out]; exact Nat.le_refl _)] at h
                exact h, by
                have h := HKi.out.ce.mono (Nat.le_succ w.heap.size)
                rw [show S.cores.toNat = c by rw [HNC.out]; rfl, ← HN.out]
                exact h⟩)
            have HBE := hid HKi.out.below
            go_wp2_with fail
            go_ret2
            exact .inr ⟨HPB.out, R, g, V, uw, _, X, rfl, HEND.out, HBE.out⟩
end
end Go.Proofs.Ytmhochjpdedlgaa
/- analysis.Ceilings (contract). -/
set_option linter.unusedVariables false
set_option linter.unusedSimpArgs false
namespace Go.Proofs.Ytmhochjpdedlgaa
open Go.RowKit

section
variable {w : World}
set_option maxRecDepth 100000 in
set_option maxHeartbeats 1600000 in
theorem pceil_any (S : Sy) (A0 : Option Addr) (n0 c0 : Nat) (A : Option Addr) (n cap : Nat) (P : Pl) (hs : IsSys w (.slice A0 n0 c0) S) (hp : IsPlan w (.slice A n cap) P) :
    Calls Try.prog 25 #[sysV S (.slice A0 n0 c0), .slice A n cap] w fun e w' =>
      (planB S P = false ∧ e = .returned (.tuple #[.slice none 0 0, .int .i64 1]) ∧ Below w.heap.size w w') ∨
      (planB S P = true ∧ ∃ uc X, e = .returned (.tuple #[uc, .int .i64 0]) ∧ CT w' w.heap.size uc S.cores.toNat X S.resn.toNat (fun c => topF (upsN S P c P.length)) ∧ Below w.heap.size w w') := by
  have HR := hid (fun W (h : Below w.heap.size w W) => prank_any (w := W) S A0 n0 c0 A n cap P (hs.later h) (hp.later h))
  unfold sysV at *
  clear hs hp
  go_enter Try.func25, Try.ntmps25
  go_wp2_with fail
  refine (HR.out _ (below_new (Below.refl _ _) _)).mono ?_
  intro e w1 hor
  rcases hor with ⟨hpb, rfl, hb1⟩ | ⟨hpb, R, g, V, uw, uc, X, rfl, hk, hb1⟩
  · have HB := hid (below_then (below_new (Below.refl _ _) _) hb1)
    have HPB := hid hpb
    clear hb1 hpb
    go_wp2_with fail
    go_ret2
    exact .inl ⟨HPB.out, rfl, HB.out⟩
  · have HB := hid (below_then (below_new (Below.refl _ _) _) hb1)
    have HPB := hid hpb
    have HK := hid hk
    obtain ⟨Au, cu, rfl⟩ := own_slice hk.ce.out
    have r11 : w1.cell? ⟨R, 11, none⟩ = some (.slice Au S.cores.toNat cu) := blk_cell hk.hr 11
    clear hb1 hpb hk
    go_wp2_with fail
    go_ret2
    exact .inr ⟨HPB.out, _, X, rfl, HK.out.ce.mono (by simp), HB.out⟩
end
end Go.Proofs.Ytmhochjpdedlgaa
/- slices.Equal at whole numbers and at pieces; slices.EqualFunc at lists of whole numbers (contracts). -/
set_option linter.unusedVariables false
set_option linter.unusedSimpArgs false
namespace Go.Proofs.Ytmhochjpdedlgaa
open Go.RowKit

def pcV (p : Pc) : Value := .agg #[.int .i64 p.core, .int .i64 p.bud, .int .i64 p.dl, .int .i64 p.prio, .bool p.tight]
theorem pc_eq (p q : Pc) : (p == q) = (p.core == q.core && (p.bud == q.bud && (p.dl == q.dl && (p.prio == q.prio && p.tight == q.tight)))) := by
  obtain ⟨a, b, c, d, e⟩ := p
  obtain ⟨a', b', c', d', e'⟩ := q
  rw [Bool.eq_iff_iff]
  simp
theorem piece_ne (p q : Pc) (w : World) : (binOp BinOp.neq 62 (pcV p) (pcV q)).run Try.prog w = .ok (.bool (!(p == q))) w := by
  unfold pcV
  rw [pc_eq]
  go_simp
  by_cases h1 : p.core = q.core
  · by_cases h2 : p.bud = q.bud
    · by_cases h3 : p.dl = q.dl
      · by_cases h4 : p.prio = q.prio
        · by_cases h5 : p.tight = q.tight
          · simp [h1, h2, h3, h4, h5]
          · simp [h1, h2, h3, h4, h5]
        · simp [h1, h2, h3, h4]
      · simp [h1, h2, h3]
    · simp [h1, h2]
  · simp [h1]
theorem piece_guard (o p : Operand) (x y : Pc) (w : World) : (eqGuard BinOp.neq 62 o p (pcV x) (pcV y)).run Try.prog w = .ok () w := by unfold pcV; go_simp
/-- How far two lists are found alike. -/
theorem eq_all {α : Type} {a b : List α} {n : Nat} (h : a.take n = b.take n) (ha : n = a.length) (hb : n = b.length) : a = b := by
  rw [List.take_of_length_le (by omega), List.take_of_length_le (by omega)] at h
  exact h
theorem eq_step {α : Type} {a b : List α} {k : Nat} {x : α} (h : a.take k = b.take k) (ha : a[k]? = some x) (hb : b[k]? = some x) : a.take (k + 1) = b.take (k + 1) := by rw [take_next ha, take_next hb, h]
theorem ne_step {α : Type} {a b : List α} {k : Nat} {x y : α} (hx : a[k]? = some x) (hy : b[k]? = some y) (hne : x ≠ y) : a ≠ b := fun e => by
  subst e
  rw [hx] at hy
  injection hy with hy
  exact hne hy
section
variable {w : World}
set_option maxRecDepth 100000 in
set_option maxHeartbeats 1600000 in
theorem eqints_any (L M : List Int) (A : Option Addr) (n c : Nat) (B : Option Addr) (m d : Nat) (hl : Rowp 1 IntR w (.slice A n c) L) (hm : Rowp 1 IntR w (.slice B m d) M) :
    Calls Try.prog 50 #[.slice A n c, .slice B m d] w fun e w' => e = .returned (.bool (decide (L = M))) ∧ Below w.heap.size w w' := by
  have hn := hl.len
  have hn2 := hm.len
  have hnm : n ≤ 9223372036854775807 := by have := hl.room; unfold maxLen at this; omega
  have hmm : m ≤ 9223372036854775807 := by have := hm.room; unfold maxLen at this; omega
  have HL := hid hl
  have HM := hid hm
  have HN := hid hn
  have HN2 := hid hn2
  clear hl hm hn hn2
  by_cases hnn : n = m
  case neg =>
    have hb : ((n : Int) != (m : Int)) = true := bne_iff_ne.2 (by omega)
    have HD := hid (show decide (L = M) = false from decide_eq_false (fun e => hnn (by rw [HN.out, HN2.out, e])))
    clear hnn
    go_enter Try.func50, Try.ntmps50
    go_wp2_with fail
    go_ret
    exact ⟨by rw [HD.out]; rfl, Below.refl _ _⟩
  case pos =>
    subst hnn
    have hb : ((n : Int) != (n : Int)) = false := by simp
    go_enter Try.func50, Try.ntmps50
    go_wp2_with fail
    go_loopw [13] (fun v wr => ∃ k : Nat, k ≤ n ∧ v = .int .i64 k ∧ Hid (L.take k = M.take k) ∧ Hid (Below w.heap.size w wr)) (fun v _ => n - (intOf v).toNat)
    case atStart => exact ⟨0, by omega, rfl, hid rfl, hid (Below.refl _ _)⟩
    case round =>
      obtain ⟨k, hk, rfl, HT, HB⟩ := hrel
      by_cases hlt : k < n
      case pos =>
        obtain ⟨x, hx⟩ : ∃ x, L[k]? = some x := ⟨_, List.getElem?_eq_getElem (by have := HN.out; omega)⟩
        obtain ⟨y, hy⟩ : ∃ y, M[k]? = some y := ⟨_, List.getElem?_eq_getElem (by have := HN2.out; omega)⟩
        obtain ⟨b, o, cs, hA, hbl, _, hc, hr⟩ := (HL.out.later IntR.stays HB.out).at hx
        subst hA
        have hr' : cs = [.int .i64 x] := hr
        subst hr'
        obtain ⟨b2, o2, cs2, hA2, hbl2, _, hc2, hr2⟩ := (HM.out.later IntR.stays HB.out).at hy
        subst hA2
        have hr2' : cs2 = [.int .i64 y] := hr2
        subst hr2'
        have e0 : wr.cell? ⟨b, o + k, none⟩ = some (.int .i64 x) := by simpa using hc 0 _ rfl
        have e1 : wr.cell? ⟨b2, o2 + k, none⟩ = some (.int .i64 y) := by simpa using hc2 0 _ rfl
        have e0d : wr.drew.cell? ⟨b, o + k, none⟩ = some (.int .i64 x) := e0
        have e1d : wr.drew.cell? ⟨b2, o2 + k, none⟩ = some (.int .i64 y) := e1
        have HX := hid hx
        have HY := hid hy
        have HBD := hid (below_drewN' HB.out 1)
        clear hx hy hc hr hc2 hr2 hbl hbl2
        by_cases he : x = y
        case pos =>
          subst he
          have hxx : (x != x) = false := by simp
          have HTN := hid (eq_step HT.out HX.out HY.out)
          go_wp2_with fail
          go_region
          clear e0 e1 e0d e1d
          go_wp2_with fail
          go_roundw
          case rel => exact ⟨k + 1, by omega, by go_num, HTN, HBD⟩
          case measure => simp [intOf]; omega
        case neg =>
          have hxy : (x != y) = true := bne_iff_ne.2 he
          have HD := hid (show decide (L = M) = false from decide_eq_false (ne_step HX.out HY.out he))
          clear he
          go_wp2_with fail
          go_region
          clear e0 e1 e0d e1d
          go_wp2_with fail
          go_ret
          exact ⟨by rw [HD.out]; rfl, HBD.out⟩
      case neg =>
        obtain rfl : k = n := by omega
        have HD := hid (show decide (L = M) = true from decide_eq_true (eq_all HT.out HN.out HN2.out))
        go_wp2_with fail
        go_ret
        exact ⟨by rw [HD.out]; rfl, HB.out⟩
set_option maxRecDepth 100000 in
set_option maxHeartbeats 1600000 in
theorem eqpcs_any (L M : List Pc) (A : Option Addr) (n c : Nat) (B : Option Addr) (m d : Nat) (hl : Rowp 5 pcR w (.slice A n c) L) (hm : Rowp 5 pcR w (.slice B m d) M) :
    Calls Try.prog 48 #[.slice A n c, .slice B m d] w fun e w' => e = .returned (.bool (decide (L = M))) ∧ Below w.heap.size w w' := by
  have hn := hl.len
  have hn2 := hm.len
  have hnm : n ≤ 9223372036854775807 := by have := hl.room; unfold maxLen at this; omega
  have hmm : m ≤ 9223372036854775807 := by have := hm.room; unfold maxLen at this; omega
  have HL := hid hl
  have HM := hid hm
  have HN := hid hn
  have HN2 := hid hn2
  clear hl hm hn hn2
  by_cases hnn : n = m
  case neg =>
    have hb : ((n : Int) != (m : Int)) = true := bne_iff_ne.2 (by omega)
    have HD := hid (show decide (L = M) = false from decide_eq_false (fun e => hnn (by rw [HN.out, HN2.out, e])))
    clear hnn
    go_enter Try.func48, Try.ntmps48
    go_wp2_with fail
    go_ret
    exact ⟨by rw [HD.out]; rfl, Below.refl _ _⟩
  case pos =>
    subst hnn
    have hb : ((n : Int) != (n : Int)) = false := by simp
    go_enter Try.func48, Try.ntmps48
    go_wp2_with fail
    go_loopw [13] (fun v wr => ∃ k : Nat, k ≤ n ∧ v = .int .i64 k ∧ Hid (L.take k = M.take k) ∧ Hid (Below w.heap.size w wr)) (fun v _ => n - (intOf v).toNat)
    case atStart => exact ⟨0, by omega, rfl, hid rfl, hid (Below.refl _ _)⟩
    case round =>
      obtain ⟨k, hk, rfl, HT, HB⟩ := hrel
      by_cases hlt : k < n
      case pos =>
        obtain ⟨x, hx⟩ : ∃ x, L[k]? = some x := ⟨_, List.getElem?_eq_getElem (by have := HN.out; omega)⟩
        obtain ⟨y, hy⟩ : ∃ y, M[k]? = some y := ⟨_, List.getElem?_eq_getElem (by have := HN2.out; omega)⟩
        obtain ⟨b, o, cs, hA, hbl, _, hc, hr⟩ := (HL.out.later pcR.stays HB.out).at hx
        subst hA
        have hr' : cs = [.int .i64 x.core, .int .i64 x.bud, .int .i64 x.dl, .int .i64 x.prio, .bool x.tight] := hr
        subst hr'
        obtain ⟨b2, o2, cs2, hA2, hbl2, _, hc2, hr2⟩ := (HM.out.later pcR.stays HB.out).at hy
        subst hA2
        have hr2' : cs2 = [.int .i64 y.core, .int .i64 y.bud, .int .i64 y.dl, .int .i64 y.prio, .bool y.tight] := hr2
        subst hr2'
        have e0 : wr.cell? ⟨b, o + k * 5, none⟩ = some (.int .i64 x.core) := by simpa using hc 0 _ rfl
        have e1 : wr.cell? ⟨b, o + k * 5 + 1, none⟩ = some (.int .i64 x.bud) := by simpa using hc 1 _ rfl
        have e2 : wr.cell? ⟨b, o + k * 5 + 2, none⟩ = some (.int .i64 x.dl) := by simpa using hc 2 _ rfl
        have e3 : wr.cell? ⟨b, o + k * 5 + 3, none⟩ = some (.int .i64 x.prio) := by simpa using hc 3 _ rfl
        have e4 : wr.cell? ⟨b, o + k * 5 + 4, none⟩ = some (.bool x.tight) := by simpa using hc 4 _ rfl
        have f0 : wr.cell? ⟨b2, o2 + k * 5, none⟩ = some (.int .i64 y.core) := by simpa using hc2 0 _ rfl
        have f1 : wr.cell? ⟨b2, o2 + k * 5 + 1, none⟩ = some (.int .i64 y.bud) := by simpa using hc2 1 _ rfl
        have f2 : wr.cell? ⟨b2, o2 + k * 5 + 2, none⟩ = some (.int .i64 y.dl) := by simpa using hc2 2 _ rfl
        have f3 : wr.cell? ⟨b2, o2 + k * 5 + 3, none⟩ = some (.int .i64 y.prio) := by simpa using hc2 3 _ rfl
        have f4 : wr.cell? ⟨b2, o2 + k * 5 + 4, none⟩ = some (.bool y.tight) := by simpa using hc2 4 _ rfl
        have e0d : wr.drew.cell? ⟨b, o + k * 5, none⟩ = some (.int .i64 x.core) := e0
        have e1d : wr.drew.cell? ⟨b, o + k * 5 + 1, none⟩ = some (.int .i64 x.bud) := e1
        have e2d : wr.drew.cell? ⟨b, o + k * 5 + 2, none⟩ = some (.int .i64 x.dl) := e2
        have e3d : wr.drew.cell? ⟨b, o + k * 5 + 3, none⟩ = some (.int .i64 x.prio) := e3
        have e4d : wr.drew.cell? ⟨b, o + k * 5 + 4, none⟩ = some (.bool x.tight) := e4
        have f0d : wr.drew.cell? ⟨b2, o2 + k * 5, none⟩ = some (.int .i64 y.core) := f0
        have f1d : wr.drew.cell? ⟨b2, o2 + k * 5 + 1, none⟩ = some (.int .i64 y.bud) := f1
        have f2d : wr.drew.cell? ⟨b2, o2 + k * 5 + 2, none⟩ = some (.int .i64 y.dl) := f2
        have f3d : wr.drew.cell? ⟨b2, o2 + k * 5 + 3, none⟩ = some (.int .i64 y.prio) := f3
        have f4d : wr.drew.cell? ⟨b2, o2 + k * 5 + 4, none⟩ = some (.bool y.tight) := f4
        have HX := hid hx
        have HY := hid hy
        have HBD := hid (below_drewN' HB.out 1)
        have HXY := hid (⟨rfl, rfl⟩ : x = x ∧ y = y)
        have hpn := piece_ne x y
        have hpg := fun o p => piece_guard o p x y
        obtain ⟨bb, hbb⟩ : ∃ bb, (!(x == y)) = bb := ⟨_, rfl⟩
        rw [hbb] at hpn
        have HBB := hid hbb
        clear hx hy hc hr hc2 hr2 hbl hbl2 hbb
        unfold pcV at hpn hpg
        obtain ⟨xc, xb, xd, xp, xt⟩ := x
        obtain ⟨yc, yb, yd, yp, yt⟩ := y
        simp only at e0 e1 e2 e3 e4 e0d e1d e2d e3d e4d f0 f1 f2 f3 f4 f0d f1d f2d f3d f4d hpn hpg
        cases bb
        case false =>
          have he : (⟨xc, xb, xd, xp, xt⟩ : Pc) = ⟨yc, yb, yd, yp, yt⟩ := by have := HBB.out; simpa using this
          have HTN := hid (eq_step HT.out HX.out (by rw [he]; exact HY.out))
          clear he
          go_wp2_with fail
          go_region
          clear e0 e1 e2 e3 e4 e0d e1d e2d e3d e4d f0 f1 f2 f3 f4 f0d f1d f2d f3d f4d hpn hpg
          go_wp2_with fail
          go_roundw
          case rel => exact ⟨k + 1, by omega, by go_num, HTN, HBD⟩
          case measure => simp [intOf]; omega
        case true =>
          have he : (⟨xc, xb, xd, xp, xt⟩ : Pc) ≠ ⟨yc, yb, yd, yp, yt⟩ := fun e => by have := HBB.out; rw [e] at this; simp at this
          have HD := hid (show decide (L = M) = false from decide_eq_false (ne_step HX.out HY.out he))
          clear he
          go_wp2_with fail
          go_region
          clear e0 e1 e2 e3 e4 e0d e1d e2d e3d e4d f0 f1 f2 f3 f4 f0d f1d f2d f3d f4d hpn hpg
          go_wp2_with fail
          go_ret
          exact ⟨by rw [HD.out]; rfl, HBD.out⟩
      case neg =>
        obtain rfl : k = n := by omega
        have HD := hid (show decide (L = M) = true from decide_eq_true (eq_all HT.out HN.out HN2.out))
        go_wp2_with fail
        go_ret
        exact ⟨by rw [HD.out]; rfl, HB.out⟩
set_option maxRecDepth 100000 in
set_option maxHeartbeats 1600000 in
theorem eqrows_any (L M : List (List Int)) (A : Option Addr) (n c : Nat) (B : Option Addr) (m d : Nat) (hl : Rowp 1 (RowR 1 IntR) w (.slice A n c) L) (hm : Rowp 1 (RowR 1 IntR) w (.slice B m d) M) :
    Calls Try.prog 49 #[.slice A n c, .slice B m d, .func (.func 50) #[] #[]] w fun e w' => e = .returned (.bool (decide (L = M))) ∧ Below w.heap.size w w' := by
  have hn := hl.len
  have hn2 := hm.len
  have hnm : n ≤ 9223372036854775807 := by have := hl.room; unfold maxLen at this; omega
  have hmm : m ≤ 9223372036854775807 := by have := hm.room; unfold maxLen at this; omega
  have HL := hid hl
  have HM := hid hm
  have HN := hid hn
  have HN2 := hid hn2
  clear hl hm hn hn2
  by_cases hnn : n = m
  case neg =>
    have hb : ((n : Int) != (m : Int)) = true := bne_iff_ne.2 (by omega)
    have HD := hid (show decide (L = M) = false from decide_eq_false (fun e => hnn (by rw [HN.out, HN2.out, e])))
    clear hnn
    go_enter Try.func49, Try.ntmps49
    go_wp2_with fail
    go_ret
    exact ⟨by rw [HD.out]; rfl, Below.refl _ _⟩
  case pos =>
    subst hnn
    have hb : ((n : Int) != (n : Int)) = false := by simp
    go_enter Try.func49, Try.ntmps49
    go_wp2_with fail
    go_loopw [17] (fun v wr => ∃ k : Nat, k ≤ n ∧ v = .int .i64 k ∧ Hid (L.take k = M.take k) ∧ Hid (Below w.heap.size w wr)) (fun v _ => n - (intOf v).toNat)
    case atStart => exact ⟨0, by omega, rfl, hid rfl, hid (Below.refl _ _)⟩
    case round =>
      obtain ⟨k, hk, rfl, HT, HB⟩ := hrel
      by_cases hlt : k < n
      case pos =>
        obtain ⟨x, hx⟩ : ∃ x, L[k]? = some x := ⟨_, List.getElem?_eq_getElem (by have := HN.out; omega)⟩
        obtain ⟨y, hy⟩ : ∃ y, M[k]? = some y := ⟨_, List.getElem?_eq_getElem (by have := HN2.out; omega)⟩
        obtain ⟨b, o, cs, hA, hbl, _, hc, u, hr, hru⟩ := (HL.out.later (RowR.stays IntR.stays) HB.out).at hx
        subst hA
        subst hr
        obtain ⟨b2, o2, cs2, hA2, hbl2, _, hc2, u2, hr2, hru2⟩ := (HM.out.later (RowR.stays IntR.stays) HB.out).at hy
        subst hA2
        subst hr2
        obtain ⟨A3, c3, hu3, _⟩ := hru.shape
        obtain ⟨A4, c4, hu4, _⟩ := hru2.shape
        obtain ⟨n3, hn3⟩ : ∃ n3, x.length = n3 := ⟨_, rfl⟩
        obtain ⟨n4, hn4⟩ : ∃ n4, y.length = n4 := ⟨_, rfl⟩
        rw [hn3] at hu3
        rw [hn4] at hu4
        subst hu3
        subst hu4
        have HEQ := hid (eqints_any (w := wr) x y A3 n3 c3 A4 n4 c4 hru hru2)
        have e0 : wr.cell? ⟨b, o + k, none⟩ = some (.slice A3 n3 c3) := by simpa using hc 0 _ rfl
        have e1 : wr.cell? ⟨b2, o2 + k, none⟩ = some (.slice A4 n4 c4) := by simpa using hc2 0 _ rfl
        have HX := hid hx
        have HY := hid hy
        clear hx hy hc hru hc2 hru2 hbl hbl2 hn3 hn4
        go_wp2_with fail
        refine HEQ.out.mono ?_
        rintro e w2 ⟨rfl, hb2⟩
        have HB2 := hid (below_then HB.out hb2)
        clear hb2 e0 e1
        by_cases he : x = y
        case pos =>
          have hd : decide (x = y) = true := decide_eq_true he
          have HTN := hid (eq_step HT.out HX.out (by rw [he]; exact HY.out))
          rw [hd]
          clear he hd
          go_wp2_with fail
          go_roundw
          case rel => exact ⟨k + 1, by omega, by go_num, HTN, HB2⟩
          case measure => simp [intOf]; omega
        case neg =>
          have hd : decide (x = y) = false := decide_eq_false he
          have HD := hid (show decide (L = M) = false from decide_eq_false (ne_step HX.out HY.out he))
          rw [hd]
          clear he hd
          go_wp2_with fail
          go_ret
          exact ⟨by rw [HD.out]; rfl, HB2.out⟩
      case neg =>
        obtain rfl : k = n := by omega
        have HD := hid (show decide (L = M) = true from decide_eq_true (eq_all HT.out HN.out HN2.out))
        go_wp2_with fail
        go_ret
        exact ⟨by rw [HD.out]; rfl, HB.out⟩
end
end Go.Proofs.Ytmhochjpdedlgaa
/- Tables, plain: entries and ceilings beside a system; when one is right; the plan of a table (contracts of both). -/
set_option linter.unusedVariables false
set_option linter.unusedSimpArgs false
namespace Go.Proofs.Ytmhochjpdedlgaa
open Go.RowKit

structure En where
  ps : List Pc
  bound : Int
structure Tb where
  sys : Sy
  ents : List En
  ceil : List (List Int)
def Tb.plan (T : Tb) : Pl := T.ents.map En.ps
def entR : Reads En := fun w cs e => ∃ u, cs = [u, .int .i64 e.bound] ∧ Rowp 5 pcR w u e.ps
theorem entR.stays : Stays entR := fun _ _ _ _ k ⟨u, e, hu⟩ => ⟨u, e, hu.later pcR.stays k⟩
def tabC (S : Sy) (tv ev cv : Value) : Array Value := #[.int .i64 S.cores, .int .i64 S.policy, .int .i64 S.prot, .int .i64 S.rel, .int .i64 S.sw, .int .i64 S.fin, .int .i64 S.lat, .int .i64 S.resn, tv, ev, cv]
def tabV (S : Sy) (tv ev cv : Value) : Value := .agg (tabC S tv ev cv)
structure IsTab (w : World) (tv ev cv : Value) (T : Tb) : Prop where
  sys : IsSys w tv T.sys
  ents : Rowp 2 entR w ev T.ents
  wf : ∀ e ∈ T.ents, ∀ p ∈ e.ps, Pc.Wf p
  bwf : ∀ e ∈ T.ents, I64 e.bound
  ceil : Rowp 1 (RowR 1 IntR) w cv T.ceil
theorem IsTab.later {w w' : World} {tv ev cv : Value} {T : Tb} (h : IsTab w tv ev cv T) (k : Below w.heap.size w w') : IsTab w' tv ev cv T :=
  ⟨h.sys.later k, h.ents.later entR.stays k, h.wf, h.bwf, h.ceil.later (RowR.stays IntR.stays) k⟩
/-- What a right entry is. -/
def entB (S : Sy) (L : List Pt) (i : Nat) (e : En) : Bool :=
  !e.ps.isEmpty && (!((e.ps.getLast?.map Pc.tight).getD false) && (decide (e.ps = rankRow S L i e.ps) && (decide (1 ≤ e.bound) && decide (e.bound ≤ ((S.tasks[i]?.map Tsk.dl).getD 0)))))
def tabB (T : Tb) : Bool := planB T.sys T.plan && ((List.range T.ents.length).all fun i => (T.ents[i]?.map (entB T.sys (partsOf T.plan) i)).getD true) && decide (ceilL T.sys T.plan = T.ceil)
/-- The plan while it is made: values that lay there at the start. -/
structure VG (w0 w : World) (u : Value) (vs : List Value) (Q : Pl) : Prop where
  out : w.ownsRow w0.heap.size 52 1 u vs.length vs
  len : vs.length = Q.length
  rows : ∀ (i : Nat) v q, vs[i]? = some v → Q[i]? = some q → Rowp 5 pcR w0 v q
theorem VG.nil (w0 w : World) : VG w0 w (.slice none 0 0) [] [] := ⟨World.ownsRow_nil _ _ _ _, rfl, fun i v q h => by simp at h⟩
theorem VG.later {w0 w w' : World} {u : Value} {vs : List Value} {Q : Pl} (h : VG w0 w u vs Q) (k : Below w.heap.size w w') : VG w0 w' u vs Q := ⟨own_kept h.out (fr0 k) (fun _ _ h => h), h.len, h.rows⟩
theorem VG.snoc {w0 w w' : World} {u u' v : Value} {vs : List Value} {Q : Pl} {q : List Pc} (h : VG w0 w u vs Q) (hv : Rowp 5 pcR w0 v q) (hown : w'.ownsRow w0.heap.size 52 1 u' (vs.length + 1) (vs ++ [v])) : VG w0 w' u' (vs ++ [v]) (Q ++ [q]) := by
  refine ⟨by rw [List.length_append]; exact hown, by simp [h.len], fun i x y hx hy => ?_⟩
  by_cases hi : i < vs.length
  · rw [List.getElem?_append_left hi] at hx
    rw [List.getElem?_append_left (by have := h.len; omega)] at hy
    exact h.rows i x y hx hy
  · have hi2 : i = vs.length := by have := (List.getElem?_eq_some_iff.1 hx).1; simp at this; omega
    subst hi2
    rw [List.getElem?_append_right (Nat.le_refl _)] at hx
    rw [List.getElem?_append_right (by have := h.len; omega)] at hy
    simp at hx
    rw [h.len] at hy
    simp at hy
    subst hx
    subst hy
    exact hv
theorem VG.plan {w0 w : World} {u : Value} {vs : List Value} {Q : Pl} (h : VG w0 w u vs Q) (hb : Below w0.heap.size w0 w) : Rowp 1 (RowR 5 pcR) w u Q := by
  have h1 : Rowp 1 (fun w cs (x : Value × List Pc) => cs = [x.1] ∧ Rowp 5 pcR w x.1 x.2) w u (vs.zip Q) := by
    refine Rowp.of_own (base := w0.heap.size) (e := 52) (n := vs.length) (enc := fun x => [x.1]) (fun x => rfl) (by rw [flat_fst vs Q h.len]; exact h.out) (by rw [List.length_zip, h.len]; simp) (by decide) (fun x hx => ⟨rfl, ?_⟩)
    obtain ⟨i, hi⟩ := List.mem_iff_getElem?.1 hx
    rw [List.getElem?_zip_eq_some] at hi
    exact (h.rows i _ _ hi.1 hi.2).later pcR.stays hb
  have h2 := h1.mono (R' := RowR 5 pcR) (f := Prod.snd) (fun cs x _ hr => ⟨x.1, hr.1, hr.2⟩)
  rwa [List.map_snd_zip (by rw [h.len]; exact Nat.le_refl _)] at h2
section
variable {w : World}
set_option maxRecDepth 100000 in
set_option maxHeartbeats 3200000 in
theorem tplan_any (T : Tb) (tv : Value) (A : Option Addr) (n c : Nat) (cv : Value) (h : IsTab w tv (.slice A n c) cv T) (hlen : n ≤ 4398046511104) :
    Calls Try.prog 47 #[tabV T.sys tv (.slice A n c) cv] w fun e w' => ∃ B m d, e = .returned (.slice B m d) ∧ IsPlan w' (.slice B m d) T.plan ∧ Below w.heap.size w w' := by
  have hn := h.ents.len
  have HT := hid h
  have HN := hid hn
  obtain ⟨i0, hi, hz0, hz1, hz2⟩ := info_parts Try.info_pieces
  have hq0 := blk_new w (.cells (tabC T.sys tv (.slice A n c) cv) 28)
  have hbel := below_new (Below.refl w.heap.size w) (.cells (tabC T.sys tv (.slice A n c) cv) 28)
  unfold tabV tabC at *
  clear h hn
  go_enter Try.func47, Try.ntmps47
  go_upto_region 2 with fail
  generalize w.alloc (.cells #[.int .i64 T.sys.cores, .int .i64 T.sys.policy, .int .i64 T.sys.prot, .int .i64 T.sys.rel, .int .i64 T.sys.sw, .int .i64 T.sys.fin, .int .i64 T.sys.lat, .int .i64 T.sys.resn, tv, .slice A n c, cv] 28) = w1 at hq0 hbel ⊢
  have c9 : w1.cell? ⟨w.heap.size, 9, none⟩ = some (.slice A n c) := blk_cell hq0 9
  have HB0 := hid hbel
  clear hq0 hbel
  go_wp2_with fail
  clear c9
  go_loopw [3, 9] (fun u v wr => ∃ (k : Nat) (vs : List Value), k ≤ n ∧ v = .int .i64 k ∧ Hid (VG w wr u vs (T.plan.take k)) ∧ Hid (Below w.heap.size w wr)) (fun _ v _ => n - (intOf v).toNat)
  case atStart => exact ⟨0, [], by omega, rfl, hid (VG.nil _ _), HB0⟩
  case round =>
    obtain ⟨k, vs, hk, rfl, HV, HB⟩ := hrel
    by_cases hlt : k < n
    case pos =>
      obtain ⟨x, hx⟩ : ∃ x, T.ents[k]? = some x := ⟨_, List.getElem?_eq_getElem (by have := HN.out; omega)⟩
      obtain ⟨b, o, cs, hA, hbl, _, hc, ue, hr, hru⟩ := HT.out.ents.at hx
      subst hA
      subst hr
      obtain ⟨A3, c3, hu3, _⟩ := hru.shape
      obtain ⟨n3, hn3⟩ : ∃ n3, x.ps.length = n3 := ⟨_, rfl⟩
      rw [hn3] at hu3
      subst hu3
      obtain ⟨xb, hxb⟩ : ∃ v, x.bound = v := ⟨_, rfl⟩
      rw [hxb] at hc
      have e0 : wr.cell? ⟨b, o + k * 2, none⟩ = some (.slice A3 n3 c3) := (HB.out.cell (p := ⟨b, o + k * 2, none⟩) hbl).trans (by simpa using hc 0 _ rfl)
      have e1 : wr.cell? ⟨b, o + k * 2 + 1, none⟩ = some (.int .i64 xb) := (HB.out.cell (p := ⟨b, o + k * 2 + 1, none⟩) hbl).trans (hc 1 _ rfl)
      have HX := hid (show T.plan[k]? = some x.ps by unfold Tb.plan; rw [List.getElem?_map, hx]; rfl)
      have HRU := hid hru
      have hvl : vs.length = k := by
        have h1 := HV.out.len
        rw [List.length_take] at h1
        have h2 : T.plan.length = T.ents.length := by unfold Tb.plan; rw [List.length_map]
        have := HN.out
        omega
      clear hx hc hru hn3 hxb hbl
      go_upto_region 5 with fail
      obtain ⟨D, hD⟩ : ∃ D, D = wr.heap.size := ⟨_, rfl⟩
      rw [← hD]
      generalize hw3 : wr.alloc (.cells #[.slice A3 n3 c3, .int .i64 xb] 95) = w3
      have hbel : Below wr.heap.size wr w3 := by rw [← hw3]; exact below_new (Below.refl _ _) _
      have hblk : w3.heap[D]? = some (.cells #[.slice A3 n3 c3, .int .i64 xb] 95 (0, 0)) := by rw [← hw3, hD]; exact blk_new _ _
      have f0 : w3.cell? ⟨D, 0, none⟩ = some (.slice A3 n3 c3) := blk_cell hblk 0
      have HV3 := hid (HV.out.later hbel)
      have HB3 := hid (below_then HB.out hbel)
      have hown := HV3.out.out
      obtain ⟨Au, cu, hu⟩ := own_slice hown
      rw [hvl] at hu hown
      subst hu
      have HOWN := hid hown
      have hsz3 : w.heap.size ≤ w3.heap.size := HB3.out.size
      clear hw3 hD hbel hblk e0 e1 hown
      go_wp2_with (at_builtin; refine append_new rfl _ _ 48 rfl w.heap.size 52 i0 _ 1 24 Try.underlying48 hi hz0 hz1 hz2 rfl (by decide) #[.slice A3 n3 c3] (.slice Au k cu) k vs rfl _ rfl rfl HOWN.out rfl (fun u hu => by simp at hu; subst hu; rfl) (by unfold maxLen; omega) (by omega) hsz3 ?_; intro v' w4 ho hf hv; obtain ⟨A', c', rfl⟩ := own_slice ho; have HO4 := hid ho; have HF4 := hid hf; clear ho hf hv f0)
      have HV4 := hid (show VG w w4 (.slice A' (k + 1) c') (vs ++ [.slice A3 n3 c3]) (T.plan.take (k + 1)) by
        rw [take_next HX.out]
        exact HV3.out.snoc HRU.out (by rw [hvl]; exact HO4.out))
      have HB4 := hid (((Fr.of_below (S := NoB) HB3.out).trans HF4.out (fun x hx => .inr (HOWN.out.lt x hx).1)).no)
      go_roundw
      case rel => exact ⟨k + 1, _, by omega, by go_num, HV4, HB4⟩
      case measure => simp [intOf]; omega
    case neg =>
      obtain rfl : k = n := by omega
      have hpl : T.plan.length = k := by unfold Tb.plan; rw [List.length_map]; exact HN.out.symm
      have HV5 := HV.out
      rw [List.take_of_length_le (by omega)] at HV5
      have hown := HV5.out
      obtain ⟨Au, cu, hu⟩ := own_slice hown
      subst hu
      have HP := hid (show IsPlan wr (.slice Au vs.length cu) T.plan from ⟨HV5.plan HB.out, fun l hl p hp => by
        unfold Tb.plan at hl
        obtain ⟨e, he, rfl⟩ := List.mem_map.1 hl
        exact HT.out.wf e he p hp⟩)
      clear HV5 hown
      go_wp2_with fail
      go_ret
      exact ⟨Au, _, cu, rfl, HP.out, HB.out⟩
end
end Go.Proofs.Ytmhochjpdedlgaa
