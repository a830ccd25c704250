/- Joined: PRank. -/
import Derived.Test.YtppildaahmlfmaaQ39
import Derived.Deep.RegionLaw
import Derived.Deep.CutBlock
import Derived.Deep.DeepCutAuto
set_option linter.unusedVariables false
set_option linter.unusedSimpArgs false
/- analysis.rank (contract): the record of a plan that is right. -/
set_option linter.unusedVariables false
set_option linter.unusedSimpArgs false
namespace Go.Proofs.Ytppildaahmlfmaa
open Go.RowKit

/-- The world within rank: the box B of the system, the record R with its plan; what is made lies behind Z. -/
structure RkW (w wr : World) (B R Z : Nat) (CS : Array Value) (S : Sy) (P : Pl) (tv : Value) (n g : Nat) (V : Nat → Value) (uw uc : Value) (X : Nat → Nat) (k c : Nat) (f : Nat → Nat → Int) : Prop where
  below : Below w.heap.size w wr
  lo : w.heap.size ≤ Z
  bz : B < Z
  rz : Z ≤ R
  b0 : wr.heap[B]? = some (.cells CS 24 (0, 0))
  hr : wr.heap[R]? = some (.cells (rkC S tv (.slice (some ⟨g, 0, none⟩) n n) uw uc) 64 (0, 0))
  gr : GR wr Z g n n V (rowsC S P S.cores)
  wh : wr.ownsRow Z 3 1 uw k (intCells ((P.map whereOf).take k))
  ce : CT wr Z uc c X S.resn.toNat f
  rg : ¬ GRSet g n V R
  rw : uw.ownBlock ≠ some R
  rc : ¬ CTSet uc c X R
  gw : ∀ b, uw.ownBlock = some b → ¬ GRSet g n V b
  gc : ∀ b, CTSet uc c X b → ¬ GRSet g n V b
  wc : ∀ b, uw.ownBlock = some b → ¬ CTSet uc c X b
section
variable {w wr w' : World} {B R Z : Nat} {CS : Array Value} {S : Sy} {P : Pl} {tv : Value} {n g : Nat} {V : Nat → Value} {uw uc uw' uc' : Value} {X X' : Nat → Nat} {k c k' c' : Nat} {f f' : Nat → Nat → Int}
theorem RkW.later (H : RkW w wr B R Z CS S P tv n g V uw uc X k c f) (h : Below wr.heap.size wr w') : RkW w w' B R Z CS S P tv n g V uw uc X k c f :=
  ⟨below_then H.below h, H.lo, H.bz, H.rz, (fr0 h).blk H.b0 (fun h => h), (fr0 h).blk H.hr (fun h => h), H.gr.later h, own_kept H.wh (fr0 h) (fun _ _ h => h), H.ce.later h, H.rg, H.rw, H.rc, H.gw, H.gc, H.wc⟩
theorem RkW.drew (H : RkW w wr B R Z CS S P tv n g V uw uc X k c f) : RkW w wr.drew B R Z CS S P tv n g V uw uc X k c f :=
  ⟨⟨H.below.os, H.below.tape, H.below.output, H.below.size, H.below.block⟩, H.lo, H.bz, H.rz, H.b0, H.hr, H.gr.kept (S := NoB) ((Fr.refl _ _).drew) (fun _ _ h => h), H.wh, H.ce.kept (S := NoB) ((Fr.refl _ _).drew) (fun _ _ h => h), H.rg, H.rw, H.rc, H.gw, H.gc, H.wc⟩
theorem RkW.frBelow {T : Nat → Prop} (H : RkW w wr B R Z CS S P tv n g V uw uc X k c f) (hF : Fr T wr w') (hn : ∀ x, T x → Z ≤ x) : Below w.heap.size w w' :=
  ((Fr.of_below (S := NoB) H.below).trans hF (fun x hx => .inr (by have := hn x hx; have := H.lo; omega))).no
/-- The ceilings have grown by a row: then the record has it. -/
theorem RkW.ceil (H : RkW w wr B R Z CS S P tv n g V uw uc X k c f) {w1 : World} (hb : Below wr.heap.size wr w1) {x : Nat} {h : Nat → Int} (hx : Tally w1 x S.resn.toNat h) (hxl : wr.heap.size ≤ x)
    (hown : w'.ownsRow Z 27 1 uc' (c + 1) (cV X S.resn.toNat c ++ [.slice (some ⟨x, 0, none⟩) S.resn.toNat S.resn.toNat])) (hF : Fr (fun b => uc.ownBlock = some b) w1 w') (hu : uc'.ownBlock = uc.ownBlock ∨ ∃ b, uc'.ownBlock = some b ∧ w1.heap.size ≤ b) :
    RkW w (w'.setCell ⟨R, 11, none⟩ uc') B R Z CS S P tv n g V uw uc' (fun i => if i = c then x else X i) k (c + 1) (fun i => if i = c then h else f i) := by
  have H1 := H.later hb
  have hRl := blk_lt H.hr
  have hR1 := blk_lt H1.hr
  have grl := H.gr.lt
  have whl := H.wh.lt
  have cel := H.ce.lt
  have hxn : ¬ CTSet uc c X x := fun h2 => by have := (cel _ h2).2; omega
  have CE := H1.ce.snoc hx (by have := H.lo; have := H.below.size; have := blk_lt H.b0; have := H.rz; omega) hxn hown hF hu
  have hFR := (Fr.refl (One R) w').one 11 uc'
  have hold : ∀ b, b < wr.heap.size → ¬ CTSet uc c X b → ¬ CTSet uc' (c + 1) (fun i => if i = c then x else X i) b := by
    intro b hb2 hn h2
    rcases h2 with h2 | ⟨i, hi, h2⟩
    · rcases hu with hu | ⟨y, hu, hy⟩
      · exact hn (.inl (hu.symm.trans h2))
      · rw [hu] at h2
        injection h2 with h2
        have := hb.size
        omega
    · by_cases e : i = c
      · simp only [if_pos e] at h2; omega
      · simp only [if_neg e] at h2; exact hn (.inr ⟨i, by omega, h2⟩)
  have hfw : Fr (fun b => uc.ownBlock = some b ∨ b = R) w1 (w'.setCell ⟨R, 11, none⟩ uc') := (hF.mono (S' := fun b => uc.ownBlock = some b ∨ b = R) (fun x hx => .inl (.inl hx))).trans hFR (fun x hx => .inl (.inr hx))
  refine ⟨H1.frBelow hfw (fun x hx => ?_), H.lo, H.bz, H.rz, hfw.blk H1.b0 (fun h2 => ?_), ?_, H1.gr.kept hfw (fun j hj h2 => ?_), own_kept H1.wh hfw (fun j hj h2 => ?_), CE.kept hFR (fun j hj e => ?_), H.rg, H.rw, hold R hRl H.rc, H.gw, fun b hb2 hg => ?_, fun b hb2 => hold b (whl b hb2).2 (H.wc b hb2)⟩
  · rcases hx with hx | rfl
    · exact (cel x (.inl hx)).1
    · exact H.rz
  · have hbz := H.bz
    rcases h2 with h2 | h2
    · have := (cel B (.inl h2)).1; omega
    · have := H.rz; omega
  · exact blk_set (hF.blk H1.hr (fun h2 => H.rc (.inl h2))) 11 uc'
  · rcases h2 with h2 | rfl
    · exact H.gc j (.inl h2) hj
    · exact H.rg hj
  · rcases h2 with h2 | rfl
    · exact H.wc j hj (.inl h2)
    · exact H.rw hj
  · have e' : j = R := e
    subst e'
    exact hold j hRl H.rc hj
  · exact hold b (grl b hg).2 (fun h2 => H.gc b h2 hg) hb2
/-- The cores have grown by one. -/
theorem RkW.where_ (H : RkW w wr B R Z CS S P tv n g V uw uc X k c f) {x : Int} (hx : (P.map whereOf)[k]? = some x)
    (hown : w'.ownsRow Z 3 1 uw' (k + 1) (intCells ((P.map whereOf).take k) ++ [.int .i64 x])) (hF : Fr (fun b => uw.ownBlock = some b) wr w') (hu : uw'.ownBlock = uw.ownBlock ∨ ∃ b, uw'.ownBlock = some b ∧ wr.heap.size ≤ b) :
    RkW w (w'.setCell ⟨R, 10, none⟩ uw') B R Z CS S P tv n g V uw' uc X (k + 1) c f := by
  have hRl := blk_lt H.hr
  have grl := H.gr.lt
  have whl := H.wh.lt
  have cel := H.ce.lt
  have hFR := (Fr.refl (One R) w').one 10 uw'
  have hfw : Fr (fun b => uw.ownBlock = some b ∨ b = R) wr (w'.setCell ⟨R, 10, none⟩ uw') := (hF.mono (S' := fun b => uw.ownBlock = some b ∨ b = R) (fun x hx => .inl (.inl hx))).trans hFR (fun x hx => .inl (.inr hx))
  have hw2 : ∀ b, b < wr.heap.size → uw.ownBlock ≠ some b → uw'.ownBlock ≠ some b := by
    intro b hb hn e
    rcases hu with hu | ⟨y, hu, hy⟩
    · exact hn (hu.symm.trans e)
    · rw [hu] at e
      injection e with e
      omega
  refine ⟨H.frBelow hfw (fun x hx => ?_), H.lo, H.bz, H.rz, hfw.blk H.b0 (fun h2 => ?_), ?_, H.gr.kept hfw (fun j hj h2 => ?_), ?_, H.ce.kept hfw (fun j hj h2 => ?_), H.rg, hw2 R hRl H.rw, H.rc, fun b hb hg => hw2 b (grl b hg).2 (fun e => H.gw b e hg) hb, H.gc, fun b hb hc => hw2 b (cel b hc).2 (fun e => H.wc b e hc) hb⟩
  · rcases hx with hx | rfl
    · exact (whl x hx).1
    · exact H.rz
  · have hbz := H.bz
    rcases h2 with h2 | h2
    · have := (whl B h2).1; omega
    · have := H.rz; omega
  · exact blk_set (hF.blk H.hr (fun h2 => H.rw h2)) 10 uw'
  · rcases h2 with h2 | rfl
    · exact H.gw j h2 hj
    · exact H.rg hj
  · rw [take_next hx]
    have : intCells ((P.map whereOf).take k ++ [x]) = intCells ((P.map whereOf).take k) ++ [.int .i64 x] := by simp [intCells]
    rw [this]
    exact own_kept hown hFR (fun b hb e => hw2 R hRl H.rw (hb.trans (congrArg some (e : b = R))))
  · rcases h2 with h2 | rfl
    · exact H.wc j h2 hj
    · exact H.rc hj
/-- A ceiling is put. -/
theorem RkW.put (H : RkW w wr B R Z CS S P tv n g V uw uc X k c f) {i : Nat} (hi : i < c) {r : Nat} (hr : r < S.resn.toNat) (v : Int) (e : ∀ a, a < c → ∀ b, b < S.resn.toNat → f' a b = if a = i ∧ b = r then v else f a b) :
    RkW w (wr.setCell ⟨X i, r, none⟩ (.int .i64 v)) B R Z CS S P tv n g V uw uc X k c f' := by
  have hF := (Fr.refl (One (X i)) wr).one r (.int .i64 v)
  have hs : CTSet uc c X (X i) := .inr ⟨i, hi, rfl⟩
  have hl := H.ce.lo i hi
  refine ⟨H.frBelow hF (fun x hx => by cases hx; exact hl), H.lo, H.bz, H.rz, hF.blk H.b0 (fun h2 => by have h3 : B = X i := h2; have := H.bz; omega), hF.blk H.hr (fun h2 => H.rc (by have h3 : R = X i := h2; rw [h3]; exact hs)), H.gr.kept hF (fun j hj h2 => by have h3 : j = X i := h2; subst h3; exact H.gc _ hs hj), own_kept H.wh hF (fun j hj h2 => by have h3 : j = X i := h2; subst h3; exact H.wc _ hj hs), H.ce.put hi hr v e, H.rg, H.rw, H.rc, H.gw, H.gc, H.wc⟩
theorem RkW.congr (H : RkW w wr B R Z CS S P tv n g V uw uc X k c f) (e : ∀ i, i < c → ∀ j, j < S.resn.toNat → f' i j = f i j) : RkW w wr B R Z CS S P tv n g V uw uc X k c f' :=
  ⟨H.below, H.lo, H.bz, H.rz, H.b0, H.hr, H.gr, H.wh, H.ce.congr e, H.rg, H.rw, H.rc, H.gw, H.gc, H.wc⟩
end
end Go.Proofs.Ytppildaahmlfmaa
