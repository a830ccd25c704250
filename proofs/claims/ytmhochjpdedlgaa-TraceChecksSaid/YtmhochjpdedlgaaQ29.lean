/- Joined: Stab7. -/
import Derived.Test.YtmhochjpdedlgaaQ26
import Derived.Test.YtmhochjpdedlgaaQ28
set_option linter.unusedVariables false
set_option linter.unusedSimpArgs false
/- slices.DeleteFunc and slices.SortStableFunc at parts, whatever the row (contracts). -/
set_option linter.unusedVariables false
set_option linter.unusedSimpArgs false
namespace Go.Proofs.Ytmhochjpdedlgaa
open Go.RowKit Go.Sort

/-- The block of a row. -/
def OfV (v : Value) : Nat → Prop := fun k => v.ownBlock = some k
section
variable {w : World} {base : Nat}
set_option maxRecDepth 100000 in
theorem delfunc_nil (B : Nat) (pol : Int) (hb : B < w.heap.size) (h : w.cell? ⟨B, 1, none⟩ = some (.int .i64 pol)) :
    Calls Try.prog 57 #[.slice none 0 0, .func (.func 58) #[] #[.pointer (some ⟨B, 0, none⟩)]] w fun e w' => e = .returned (.slice none 0 0) ∧ Below w.heap.size w w' := by
  have HIX := hid (idx_any [] none 0 0 B pol (Rowp.nil _ _ _) hb h)
  clear hb h
  go_enter Try.func57, Try.ntmps57
  go_wp2_with fail
  refine HIX.out.mono ?_
  rintro e w1 ⟨r, rfl, hfo, hb1⟩
  have HB := hid hb1
  have hr : r = -1 := by
    rcases hfo with ⟨h, _⟩ | ⟨k, x, _, h, _⟩
    · exact h
    · simp at h
  subst hr
  clear hfo hb1
  go_wp2_with fail
  go_ret
  exact ⟨rfl, HB.out⟩
theorem delfunc_all (l : List Pt) (v : Value) (n B : Nat) (pol : Int) (hown : w.ownsRow base 107 7 v n (flat encPt l)) (hn : n = l.length) (hb : B < w.heap.size) (hgB : ∀ k, v.ownBlock = some k → k ≠ B) (h : w.cell? ⟨B, 1, none⟩ = some (.int .i64 pol)) :
    Calls Try.prog 57 #[v, .func (.func 58) #[] #[.pointer (some ⟨B, 0, none⟩)]] w fun e w' =>
      ∃ v', e = .returned v' ∧ w'.ownsRow base 107 7 v' (keepL pol l).length (flat encPt (keepL pol l)) ∧ Fr (OfV v) w w' ∧ v'.ownBlock = v.ownBlock := by
  rcases hown.2 with ⟨rfl, h0⟩ | ⟨g, cap, cur, rfl, hbg, hg, hcap, hcm, hsz, htk⟩
  · subst h0
    have hl : l = [] := List.length_eq_zero_iff.1 hn.symm
    subst hl
    refine (delfunc_nil B pol hb h).mono ?_
    rintro e w' ⟨rfl, hbel⟩
    exact ⟨_, rfl, World.ownsRow_nil _ _ _ _, Fr.of_below hbel, rfl⟩
  · refine (delfunc_any l g n cap B pol hown hn hb (hgB g rfl) h).mono ?_
    rintro e w' ⟨m, c, rfl, ho, rfl, hf⟩
    exact ⟨_, rfl, ho, hf.mono (fun x hx => .inl (by cases hx; rfl)), rfl⟩
set_option maxRecDepth 100000 in
theorem insertion_none (v : Value) (cv : Value) :
    Calls Try.prog 107 #[v, .int .i64 0, .int .i64 0, cv] w fun e w' => e = .returned (.tuple #[]) ∧ w' = w := by
  go_enter Try.func107, Try.ntmps107
  go_wp2_with fail
  refine wp_loop_rounds 1 ?_
  rw [rounds_succ]
  go_wp2_with fail
  go_end0
  exact ⟨rfl, rfl⟩
set_option maxRecDepth 100000 in
theorem stable_none (v : Value) (cv : Value) :
    Calls Try.prog 91 #[v, .int .i64 0, cv] w fun e w' => e = .returned (.tuple #[]) ∧ w' = w := by
  have HI := hid (insertion_none (w := w) v cv)
  go_enter Try.func91, Try.ntmps91
  go_wp2_with fail
  refine wp_loop_rounds 1 ?_
  rw [rounds_succ]
  go_wp2_with fail
  refine HI.out.mono ?_
  rintro e w1 ⟨rfl, rfl⟩
  go_wp2_with fail
  refine wp_loop_rounds 1 ?_
  rw [rounds_succ]
  go_wp2_with fail
  go_end0
  exact ⟨rfl, rfl⟩
set_option maxRecDepth 100000 in
theorem sortstable_none (A : Option Addr) (c : Nat) (cv : Value) :
    Calls Try.prog 59 #[.slice A 0 c, cv] w fun e w' => e = .returned (.tuple #[]) ∧ w' = w := by
  have HI := hid (stable_none (w := w) (.slice A 0 c) cv)
  go_enter Try.func59, Try.ntmps59
  go_wp2_with fail
  refine HI.out.mono ?_
  rintro e w1 ⟨rfl, rfl⟩
  go_wp2_with fail
  go_end0
  exact ⟨rfl, rfl⟩
theorem sort_all (l : List Pt) (v : Value) (n : Nat) (H : w.ownsRow base 107 7 v n (flat encPt l)) (hn : n = l.length) (h39 : n ≤ 39) (hr : l.Pairwise fun x y => x.task < y.task) :
    Calls Try.prog 59 #[v, .func (.func 60) #[] #[]] w fun e w' => e = .returned (.tuple #[]) ∧ ∃ l', w'.ownsRow base 107 7 v n (flat encPt l') ∧ l'.length = n ∧ (∀ x, x ∈ l' ↔ x ∈ l) ∧ l'.Pairwise ptO.R ∧ Fr (OfV v) w w' := by
  rcases Nat.eq_zero_or_pos n with h0 | h0
  · obtain ⟨A, c, rfl⟩ := own_slice H
    subst h0
    refine (sortstable_none A c _).mono ?_
    rintro e w' ⟨rfl, rfl⟩
    have hl : l = [] := List.length_eq_zero_iff.1 hn.symm
    subst hl
    exact ⟨rfl, [], H, rfl, fun _ => Iff.rfl, List.Pairwise.nil, Fr.refl _ _⟩
  · obtain ⟨g, cap, cur, rfl, _⟩ := own_shape H h0
    refine (sortstable_any l g n cap H hn h39 h0 hr).mono ?_
    rintro e w' ⟨rfl, l', h1, h2, h3, h4, h5⟩
    exact ⟨rfl, l', h1, h2, h3, h4, h5.mono (fun x hx => .inl (by cases hx; rfl))⟩
end
end Go.Proofs.Ytmhochjpdedlgaa
