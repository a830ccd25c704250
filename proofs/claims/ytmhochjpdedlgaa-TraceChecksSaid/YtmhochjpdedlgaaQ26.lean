/- Joined: Stab6. -/
import Derived.Test.YtmhochjpdedlgaaQ25
set_option linter.unusedVariables false
set_option linter.unusedSimpArgs false
/- slices.SortStableFunc at parts, by deadlines, at most 39 of them (contract). -/
set_option linter.unusedVariables false
set_option linter.unusedSimpArgs false
namespace Go.Proofs.Ytmhochjpdedlgaa
open Go.RowKit Go.Sort

def fnL (l : List Pt) (x : Pt) : Nat → Pt := fun i => (l[i]?).getD x
theorem fnL_get {l : List Pt} (x : Pt) {i : Nat} {y : Pt} (h : l[i]? = some y) : fnL l x i = y := by unfold fnL; rw [h]; rfl
theorem rowL_fn (l : List Pt) (x : Pt) : rowL (fnL l x) l.length = l := by
  apply List.ext_getElem?
  intro i
  by_cases h : i < l.length
  · rw [rowL_get _ h, fnL_get x (List.getElem?_eq_getElem h), List.getElem?_eq_getElem h]
  · rw [List.getElem?_eq_none (by rw [rowL_len]; omega), List.getElem?_eq_none (by omega)]
theorem mem_rowL {d : Nat → Pt} {n : Nat} {x : Pt} : x ∈ rowL d n ↔ ∃ i, i < n ∧ d i = x := by simp [rowL]
theorem rowL_sorted {d : Nat → Pt} {n : Nat} (h : Sd ptO d 0 n) : (rowL d n).Pairwise ptO.R := by
  unfold rowL
  rw [List.pairwise_map]
  refine List.Pairwise.imp_of_mem ?_ List.pairwise_lt_range
  intro a b ha hb hlt
  exact h a b (Nat.zero_le _) hlt (by simpa using hb)
theorem rowL_mem {d d' : Nat → Pt} {n : Nat} (h : Mv 0 n d d') (x : Pt) : x ∈ rowL d' n ↔ x ∈ rowL d n := by
  rw [mem_rowL, mem_rowL]
  constructor
  · rintro ⟨i, hi, rfl⟩
    obtain ⟨j, _, hj, e⟩ := h.fro i (Nat.zero_le _) hi
    exact ⟨j, hj, e.symm⟩
  · rintro ⟨i, hi, rfl⟩
    obtain ⟨j, _, hj, e⟩ := h.to i (Nat.zero_le _) hi
    exact ⟨j, hj, e⟩
theorem Rising.sub {α : Type} {O : Order α} {d : Nat → α} {a b a' b' : Nat} (h : Rising O d a b) (ha : a ≤ a') (hb : b' ≤ b) : Rising O d a' b' := fun i j h1 h2 h3 => h i j (by omega) h2 (by omega)
/-- Two sorted halves of a rising row. -/
theorem two_halves {α : Type} {O : Order α} {d d1 d2 : Nat → α} {m n : Nat} (hr : Rising O d 0 n) (h1 : Mv 0 m d d1) (s1 : Sd O d1 0 m) (h2 : Mv m n d1 d2) (s2 : Sd O d2 m n) (hm : m ≤ n) : Two2 O d2 0 m n ∧ Mv 0 n d d2 := by
  refine ⟨⟨fun i j p q r => ?_, s2, fun i j p q r t => ?_, Nat.zero_le _, hm⟩, (h1.wide (Nat.le_refl _) hm).trans (h2.wide (Nat.zero_le _) (Nat.le_refl _))⟩
  · rw [h2.out i (by omega), h2.out j (by omega)]; exact s1 i j p q r
  · rw [h2.out i (by omega)]
    obtain ⟨i', _, i2, e⟩ := h1.fro i p q
    obtain ⟨j', j1, j2, e2⟩ := h2.fro j r t
    rw [e, e2, h1.out j' (by omega)]
    exact hr i' j' (Nat.zero_le _) (by omega) j2
section
variable {w : World} {base : Nat}
set_option maxRecDepth 100000 in
set_option maxHeartbeats 6400000 in
theorem stable_any (d : Nat → Pt) (g n cap : Nat) (H : PR w base g n cap d) (hr : Rising ptO d 0 n) (hn : n ≤ 39) (h0 : 0 < n) :
    Calls Try.prog 91 #[.slice (some ⟨g, 0, none⟩) n cap, .int .i64 n, .func (.func 60) #[] #[]] w fun e w' => e = .returned (.tuple #[]) ∧ ∃ d', PR w' base g n cap d' ∧ Mv 0 n d d' ∧ Sd ptO d' 0 n ∧ Fr (One g) w w' := by
  have HH := hid H
  have HR := hid hr
  have mixed := Try.mixed_
  clear H hr
  rcases Nat.lt_or_ge n 20 with hlt | hge
  · have HI := hid (insertion_any d g n cap 0 n HH.out HR.out (Nat.zero_le _) (Nat.le_refl _) (by omega))
    go_enter Try.func91, Try.ntmps91
    go_wp2_with fail
    refine wp_loop_rounds 1 ?_
    rw [rounds_succ]
    go_wp2_with fail
    refine HI.out.mono ?_
    rintro e w1 ⟨rfl, d1, hp, hm, hs, hf⟩
    have HQ := hid (⟨hp, hm, hs, hf⟩ : PR w1 base g n cap d1 ∧ Mv 0 n d d1 ∧ Sd ptO d1 0 n ∧ Fr (One g) w w1)
    clear hp hm hs hf
    go_wp2_with fail
    refine wp_loop_rounds 1 ?_
    rw [rounds_succ]
    go_wp2_with fail
    go_end0
    exact ⟨rfl, d1, HQ.out⟩
  · have HI := hid (insertion_any d g n cap 0 20 HH.out (HR.out.sub (Nat.le_refl _) hge) (Nat.zero_le _) hge (by omega))
    go_enter Try.func91, Try.ntmps91
    go_wp2_with fail
    refine wp_loop_rounds 2 ?_
    rw [rounds_succ]
    go_wp2_with fail
    refine HI.out.mono ?_
    rintro e w1 ⟨rfl, d1, hp, hm, hs, hf⟩
    have HI2 := hid (insertion_any d1 g n cap 20 n hp (fun i j h1 h2 h3 => by rw [hm.out i (by omega), hm.out j (by omega)]; exact HR.out i j (by omega) h2 h3) hge (Nat.le_refl _) (by omega))
    have HQ := hid (⟨hm, hs, hf⟩ : Mv 0 20 d d1 ∧ Sd ptO d1 0 20 ∧ Fr (One g) w w1)
    clear hp hm hs hf
    go_wp2_with fail
    rw [rounds_succ]
    go_wp2_with fail
    refine HI2.out.mono ?_
    rintro e w2 ⟨rfl, d2, hp, hm, hs, hf⟩
    have HP2 := hid hp
    have HT := hid (two_halves HR.out HQ.out.1 HQ.out.2.1 hm hs hge)
    have HF2 := hid (HQ.out.2.2.trans hf (fun x hx => .inl hx))
    clear hp hm hs hf HI HI2 HQ
    by_cases h20 : n = 20
    case pos =>
      subst h20
      go_wp2_with fail
      refine wp_loop_rounds 1 ?_
      rw [rounds_succ]
      go_wp2_with fail
      go_end0
      exact ⟨rfl, d2, HP2.out, HT.out.2, HT.out.1.idle (by omega), HF2.out⟩
    case neg =>
      have hgt : 20 < n := by omega
      have HM := hid (merge_to (base := base) g n cap (by omega) (n - 0 + 1) w2 d2 0 20 n (by omega) HP2.out HT.out.1 (by omega) hgt (Nat.le_refl _))
      go_wp2_with fail
      refine wp_loop_rounds 2 ?_
      rw [rounds_succ]
      go_wp2_with fail
      refine wp_loop_rounds 1 ?_
      rw [rounds_succ]
      go_wp2_with fail
      refine HM.out.mono ?_
      rintro e w3 ⟨rfl, d3, hp, hm, hs, hf⟩
      have HQ := hid (⟨hp, HT.out.2.trans hm, hs, HF2.out.trans hf (fun x hx => .inl hx)⟩ : PR w3 base g n cap d3 ∧ Mv 0 n d d3 ∧ Sd ptO d3 0 n ∧ Fr (One g) w w3)
      clear hp hm hs hf
      go_wp2_with fail
      rw [rounds_succ]
      go_wp2_with fail
      go_end0
      exact ⟨rfl, d3, HQ.out⟩
set_option maxRecDepth 100000 in
theorem sortstable_any (l : List Pt) (g n cap : Nat) (H : w.ownsRow base 107 7 (.slice (some ⟨g, 0, none⟩) n cap) n (flat encPt l)) (hn : n = l.length) (h39 : n ≤ 39) (h0 : 0 < n) (hr : l.Pairwise fun x y => x.task < y.task) :
    Calls Try.prog 59 #[.slice (some ⟨g, 0, none⟩) n cap, .func (.func 60) #[] #[]] w fun e w' => e = .returned (.tuple #[]) ∧ ∃ l', w'.ownsRow base 107 7 (.slice (some ⟨g, 0, none⟩) n cap) n (flat encPt l') ∧ l'.length = n ∧ (∀ x, x ∈ l' ↔ x ∈ l) ∧ l'.Pairwise ptO.R ∧ Fr (One g) w w' := by
  obtain ⟨x, hx⟩ : ∃ x, l[0]? = some x := ⟨_, List.getElem?_eq_getElem (by omega)⟩
  have hd : rowL (fnL l x) n = l := by rw [hn]; exact rowL_fn l x
  have hP : PR w base g n cap (fnL l x) := by unfold PR; rw [hd]; exact H
  have hri : Rising ptO (fnL l x) 0 n := fun i j h1 h2 h3 => by
    have hi : l[i]? = some l[i] := List.getElem?_eq_getElem (by omega)
    have hj : l[j]? = some l[j] := List.getElem?_eq_getElem (by omega)
    rw [fnL_get x hi, fnL_get x hj]
    have := List.pairwise_iff_getElem.1 hr i j (by omega) (by omega) h2
    show ((l[i].task : Nat) : Int) < ((l[j].task : Nat) : Int)
    omega
  have HS := hid (stable_any (fnL l x) g n cap hP hri h39 h0)
  have HD := hid hd
  clear hd hP hri H hr hx hn
  go_enter Try.func59, Try.ntmps59
  go_wp2_with fail
  refine HS.out.mono ?_
  rintro e w1 ⟨rfl, d1, hp, hm, hs, hf⟩
  have HQ := hid (⟨hp, hm, hs, hf⟩ : PR w1 base g n cap d1 ∧ Mv 0 n (fnL l x) d1 ∧ Sd ptO d1 0 n ∧ Fr (One g) w w1)
  clear hp hm hs hf
  go_wp2_with fail
  go_end0
  obtain ⟨hp, hm, hs, hf⟩ := HQ.out
  refine ⟨rfl, rowL d1 n, hp, rowL_len _ _, fun y => ?_, rowL_sorted hs, hf⟩
  rw [rowL_mem hm, HD.out]
end
end Go.Proofs.Ytmhochjpdedlgaa
