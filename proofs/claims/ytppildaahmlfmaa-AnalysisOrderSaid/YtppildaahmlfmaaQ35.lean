/- Joined: Stab6, Stab7, RankPlain. -/
import Derived.Test.YtppildaahmlfmaaQ32
import Derived.Test.YtppildaahmlfmaaQ34
import Derived.Test.YtppildaahmlfmaaQ22
set_option linter.unusedVariables false
set_option linter.unusedSimpArgs false
/- slices.SortStableFunc at parts, by deadlines, at most 39 of them (contract). -/
set_option linter.unusedVariables false
set_option linter.unusedSimpArgs false
namespace Go.Proofs.Ytppildaahmlfmaa
open Go.RowKit Go.Sort

def fnL (l : List Pt) (x : Pt) : Nat → Pt := fun i => (l[i]?).getD x
theorem fnL_get {l : List Pt} (x : Pt) {i : Nat} {y : Pt} (h : l[i]? = some y) : fnL l x i = y := by unfold fnL; rw [h]; rfl
theorem rowL_fn (l : List Pt) (x : Pt) : rowL (fnL l x) l.length = l := by
  apply List.ext_getElem?
  intro i
  by_cases h : i < l.length
  · rw [rowL_get _ h, fnL_get x (List.getElem?_eq_getElem h), List.getElem?_eq_getElem h]
  · rw [List.getElem?_eq_none (by rw [rowL_len]; omega), List.getElem?_eq_none (by omega)]
theorem mem_rowL {d : Nat → Pt} {n : Nat} {x : Pt} : x ∈ rowL d n ↔ ∃ i, i < n ∧ d i = x := by simp [rowL]
theorem rowL_sorted {d : Nat → Pt} {n : Nat} (h : Sd ptO d 0 n) : (rowL d n).Pairwise ptO.R := by
  unfold rowL
  rw [List.pairwise_map]
  refine List.Pairwise.imp_of_mem ?_ List.pairwise_lt_range
  intro a b ha hb hlt
  exact h a b (Nat.zero_le _) hlt (by simpa using hb)
theorem rowL_mem {d d' : Nat → Pt} {n : Nat} (h : Mv 0 n d d') (x : Pt) : x ∈ rowL d' n ↔ x ∈ rowL d n := by
  rw [mem_rowL, mem_rowL]
  constructor
  · rintro ⟨i, hi, rfl⟩
    obtain ⟨j, _, hj, e⟩ := h.fro i (Nat.zero_le _) hi
    exact ⟨j, hj, e.symm⟩
  · rintro ⟨i, hi, rfl⟩
    obtain ⟨j, _, hj, e⟩ := h.to i (Nat.zero_le _) hi
    exact ⟨j, hj, e⟩
theorem Rising.sub {α : Type} {O : Order α} {d : Nat → α} {a b a' b' : Nat} (h : Rising O d a b) (ha : a ≤ a') (hb : b' ≤ b) : Rising O d a' b' := fun i j h1 h2 h3 => h i j (by omega) h2 (by omega)
/-- Two sorted halves of a rising row. -/
theorem two_halves {α : Type} {O : Order α} {d d1 d2 : Nat → α} {m n : Nat} (hr : Rising O d 0 n) (h1 : Mv 0 m d d1) (s1 : Sd O d1 0 m) (h2 : Mv m n d1 d2) (s2 : Sd O d2 m n) (hm : m ≤ n) : Two2 O d2 0 m n ∧ Mv 0 n d d2 := by
  refine ⟨⟨fun i j p q r => ?_, s2, fun i j p q r t => ?_, Nat.zero_le _, hm⟩, (h1.wide (Nat.le_refl _) hm).trans (h2.wide (Nat.zero_le _) (Nat.le_refl _))⟩
  · rw [h2.out i (by omega), h2.out j (by omega)]; exact s1 i j p q r
  · rw [h2.out i (by omega)]
    obtain ⟨i', _, i2, e⟩ := h1.fro i p q
    obtain ⟨j', j1, j2, e2⟩ := h2.fro j r t
    rw [e, e2, h1.out j' (by omega)]
    exact hr i' j' (Nat.zero_le _) (by omega) j2
section
variable {w : World} {base : Nat}
set_option maxRecDepth 100000 in
set_option maxHeartbeats 6400000 in
theorem stable_any (d : Nat → Pt) (g n cap : Nat) (H : PR w base g n cap d) (hr : Rising ptO d 0 n) (hn : n ≤ 39) (h0 : 0 < n) :
    Calls Try.prog 50 #[.slice (some ⟨g, 0, none⟩) n cap, .int .i64 n, .func (.func 32) #[] #[]] w fun e w' => e = .returned (.tuple #[]) ∧ ∃ d', PR w' base g n cap d' ∧ Mv 0 n d d' ∧ Sd ptO d' 0 n ∧ Fr (One g) w w' := by
  have HH := hid H
  have HR := hid hr
  have mixed := Try.mixed_
  clear H hr
  rcases Nat.lt_or_ge n 20 with hlt | hge
  · have HI := hid (insertion_any d g n cap 0 n HH.out HR.out (Nat.zero_le _) (Nat.le_refl _) (by omega))
    go_enter Try.func50, Try.ntmps50
    go_wp2_with fail
    refine wp_loop_rounds 1 ?_
    rw [rounds_succ]
    go_wp2_with fail
    refine HI.out.mono ?_
    rintro e w1 ⟨rfl, d1, hp, hm, hs, hf⟩
    have HQ := hid (⟨hp, hm, hs, hf⟩ : PR w1 base g n cap d1 ∧ Mv 0 n d d1 ∧ Sd ptO d1 0 n ∧ Fr (One g) w w1)
    clear hp hm hs hf
    go_wp2_with fail
    refine wp_loop_rounds 1 ?_
    rw [rounds_succ]
    go_wp2_with fail
    go_end0
    exact ⟨rfl, d1, HQ.out⟩
  · have HI := hid (insertion_any d g n cap 0 20 HH.out (HR.out.sub (Nat.le_refl _) hge) (Nat.zero_le _) hge (by omega))
    go_enter Try.func50, Try.ntmps50
    go_wp2_with fail
    refine wp_loop_rounds 2 ?_
    rw [rounds_succ]
    go_wp2_with fail
    refine HI.out.mono ?_
    rintro e w1 ⟨rfl, d1, hp, hm, hs, hf⟩
    have HI2 := hid (insertion_any d1 g n cap 20 n hp (fun i j h1 h2 h3 => by rw [hm.out i (by omega), hm.out j (by omega)]; exact HR.out i j (by omega) h2 h3) hge (Nat.le_refl _) (by omega))
    have HQ := hid (⟨hm, hs, hf⟩ : Mv 0 20 d d1 ∧ Sd ptO d1 0 20 ∧ Fr (One g) w w1)
    clear hp hm hs hf
    go_wp2_with fail
    rw [rounds_succ]
    go_wp2_with fail
    refine HI2.out.mono ?_
    rintro e w2 ⟨rfl, d2, hp, hm, hs, hf⟩
    have HP2 := hid hp
    have HT := hid (two_halves HR.out HQ.out.1 HQ.out.2.1 hm hs hge)
    have HF2 := hid (HQ.out.2.2.trans hf (fun x hx => .inl hx))
    clear hp hm hs hf HI HI2 HQ
    by_cases h20 : n = 20
    case pos =>
      subst h20
      go_wp2_with fail
      refine wp_loop_rounds 1 ?_
      rw [rounds_succ]
      go_wp2_with fail
      go_end0
      exact ⟨rfl, d2, HP2.out, HT.out.2, HT.out.1.idle (by omega), HF2.out⟩
    case neg =>
      have hgt : 20 < n := by omega
      have HM := hid (merge_to (base := base) g n cap (by omega) (n - 0 + 1) w2 d2 0 20 n (by omega) HP2.out HT.out.1 (by omega) hgt (Nat.le_refl _))
      go_wp2_with fail
      refine wp_loop_rounds 2 ?_
      rw [rounds_succ]
      go_wp2_with fail
      refine wp_loop_rounds 1 ?_
      rw [rounds_succ]
      go_wp2_with fail
      refine HM.out.mono ?_
      rintro e w3 ⟨rfl, d3, hp, hm, hs, hf⟩
      have HQ := hid (⟨hp, HT.out.2.trans hm, hs, HF2.out.trans hf (fun x hx => .inl hx)⟩ : PR w3 base g n cap d3 ∧ Mv 0 n d d3 ∧ Sd ptO d3 0 n ∧ Fr (One g) w w3)
      clear hp hm hs hf
      go_wp2_with fail
      rw [rounds_succ]
      go_wp2_with fail
      go_end0
      exact ⟨rfl, d3, HQ.out⟩
set_option maxRecDepth 100000 in
theorem sortstable_any (l : List Pt) (g n cap : Nat) (H : w.ownsRow base 67 7 (.slice (some ⟨g, 0, none⟩) n cap) n (flat encPt l)) (hn : n = l.length) (h39 : n ≤ 39) (h0 : 0 < n) (hr : l.Pairwise fun x y => x.task < y.task) :
    Calls Try.prog 31 #[.slice (some ⟨g, 0, none⟩) n cap, .func (.func 32) #[] #[]] w fun e w' => e = .returned (.tuple #[]) ∧ ∃ l', w'.ownsRow base 67 7 (.slice (some ⟨g, 0, none⟩) n cap) n (flat encPt l') ∧ l'.length = n ∧ (∀ x, x ∈ l' ↔ x ∈ l) ∧ l'.Pairwise ptO.R ∧ Fr (One g) w w' := by
  obtain ⟨x, hx⟩ : ∃ x, l[0]? = some x := ⟨_, List.getElem?_eq_getElem (by omega)⟩
  have hd : rowL (fnL l x) n = l := by rw [hn]; exact rowL_fn l x
  have hP : PR w base g n cap (fnL l x) := by unfold PR; rw [hd]; exact H
  have hri : Rising ptO (fnL l x) 0 n := fun i j h1 h2 h3 => by
    have hi : l[i]? = some l[i] := List.getElem?_eq_getElem (by omega)
    have hj : l[j]? = some l[j] := List.getElem?_eq_getElem (by omega)
    rw [fnL_get x hi, fnL_get x hj]
    have := List.pairwise_iff_getElem.1 hr i j (by omega) (by omega) h2
    show ((l[i].task : Nat) : Int) < ((l[j].task : Nat) : Int)
    omega
  have HS := hid (stable_any (fnL l x) g n cap hP hri h39 h0)
  have HD := hid hd
  clear hd hP hri H hr hx hn
  go_enter Try.func31, Try.ntmps31
  go_wp2_with fail
  refine HS.out.mono ?_
  rintro e w1 ⟨rfl, d1, hp, hm, hs, hf⟩
  have HQ := hid (⟨hp, hm, hs, hf⟩ : PR w1 base g n cap d1 ∧ Mv 0 n (fnL l x) d1 ∧ Sd ptO d1 0 n ∧ Fr (One g) w w1)
  clear hp hm hs hf
  go_wp2_with fail
  go_end0
  obtain ⟨hp, hm, hs, hf⟩ := HQ.out
  refine ⟨rfl, rowL d1 n, hp, rowL_len _ _, fun y => ?_, rowL_sorted hs, hf⟩
  rw [rowL_mem hm, HD.out]
end
end Go.Proofs.Ytppildaahmlfmaa
/- slices.DeleteFunc and slices.SortStableFunc at parts, whatever the row (contracts). -/
set_option linter.unusedVariables false
set_option linter.unusedSimpArgs false
namespace Go.Proofs.Ytppildaahmlfmaa
open Go.RowKit Go.Sort

/-- The block of a row. -/
def OfV (v : Value) : Nat → Prop := fun k => v.ownBlock = some k
section
variable {w : World} {base : Nat}
set_option maxRecDepth 100000 in
theorem delfunc_nil (B : Nat) (pol : Int) (hb : B < w.heap.size) (h : w.cell? ⟨B, 1, none⟩ = some (.int .i64 pol)) :
    Calls Try.prog 29 #[.slice none 0 0, .func (.func 30) #[] #[.pointer (some ⟨B, 0, none⟩)]] w fun e w' => e = .returned (.slice none 0 0) ∧ Below w.heap.size w w' := by
  have HIX := hid (idx_any [] none 0 0 B pol (Rowp.nil _ _ _) hb h)
  clear hb h
  go_enter Try.func29, Try.ntmps29
  go_wp2_with fail
  refine HIX.out.mono ?_
  rintro e w1 ⟨r, rfl, hfo, hb1⟩
  have HB := hid hb1
  have hr : r = -1 := by
    rcases hfo with ⟨h, _⟩ | ⟨k, x, _, h, _⟩
    · exact h
    · simp at h
  subst hr
  clear hfo hb1
  go_wp2_with fail
  go_ret
  exact ⟨rfl, HB.out⟩
theorem delfunc_all (l : List Pt) (v : Value) (n B : Nat) (pol : Int) (hown : w.ownsRow base 67 7 v n (flat encPt l)) (hn : n = l.length) (hb : B < w.heap.size) (hgB : ∀ k, v.ownBlock = some k → k ≠ B) (h : w.cell? ⟨B, 1, none⟩ = some (.int .i64 pol)) :
    Calls Try.prog 29 #[v, .func (.func 30) #[] #[.pointer (some ⟨B, 0, none⟩)]] w fun e w' =>
      ∃ v', e = .returned v' ∧ w'.ownsRow base 67 7 v' (keepL pol l).length (flat encPt (keepL pol l)) ∧ Fr (OfV v) w w' ∧ v'.ownBlock = v.ownBlock := by
  rcases hown.2 with ⟨rfl, h0⟩ | ⟨g, cap, cur, rfl, hbg, hg, hcap, hcm, hsz, htk⟩
  · subst h0
    have hl : l = [] := List.length_eq_zero_iff.1 hn.symm
    subst hl
    refine (delfunc_nil B pol hb h).mono ?_
    rintro e w' ⟨rfl, hbel⟩
    exact ⟨_, rfl, World.ownsRow_nil _ _ _ _, Fr.of_below hbel, rfl⟩
  · refine (delfunc_any l g n cap B pol hown hn hb (hgB g rfl) h).mono ?_
    rintro e w' ⟨m, c, rfl, ho, rfl, hf⟩
    exact ⟨_, rfl, ho, hf.mono (fun x hx => .inl (by cases hx; rfl)), rfl⟩
set_option maxRecDepth 100000 in
theorem insertion_none (v : Value) (cv : Value) :
    Calls Try.prog 64 #[v, .int .i64 0, .int .i64 0, cv] w fun e w' => e = .returned (.tuple #[]) ∧ w' = w := by
  go_enter Try.func64, Try.ntmps64
  go_wp2_with fail
  refine wp_loop_rounds 1 ?_
  rw [rounds_succ]
  go_wp2_with fail
  go_end0
  exact ⟨rfl, rfl⟩
set_option maxRecDepth 100000 in
theorem stable_none (v : Value) (cv : Value) :
    Calls Try.prog 50 #[v, .int .i64 0, cv] w fun e w' => e = .returned (.tuple #[]) ∧ w' = w := by
  have HI := hid (insertion_none (w := w) v cv)
  go_enter Try.func50, Try.ntmps50
  go_wp2_with fail
  refine wp_loop_rounds 1 ?_
  rw [rounds_succ]
  go_wp2_with fail
  refine HI.out.mono ?_
  rintro e w1 ⟨rfl, rfl⟩
  go_wp2_with fail
  refine wp_loop_rounds 1 ?_
  rw [rounds_succ]
  go_wp2_with fail
  go_end0
  exact ⟨rfl, rfl⟩
set_option maxRecDepth 100000 in
theorem sortstable_none (A : Option Addr) (c : Nat) (cv : Value) :
    Calls Try.prog 31 #[.slice A 0 c, cv] w fun e w' => e = .returned (.tuple #[]) ∧ w' = w := by
  have HI := hid (stable_none (w := w) (.slice A 0 c) cv)
  go_enter Try.func31, Try.ntmps31
  go_wp2_with fail
  refine HI.out.mono ?_
  rintro e w1 ⟨rfl, rfl⟩
  go_wp2_with fail
  go_end0
  exact ⟨rfl, rfl⟩
theorem sort_all (l : List Pt) (v : Value) (n : Nat) (H : w.ownsRow base 67 7 v n (flat encPt l)) (hn : n = l.length) (h39 : n ≤ 39) (hr : l.Pairwise fun x y => x.task < y.task) :
    Calls Try.prog 31 #[v, .func (.func 32) #[] #[]] w fun e w' => e = .returned (.tuple #[]) ∧ ∃ l', w'.ownsRow base 67 7 v n (flat encPt l') ∧ l'.length = n ∧ (∀ x, x ∈ l' ↔ x ∈ l) ∧ l'.Pairwise ptO.R ∧ Fr (OfV v) w w' := by
  rcases Nat.eq_zero_or_pos n with h0 | h0
  · obtain ⟨A, c, rfl⟩ := own_slice H
    subst h0
    refine (sortstable_none A c _).mono ?_
    rintro e w' ⟨rfl, rfl⟩
    have hl : l = [] := List.length_eq_zero_iff.1 hn.symm
    subst hl
    exact ⟨rfl, [], H, rfl, fun _ => Iff.rfl, List.Pairwise.nil, Fr.refl _ _⟩
  · obtain ⟨g, cap, cur, rfl, _⟩ := own_shape H h0
    refine (sortstable_any l g n cap H hn h39 h0 hr).mono ?_
    rintro e w' ⟨rfl, l', h1, h2, h3, h4, h5⟩
    exact ⟨rfl, l', h1, h2, h3, h4, h5.mono (fun x hx => .inl (by cases hx; rfl))⟩
end
end Go.Proofs.Ytppildaahmlfmaa
/- analysis.Rank as plain data: the sorted pieces of a core and their places. -/
set_option linter.unusedVariables false
set_option linter.unusedSimpArgs false
namespace Go.Proofs.Ytppildaahmlfmaa
open Go.RowKit

section
variable {S : Sy} {P : Pl} {c : Int} {x y : Pt}
theorem nodup_at {l : List Int} (h : l.Nodup) {i j : Nat} {a : Int} (hi : l[i]? = some a) (hj : l[j]? = some a) : i = j := by
  have hi' := List.getElem?_eq_some_iff.1 hi
  have hj' := List.getElem?_eq_some_iff.1 hj
  rcases Nat.lt_trichotomy i j with hlt | hlt | hlt
  · have := List.pairwise_iff_getElem.1 h i j hi'.1 hj'.1 hlt
    exact absurd (hi'.2.trans hj'.2.symm) this
  · exact hlt
  · have := List.pairwise_iff_getElem.1 h j i hj'.1 hi'.1 hlt
    exact absurd (hj'.2.trans hi'.2.symm) this
theorem same_task (hd : ∀ l ∈ P, (l.map Pc.core).Nodup) (hx : x ∈ partsOf P) (hy : y ∈ partsOf P) (ht : x.task = y.task) (hc : x.p.core = y.p.core) : x = y := by
  obtain ⟨l, hl, hk⟩ := mem_parts.1 hx
  obtain ⟨l', hl', hk'⟩ := mem_parts.1 hy
  rw [← ht, hl] at hl'
  injection hl' with e
  subst e
  have hn := hd l (List.mem_of_getElem? hl)
  have e : x.k = y.k := nodup_at hn (a := x.p.core) (by rw [List.getElem?_map, hk]; rfl) (by rw [List.getElem?_map, hk', hc]; rfl)
  rw [e, hk'] at hk
  injection hk with hk
  obtain ⟨xp, xt, xk⟩ := x
  obtain ⟨yp, yt, yk⟩ := y
  simp only at ht e hk
  subst ht e hk
  rfl
theorem pts_task {i : Nat} {l : List Pc} (h : x ∈ ptsOf i l) : x.task = i := by
  unfold ptsOf at h
  obtain ⟨k, hk, rfl⟩ := List.mem_mapIdx.1 h
  rfl
theorem pts_k (i : Nat) (l : List Pc) (a : Nat) (h : a < (ptsOf i l).length) : (ptsOf i l)[a].k = a := by simp [ptsOf]
theorem parts_sorted (P : Pl) : (partsOf P).Pairwise fun x y => x.task ≤ y.task := by
  unfold partsOf
  rw [List.pairwise_flatten]
  refine ⟨fun l hl => ?_, ?_⟩
  · obtain ⟨i, hi, rfl⟩ := List.mem_mapIdx.1 hl
    refine List.pairwise_iff_getElem.2 (fun a b ha hb hlt => ?_)
    rw [pts_task (List.getElem_mem ha), pts_task (List.getElem_mem hb)]
    exact Nat.le_refl _
  · refine List.pairwise_iff_getElem.2 (fun a b ha hb hlt x hx y hy => ?_)
    rw [List.getElem_mapIdx] at hx hy
    rw [pts_task hx, pts_task hy]
    omega
theorem parts_nodup (P : Pl) : (partsOf P).Pairwise fun x y => x.task < y.task ∨ (x.task = y.task ∧ x.k < y.k) := by
  unfold partsOf
  rw [List.pairwise_flatten]
  refine ⟨fun l hl => ?_, ?_⟩
  · obtain ⟨i, hi, rfl⟩ := List.mem_mapIdx.1 hl
    refine List.pairwise_iff_getElem.2 (fun a b ha hb hlt => ?_)
    exact .inr ⟨(pts_task (List.getElem_mem ha)).trans (pts_task (List.getElem_mem hb)).symm, by rw [pts_k, pts_k]; exact hlt⟩
  · refine List.pairwise_iff_getElem.2 (fun a b ha hb hlt x hx y hy => ?_)
    rw [List.getElem_mapIdx] at hx hy
    rw [pts_task hx, pts_task hy]
    exact .inl (by omega)
theorem on_rising (hd : ∀ l ∈ P, (l.map Pc.core).Nodup) (c : Int) : (onP P c).Pairwise fun x y => x.task < y.task := by
  unfold onP
  refine List.Pairwise.imp_of_mem ?_ ((parts_nodup P).filter _)
  intro a b ha hb hab
  rw [List.mem_filter] at ha hb
  have hca := of_decide_eq_true ha.2
  have hcb := of_decide_eq_true hb.2
  rcases hab with h | ⟨h1, h2⟩
  · exact h
  · have := same_task hd ha.1 hb.1 h1 (hca.trans hcb.symm)
    subst this
    omega
theorem keep_rising (hd : ∀ l ∈ P, (l.map Pc.core).Nodup) (pol c : Int) : (keepL pol (onP P c)).Pairwise fun x y => x.task < y.task := (on_rising hd c).filter _
theorem mem_keep {pol : Int} : x ∈ keepL pol (onP P c) ↔ x ∈ partsOf P ∧ x.p.core = c ∧ x.p.tight = false ∧ pol ≠ 2 := by
  unfold keepL onP outB
  rw [List.mem_filter, List.mem_filter]
  simp only [decide_eq_true_eq, Bool.not_eq_true', Bool.or_eq_false_iff, decide_eq_false_iff_not]
  exact ⟨fun h => ⟨h.1.1, h.1.2, h.2.1, h.2.2⟩, fun h => ⟨⟨h.1, h.2.1⟩, h.2.2.1, h.2.2.2⟩⟩
theorem rising_len {l : List Pt} {N : Nat} (h : l.Pairwise fun x y => x.task < y.task) (hN : ∀ x ∈ l, x.task < N) : l.length ≤ N := by
  have key : ∀ i (hi : i < l.length), i ≤ l[i].task := by
    intro i
    induction i with
    | zero => intro _; omega
    | succ i ih =>
      intro hi
      have h1 := ih (by omega)
      have h2 := List.pairwise_iff_getElem.1 h i (i + 1) (by omega) hi (by omega)
      omega
  rcases Nat.eq_zero_or_pos l.length with h0 | h0
  · omega
  · have h1 := key (l.length - 1) (by omega)
    have h2 := hN _ (List.getElem_mem (show l.length - 1 < l.length by omega))
    omega
theorem on_len (hd : ∀ l ∈ P, (l.map Pc.core).Nodup) (c : Int) : (onP P c).length ≤ P.length := rising_len (on_rising hd c) (fun x hx => by
  unfold onP at hx
  rw [List.mem_filter] at hx
  obtain ⟨l, hl, _⟩ := mem_parts.1 hx.1
  exact (List.getElem?_eq_some_iff.1 hl).1)
/-- How many of a sorted list go ahead of one. -/
theorem sorted_count {α : Type} {R : α → α → Prop} {l : List α} {j : Nat} {x : α} (hs : l.Pairwise R) (hx : l[j]? = some x) (q : α → Bool) (h1 : ∀ y ∈ l, R y x → q y = true) (h2 : q x = false) (h3 : ∀ y ∈ l, R x y → q y = false) : (l.filter q).length = j := by
  obtain ⟨hj, hxe⟩ := List.getElem?_eq_some_iff.1 hx
  have e : l = l.take j ++ x :: l.drop (j + 1) := by
    rw [← hxe, List.getElem_cons_drop, List.take_append_drop]
  have ha : ∀ y ∈ l.take j, q y = true := fun y hy => by
    obtain ⟨i, hi, hiy⟩ := List.mem_iff_getElem.1 hy
    rw [List.getElem_take] at hiy
    rw [List.length_take] at hi
    have := List.pairwise_iff_getElem.1 hs i j (by omega) hj (by omega)
    rw [hiy, hxe] at this
    exact h1 y (List.mem_of_mem_take hy) this
  have hb : ∀ y ∈ l.drop (j + 1), q y = false := fun y hy => by
    obtain ⟨i, hi, hiy⟩ := List.mem_iff_getElem.1 hy
    rw [List.getElem_drop] at hiy
    rw [List.length_drop] at hi
    have := List.pairwise_iff_getElem.1 hs j (j + 1 + i) hj (by omega) (by omega)
    rw [hiy, hxe] at this
    exact h3 y (List.mem_of_mem_drop hy) this
  rw [e, List.filter_append, List.filter_cons, if_neg (by rw [h2]; simp), List.filter_eq_self.2 ha, List.filter_eq_nil_iff.2 (fun y hy => by rw [hb y hy]; simp), List.append_nil, List.length_take]
  omega
/-- The place of a piece among the sorted ones of its core is its priority. -/
theorem idx_rank (H : PlanOk S P) {l' : List Pt} (hm : ∀ x, x ∈ l' ↔ x ∈ keepL S.policy (onP P c)) (hs : l'.Pairwise ptO.R) {j : Nat} (hx : l'[j]? = some x) :
    rankOne S (partsOf P) x.task x.p = ⟨x.p.core, x.p.bud, x.p.dl, 1 + (j : Int), x.p.tight⟩ := by
  obtain ⟨hxp, hxc, hxt, hpol⟩ := mem_keep.1 ((hm x).1 (List.mem_of_getElem? hx))
  have hp1 : S.policy = 1 := H.sys.pol.resolve_right hpol
  have key : aheadL x.task x.p (partsOf P) = j := by
    unfold aheadL
    have e1 : (partsOf P).filter (aheadQ x.task x.p) = (keepL S.policy (onP P c)).filter (aheadQ x.task x.p) := by
      unfold keepL onP
      rw [List.filter_filter, List.filter_filter]
      refine (List.filter_congr fun y _ => ?_).symm
      cases hq : aheadQ x.task x.p y with
      | false => simp
      | true =>
        unfold aheadQ at hq
        simp only [Bool.and_eq_true, decide_eq_true_eq, Bool.not_eq_true'] at hq
        unfold outB
        simp only [hq.1, hq.2.1, hxc, Bool.false_or]
        rw [hp1]
        rfl
    have hnd1 : (keepL S.policy (onP P c)).Nodup := (keep_rising H.dist S.policy c).imp (fun h e => by subst e; omega)
    have hnd2 : l'.Nodup := hs.imp (fun h e => by subst e; exact Order.R.asymm h h)
    have hperm := (List.perm_ext_iff_of_nodup hnd2 hnd1).2 hm
    rw [e1, ← (hperm.filter _).length_eq]
    have full : ∀ y ∈ l', y ∈ partsOf P ∧ y.p.core = c ∧ y.p.tight = false := fun y hy => by
      have := mem_keep.1 ((hm y).1 hy)
      exact ⟨this.1, this.2.1, this.2.2.1⟩
    refine sorted_count hs hx _ (fun y hy hr => ?_) ?_ (fun y hy hr => ?_)
    · obtain ⟨y1, y2, y3⟩ := full y hy
      have hne : y.task ≠ x.task := fun e => by
        have := same_task H.dist y1 hxp e (y2.trans hxc.symm)
        subst this
        exact Order.R.asymm hr hr
      unfold aheadQ
      simp only [Bool.and_eq_true, decide_eq_true_eq, Bool.not_eq_true', decide_eq_false_iff_not, Bool.or_eq_true]
      refine ⟨y2.trans hxc.symm, y3, hne, ?_⟩
      rcases hr with hr | ⟨hr, ht⟩
      · exact .inl (of_decide_eq_true hr)
      · have h1 : ¬ x.p.dl < y.p.dl := of_decide_eq_false hr
        have h2 : ((y.task : Nat) : Int) < ((x.task : Nat) : Int) := ht
        by_cases e : y.p.dl = x.p.dl
        · exact .inr ⟨e, by omega⟩
        · exact .inl (by omega)
    · unfold aheadQ
      simp
    · obtain ⟨y1, y2, y3⟩ := full y hy
      cases hq : aheadQ x.task x.p y with
      | false => rfl
      | true =>
        exfalso
        unfold aheadQ at hq
        simp only [Bool.and_eq_true, decide_eq_true_eq, Bool.not_eq_true', decide_eq_false_iff_not, Bool.or_eq_true] at hq
        obtain ⟨_, _, hne, hq⟩ := hq
        rcases hr with hr | ⟨hr, ht⟩
        · have h1 : x.p.dl < y.p.dl := of_decide_eq_true hr
          rcases hq with h | h <;> omega
        · have h1 : ¬ y.p.dl < x.p.dl := of_decide_eq_false hr
          have h2 : ((x.task : Nat) : Int) < ((y.task : Nat) : Int) := ht
          rcases hq with h | h <;> omega
  unfold rankOne
  rw [if_pos ⟨hp1, hxt⟩, key]
end
/-! The rows that are written, piece by piece -/
def zeroP (p : Pc) : Pc := ⟨p.core, p.bud, p.dl, 0, p.tight⟩
def rowsD (S : Sy) (P : Pl) (D : Pt → Bool) (i : Nat) : List Pc := ((P[i]?).getD []).mapIdx fun k p => if D ⟨p, i, k⟩ = true then rankOne S (partsOf P) i p else zeroP p
section
variable {S : Sy} {P : Pl} {D D' : Pt → Bool} {i k : Nat} {p : Pc} {l : List Pc}
theorem rowsD_len (h : P[i]? = some l) : (rowsD S P D i).length = l.length := by unfold rowsD; rw [h]; simp
theorem rowsD_get (h : P[i]? = some l) (hk : l[k]? = some p) : (rowsD S P D i)[k]? = some (if D ⟨p, i, k⟩ = true then rankOne S (partsOf P) i p else zeroP p) := by
  unfold rowsD
  rw [h, List.getElem?_mapIdx]
  show Option.map _ l[k]? = _
  rw [hk]
  rfl
theorem rowsD_congr (h : ∀ k p l, P[i]? = some l → l[k]? = some p → D ⟨p, i, k⟩ ≠ D' ⟨p, i, k⟩ → rankOne S (partsOf P) i p = zeroP p) : rowsD S P D i = rowsD S P D' i := by
  cases hl : P[i]? with
  | none => unfold rowsD; rw [hl]; rfl
  | some l =>
    apply List.ext_getElem?
    intro k
    cases hk : l[k]? with
    | none =>
      have : l.length ≤ k := List.getElem?_eq_none_iff.1 hk
      rw [List.getElem?_eq_none (by rw [rowsD_len hl]; exact this), List.getElem?_eq_none (by rw [rowsD_len hl]; exact this)]
    | some p =>
      rw [rowsD_get hl hk, rowsD_get hl hk]
      by_cases e : D ⟨p, i, k⟩ = D' ⟨p, i, k⟩
      · rw [e]
      · rw [h k p l hl hk e]; simp
theorem rowsD_none (h : P[i]? = some l) : rowsD S P (fun _ => false) i = l.map zeroP := by
  unfold rowsD
  rw [h]
  apply List.ext_getElem?
  intro k
  simp [List.getElem?_mapIdx]
theorem rowsD_all (H : ∀ x ∈ partsOf P, D x = true) (h : P[i]? = some l) : rowsD S P D i = rankRow S (partsOf P) i l := by
  unfold rankRow
  apply List.ext_getElem?
  intro k
  cases hk : l[k]? with
  | none =>
    have : l.length ≤ k := List.getElem?_eq_none_iff.1 hk
    rw [List.getElem?_eq_none (by rw [rowsD_len h]; exact this), List.getElem?_eq_none (by simpa using this)]
  | some p =>
    rw [rowsD_get h hk, List.getElem?_map, hk, if_pos (H ⟨p, i, k⟩ (mem_parts.2 ⟨l, h, hk⟩))]
    rfl
/-- One piece gets its priority. -/
def D1 (D : Pt → Bool) (x : Pt) : Pt → Bool := fun y => D y || (decide (y.task = x.task) && decide (y.k = x.k))
theorem rowsD_set (h : P[i]? = some l) (hk : l[k]? = some p) : (rowsD S P D i).set k (rankOne S (partsOf P) i p) = rowsD S P (D1 D ⟨p, i, k⟩) i := by
  apply List.ext_getElem?
  intro j
  have hkl := (List.getElem?_eq_some_iff.1 hk).1
  by_cases e : k = j
  · subst e
    rw [List.getElem?_set_self (by rw [rowsD_len h]; exact hkl), rowsD_get h hk, if_pos (by unfold D1; simp)]
  · rw [List.getElem?_set_ne e]
    cases hj : l[j]? with
    | none =>
      have : l.length ≤ j := List.getElem?_eq_none_iff.1 hj
      rw [List.getElem?_eq_none (by rw [rowsD_len h]; exact this), List.getElem?_eq_none (by rw [rowsD_len h]; exact this)]
    | some q =>
      rw [rowsD_get h hj, rowsD_get h hj]
      have : D1 D ⟨p, i, k⟩ ⟨q, i, j⟩ = D ⟨q, i, j⟩ := by unfold D1; simp; intro h; exact absurd h.symm e
      rw [this]
theorem rowsD_other {x : Pt} (h : i ≠ x.task) : rowsD S P (D1 D x) i = rowsD S P D i :=
  rowsD_congr (fun k p l _ _ hne => by
    exfalso
    apply hne
    unfold D1
    simp
    intro e
    exact absurd e h)
end
/-- Which have got theirs: all of the cores below c, and the first j of the sorted list. -/
def doneD (c : Int) (l' : List Pt) (j : Nat) : Pt → Bool := fun y => decide (y.p.core < c) || (l'.take j).any fun x => decide (y.task = x.task) && decide (y.k = x.k)
theorem doneD_succ {c : Int} {l' : List Pt} {j : Nat} {x : Pt} (h : l'[j]? = some x) : doneD c l' (j + 1) = D1 (doneD c l' j) x := by
  funext y
  unfold doneD D1
  rw [take_next h, List.any_append]
  simp [Bool.or_assoc]
theorem doneD_start (c : Int) (l' : List Pt) : doneD c l' 0 = fun y => decide (y.p.core < c) := by
  funext y
  unfold doneD
  simp
theorem doneD_end {S : Sy} {P : Pl} {c : Int} {l' : List Pt} (hm : ∀ x, x ∈ l' ↔ x ∈ keepL S.policy (onP P c)) (i : Nat) : rowsD S P (doneD c l' l'.length) i = rowsD S P (fun y => decide (y.p.core < c + 1)) i := by
  refine rowsD_congr (fun k p l hl hk hne => ?_)
  have hmem : (⟨p, i, k⟩ : Pt) ∈ partsOf P := mem_parts.2 ⟨l, hl, hk⟩
  unfold doneD at hne
  rw [List.take_length] at hne
  by_cases h1 : p.core < c
  · exfalso; apply hne; simp [h1]; omega
  · by_cases h2 : p.core = c
    · by_cases h3 : (⟨p, i, k⟩ : Pt) ∈ l'
      · exfalso
        apply hne
        have : l'.any (fun x => decide (i = x.task) && decide (k = x.k)) = true := List.any_eq_true.2 ⟨_, h3, by simp⟩
        simp only [this, Bool.or_true]
        symm
        exact decide_eq_true (by omega)
      · rw [hm, mem_keep] at h3
        unfold rankOne zeroP
        rw [if_neg]
        intro h
        exact h3 ⟨hmem, h2, h.2, by omega⟩
    · exfalso
      apply hne
      have : (l'.any fun x => decide (i = x.task) && decide (k = x.k)) = false := by
        rw [List.any_eq_false]
        intro y hy
        have hk2 := mem_keep.1 ((hm y).1 hy)
        obtain ⟨m, hm1, hm2⟩ := mem_parts.1 hk2.1
        simp only [Bool.and_eq_true, decide_eq_true_eq, not_and]
        intro e1 e2
        rw [← e1, hl] at hm1
        injection hm1 with hm1
        rw [← hm1, ← e2, hk] at hm2
        injection hm2 with hm2
        rw [hm2] at h2
        exact absurd hk2.2.1 h2
      simp only [this, Bool.or_false]
      rw [decide_eq_false h1]
      symm
      exact decide_eq_false (by omega)
theorem rankL_rows {S : Sy} {P : Pl} {D : Pt → Bool} (H : ∀ x ∈ partsOf P, D x = true) : (List.range P.length).map (rowsD S P D) = rankL S P := by
  apply List.ext_getElem?
  intro i
  unfold rankL
  rw [List.getElem?_mapIdx, List.getElem?_map]
  cases hl : P[i]? with
  | none =>
    have : P.length ≤ i := List.getElem?_eq_none_iff.1 hl
    rw [List.getElem?_eq_none (by simpa using this)]
    rfl
  | some l =>
    have := (List.getElem?_eq_some_iff.1 hl).1
    rw [List.getElem?_range this]
    show some _ = some _
    rw [rowsD_all H hl]
end Go.Proofs.Ytppildaahmlfmaa
