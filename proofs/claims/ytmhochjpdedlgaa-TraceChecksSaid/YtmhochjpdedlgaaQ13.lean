/- Joined: PRightPlain, Ref17RPlain, RefRight, Ahead, OGrid. -/
import Derived.Test.YtmhochjpdedlgaaQ04
import Derived.Test.YtmhochjpdedlgaaQ11
import Derived.Test.YtmhochjpdedlgaaQ12
set_option linter.unusedVariables false
set_option linter.unusedSimpArgs false
/- analysis.Right, plain: what its three maps hold when some parts have come. No program in sight. -/
set_option linter.unusedVariables false
set_option linter.unusedSimpArgs false
namespace Go.Proofs.Ytmhochjpdedlgaa
open Go.RowKit

def hasF (l : List Pt) : Int × Int → Option Bool := fun q => if l.any (fun x => decide ((x.task : Int) = q.1 ∧ x.p.core = q.2)) then some true else none
def tightF (l : List Pt) : Int → Option Int := fun c => if tightN l c = 0 then none else some (tightN l c)
def usersF (S : Sy) (l : List Pt) : Int → Option Bool := fun c => if l.any (fun x => decide (x.p.core = c)) then some (usersB S l c) else none
def secOf (S : Sy) (i : Nat) : Bool := (S.tasks[i]?.map fun t => !t.secs.isEmpty).getD false
def keyPt (x : Pt) : Int × Int := (x.task, x.p.core)
theorem hasF_snoc (l : List Pt) (x : Pt) (q : Int × Int) : hasF (l ++ [x]) q = if q = keyPt x then some true else hasF l q := by
  unfold hasF keyPt
  rw [List.any_append]
  by_cases h : q = ((x.task : Int), x.p.core)
  · subst h
    simp
  · have h2 : [x].any (fun x => decide ((x.task : Int) = q.1 ∧ x.p.core = q.2)) = false := by
      rw [List.any_cons, List.any_nil, Bool.or_false]
      exact decide_eq_false (fun e => h (Prod.ext e.1.symm e.2.symm))
    rw [h2, Bool.or_false, if_neg h]
theorem hasF_get (l : List Pt) (x : Pt) : (hasF l (keyPt x)).getD false = decide (keyPt x ∈ l.map keyPt) := by
  unfold hasF keyPt
  by_cases h : l.any (fun y => decide ((y.task : Int) = (x.task : Int) ∧ y.p.core = x.p.core)) = true
  · rw [if_pos h]
    obtain ⟨y, hy, e⟩ := List.any_eq_true.1 h
    have := of_decide_eq_true e
    symm
    exact decide_eq_true (List.mem_map.2 ⟨y, hy, Prod.ext this.1 this.2⟩)
  · rw [if_neg h]
    symm
    refine decide_eq_false (fun hm => h ?_)
    obtain ⟨y, hy, e⟩ := List.mem_map.1 hm
    injection e with e1 e2
    exact List.any_eq_true.2 ⟨y, hy, decide_eq_true ⟨e1, e2⟩⟩
theorem tightN_snoc (l : List Pt) (x : Pt) (c : Int) : tightN (l ++ [x]) c = if x.p.core = c ∧ x.p.tight = true then tightN l c + 1 else tightN l c := by
  unfold tightN
  rw [List.filter_append, List.length_append]
  by_cases h1 : x.p.core = c <;> cases h2 : x.p.tight <;> simp [h1, h2]
theorem tightF_snoc (l : List Pt) (x : Pt) (hx : x.p.tight = true) (c : Int) : tightF (l ++ [x]) c = if c = x.p.core then some ((tightF l x.p.core).getD 0 + 1) else tightF l c := by
  unfold tightF
  by_cases h : c = x.p.core
  · subst h
    have e : tightN (l ++ [x]) x.p.core = tightN l x.p.core + 1 := by rw [tightN_snoc, if_pos ⟨rfl, hx⟩]
    rw [e, if_pos rfl, if_neg (by omega)]
    by_cases h0 : tightN l x.p.core = 0
    · rw [if_pos h0, h0]; rfl
    · rw [if_neg h0]; rfl
  · have e : tightN (l ++ [x]) c = tightN l c := by rw [tightN_snoc, if_neg (fun e => h e.1.symm)]
    rw [e, if_neg h]
theorem tightF_same (l : List Pt) (x : Pt) (hx : x.p.tight = false) (c : Int) : tightF (l ++ [x]) c = tightF l c := by
  unfold tightF
  have e : tightN (l ++ [x]) c = tightN l c := by rw [tightN_snoc, if_neg (fun e => by rw [hx] at e; cases e.2)]
  rw [e]
theorem usersB_snoc (S : Sy) (l : List Pt) (x : Pt) (c : Int) : usersB S (l ++ [x]) c = (usersB S l c || (decide (x.p.core = c) && secOf S x.task)) := by
  unfold usersB secOf
  rw [List.any_append]
  simp
theorem usersF_snoc (S : Sy) (l : List Pt) (x : Pt) (c : Int) : usersF S (l ++ [x]) c = if c = x.p.core then some ((usersF S l x.p.core).getD false || secOf S x.task) else usersF S l c := by
  unfold usersF
  rw [List.any_append, usersB_snoc]
  by_cases h : c = x.p.core
  · subst h
    rw [if_pos (by simp), if_pos rfl]
    congr 1
    simp only [decide_true, Bool.true_and]
    by_cases h0 : l.any (fun y => decide (y.p.core = x.p.core)) = true
    · rw [if_pos h0]; rfl
    · rw [if_neg h0]
      have : usersB S l x.p.core = false := by
        unfold usersB
        rw [List.any_eq_false]
        intro y hy
        have h1 : ¬ y.p.core = x.p.core := fun e => h0 (List.any_eq_true.2 ⟨y, hy, decide_eq_true e⟩)
        simp [h1]
      rw [this]; rfl
  · have h1 : decide (x.p.core = c) = false := decide_eq_false (fun e => h e.symm)
    simp [h1, h]
/-- No task has two pieces on one core: just where the keys are all others. -/
theorem keys_pts (i : Nat) (l : List Pc) : (ptsOf i l).map keyPt = l.map fun p => ((i : Int), p.core) := by
  unfold ptsOf keyPt
  apply List.ext_getElem?
  intro k
  rw [List.getElem?_map, List.getElem?_mapIdx, List.getElem?_map, Option.map_map]
  rfl
theorem keys_nodup {P : Pl} : distB P = true ↔ ((partsOf P).map keyPt).Nodup := by
  have key : ∀ (P : Pl) (b : Nat), (((P.mapIdx fun i l => ptsOf (b + i) l).flatten).map keyPt).Nodup ↔ distB P = true := by
    intro P
    induction P with
    | nil => intro b; simp [distB]
    | cons l P ih =>
      intro b
      have e : ((l :: P).mapIdx fun i l => ptsOf (b + i) l) = ptsOf b l :: (P.mapIdx fun i l => ptsOf (b + 1 + i) l) := by
        rw [List.mapIdx_cons]
        congr 1
        apply List.ext_getElem?
        intro k
        simp [Nat.add_comm, Nat.add_left_comm]
      rw [e, List.flatten_cons, List.map_append, List.nodup_append, ih, keys_pts]
      have h1 : (l.map fun p => ((b : Int), p.core)).Nodup ↔ (l.map Pc.core).Nodup := by
        rw [List.Nodup, List.Nodup, List.pairwise_map, List.pairwise_map]
        constructor
        · exact fun h => h.imp (fun {x y} hxy e => hxy (by rw [e]))
        · exact fun h => h.imp (fun {x y} hxy e => hxy (by injection e))
      have h2 : ∀ x ∈ (l.map fun p => ((b : Int), p.core)), ∀ y ∈ (((P.mapIdx fun i l => ptsOf (b + 1 + i) l).flatten).map keyPt), x ≠ y := by
        intro x hx y hy hxy
        obtain ⟨p, _, rfl⟩ := List.mem_map.1 hx
        obtain ⟨z, hz, rfl⟩ := List.mem_map.1 hy
        obtain ⟨L, hL, hz⟩ := List.mem_flatten.1 hz
        obtain ⟨i, hi, rfl⟩ := List.mem_mapIdx.1 hL
        unfold ptsOf at hz
        obtain ⟨k, hk, rfl⟩ := List.mem_mapIdx.1 hz
        unfold keyPt at hxy
        injection hxy with h _
        simp only at h
        omega
      rw [h1]
      unfold distB
      simp only [List.all_cons, Bool.and_eq_true, decide_eq_true_eq]
      constructor
      · exact fun h => ⟨h.1, h.2.1⟩
      · exact fun h => ⟨h.1, h.2, h2⟩
  have := (key P 0).symm
  simp only [Nat.zero_add] at this
  exact this
theorem nodup_prefix {l m : List Pt} (h : l <+: m) (hn : (m.map keyPt).Nodup) : (l.map keyPt).Nodup := by
  obtain ⟨r, rfl⟩ := h
  rw [List.map_append, List.nodup_append] at hn
  exact hn.1
theorem tightN_pos {l : List Pt} {c : Int} (h : 0 < tightN l c) : ∃ x ∈ l, x.p.core = c := by
  unfold tightN at h
  obtain ⟨x, hx⟩ := List.exists_mem_of_length_pos h
  have h1 := List.mem_filter.1 hx
  simp only [Bool.and_eq_true, decide_eq_true_eq] at h1
  exact ⟨x, h1.1, h1.2.1⟩
theorem coresB_false {S : Sy} {P : Pl} {c n : Int} (h : tightF (partsOf P) c = some n) (hb : 1 < n ∨ (usersF S (partsOf P) c).getD false = true) : coresB S P = false := by
  unfold tightF at h
  by_cases h0 : tightN (partsOf P) c = 0
  · rw [if_pos h0] at h; cases h
  · rw [if_neg h0] at h
    injection h with h
    obtain ⟨x, hx, hc⟩ := tightN_pos (Nat.pos_of_ne_zero h0)
    unfold coresB
    rw [List.all_eq_false]
    refine ⟨x, hx, ?_⟩
    rw [hc]
    simp only [decide_eq_true_eq]
    rintro (e | ⟨e1, e2⟩)
    · exact h0 e
    · rcases hb with hb | hb
      · omega
      · have : usersF S (partsOf P) c = some (usersB S (partsOf P) c) := by
          unfold usersF
          rw [if_pos (List.any_eq_true.2 ⟨x, hx, decide_eq_true hc⟩)]
        rw [this, e2] at hb
        cases hb
theorem coresB_true {S : Sy} {P : Pl} (h : ∀ c n, tightF (partsOf P) c = some n → n ≤ 1 ∧ (usersF S (partsOf P) c).getD false = false) : coresB S P = true := by
  unfold coresB
  rw [List.all_eq_true]
  intro x hx
  refine decide_eq_true ?_
  by_cases h0 : tightN (partsOf P) x.p.core = 0
  · exact .inl h0
  · obtain ⟨h1, h2⟩ := h x.p.core (tightN (partsOf P) x.p.core) (by unfold tightF; rw [if_neg h0])
    refine .inr ⟨by omega, ?_⟩
    unfold usersF at h2
    rw [if_pos (List.any_eq_true.2 ⟨x, hx, by simp⟩)] at h2
    exact h2
theorem parts_len_le {P : Pl} (h : ∀ l ∈ P, l.length ≤ 8) : (partsOf P).length ≤ 8 * P.length := by
  have key : ∀ (P : Pl) (b : Nat), (∀ l ∈ P, l.length ≤ 8) → (P.mapIdx fun i l => ptsOf (b + i) l).flatten.length ≤ 8 * P.length := by
    intro P
    induction P with
    | nil => intro b _; simp
    | cons l P ih =>
      intro b h
      have e : ((l :: P).mapIdx fun i l => ptsOf (b + i) l) = ptsOf b l :: (P.mapIdx fun i l => ptsOf (b + 1 + i) l) := by
        rw [List.mapIdx_cons]
        congr 1
        apply List.ext_getElem?
        intro k
        simp [Nat.add_comm, Nat.add_left_comm]
      have h1 := ih (b + 1) (fun l hl => h l (List.mem_cons_of_mem _ hl))
      have h2 := h l List.mem_cons_self
      rw [e, List.flatten_cons, List.length_append, pts_length, List.length_cons]
      omega
  have := key P 0 h
  simp only [Nat.zero_add] at this
  exact this
theorem tightN_le (l : List Pt) (c : Int) : tightN l c ≤ l.length := List.length_filter_le _ _
end Go.Proofs.Ytmhochjpdedlgaa
/- The document's chapter 17: Right, plain: what its two tallies hold. No program in sight. -/
set_option linter.unusedVariables false
set_option linter.unusedSimpArgs false
namespace Go.Proofs.Ytmhochjpdedlgaa
open Go.RowKit

def usersN (S : Sy) (l : List Pt) (c : Int) : Nat := (l.filter fun x => decide (x.p.core = c) && secOf S x.task).length
theorem usersN_snoc (S : Sy) (l : List Pt) (x : Pt) (c : Int) : usersN S (l ++ [x]) c = if x.p.core = c ∧ secOf S x.task = true then usersN S l c + 1 else usersN S l c := by
  unfold usersN
  rw [List.filter_append, List.length_append]
  by_cases h1 : x.p.core = c <;> cases h2 : secOf S x.task <;> simp [h1, h2]
theorem usersN_le (S : Sy) (l : List Pt) (c : Int) : usersN S l c ≤ l.length := List.length_filter_le _ _
theorem users_pos {S : Sy} {l : List Pt} {c : Int} : usersB S l c = true ↔ 0 < usersN S l c := by
  have e : usersB S l c = l.any fun x => decide (x.p.core = c) && secOf S x.task := rfl
  rw [e, List.any_eq_true, usersN, List.length_pos_iff_exists_mem]
  constructor
  · rintro ⟨x, h1, h2⟩
    exact ⟨x, List.mem_filter.2 ⟨h1, h2⟩⟩
  · rintro ⟨x, h⟩
    exact ⟨x, (List.mem_filter.1 h).1, (List.mem_filter.1 h).2⟩
/-- What has been seen: all pieces of i tasks, and k of the next one's. -/
def seen (P : Pl) (i : Nat) (l : List Pc) (k : Nat) : List Pt := partsOf (P.take i) ++ ptsOf i (l.take k)
theorem seen_zero (P : Pl) (i : Nat) (l : List Pc) : seen P i l 0 = partsOf (P.take i) := by simp [seen, ptsOf]
theorem seen_succ {P : Pl} {i : Nat} {l : List Pc} {k : Nat} {p : Pc} (h : l[k]? = some p) : seen P i l (k + 1) = seen P i l k ++ [⟨p, i, k⟩] := by
  unfold seen
  rw [pts_take_succ h, List.append_assoc]
theorem seen_all {P : Pl} {i : Nat} {l : List Pc} (h : P[i]? = some l) : seen P i l l.length = partsOf (P.take (i + 1)) := by
  unfold seen
  rw [List.take_length, parts_take_succ h]
theorem seen_len {P : Pl} {i : Nat} {l : List Pc} (h8 : ∀ (a : Nat) l, a ≤ i → P[a]? = some l → l.length ≤ 8) (h : P[i]? = some l) (k : Nat) : (seen P i l k).length ≤ 8 * (i + 1) := by
  have h1 := parts_len_le (P := P.take i) (fun l hl => by
    obtain ⟨a, ha⟩ := List.mem_iff_getElem?.1 hl
    rw [List.getElem?_take] at ha
    split at ha
    · exact h8 a l (by omega) ha
    · cases ha)
  have h2 := h8 i l (Nat.le_refl _) h
  unfold seen
  rw [List.length_append, pts_length, List.length_take]
  rw [List.length_take] at h1
  omega
theorem cores_good {S : Sy} {P : Pl} {nc : Nat} (hc : ∀ x ∈ partsOf P, 0 ≤ x.p.core ∧ x.p.core < nc) (h : ∀ c : Nat, c < nc → tightN (partsOf P) c ≤ 1 ∧ (tightN (partsOf P) c = 1 → usersN S (partsOf P) c = 0)) : coresB S P = true := by
  refine coresB_true (fun c n h1 => ?_)
  unfold tightF at h1
  by_cases h0 : tightN (partsOf P) c = 0
  · rw [if_pos h0] at h1; cases h1
  · rw [if_neg h0] at h1
    injection h1 with h1
    obtain ⟨x, hx, rfl⟩ := tightN_pos (Nat.pos_of_ne_zero h0)
    obtain ⟨c1, c2⟩ := hc x hx
    obtain ⟨j, hj⟩ : ∃ j : Nat, x.p.core = j := ⟨x.p.core.toNat, by omega⟩
    rw [hj] at h0 h1 ⊢
    obtain ⟨h2, h3⟩ := h j (by omega)
    refine ⟨by omega, ?_⟩
    have h4 := h3 (by omega)
    unfold usersF
    split
    · cases e : usersB S (partsOf P) (j : Int) with
      | false => rfl
      | true => have := users_pos.1 e; omega
    · rfl
theorem cores_bad {S : Sy} {P : Pl} {c : Int} (h : 1 < tightN (partsOf P) c ∨ (tightN (partsOf P) c = 1 ∧ 0 < usersN S (partsOf P) c)) : coresB S P = false := by
  refine coresB_false (c := c) (n := tightN (partsOf P) c) (by unfold tightF; rw [if_neg (by omega)]) ?_
  rcases h with h | ⟨h1, h2⟩
  · exact .inl (by omega)
  · refine .inr ?_
    have h3 := users_pos.2 h2
    have h4 : (partsOf P).any (fun x => decide (x.p.core = c)) = true := by
      obtain ⟨x, hx, e⟩ := tightN_pos (l := partsOf P) (c := c) (by omega)
      exact List.any_eq_true.2 ⟨x, hx, decide_eq_true e⟩
    unfold usersF
    rw [if_pos h4, h3]
    rfl
theorem refLists {S : Sy} {P : Pl} (hlen : P.length = S.tasks.length) (h : ∀ (i : Nat) t l, S.tasks[i]? = some t → P[i]? = some l → refListB S t l = true) : listsB S S.tasks P = true ∧ distB P = true := by
  have h2 : ∀ (i : Nat) t l, S.tasks[i]? = some t → P[i]? = some l → listOkB S t l = true ∧ (l.map Pc.core).Nodup := fun i t l ht hl => by
    have := h i t l ht hl
    unfold refListB at this
    simpa using this
  refine ⟨listsB_iff.2 (fun i t l ht hl => (h2 i t l ht hl).1), ?_⟩
  unfold distB
  rw [List.all_eq_true]
  intro l hl
  obtain ⟨i, hi⟩ := List.mem_iff_getElem?.1 hl
  have hi2 := (List.getElem?_eq_some_iff.1 hi).1
  exact decide_eq_true (h2 i _ l (List.getElem?_eq_getElem (by omega)) hi).2
theorem refLists_bad {S : Sy} {P : Pl} {i : Nat} {t : Tsk} {l : List Pc} (ht : S.tasks[i]? = some t) (hl : P[i]? = some l) (h : refListB S t l = false) : planB S P = false := by
  unfold planB
  unfold refListB at h
  cases e : listOkB S t l with
  | false =>
    have : listsB S S.tasks P = false := by
      cases e2 : listsB S S.tasks P with
      | false => rfl
      | true => have := listsB_iff.1 e2 i t l ht hl; rw [e] at this; cases this
    rw [this]; simp
  | true =>
    rw [e, Bool.true_and] at h
    have : distB P = false := by
      unfold distB
      rw [List.all_eq_false]
      exact ⟨l, List.mem_of_getElem? hl, by simpa using of_decide_eq_false h⟩
    rw [this]; simp
end Go.Proofs.Ytmhochjpdedlgaa
/- Package tourbillonref17: Right (contract). -/
set_option linter.unusedVariables false
set_option linter.unusedSimpArgs false
namespace Go.Proofs.Ytmhochjpdedlgaa
open Go.RowKit

/-- A slice of counts. -/
structure Tally (w : World) (g n : Nat) (f : Nat → Int) : Prop where
  ex : ∃ C, w.heap[g]? = some (.cells C 3 (0, 0)) ∧ C.size = n ∧ ∀ j, j < n → C[j]? = some (.int .i64 (f j))
section
variable {w w' : World} {g n : Nat} {f f' : Nat → Int}
theorem Tally.kept (h : Tally w g n f) (k : ∀ o, w.heap[g]? = some o → w'.heap[g]? = some o) : Tally w' g n f := by
  obtain ⟨C, h1, h2⟩ := h.ex
  exact ⟨⟨C, k _ h1, h2⟩⟩
theorem Tally.cell (h : Tally w g n f) {j : Nat} (hj : j < n) : w.cell? ⟨g, j, none⟩ = some (.int .i64 (f j)) := by
  obtain ⟨C, h1, h2, h3⟩ := h.ex
  rw [blk_cell h1]
  exact h3 j hj
theorem Tally.free (h : Tally w g n f) (j : Nat) : w.frozen? ⟨g, j, none⟩ = false := by
  obtain ⟨C, h1, _⟩ := h.ex
  exact blk_free h1 j
theorem Tally.set (h : Tally w g n f) {j : Nat} (hj : j < n) (v : Int) (hf : ∀ i, i < n → f' i = if i = j then v else f i) : Tally (w.setCell ⟨g, j, none⟩ (.int .i64 v)) g n f' := by
  obtain ⟨C, h1, h2, h3⟩ := h.ex
  refine ⟨⟨_, blk_set h1 j _, by simpa using h2, fun i hi => ?_⟩⟩
  rw [hf i hi, Array.getElem?_setIfInBounds]
  by_cases e : i = j
  · subst e
    rw [if_pos rfl, if_pos (by omega), if_pos rfl]
  · rw [if_neg (fun h => e h.symm), if_neg e]
    exact h3 i hi
theorem Tally.congr (h : Tally w g n f) (hf : ∀ i, i < n → f' i = f i) : Tally w g n f' := by
  obtain ⟨C, h1, h2, h3⟩ := h.ex
  exact ⟨⟨C, h1, h2, fun j hj => by rw [hf j hj]; exact h3 j hj⟩⟩
theorem Tally.lt (h : Tally w g n f) : g < w.heap.size := by
  obtain ⟨C, h1, _⟩ := h.ex
  exact blk_lt h1
end
/-- The world within the document's Right. -/
structure R17W (w wr : World) (B X Y nc : Nat) (CS : Array Value) (f g : Nat → Int) : Prop where
  below : Below w.heap.size w wr
  b0 : wr.heap[B]? = some (.cells CS 24 (0, 0))
  tx : Tally wr X nc f
  ty : Tally wr Y nc g
  lo : w.heap.size ≤ B
  hx : B < X
  hy : X < Y
section
variable {w wr w' : World} {B X Y nc : Nat} {CS : Array Value} {f g f' g' : Nat → Int}
theorem R17W.later (H : R17W w wr B X Y nc CS f g) (h : Below wr.heap.size wr w') : R17W w w' B X Y nc CS f g :=
  ⟨below_then H.below h, (fr0 h).blk H.b0 (fun h => h), H.tx.kept (fun o ho => (fr0 h).blk ho (fun h => h)), H.ty.kept (fun o ho => (fr0 h).blk ho (fun h => h)), H.lo, H.hx, H.hy⟩
theorem R17W.congr (H : R17W w wr B X Y nc CS f g) (hf : ∀ i, i < nc → f' i = f i) (hg : ∀ i, i < nc → g' i = g i) : R17W w wr B X Y nc CS f' g' := ⟨H.below, H.b0, H.tx.congr hf, H.ty.congr hg, H.lo, H.hx, H.hy⟩
theorem R17W.setX (H : R17W w wr B X Y nc CS f g) {j : Nat} (hj : j < nc) (v : Int) (hf : ∀ i, i < nc → f' i = if i = j then v else f i) : R17W w (wr.setCell ⟨X, j, none⟩ (.int .i64 v)) B X Y nc CS f' g :=
  ⟨H.below.setCell (p := ⟨X, j, none⟩) (by have := H.lo; have := H.hx; simp; omega) _, blk_set_ne H.b0 (by have := H.hx; omega) _ _, H.tx.set hj v hf, H.ty.kept (fun o ho => blk_set_ne ho (by have := H.hy; omega) _ _), H.lo, H.hx, H.hy⟩
theorem R17W.setY (H : R17W w wr B X Y nc CS f g) {j : Nat} (hj : j < nc) (v : Int) (hg : ∀ i, i < nc → g' i = if i = j then v else g i) : R17W w (wr.setCell ⟨Y, j, none⟩ (.int .i64 v)) B X Y nc CS f g' :=
  ⟨H.below.setCell (p := ⟨Y, j, none⟩) (by have := H.lo; have := H.hx; have := H.hy; simp; omega) _, blk_set_ne H.b0 (by have := H.hx; have := H.hy; omega) _ _, H.tx.kept (fun o ho => blk_set_ne ho (by have := H.hy; omega) _ _), H.ty.set hj v hg, H.lo, H.hx, H.hy⟩
end
section
variable {w : World}
abbrev tiF (L : List Pt) : Nat → Int := fun j => (tightN L (j : Int) : Nat)
abbrev usF (S : Sy) (L : List Pt) : Nat → Int := fun j => (usersN S L (j : Int) : Nat)
set_option maxRecDepth 100000 in
set_option maxHeartbeats 6400000 in
theorem rright17_any (S : Sy) (A0 : Option Addr) (n0 c0 : Nat) (A : Option Addr) (n cap : Nat) (P : Pl) (hs : IsSys w (.slice A0 n0 c0) S) (hp : IsPlan w (.slice A n cap) P) :
    Calls Try.prog 31 #[sysV S (.slice A0 n0 c0), .slice A n cap] w fun e w' => e = .returned (.bool (planB S P)) ∧ Below w.heap.size w w' := by
  have hn0 := hs.tasks.len
  have hn := hp.rows.len
  have HS := hid hs
  have HP := hid hp
  have HN0 := hid hn0
  have HN := hid hn
  have hn0m : n0 ≤ 9223372036854775807 := by have := hs.tasks.room; unfold maxLen at this; omega
  have hnm : n ≤ 9223372036854775807 := by have := hp.rows.room; unfold maxLen at this; omega
  have HVR := hid (fun W (h : Below w.heap.size w W) => rright_any (w := W) S A0 c0 n0 (hs.later h))
  obtain ⟨CS, hCS⟩ : ∃ C, C = sysC S (.slice A0 n0 c0) := ⟨_, rfl⟩
  have HCS := hid hCS
  obtain ⟨rb, hrb⟩ : ∃ r, rightS S = r := ⟨_, rfl⟩
  have HRB := hid hrb
  rw [hrb] at HVR
  unfold sysV at *
  clear hs hp hn0 hn hCS hrb
  go_enter Try.func31, Try.ntmps31
  go_wp2_with fail
  refine (HVR.out _ (below_new (Below.refl _ _) _)).mono ?_
  rintro e w1 ⟨rfl, hb1⟩
  have q0 : w1.heap[w.heap.size]? = some (.cells (sysC S (.slice A0 n0 c0)) 24 (0, 0)) := (fr0 hb1).blk (blk_new w _) (fun h => h)
  have hbw := below_then (below_new (Below.refl _ _) _) hb1
  obtain ⟨B, hB⟩ : ∃ B, w.heap.size = B := ⟨_, rfl⟩
  rw [hB] at q0
  rw [← HCS.out] at q0
  have g0 : w1.cell? ⟨B, 8, none⟩ = some (.slice A0 n0 c0) := by rw [blk_cell q0 8, HCS.out]; rfl
  have g1 : w1.cell? ⟨B, 0, none⟩ = some (.int .i64 S.cores) := by rw [blk_cell q0 0, HCS.out]; rfl
  have HQ0 := hid q0
  have HBW := hid hbw
  have hBlt := blk_lt q0
  rw [hB]
  have HB := hid hB
  clear q0 hbw hb1 hB
  cases rb
  case false =>
    have HF := hid (show planB S P = false by unfold planB; rw [HRB.out]; rfl)
    clear HRB
    go_wp2_with fail
    go_ret
    exact ⟨by rw [HF.out]; rfl, HBW.out⟩
  case true =>
    by_cases hl : n = n0
    case neg =>
      have HF := hid (show planB S P = false by
        unfold planB
        rw [decide_eq_false (fun h => hl (by rw [HN.out, HN0.out]; exact h))]
        simp)
      have hne : ((n : Int) != (n0 : Int)) = true := by rw [bne_iff_ne]; omega
      clear HRB
      go_wp2_with fail
      go_ret
      exact ⟨by rw [HF.out]; rfl, HBW.out⟩
    subst hl
    have hne : ((n : Int) != (n : Int)) = false := by simp
    have HSO := hid (rightS_ok HRB.out)
    obtain ⟨nc, hnc⟩ : ∃ nc : Nat, S.cores = nc := ⟨S.cores.toNat, by have := HSO.out.cores; omega⟩
    have hnc8 : nc ≤ 8 := by have := HSO.out.cores; omega
    obtain ⟨C0, hC0⟩ : ∃ C, C = (List.replicate nc (.int .i64 0) : List Value).toArray := ⟨_, rfl⟩
    have hmake : ∀ w, (Instr.makeSlice 39 (.int .i64 S.cores) (.int .i64 S.cores)).run Try.prog w = .ok (.slice (some ⟨w.heap.size, 0, none⟩) nc nc) (w.alloc (.cells C0 3)) := fun w => by rw [hnc, hC0]; exact make_ints nc (by omega) w
    have HC0 := hid hC0
    have HNC := hid hnc
    clear hC0 hnc
    go_wp2_with fail
    clear g0 g1 hne hmake
    have hRW : R17W w ((w1.alloc (.cells C0 3)).alloc (.cells C0 3)) B w1.heap.size (w1.heap.size + 1) nc CS (tiF (partsOf (P.take 0))) (usF S (partsOf (P.take 0))) := by
      have hz : ∀ W : World, Tally (W.alloc (.cells C0 3)) W.heap.size nc (fun _ => 0) := fun W => ⟨⟨C0, blk_new W _, by rw [HC0.out]; simp, fun j hj => by rw [HC0.out]; simp [hj]⟩⟩
      have h2 := hz (w1.alloc (.cells C0 3))
      rw [World.size_alloc] at h2
      refine ⟨below_new (below_new HBW.out _) _, blk_old (blk_old HQ0.out _) _, ((hz w1).kept (fun o ho => blk_old ho _)).congr (fun i _ => by simp [tiF, partsOf, tightN]), h2.congr (fun i _ => by simp [usF, partsOf, usersN]), by have := HB.out; omega, hBlt, Nat.lt_succ_self _⟩
    have HRW := hid hRW
    clear hRW hBlt
    obtain ⟨X, hX⟩ : ∃ X, X = w1.heap.size := ⟨_, rfl⟩
    obtain ⟨Y, hY⟩ : ∃ Y, Y = w1.heap.size + 1 := ⟨_, rfl⟩
    rw [← hY, ← hX] at HRW
    try rw [← hY]
    rw [← hX]
    clear hX hY
    go_loopw [8] (fun i wr => ∃ k : Nat, k ≤ n ∧ i = .int .i64 k ∧ Hid (∀ (i : Nat) t l, i < k → S.tasks[i]? = some t → P[i]? = some l → refListB S t l = true) ∧ Hid (R17W w wr B X Y nc CS (tiF (partsOf (P.take k))) (usF S (partsOf (P.take k))))) (fun i _ => n - (intOf i).toNat)
    case atStart => exact ⟨0, by omega, rfl, hid (fun i t l hi => by omega), HRW⟩
    case round =>
      obtain ⟨k, hk, rfl, HALL, HVr⟩ := hrel
      by_cases hlt : k < n
      case pos =>
        obtain ⟨t, ht⟩ : ∃ t, S.tasks[k]? = some t := ⟨_, List.getElem?_eq_getElem (by have := HN0.out; omega)⟩
        obtain ⟨pl, hpl⟩ : ∃ pl, P[k]? = some pl := ⟨_, List.getElem?_eq_getElem (by have := HN.out; omega)⟩
        obtain ⟨b, o, cs, hA, hbl, _, hc, us, hu1, hu2⟩ := HS.out.tasks.at ht
        subst hA
        subst hu1
        obtain ⟨b2, o2, cs2, hA2, hbl2, _, hc2, ul, hv1, hv2⟩ := HP.out.rows.at hpl
        subst hA2
        subst hv1
        obtain ⟨A1, c1, hu3, hu4⟩ := hu2.shape
        obtain ⟨m1, hm1⟩ : ∃ m, m = t.secs.length := ⟨_, rfl⟩
        rw [← hm1] at hu3 hu4
        subst hu3
        obtain ⟨A3, c3, hv3, hv4⟩ := hv2.shape
        obtain ⟨m3, hm3⟩ : ∃ m, m = pl.length := ⟨_, rfl⟩
        rw [← hm3] at hv3 hv4
        subst hv3
        have hpw := HP.out.wf pl (List.mem_of_getElem? hpl)
        have hbr := HVr.out.below
        have hm3m : m3 ≤ 9223372036854775807 := by have := hv2.room; unfold maxLen at this; omega
        have HLI := hid (fun W (h : Below w.heap.size w W) => rlist_any (w := W) S (some ⟨b, o, none⟩) n c0 k t A3 m3 c3 pl (HS.out.later h) HSO.out ht (hv2.later pcR.stays h) hpw)
        have HX := hid ht
        have HY := hid hpl
        have HM3 := hid hm3
        have HV2 := hid hv2
        have HPW := hid hpw
        have HSEC := hid (show secOf S k = decide (0 < m1) by
          unfold secOf
          rw [ht, hm1]
          show (!t.secs.isEmpty) = _
          cases t.secs <;> rfl)
        have HSC := hid (show w.cell? ⟨b, o + k * 4 + 3, none⟩ = some (.slice A1 m1 c1) from hc 3 _ rfl)
        have HRC := hid (show w.cell? ⟨b2, o2 + k, none⟩ = some (.slice A3 m3 c3) from by simpa using hc2 0 _ rfl)
        have HBL := hid hbl
        have HBL2 := hid hbl2
        obtain ⟨v, hv⟩ : ∃ v, refListB S t pl = v := ⟨_, rfl⟩
        rw [hv] at HLI
        have HVV := hid hv
        unfold sysV at HLI
        try simp only at HLI
        obtain ⟨C, hC⟩ : ∃ C : World → Prop, C = fun W => Below wr.heap.size wr W := ⟨_, rfl⟩
        have FS0 := hid (fun W (h : C W) => (show W.cell? ⟨B, 0, none⟩ = some (.int .i64 S.cores) from by rw [hC] at h; rw [blk_cell (HVr.out.later h).b0 0, HCS.out]; rfl))
        have FS1 := hid (fun W (h : C W) => (show W.cell? ⟨B, 1, none⟩ = some (.int .i64 S.policy) from by rw [hC] at h; rw [blk_cell (HVr.out.later h).b0 1, HCS.out]; rfl))
        have FS2 := hid (fun W (h : C W) => (show W.cell? ⟨B, 2, none⟩ = some (.int .i64 S.prot) from by rw [hC] at h; rw [blk_cell (HVr.out.later h).b0 2, HCS.out]; rfl))
        have FS3 := hid (fun W (h : C W) => (show W.cell? ⟨B, 3, none⟩ = some (.int .i64 S.rel) from by rw [hC] at h; rw [blk_cell (HVr.out.later h).b0 3, HCS.out]; rfl))
        have FS4 := hid (fun W (h : C W) => (show W.cell? ⟨B, 4, none⟩ = some (.int .i64 S.sw) from by rw [hC] at h; rw [blk_cell (HVr.out.later h).b0 4, HCS.out]; rfl))
        have FS5 := hid (fun W (h : C W) => (show W.cell? ⟨B, 5, none⟩ = some (.int .i64 S.fin) from by rw [hC] at h; rw [blk_cell (HVr.out.later h).b0 5, HCS.out]; rfl))
        have FS6 := hid (fun W (h : C W) => (show W.cell? ⟨B, 6, none⟩ = some (.int .i64 S.lat) from by rw [hC] at h; rw [blk_cell (HVr.out.later h).b0 6, HCS.out]; rfl))
        have FS7 := hid (fun W (h : C W) => (show W.cell? ⟨B, 7, none⟩ = some (.int .i64 S.resn) from by rw [hC] at h; rw [blk_cell (HVr.out.later h).b0 7, HCS.out]; rfl))
        have FS8 := hid (fun W (h : C W) => (show W.cell? ⟨B, 8, none⟩ = some (.slice (some ⟨b, o, none⟩) n c0) from by rw [hC] at h; rw [blk_cell (HVr.out.later h).b0 8, HCS.out]; rfl))
        have FR := hid (fun W (h : C W) => (show W.cell? ⟨b2, o2 + k, none⟩ = some (.slice A3 m3 c3) from by rw [hC] at h; exact ((below_then hbr h).cell (p := ⟨b2, o2 + k, none⟩) hbl2).trans HRC.out))
        have FL := hid (fun W (h : C W) => ((HLI.out W (by rw [hC] at h; exact below_then hbr h)).mono (fun e w' q => (show e = .returned (.bool v) ∧ C w' from ⟨q.1, by rw [hC] at h ⊢; exact below_then h q.2⟩))))
        have HCC := hid hC
        clear hC hc hbl hbr hbl2 hv ht hpl hu2 hv2 hm1 hm3 hu4 hv4 hc2 hpw
        go_upto_region 9 with fail
        refine wp_region_class (C := C) (by kernel_rfl) (by kernel_rfl) (by rw [HCC.out]; exact (Below.refl _ _).drew) ?_
        repeat (refine wpQuiet_step (fun K hK => ?_); (first | (rw [if_neg (by decide)]; refine hK _ ?_) | (rw [if_pos (by rfl)]; refine Exists.intro ?_ (And.intro (fun W HW => ?_) (hK _ ?_)); rotate_left; (focus (first | (go_simp; exact FL.out W HW) | (have q0 := FS0.out W HW; have q1 := FS1.out W HW; have q2 := FS2.out W HW; have q3 := FS3.out W HW; have q4 := FS4.out W HW; have q5 := FS5.out W HW; have q6 := FS6.out W HW; have q7 := FS7.out W HW; have q8 := FS8.out W HW; have q9 := FR.out W HW; (go_simp); all_goals (with_reducible rfl)))))); clear hK K; try simp only [Act.put, List.setIfInBounds_toArray, List.set_cons_zero, List.set_cons_succ])
        refine wpQuiet_nil ?_
        intro wd hCw
        have HV3 : Hid (R17W w wd B X Y nc CS (tiF (partsOf (P.take k))) (usF S (partsOf (P.take k)))) := by rw [HCC.out] at hCw; exact hid (HVr.out.later hCw)
        clear hCw HCC FS0 FS1 FS2 FS3 FS4 FS5 FS6 FS7 FS8 FR FL HVr
        cases v
        case false =>
          have HF := hid (show planB S P = false from refLists_bad HX.out HY.out HVV.out)
          go_wp2_with fail
          go_ret
          exact ⟨by rw [HF.out]; rfl, HV3.out.below⟩
        case true =>
          have HALL2 := hid (show ∀ (i : Nat) t l, i < k + 1 → S.tasks[i]? = some t → P[i]? = some l → refListB S t l = true from fun i t l hi h1 h2 => by
            by_cases e : i = k
            · subst e
              rw [HX.out] at h1
              rw [HY.out] at h2
              injection h1 with h1
              injection h2 with h2
              rw [← h1, ← h2]
              exact HVV.out
            · exact HALL.out i t l (by omega) h1 h2)
          have HOK := hid (show ∀ (i : Nat) l, i ≤ k → P[i]? = some l → l.length ≤ 8 ∧ ∀ p ∈ l, 0 ≤ p.core ∧ p.core < nc from fun i l hi h2 => by
            have hi2 := (List.getElem?_eq_some_iff.1 h2).1
            have h1 : S.tasks[i]? = some (S.tasks[i]'(by have := HN.out; have := HN0.out; omega)) := List.getElem?_eq_getElem _
            have h3 := HALL2.out i _ l (by omega) h1 h2
            unfold refListB at h3
            rw [Bool.and_eq_true] at h3
            obtain ⟨h4, h5⟩ := listOk_pcs HSO.out (HSO.out.tasks _ (List.mem_of_getElem? h1)) h3.1
            exact ⟨h4, fun p hp => by have := h5 p hp; exact ⟨this.c0, by have := this.c1; have := HNC.out; omega⟩⟩)
          have hk24 : k < 24 := by have := HSO.out.len; have := HN0.out; omega
          have d0 : wd.cell? ⟨b2, o2 + k, none⟩ = some (.slice A3 m3 c3) := (HV3.out.below.cell (p := ⟨b2, o2 + k, none⟩) HBL2.out).trans HRC.out
          go_wp2_with fail
          clear d0
          go_loopw [10] (fun v wr => ∃ j : Nat, j ≤ m3 ∧ v = .int .i64 j ∧ Hid (R17W w wr B X Y nc CS (tiF (seen P k pl j)) (usF S (seen P k pl j)))) (fun v _ => m3 - (intOf v).toNat)
          case atStart => exact ⟨0, by omega, rfl, by rw [seen_zero]; exact HV3⟩
          case round =>
            obtain ⟨j, hj, rfl, HVi⟩ := hrel
            have d0 : wr.cell? ⟨b2, o2 + k, none⟩ = some (.slice A3 m3 c3) := (HVi.out.below.cell (p := ⟨b2, o2 + k, none⟩) HBL2.out).trans HRC.out
            by_cases hjm : j < m3
            case pos =>
              obtain ⟨p, hp⟩ : ∃ p, pl[j]? = some p := ⟨_, List.getElem?_eq_getElem (by have := HM3.out; omega)⟩
              obtain ⟨b4, o4, cs4, hA4, hbl4, _, hc4, hr4⟩ := HV2.out.at hp
              subst hA4
              have hr4' : cs4 = [.int .i64 p.core, .int .i64 p.bud, .int .i64 p.dl, .int .i64 p.prio, .bool p.tight] := hr4
              subst hr4'
              have hpc := (HOK.out k pl (Nat.le_refl _) HY.out).2 p (List.mem_of_getElem? hp)
              obtain ⟨pc, pb, pd, pp, ti⟩ := p
              simp only at hpc hc4
              obtain ⟨jc, rfl⟩ : ∃ jc : Nat, pc = (jc : Int) := ⟨pc.toNat, by omega⟩
              have hjc : jc < nc := by omega
              have HHP := hid hp
              have e0 : wr.cell? ⟨b4, o4 + j * 5, none⟩ = some (.int .i64 jc) := (HVi.out.below.cell (p := ⟨b4, o4 + j * 5, none⟩) hbl4).trans (by simpa using hc4 0 _ rfl)
              have e4 : wr.cell? ⟨b4, o4 + j * 5 + 4, none⟩ = some (.bool ti) := (HVi.out.below.cell (p := ⟨b4, o4 + j * 5 + 4, none⟩) hbl4).trans (hc4 4 _ rfl)
              have hln := seen_len (fun a l ha hl => (HOK.out a l ha hl).1) HY.out j
              obtain ⟨tv, htv⟩ : ∃ x, tiF (seen P k pl j) jc = x := ⟨_, rfl⟩
              obtain ⟨uv, huv⟩ : ∃ x, usF S (seen P k pl j) jc = x := ⟨_, rfl⟩
              have htv2 : 0 ≤ tv ∧ tv ≤ 200 := by rw [← htv]; have := tightN_le (seen P k pl j) (jc : Int); unfold tiF; omega
              have huv2 : 0 ≤ uv ∧ uv ≤ 200 := by rw [← huv]; have := usersN_le S (seen P k pl j) (jc : Int); unfold usF; omega
              have x0 : wr.cell? ⟨X, jc, none⟩ = some (.int .i64 tv) := by rw [HVi.out.tx.cell hjc, htv]
              have x1 : wr.frozen? ⟨X, jc, none⟩ = false := HVi.out.tx.free jc
              have HTV := hid htv
              have HUV := hid huv
              clear hp hbl4 hc4 hr4 hpc hln htv huv
              cases ti
              case true =>
                go_upto_region 18 with fail
                have HW2 : Hid (R17W w (wr.setCell ⟨X, jc, none⟩ (.int .i64 (tv + 1))) B X Y nc CS (tiF (seen P k pl (j + 1))) (usF S (seen P k pl j))) := hid (HVi.out.setX hjc _ (fun i hi => by
                  unfold tiF
                  rw [seen_succ HHP.out, tightN_snoc]
                  by_cases e : i = jc
                  · subst e
                    rw [if_pos ⟨rfl, rfl⟩, if_pos rfl]
                    have := HTV.out
                    unfold tiF at this
                    omega
                  · rw [if_neg (fun h => e (by have := h.1; simp only at this; omega)), if_neg e]))
                generalize wr.setCell ⟨X, jc, none⟩ (.int .i64 (tv + 1)) = w2 at *
                clear d0 e0 e4 x0 x1 HVi
                have s8 : w2.cell? ⟨B, 8, none⟩ = some (.slice (some ⟨b, o, none⟩) n c0) := by rw [blk_cell HW2.out.b0 8, HCS.out]; rfl
                have s3 : w2.cell? ⟨b, o + k * 4 + 3, none⟩ = some (.slice A1 m1 c1) := (HW2.out.below.cell (p := ⟨b, o + k * 4 + 3, none⟩) HBL.out).trans HSC.out
                have y0 : w2.cell? ⟨Y, jc, none⟩ = some (.int .i64 uv) := by rw [HW2.out.ty.cell hjc, HUV.out]
                have y1 : w2.frozen? ⟨Y, jc, none⟩ = false := HW2.out.ty.free jc
                by_cases hm0 : 0 < m1
                case pos =>
                  have hd : decide (0 < m1) = true := decide_eq_true hm0
                  have hd2 : decide (0 < (m1 : Int)) = true := decide_eq_true (by omega)
                  have HW4 : Hid (R17W w (w2.setCell ⟨Y, jc, none⟩ (.int .i64 (uv + 1))) B X Y nc CS (tiF (seen P k pl (j + 1))) (usF S (seen P k pl (j + 1)))) := hid (HW2.out.setY hjc _ (fun i hi => by
                    unfold usF
                    rw [seen_succ HHP.out, usersN_snoc]
                    by_cases e : i = jc
                    · subst e
                      rw [if_pos ⟨rfl, by show secOf S k = true; rw [HSEC.out]; exact hd⟩, if_pos rfl]
                      have := HUV.out
                      unfold usF at this
                      omega
                    · rw [if_neg (fun h => e (by have := h.1; simp only at this; omega)), if_neg e]))
                  go_wp2_with fail
                  go_roundw
                  case rel => exact ⟨j + 1, by omega, by go_num, HW4⟩
                  case measure => simp [intOf]; omega
                case neg =>
                  have hd : decide (0 < m1) = false := decide_eq_false hm0
                  have hd2 : decide (0 < (m1 : Int)) = false := decide_eq_false (by omega)
                  have HW4 : Hid (R17W w w2 B X Y nc CS (tiF (seen P k pl (j + 1))) (usF S (seen P k pl (j + 1)))) := hid (HW2.out.congr (fun _ _ => rfl) (fun i hi => by
                    unfold usF
                    rw [seen_succ HHP.out, usersN_snoc, if_neg (fun h => by have h2 : secOf S k = true := h.2; rw [HSEC.out, hd] at h2; cases h2)]))
                  go_wp2_with fail
                  go_roundw
                  case rel => exact ⟨j + 1, by omega, by go_num, HW4⟩
                  case measure => simp [intOf]; omega
              case false =>
                go_upto_region 18 with fail
                have HW2 : Hid (R17W w wr B X Y nc CS (tiF (seen P k pl (j + 1))) (usF S (seen P k pl j))) := hid (HVi.out.congr (fun i hi => by
                  unfold tiF
                  rw [seen_succ HHP.out, tightN_snoc, if_neg (fun h => by have := h.2; simp at this)]) (fun _ _ => rfl))
                generalize wr = w2 at *
                clear d0 e0 e4 x0 x1 HVi
                have s8 : w2.cell? ⟨B, 8, none⟩ = some (.slice (some ⟨b, o, none⟩) n c0) := by rw [blk_cell HW2.out.b0 8, HCS.out]; rfl
                have s3 : w2.cell? ⟨b, o + k * 4 + 3, none⟩ = some (.slice A1 m1 c1) := (HW2.out.below.cell (p := ⟨b, o + k * 4 + 3, none⟩) HBL.out).trans HSC.out
                have y0 : w2.cell? ⟨Y, jc, none⟩ = some (.int .i64 uv) := by rw [HW2.out.ty.cell hjc, HUV.out]
                have y1 : w2.frozen? ⟨Y, jc, none⟩ = false := HW2.out.ty.free jc
                by_cases hm0 : 0 < m1
                case pos =>
                  have hd : decide (0 < m1) = true := decide_eq_true hm0
                  have hd2 : decide (0 < (m1 : Int)) = true := decide_eq_true (by omega)
                  have HW4 : Hid (R17W w (w2.setCell ⟨Y, jc, none⟩ (.int .i64 (uv + 1))) B X Y nc CS (tiF (seen P k pl (j + 1))) (usF S (seen P k pl (j + 1)))) := hid (HW2.out.setY hjc _ (fun i hi => by
                    unfold usF
                    rw [seen_succ HHP.out, usersN_snoc]
                    by_cases e : i = jc
                    · subst e
                      rw [if_pos ⟨rfl, by show secOf S k = true; rw [HSEC.out]; exact hd⟩, if_pos rfl]
                      have := HUV.out
                      unfold usF at this
                      omega
                    · rw [if_neg (fun h => e (by have := h.1; simp only at this; omega)), if_neg e]))
                  go_wp2_with fail
                  go_roundw
                  case rel => exact ⟨j + 1, by omega, by go_num, HW4⟩
                  case measure => simp [intOf]; omega
                case neg =>
                  have hd : decide (0 < m1) = false := decide_eq_false hm0
                  have hd2 : decide (0 < (m1 : Int)) = false := decide_eq_false (by omega)
                  have HW4 : Hid (R17W w w2 B X Y nc CS (tiF (seen P k pl (j + 1))) (usF S (seen P k pl (j + 1)))) := hid (HW2.out.congr (fun _ _ => rfl) (fun i hi => by
                    unfold usF
                    rw [seen_succ HHP.out, usersN_snoc, if_neg (fun h => by have h2 : secOf S k = true := h.2; rw [HSEC.out, hd] at h2; cases h2)]))
                  go_wp2_with fail
                  go_roundw
                  case rel => exact ⟨j + 1, by omega, by go_num, HW4⟩
                  case measure => simp [intOf]; omega
            case neg =>
              obtain rfl : j = m3 := by omega
              have HV5 : Hid (R17W w wr B X Y nc CS (tiF (partsOf (P.take (k + 1)))) (usF S (partsOf (P.take (k + 1))))) := by
                rw [← seen_all HY.out, ← HM3.out]
                exact HVi
              go_wp2_with fail
              go_roundw
              case rel => exact ⟨k + 1, by omega, by go_num, HALL2, HV5⟩
              case measure => simp [intOf]; omega
      case neg =>
        obtain rfl : k = n := by omega
        obtain ⟨HLS, HDI⟩ := refLists (by rw [← HN.out, ← HN0.out]) (fun i t l h1 h2 => HALL.out i t l (by have := (List.getElem?_eq_some_iff.1 h2).1; rw [HN.out]; exact this) h1 h2)
        have hLS := hid HLS
        have hDI := hid HDI
        have HCO := hid (show ∀ x ∈ partsOf P, 0 ≤ x.p.core ∧ x.p.core < nc from fun x hx => by
          obtain ⟨l, hl, hk2⟩ := mem_parts.1 hx
          have hi2 := (List.getElem?_eq_some_iff.1 hl).1
          have h1 : S.tasks[x.task]? = some (S.tasks[x.task]'(by have := HN.out; have := HN0.out; omega)) := List.getElem?_eq_getElem _
          have := (listOk_pcs HSO.out (HSO.out.tasks _ (List.mem_of_getElem? h1)) (listsB_iff.1 HLS _ _ _ h1 hl)).2 _ (List.mem_of_getElem? hk2)
          exact ⟨this.c0, by have := this.c1; have := HNC.out; omega⟩)
        have HV4 : Hid (R17W w wr B X Y nc CS (tiF (partsOf P)) (usF S (partsOf P))) := by
          have e : P.take k = P := by rw [HN.out, List.take_length]
          rw [e] at HVr
          exact HVr
        clear HALL HVr HLS HDI
        go_wp2_with fail
        go_loopw [12] (fun v wr => ∃ c : Nat, c ≤ nc ∧ v = .int .i64 c ∧ Hid (∀ i : Nat, i < c → tightN (partsOf P) i ≤ 1 ∧ (tightN (partsOf P) i = 1 → usersN S (partsOf P) i = 0)) ∧ Hid (R17W w wr B X Y nc CS (tiF (partsOf P)) (usF S (partsOf P)))) (fun v _ => nc - (intOf v).toNat)
        case atStart => exact ⟨0, by omega, rfl, hid (fun i hi => by omega), HV4⟩
        case round =>
          obtain ⟨c, hc, rfl, HGO, HVi⟩ := hrel
          have s0 : wr.cell? ⟨B, 0, none⟩ = some (.int .i64 S.cores) := by rw [blk_cell HVi.out.b0 0, HCS.out]; rfl
          by_cases hcn : c < nc
          case pos =>
            have hcd : decide ((c : Int) < S.cores) = true := decide_eq_true (by have := HNC.out; omega)
            obtain ⟨tv, htv⟩ : ∃ x, tiF (partsOf P) c = x := ⟨_, rfl⟩
            obtain ⟨uv, huv⟩ : ∃ x, usF S (partsOf P) c = x := ⟨_, rfl⟩
            have x0 : wr.cell? ⟨X, c, none⟩ = some (.int .i64 tv) := by rw [HVi.out.tx.cell hcn, htv]
            have y0 : wr.cell? ⟨Y, c, none⟩ = some (.int .i64 uv) := by rw [HVi.out.ty.cell hcn, huv]
            have HTV := hid (show (tightN (partsOf P) (c : Int) : Int) = tv from htv)
            have HUV := hid (show (usersN S (partsOf P) (c : Int) : Int) = uv from huv)
            clear htv huv
            by_cases h1 : 1 < tv
            case pos =>
              have hd1 : decide (1 < tv) = true := decide_eq_true h1
              have HF := hid (show planB S P = false by
                unfold planB
                rw [cores_bad (c := (c : Int)) (.inl (by have := HTV.out; omega))]
                simp)
              go_wp2_with fail
              go_ret
              exact ⟨by rw [HF.out]; rfl, HVi.out.below⟩
            have hd1 : decide (1 < tv) = false := decide_eq_false h1
            by_cases h2 : tv = 1
            case pos =>
              have hd2 : (tv == 1) = true := beq_iff_eq.2 h2
              by_cases h3 : 0 < uv
              case pos =>
                have hd3 : decide (0 < uv) = true := decide_eq_true h3
                have HF := hid (show planB S P = false by
                  unfold planB
                  rw [cores_bad (c := (c : Int)) (.inr ⟨by have := HTV.out; omega, by have := HUV.out; omega⟩)]
                  simp)
                clear h2
                go_wp2_with fail
                go_ret
                exact ⟨by rw [HF.out]; rfl, HVi.out.below⟩
              have hd3 : decide (0 < uv) = false := decide_eq_false h3
              have HGO2 := hid (show ∀ i : Nat, i < c + 1 → tightN (partsOf P) i ≤ 1 ∧ (tightN (partsOf P) i = 1 → usersN S (partsOf P) i = 0) from fun i hi => by
                by_cases e : i = c
                · subst e
                  have := HTV.out
                  have := HUV.out
                  exact ⟨by omega, fun _ => by omega⟩
                · exact HGO.out i (by omega))
              clear h2
              go_wp2_with fail
              go_roundw
              case rel => exact ⟨c + 1, by omega, by go_num, HGO2, HVi⟩
              case measure => simp [intOf]; omega
            case neg =>
              have hd2 : (tv == 1) = false := beq_eq_false_iff_ne.2 h2
              have HGO2 := hid (show ∀ i : Nat, i < c + 1 → tightN (partsOf P) i ≤ 1 ∧ (tightN (partsOf P) i = 1 → usersN S (partsOf P) i = 0) from fun i hi => by
                by_cases e : i = c
                · subst e
                  have := HTV.out
                  exact ⟨by omega, fun _ => by omega⟩
                · exact HGO.out i (by omega))
              clear h2
              go_wp2_with fail
              go_roundw
              case rel => exact ⟨c + 1, by omega, by go_num, HGO2, HVi⟩
              case measure => simp [intOf]; omega
          case neg =>
            obtain rfl : c = nc := by omega
            have hcd : decide ((c : Int) < S.cores) = false := decide_eq_false (by have := HNC.out; omega)
            have HF := hid (show planB S P = true by
              unfold planB
              rw [HRB.out, decide_eq_true (show P.length = S.tasks.length by rw [← HN.out, ← HN0.out]), hLS.out, hDI.out, cores_good HCO.out HGO.out]
              rfl)
            go_wp2_with fail
            go_ret
            exact ⟨by rw [HF.out]; rfl, HVi.out.below⟩
end
end Go.Proofs.Ytmhochjpdedlgaa
/- Package tourbillonref17: ahead (contract). -/
set_option linter.unusedVariables false
set_option linter.unusedSimpArgs false
namespace Go.Proofs.Ytmhochjpdedlgaa
open Go.RowKit

/-- Does a part go ahead of a task's piece? -/
def aheadQ (task : Nat) (p : Pc) (x : Pt) : Bool := decide (x.p.core = p.core) && (!x.p.tight && (!decide (x.task = task) && (decide (x.p.dl < p.dl) || (decide (x.p.dl = p.dl) && decide (x.task < task)))))
def aheadL (task : Nat) (p : Pc) (L : List Pt) : Nat := (L.filter (aheadQ task p)).length
theorem aheadL_snoc (task : Nat) (p : Pc) (L : List Pt) (x : Pt) : aheadL task p (L ++ [x]) = if aheadQ task p x = true then aheadL task p L + 1 else aheadL task p L := by
  unfold aheadL
  rw [List.filter_append, List.length_append]
  cases h : aheadQ task p x <;> simp [h]
theorem seen_prefix {P : Pl} {k : Nat} {pl : List Pc} (h : P[k]? = some pl) (j : Nat) : seen P k pl j <+: partsOf P := by
  refine List.IsPrefix.trans ?_ (parts_prefix (k + 1) P)
  rw [parts_take_succ h]
  unfold seen
  obtain ⟨r, hr⟩ := pts_prefix k j pl
  exact ⟨r, by rw [List.append_assoc, hr]⟩
def pieceC (p : Pc) : Array Value := #[.int .i64 p.core, .int .i64 p.bud, .int .i64 p.dl, .int .i64 p.prio, .bool p.tight]
/-- The world within ahead: the piece's box. -/
structure AW (w wr : World) (B : Nat) (C : Array Value) : Prop where
  below : Below w.heap.size w wr
  b0 : wr.heap[B]? = some (.cells C 62 (0, 0))
theorem AW.later {w wr w' : World} {B : Nat} {C : Array Value} (H : AW w wr B C) (h : Below wr.heap.size wr w') : AW w w' B C := ⟨below_then H.below h, (fr0 h).blk H.b0 (fun h => h)⟩
section
variable {w : World}
set_option maxRecDepth 100000 in
set_option maxHeartbeats 6400000 in
theorem ahead_any (P : Pl) (A : Option Addr) (n cap : Nat) (hI : IsPlan w (.slice A n cap) P) (task : Nat) (p : Pc) (htask : task < 1000000) (hlen : (partsOf P).length < 1000000) :
    Calls Try.prog 68 #[.slice A n cap, .int .i64 task, .agg (pieceC p)] w fun e w' => e = .returned (.int .i64 (aheadL task p (partsOf P) : Nat)) ∧ Below w.heap.size w w' := by
  have hn := hI.rows.len
  have hnm : n ≤ 9223372036854775807 := by have := hI.rows.room; unfold maxLen at this; omega
  have HI := hid hI
  have HN := hid hn
  have HLN := hid hlen
  obtain ⟨pc, pb, pd, pp, pt⟩ := p
  unfold pieceC
  obtain ⟨CS, hCS⟩ : ∃ C : Array Value, C = #[.int .i64 pc, .int .i64 pb, .int .i64 pd, .int .i64 pp, .bool pt] := ⟨_, rfl⟩
  have hV : AW w (w.alloc (.cells #[.int .i64 pc, .int .i64 pb, .int .i64 pd, .int .i64 pp, .bool pt] 62)) w.heap.size CS := by rw [hCS]; exact ⟨below_new (Below.refl _ _) _, blk_new _ _⟩
  have HV := hid hV
  have HCS := hid hCS
  clear hI hn hlen hV hCS
  go_enter Try.func68, Try.ntmps68
  go_upto_region 1 with fail
  obtain ⟨B, hB⟩ : ∃ B, w.heap.size = B := ⟨_, rfl⟩
  rw [hB] at HV ⊢
  generalize w.alloc (.cells #[.int .i64 pc, .int .i64 pb, .int .i64 pd, .int .i64 pp, .bool pt] 62) = w1 at HV ⊢
  have HB := hid hB
  clear hB
  go_wp2_with fail
  go_loopw [7, 8] (fun c i wr => ∃ k : Nat, k ≤ n ∧ i = .int .i64 k ∧ c = .int .i64 (aheadL task ⟨pc, pb, pd, pp, pt⟩ (partsOf (P.take k)) : Nat) ∧ Hid (AW w wr B CS)) (fun _ i _ => n - (intOf i).toNat)
  case atStart => exact ⟨0, by omega, rfl, rfl, HV⟩
  case round =>
    obtain ⟨k, hk, rfl, rfl, HVr⟩ := hrel
    by_cases hlt : k < n
    case pos =>
      obtain ⟨pl, hpl⟩ : ∃ pl, P[k]? = some pl := ⟨_, List.getElem?_eq_getElem (by have := HN.out; omega)⟩
      obtain ⟨b2, o2, cs2, hA2, hbl2, _, hc2, ul, hv1, hv2⟩ := HI.out.rows.at hpl
      subst hA2
      subst hv1
      obtain ⟨A3, c3, hv3, hv4⟩ := hv2.shape
      obtain ⟨m3, hm3⟩ : ∃ m, m = pl.length := ⟨_, rfl⟩
      rw [← hm3] at hv3 hv4
      subst hv3
      have hm3m : m3 ≤ 9223372036854775807 := by have := hv2.room; unfold maxLen at this; omega
      have HY := hid hpl
      have HM3 := hid hm3
      have HV2 := hid hv2
      have HRC := hid (show w.cell? ⟨b2, o2 + k, none⟩ = some (.slice A3 m3 c3) from by simpa using hc2 0 _ rfl)
      have HBL2 := hid hbl2
      have hw0 : ∀ W, Below w.heap.size w W → W.cell? ⟨b2, o2 + k, none⟩ = some (.slice A3 m3 c3) := fun W h => (h.cell (p := ⟨b2, o2 + k, none⟩) HBL2.out).trans HRC.out
      have HW0 := hid hw0
      have d0 := hw0 wr HVr.out.below
      clear hpl hm3 hv2 hv4 hc2 hbl2 hw0
      go_wp2_with fail
      clear d0
      go_loopw [7, 9] (fun c v wr => ∃ j : Nat, j ≤ m3 ∧ v = .int .i64 j ∧ c = .int .i64 (aheadL task ⟨pc, pb, pd, pp, pt⟩ (seen P k pl j) : Nat) ∧ Hid (AW w wr B CS)) (fun _ v _ => m3 - (intOf v).toNat)
      case atStart => exact ⟨0, by omega, rfl, by rw [seen_zero], HVr⟩
      case round =>
        obtain ⟨j, hj, rfl, rfl, HVi⟩ := hrel
        have d0 := HW0.out wr HVi.out.below
        by_cases hjm : j < m3
        case pos =>
          obtain ⟨q, hq⟩ : ∃ q, pl[j]? = some q := ⟨_, List.getElem?_eq_getElem (by have := HM3.out; omega)⟩
          obtain ⟨b4, o4, cs4, hA4, hbl4, _, hc4, hr4⟩ := HV2.out.at hq
          subst hA4
          have hr4' : cs4 = [.int .i64 q.core, .int .i64 q.bud, .int .i64 q.dl, .int .i64 q.prio, .bool q.tight] := hr4
          subst hr4'
          obtain ⟨qc, qb, qd, qp, ti⟩ := q
          simp only at hc4
          have HQ := hid hq
          have hbr := HVi.out.below
          have e0 : wr.cell? ⟨b4, o4 + j * 5, none⟩ = some (.int .i64 qc) := (hbr.cell (p := ⟨b4, o4 + j * 5, none⟩) hbl4).trans (by simpa using hc4 0 _ rfl)
          have e1 : wr.cell? ⟨b4, o4 + j * 5 + 1, none⟩ = some (.int .i64 qb) := (hbr.cell (p := ⟨b4, o4 + j * 5 + 1, none⟩) hbl4).trans (hc4 1 _ rfl)
          have e2 : wr.cell? ⟨b4, o4 + j * 5 + 2, none⟩ = some (.int .i64 qd) := (hbr.cell (p := ⟨b4, o4 + j * 5 + 2, none⟩) hbl4).trans (hc4 2 _ rfl)
          have e3 : wr.cell? ⟨b4, o4 + j * 5 + 3, none⟩ = some (.int .i64 qp) := (hbr.cell (p := ⟨b4, o4 + j * 5 + 3, none⟩) hbl4).trans (hc4 3 _ rfl)
          have e4 : wr.cell? ⟨b4, o4 + j * 5 + 4, none⟩ = some (.bool ti) := (hbr.cell (p := ⟨b4, o4 + j * 5 + 4, none⟩) hbl4).trans (hc4 4 _ rfl)
          obtain ⟨cv, hcv⟩ : ∃ cv, aheadL task ⟨pc, pb, pd, pp, pt⟩ (seen P k pl j) = cv := ⟨_, rfl⟩
          have hcv2 : cv < 1000000 := by
            rw [← hcv]
            have h1 := (seen_prefix HY.out j).length_le
            have h2 : aheadL task ⟨pc, pb, pd, pp, pt⟩ (seen P k pl j) ≤ (seen P k pl j).length := List.length_filter_le _ _
            have := HLN.out
            omega
          have HCV := hid hcv
          rw [hcv]
          have HSN := hid (show aheadL task ⟨pc, pb, pd, pp, pt⟩ (seen P k pl (j + 1)) = if aheadQ task ⟨pc, pb, pd, pp, pt⟩ ⟨⟨qc, qb, qd, qp, ti⟩, k, j⟩ = true then cv + 1 else cv by rw [seen_succ hq, aheadL_snoc, hcv])
          clear hq hbr hbl4 hc4 hr4 hcv
          go_upto_region 9 with fail
          obtain ⟨D, hD⟩ : ∃ D, D = wr.heap.size := ⟨_, rfl⟩
          rw [← hD]
          generalize hw3 : wr.alloc (.cells #[.int .i64 qc, .int .i64 qb, .int .i64 qd, .int .i64 qp, .bool ti] 62) = w3
          have HV3 : Hid (AW w w3 B CS) := by rw [← hw3]; exact hid (HVi.out.later (below_new (Below.refl _ _) _))
          have hblk : w3.heap[D]? = some (.cells #[.int .i64 qc, .int .i64 qb, .int .i64 qd, .int .i64 qp, .bool ti] 62 (0, 0)) := by rw [← hw3, hD]; exact blk_new _ _
          have f0 : w3.cell? ⟨D, 0, none⟩ = some (.int .i64 qc) := blk_cell hblk 0
          have f2 : w3.cell? ⟨D, 2, none⟩ = some (.int .i64 qd) := blk_cell hblk 2
          have f4 : w3.cell? ⟨D, 4, none⟩ = some (.bool ti) := blk_cell hblk 4
          have g0 : w3.cell? ⟨B, 0, none⟩ = some (.int .i64 pc) := by rw [blk_cell HV3.out.b0 0, HCS.out]; rfl
          have g2 : w3.cell? ⟨B, 2, none⟩ = some (.int .i64 pd) := by rw [blk_cell HV3.out.b0 2, HCS.out]; rfl
          clear hw3 hD hblk d0 e0 e1 e2 e3 e4 HVi
          have hs0 : IntKind.i64.wrap ((cv : Int) + 1) = (cv : Int) + 1 := wraps_i64 _ (by omega) (by omega)
          by_cases h1 : qc = pc
          case neg =>
            have hb1 : (qc == pc) = false := beq_eq_false_iff_ne.2 h1
            have HC2 := hid (show aheadL task ⟨pc, pb, pd, pp, pt⟩ (seen P k pl (j + 1)) = cv by rw [HSN.out, show aheadQ task ⟨pc, pb, pd, pp, pt⟩ _ = false by simp [aheadQ, h1]]; rfl)
            clear HSN
            clear h1
            go_wp2_with fail
            go_roundw
            case rel => exact ⟨j + 1, by omega, by go_num, by rw [HC2.out], HV3⟩
            case measure => simp [intOf]; omega
          case pos =>
            have hb1 : (qc == pc) = true := beq_iff_eq.2 h1
            cases ti
            case true =>
              have HC2 := hid (show aheadL task ⟨pc, pb, pd, pp, pt⟩ (seen P k pl (j + 1)) = cv by rw [HSN.out, show aheadQ task ⟨pc, pb, pd, pp, pt⟩ _ = false by simp [aheadQ, h1]]; rfl)
              clear HSN
              clear h1
              go_wp2_with fail
              go_roundw
              case rel => exact ⟨j + 1, by omega, by go_num, by rw [HC2.out], HV3⟩
              case measure => simp [intOf]; omega
            case false =>
              by_cases h2 : k = task
              case pos =>
                have hb2 : ((k : Int) != (task : Int)) = false := by rw [h2]; simp
                have HC2 := hid (show aheadL task ⟨pc, pb, pd, pp, pt⟩ (seen P k pl (j + 1)) = cv by rw [HSN.out, show aheadQ task ⟨pc, pb, pd, pp, pt⟩ _ = false by simp [aheadQ, h1, h2]]; rfl)
                clear HSN
                clear h1
                clear h2
                go_wp2_with fail
                go_roundw
                case rel => exact ⟨j + 1, by omega, by go_num, by rw [HC2.out], HV3⟩
                case measure => simp [intOf]; omega
              case neg =>
                have hb2 : ((k : Int) != (task : Int)) = true := by rw [bne_iff_ne]; omega
                by_cases h3 : qd < pd
                case pos =>
                  have hb3 : decide (qd < pd) = true := decide_eq_true h3
                  have HC2 := hid (show aheadL task ⟨pc, pb, pd, pp, pt⟩ (seen P k pl (j + 1)) = cv + 1 by rw [HSN.out, show aheadQ task ⟨pc, pb, pd, pp, pt⟩ _ = true by simp [aheadQ, h1, h2, h3]]; rfl)
                  clear HSN
                  clear h1
                  clear h2
                  go_wp2_with fail
                  go_roundw
                  case rel => exact ⟨j + 1, by omega, by go_num, by rw [HC2.out]; simp, HV3⟩
                  case measure => simp [intOf]; omega
                case neg =>
                  have hb3 : decide (qd < pd) = false := decide_eq_false h3
                  by_cases h4 : qd = pd
                  case neg =>
                    have hb4 : (qd == pd) = false := beq_eq_false_iff_ne.2 h4
                    have HC2 := hid (show aheadL task ⟨pc, pb, pd, pp, pt⟩ (seen P k pl (j + 1)) = cv by rw [HSN.out, show aheadQ task ⟨pc, pb, pd, pp, pt⟩ _ = false by simp [aheadQ, h1, h2, h3, h4]]; rfl)
                    clear HSN
                    clear h1
                    clear h2
                    clear h4
                    go_wp2_with fail
                    go_roundw
                    case rel => exact ⟨j + 1, by omega, by go_num, by rw [HC2.out], HV3⟩
                    case measure => simp [intOf]; omega
                  case pos =>
                    have hb4 : (qd == pd) = true := beq_iff_eq.2 h4
                    by_cases h5 : k < task
                    case pos =>
                      have hb5 : decide ((k : Int) < (task : Int)) = true := decide_eq_true (by omega)
                      have hb6 : decide (k < task) = true := decide_eq_true h5
                      have HC2 := hid (show aheadL task ⟨pc, pb, pd, pp, pt⟩ (seen P k pl (j + 1)) = cv + 1 by rw [HSN.out, show aheadQ task ⟨pc, pb, pd, pp, pt⟩ _ = true by simp [aheadQ, h1, h2, h3, h4, h5]]; rfl)
                      clear HSN
                      clear h1
                      clear h2
                      clear h4
                      go_wp2_with fail
                      go_roundw
                      case rel => exact ⟨j + 1, by omega, by go_num, by rw [HC2.out]; simp, HV3⟩
                      case measure => simp [intOf]; omega
                    case neg =>
                      have hb5 : decide ((k : Int) < (task : Int)) = false := decide_eq_false (by omega)
                      have hb6 : decide (k < task) = false := decide_eq_false h5
                      have HC2 := hid (show aheadL task ⟨pc, pb, pd, pp, pt⟩ (seen P k pl (j + 1)) = cv by rw [HSN.out, show aheadQ task ⟨pc, pb, pd, pp, pt⟩ _ = false by simp [aheadQ, h1, h2, h3, h4, h5]]; rfl)
                      clear HSN
                      clear h1
                      clear h2
                      clear h4
                      go_wp2_with fail
                      go_roundw
                      case rel => exact ⟨j + 1, by omega, by go_num, by rw [HC2.out], HV3⟩
                      case measure => simp [intOf]; omega
        case neg =>
          obtain rfl : j = m3 := by omega
          have HC2 := hid (show aheadL task ⟨pc, pb, pd, pp, pt⟩ (partsOf (P.take (k + 1))) = aheadL task ⟨pc, pb, pd, pp, pt⟩ (seen P k pl j) by rw [← seen_all HY.out, ← HM3.out])
          go_wp2_with fail
          go_roundw
          case rel => exact ⟨k + 1, by omega, by go_num, by rw [HC2.out], HVi⟩
          case measure => simp [intOf]; omega
    case neg =>
      obtain rfl : k = n := by omega
      have HE := hid (show P.take k = P by rw [HN.out, List.take_length])
      go_wp2_with fail
      go_ret
      exact ⟨by rw [HE.out]; rfl, HVr.out.below⟩
end
end Go.Proofs.Ytmhochjpdedlgaa
/- A list of lists of pieces that a call has made: the outer row and its rows, each the call's own. -/
set_option linter.unusedVariables false
set_option linter.unusedSimpArgs false
namespace Go.Proofs.Ytmhochjpdedlgaa
open Go.RowKit

def encPc (p : Pc) : List Value := [.int .i64 p.core, .int .i64 p.bud, .int .i64 p.dl, .int .i64 p.prio, .bool p.tight]
theorem encPc_len (p : Pc) : (encPc p).length = 5 := rfl
theorem encPc_one (p : Pc) : ∀ v ∈ encPc p, v.oneCell' = true := by
  intro v hv
  simp [encPc] at hv
  rcases hv with rfl | rfl | rfl | rfl | rfl <;> rfl
structure OG (w : World) (base : Nat) (u : Value) (vs : List Value) (Q : Pl) : Prop where
  out : w.ownsRow base 52 1 u vs.length vs
  len : vs.length = Q.length
  rows : ∀ (i : Nat) v q, vs[i]? = some v → Q[i]? = some q → w.ownsRow base 62 5 v q.length (flat encPc q)
  apart : ∀ v ∈ vs, ∀ k, v.ownBlock = some k → u.ownBlock ≠ some k
def OGSet (u : Value) (vs : List Value) (k : Nat) : Prop := u.ownBlock = some k ∨ ∃ v ∈ vs, v.ownBlock = some k
section
variable {w w' : World} {base : Nat} {u u' : Value} {vs : List Value} {Q : Pl}
theorem OG.nil (w : World) (base : Nat) : OG w base (.slice none 0 0) [] [] := ⟨World.ownsRow_nil _ _ _ _, rfl, fun i v q h => by simp at h, fun v h => by simp at h⟩
theorem OG.row (h : OG w base u vs Q) {v : Value} (hv : v ∈ vs) : ∃ q, w.ownsRow base 62 5 v q.length (flat encPc q) := by
  obtain ⟨i, hi⟩ := List.mem_iff_getElem?.1 hv
  have hq : i < Q.length := by have := h.len; have := (List.getElem?_eq_some_iff.1 hi).1; omega
  exact ⟨Q[i], h.rows i _ _ hi (List.getElem?_eq_getElem hq)⟩
theorem OG.lt (h : OG w base u vs Q) : ∀ k, OGSet u vs k → base ≤ k ∧ k < w.heap.size := by
  intro k hk
  rcases hk with hk | ⟨v, hv, hk⟩
  · exact h.out.lt k hk
  · obtain ⟨q, hq⟩ := h.row hv
    exact hq.lt k hk
theorem OG.kept {S : Nat → Prop} (h : OG w base u vs Q) (k : Fr S w w') (hn : ∀ j, OGSet u vs j → ¬ S j) : OG w' base u vs Q :=
  ⟨own_kept h.out k (fun j hj => hn j (.inl hj)), h.len, fun i v q hv hq => own_kept (h.rows i v q hv hq) k (fun j hj => hn j (.inr ⟨v, List.mem_of_getElem? hv, hj⟩)), h.apart⟩
theorem OG.later (h : OG w base u vs Q) (k : Below w.heap.size w w') : OG w' base u vs Q := h.kept (fr0 k) (fun _ _ h => h)
/-- One more row. -/
theorem OG.snoc (h : OG w base u vs Q) {v : Value} {q : List Pc} (hv : w.ownsRow base 62 5 v q.length (flat encPc q)) (hd : ∀ k, v.ownBlock = some k → u.ownBlock ≠ some k)
    (hown : w'.ownsRow base 52 1 u' (vs.length + 1) (vs ++ [v])) (hF : Fr (fun k => u.ownBlock = some k) w w') (hu : u'.ownBlock = u.ownBlock ∨ ∃ k, u'.ownBlock = some k ∧ w.heap.size ≤ k) : OG w' base u' (vs ++ [v]) (Q ++ [q]) := by
  have key : ∀ x ∈ vs ++ [v], ∃ q, w.ownsRow base 62 5 x q.length (flat encPc q) ∧ ∀ k, x.ownBlock = some k → u.ownBlock ≠ some k := by
    intro x hx
    rcases List.mem_append.1 hx with hx | hx
    · obtain ⟨q, hq⟩ := h.row hx
      exact ⟨q, hq, h.apart x hx⟩
    · simp at hx
      subst hx
      exact ⟨q, hv, hd⟩
  refine ⟨by rw [List.length_append]; exact hown, by simp [h.len], fun i x y hx hy => ?_, fun x hx k hk e => ?_⟩
  · by_cases hi : i < vs.length
    · rw [List.getElem?_append_left hi] at hx
      rw [List.getElem?_append_left (by have := h.len; omega)] at hy
      exact own_kept (h.rows i x y hx hy) hF (fun k hk e => h.apart x (List.mem_of_getElem? hx) k hk e)
    · have hi2 : i = vs.length := by have := (List.getElem?_eq_some_iff.1 hx).1; simp at this; omega
      subst hi2
      rw [List.getElem?_append_right (Nat.le_refl _)] at hx
      rw [List.getElem?_append_right (by have := h.len; omega)] at hy
      simp at hx
      rw [h.len] at hy
      simp at hy
      subst hx
      subst hy
      exact own_kept hv hF (fun k hk e => hd k hk e)
  · obtain ⟨q2, hq2, hap⟩ := key x hx
    rcases hu with hu | ⟨j, hu, hj⟩
    · exact hap k hk (by rw [← hu]; exact e)
    · rw [hu] at e
      injection e with e
      have := (hq2.lt k hk).2
      omega
theorem flat_fst : ∀ (vs : List Value) (Q : Pl), vs.length = Q.length → flat (fun x : Value × List Pc => [x.1]) (vs.zip Q) = vs
  | [], _, _ => by simp [flat]
  | v :: vs, [], h => by simp at h
  | v :: vs, q :: Q, h => by
    have := flat_fst vs Q (by simpa using h)
    simp [flat] at this ⊢
    exact this
/-- It is a plan. -/
theorem OG.plan (h : OG w base u vs Q) : Rowp 1 (RowR 5 pcR) w u Q := by
  have h1 : Rowp 1 (fun w cs (x : Value × List Pc) => cs = [x.1] ∧ Rowp 5 pcR w x.1 x.2) w u (vs.zip Q) := by
    refine Rowp.of_own (base := base) (e := 52) (n := vs.length) (enc := fun x => [x.1]) (fun x => rfl) (by rw [flat_fst vs Q h.len]; exact h.out) (by rw [List.length_zip, h.len]; simp) (by decide) (fun x hx => ⟨rfl, ?_⟩)
    obtain ⟨i, hi⟩ := List.mem_iff_getElem?.1 hx
    rw [List.getElem?_zip_eq_some] at hi
    exact Rowp.of_own encPc_len (h.rows i _ _ hi.1 hi.2) rfl (by decide) (fun p _ => rfl)
  have h2 := h1.mono (R' := RowR 5 pcR) (f := Prod.snd) (fun cs x _ hr => ⟨x.1, hr.1, hr.2⟩)
  rwa [List.map_snd_zip (by rw [h.len]; exact Nat.le_refl _)] at h2
end
end Go.Proofs.Ytmhochjpdedlgaa
