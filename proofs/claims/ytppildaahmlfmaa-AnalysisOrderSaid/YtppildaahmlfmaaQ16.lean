/- Joined: PRightPlain, Ref17RPlain. -/
import Derived.Test.YtppildaahmlfmaaQ03
import Derived.Test.YtppildaahmlfmaaQ15
set_option linter.unusedVariables false
set_option linter.unusedSimpArgs false
/- analysis.Right, plain: what its three maps hold when some parts have come. No program in sight. -/
set_option linter.unusedVariables false
set_option linter.unusedSimpArgs false
namespace Go.Proofs.Ytppildaahmlfmaa
open Go.RowKit

def hasF (l : List Pt) : Int × Int → Option Bool := fun q => if l.any (fun x => decide ((x.task : Int) = q.1 ∧ x.p.core = q.2)) then some true else none
def tightF (l : List Pt) : Int → Option Int := fun c => if tightN l c = 0 then none else some (tightN l c)
def usersF (S : Sy) (l : List Pt) : Int → Option Bool := fun c => if l.any (fun x => decide (x.p.core = c)) then some (usersB S l c) else none
def secOf (S : Sy) (i : Nat) : Bool := (S.tasks[i]?.map fun t => !t.secs.isEmpty).getD false
def keyPt (x : Pt) : Int × Int := (x.task, x.p.core)
theorem hasF_snoc (l : List Pt) (x : Pt) (q : Int × Int) : hasF (l ++ [x]) q = if q = keyPt x then some true else hasF l q := by
  unfold hasF keyPt
  rw [List.any_append]
  by_cases h : q = ((x.task : Int), x.p.core)
  · subst h
    simp
  · have h2 : [x].any (fun x => decide ((x.task : Int) = q.1 ∧ x.p.core = q.2)) = false := by
      rw [List.any_cons, List.any_nil, Bool.or_false]
      exact decide_eq_false (fun e => h (Prod.ext e.1.symm e.2.symm))
    rw [h2, Bool.or_false, if_neg h]
theorem hasF_get (l : List Pt) (x : Pt) : (hasF l (keyPt x)).getD false = decide (keyPt x ∈ l.map keyPt) := by
  unfold hasF keyPt
  by_cases h : l.any (fun y => decide ((y.task : Int) = (x.task : Int) ∧ y.p.core = x.p.core)) = true
  · rw [if_pos h]
    obtain ⟨y, hy, e⟩ := List.any_eq_true.1 h
    have := of_decide_eq_true e
    symm
    exact decide_eq_true (List.mem_map.2 ⟨y, hy, Prod.ext this.1 this.2⟩)
  · rw [if_neg h]
    symm
    refine decide_eq_false (fun hm => h ?_)
    obtain ⟨y, hy, e⟩ := List.mem_map.1 hm
    injection e with e1 e2
    exact List.any_eq_true.2 ⟨y, hy, decide_eq_true ⟨e1, e2⟩⟩
theorem tightN_snoc (l : List Pt) (x : Pt) (c : Int) : tightN (l ++ [x]) c = if x.p.core = c ∧ x.p.tight = true then tightN l c + 1 else tightN l c := by
  unfold tightN
  rw [List.filter_append, List.length_append]
  by_cases h1 : x.p.core = c <;> cases h2 : x.p.tight <;> simp [h1, h2]
theorem tightF_snoc (l : List Pt) (x : Pt) (hx : x.p.tight = true) (c : Int) : tightF (l ++ [x]) c = if c = x.p.core then some ((tightF l x.p.core).getD 0 + 1) else tightF l c := by
  unfold tightF
  by_cases h : c = x.p.core
  · subst h
    have e : tightN (l ++ [x]) x.p.core = tightN l x.p.core + 1 := by rw [tightN_snoc, if_pos ⟨rfl, hx⟩]
    rw [e, if_pos rfl, if_neg (by omega)]
    by_cases h0 : tightN l x.p.core = 0
    · rw [if_pos h0, h0]; rfl
    · rw [if_neg h0]; rfl
  · have e : tightN (l ++ [x]) c = tightN l c := by rw [tightN_snoc, if_neg (fun e => h e.1.symm)]
    rw [e, if_neg h]
theorem tightF_same (l : List Pt) (x : Pt) (hx : x.p.tight = false) (c : Int) : tightF (l ++ [x]) c = tightF l c := by
  unfold tightF
  have e : tightN (l ++ [x]) c = tightN l c := by rw [tightN_snoc, if_neg (fun e => by rw [hx] at e; cases e.2)]
  rw [e]
theorem usersB_snoc (S : Sy) (l : List Pt) (x : Pt) (c : Int) : usersB S (l ++ [x]) c = (usersB S l c || (decide (x.p.core = c) && secOf S x.task)) := by
  unfold usersB secOf
  rw [List.any_append]
  simp
theorem usersF_snoc (S : Sy) (l : List Pt) (x : Pt) (c : Int) : usersF S (l ++ [x]) c = if c = x.p.core then some ((usersF S l x.p.core).getD false || secOf S x.task) else usersF S l c := by
  unfold usersF
  rw [List.any_append, usersB_snoc]
  by_cases h : c = x.p.core
  · subst h
    rw [if_pos (by simp), if_pos rfl]
    congr 1
    simp only [decide_true, Bool.true_and]
    by_cases h0 : l.any (fun y => decide (y.p.core = x.p.core)) = true
    · rw [if_pos h0]; rfl
    · rw [if_neg h0]
      have : usersB S l x.p.core = false := by
        unfold usersB
        rw [List.any_eq_false]
        intro y hy
        have h1 : ¬ y.p.core = x.p.core := fun e => h0 (List.any_eq_true.2 ⟨y, hy, decide_eq_true e⟩)
        simp [h1]
      rw [this]; rfl
  · have h1 : decide (x.p.core = c) = false := decide_eq_false (fun e => h e.symm)
    simp [h1, h]
/-- No task has two pieces on one core: just where the keys are all others. -/
theorem keys_pts (i : Nat) (l : List Pc) : (ptsOf i l).map keyPt = l.map fun p => ((i : Int), p.core) := by
  unfold ptsOf keyPt
  apply List.ext_getElem?
  intro k
  rw [List.getElem?_map, List.getElem?_mapIdx, List.getElem?_map, Option.map_map]
  rfl
theorem keys_nodup {P : Pl} : distB P = true ↔ ((partsOf P).map keyPt).Nodup := by
  have key : ∀ (P : Pl) (b : Nat), (((P.mapIdx fun i l => ptsOf (b + i) l).flatten).map keyPt).Nodup ↔ distB P = true := by
    intro P
    induction P with
    | nil => intro b; simp [distB]
    | cons l P ih =>
      intro b
      have e : ((l :: P).mapIdx fun i l => ptsOf (b + i) l) = ptsOf b l :: (P.mapIdx fun i l => ptsOf (b + 1 + i) l) := by
        rw [List.mapIdx_cons]
        congr 1
        apply List.ext_getElem?
        intro k
        simp [Nat.add_comm, Nat.add_left_comm]
      rw [e, List.flatten_cons, List.map_append, List.nodup_append, ih, keys_pts]
      have h1 : (l.map fun p => ((b : Int), p.core)).Nodup ↔ (l.map Pc.core).Nodup := by
        rw [List.Nodup, List.Nodup, List.pairwise_map, List.pairwise_map]
        constructor
        · exact fun h => h.imp (fun {x y} hxy e => hxy (by rw [e]))
        · exact fun h => h.imp (fun {x y} hxy e => hxy (by injection e))
      have h2 : ∀ x ∈ (l.map fun p => ((b : Int), p.core)), ∀ y ∈ (((P.mapIdx fun i l => ptsOf (b + 1 + i) l).flatten).map keyPt), x ≠ y := by
        intro x hx y hy hxy
        obtain ⟨p, _, rfl⟩ := List.mem_map.1 hx
        obtain ⟨z, hz, rfl⟩ := List.mem_map.1 hy
        obtain ⟨L, hL, hz⟩ := List.mem_flatten.1 hz
        obtain ⟨i, hi, rfl⟩ := List.mem_mapIdx.1 hL
        unfold ptsOf at hz
        obtain ⟨k, hk, rfl⟩ := List.mem_mapIdx.1 hz
        unfold keyPt at hxy
        injection hxy with h _
        simp only at h
        omega
      rw [h1]
      unfold distB
      simp only [List.all_cons, Bool.and_eq_true, decide_eq_true_eq]
      constructor
      · exact fun h => ⟨h.1, h.2.1⟩
      · exact fun h => ⟨h.1, h.2, h2⟩
  have := (key P 0).symm
  simp only [Nat.zero_add] at this
  exact this
theorem nodup_prefix {l m : List Pt} (h : l <+: m) (hn : (m.map keyPt).Nodup) : (l.map keyPt).Nodup := by
  obtain ⟨r, rfl⟩ := h
  rw [List.map_append, List.nodup_append] at hn
  exact hn.1
theorem tightN_pos {l : List Pt} {c : Int} (h : 0 < tightN l c) : ∃ x ∈ l, x.p.core = c := by
  unfold tightN at h
  obtain ⟨x, hx⟩ := List.exists_mem_of_length_pos h
  have h1 := List.mem_filter.1 hx
  simp only [Bool.and_eq_true, decide_eq_true_eq] at h1
  exact ⟨x, h1.1, h1.2.1⟩
theorem coresB_false {S : Sy} {P : Pl} {c n : Int} (h : tightF (partsOf P) c = some n) (hb : 1 < n ∨ (usersF S (partsOf P) c).getD false = true) : coresB S P = false := by
  unfold tightF at h
  by_cases h0 : tightN (partsOf P) c = 0
  · rw [if_pos h0] at h; cases h
  · rw [if_neg h0] at h
    injection h with h
    obtain ⟨x, hx, hc⟩ := tightN_pos (Nat.pos_of_ne_zero h0)
    unfold coresB
    rw [List.all_eq_false]
    refine ⟨x, hx, ?_⟩
    rw [hc]
    simp only [decide_eq_true_eq]
    rintro (e | ⟨e1, e2⟩)
    · exact h0 e
    · rcases hb with hb | hb
      · omega
      · have : usersF S (partsOf P) c = some (usersB S (partsOf P) c) := by
          unfold usersF
          rw [if_pos (List.any_eq_true.2 ⟨x, hx, decide_eq_true hc⟩)]
        rw [this, e2] at hb
        cases hb
theorem coresB_true {S : Sy} {P : Pl} (h : ∀ c n, tightF (partsOf P) c = some n → n ≤ 1 ∧ (usersF S (partsOf P) c).getD false = false) : coresB S P = true := by
  unfold coresB
  rw [List.all_eq_true]
  intro x hx
  refine decide_eq_true ?_
  by_cases h0 : tightN (partsOf P) x.p.core = 0
  · exact .inl h0
  · obtain ⟨h1, h2⟩ := h x.p.core (tightN (partsOf P) x.p.core) (by unfold tightF; rw [if_neg h0])
    refine .inr ⟨by omega, ?_⟩
    unfold usersF at h2
    rw [if_pos (List.any_eq_true.2 ⟨x, hx, by simp⟩)] at h2
    exact h2
theorem parts_len_le {P : Pl} (h : ∀ l ∈ P, l.length ≤ 8) : (partsOf P).length ≤ 8 * P.length := by
  have key : ∀ (P : Pl) (b : Nat), (∀ l ∈ P, l.length ≤ 8) → (P.mapIdx fun i l => ptsOf (b + i) l).flatten.length ≤ 8 * P.length := by
    intro P
    induction P with
    | nil => intro b _; simp
    | cons l P ih =>
      intro b h
      have e : ((l :: P).mapIdx fun i l => ptsOf (b + i) l) = ptsOf b l :: (P.mapIdx fun i l => ptsOf (b + 1 + i) l) := by
        rw [List.mapIdx_cons]
        congr 1
        apply List.ext_getElem?
        intro k
        simp [Nat.add_comm, Nat.add_left_comm]
      have h1 := ih (b + 1) (fun l hl => h l (List.mem_cons_of_mem _ hl))
      have h2 := h l List.mem_cons_self
      rw [e, List.flatten_cons, List.length_append, pts_length, List.length_cons]
      omega
  have := key P 0 h
  simp only [Nat.zero_add] at this
  exact this
theorem tightN_le (l : List Pt) (c : Int) : tightN l c ≤ l.length := List.length_filter_le _ _
end Go.Proofs.Ytppildaahmlfmaa
/- The document's chapter 17: Right, plain: what its two tallies hold. No program in sight. -/
set_option linter.unusedVariables false
set_option linter.unusedSimpArgs false
namespace Go.Proofs.Ytppildaahmlfmaa
open Go.RowKit

def usersN (S : Sy) (l : List Pt) (c : Int) : Nat := (l.filter fun x => decide (x.p.core = c) && secOf S x.task).length
theorem usersN_snoc (S : Sy) (l : List Pt) (x : Pt) (c : Int) : usersN S (l ++ [x]) c = if x.p.core = c ∧ secOf S x.task = true then usersN S l c + 1 else usersN S l c := by
  unfold usersN
  rw [List.filter_append, List.length_append]
  by_cases h1 : x.p.core = c <;> cases h2 : secOf S x.task <;> simp [h1, h2]
theorem usersN_le (S : Sy) (l : List Pt) (c : Int) : usersN S l c ≤ l.length := List.length_filter_le _ _
theorem users_pos {S : Sy} {l : List Pt} {c : Int} : usersB S l c = true ↔ 0 < usersN S l c := by
  have e : usersB S l c = l.any fun x => decide (x.p.core = c) && secOf S x.task := rfl
  rw [e, List.any_eq_true, usersN, List.length_pos_iff_exists_mem]
  constructor
  · rintro ⟨x, h1, h2⟩
    exact ⟨x, List.mem_filter.2 ⟨h1, h2⟩⟩
  · rintro ⟨x, h⟩
    exact ⟨x, (List.mem_filter.1 h).1, (List.mem_filter.1 h).2⟩
/-- What has been seen: all pieces of i tasks, and k of the next one's. -/
def seen (P : Pl) (i : Nat) (l : List Pc) (k : Nat) : List Pt := partsOf (P.take i) ++ ptsOf i (l.take k)
theorem seen_zero (P : Pl) (i : Nat) (l : List Pc) : seen P i l 0 = partsOf (P.take i) := by simp [seen, ptsOf]
theorem seen_succ {P : Pl} {i : Nat} {l : List Pc} {k : Nat} {p : Pc} (h : l[k]? = some p) : seen P i l (k + 1) = seen P i l k ++ [⟨p, i, k⟩] := by
  unfold seen
  rw [pts_take_succ h, List.append_assoc]
theorem seen_all {P : Pl} {i : Nat} {l : List Pc} (h : P[i]? = some l) : seen P i l l.length = partsOf (P.take (i + 1)) := by
  unfold seen
  rw [List.take_length, parts_take_succ h]
theorem seen_len {P : Pl} {i : Nat} {l : List Pc} (h8 : ∀ (a : Nat) l, a ≤ i → P[a]? = some l → l.length ≤ 8) (h : P[i]? = some l) (k : Nat) : (seen P i l k).length ≤ 8 * (i + 1) := by
  have h1 := parts_len_le (P := P.take i) (fun l hl => by
    obtain ⟨a, ha⟩ := List.mem_iff_getElem?.1 hl
    rw [List.getElem?_take] at ha
    split at ha
    · exact h8 a l (by omega) ha
    · cases ha)
  have h2 := h8 i l (Nat.le_refl _) h
  unfold seen
  rw [List.length_append, pts_length, List.length_take]
  rw [List.length_take] at h1
  omega
theorem cores_good {S : Sy} {P : Pl} {nc : Nat} (hc : ∀ x ∈ partsOf P, 0 ≤ x.p.core ∧ x.p.core < nc) (h : ∀ c : Nat, c < nc → tightN (partsOf P) c ≤ 1 ∧ (tightN (partsOf P) c = 1 → usersN S (partsOf P) c = 0)) : coresB S P = true := by
  refine coresB_true (fun c n h1 => ?_)
  unfold tightF at h1
  by_cases h0 : tightN (partsOf P) c = 0
  · rw [if_pos h0] at h1; cases h1
  · rw [if_neg h0] at h1
    injection h1 with h1
    obtain ⟨x, hx, rfl⟩ := tightN_pos (Nat.pos_of_ne_zero h0)
    obtain ⟨c1, c2⟩ := hc x hx
    obtain ⟨j, hj⟩ : ∃ j : Nat, x.p.core = j := ⟨x.p.core.toNat, by omega⟩
    rw [hj] at h0 h1 ⊢
    obtain ⟨h2, h3⟩ := h j (by omega)
    refine ⟨by omega, ?_⟩
    have h4 := h3 (by omega)
    unfold usersF
    split
    · cases e : usersB S (partsOf P) (j : Int) with
      | false => rfl
      | true => have := users_pos.1 e; omega
    · rfl
theorem cores_bad {S : Sy} {P : Pl} {c : Int} (h : 1 < tightN (partsOf P) c ∨ (tightN (partsOf P) c = 1 ∧ 0 < usersN S (partsOf P) c)) : coresB S P = false := by
  refine coresB_false (c := c) (n := tightN (partsOf P) c) (by unfold tightF; rw [if_neg (by omega)]) ?_
  rcases h with h | ⟨h1, h2⟩
  · exact .inl (by omega)
  · refine .inr ?_
    have h3 := users_pos.2 h2
    have h4 : (partsOf P).any (fun x => decide (x.p.core = c)) = true := by
      obtain ⟨x, hx, e⟩ := tightN_pos (l := partsOf P) (c := c) (by omega)
      exact List.any_eq_true.2 ⟨x, hx, decide_eq_true e⟩
    unfold usersF
    rw [if_pos h4, h3]
    rfl
theorem refLists {S : Sy} {P : Pl} (hlen : P.length = S.tasks.length) (h : ∀ (i : Nat) t l, S.tasks[i]? = some t → P[i]? = some l → refListB S t l = true) : listsB S S.tasks P = true ∧ distB P = true := by
  have h2 : ∀ (i : Nat) t l, S.tasks[i]? = some t → P[i]? = some l → listOkB S t l = true ∧ (l.map Pc.core).Nodup := fun i t l ht hl => by
    have := h i t l ht hl
    unfold refListB at this
    simpa using this
  refine ⟨listsB_iff.2 (fun i t l ht hl => (h2 i t l ht hl).1), ?_⟩
  unfold distB
  rw [List.all_eq_true]
  intro l hl
  obtain ⟨i, hi⟩ := List.mem_iff_getElem?.1 hl
  have hi2 := (List.getElem?_eq_some_iff.1 hi).1
  exact decide_eq_true (h2 i _ l (List.getElem?_eq_getElem (by omega)) hi).2
theorem refLists_bad {S : Sy} {P : Pl} {i : Nat} {t : Tsk} {l : List Pc} (ht : S.tasks[i]? = some t) (hl : P[i]? = some l) (h : refListB S t l = false) : planB S P = false := by
  unfold planB
  unfold refListB at h
  cases e : listOkB S t l with
  | false =>
    have : listsB S S.tasks P = false := by
      cases e2 : listsB S S.tasks P with
      | false => rfl
      | true => have := listsB_iff.1 e2 i t l ht hl; rw [e] at this; cases this
    rw [this]; simp
  | true =>
    rw [e, Bool.true_and] at h
    have : distB P = false := by
      unfold distB
      rw [List.all_eq_false]
      exact ⟨l, List.mem_of_getElem? hl, by simpa using of_decide_eq_false h⟩
    rw [this]; simp
end Go.Proofs.Ytppildaahmlfmaa
