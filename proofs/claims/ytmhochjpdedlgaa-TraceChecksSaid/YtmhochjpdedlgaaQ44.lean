/- Joined: ShpPlain, CheckPlain, UnitPlain, StepMap, Trace12, Trace14, Trace15, Trace16. -/
import Derived.Test.YtmhochjpdedlgaaQ43
import Derived.Test.YtmhochjpdedlgaaQ15
import Derived.BigRegion
import Derived.Deep.QuietTactic
import Derived.BigQuiet
set_option linter.unusedVariables false
set_option linter.unusedSimpArgs false
/- Where the second rule is broken first: there is one answer only (plain). -/
set_option linter.unusedVariables false
set_option linter.unusedSimpArgs false
namespace Go.Proofs.Ytmhochjpdedlgaa

theorem Shp.uniq {nc nt : Nat} {X : List (List Sl)} {t c t' c' : Int} {b b' : Bool} (h : Shp nc nt X t c b) (k : Shp nc nt X t' c' b') : t = t' ∧ c = c' ∧ b = b' := by
  rcases h with ⟨rfl, rfl, rfl, ha⟩ | ⟨rfl, tn, cn, l, rfl, rfl, hl, hc, hb, hp, hr⟩
  · rcases k with ⟨rfl, rfl, rfl, _⟩ | ⟨rfl, tn, cn, l, rfl, rfl, hl, hc, hb, hp, hr⟩
    · exact ⟨rfl, rfl, rfl⟩
    · have := ha l (List.mem_of_getElem? hl) cn hc
      rw [hb] at this
      cases this
  · rcases k with ⟨rfl, rfl, rfl, ha⟩ | ⟨rfl, tm, cm, m, rfl, rfl, kl, kc, kb, kp, kr⟩
    · have := ha l (List.mem_of_getElem? hl) cn hc
      rw [hb] at this
      cases this
    · rcases Nat.lt_trichotomy tn tm with h1 | h1 | h1
      · have := kr tn l h1 hl cn hc
        rw [hb] at this
        cases this
      · subst h1
        rw [hl] at kl
        injection kl with kl
        subst kl
        rcases Nat.lt_trichotomy cn cm with h2 | h2 | h2
        · have := kp cn h2
          rw [hb] at this
          cases this
        · subst h2
          exact ⟨rfl, rfl, rfl⟩
        · have := hp cm h2
          rw [kb] at this
          cases this
      · have := hr tm m h1 kl cm kc
        rw [kb] at this
        cases this
end Go.Proofs.Ytmhochjpdedlgaa
/- Rules 3, 5, 6, 7 of a trace as plain data, and the first rule that is broken: there is one answer only. No program. -/
set_option linter.unusedVariables false
set_option linter.unusedSimpArgs false
namespace Go.Proofs.Ytmhochjpdedlgaa

/-! Rule 3 -/
def tskAt (S : Sy) (task : Int) : Tsk := (S.tasks[task.toNat]?).getD ⟨0, 0, 0, []⟩
def jobHead (nt n : Nat) (j : Jb) : Bool := decide (0 ≤ j.task ∧ j.task < nt ∧ 0 ≤ j.arr ∧ -1 ≤ j.fin ∧ j.fin ≤ n ∧ (j.fin = -1 ∨ j.arr < j.fin))
/-- The arrival of the job ahead of the i-th: no later. -/
def orderB (l : List Jb) (i : Nat) (j : Jb) : Bool :=
  match i with
  | 0 => true
  | k + 1 => ((l[k]?).map fun y => decide (y.arr ≤ j.arr)).getD true
def missB (dl : Int) (n : Nat) (j : Jb) : Bool := j.miss == decide (j.arr < (if j.fin = -1 then (n : Int) + 1 else j.fin) - dl)
/-- The last job of a task ahead of the i-th. -/
def prevJ (l : List Jb) (task : Int) : Nat → Option Jb
  | 0 => none
  | i + 1 =>
    match l[i]? with
    | some y => if y.task = task then some y else prevJ l task i
    | none => prevJ l task i
def prevB (per : Int) (j : Jb) (o : Option Jb) : Bool :=
  match o with
  | none => true
  | some y => decide (per ≤ j.arr - y.arr) && (!decide (y.fin = -1) && decide (y.fin ≤ j.arr))
def jobB (S : Sy) (X : Tr) (i : Nat) : Bool :=
  match X.jobs[i]? with
  | none => true
  | some j => jobHead S.tasks.length X.slots.length j && (orderB X.jobs i j && (missB (tskAt S j.task).dl X.slots.length j && prevB (tskAt S j.task).per j (prevJ X.jobs j.task i)))
section
variable {l : List Jb} {task : Int} {i : Nat} {y : Jb}
theorem prevJ_hit (h : l[i]? = some y) (e : y.task = task) : prevJ l task (i + 1) = some y := by unfold prevJ; rw [h]; simp [e]
theorem prevJ_miss (h : l[i]? = some y) (e : y.task ≠ task) : prevJ l task (i + 1) = prevJ l task i := by conv => lhs; unfold prevJ; rw [h]; simp [e]
end
/-! Rule 5 -/
/-- How many units a job has worked ahead of a tick. -/
def unitN (X : Tr) (j : Jb) (t : Nat) : Nat := (workN X j t).length
def amountB (S : Sy) (X : Tr) (i : Nat) : Bool :=
  match X.jobs[i]? with
  | none => true
  | some j => decide ((unitN X j X.slots.length : Int) ≤ (tskAt S j.task).wc) && (decide (j.fin = -1) || decide (unitN X j (j.fin.toNat - 1) < unitN X j j.fin.toNat))
/-! Rule 6 -/
/-- Is the piece for the n-th unit on the core c? -/
def pieceB : List Pc → Int → Int → Bool
  | [], _, _ => false
  | p :: l, n, c => if n < p.bud then decide (p.core = c) else pieceB l (n - p.bud) c
def unitOf (X : Tr) (task : Int) (t : Nat) : Nat := (((activeI X.jobs task t).bind fun i => X.jobs[i]?).map fun j => unitN X j t).getD 0
def placeB (T : Tb) (X : Tr) (t c : Nat) : Bool :=
  match (X.slots[t]?).bind fun l => l[c]? with
  | none => true
  | some s =>
    if s.kind = 0 ∨ s.kind = 1 then true else
      if s.kind ≠ 2 then decide (((T.ents[s.task.toNat]?).map fun e => e.ps.map Pc.core).getD [] = [(c : Int)]) else
        pieceB (((T.ents[s.task.toNat]?).map En.ps).getD []) (unitOf X s.task t) c
/-! Rule 7 -/
def secIn (n : Int) (x : Sec) : Bool := decide (x.at_ < n) && decide (n < x.at_ + x.len)
def withinI (S : Sy) (X : Tr) (i t : Nat) : Option Int :=
  match X.jobs[i]? with
  | none => none
  | some j => if (!onB j t || decide (j.fin = (t : Int) + 1)) = true then none else (((tskAt S j.task).secs).find? (secIn (unitN X j (t + 1)))).map Sec.res
def apartB (S : Sy) (X : Tr) (t i : Nat) : Bool :=
  match withinI S X i t with
  | none => true
  | some r => (List.range i).all fun h => !decide (withinI S X h t = some r)
/-! All rules -/
def ruleB (T : Tb) (X : Tr) (r : Nat) (t i : Nat) : Bool :=
  if r = 3 then jobB T.sys X i else if r = 4 then onceB ((X.slots[t]?).getD []) X.jobs t i else if r = 5 then amountB T.sys X i else if r = 6 then placeB T X t i else apartB T.sys X t i
def ruleN (X : Tr) (r : Nat) : Nat := if r = 3 ∨ r = 5 then 1 else X.slots.length
def ruleM (nc : Nat) (X : Tr) (r : Nat) : Nat := if r = 4 ∨ r = 6 then nc else X.jobs.length
def Ok2 (P : Nat → Nat → Bool) (N M : Nat) : Prop := ∀ t c, t < N → c < M → P t c = true
structure Fst2 (P : Nat → Nat → Bool) (N M t c : Nat) : Prop where
  tN : t < N
  cM : c < M
  bad : P t c = false
  row : ∀ c', c' < c → P t c' = true
  rows : ∀ t' c', t' < t → c' < M → P t' c' = true
theorem Fst2.uniq {P : Nat → Nat → Bool} {N M t c t' c' : Nat} (h : Fst2 P N M t c) (k : Fst2 P N M t' c') : t = t' ∧ c = c' := by
  rcases Nat.lt_trichotomy t t' with h1 | h1 | h1
  · have := k.rows t c h1 h.cM; rw [h.bad] at this; cases this
  · subst h1
    rcases Nat.lt_trichotomy c c' with h2 | h2 | h2
    · have := k.row c h2; rw [h.bad] at this; cases this
    · exact ⟨rfl, h2⟩
    · have := h.row c' h2; rw [k.bad] at this; cases this
  · have := h.rows t' c' h1 k.cM; rw [k.bad] at this; cases this
theorem Ok2.no {P : Nat → Nat → Bool} {N M t c : Nat} (h : Ok2 P N M) (k : Fst2 P N M t c) : False := by have := h t c k.tN k.cM; rw [k.bad] at this; cases this
/-- A rule holds throughout. -/
def RuleOk (T : Tb) (X : Tr) (r : Nat) : Prop := Ok2 (ruleB T X r) (ruleN X r) (ruleM T.sys.cores.toNat X r)
/-- A rule is broken first there. -/
def RuleBad (T : Tb) (X : Tr) (r : Nat) (tick core : Int) : Prop := ∃ t c, Fst2 (ruleB T X r) (ruleN X r) (ruleM T.sys.cores.toNat X r) t c ∧ (if r = 3 ∨ r = 5 then tick = (c : Int) ∧ core = 0 else tick = (t : Int) ∧ core = (c : Int))
theorem RuleBad.uniq {T : Tb} {X : Tr} {r : Nat} {a b a' b' : Int} (h : RuleBad T X r a b) (k : RuleBad T X r a' b') : a = a' ∧ b = b' := by
  obtain ⟨t, c, h1, h2⟩ := h
  obtain ⟨t', c', k1, k2⟩ := k
  obtain ⟨rfl, rfl⟩ := h1.uniq k1
  split at h2
  · rw [if_pos (by assumption)] at k2
    exact ⟨h2.1.trans k2.1.symm, h2.2.trans k2.2.symm⟩
  · rw [if_neg (by assumption)] at k2
    exact ⟨h2.1.trans k2.1.symm, h2.2.trans k2.2.symm⟩
theorem RuleOk.no {T : Tb} {X : Tr} {r : Nat} {a b : Int} (h : RuleOk T X r) (k : RuleBad T X r a b) : False := by obtain ⟨t, c, k1, _⟩ := k; exact Ok2.no h k1
/-- What is found of a trace. -/
inductive Fnd (T : Tb) (X : Tr) : Int → Int → Int → Prop
  | table (h : tabB T = false) : Fnd T X 1 (-1) (-1)
  | shape (h : tabB T = true) {t c : Int} (k : Shp T.sys.cores.toNat T.sys.tasks.length X.slots t c true) : Fnd T X 2 t c
  | rule (h : tabB T = true) (k : Shp T.sys.cores.toNat T.sys.tasks.length X.slots 0 0 false) {r : Nat} (h3 : 3 ≤ r) (h7 : r ≤ 7) (ok : ∀ r', 3 ≤ r' → r' < r → RuleOk T X r') {t c : Int} (bad : RuleBad T X r t c) : Fnd T X r t c
  | none (h : tabB T = true) (k : Shp T.sys.cores.toNat T.sys.tasks.length X.slots 0 0 false) (ok : ∀ r', 3 ≤ r' → r' ≤ 7 → RuleOk T X r') : Fnd T X 0 (-1) (-1)
theorem Fnd.uniq {T : Tb} {X : Tr} {r t c r' t' c' : Int} (h : Fnd T X r t c) (k : Fnd T X r' t' c') : r = r' ∧ t = t' ∧ c = c' := by
  cases h with
  | table h =>
    cases k with
    | table k => exact ⟨rfl, rfl, rfl⟩
    | shape k => rw [h] at k; cases k
    | rule k => rw [h] at k; cases k
    | none k => rw [h] at k; cases k
  | shape h hs =>
    cases k with
    | table k => rw [h] at k; cases k
    | shape _ ks => obtain ⟨a, b, _⟩ := hs.uniq ks; exact ⟨rfl, a, b⟩
    | rule _ ks => obtain ⟨_, _, e⟩ := hs.uniq ks; cases e
    | none _ ks => obtain ⟨_, _, e⟩ := hs.uniq ks; cases e
  | @rule h hs rn h3 h7 ok _ _ bad =>
    cases k with
    | table k => rw [h] at k; cases k
    | shape _ ks => obtain ⟨_, _, e⟩ := hs.uniq ks; cases e
    | @rule _ ks rm k3 k7 okk _ _ badk =>
      rcases Nat.lt_trichotomy rn rm with h1 | h1 | h1
      · exact (RuleOk.no (okk rn h3 h1) bad).elim
      · subst h1
        obtain ⟨a, b⟩ := bad.uniq badk
        exact ⟨rfl, a, b⟩
      · exact (RuleOk.no (ok rm k3 h1) badk).elim
    | none _ ks okk => exact (RuleOk.no (okk rn h3 h7) bad).elim
  | none h hs ok =>
    cases k with
    | table k => rw [h] at k; cases k
    | shape _ ks => obtain ⟨_, _, e⟩ := hs.uniq ks; cases e
    | @rule _ ks rm k3 k7 okk _ _ badk => exact (RuleOk.no (ok rm k3 k7) badk).elim
    | none => exact ⟨rfl, rfl, rfl⟩
end Go.Proofs.Ytmhochjpdedlgaa
/- The ticks in which a job works, in their order: units ahead of a tick; the last one (plain). -/
set_option linter.unusedVariables false
set_option linter.unusedSimpArgs false
namespace Go.Proofs.Ytmhochjpdedlgaa

section
variable {X : Tr} {j : Jb}
theorem workN_mem {n : Nat} {x : Int} (h : x ∈ workN X j n) : ∃ t : Nat, x = t ∧ t < n ∧ onB j t = true ∧ worksB ((X.slots[t]?).getD []) j.task = true := by
  unfold workN at h
  obtain ⟨t, ht, rfl⟩ := List.mem_map.1 h
  obtain ⟨h1, h2⟩ := List.mem_filter.1 ht
  simp only [Bool.and_eq_true] at h2
  exact ⟨t, rfl, by simpa using h1, h2.1, h2.2⟩
theorem workN_split {t n : Nat} (h : t ≤ n) : ∃ R, workN X j n = workN X j t ++ R ∧ ∀ x ∈ R, (t : Int) ≤ x := by
  induction n with
  | zero => obtain rfl : t = 0 := by omega
            exact ⟨[], by simp, fun x hx => by cases hx⟩
  | succ n ih =>
    by_cases e : t = n + 1
    · subst e; exact ⟨[], by simp, fun x hx => by cases hx⟩
    · obtain ⟨R, h1, h2⟩ := ih (by omega)
      rw [workN_succ]
      split
      · refine ⟨R ++ [(n : Int)], by rw [h1, List.append_assoc], fun x hx => ?_⟩
        rcases List.mem_append.1 hx with h3 | h3
        · exact h2 x h3
        · simp at h3; omega
      · exact ⟨R, h1, h2⟩
theorem unitN_le {t n : Nat} (h : t ≤ n) : unitN X j t ≤ unitN X j n := by
  obtain ⟨R, h1, _⟩ := workN_split (X := X) (j := j) h
  unfold unitN; rw [h1, List.length_append]; omega
theorem unitN_bound (t : Nat) : unitN X j t ≤ t := by
  unfold unitN workN; rw [List.length_map]; exact Nat.le_trans (List.length_filter_le _ _) (by simp)
/-- The k-th tick of work is ahead of t just where k is below the units ahead of t. -/
theorem workN_at {t n k : Nat} (h : t ≤ n) {x : Int} (hx : (workN X j n)[k]? = some x) : x < t ↔ k < unitN X j t := by
  obtain ⟨R, h1, h2⟩ := workN_split (X := X) (j := j) h
  rw [h1] at hx
  by_cases e : k < (workN X j t).length
  · rw [List.getElem?_append_left e] at hx
    obtain ⟨s, rfl, hs, _⟩ := workN_mem (List.mem_of_getElem? hx)
    exact ⟨fun _ => e, fun _ => by omega⟩
  · rw [List.getElem?_append_right (by omega)] at hx
    have := h2 x (List.mem_of_getElem? hx)
    exact ⟨fun h => by omega, fun h => by unfold unitN at h; omega⟩
theorem unitN_succ (t : Nat) : unitN X j (t + 1) = if (onB j t && worksB ((X.slots[t]?).getD []) j.task) = true then unitN X j t + 1 else unitN X j t := by
  unfold unitN; rw [workN_succ]; split <;> simp
/-- No tick of work behind the end. -/
theorem workN_end {f n : Nat} (hf : j.fin = (f : Int)) (h : f ≤ n) : workN X j n = workN X j f := by
  obtain ⟨R, h1, h2⟩ := workN_split (X := X) (j := j) h
  cases R with
  | nil => simpa using h1
  | cons y R =>
    have h3 : y ∈ workN X j n := by rw [h1]; simp
    obtain ⟨t, rfl, _, h4, _⟩ := workN_mem h3
    have h5 := h2 (t : Int) (by simp)
    unfold onB at h4
    rw [hf] at h4
    simp at h4
    omega
/-- The last tick of work is the one ahead of the end just where units rise there. -/
theorem work_last {f n : Nat} (hf : j.fin = (f : Int)) (h0 : 0 < f) (h : f ≤ n) : (match (workN X j n).getLast? with | none => false | some x => decide (x = (f : Int) - 1)) = decide (unitN X j (f - 1) < unitN X j f) := by
  rw [workN_end hf h]
  obtain ⟨g, rfl⟩ : ∃ g, f = g + 1 := ⟨f - 1, by omega⟩
  rw [unitN_succ, workN_succ]
  simp only [Nat.add_sub_cancel]
  by_cases hc : (onB j (g : Nat) && worksB ((X.slots[g]?).getD []) j.task) = true
  · rw [if_pos hc, if_pos hc, List.getLast?_append]
    simp
  · rw [if_neg hc, if_neg hc, decide_eq_false (Nat.lt_irrefl _)]
    cases e : (workN X j g).getLast? with
    | none => rfl
    | some x =>
      obtain ⟨t, rfl, ht, _⟩ := workN_mem (List.mem_of_getLast? e)
      exact decide_eq_false (by omega)
end
theorem jobB_eq {S : Sy} {X : Tr} {i : Nat} {j : Jb} (hj : X.jobs[i]? = some j) : jobB S X i = (jobHead S.tasks.length X.slots.length j && (orderB X.jobs i j && (missB (tskAt S j.task).dl X.slots.length j && prevB (tskAt S j.task).per j (prevJ X.jobs j.task i)))) := by unfold jobB; rw [hj]
theorem jobB_head {S : Sy} {X : Tr} {i : Nat} {j : Jb} (h : jobB S X i = true) (hj : X.jobs[i]? = some j) : jobHead S.tasks.length X.slots.length j = true := by
  rw [jobB_eq hj] at h
  simp only [Bool.and_eq_true] at h
  exact h.1
end Go.Proofs.Ytmhochjpdedlgaa
/- Package trace: the look's map of units (step to int), the look's block. -/
set_option linter.unusedVariables false
set_option linter.unusedSimpArgs false
namespace Go.Proofs.Ytmhochjpdedlgaa
open Go.RowKit Go.Shelf Go.Maps

theorem Try.step_pair : PairT Try.prog 137 := pairT_struct (of_decide_eq_true (by kernel_rfl)) (by kernel_rfl) Try.underlying137 Try.underlying3 Try.underlying3 (by kernel_rfl) (by kernel_rfl) (by kernel_rfl) (by kernel_rfl) (by kernel_rfl) (by kernel_rfl) (by kernel_rfl)
set_option maxRecDepth 100000 in
theorem Try.step_law : WideMaps.KeyLaw Try.prog 137 := deep_law_laid Try.laidOut0 (m := 2) (by omega) Try.step_pair.row (by kernel_rfl) (by kernel_rfl)
theorem Try.mapStep : MapLaw Try.prog 137 3 pairV pairW eI dI eIntR 0 := law_pair_int Try.step_pair (Keyed.of_law Try.step_law) Try.zero_int
abbrev MSt (w : World) (b n : Nat) (f : Int × Int → Option Int) : Prop := MapG Try.prog 137 pairV dI eIntR 0 w b n f
/-- Units of a job ahead of a tick, by their numbers. -/
def unitAt (X : Tr) (p : Int × Int) : Int := ((X.jobs[p.1.toNat]?).map fun j => (unitN X j p.2.toNat : Int)).getD 0
/-- All jobs ahead of i, all ticks to n; of job i the ticks ahead of t. -/
def fU (X : Tr) (n i t : Nat) (p : Int × Int) : Option Int := if (0 ≤ p.1 ∧ p.1 < i ∧ 0 ≤ p.2 ∧ p.2 ≤ n) ∨ (p.1 = i ∧ 0 ≤ p.2 ∧ p.2 < t) then some (unitAt X p) else none
theorem fU_start (X : Tr) (n : Nat) (p : Int × Int) : fU X n 0 0 p = none := if_neg (by omega)
theorem fU_step {X : Tr} {n i t : Nat} {j : Jb} (hj : X.jobs[i]? = some j) (p : Int × Int) : (if p = ((i : Int), (t : Int)) then some (unitN X j t : Int) else fU X n i t p) = fU X n i (t + 1) p := by
  by_cases e : p = ((i : Int), (t : Int))
  · subst e
    rw [if_pos rfl]
    unfold fU unitAt
    rw [if_pos (.inr ⟨rfl, by simp, by simp only; omega⟩)]
    simp [hj]
  · rw [if_neg e]
    unfold fU
    have h2 : p.1 = i → p.2 ≠ t := fun h1 h2 => e (Prod.ext h1 h2)
    by_cases h : (0 ≤ p.1 ∧ p.1 < i ∧ 0 ≤ p.2 ∧ p.2 ≤ n) ∨ (p.1 = i ∧ 0 ≤ p.2 ∧ p.2 < t)
    · rw [if_pos h, if_pos (by omega)]
    · rw [if_neg h, if_neg (fun k => h (by rcases k with k | ⟨k1, k2, k3⟩
                                           · exact .inl k
                                           · have := h2 k1; exact .inr ⟨k1, k2, by omega⟩))]
theorem fU_row (X : Tr) (n i : Nat) (p : Int × Int) : fU X n i (n + 1) p = fU X n (i + 1) 0 p := by
  unfold fU
  by_cases h : (0 ≤ p.1 ∧ p.1 < i ∧ 0 ≤ p.2 ∧ p.2 ≤ n) ∨ (p.1 = i ∧ 0 ≤ p.2 ∧ p.2 < ((n + 1 : Nat) : Int))
  · rw [if_pos h, if_pos (by omega)]
  · rw [if_neg h, if_neg (by omega)]
/-- What the map says of a job and a tick. -/
theorem fU_at {X : Tr} {n m i t : Nat} {j : Jb} (hj : X.jobs[i]? = some j) (hi : i < m) (ht : t ≤ n) : (fU X n m 0 ((i : Int), (t : Int))).getD 0 = (unitN X j t : Int) := by
  unfold fU unitAt
  rw [if_pos (.inl ⟨by simp, by simp only; omega, by simp, by simp only; omega⟩)]
  simp [hj]
/-- The world as the look's functions find it: its block K, its map Z. -/
structure LkW (w : World) (K Z : Nat) (T : Tb) (X : Tr) (At : Option Addr) (nt ct : Nat) (Ae : Option Addr) (ne ce : Nat) (cv : Value) (A : Option Addr) (n cp : Nat) (A2 : Option Addr) (m c2 : Nat) : Prop where
  blk : w.heap[K]? = some (.cells (lkC T.sys (.slice At nt ct) (.slice Ae ne ce) cv (.slice A n cp) (.slice A2 m c2) (.map (some Z))) 83 (0, 0))
  map : ∃ N, MSt w Z N (fU X n m 0)
  tr : IsTr w (.slice A n cp) (.slice A2 m c2) X
  ts : Rowp 4 tskR w (.slice At nt ct) T.sys.tasks
  es : Rowp 2 entR w (.slice Ae ne ce) T.ents
  n6 : n ≤ 1000000
  m6 : m ≤ 1000000
section
variable {w w' : World} {K Z : Nat} {T : Tb} {X : Tr} {At : Option Addr} {nt ct : Nat} {Ae : Option Addr} {ne ce : Nat} {cv : Value} {A : Option Addr} {n cp : Nat} {A2 : Option Addr} {m c2 : Nat}
theorem LkW.later (H : LkW w K Z T X At nt ct Ae ne ce cv A n cp A2 m c2) (k : Below w.heap.size w w') : LkW w' K Z T X At nt ct Ae ne ce cv A n cp A2 m c2 :=
  ⟨(fr0 k).blk H.blk (fun h => h), let ⟨N, h⟩ := H.map; ⟨N, h.kept (fr0 k) (fun h => h)⟩, H.tr.later k, H.ts.later tskR.stays k, H.es.later entR.stays k, H.n6, H.m6⟩
/-- A look at the map. -/
theorem LkW.look (H : LkW w K Z T X At nt ct Ae ne ce cv A n cp A2 m c2) {i t : Nat} {j : Jb} (hj : X.jobs[i]? = some j) (ht : t ≤ n) :
    (Instr.lookup 81 (.map (some Z)) (.agg #[.int .i64 (i : Int), .int .i64 (t : Int)]) false).run Try.prog w = .ok (.int .i64 (unitN X j t : Int)) w := by
  obtain ⟨N, hm⟩ := H.map
  have hn := H.n6
  have hmm := H.m6
  have hl := H.tr.jobs.len
  have hi : i < m := by have := (List.getElem?_eq_some_iff.1 hj).1; omega
  have h1 := Try.mapStep.look Try.underlying81 hm (x := ((i : Int), (t : Int))) ⟨kwI_mk (by simp only; omega) (by simp only; omega), kwI_mk (by simp only; omega) (by simp only; omega)⟩
  rw [fU_at hj hi ht] at h1
  exact h1
end
end Go.Proofs.Ytmhochjpdedlgaa
/- Package trace: the look's count (contract). -/
set_option linter.unusedVariables false
set_option linter.unusedSimpArgs false
namespace Go.Proofs.Ytmhochjpdedlgaa
open Go.RowKit Go.Shelf Go.Maps

section
variable {w : World}
set_option maxRecDepth 100000 in
set_option maxHeartbeats 6400000 in
theorem count_any (w0 : World) (K : Nat) (S : Sy) (tv ev cv uv : Value) (X : Tr) (A : Option Addr) (n cp : Nat) (A2 : Option Addr) (m c2 : Nat)
    (hK : w.heap[K]? = some (.cells (lkC S tv ev cv (.slice A n cp) (.slice A2 m c2) uv) 83 (0, 0))) (hw0 : Below w0.heap.size w0 w) (hK0 : w0.heap.size ≤ K) (h : IsTr w0 (.slice A n cp) (.slice A2 m c2) X) (hn6 : n ≤ 1000000) (hm6 : m ≤ 1000000) :
    Calls Try.prog 34 #[.pointer (some ⟨K, 0, none⟩)] w fun e w' => e = .returned (.tuple #[]) ∧
      w'.heap[K]? = some (.cells (lkC S tv ev cv (.slice A n cp) (.slice A2 m c2) (.map (some w.heap.size))) 83 (0, 0)) ∧ (∃ N, MSt w' w.heap.size N (fU X n m 0)) ∧ Fr (One K) w w' := by
  have hn := h.slots.len
  have hm := h.jobs.len
  have hmm := @run_makeMap Try.prog
  have HX := hid h
  have HFB := hid (fun W (k : Fr (One K) w W) => (((Fr.of_below (S := NoB) hw0).trans k (fun x hx => by rw [show x = K from hx]; exact .inr hK0)).no : Below w0.heap.size w0 W))
  have HWK := hid (fun W (j : Jb) (t : Int) => on_tr_any (w := W) j t)
  unfold jbV at HWK
  have HN := hid hn
  have HM := hid hm
  have hK1 := blk_old hK (.map #[] 0)
  have hKl := blk_lt hK
  have hM1 : MSt (w.alloc (.map #[] 0)) w.heap.size 0 (fun _ => none) := MapG.made w
  have hsz : (w.alloc (.map #[] 0)).heap.size = w.heap.size + 1 := by simp
  have hF1 : Fr (One K) w (w.alloc (.map #[] 0)) := (Fr.refl _ _).alloc _
  have d13 : (w.alloc (.map #[] 0)).cell? ⟨K, 13, none⟩ = some uv := blk_cell hK1 13
  have z13 : (w.alloc (.map #[] 0)).frozen? ⟨K, 13, none⟩ = false := blk_free hK1 13
  have HK1 := hid hK1
  have HM1 := hid hM1
  have HF1 := hid hF1
  have HKL := hid hKl
  clear h hn hm hw0 hK0 hK hK1 hM1 hsz hF1 hKl
  go_enter Try.func34, Try.ntmps34
  go_upto_region 1 with fail
  have hKZ : K ≠ w.heap.size := fun e => by have := HKL.out; omega
  have HB1 := hid (show ((w.alloc (.map #[] 0)).setCell ⟨K, 13, none⟩ (.map (some w.heap.size))).heap[K]? = some (.cells (lkC S tv ev cv (.slice A n cp) (.slice A2 m c2) (.map (some w.heap.size))) 83 (0, 0)) from by have := blk_set HK1.out 13 (.map (some w.heap.size)); simpa [lkC] using this)
  have HM2 := hid (show MSt ((w.alloc (.map #[] 0)).setCell ⟨K, 13, none⟩ (.map (some w.heap.size))) w.heap.size 0 (fun _ => none) from HM1.out.kept ((Fr.refl (One K) _).one 13 _) (fun h => hKZ h.symm))
  have HF2 := hid (show Fr (One K) w ((w.alloc (.map #[] 0)).setCell ⟨K, 13, none⟩ (.map (some w.heap.size))) from HF1.out.one 13 _)
  obtain ⟨Z, hZ⟩ : ∃ Z, w.heap.size = Z := ⟨_, rfl⟩
  rw [hZ] at HB1 HM2 HF2 hKZ ⊢
  generalize (w.alloc (.map #[] 0)).setCell ⟨K, 13, none⟩ (.map (some Z)) = w1 at *
  have HZ := hid hZ
  have HKZ := hid hKZ
  clear d13 z13 hZ hKZ HK1 HM1 HF1
  have k12 : w1.cell? ⟨K, 12, none⟩ = some (.slice A2 m c2) := blk_cell HB1.out 12
  go_wp2_with fail
  clear k12
  go_loopw [17] (fun v wr => ∃ i : Nat, i ≤ m ∧ v = .int .i64 i ∧ Hid (wr.heap[K]? = some (.cells (lkC S tv ev cv (.slice A n cp) (.slice A2 m c2) (.map (some Z))) 83 (0, 0))) ∧ Hid (MSt wr Z (i * 2000000) (fU X n i 0)) ∧ Hid (Fr (One K) w wr)) (fun v _ => m - (intOf v).toNat)
  case atStart => exact ⟨0, by omega, rfl, HB1, hid ((HM2.out.mono (Nat.zero_le _)).congr (fun p => (fU_start X n p).symm)), HF2⟩
  case round =>
    obtain ⟨i, hi, rfl, HKr, HMr, HFr⟩ := hrel
    by_cases hlt : i < m
    case neg =>
      obtain rfl : i = m := by omega
      go_wp2_with fail
      go_end0
      exact ⟨rfl, by rw [HZ.out]; exact HKr.out, by rw [HZ.out]; exact ⟨_, HMr.out⟩, HFr.out⟩
    case pos =>
      obtain ⟨j, hj⟩ : ∃ j, X.jobs[i]? = some j := ⟨_, List.getElem?_eq_getElem (by have := HM.out; omega)⟩
      have hb0 := HFB.out wr HFr.out
      obtain ⟨b, o, cs, hA, hbl, _, hc, hr⟩ := (HX.out.jobs.later jbR.stays hb0).at hj
      subst hA
      have hr' : cs = [.int .i64 j.task, .int .i64 j.arr, .int .i64 j.fin, .bool j.cut, .bool j.miss] := hr
      subst hr'
      have HJ := hid hj
      have HON := hid (HWK.out · j)
      have HUS := hid (fun t => unitN_succ (X := X) (j := j) t)
      have HST := hid (fun t (p : Int × Int) => fU_step (n := n) (t := t) hj p)
      have HU0 := hid (show unitN X j 0 = 0 from rfl)
      have HUB := hid (fun t => unitN_bound (X := X) (j := j) t)
      obtain ⟨U, hU⟩ : ∃ U, unitN X j = U := ⟨_, rfl⟩
      rw [hU] at HUS HST HU0 HUB
      obtain ⟨jt, ja, jf, jc, jm⟩ := j
      simp only at hc HON HUS
      have e0 : wr.cell? ⟨b, o + i * 5, none⟩ = some (.int .i64 jt) := by simpa using hc 0 _ rfl
      have e1 : wr.cell? ⟨b, o + i * 5 + 1, none⟩ = some (.int .i64 ja) := hc 1 _ rfl
      have e2 : wr.cell? ⟨b, o + i * 5 + 2, none⟩ = some (.int .i64 jf) := hc 2 _ rfl
      have e3 : wr.cell? ⟨b, o + i * 5 + 3, none⟩ = some (.bool jc) := hc 3 _ rfl
      have e4 : wr.cell? ⟨b, o + i * 5 + 4, none⟩ = some (.bool jm) := hc 4 _ rfl
      clear hj hb0 hbl hc hr hU
      go_upto_region 5 with fail
      have hq7 := blk_new wr (.cells #[.int .i64 jt, .int .i64 ja, .int .i64 jf, .bool jc, .bool jm] 45)
      have hk7 := blk_old HKr.out (.cells #[.int .i64 jt, .int .i64 ja, .int .i64 jf, .bool jc, .bool jm] 45)
      have hf7 := HFr.out.alloc (.cells #[.int .i64 jt, .int .i64 ja, .int .i64 jf, .bool jc, .bool jm] 45)
      have hm7 := HMr.out.kept ((Fr.refl NoB wr).alloc (.cells #[.int .i64 jt, .int .i64 ja, .int .i64 jf, .bool jc, .bool jm] 45)) (fun h => h)
      generalize wr.alloc (.cells #[.int .i64 jt, .int .i64 ja, .int .i64 jf, .bool jc, .bool jm] 45) = w7 at *
      have hZlt := hm7.lt
      obtain ⟨D, hD⟩ : ∃ D, wr.heap.size = D := ⟨_, rfl⟩
      have HDK := hid (show D ≠ K ∧ D ≠ Z from ⟨fun e => by have := blk_lt HKr.out; omega, fun e => by have := HMr.out.lt; omega⟩)
      rw [hD] at hq7 ⊢
      have HQ7 := hid hq7
      have HK7 := hid hk7
      have HF7 := hid hf7
      have HM7 := hid hm7
      have k11 : w7.cell? ⟨K, 11, none⟩ = some (.slice A n cp) := blk_cell hk7 11
      clear hq7 hk7 hf7 hm7 hD e0 e1 e2 e3 e4 hZlt HKr HMr HFr
      go_wp2_with fail
      clear k11
      go_loopw [28, 4] (fun v u wr => ∃ t : Nat, t ≤ n ∧ v = .int .i64 t ∧ u = .int .i64 (U t : Nat) ∧ Hid (wr.heap[K]? = some (.cells (lkC S tv ev cv (.slice A n cp) (.slice (some ⟨b, o, none⟩) m c2) (.map (some Z))) 83 (0, 0))) ∧ Hid (MSt wr Z (i * 2000000 + t) (fU X n i t)) ∧ Hid (Fr (One K) w wr) ∧ Hid (wr.heap[D]? = some (.cells #[.int .i64 jt, .int .i64 ja, .int .i64 jf, .bool jc, .bool jm] 45 (0, 0)))) (fun v _ _ => n - (intOf v).toNat)
      case atStart =>
        exact ⟨0, by omega, rfl, int_eq (by rw [HU0.out]; rfl), HK7, hid (HM7.out.mono (by omega)), HF7, HQ7⟩
      case round =>
        obtain ⟨t, ht, rfl, rfl, HKs, HMs, HFs, HQs⟩ := hrel
        have hub := HUB.out t
        by_cases htl : t < n
        case pos =>
          obtain ⟨l, hl⟩ : ∃ l, X.slots[t]? = some l := ⟨_, List.getElem?_eq_getElem (by have := HN.out; omega)⟩
          have hb0 := HFB.out wr HFs.out
          obtain ⟨b3, o3, cs3, hA3, hbl3, _, hc3, u3, hr3, hru3⟩ := HX.out.slots.at hl
          subst hA3
          subst hr3
          obtain ⟨A4, c4, hu4, _⟩ := hru3.shape
          obtain ⟨n4, hn4⟩ : ∃ n4, l.length = n4 := ⟨_, rfl⟩
          rw [hn4] at hu4
          subst hu4
          have e0 : wr.cell? ⟨b3, o3 + t, none⟩ = some (.slice A4 n4 c4) := (hb0.cell (p := ⟨b3, o3 + t, none⟩) hbl3).trans (by simpa using hc3 0 _ rfl)
          have k13 : wr.cell? ⟨K, 13, none⟩ = some (.map (some Z)) := blk_cell HKs.out 13
          obtain ⟨W2, st1, hM2, hg2⟩ := Try.mapStep.store Try.underlying81 HMs.out (by unfold maxLen; omega) (x := ((i : Int), (t : Int))) ⟨kwI_mk (by simp only; omega) (by simp only; omega), kwI_mk (by simp only; omega) (by simp only; omega)⟩ (U t : Int)
          unfold pairV eI at st1
          simp only at st1
          have HSU := hid (HUS.out t)
          rw [show (X.slots[t]?).getD [] = l from by rw [hl]; rfl] at HSU
          have HRU := hid hru3
          have HB0 := hid hb0
          have hZK : some K ≠ some Z := fun e => by injection e with e; exact HKZ.out e
          have hZD : some D ≠ some Z := fun e => by injection e with e; exact HDK.out.2 e
          have HK2 := hid (blk_grown HKs.out hg2 hZK)
          have HQ2 := hid (blk_grown HQs.out hg2 hZD)
          have HM2 := hid (hM2.congr (HST.out t))
          have HF2 := hid (HFs.out.grown hg2 (fun k hk => by injection hk with hk; rw [← hk]; exact .inr (by rw [HZ.out]; exact Nat.le_refl _)))
          have HG2 := hid hg2
          clear hl hc3 hru3 hn4 hbl3 hb0 hM2 hg2 hZK hZD
          go_upto_region 9 with fail
          clear st1 e0 k13
          have j0 : W2.cell? ⟨D, 0, none⟩ = some (.int .i64 jt) := blk_cell HQ2.out 0
          have j1 : W2.cell? ⟨D, 1, none⟩ = some (.int .i64 ja) := blk_cell HQ2.out 1
          have j2 : W2.cell? ⟨D, 2, none⟩ = some (.int .i64 jf) := blk_cell HQ2.out 2
          have j3 : W2.cell? ⟨D, 3, none⟩ = some (.bool jc) := blk_cell HQ2.out 3
          have j4 : W2.cell? ⟨D, 4, none⟩ = some (.bool jm) := blk_cell HQ2.out 4
          obtain ⟨ob, hob⟩ : ∃ v, onB ⟨jt, ja, jf, jc, jm⟩ (t : Int) = v := ⟨_, rfl⟩
          have HO2 := hid (HON.out W2 t)
          rw [hob] at HO2 HSU
          clear hob
          go_wp2_with fail
          refine HO2.out.mono ?_
          rintro e W3 ⟨rfl, hb3⟩
          have HK3 := hid ((fr0 hb3).blk HK2.out (fun h => h))
          have HQ3 := hid ((fr0 hb3).blk HQ2.out (fun h => h))
          have HM3 := hid (HM2.out.kept (fr0 hb3) (fun h => h))
          have HF3 := hid (HF2.out.andBelow hb3)
          clear hb3 j0 j1 j2 j3 j4 HK2 HQ2 HM2 HF2 HG2
          cases ob
          case false =>
            have HUN := hid (show U (t + 1) = U t from by rw [HSU.out]; simp)
            go_wp2_with fail
            go_roundw
            case rel => exact ⟨t + 1, by omega, by go_num, by rw [HUN.out], HK3, hid (HM3.out.mono (by omega)), HF3, HQ3⟩
            case measure => simp [intOf]; omega
          case true =>
            have j0 : W3.cell? ⟨D, 0, none⟩ = some (.int .i64 jt) := blk_cell HQ3.out 0
            have HW3 := hid (works_any (w := W3) l A4 n4 c4 jt (HRU.out.later slR.stays (HFB.out W3 HF3.out)))
            go_wp2_with fail
            refine HW3.out.mono ?_
            rintro e W4 ⟨rfl, hb4⟩
            have HK4 := hid ((fr0 hb4).blk HK3.out (fun h => h))
            have HQ4 := hid ((fr0 hb4).blk HQ3.out (fun h => h))
            have HM4 := hid (HM3.out.kept (fr0 hb4) (fun h => h))
            have HF4 := hid (HF3.out.andBelow hb4)
            obtain ⟨vb, hvb⟩ : ∃ v, worksB l jt = v := ⟨_, rfl⟩
            rw [hvb] at HSU ⊢
            clear hb4 j0 HK3 HQ3 HM3 HF3 hvb
            cases vb
            case false =>
              have HUN := hid (show U (t + 1) = U t from by rw [HSU.out]; simp)
              go_wp2_with fail
              go_roundw
              case rel => exact ⟨t + 1, by omega, by go_num, by rw [HUN.out], HK4, hid (HM4.out.mono (by omega)), HF4, HQ4⟩
              case measure => simp [intOf]; omega
            case true =>
              have HUN := hid (show U (t + 1) = U t + 1 from by rw [HSU.out]; simp)
              obtain ⟨u, hu⟩ : ∃ u, U t = u := ⟨_, rfl⟩
              rw [hu] at HUN hub ⊢
              clear hu
              go_wp2_with fail
              go_roundw
              case rel => exact ⟨t + 1, by omega, by go_num, by rw [HUN.out]; go_num, HK4, hid (HM4.out.mono (by omega)), HF4, HQ4⟩
              case measure => simp [intOf]; omega
        case neg =>
          obtain rfl : t = n := by omega
          have k13 : wr.cell? ⟨K, 13, none⟩ = some (.map (some Z)) := blk_cell HKs.out 13
          have k13d : wr.drew.cell? ⟨K, 13, none⟩ = some (.map (some Z)) := k13
          have k11 : wr.cell? ⟨K, 11, none⟩ = some (.slice A t cp) := blk_cell HKs.out 11
          have k11d : wr.drew.cell? ⟨K, 11, none⟩ = some (.slice A t cp) := k11
          have HMd := hid (HMs.out.kept (Fr.refl NoB wr).drew (fun h => h))
          obtain ⟨W2, st1, hM2, hg2⟩ := Try.mapStep.store Try.underlying81 HMd.out (by unfold maxLen; omega) (x := ((i : Int), (t : Int))) ⟨kwI_mk (by simp only; omega) (by simp only; omega), kwI_mk (by simp only; omega) (by simp only; omega)⟩ (U t : Int)
          unfold pairV eI at st1
          simp only at st1
          have hZK : some K ≠ some Z := fun e => by injection e with e; exact HKZ.out e
          have HK2 := hid (blk_grown (W := wr.drew) HKs.out hg2 hZK)
          have HM2 := hid ((hM2.mono (show i * 2000000 + t + 1 ≤ (i + 1) * 2000000 by omega)).congr (fun p => (HST.out t p).trans (fU_row X t i p)))
          have HF2 := hid (HFs.out.drew.grown hg2 (fun k hk => by injection hk with hk; rw [← hk]; exact .inr (by rw [HZ.out]; exact Nat.le_refl _)))
          clear hM2 hg2 hZK
          go_upto_region 12 with fail
          go_region
          all_goals
            clear st1 k13 k13d k11 k11d
            go_wp2_with fail
            go_roundw
            case rel => exact ⟨i + 1, by omega, by go_num, HK2, HM2, HF2⟩
            case measure => simp [intOf]; omega
end
end Go.Proofs.Ytmhochjpdedlgaa
/- Package trace: the look's place (contract). -/
set_option linter.unusedVariables false
set_option linter.unusedSimpArgs false
namespace Go.Proofs.Ytmhochjpdedlgaa
open Go.RowKit Go.Shelf Go.Maps

theorem pieceB_at {l : List Pc} {k : Nat} {p : Pc} {n c : Int} (hp : l[k]? = some p) : pieceB (l.drop k) n c = if n < p.bud then decide (p.core = c) else pieceB (l.drop (k + 1)) (n - p.bud) c := by
  obtain ⟨hk, he⟩ := List.getElem?_eq_some_iff.1 hp
  rw [List.drop_eq_getElem_cons hk, he]
  rfl
theorem placeB_at {T : Tb} {X : Tr} {t c : Nat} {l : List Sl} {s : Sl} (hl : X.slots[t]? = some l) (hs : l[c]? = some s) : placeB T X t c = if s.kind = 0 ∨ s.kind = 1 then true else if s.kind ≠ 2 then decide (((T.ents[s.task.toNat]?).map fun e => e.ps.map Pc.core).getD [] = [(c : Int)]) else pieceB (((T.ents[s.task.toNat]?).map En.ps).getD []) (unitOf X s.task t) c := by
  unfold placeB
  rw [hl]
  show (match l[c]? with | none => true | some s => _) = _
  rw [hs]
theorem core_one {l : List Pc} {c : Int} {p : Pc} (h : l[0]? = some p) (h1 : l.length = 1) : decide (l.map Pc.core = [c]) = (p.core == c) := by
  match l, h, h1 with
  | [q], h, _ =>
    simp at h
    subst h
    simp only [List.map_cons, List.map_nil, List.cons.injEq, and_true]
    rfl
theorem core_many {l : List Pc} {c : Int} (h1 : l.length ≠ 1) : decide (l.map Pc.core = [c]) = false := decide_eq_false (fun h => h1 (by have := congrArg List.length h; simpa using this))
section
variable {w : World}
set_option maxRecDepth 100000 in
set_option maxHeartbeats 6400000 in
theorem place_any (K Z : Nat) (T : Tb) (X : Tr) (At : Option Addr) (nt ct : Nat) (Ae : Option Addr) (ne ce : Nat) (cv : Value) (A : Option Addr) (n cp : Nat) (A2 : Option Addr) (m c2 : Nat) (tick c : Nat) (l : List Sl) (s : Sl)
    (H : LkW w K Z T X At nt ct Ae ne ce cv A n cp A2 m c2) (hl : X.slots[tick]? = some l) (hs : l[c]? = some s) (hsh : shapeB nt s = true) (hne : ne = nt) (hact : s.kind = 2 → (activeI X.jobs s.task tick).isSome = true) (hbud : ∀ e ∈ T.ents, ∀ p ∈ e.ps, 0 ≤ p.bud) :
    Calls Try.prog 78 #[.pointer (some ⟨K, 0, none⟩), .int .i64 tick, .int .i64 c] w fun e w' => e = .returned (.bool (placeB T X tick c)) ∧ Below w.heap.size w w' := by
  have hn := H.tr.slots.len
  have hn6 := H.n6
  have hm6 := H.m6
  have hel := H.es.len
  have htn : tick < n := by have := (List.getElem?_eq_some_iff.1 hl).1; omega
  have HP := hid (placeB_at (T := T) hl hs)
  obtain ⟨b, o, cs, hA, hbl, _, hcs, u, hr, hru⟩ := H.tr.slots.at hl
  subst hA
  subst hr
  obtain ⟨A4, c4, hu4, hr4⟩ := hru.shape
  obtain ⟨n4, hn4⟩ : ∃ n4, l.length = n4 := ⟨_, rfl⟩
  have hc : c < n4 := by have := (List.getElem?_eq_some_iff.1 hs).1; omega
  rw [hn4] at hu4 hr4
  subst hu4
  have hn4m : n4 ≤ 9223372036854775807 := by unfold maxLen at hr4; omega
  obtain ⟨b5, o5, cs5, hA5, hbl5, _, hcs5, hr5⟩ := hru.at hs
  subst hA5
  have hr5' : cs5 = [.int .i64 s.kind, .int .i64 s.task, .int .i64 s.oth] := hr5
  subst hr5'
  have HH := hid H
  have HAC := hid hact
  have HBU := hid hbud
  have HSH := hid hsh
  obtain ⟨sk, st, so⟩ := s
  simp only at hcs5 HP HAC
  have k11 : w.cell? ⟨K, 11, none⟩ = some (.slice (some ⟨b, o, none⟩) n cp) := blk_cell H.blk 11
  have e0 : w.cell? ⟨b, o + tick, none⟩ = some (.slice (some ⟨b5, o5, none⟩) n4 c4) := by simpa using hcs 0 _ rfl
  have f0 : w.cell? ⟨b5, o5 + c * 3, none⟩ = some (.int .i64 sk) := by simpa using hcs5 0 _ rfl
  have f1 : w.cell? ⟨b5, o5 + c * 3 + 1, none⟩ = some (.int .i64 st) := hcs5 1 _ rfl
  have f2 : w.cell? ⟨b5, o5 + c * 3 + 2, none⟩ = some (.int .i64 so) := hcs5 2 _ rfl
  clear H hact hbud hl hs hsh hn hcs hcs5 hr5 hru hbl hbl5 hn4 hr4
  go_enter Try.func78, Try.ntmps78
  go_upto_region 2 with fail
  have HB0 := hid (below_new (Below.refl w.heap.size w) (.cells #[.int .i64 sk, .int .i64 st, .int .i64 so] 78))
  have HQ0 := hid (blk_new w (.cells #[.int .i64 sk, .int .i64 st, .int .i64 so] 78))
  generalize w.alloc (.cells #[.int .i64 sk, .int .i64 st, .int .i64 so] 78) = w1 at *
  have g0 : w1.cell? ⟨w.heap.size, 0, none⟩ = some (.int .i64 sk) := blk_cell HQ0.out 0
  have g1 : w1.cell? ⟨w.heap.size, 1, none⟩ = some (.int .i64 st) := blk_cell HQ0.out 1
  have g1d : w1.drew.cell? ⟨w.heap.size, 1, none⟩ = some (.int .i64 st) := g1
  clear k11 e0 f0 f1 f2
  by_cases s0 : sk = 0
  case pos =>
    have hb0 : (sk == 0) = true := beq_iff_eq.2 s0
    have HF := hid (show placeB T X tick c = true from by rw [HP.out, if_pos (.inl s0)])
    clear s0
    go_wp2_with fail
    go_ret
    exact ⟨by rw [HF.out]; rfl, HB0.out⟩
  case neg =>
    have hb0 : (sk == 0) = false := beq_eq_false_iff_ne.2 s0
    by_cases s1 : sk = 1
    case pos =>
      have hb1 : (sk == 1) = true := beq_iff_eq.2 s1
      have HF := hid (show placeB T X tick c = true from by rw [HP.out, if_pos (.inr s1)])
      clear s0 s1
      go_wp2_with fail
      go_ret
      exact ⟨by rw [HF.out]; rfl, HB0.out⟩
    case neg =>
      have hb1 : (sk == 1) = false := beq_eq_false_iff_ne.2 s1
      have hst : 0 ≤ st ∧ st < nt := by
        have h1 := HSH.out
        unfold shapeB at h1
        rw [if_neg (fun h => h.elim s0 s1)] at h1
        by_cases s2 : sk = 2
        · rw [if_pos s2] at h1
          unfold inT at h1
          simp at h1
          exact h1.1
        · rw [if_neg s2] at h1
          split at h1
          · unfold inT at h1
            simp at h1
            exact h1.1
          · cases h1
      obtain ⟨q, rfl⟩ : ∃ q : Nat, st = q := ⟨st.toNat, by omega⟩
      have hqn : q < ne := by omega
      obtain ⟨x, hx⟩ : ∃ x, T.ents[q]? = some x := ⟨_, List.getElem?_eq_getElem (by omega)⟩
      have H1 := HH.out.later HB0.out
      obtain ⟨b6, o6, cs6, hA6, hbl6, _, hc6, u6, hr6, hru6⟩ := H1.es.at hx
      subst hA6
      subst hr6
      obtain ⟨A7, c7, hu7, hr7⟩ := hru6.shape
      obtain ⟨n7, hn7⟩ : ∃ n7, x.ps.length = n7 := ⟨_, rfl⟩
      rw [hn7] at hu7 hr7
      subst hu7
      have hn7m : n7 ≤ 9223372036854775807 := by unfold maxLen at hr7; omega
      have h9 : w1.cell? ⟨K, 9, none⟩ = some (.slice (some ⟨b6, o6, none⟩) ne ce) := blk_cell H1.blk 9
      have h9d : w1.drew.cell? ⟨K, 9, none⟩ = some (.slice (some ⟨b6, o6, none⟩) ne ce) := h9
      have x0 : w1.cell? ⟨b6, o6 + q * 2, none⟩ = some (.slice A7 n7 c7) := by simpa using hc6 0 _ rfl
      have x0d : w1.drew.cell? ⟨b6, o6 + q * 2, none⟩ = some (.slice A7 n7 c7) := x0
      have hnem : ne ≤ 9223372036854775807 := by have := H1.es.room; unfold maxLen at this; omega
      have HR6 := hid hru6
      have HN7 := hid hn7
      have HBP := hid (fun p hp => HBU.out x (List.mem_of_getElem? hx) p hp)
      have HP2 := hid (show placeB T X tick c = if sk ≠ 2 then decide (x.ps.map Pc.core = [(c : Int)]) else pieceB x.ps (unitOf X q tick) c from by
        rw [HP.out, if_neg (fun h => h.elim s0 s1)]
        simp only [Int.toNat_natCast, hx, Option.map_some, Option.getD_some])
      clear hx hr7 hbl6 hc6 hru6 hn7 H1 hst s0 s1 hel
      go_upto_region 4 with fail
      go_region
      have HBD := hid (show Below w.heap.size w w1.drew from below_drewN' HB0.out 1)
      have HQD := hid (show w1.drew.heap[w.heap.size]? = _ from HQ0.out)
      have HRD := hid (HR6.out.later pcR.stays (Below.refl w1.heap.size w1).drew)
      generalize w1.drew = w2 at *
      clear g0 g1 g1d h9 h9d x0 x0d HB0 HQ0 HR6
      have g0 : w2.cell? ⟨w.heap.size, 0, none⟩ = some (.int .i64 sk) := blk_cell HQD.out 0
      by_cases s2 : sk = 2
      case neg =>
        have hb2 : (sk != 2) = true := by simpa using s2
        have HP3 := hid (show placeB T X tick c = decide (x.ps.map Pc.core = [(c : Int)]) from by rw [HP2.out, if_pos s2])
        clear s2
        by_cases h7 : n7 = 1
        case neg =>
          have h7b : ((n7 : Int) == 1) = false := beq_eq_false_iff_ne.2 (by omega)
          have HF := hid (show placeB T X tick c = false from by rw [HP3.out, core_many (by rw [HN7.out]; exact h7)])
          clear h7
          go_wp2_with fail
          go_ret
          exact ⟨by rw [HF.out]; rfl, HBD.out⟩
        case pos =>
          subst h7
          obtain ⟨p, hp⟩ : ∃ p, x.ps[0]? = some p := ⟨_, List.getElem?_eq_getElem (by have := HN7.out; omega)⟩
          obtain ⟨b8, o8, cs8, hA8, hbl8, _, hc8, hr8⟩ := HRD.out.at hp
          subst hA8
          have hr8' : cs8 = [.int .i64 p.core, .int .i64 p.bud, .int .i64 p.dl, .int .i64 p.prio, .bool p.tight] := hr8
          subst hr8'
          have HF := hid (show placeB T X tick c = (p.core == (c : Int)) from by rw [HP3.out, core_one hp HN7.out])
          have p0 : w2.cell? ⟨b8, o8, none⟩ = some (.int .i64 p.core) := by simpa using hc8 0 _ rfl
          obtain ⟨pc, hpc⟩ : ∃ v, p.core = v := ⟨_, rfl⟩
          rw [hpc] at HF p0
          clear hp hc8 hr8 hbl8 hpc
          go_wp2_with fail
          go_ret
          exact ⟨by rw [HF.out]; rfl, HBD.out⟩
      case pos =>
        have hb2 : (sk != 2) = false := by rw [s2]; rfl
        have HP3 := hid (show placeB T X tick c = pieceB x.ps (unitOf X q tick) c from by rw [HP2.out, if_neg (fun h => h s2)])
        obtain ⟨i, hi⟩ := Option.isSome_iff_exists.1 (HAC.out s2)
        have hij : ∃ j, X.jobs[i]? = some j := by
          unfold activeI at hi
          exact ⟨_, List.getElem?_eq_getElem (List.findIdx?_eq_some_iff_getElem.1 hi).1⟩
        obtain ⟨j, hj⟩ := hij
        have HUO := hid (show unitOf X q tick = unitN X j tick from by unfold unitOf; rw [hi]; simp only [Option.bind_some, hj, Option.map_some, Option.getD_some])
        have H2 := HH.out.later HBD.out
        have HAV := hid (active_any (w := w2) K X.jobs A2 m c2 q tick (blk_cell H2.blk 12) H2.tr.jobs)
        rw [hi] at HAV
        have HII := hid (show ((some i).getD 0 : Nat) = i from rfl)
        rw [HII.out] at HAV
        obtain ⟨un, hun⟩ : ∃ v, unitN X j tick = v := ⟨_, rfl⟩
        have hub : un ≤ tick := by rw [← hun]; exact unitN_bound tick
        have HL := hid (fun W (k : Below w2.heap.size w2 W) => by have := (H2.later k).look hj (Nat.le_of_lt htn); rw [hun] at this; exact this)
        have HK13 := hid (show w2.cell? ⟨K, 13, none⟩ = some (.map (some Z)) from blk_cell H2.blk 13)
        have hKl : K < w2.heap.size := blk_lt H2.blk
        rw [HUO.out, hun] at HP3
        have g1 : w2.cell? ⟨w.heap.size, 1, none⟩ = some (.int .i64 q) := blk_cell HQD.out 1
        clear s2 hi hj H2 hun
        go_wp2_with fail
        refine HAV.out.mono ?_
        rintro e w3 ⟨rfl, hb3⟩
        have l1 := HL.out w3 hb3
        have k13 : w3.cell? ⟨K, 13, none⟩ = some (.map (some Z)) := (hb3.cell (p := ⟨K, 13, none⟩) hKl).trans HK13.out
        have HB3 := hid (below_then HBD.out hb3)
        have HR3 := hid (HRD.out.later pcR.stays hb3)
        clear hb3 g0 g1 hKl
        go_wp2_with fail
        clear l1 k13
        go_loopw [75, 11] (fun v u wr => ∃ (k : Nat) (z : Nat), k ≤ n7 ∧ v = .int .i64 k ∧ u = .int .i64 z ∧ z ≤ 1000000 ∧ Hid (pieceB x.ps un c = pieceB (x.ps.drop k) z c) ∧ Hid (Below w3.heap.size w3 wr)) (fun v _ _ => n7 - (intOf v).toNat)
        case atStart => exact ⟨0, un, by omega, rfl, rfl, by omega, hid (by rw [List.drop_zero]), hid (Below.refl _ _)⟩
        case round =>
          obtain ⟨k, z, hk, rfl, rfl, hz, HPZ, HBR⟩ := hrel
          have HBA := hid (below_then HB3.out HBR.out)
          by_cases hlt : k < n7
          case neg =>
            obtain rfl : k = n7 := by omega
            have HF := hid (show placeB T X tick c = false from by rw [HP3.out, HPZ.out, List.drop_of_length_le (by rw [HN7.out]; exact Nat.le_refl _)]; rfl)
            go_wp2_with fail
            go_ret
            exact ⟨by rw [HF.out]; rfl, HBA.out⟩
          case pos =>
            obtain ⟨p, hp⟩ : ∃ p, x.ps[k]? = some p := ⟨_, List.getElem?_eq_getElem (by have := HN7.out; omega)⟩
            obtain ⟨b8, o8, cs8, hA8, hbl8, _, hc8, hr8⟩ := (HR3.out.later pcR.stays HBR.out).at hp
            subst hA8
            have hr8' : cs8 = [.int .i64 p.core, .int .i64 p.bud, .int .i64 p.dl, .int .i64 p.prio, .bool p.tight] := hr8
            subst hr8'
            have hpb := HBP.out p (List.mem_of_getElem? hp)
            have HPA := hid (pieceB_at (n := (z : Int)) (c := (c : Int)) hp)
            obtain ⟨pc, pb, pd, pp, ti⟩ := p
            simp only at hc8 hpb HPA
            have m0 : wr.cell? ⟨b8, o8 + k * 5, none⟩ = some (.int .i64 pc) := by simpa using hc8 0 _ rfl
            have m1 : wr.cell? ⟨b8, o8 + k * 5 + 1, none⟩ = some (.int .i64 pb) := hc8 1 _ rfl
            have m2 : wr.cell? ⟨b8, o8 + k * 5 + 2, none⟩ = some (.int .i64 pd) := hc8 2 _ rfl
            have m3 : wr.cell? ⟨b8, o8 + k * 5 + 3, none⟩ = some (.int .i64 pp) := hc8 3 _ rfl
            have m4 : wr.cell? ⟨b8, o8 + k * 5 + 4, none⟩ = some (.bool ti) := hc8 4 _ rfl
            clear hp hc8 hr8 hbl8
            go_upto_region 12 with fail
            have HB6 := hid (below_new (Below.refl wr.heap.size wr) (.cells #[.int .i64 pc, .int .i64 pb, .int .i64 pd, .int .i64 pp, .bool ti] 62))
            have HQ6 := hid (blk_new wr (.cells #[.int .i64 pc, .int .i64 pb, .int .i64 pd, .int .i64 pp, .bool ti] 62))
            generalize wr.alloc (.cells #[.int .i64 pc, .int .i64 pb, .int .i64 pd, .int .i64 pp, .bool ti] 62) = w6 at *
            obtain ⟨G, hG⟩ : ∃ G, wr.heap.size = G := ⟨_, rfl⟩
            rw [hG] at HQ6 ⊢
            have y0 : w6.cell? ⟨G, 0, none⟩ = some (.int .i64 pc) := blk_cell HQ6.out 0
            have y1 : w6.cell? ⟨G, 1, none⟩ = some (.int .i64 pb) := blk_cell HQ6.out 1
            have HBN := hid (below_then HBR.out HB6.out)
            have HBZ := hid (below_then HBA.out HB6.out)
            clear hG m0 m1 m2 m3 m4
            by_cases z1 : (z : Int) < pb
            case pos =>
              have HF := hid (show placeB T X tick c = (pc == (c : Int)) from by rw [HP3.out, HPZ.out, HPA.out, if_pos z1]; rfl)
              go_wp2_with fail
              go_ret
              exact ⟨by rw [HF.out]; rfl, HBZ.out⟩
            case neg =>
              obtain ⟨z', hz'⟩ : ∃ z' : Nat, (z : Int) - pb = z' := ⟨((z : Int) - pb).toNat, by omega⟩
              have HPN := hid (show pieceB x.ps un c = pieceB (x.ps.drop (k + 1)) z' c from by rw [HPZ.out, HPA.out, if_neg z1, hz'])
              have hwz : IntKind.i64.wrap ((z : Int) - pb) = (z' : Int) := by rw [IntKind.wrap_i64]; omega
              have hz2 : z' ≤ 1000000 := by omega
              clear hz'
              go_wp2_with fail
              go_roundw
              case rel => exact ⟨k + 1, z', by omega, by go_num, by first | rfl | (rw [hwz]), hz2, HPN, HBN⟩
              case measure => simp [intOf]; omega
end
end Go.Proofs.Ytmhochjpdedlgaa
/- Package trace: the look's within, apart (contracts). -/
set_option linter.unusedVariables false
set_option linter.unusedSimpArgs false
namespace Go.Proofs.Ytmhochjpdedlgaa
open Go.RowKit Go.Shelf Go.Maps

theorem withinI_at {S : Sy} {X : Tr} {i t q : Nat} {j : Jb} {tk : Tsk} (hj : X.jobs[i]? = some j) (hq : j.task = q) (ht : S.tasks[q]? = some tk) :
    withinI S X i t = if (!onB j t || decide (j.fin = (t : Int) + 1)) = true then none else (tk.secs.find? (secIn (unitN X j (t + 1)))).map Sec.res := by
  unfold withinI tskAt
  rw [hj]
  simp only [hq, Int.toNat_natCast, ht, Option.getD_some]
theorem find_some {l : List Sec} {f : Sec → Bool} {k : Nat} {x : Sec} (hx : l[k]? = some x) (h : f x = true) (hp : ∀ (i : Nat) y, i < k → l[i]? = some y → f y = false) : l.find? f = some x := by
  obtain ⟨hk, he⟩ := List.getElem?_eq_some_iff.1 hx
  rw [List.find?_eq_some_iff_getElem]
  refine ⟨h, k, hk, he, fun i hi => ?_⟩
  have := hp i l[i] hi (List.getElem?_eq_getElem (by omega))
  rw [this]
  rfl
theorem find_none {l : List Sec} {f : Sec → Bool} (hp : ∀ (i : Nat) y, l[i]? = some y → f y = false) : l.find? f = none := by
  rw [List.find?_eq_none]
  intro y hy
  obtain ⟨i, hi⟩ := List.mem_iff_getElem?.1 hy
  rw [hp i y hi]
  simp
section
variable {w : World}
set_option maxRecDepth 100000 in
set_option maxHeartbeats 6400000 in
theorem within_any (K Z : Nat) (T : Tb) (X : Tr) (At : Option Addr) (nt ct : Nat) (Ae : Option Addr) (ne ce : Nat) (cv : Value) (A : Option Addr) (n cp : Nat) (A2 : Option Addr) (m c2 : Nat) (i tick : Nat) (j : Jb)
    (H : LkW w K Z T X At nt ct Ae ne ce cv A n cp A2 m c2) (hj : X.jobs[i]? = some j) (hh : jobHead T.sys.tasks.length X.slots.length j = true) (htk : tick < n) (hS : RightS T.sys) :
    Calls Try.prog 100 #[.pointer (some ⟨K, 0, none⟩), .int .i64 i, .int .i64 tick] w fun e w' => e = .returned (.tuple #[.int .i64 ((withinI T.sys X i tick).getD 0), .bool (withinI T.sys X i tick).isSome]) ∧ Below w.heap.size w w' := by
  have hn := H.tr.slots.len
  have hm := H.tr.jobs.len
  have hnt := H.ts.len
  have hn6 := H.n6
  have hm6 := H.m6
  have hntm : nt ≤ 9223372036854775807 := by have := H.ts.room; unfold maxLen at this; omega
  have hi : i < m := by have := (List.getElem?_eq_some_iff.1 hj).1; omega
  have hh' := of_decide_eq_true hh
  obtain ⟨q, hq⟩ : ∃ q : Nat, j.task = q := ⟨j.task.toNat, by omega⟩
  have hqn : q < nt := by omega
  obtain ⟨t, ht⟩ : ∃ t, T.sys.tasks[q]? = some t := ⟨_, List.getElem?_eq_getElem (by omega)⟩
  have HW := hid (withinI_at (t := tick) hj hq ht)
  have HON := hid (fun W => on_tr_any (w := W) j tick)
  unfold jbV at HON
  have HTO := hid (hS.tasks t (List.mem_of_getElem? ht))
  obtain ⟨b, o, cs, hA, hbl, _, hc, hr⟩ := H.tr.jobs.at hj
  subst hA
  have hr' : cs = [.int .i64 j.task, .int .i64 j.arr, .int .i64 j.fin, .bool j.cut, .bool j.miss] := hr
  subst hr'
  have HH := hid H
  have HJ := hid hj
  have HT := hid ht
  rw [hq] at hc HON
  have HUN := hid (show unitN X j (tick + 1) ≤ tick + 1 from unitN_bound _)
  obtain ⟨ob, hob⟩ : ∃ v, onB j tick = v := ⟨_, rfl⟩
  rw [hob] at HON HW
  have k0 : w.cell? ⟨b, o + i * 5, none⟩ = some (.int .i64 q) := by simpa using hc 0 _ rfl
  have k1 : w.cell? ⟨b, o + i * 5 + 1, none⟩ = some (.int .i64 j.arr) := hc 1 _ rfl
  have k2 : w.cell? ⟨b, o + i * 5 + 2, none⟩ = some (.int .i64 j.fin) := hc 2 _ rfl
  have k3 : w.cell? ⟨b, o + i * 5 + 3, none⟩ = some (.bool j.cut) := hc 3 _ rfl
  have k4 : w.cell? ⟨b, o + i * 5 + 4, none⟩ = some (.bool j.miss) := hc 4 _ rfl
  have k12 : w.cell? ⟨K, 12, none⟩ = some (.slice (some ⟨b, o, none⟩) m c2) := blk_cell H.blk 12
  clear hn hm hnt hj hh hh' hq ht hc hr hbl hob hS H
  obtain ⟨jt, ja, jf, jc, jm⟩ := j
  simp only at k0 k1 k2 k3 k4 HW HON
  go_enter Try.func100, Try.ntmps100
  go_upto_region 2 with fail
  have HB0 := hid (below_new (Below.refl w.heap.size w) (.cells #[.int .i64 q, .int .i64 ja, .int .i64 jf, .bool jc, .bool jm] 45))
  have HQ0 := hid (blk_new w (.cells #[.int .i64 q, .int .i64 ja, .int .i64 jf, .bool jc, .bool jm] 45))
  generalize w.alloc (.cells #[.int .i64 q, .int .i64 ja, .int .i64 jf, .bool jc, .bool jm] 45) = w1 at *
  have f0 : w1.cell? ⟨w.heap.size, 0, none⟩ = some (.int .i64 q) := blk_cell HQ0.out 0
  have f1 : w1.cell? ⟨w.heap.size, 1, none⟩ = some (.int .i64 ja) := blk_cell HQ0.out 1
  have f2 : w1.cell? ⟨w.heap.size, 2, none⟩ = some (.int .i64 jf) := blk_cell HQ0.out 2
  have f3 : w1.cell? ⟨w.heap.size, 3, none⟩ = some (.bool jc) := blk_cell HQ0.out 3
  have f4 : w1.cell? ⟨w.heap.size, 4, none⟩ = some (.bool jm) := blk_cell HQ0.out 4
  clear k0 k1 k2 k3 k4 k12
  go_cut [30] (fun v wx => ∃ gb : Bool, v = .bool gb ∧ Hid (gb = (!ob || decide (jf = (tick : Int) + 1))) ∧ Hid (Below w.heap.size w wx) ∧ Hid (wx.heap[w.heap.size]? = some (.cells #[.int .i64 q, .int .i64 ja, .int .i64 jf, .bool jc, .bool jm] 45 (0, 0))))
  case first =>
    go_wp2_with fail
    refine (HON.out w1).mono ?_
    rintro e w2 ⟨rfl, hb2⟩
    have HB2 := hid (below_then HB0.out hb2)
    have HQ2 := hid ((fr0 hb2).blk HQ0.out (fun h => h))
    clear hb2 f0 f1 f2 f3 f4
    have f2 : w2.cell? ⟨w.heap.size, 2, none⟩ = some (.int .i64 jf) := blk_cell HQ2.out 2
    cases ob
    case false =>
      go_wp2_with fail
      go_meet
      exact ⟨_, rfl, hid rfl, HB2, HQ2⟩
    case true =>
      go_wp2_with fail
      go_meet
      exact ⟨_, rfl, hid rfl, HB2, HQ2⟩
  obtain ⟨gb, rfl, HG, HB2, HQ2⟩ := hcut
  clear f0 f1 f2 f3 f4 HB0 HQ0
  generalize wc = w2 at *
  cases gb
  case true =>
    have HF := hid (show withinI T.sys X i tick = none from by rw [HW.out, if_pos HG.out.symm])
    go_wp2_with fail
    go_ret2
    exact ⟨by rw [HF.out]; rfl, HB2.out⟩
  case false =>
    obtain ⟨un, hun⟩ : ∃ v, unitN X ⟨jt, ja, jf, jc, jm⟩ (tick + 1) = v := ⟨_, rfl⟩
    have HW2 := hid (show withinI T.sys X i tick = (t.secs.find? (secIn un)).map Sec.res from by
      rw [HW.out, if_neg (by rw [← HG.out]; exact Bool.false_ne_true), hun])
    have H2 := HH.out.later HB2.out
    have l1 := H2.look HJ.out (show tick + 1 ≤ n by omega)
    rw [show ((tick + 1 : Nat) : Int) = (tick : Int) + 1 from by omega] at l1
    have hub := HUN.out
    rw [hun] at l1 hub
    have hbl2 : un ≤ 1000001 := by omega
    have g13 : w2.cell? ⟨K, 13, none⟩ = some (.map (some Z)) := blk_cell H2.blk 13
    obtain ⟨b3, o3, cs3, hA3, hbl3, _, hc3, u3, hr3, hru3⟩ := H2.ts.at HT.out
    subst hA3
    subst hr3
    obtain ⟨Ats, cts, hu3, _⟩ := hru3.shape
    obtain ⟨nts, hnts⟩ : ∃ v, t.secs.length = v := ⟨_, rfl⟩
    rw [hnts] at hu3
    subst hu3
    have t3 : w2.cell? ⟨b3, o3 + q * 4 + 3, none⟩ = some (.slice Ats nts cts) := hc3 3 _ rfl
    have t3d : w2.drew.cell? ⟨b3, o3 + q * 4 + 3, none⟩ = some (.slice Ats nts cts) := t3
    have k8 : w2.cell? ⟨K, 8, none⟩ = some (.slice (some ⟨b3, o3, none⟩) nt ct) := blk_cell H2.blk 8
    have k8d : w2.drew.cell? ⟨K, 8, none⟩ = some (.slice (some ⟨b3, o3, none⟩) nt ct) := k8
    have f0 : w2.cell? ⟨w.heap.size, 0, none⟩ = some (.int .i64 q) := blk_cell HQ2.out 0
    have f0d : w2.drew.cell? ⟨w.heap.size, 0, none⟩ = some (.int .i64 q) := f0
    have hntsm : nts ≤ 9223372036854775807 := by have := hru3.room; unfold maxLen at this; omega
    have HNTS := hid hnts
    have HRU := hid hru3
    have HTC := hid HTO.out.s
    have HWC := hid HTO.out
    clear H2 hun hub hc3 hru3 hbl3 hnts
    go_upto_region 5 with fail
    go_region
    have HBD := hid (show Below w.heap.size w w2.drew from below_drewN' HB2.out 1)
    have HRD := hid (HRU.out.later secR.stays (Below.refl w2.heap.size w2).drew)
    generalize w2.drew = w3 at *
    clear l1 g13 t3 t3d k8 k8d f0 f0d
    go_wp2_with fail
    go_loopw [52] (fun v wr => ∃ k : Nat, k ≤ nts ∧ v = .int .i64 k ∧ Hid (∀ (i : Nat) y, i < k → t.secs[i]? = some y → secIn un y = false) ∧ Hid (Below w3.heap.size w3 wr)) (fun v _ => nts - (intOf v).toNat)
    case atStart => exact ⟨0, by omega, rfl, hid (fun i y h => by omega), hid (Below.refl _ _)⟩
    case round =>
      obtain ⟨k, hk, rfl, HP, HBR⟩ := hrel
      have HBA := hid (below_then HBD.out HBR.out)
      by_cases hlt : k < nts
      case neg =>
        obtain rfl : k = nts := by omega
        have HF := hid (show withinI T.sys X i tick = none from by
          rw [HW2.out, find_none (fun i y hy => HP.out i y (by have := (List.getElem?_eq_some_iff.1 hy).1; have := HNTS.out; omega) hy)]
          rfl)
        go_wp2_with fail
        go_ret2
        exact ⟨by rw [HF.out]; rfl, HBA.out⟩
      case pos =>
        obtain ⟨x, hx⟩ : ∃ x, t.secs[k]? = some x := ⟨_, List.getElem?_eq_getElem (by have := HNTS.out; omega)⟩
        obtain ⟨b5, o5, cs5, hA5, hbl5, _, hc5, hr5⟩ := (HRD.out.later secR.stays HBR.out).at hx
        subst hA5
        have hr5' : cs5 = [.int .i64 x.at_, .int .i64 x.res, .int .i64 x.len] := hr5
        subst hr5'
        have hso := HTC.out x (List.mem_of_getElem? hx)
        have ha0 := hso.a0
        have hl0 := hso.l0
        have hend := hso.end_
        have hw1 := HWC.out.w1
        have hd1 := HWC.out.d1
        have hp1 := HWC.out.p1
        have HX := hid hx
        have HSI := hid (show secIn un x = (decide (x.at_ < un) && decide ((un : Int) < x.at_ + x.len)) from rfl)
        have HYES := hid (show secIn un x = true → withinI T.sys X i tick = some x.res from fun h => by rw [HW2.out, find_some hx h HP.out]; rfl)
        have HNO := hid (show secIn un x = false → ∀ (i : Nat) y, i < k + 1 → t.secs[i]? = some y → secIn un y = false from fun h i y hi hy => by
          by_cases e : i = k
          · subst e
            rw [hx] at hy
            injection hy with hy
            rw [← hy]
            exact h
          · exact HP.out i y (by omega) hy)
        obtain ⟨xa, xr, xl⟩ := x
        simp only at hc5 ha0 hl0 hend HSI HYES
        have hxe : xa + xl ≤ 1099511627776 := by omega
        have e0 : wr.cell? ⟨b5, o5 + k * 3, none⟩ = some (.int .i64 xa) := by simpa using hc5 0 _ rfl
        have e1 : wr.cell? ⟨b5, o5 + k * 3 + 1, none⟩ = some (.int .i64 xr) := hc5 1 _ rfl
        have e2 : wr.cell? ⟨b5, o5 + k * 3 + 2, none⟩ = some (.int .i64 xl) := hc5 2 _ rfl
        have hww : IntKind.i64.wrap (xa + xl) = xa + xl := by rw [IntKind.wrap_i64]; omega
        clear hx hc5 hr5 hbl5 hso hend hw1 hd1 hp1
        go_upto_region 8 with fail
        have HB6 := hid (below_new (Below.refl wr.heap.size wr) (.cells #[.int .i64 xa, .int .i64 xr, .int .i64 xl] 128))
        have HQ6 := hid (blk_new wr (.cells #[.int .i64 xa, .int .i64 xr, .int .i64 xl] 128))
        generalize wr.alloc (.cells #[.int .i64 xa, .int .i64 xr, .int .i64 xl] 128) = w6 at *
        obtain ⟨G, hG⟩ : ∃ G, wr.heap.size = G := ⟨_, rfl⟩
        rw [hG] at HQ6 ⊢
        have y0 : w6.cell? ⟨G, 0, none⟩ = some (.int .i64 xa) := blk_cell HQ6.out 0
        have y1 : w6.cell? ⟨G, 1, none⟩ = some (.int .i64 xr) := blk_cell HQ6.out 1
        have y2 : w6.cell? ⟨G, 2, none⟩ = some (.int .i64 xl) := blk_cell HQ6.out 2
        have HBN := hid (below_then HBR.out HB6.out)
        have HBZ := hid (below_then HBA.out HB6.out)
        clear hG e0 e1 e2
        by_cases z1 : xa < (un : Int)
        case neg =>
          have HNN := hid (HNO.out (by rw [HSI.out, decide_eq_false z1]; rfl))
          go_wp2_with fail
          go_roundw
          case rel => exact ⟨k + 1, by omega, by go_num, HNN, HBN⟩
          case measure => simp [intOf]; omega
        case pos =>
          by_cases z2 : (un : Int) < xa + xl
          case neg =>
            have HNN := hid (HNO.out (by rw [HSI.out, decide_eq_false z2, Bool.and_false]))
            go_wp2_with fail
            go_roundw
            case rel => exact ⟨k + 1, by omega, by go_num, HNN, HBN⟩
            case measure => simp [intOf]; omega
          case pos =>
            have HF := hid (HYES.out (by rw [HSI.out, decide_eq_true z1, decide_eq_true z2]; rfl))
            go_wp2_with fail
            go_ret2
            exact ⟨by rw [HF.out]; rfl, HBZ.out⟩
end
end Go.Proofs.Ytmhochjpdedlgaa
/- Package trace: the look's apart (contract). -/
set_option linter.unusedVariables false
set_option linter.unusedSimpArgs false
namespace Go.Proofs.Ytmhochjpdedlgaa
open Go.RowKit Go.Shelf Go.Maps

theorem apartB_none {S : Sy} {X : Tr} {t i : Nat} (h : withinI S X i t = none) : apartB S X t i = true := by unfold apartB; rw [h]
theorem apartB_no {S : Sy} {X : Tr} {t i k : Nat} {r : Int} (h : withinI S X i t = some r) (hk : k < i) (h2 : withinI S X k t = some r) : apartB S X t i = false := by
  unfold apartB
  rw [h]
  simp only [List.all_eq_false]
  exact ⟨k, by simpa using hk, by rw [decide_eq_true h2]; simp⟩
theorem apartB_yes {S : Sy} {X : Tr} {t i : Nat} {r : Int} (h : withinI S X i t = some r) (hp : ∀ k, k < i → withinI S X k t ≠ some r) : apartB S X t i = true := by
  unfold apartB
  rw [h]
  simp only [List.all_eq_true]
  intro k hk
  rw [decide_eq_false (hp k (by simpa using hk))]
  rfl
section
variable {w : World}
set_option maxRecDepth 100000 in
set_option maxHeartbeats 6400000 in
theorem apart_any (K Z : Nat) (T : Tb) (X : Tr) (At : Option Addr) (nt ct : Nat) (Ae : Option Addr) (ne ce : Nat) (cv : Value) (A : Option Addr) (n cp : Nat) (A2 : Option Addr) (m c2 : Nat) (i tick : Nat)
    (H : LkW w K Z T X At nt ct Ae ne ce cv A n cp A2 m c2) (hi : i < m) (hh : ∀ (k : Nat) j, X.jobs[k]? = some j → jobHead T.sys.tasks.length X.slots.length j = true) (htk : tick < n) (hS : RightS T.sys) :
    Calls Try.prog 79 #[.pointer (some ⟨K, 0, none⟩), .int .i64 tick, .int .i64 i] w fun e w' => e = .returned (.bool (apartB T.sys X tick i)) ∧ Below w.heap.size w w' := by
  have hm := H.tr.jobs.len
  have hm6 := H.m6
  have HW := hid (fun W (k : Below w.heap.size w W) (a : Nat) (ha : a < m) => within_any (w := W) K Z T X At nt ct Ae ne ce cv A n cp A2 m c2 a tick X.jobs[a] (H.later k) (List.getElem?_eq_getElem (by omega)) (hh a _ (List.getElem?_eq_getElem (by omega))) htk hS)
  clear H hh hS hm
  have H1 := hid (HW.out w (Below.refl _ _) i hi)
  obtain ⟨F, hF⟩ : ∃ F, F = fun a => withinI T.sys X a tick := ⟨_, rfl⟩
  have HF := hid (fun a => (show withinI T.sys X a tick = F a from by rw [hF]))
  have HN := hid (show F i = none → apartB T.sys X tick i = true from fun h => apartB_none (by rw [HF.out]; exact h))
  have HNO := hid (fun (r : Int) (k : Nat) (h : F i = some r) (hk : k < i) (h2 : F k = some r) => (apartB_no (t := tick) (by rw [HF.out]; exact h) hk (by rw [HF.out]; exact h2) : apartB T.sys X tick i = false))
  have HYES := hid (fun (r : Int) (h : F i = some r) (hp : ∀ k, k < i → F k ≠ some r) => (apartB_yes (t := tick) (by rw [HF.out]; exact h) (fun k hk => by rw [HF.out]; exact hp k hk) : apartB T.sys X tick i = true))
  have HFI := hid (HF.out i)
  rw [HFI.out] at H1
  clear hF
  go_enter Try.func79, Try.ntmps79
  go_wp2_with fail
  refine H1.out.mono ?_
  rintro e w1 ⟨rfl, hb1⟩
  have HB1 := hid hb1
  clear hb1
  cases hFi : F i with
  | none =>
    have HA := hid (HN.out hFi)
    have hg : (0 : Int) < (i : Int) ∨ ¬ (0 : Int) < (i : Int) := by omega
    clear hFi
    go_wp2_with fail
    go_loopw [9] (fun v wr => v = .int .i64 0 ∧ Hid (Below w.heap.size w wr)) (fun v _ => 0)
    case atStart => exact ⟨rfl, HB1⟩
    case round =>
      obtain ⟨rfl, HBR⟩ := hrel
      go_wp2_with fail
      go_ret
      exact ⟨by rw [HA.out]; rfl, HBR.out⟩
  | some r =>
    have HFR := hid hFi
    clear hFi
    go_wp2_with fail
    go_loopw [9] (fun v wr => ∃ k : Nat, k ≤ i ∧ v = .int .i64 k ∧ Hid (∀ a, a < k → F a ≠ some r) ∧ Hid (Below w.heap.size w wr)) (fun v _ => i - (intOf v).toNat)
    case atStart => exact ⟨0, by omega, rfl, hid (fun a h => by omega), HB1⟩
    case round =>
      obtain ⟨k, hk, rfl, HP, HBR⟩ := hrel
      by_cases hlt : k < i
      case neg =>
        obtain rfl : k = i := by omega
        have HA := hid (HYES.out r HFR.out HP.out)
        go_wp2_with fail
        go_ret
        exact ⟨by rw [HA.out]; rfl, HBR.out⟩
      case pos =>
        have H2 := hid (HW.out wr HBR.out k (by omega))
        rw [HF.out k] at H2
        go_wp2_with fail
        refine H2.out.mono ?_
        rintro e w2 ⟨rfl, hb2⟩
        have HB2 := hid (below_then HBR.out hb2)
        clear hb2
        cases hFk : F k with
        | none =>
          have HNN := hid (show ∀ a, a < k + 1 → F a ≠ some r from fun a ha => by
            by_cases e : a = k
            · subst e; rw [hFk]; exact fun h => by cases h
            · exact HP.out a (by omega))
          clear hFk
          go_wp2_with fail
          go_roundw
          case rel => exact ⟨k + 1, by omega, by go_num, HNN, HB2⟩
          case measure => simp [intOf]; omega
        | some r2 =>
          by_cases hrr : r2 = r
          case pos =>
            have hb : (r2 == r) = true := beq_iff_eq.2 hrr
            have HA := hid (HNO.out r k HFR.out hlt (by rw [hFk, hrr]))
            clear hFk hrr
            go_wp2_with fail
            go_ret
            exact ⟨by rw [HA.out]; rfl, HB2.out⟩
          case neg =>
            have hb : (r2 == r) = false := beq_eq_false_iff_ne.2 hrr
            have HNN := hid (show ∀ a, a < k + 1 → F a ≠ some r from fun a ha => by
              by_cases e : a = k
              · subst e; rw [hFk]; exact fun h => by injection h with h; exact hrr h
              · exact HP.out a (by omega))
            clear hFk hrr
            go_wp2_with fail
            go_roundw
            case rel => exact ⟨k + 1, by omega, by go_num, HNN, HB2⟩
            case measure => simp [intOf]; omega
end
end Go.Proofs.Ytmhochjpdedlgaa
