/- Joined: ChkPlain. -/
import Derived.Test.YtppildaahmlfmaaQ03
import Derived.Test.YtppildaahmlfmaaQ22
import Derived.Test.YtppildaahmlfmaaQ11
set_option linter.unusedVariables false
set_option linter.unusedSimpArgs false
/- When a plan is good, plain (chapter 17): costs, blocks, bounds. No program in sight. -/
set_option linter.unusedVariables false
set_option linter.unusedSimpArgs false
namespace Go.Proofs.Ytppildaahmlfmaa

def whereL (P : Pl) : List Int := P.map whereOf
/-- What a piece costs its core. -/
def ownV (S : Sy) (P : Pl) (x : Pt) : Int := x.p.bud + S.fin + 2 * S.sw + (if 0 ≤ whereAt P x.task then extraV S (whereL P) x.task else 0)
/-- The ceiling of a resource on a core. -/
def ceilAt (S : Sy) (P : Pl) (c r : Int) : Int := topF (upsN S P c P.length) r.toNat
/-- Is task i passed over, where a piece of a core and a priority looks who blocks it? -/
def skipB (S : Sy) (P : Pl) (c prio : Int) (i : Nat) : Bool := decide (whereAt P i ≠ c ∨ prioOf S P i < prio)
/-- May a section of task i stand in the way? -/
def wayB (S : Sy) (P : Pl) (c prio : Int) (x : Sec) : Bool := decide (S.prot = 1 ∨ ceilAt S P c x.res ≤ prio)
def secMost (S : Sy) (P : Pl) (c prio : Int) (i : Nat) (m : Int) (l : List Sec) : Int := l.foldl (fun m x => if wayB S P c prio x = true then max m (holdV S (whereL P) i x) else m) m
def blkMost (S : Sy) (P : Pl) (c prio : Int) : Nat → Int
  | 0 => 0
  | i + 1 => if skipB S P c prio i = true then blkMost S P c prio i else secMost S P c prio i (blkMost S P c prio i) (secsOf S i)
def endB (S : Sy) (P : Pl) (prio : Int) (i : Nat) : Bool := decide (S.prot = 2 ∧ prio < prioOf S P i) && !(secsOf S i).isEmpty
def blkEnds (S : Sy) (P : Pl) (c prio : Int) : Nat → Int
  | 0 => 2
  | i + 1 => if skipB S P c prio i = true then blkEnds S P c prio i else blkEnds S P c prio i + (if endB S P prio i = true then 1 else 0)
/-- How long lower ones may go ahead. -/
def blockV (S : Sy) (P : Pl) (c prio : Int) : Int := blkMost S P c prio P.length + blkEnds S P c prio P.length * S.fin + 2 * S.sw
theorem secMost_snoc (S : Sy) (P : Pl) (c prio : Int) (i : Nat) (m : Int) (l : List Sec) (x : Sec) : secMost S P c prio i m (l ++ [x]) = if wayB S P c prio x = true then max (secMost S P c prio i m l) (holdV S (whereL P) i x) else secMost S P c prio i m l := by
  unfold secMost; rw [List.foldl_append]; rfl
def tskAt (S : Sy) (i : Nat) : Tsk := (S.tasks[i]?).getD ⟨0, 0, 0, []⟩
def ldOf (S : Sy) (P : Pl) (x : Pt) : Ld := ⟨ownV S P x, (tskAt S x.task).per, (x.k : Int) * (S.lat - 1)⟩
def wkOf (S : Sy) (P : Pl) (x : Pt) : Wk := ⟨ownV S P x, (tskAt S x.task).per, x.p.dl, x.p.tight⟩
def aheadOf (l : List Pt) (x : Pt) : List Pt := l.filter fun y => decide (y.p.prio < x.p.prio)
def fixedV (S : Sy) (P : Pl) (l : List Pt) (x : Pt) : Int × Int := boundV (ownV S P x) (blockV S P x.p.core x.p.prio) S.rel ((aheadOf l x).map (ldOf S P)) (l.map (ldOf S P)) x.p.dl
def edfV (S : Sy) (P : Pl) (l : List Pt) (c : Int) : Int := testV (l.map (wkOf S P)) (blockV S P c 0) S.rel
/-- Ticks that pass ahead of a piece. -/
def passL (S : Sy) : List Pc → Int
  | [] => 0
  | p :: l => p.bud + (S.lat - 1) + passL S l
def passV (S : Sy) (P : Pl) (x : Pt) : Int := passL S (((P[x.task]?).getD []).take x.k)
theorem passL_snoc (S : Sy) (l : List Pc) (p : Pc) : passL S (l ++ [p]) = passL S l + (p.bud + (S.lat - 1)) := by
  induction l with
  | nil => simp [passL]
  | cons q l ih => simp only [List.cons_append, passL, ih]; omega
def oneV (S : Sy) (P : Pl) (l : List Pt) (x : Pt) : Int × Int :=
  if S.policy = 2 then ((tskAt S x.task).dl, 0) else if (fixedV S P l x).2 ≠ 0 then (0, (fixedV S P l x).2) else ((fixedV S P l x).1 + passV S P x, 0)
/-- The pieces of a core, one by one: the bounds, or an error. -/
def coreS (S : Sy) (P : Pl) (l0 : List Pt) : List Pt → List Int → List Int ⊕ Int
  | [], b => .inl b
  | x :: l, b => if x.p.tight = true then coreS S P l0 l b else if (oneV S P l0 x).2 ≠ 0 then .inr (oneV S P l0 x).2 else coreS S P l0 l (b.set x.task (oneV S P l0 x).1)
/-- One core: first Edf's test. -/
def coreV (S : Sy) (P : Pl) (c : Int) (b : List Int) : List Int ⊕ Int :=
  if S.policy = 2 ∧ onP (rankL S P) c ≠ [] ∧ edfV S P (onP (rankL S P) c) c ≠ 0 then .inr (edfV S P (onP (rankL S P) c) c) else coreS S P (onP (rankL S P) c) (onP (rankL S P) c) b
/-- k cores from c on. -/
def chkS (S : Sy) (P : Pl) : Nat → Nat → List Int → Option (List Int) × Int × Int
  | 0, _, b => (some b, -1, 0)
  | k + 1, c, b => match coreV S P (c : Int) b with
    | .inl b' => chkS S P k (c + 1) b'
    | .inr e => (none, (c : Int), e)
def chkV (S : Sy) (P : Pl) : Option (List Int) × Int × Int := if planB S P = true then chkS S P S.cores.toNat 0 (List.replicate P.length 0) else (none, -1, 1)

/-! Bounds of these numbers -/
theorem whereL_len (P : Pl) : (whereL P).length = P.length := by simp [whereL]
theorem ownV_bound {S : Sy} (h : RightS S) (P : Pl) {x : Pt} (hb : 0 ≤ x.p.bud ∧ x.p.bud ≤ 1099511627776) : 0 ≤ ownV S P x ∧ ownV S P x ≤ 36283883716790 := by
  have h1 := extraV_bound h (whereL P) x.task
  have h2 := h.fin
  have h3 := h.sw
  unfold ownV
  split <;> omega
theorem holdV_bound {S : Sy} (h : RightS S) (W : List Int) (i : Nat) {t : Tsk} {x : Sec} (ht : S.tasks[i]? = some t) (hx : x ∈ t.secs) : 0 ≤ holdV S W i x ∧ holdV S W i x ≤ 9895604649992 := by
  have h1 := waitV_bound h W i x.res
  have h2 := h.tasks t (List.mem_of_getElem? ht)
  have h3 := h2.s x hx
  have := h3.l0; have := h3.end_; have := h3.a0; have := h2.w1; have := h2.d1; have := h2.p1
  unfold holdV
  omega
theorem secMost_bound {S : Sy} (h : RightS S) (P : Pl) (c prio : Int) (i : Nat) {t : Tsk} (ht : S.tasks[i]? = some t) (l : List Sec) (hl : ∀ x ∈ l, x ∈ t.secs) {m : Int} (hm : 0 ≤ m ∧ m ≤ 9895604649992) : 0 ≤ secMost S P c prio i m l ∧ secMost S P c prio i m l ≤ 9895604649992 := by
  revert hl
  refine snoc_induct (p := fun l => (∀ x ∈ l, x ∈ t.secs) → 0 ≤ secMost S P c prio i m l ∧ secMost S P c prio i m l ≤ 9895604649992) (fun _ => hm) (fun l x ih hl => ?_) l
  have h1 := ih (fun y hy => hl y (by simp [hy]))
  have h2 := holdV_bound h (whereL P) i ht (hl x (by simp))
  rw [secMost_snoc]
  split <;> omega
theorem blkMost_bound {S : Sy} (h : RightS S) (P : Pl) (c prio : Int) : ∀ i, 0 ≤ blkMost S P c prio i ∧ blkMost S P c prio i ≤ 9895604649992
  | 0 => by simp [blkMost]
  | i + 1 => by
    have h1 := blkMost_bound h P c prio i
    unfold blkMost
    split
    · exact h1
    · cases ht : S.tasks[i]? with
      | none => unfold secsOf; rw [ht]; exact h1
      | some t =>
        have : secsOf S i = t.secs := by unfold secsOf; rw [ht]; rfl
        rw [this]
        exact secMost_bound h P c prio i ht t.secs (fun x hx => hx) h1
theorem blkEnds_bound (S : Sy) (P : Pl) (c prio : Int) : ∀ i : Nat, 2 ≤ blkEnds S P c prio i ∧ blkEnds S P c prio i ≤ 2 + i
  | 0 => by simp [blkEnds]
  | i + 1 => by
    have h1 := blkEnds_bound S P c prio i
    unfold blkEnds
    split
    · omega
    · split <;> omega
theorem ends_fin {e f : Int} {n : Nat} (he : 2 ≤ e ∧ e ≤ 2 + n) (hn : n ≤ 24) (hf : 0 ≤ f ∧ f ≤ 50) : 0 ≤ e * f ∧ e * f ≤ 1300 := by
  have h1 := Int.mul_nonneg (show 0 ≤ e by omega) hf.1
  have h2 : e * f ≤ 26 * 50 := Int.mul_le_mul (by omega) hf.2 hf.1 (by decide)
  omega
theorem blockV_bound {S : Sy} (h : RightS S) {P : Pl} (hl : P.length ≤ 24) (c prio : Int) : 0 ≤ blockV S P c prio ∧ blockV S P c prio ≤ 9895604651392 := by
  have h1 := blkMost_bound h P c prio P.length
  have h2 := ends_fin (blkEnds_bound S P c prio P.length) hl h.fin
  have h3 := h.sw
  unfold blockV
  omega
theorem tskAt_eq {S : Sy} {i : Nat} {t : Tsk} (h : S.tasks[i]? = some t) : tskAt S i = t := by unfold tskAt; rw [h]; rfl
end Go.Proofs.Ytppildaahmlfmaa
