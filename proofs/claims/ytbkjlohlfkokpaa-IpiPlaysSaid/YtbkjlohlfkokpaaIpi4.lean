/- Package ipi: what Take takes: plain laws, and the sort of a row of tasks. -/
import Derived.Test.YtbkjlohlfkokpaaIpi3
import Derived.Shelf.SlSortCmp.NoneTotal
set_option linter.unusedVariables false
set_option linter.unusedSimpArgs false
namespace Go.Proofs.Ytbkjlohlfkokpaa
open Go.RowKit Go.Sort

/-- Is the note of p due? -/
def dueQ (f : Int × Int → Option (Int × Int)) (core now : Int) (p : Int × Int) : Bool := decide (p.1 = core) && decide (((f p).getD (0, 0)).1 ≤ now)
theorem perm_step (q : Int × Int → Bool) (L : Int × Int → Bool) (p : Int × Int) (hL : L p = true) (hq : q p = true) : ∀ (K : List (Int × Int)), K.Nodup → p ∈ K →
    (K.filter (fun z => q z && !(L z && !decide (z = p)))).Perm (p :: K.filter (fun z => q z && !L z))
  | [], _, h => by cases h
  | x :: K, hn, h => by
    obtain ⟨h1, h2⟩ := List.nodup_cons.1 hn
    by_cases e : x = p
    · subst e
      have hc : K.filter (fun z => q z && !(L z && !decide (z = x))) = K.filter (fun z => q z && !L z) := List.filter_congr fun z hz => by
        have : z ≠ x := fun e => h1 (e ▸ hz)
        simp [this]
      rw [List.filter_cons, List.filter_cons, if_pos (by simp [hq]), if_neg (by simp [hL]), hc]
    · have hp : p ∈ K := (List.mem_cons.1 h).resolve_left (fun e2 => e e2.symm)
      have ih := perm_step q L p hL hq K h2 hp
      have hx : (q x && !(L x && !decide (x = p))) = (q x && !L x) := by simp [e]
      rw [List.filter_cons, List.filter_cons, hx]
      by_cases hb : (q x && !L x) = true
      · rw [if_pos hb, if_pos hb]
        exact (ih.cons x).trans (List.Perm.swap p x _)
      · rw [if_neg hb, if_neg hb]; exact ih
theorem perm_skip (q : Int × Int → Bool) (L : Int × Int → Bool) (p : Int × Int) (hq : q p = false) (K : List (Int × Int)) :
    K.filter (fun z => q z && !(L z && !decide (z = p))) = K.filter (fun z => q z && !L z) := List.filter_congr fun z hz => by
  by_cases e : z = p
  · subst e; simp [hq]
  · simp [e]
theorem perm_done (q : Int × Int → Bool) (L : Int × Int → Bool) (K : List (Int × Int)) (h : ∀ p ∈ K, L p = false) : K.filter (fun z => q z && !L z) = K.filter q := List.filter_congr fun z hz => by simp [h z hz]

def lexLt (p q : Int × Int) : Prop := p.1 < q.1 ∨ (p.1 = q.1 ∧ p.2 < q.2)
theorem lexLt_asymm {p q : Int × Int} (h : lexLt p q) : ¬ lexLt q p := by unfold lexLt at *; omega
theorem cmpN_lt (p q : Int × Int) : cmpN p q < 0 ↔ lexLt p q := by
  unfold cmpN lexLt Lib.compareInt
  by_cases h1 : p.1 < q.1
  · simp [h1]
  · by_cases h2 : p.1 > q.1
    · have : ¬ p.1 = q.1 := by omega
      simp [h1, h2, this]
    · have h3 : p.1 = q.1 := by omega
      by_cases h4 : p.2 < q.2
      · simp [h3, h4]
      · by_cases h5 : p.2 > q.2 <;> simp [h3, h4, h5]
/-- The note of a task. -/
def gN (f : Int × Int → Option (Int × Int)) (core : Int) (x : Int) : Int × Int := (f (core, x)).getD (0, 0)
def cfN (f : Int × Int → Option (Int × Int)) (core : Int) (x y : Fin 24) : Int := cmpN (gN f core (x.val : Int)) (gN f core (y.val : Int))
theorem ltOf_cfN (f : Int × Int → Option (Int × Int)) (core : Int) (x y : Fin 24) : ltOf (cfN f core) x y = true ↔ lexLt (gN f core (x.val : Int)) (gN f core (y.val : Int)) := by
  unfold ltOf cfN
  rw [decide_eq_true_iff, cmpN_lt]
theorem ltOf_cfN_f (f : Int × Int → Option (Int × Int)) (core : Int) (x y : Fin 24) : ltOf (cfN f core) x y = false ↔ ¬ lexLt (gN f core (x.val : Int)) (gN f core (y.val : Int)) := by
  rw [← ltOf_cfN, Bool.not_eq_true]
theorem swoN (f : Int × Int → Option (Int × Int)) (core : Int) : SWO (ltOf (cfN f core)) where
  irrefl x := by rw [ltOf_cfN_f]; unfold lexLt; omega
  trans x y z h1 h2 := by rw [ltOf_cfN] at *; unfold lexLt at *; omega
  ntrans x y z h1 h2 := by rw [ltOf_cfN_f] at *; unfold lexLt at *; omega

def encT (k : Fin 24) : Value := .int .i64 (k.val : Int)
def toF (x : Int) : Fin 24 := ⟨x.toNat % 24, by omega⟩
def ofF (k : Fin 24) : Int := (k.val : Int)
theorem ofF_toF {x : Int} (h0 : 0 ≤ x) (h1 : x < 24) : ofF (toF x) = x := by
  unfold ofF toF
  simp only
  omega
theorem ofF_list : ∀ (l : List Int), (∀ x ∈ l, 0 ≤ x ∧ x < 24) → (l.map toF).map ofF = l
  | [], _ => rfl
  | x :: l, h => by
    have h1 := h x (List.mem_cons_self ..)
    rw [List.map_cons, List.map_cons, ofF_toF h1.1 h1.2, ofF_list l (fun y hy => h y (List.mem_cons_of_mem _ hy))]
theorem getBang {α : Type} [Inhabited α] {d : Array α} {j : Nat} (h : j < d.size) : d.toList[j]? = some d[j]! := by
  rw [Array.getElem?_toList, getElem!_pos d j h, Array.getElem?_eq_getElem h]
theorem holds_of_own {w : World} {base g cap n : Nat} {d : Array (Fin 24)} (hn : n = d.size) (h : w.ownsRow base 3 1 (.slice (some ⟨g, 0, none⟩) n cap) n (intCells (d.toList.map ofF))) : Go.Sort.Holds encT w g 0 d := fun j hj => by
  refine ⟨?_, own_free h _⟩
  rw [Nat.zero_add]
  refine own_cell0 h ?_
  unfold intCells
  rw [List.getElem?_map, List.getElem?_map, getBang hj]
  rfl
theorem own_sorted {w : World} {base g cap n : Nat} {xs : List Value} (h : w.ownsRow base 3 1 (.slice (some ⟨g, 0, none⟩) n cap) n xs) (h0 : 0 < n) (d' : Array (Fin 24)) (hs : d'.size = n) (q : Nat) (os : Array Obj) :
    (sortWorld encT w g 0 q d' os).ownsRow base 3 1 (.slice (some ⟨g, 0, none⟩) n cap) n (intCells (d'.toList.map ofF)) := by
  obtain ⟨g', cap', cur, e, hb, hg, hnc, hcm, hcs, htk⟩ := own_shape h h0
  injection e with e1 _ e3
  injection e1 with e1
  injection e1 with e1 _ _
  subst e1 e3
  have hlt := blk_lt hg
  have hg2 : (sortWorld encT w g 0 q d' os).heap[g]? = some (.cells (putCells encT 0 d' cur) 3 (0, 0)) := by
    show ((w.heap.modify g _) ++ os)[g]? = _
    rw [Array.getElem?_append_left (by simpa using hlt), Array.getElem?_modify, if_pos rfl, hg]
    rfl
  refine ⟨by simp [intCells, hs], .inr ⟨g, cap, putCells encT 0 d' cur, rfl, hb, hg2, hnc, hcm, by rw [putCells, Array.size_mapIdx]; exact hcs, ?_⟩⟩
  apply List.ext_getElem?
  intro j
  unfold intCells
  rw [List.getElem?_map, List.getElem?_map]
  by_cases hj : j < n
  · have hjc : j < cur.size := by omega
    have e1 : (putCells encT 0 d' cur).toList[j]? = some (encT d'[j]!) := by
      rw [Array.getElem?_toList, putCells, Array.getElem?_mapIdx, Array.getElem?_eq_getElem hjc]
      simp only [Option.map_some]
      rw [if_pos (by omega), Nat.sub_zero]
    rw [List.getElem?_take_of_lt (by omega), e1, getBang (by omega)]
    rfl
  · rw [List.getElem?_eq_none (by simp; omega), List.getElem?_eq_none (by simp; omega)]
    rfl
theorem sorted_pairwise {d : Array (Fin 24)} {f : Int × Int → Option (Int × Int)} {core : Int} (h : SortedIn (ltOf (cfN f core)) 0 d.size d) : (d.toList.map ofF).Pairwise (fun x y => ¬ lexLt (gN f core y) (gN f core x)) := by
  rw [List.pairwise_map, List.pairwise_iff_getElem]
  intro i j hi hj hij
  have hj' : j < d.size := by simpa using hj
  have hi' : i < d.size := by simpa using hi
  have := h i j (Nat.zero_le _) hij hj'
  rw [getElem!_pos d i hi', getElem!_pos d j hj', ltOf_cfN_f] at this
  rw [Array.getElem_toList, Array.getElem_toList]
  exact this
/-- What has been taken. -/
structure TakeR (f : Int × Int → Option (Int × Int)) (K : List (Int × Int)) (core now : Int) (l : List Int) : Prop where
  perm : l.Perm ((K.filter (dueQ f core now)).map Prod.snd)
  sorted : l.Pairwise (fun x y => ¬ lexLt (gN f core y) (gN f core x))
def takeF (f : Int × Int → Option (Int × Int)) (core : Int) (l : List Int) : Int × Int → Option (Int × Int) := fun p => if p.1 = core ∧ p.2 ∈ l then none else f p
theorem takeF_nil (f : Int × Int → Option (Int × Int)) (core : Int) : takeF f core [] = f := funext fun p => by simp [takeF]
theorem takeF_step (f : Int × Int → Option (Int × Int)) (core : Int) (l : List Int) (x : Int) : (fun p => if p = (core, x) then none else takeF f core l p) = takeF f core (l ++ [x]) := funext fun p => by
  obtain ⟨a, b⟩ := p
  unfold takeF
  by_cases h1 : a = core
  · subst h1
    by_cases h2 : b = x
    · subst h2; simp
    · simp [h2]
  · simp [h1]
section
variable {w : World} {b bm n : Nat} {f : Int × Int → Option (Int × Int)}
/-- The sort's premise on the comparison. -/
theorem take_lays {B2 B3 g size : Nat} {core : Int} (h2 : w.cell? ⟨B2, 0, none⟩ = some (.pointer (some ⟨b, 0, none⟩))) (h3 : w.cell? ⟨B3, 0, none⟩ = some (.int .i64 core)) (c2 : w.cell? ⟨b, 2, none⟩ = some (.map (some bm)))
    (HM : MapP w bm n f) (hc : (Lit.int .i64 core).wf = true) (n2 : B2 ≠ g) (n3 : B3 ≠ g) (nb : b ≠ g) (nbm : bm ≠ g) :
    CmpLays1 Try.prog 68 #[.pointer (some ⟨B2, 0, none⟩), .pointer (some ⟨B3, 0, none⟩)] encT (cfN f core) g 0 size w := by
  intro m os dk hs x y
  have hf := fr_sortWorld encT w g 0 m dk os
  have hx : ∀ k : Fin 24, pairW (core, (k.val : Int)) := fun k => ⟨hc, wfI (by omega) (by omega)⟩
  refine (take_cmp (hf.cell h2 n2) (hf.cell h3 n3) (hf.cell c2 nb) (HM.kept hf nbm) (hx x) (hx y)).mono ?_
  rintro e w' ⟨he, hg⟩
  exact ⟨he, hg.grow⟩
/-- delete in a region that draws. -/
theorem step_pdelete {ops : Array Oper} {o : Oper} {a : Act} {K : Act → World → Prop} {Q : Exit → Act → World → Prop} {E : Prop} (hgd : o.guard = none) (m x : Operand) (t : TypeId) (hop : o.op = Op.call { callee := Callee.builtin Builtin.delete, args := #[m, x], argTypes := #[t, 85] }) (ht : Try.prog.underlying t = some (.map 85 87))
    (H : MapP w bm n f) (p : Int × Int) (hm : a.eval m = .map (some bm)) (hx : a.eval x = pairV p) (hw : pairW p)
    (hK : ∀ w', MapP w' bm n (fun t => if t = p then none else f t) → Fr (One bm) w w' → K (a.put o.dst (.tuple #[])) w') : if Region.wanted o (yielded ops a.tmps) = true then Oper.wp Try.prog o a w K Q else E := by
  obtain ⟨D, hown, hD⟩ := H
  have hwt : Region.wanted o (yielded ops a.tmps) = true := by simp [Region.wanted, hgd]
  rw [if_pos hwt]
  obtain ⟨w', hrun, r1, r2⟩ := hown.drop Try.keyed_to ht (Try.key_mk hw) o.type
  unfold Oper.wp
  simp [execOp, hop, resolve, invoke, builtin, hm, hx, hrun, Result.andThen]
  refine hK _ ⟨_, r1, fun p2 l hl => ?_⟩ (fr_turned r2)
  by_cases e : p2 = p
  · subst e
    have hl2 := Try.key_mk hw
    rw [hl] at hl2
    injection hl2 with hl2
    subst hl2
    simp only [if_pos]
    exact ⟨Go.Maps.has_del_same, Go.Maps.atKey_del_same _⟩
  · simp only [if_neg e]
    have hne := key_ne hl (Try.key_mk hw) e
    rw [Go.Maps.has_del_other hne, Go.Maps.atKey_del_other hne]
    exact hD p2 l hl
end
end Go.Proofs.Ytbkjlohlfkokpaa
