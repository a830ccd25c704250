/- Joined: PCeil, Asks, OrdPlain, OrdPlain2. -/
import Derived.Test.YtppildaahmlfmaaQ49
import Derived.Test.YtppildaahmlfmaaQ50
import Derived.Test.YtppildaahmlfmaaQ35
set_option linter.unusedVariables false
set_option linter.unusedSimpArgs false
/- analysis.Ceilings (contract). -/
set_option linter.unusedVariables false
set_option linter.unusedSimpArgs false
namespace Go.Proofs.Ytppildaahmlfmaa
open Go.RowKit

section
variable {w : World}
set_option maxRecDepth 100000 in
set_option maxHeartbeats 1600000 in
theorem pceil_any (S : Sy) (A0 : Option Addr) (n0 c0 : Nat) (A : Option Addr) (n cap : Nat) (P : Pl) (hs : IsSys w (.slice A0 n0 c0) S) (hp : IsPlan w (.slice A n cap) P) :
    Calls Try.prog 16 #[sysV S (.slice A0 n0 c0), .slice A n cap] w fun e w' =>
      (planB S P = false ∧ e = .returned (.tuple #[.slice none 0 0, .int .i64 1]) ∧ Below w.heap.size w w') ∨
      (planB S P = true ∧ ∃ uc X, e = .returned (.tuple #[uc, .int .i64 0]) ∧ CT w' w.heap.size uc S.cores.toNat X S.resn.toNat (fun c => topF (upsN S P c P.length)) ∧ Below w.heap.size w w') := by
  have HR := hid (fun W (h : Below w.heap.size w W) => prank_any (w := W) S A0 n0 c0 A n cap P (hs.later h) (hp.later h))
  unfold sysV at *
  clear hs hp
  go_enter Try.func16, Try.ntmps16
  go_wp2_with fail
  refine (HR.out _ (below_new (Below.refl _ _) _)).mono ?_
  intro e w1 hor
  rcases hor with ⟨hpb, rfl, hb1⟩ | ⟨hpb, R, g, V, uw, uc, X, rfl, hk, hb1⟩
  · have HB := hid (below_then (below_new (Below.refl _ _) _) hb1)
    have HPB := hid hpb
    clear hb1 hpb
    go_wp2_with fail
    go_ret2
    exact .inl ⟨HPB.out, rfl, HB.out⟩
  · have HB := hid (below_then (below_new (Below.refl _ _) _) hb1)
    have HPB := hid hpb
    have HK := hid hk
    obtain ⟨Au, cu, rfl⟩ := own_slice hk.ce.out
    have r11 : w1.cell? ⟨R, 11, none⟩ = some (.slice Au S.cores.toNat cu) := blk_cell hk.hr 11
    clear hb1 hpb hk
    go_wp2_with fail
    go_ret2
    exact .inr ⟨HPB.out, _, X, rfl, HK.out.ce.mono (by simp), HB.out⟩
end
end Go.Proofs.Ytppildaahmlfmaa
/- Package tourbillonlaw17: asks (contract); ceilings, plain. -/
set_option linter.unusedVariables false
set_option linter.unusedSimpArgs false
namespace Go.Proofs.Ytppildaahmlfmaa
open Go.RowKit

def asksB (L : List Sec) (r : Int) : Bool := L.any fun x => decide (x.res = r)
theorem asksB_yes {L : List Sec} {r : Int} {k : Nat} {x : Sec} (hx : L[k]? = some x) (h : x.res = r) : asksB L r = true := by
  unfold asksB
  rw [List.any_eq_true]
  exact ⟨x, List.mem_of_getElem? hx, decide_eq_true h⟩
theorem asksB_no {L : List Sec} {r : Int} (h : ∀ (k : Nat) (x : Sec), L[k]? = some x → x.res ≠ r) : asksB L r = false := by
  unfold asksB
  rw [List.any_eq_false]
  intro x hx
  obtain ⟨k, hk⟩ := List.mem_iff_getElem?.1 hx
  rw [decide_eq_false (h k x hk)]
  simp
/-- A ceiling: no user's priority is below it, and a user has it. -/
theorem topF_le {L : List (Nat × Int)} (h1 : ∀ u ∈ L, 1 ≤ u.2) : ∀ r, (∀ u ∈ L, u.1 = r → topF L r ≠ 0 ∧ topF L r ≤ u.2) ∧ (topF L r = 0 ∨ ∃ u ∈ L, u.1 = r ∧ u.2 = topF L r) := by
  induction L using snoc_induct with
  | h0 => intro r; exact ⟨fun u hu => (by cases hu), .inl rfl⟩
  | h1 L u ih =>
    intro r
    have ih := ih (fun v hv => h1 v (List.mem_append_left _ hv)) r
    have hu1 := h1 u (by simp)
    rw [topF_snoc]
    unfold upd
    by_cases e : r = u.1
    · subst e
      rw [if_pos rfl]
      split
      · rename_i hc
        refine ⟨fun v hv he => ?_, .inr ⟨u, by simp, rfl, rfl⟩⟩
        rcases List.mem_append.1 hv with hv | hv
        · have := ih.1 v hv he
          omega
        · simp at hv
          subst hv
          omega
      · rename_i hc
        refine ⟨fun v hv he => ?_, ?_⟩
        · rcases List.mem_append.1 hv with hv | hv
          · exact ih.1 v hv he
          · simp at hv
            subst hv
            omega
        · rcases ih.2 with h | ⟨v, hv, he, h⟩
          · exact .inl h
          · exact .inr ⟨v, List.mem_append_left _ hv, he, h⟩
    · rw [if_neg e]
      refine ⟨fun v hv he => ?_, ?_⟩
      · rcases List.mem_append.1 hv with hv | hv
        · exact ih.1 v hv he
        · simp at hv
          subst hv
          exact absurd he.symm e
      · rcases ih.2 with h | ⟨v, hv, he, h⟩
        · exact .inl h
        · exact .inr ⟨v, List.mem_append_left _ hv, he, h⟩
section
variable {w : World}
set_option maxRecDepth 100000 in
set_option maxHeartbeats 3200000 in
theorem asks_any (t0 t1 t2 : Int) (A : Option Addr) (m c : Nat) (L : List Sec) (r : Int) (h : Rowp 3 secR w (.slice A m c) L) :
    Calls Try.prog 17 #[.agg #[.int .i64 t0, .int .i64 t1, .int .i64 t2, .slice A m c], .int .i64 r] w fun e w' => e = .returned (.bool (asksB L r)) ∧ Below w.heap.size w w' := by
  have hm := h.len
  have HM := hid hm
  have H := hid h
  have hmm : m ≤ 9223372036854775807 := by have := h.room; unfold maxLen at this; omega
  have hq := blk_new w (.cells #[.int .i64 t0, .int .i64 t1, .int .i64 t2, .slice A m c] 34)
  have hb := below_new (Below.refl w.heap.size w) (.cells #[.int .i64 t0, .int .i64 t1, .int .i64 t2, .slice A m c] 34)
  clear h hm
  go_enter Try.func17, Try.ntmps17
  go_upto_region 1 with fail
  generalize w.alloc (.cells #[.int .i64 t0, .int .i64 t1, .int .i64 t2, .slice A m c] 34) = w1 at *
  have z3 : w1.cell? ⟨w.heap.size, 3, none⟩ = some (.slice A m c) := blk_cell hq 3
  have HB := hid hb
  clear hq hb
  go_wp2_with fail
  go_loop [5] (fun i => ∃ k : Nat, k ≤ m ∧ i = .int .i64 k ∧ Hid (∀ (j : Nat) (x : Sec), j < k → L[j]? = some x → x.res ≠ r)) (fun i => m - (intOf i).toNat)
  case atStart => exact ⟨0, by omega, rfl, hid (fun j x hj => by omega)⟩
  case round =>
    obtain ⟨k, hk, rfl, HK⟩ := hrel
    by_cases hlt : k < m
    case neg =>
      obtain rfl : k = m := by omega
      have HR := hid (asksB_no (L := L) (r := r) (fun j x hx => HK.out j x (by have := (List.getElem?_eq_some_iff.1 hx).1; have := HM.out; omega) hx))
      go_wp2_with fail
      go_ret
      exact ⟨by rw [HR.out]; rfl, HB.out⟩
    case pos =>
      obtain ⟨x, hx⟩ : ∃ x, L[k]? = some x := ⟨_, List.getElem?_eq_getElem (by have := HM.out; omega)⟩
      obtain ⟨b2, o2, cs2, hA2, hbl2, _, hc2, hr2⟩ := H.out.at hx
      subst hA2
      have hr2' : cs2 = [.int .i64 x.at_, .int .i64 x.res, .int .i64 x.len] := hr2
      subst hr2'
      have e1 : w1.cell? ⟨b2, o2 + k * 3 + 1, none⟩ = some (.int .i64 x.res) := (HB.out.cell (p := ⟨b2, o2 + k * 3 + 1, none⟩) hbl2).trans (hc2 1 _ rfl)
      by_cases hx1 : x.res = r
      case pos =>
        have HR := hid (asksB_yes hx hx1)
        have hbe : (x.res == r) = true := by rw [hx1]; exact beq_self_eq_true r
        clear hx1 hx hc2 hr2 hbl2
        go_wp2_with fail
        go_ret
        exact ⟨by rw [HR.out]; rfl, HB.out⟩
      case neg =>
        have hbe : (x.res == r) = false := beq_eq_false_iff_ne.2 hx1
        have HN := hid (show ∀ (j : Nat) (y : Sec), j < k + 1 → L[j]? = some y → y.res ≠ r from fun j y hj hy => by
          by_cases e : j = k
          · subst e
            rw [hx] at hy
            injection hy with hy
            rw [← hy]
            exact hx1
          · exact HK.out j y (by omega) hy)
        clear hx1 hx hc2 hr2 hbl2
        go_wp2_with fail
        go_round
        case rel => exact ⟨k + 1, by omega, by go_num, HN⟩
        case measure => simp [intOf]; omega
end
end Go.Proofs.Ytppildaahmlfmaa
/- Ranked plans, plain: what is ranked is ranked the same again; the order of priorities; their sum. No program in sight. -/
set_option linter.unusedVariables false
set_option linter.unusedSimpArgs false
namespace Go.Proofs.Ytppildaahmlfmaa
open Go.RowKit

/-- A piece with its rank. -/
def re (S : Sy) (L : List Pt) (x : Pt) : Pt := ⟨rankOne S L x.task x.p, x.task, x.k⟩
theorem pts_rank (S : Sy) (L : List Pt) (i : Nat) (l : List Pc) : ptsOf i (rankRow S L i l) = (ptsOf i l).map (re S L) := by
  unfold ptsOf rankRow
  apply List.ext_getElem?
  intro k
  rw [List.getElem?_mapIdx, List.getElem?_map, List.getElem?_map, List.getElem?_mapIdx]
  cases l[k]? <;> rfl
theorem parts_rank (S : Sy) (P : Pl) : partsOf (rankL S P) = (partsOf P).map (re S (partsOf P)) := by
  generalize hL : partsOf P = L
  have h1 : partsOf (rankL S P) = ((P.mapIdx ptsOf).map (List.map (re S L))).flatten := by
    unfold partsOf rankL
    rw [hL]
    congr 1
    apply List.ext_getElem?
    intro i
    rw [List.getElem?_mapIdx, List.getElem?_mapIdx, List.getElem?_map, List.getElem?_mapIdx]
    cases P[i]? with
    | none => rfl
    | some l => exact congrArg some (pts_rank S L i l)
  rw [h1, ← List.map_flatten]
  show List.map (re S L) (partsOf P) = _
  rw [hL]
theorem tightN_re (S : Sy) (M : List Pt) (l : List Pt) (c : Int) : tightN (l.map (re S M)) c = tightN l c := by
  unfold tightN
  rw [List.filter_map, List.length_map]
  rfl
theorem usersB_re (S : Sy) (M : List Pt) (l : List Pt) (c : Int) : usersB S (l.map (re S M)) c = usersB S l c := by
  unfold usersB
  rw [List.any_map]
  rfl
theorem aheadL_re (S : Sy) (M : List Pt) (l : List Pt) (i : Nat) (p : Pc) : aheadL i (rankOne S M i p) (l.map (re S M)) = aheadL i p l := by
  unfold aheadL
  rw [List.filter_map, List.length_map]
  rfl
theorem coresB_rank (S : Sy) (P : Pl) : coresB S (rankL S P) = coresB S P := by
  unfold coresB
  rw [parts_rank, List.all_map]
  congr 1
  funext x
  show decide (tightN ((partsOf P).map (re S (partsOf P))) x.p.core = 0 ∨ (tightN ((partsOf P).map (re S (partsOf P))) x.p.core = 1 ∧ usersB S ((partsOf P).map (re S (partsOf P))) x.p.core = false)) = _
  rw [tightN_re, usersB_re]
theorem distB_rank (S : Sy) (P : Pl) : distB (rankL S P) = distB P := by
  unfold distB
  rw [Bool.eq_iff_iff]
  simp only [List.all_eq_true, decide_eq_true_eq]
  unfold rankL
  constructor
  · intro h l hl
    obtain ⟨i, hi, rfl⟩ := List.mem_iff_getElem.1 hl
    have := h _ (List.mem_mapIdx.2 ⟨i, hi, rfl⟩)
    unfold rankRow at this
    rw [List.map_map] at this
    exact this
  · intro h l hl
    obtain ⟨i, hi, rfl⟩ := List.mem_mapIdx.1 hl
    unfold rankRow
    rw [List.map_map]
    exact h _ (List.getElem_mem hi)
theorem listB_rank (S : Sy) (M : List Pt) (i : Nat) (cores late : Int) (nosec : Bool) : ∀ (l : List Pc) (a b : Int), listB cores late nosec a b (rankRow S M i l) = listB cores late nosec a b l
  | [], _, _ => rfl
  | p :: l, a, b => by
    have ih := listB_rank S M i cores late nosec l (a - p.bud) (b - (p.bud + late))
    show (pcB cores nosec a b (rankRow S M i l).isEmpty (rankOne S M i p) && listB cores late nosec (a - p.bud) (b - (p.bud + late)) (rankRow S M i l)) = (pcB cores nosec a b l.isEmpty p && listB cores late nosec (a - p.bud) (b - (p.bud + late)) l)
    rw [ih]
    have h : (rankRow S M i l).isEmpty = l.isEmpty := by cases l <;> rfl
    rw [h]
    rfl
theorem planB_rank (S : Sy) (P : Pl) : planB S (rankL S P) = planB S P := by
  unfold planB
  rw [coresB_rank, distB_rank]
  have h1 : (rankL S P).length = P.length := by unfold rankL; simp
  have h2 : listsB S S.tasks (rankL S P) = listsB S S.tasks P := by
    rw [Bool.eq_iff_iff, listsB_iff, listsB_iff]
    unfold rankL
    have key : ∀ i t l, listOkB S t (rankRow S (partsOf P) i l) = listOkB S t l := fun i t l => by
      unfold listOkB
      rw [listB_rank]
      unfold rankRow
      rw [List.length_map]
    constructor
    · intro h i t l ht hl
      rw [← key i]
      exact h i t _ ht (by rw [List.getElem?_mapIdx, hl]; rfl)
    · intro h i t l ht hl
      rw [List.getElem?_mapIdx] at hl
      cases hp : P[i]? with
      | none => rw [hp] at hl; cases hl
      | some m =>
        rw [hp] at hl
        injection hl with hl
        rw [← hl, key]
        exact h i t m ht hp
  rw [h1, h2]
theorem rankL_rank (S : Sy) (P : Pl) : rankL S (rankL S P) = rankL S P := by
  have h0 : ∀ i l, rankRow S (partsOf (rankL S P)) i (rankRow S (partsOf P) i l) = rankRow S (partsOf P) i l := fun i l => by
    rw [parts_rank]
    unfold rankRow
    rw [List.map_map]
    apply List.map_congr_left
    intro p _
    show rankOne S ((partsOf P).map (re S (partsOf P))) i (rankOne S (partsOf P) i p) = rankOne S (partsOf P) i p
    have h1 := aheadL_re S (partsOf P) (partsOf P) i p
    have h2 : rankOne S ((partsOf P).map (re S (partsOf P))) i (rankOne S (partsOf P) i p) = ⟨p.core, p.bud, p.dl, if S.policy = 1 ∧ p.tight = false then 1 + (aheadL i (rankOne S (partsOf P) i p) ((partsOf P).map (re S (partsOf P))) : Nat) else 0, p.tight⟩ := rfl
    rw [h2, h1]
    rfl
  have h3 : rankL S (rankL S P) = (rankL S P).mapIdx (rankRow S (partsOf (rankL S P))) := rfl
  rw [h3]
  apply List.ext_getElem?
  intro i
  rw [List.getElem?_mapIdx]
  unfold rankL
  rw [List.getElem?_mapIdx]
  cases P[i]? with
  | none => rfl
  | some l => exact congrArg some (h0 i l)
/-! Counting. -/
theorem count_lt {α : Type} {p q : α → Bool} : ∀ {L : List α} {y : α}, y ∈ L → p y = false → q y = true → (∀ z, z ∈ L → p z = true → q z = true) → (L.filter p).length < (L.filter q).length
  | z :: L, y, hy, h1, h2, h3 => by
    have hle : ∀ M : List α, (∀ z, z ∈ M → p z = true → q z = true) → (M.filter p).length ≤ (M.filter q).length := fun M => by
      induction M with
      | nil => intro _; exact Nat.le_refl _
      | cons a M ih =>
        intro h
        have ih := ih (fun z hz => h z (List.mem_cons_of_mem _ hz))
        rw [List.filter_cons, List.filter_cons]
        cases hp : p a with
        | false => cases hq : q a <;> simp <;> omega
        | true => rw [h a (List.mem_cons_self ..) hp]; simp; omega
    rw [List.filter_cons, List.filter_cons]
    rcases List.mem_cons.1 hy with rfl | hy
    · rw [h1, h2]
      have := hle L (fun z hz => h3 z (List.mem_cons_of_mem _ hz))
      simp
      omega
    · have ih := count_lt hy h1 h2 (fun z hz => h3 z (List.mem_cons_of_mem _ hz))
      cases hp : p z with
      | false => cases hq : q z <;> simp <;> omega
      | true => rw [h3 z (List.mem_cons_self ..) hp]; simp; omega
/-- How many of a list come ahead of each, summed up: half of n (n - 1). -/
theorem pairs_sum {α : Type} {lt : α → α → Bool} : ∀ {L : List α}, (∀ x ∈ L, lt x x = false) → L.Pairwise (fun x y => lt x y = !(lt y x)) → 2 * (L.map fun x => 1 + (L.filter fun y => lt y x).length).sum = L.length * (L.length + 1)
  | [], _, _ => rfl
  | x :: L, h1, h2 => by
    obtain ⟨h3, h4⟩ := List.pairwise_cons.1 h2
    have ih := pairs_sum (L := L) (fun y hy => h1 y (List.mem_cons_of_mem _ hy)) h4
    have hx := h1 x (List.mem_cons_self ..)
    have e1 : ((x :: L).filter fun y => lt y x).length = (L.filter fun y => lt y x).length := by rw [List.filter_cons, hx]; simp
    have e2 : ∀ M : List α, (∀ y ∈ M, lt x y = !(lt y x)) → (M.map fun y => 1 + ((x :: L).filter fun z => lt z y).length).sum + (M.filter fun y => lt y x).length = (M.map fun y => 1 + (L.filter fun z => lt z y).length).sum + M.length := fun M => by
      induction M with
      | nil => intro _; rfl
      | cons y M ihM =>
        intro h
        have ihM := ihM (fun z hz => h z (List.mem_cons_of_mem _ hz))
        have hy := h y (List.mem_cons_self ..)
        rw [List.map_cons, List.map_cons, List.sum_cons, List.sum_cons, List.filter_cons, List.filter_cons, hy]
        cases hyx : lt y x <;> simp <;> omega
    have e3 := e2 L h3
    rw [List.map_cons, List.sum_cons, e1, List.length_cons]
    generalize (L.map fun y => 1 + ((x :: L).filter fun z => lt z y).length).sum = s at *
    generalize (L.map fun y => 1 + (L.filter fun z => lt z y).length).sum = s2 at *
    have e4 : (L.length + 1) * (L.length + 1 + 1) = L.length * (L.length + 1) + 2 * (L.length + 1) := by rw [← Nat.add_mul, Nat.mul_comm]
    omega
end Go.Proofs.Ytppildaahmlfmaa
/- Ranked plans, plain: priorities of a core rise with deadlines, and are 1, 2, .. No program in sight. -/
set_option linter.unusedVariables false
set_option linter.unusedSimpArgs false
namespace Go.Proofs.Ytppildaahmlfmaa
open Go.RowKit

def onc (c : Int) (x : Pt) : Bool := decide (x.p.core = c) && !x.p.tight
def ltP (y x : Pt) : Bool := !decide (y.task = x.task) && (decide (y.p.dl < x.p.dl) || (decide (y.p.dl = x.p.dl) && decide (y.task < x.task)))
def lexB (y x : Pt) : Bool := decide (y.p.dl < x.p.dl) || (decide (y.p.dl = x.p.dl) && decide (y.task < x.task))
theorem aheadL_on (x : Pt) (L : List Pt) : aheadL x.task x.p L = ((L.filter (onc x.p.core)).filter (fun y => ltP y x)).length := by
  unfold aheadL
  rw [List.filter_filter]
  congr 2
  funext y
  unfold aheadQ onc ltP
  cases decide (y.p.core = x.p.core) <;> cases y.p.tight <;> cases decide (y.task = x.task) <;> simp
theorem on_tasks {P : Pl} (hd : ((partsOf P).map keyPt).Nodup) (c : Int) : ((partsOf P).filter (onc c)).Pairwise (fun x y => x.task ≠ y.task) := by
  have h1 : (partsOf P).Pairwise (fun x y => keyPt x ≠ keyPt y) := by
    unfold List.Nodup at hd
    rwa [List.pairwise_map] at hd
  refine (h1.filter (onc c)).imp_of_mem (fun {x y} hx hy h e => h ?_)
  have hx := (List.mem_filter.1 hx).2
  have hy := (List.mem_filter.1 hy).2
  unfold onc at hx hy
  simp only [Bool.and_eq_true, decide_eq_true_eq] at hx hy
  unfold keyPt
  rw [e, hx.1, hy.1]
theorem task_eq : ∀ {N : List Pt}, N.Pairwise (fun x y => x.task ≠ y.task) → ∀ {x y : Pt}, x ∈ N → y ∈ N → x.task = y.task → x = y
  | a :: N, h, x, y, hx, hy, e => by
    obtain ⟨h1, h2⟩ := List.pairwise_cons.1 h
    rcases List.mem_cons.1 hx with rfl | hx2 <;> rcases List.mem_cons.1 hy with rfl | hy2
    · rfl
    · exact absurd e (h1 _ hy2)
    · exact absurd e.symm (h1 _ hx2)
    · exact task_eq h2 hx2 hy2 e
theorem lexB_self (x : Pt) : lexB x x = false := by unfold lexB; simp
theorem ltP_lex {N : List Pt} (h : N.Pairwise (fun x y => x.task ≠ y.task)) {x y : Pt} (hx : x ∈ N) (hy : y ∈ N) : ltP y x = lexB y x := by
  by_cases e : y.task = x.task
  · have := task_eq h hy hx e
    subst this
    rw [lexB_self]
    unfold ltP
    simp
  · unfold ltP lexB
    rw [decide_eq_false e]
    rfl
theorem prio_on {S : Sy} {P : Pl} (hp : S.policy = 1) (hd : ((partsOf (rankL S P)).map keyPt).Nodup) {c : Int} {x : Pt} (hx : x ∈ partsOf (rankL S P)) (hc : onc c x = true) :
    x.p.prio = 1 + ((((partsOf (rankL S P)).filter (onc c)).filter fun y => lexB y x).length : Int) := by
  have hxN : x ∈ (partsOf (rankL S P)).filter (onc c) := List.mem_filter.2 ⟨hx, hc⟩
  have h1 : x.p.prio = 1 + (aheadL x.task x.p (partsOf (rankL S P)) : Nat) := by
    have hx2 := hx
    rw [parts_rank] at hx2
    obtain ⟨y, hy, rfl⟩ := List.mem_map.1 hx2
    have h2 := aheadL_re S (partsOf P) (partsOf P) y.task y.p
    rw [← parts_rank] at h2
    have h3 : (re S (partsOf P) y).p.tight = false := by
      unfold onc at hc
      simp only [Bool.and_eq_true, Bool.not_eq_true'] at hc
      exact hc.2
    show (if S.policy = 1 ∧ y.p.tight = false then 1 + (aheadL y.task y.p (partsOf P) : Nat) else 0 : Int) = 1 + (aheadL y.task (rankOne S (partsOf P) y.task y.p) (partsOf (rankL S P)) : Nat)
    rw [h2, if_pos ⟨hp, h3⟩]
  have hcc : x.p.core = c := by
    unfold onc at hc
    simp only [Bool.and_eq_true, decide_eq_true_eq] at hc
    exact hc.1
  rw [h1, aheadL_on, hcc]
  congr 2
  refine congrArg List.length (List.filter_congr fun y hy => ?_)
  exact ltP_lex (on_tasks hd c) hxN hy
theorem prio_off {S : Sy} {P : Pl} {x : Pt} (hx : x ∈ partsOf (rankL S P)) (h : x.p.tight = true ∨ S.policy ≠ 1) : x.p.prio = 0 := by
  rw [parts_rank] at hx
  obtain ⟨y, hy, rfl⟩ := List.mem_map.1 hx
  have h' : y.p.tight = true ∨ S.policy ≠ 1 := h
  show (if S.policy = 1 ∧ y.p.tight = false then 1 + (aheadL y.task y.p (partsOf P) : Nat) else 0 : Int) = 0
  rw [if_neg (fun e => by rcases h' with h' | h' <;> simp_all)]
/-- Priorities rise with deadlines. -/
theorem prio_order {S : Sy} {P : Pl} (hp : S.policy = 1) (hd : ((partsOf (rankL S P)).map keyPt).Nodup) {c : Int} {x y : Pt} (hx : x ∈ partsOf (rankL S P)) (hy : y ∈ partsOf (rankL S P)) (hxc : onc c x = true) (hyc : onc c y = true) (ht : y.task < x.task) :
    decide (y.p.prio < x.p.prio) = decide (y.p.dl ≤ x.p.dl) := by
  rw [prio_on hp hd hx hxc, prio_on hp hd hy hyc]
  have hxN : x ∈ (partsOf (rankL S P)).filter (onc c) := List.mem_filter.2 ⟨hx, hxc⟩
  have hyN : y ∈ (partsOf (rankL S P)).filter (onc c) := List.mem_filter.2 ⟨hy, hyc⟩
  generalize (partsOf (rankL S P)).filter (onc c) = N at *
  by_cases e : y.p.dl ≤ x.p.dl
  · have h1 := count_lt (p := fun z => lexB z y) (q := fun z => lexB z x) hyN (lexB_self y) (by unfold lexB; simp; omega) (fun z _ h => by
      unfold lexB at h ⊢
      simp only [Bool.or_eq_true, Bool.and_eq_true, decide_eq_true_eq] at h ⊢
      omega)
    rw [decide_eq_true e, decide_eq_true (by omega)]
  · have h1 := count_lt (p := fun z => lexB z x) (q := fun z => lexB z y) hxN (lexB_self x) (by unfold lexB; simp; omega) (fun z _ h => by
      unfold lexB at h ⊢
      simp only [Bool.or_eq_true, Bool.and_eq_true, decide_eq_true_eq] at h ⊢
      omega)
    rw [decide_eq_false e, decide_eq_false (by omega)]
def sumP (c : Int) (l : List Pt) : Int := ((l.filter (onc c)).map fun x => x.p.prio).sum
def cntP (c : Int) (l : List Pt) : Nat := (l.filter (onc c)).length
theorem sumP_snoc (c : Int) (l : List Pt) (x : Pt) : sumP c (l ++ [x]) = if onc c x = true then sumP c l + x.p.prio else sumP c l := by
  unfold sumP
  rw [List.filter_append, List.map_append, List.sum_append_int]
  cases h : onc c x <;> simp [h]
theorem cntP_snoc (c : Int) (l : List Pt) (x : Pt) : cntP c (l ++ [x]) = if onc c x = true then cntP c l + 1 else cntP c l := by
  unfold cntP
  rw [List.filter_append, List.length_append]
  cases h : onc c x <;> simp [h]
theorem sum_on {S : Sy} {P : Pl} (hp : S.policy = 1) (hd : ((partsOf (rankL S P)).map keyPt).Nodup) (c : Int) : 2 * sumP c (partsOf (rankL S P)) = (cntP c (partsOf (rankL S P)) : Int) * ((cntP c (partsOf (rankL S P)) : Int) + 1) := by
  have h0 := on_tasks hd c
  have h1 := pairs_sum (lt := lexB) (L := (partsOf (rankL S P)).filter (onc c)) (fun x _ => lexB_self x) (h0.imp (fun {x y} h => by
    unfold lexB
    by_cases e1 : x.p.dl < y.p.dl
    · rw [decide_eq_true e1, decide_eq_false (by omega : ¬ y.p.dl < x.p.dl), decide_eq_false (by omega : ¬ y.p.dl = x.p.dl)]; rfl
    · by_cases e2 : y.p.dl < x.p.dl
      · rw [decide_eq_false e1, decide_eq_true e2, decide_eq_false (by omega : ¬ x.p.dl = y.p.dl)]; rfl
      · rw [decide_eq_false e1, decide_eq_false e2, decide_eq_true (by omega : x.p.dl = y.p.dl), decide_eq_true (by omega : y.p.dl = x.p.dl)]
        by_cases e3 : x.task < y.task
        · rw [decide_eq_true e3, decide_eq_false (by omega : ¬ y.task < x.task)]; rfl
        · rw [decide_eq_false e3, decide_eq_true (by omega : y.task < x.task)]; rfl))
  have h2 : ∀ M : List Pt, (∀ x ∈ M, x ∈ (partsOf (rankL S P)).filter (onc c)) → (M.map fun x => x.p.prio).sum = (((M.map fun x => 1 + (((partsOf (rankL S P)).filter (onc c)).filter fun y => lexB y x).length).sum : Nat) : Int) := fun M => by
    induction M with
    | nil => intro _; rfl
    | cons x M ih =>
      intro h
      have ih := ih (fun y hy => h y (List.mem_cons_of_mem _ hy))
      have hx := List.mem_filter.1 (h x (List.mem_cons_self ..))
      rw [List.map_cons, List.map_cons, List.sum_cons, List.sum_cons, ih, prio_on hp hd hx.1 hx.2]
      omega
  unfold sumP cntP
  rw [h2 _ (fun x hx => hx)]
  have h3 : ((2 * (((partsOf (rankL S P)).filter (onc c)).map fun x => 1 + (((partsOf (rankL S P)).filter (onc c)).filter fun y => lexB y x).length).sum : Nat) : Int) = ((((partsOf (rankL S P)).filter (onc c)).length * (((partsOf (rankL S P)).filter (onc c)).length + 1) : Nat) : Int) := by rw [h1]
  rw [Int.natCast_mul, Int.natCast_mul, Int.natCast_add] at h3
  exact h3
theorem prio_bound {S : Sy} {P : Pl} (hl : (partsOf P).length < 1000000) {x : Pt} (hx : x ∈ partsOf (rankL S P)) : 0 ≤ x.p.prio ∧ x.p.prio ≤ 1000000 := by
  rw [parts_rank] at hx
  obtain ⟨y, hy, rfl⟩ := List.mem_map.1 hx
  have h1 : aheadL y.task y.p (partsOf P) ≤ (partsOf P).length := by unfold aheadL; exact List.length_filter_le _ _
  show 0 ≤ (if S.policy = 1 ∧ y.p.tight = false then 1 + (aheadL y.task y.p (partsOf P) : Nat) else 0 : Int) ∧ (if S.policy = 1 ∧ y.p.tight = false then 1 + (aheadL y.task y.p (partsOf P) : Nat) else 0 : Int) ≤ 1000000
  split <;> omega
theorem sumP_bound {c : Int} {l : List Pt} (h : ∀ x ∈ l, 0 ≤ x.p.prio ∧ x.p.prio ≤ 1000000) : 0 ≤ sumP c l ∧ sumP c l ≤ 1000000 * l.length := by
  induction l using snoc_induct with
  | h0 => exact ⟨Int.le_refl _, by simp [sumP]⟩
  | h1 l x ih =>
    have ih := ih (fun y hy => h y (List.mem_append_left _ hy))
    have hx := h x (by simp)
    rw [sumP_snoc, List.length_append]
    simp only [List.length_cons, List.length_nil]
    split <;> omega
theorem cntP_bound (c : Int) (l : List Pt) : cntP c l ≤ l.length := List.length_filter_le _ _
theorem half_sum {s : Int} {n : Nat} (h : 2 * s = (n : Int) * ((n : Int) + 1)) (h0 : 0 ≤ s) : Int.tdiv ((n : Int) * ((n : Int) + 1)) 2 = s := by
  rw [← h, Int.mul_comm]
  exact Int.mul_tdiv_cancel _ (by decide)
end Go.Proofs.Ytppildaahmlfmaa
