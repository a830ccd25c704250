/- Package ipi, plain: notes in the order in which they were sent; what is taken is those that are due, by the tick, and of one tick in this order. -/
import Derived.Test.YtbkjlohlfkokpaaIpi5
set_option linter.unusedVariables false
set_option linter.unusedSimpArgs false
namespace Go.Proofs.Ytbkjlohlfkokpaa
open Go.RowKit

/-- A note: its core, its task, when it is due, its turn. -/
structure Nt where
  c : Int
  t : Int
  d : Int
  n : Int
  deriving DecidableEq
def Nt.key (x : Nt) : Int × Int := (x.c, x.t)
def fS (S : List Nt) : Int × Int → Option (Int × Int) := fun p => (S.find? (fun x => decide (x.key = p))).map (fun x => (x.d, x.n))
def kS (S : List Nt) : List (Int × Int) := S.map Nt.key
/-- What always holds of the notes. -/
structure NtInv (cores turn : Int) (S : List Nt) : Prop where
  nodup : (kS S).Nodup
  turns : S.Pairwise (fun x y => x.n < y.n)
  last : ∀ x ∈ S, 0 < x.n ∧ x.n ≤ turn
  bd : ∀ x ∈ S, 0 ≤ x.c ∧ x.c < cores ∧ 0 ≤ x.t ∧ x.t < 24 ∧ 0 < x.d ∧ x.d < 9007199254742000
theorem NtInv.nil (cores turn : Int) : NtInv cores turn [] := ⟨List.nodup_nil, List.Pairwise.nil, (fun _ h => by cases h), (fun _ h => by cases h)⟩
section
variable {cores turn core now : Int} {S : List Nt}
theorem fS_mem : ∀ {S : List Nt}, (kS S).Nodup → ∀ {x : Nt}, x ∈ S → fS S x.key = some (x.d, x.n)
  | [], _, x, h => by cases h
  | y :: S, hn, x, h => by
    obtain ⟨h1, h2⟩ := List.nodup_cons.1 (show (y.key :: kS S).Nodup from hn)
    unfold fS
    by_cases e : y.key = x.key
    · rcases List.mem_cons.1 h with rfl | h
      · simp
      · exact absurd (e ▸ List.mem_map_of_mem h : y.key ∈ kS S) h1
    · have hx : x ∈ S := (List.mem_cons.1 h).resolve_left (fun e2 => e (by rw [e2]))
      rw [List.find?_cons_of_neg (by simpa using e)]
      exact fS_mem h2 hx
theorem fS_some {S : List Nt} {p : Int × Int} {q : Int × Int} (h : fS S p = some q) : ∃ x ∈ S, x.key = p ∧ (x.d, x.n) = q := by
  unfold fS at h
  cases e : S.find? (fun x => decide (x.key = p)) with
  | none => rw [e] at h; cases h
  | some x =>
    rw [e] at h
    exact ⟨x, List.mem_of_find?_eq_some e, by simpa using List.find?_some e, by injection h⟩
theorem fS_none {S : List Nt} {p : Int × Int} : fS S p = none ↔ p ∉ kS S := by
  unfold fS kS
  rw [Option.map_eq_none_iff, List.find?_eq_none]
  constructor
  · intro h hp
    obtain ⟨x, hx, rfl⟩ := List.mem_map.1 hp
    exact h x hx (by simp)
  · intro h x hx e
    exact h (by have : x.key = p := by simpa using e
                rw [← this]; exact List.mem_map_of_mem hx)
theorem NtInv.keys (h : NtInv cores turn S) (h8 : cores ≤ 8) : Keys (fS S) (kS S) := by
  refine ⟨h.nodup, fun p hp => ?_, fun p hp => ?_⟩
  · obtain ⟨x, hx, rfl⟩ := List.mem_map.1 hp
    have := h.bd x hx
    exact ⟨wfI (by show _ ≤ x.c; omega) (by show x.c ≤ _; omega), wfI (by show _ ≤ x.t; omega) (by show x.t ≤ _; omega)⟩
  · constructor
    · intro hs
      by_cases hm : p ∈ kS S
      · exact hm
      · rw [fS_none.2 hm] at hs; cases hs
    · intro hm
      cases e : fS S p with
      | none => exact absurd hm (fS_none.1 e)
      | some q => rfl
theorem NtInv.tasks (h : NtInv cores turn S) : ∀ p ∈ kS S, 0 ≤ p.2 ∧ p.2 < 24 := fun p hp => by
  obtain ⟨x, hx, rfl⟩ := List.mem_map.1 hp
  have := h.bd x hx
  exact ⟨this.2.2.1, this.2.2.2.1⟩
/-- Sending. -/
theorem fS_send (S : List Nt) (x : Nt) (h : fS S x.key = none) : fS (S ++ [x]) = sentF (fS S) x.c x.t x.d x.n := funext fun p => by
  unfold sentF fS
  rw [List.find?_append]
  by_cases e : p = (x.c, x.t)
  · subst e
    have : S.find? (fun z => decide (z.key = (x.c, x.t))) = none := by
      have := h
      unfold fS at this
      rwa [Option.map_eq_none_iff] at this
    rw [this]
    simp [Nt.key]
  · rw [if_neg e]
    have : ¬ x.key = p := fun e2 => e e2.symm
    simp [this]
theorem NtInv.send (h : NtInv cores turn S) {x : Nt} (hx : fS S x.key = none) (hn : x.n = turn + 1) (ht : 0 ≤ turn) (hb : 0 ≤ x.c ∧ x.c < cores ∧ 0 ≤ x.t ∧ x.t < 24 ∧ 0 < x.d ∧ x.d < 9007199254742000) : NtInv cores (turn + 1) (S ++ [x]) := by
  refine ⟨?_, ?_, fun y hy => ?_, fun y hy => ?_⟩
  · unfold kS
    rw [List.map_append, List.map_cons, List.map_nil]
    refine List.nodup_append.2 ⟨h.nodup, by simp, fun a ha b hb2 e => ?_⟩
    rw [List.mem_singleton.1 hb2] at e
    exact fS_none.1 hx (e ▸ ha)
  · refine List.pairwise_append.2 ⟨h.turns, List.pairwise_singleton .., fun a ha b hb2 => ?_⟩
    rw [List.mem_singleton.1 hb2]
    have := (h.last a ha).2
    omega
  · rcases List.mem_append.1 hy with hy | hy
    · have := h.last y hy; omega
    · rw [List.mem_singleton.1 hy]; omega
  · rcases List.mem_append.1 hy with hy | hy
    · exact h.bd y hy
    · rw [List.mem_singleton.1 hy]; exact hb
theorem NtInv.sub (h : NtInv cores turn S) {S' : List Nt} (hs : S'.Sublist S) : NtInv cores turn S' :=
  ⟨(hs.map Nt.key).nodup h.nodup, h.turns.sublist hs, fun x hx => h.last x (hs.subset hx), fun x hx => h.bd x (hs.subset hx)⟩

/-! ### Taking -/
def dueI (core now : Int) (x : Nt) : Bool := decide (x.c = core) && decide (x.d ≤ now)
def restS (S : List Nt) (core now : Int) : List Nt := S.filter (fun x => !dueI core now x)
def insN (x : Nt) (l : List Nt) : List Nt := l.filter (fun y => decide (y.d ≤ x.d)) ++ x :: l.filter (fun y => decide (x.d < y.d))
def sortN (l : List Nt) : List Nt := l.foldl (fun o x => insN x o) []
def takeS (S : List Nt) (core now : Int) : List Nt := sortN (S.filter (dueI core now))
def lexI (x y : Nt) : Prop := x.d < y.d ∨ (x.d = y.d ∧ x.n < y.n)
theorem insN_perm (x : Nt) (l : List Nt) : (insN x l).Perm (x :: l) := by
  unfold insN
  refine List.perm_middle.trans (List.Perm.cons x ?_)
  have h := List.filter_append_perm (fun y : Nt => decide (y.d ≤ x.d)) l
  have e : (fun y : Nt => decide (x.d < y.d)) = (fun y => !decide (y.d ≤ x.d)) := funext fun y => by
    by_cases h : y.d ≤ x.d
    · simp [h]
    · simp [h]; omega
  rw [e]
  exact h
theorem insN_sorted {x : Nt} {l : List Nt} (h : l.Pairwise lexI) (hn : ∀ y ∈ l, y.n < x.n) : (insN x l).Pairwise lexI := by
  unfold insN
  refine List.pairwise_append.2 ⟨h.filter _, List.pairwise_cons.2 ⟨fun y hy => ?_, h.filter _⟩, fun a ha b hb => ?_⟩
  · have := (List.mem_filter.1 hy).2
    exact .inl (by simpa using this)
  · obtain ⟨ha1, ha2⟩ := List.mem_filter.1 ha
    have ha2 : a.d ≤ x.d := by simpa using ha2
    rcases List.mem_cons.1 hb with rfl | hb
    · have := hn a ha1
      unfold lexI; omega
    · have hb2 : x.d < b.d := by simpa using (List.mem_filter.1 hb).2
      exact .inl (by omega)
theorem foldl_ins : ∀ (l o : List Nt), l.Pairwise (fun x y => x.n < y.n) → o.Pairwise lexI → (∀ y ∈ o, ∀ x ∈ l, y.n < x.n) →
    (l.foldl (fun o x => insN x o) o).Pairwise lexI ∧ (l.foldl (fun o x => insN x o) o).Perm (l ++ o)
  | [], o, _, ho, _ => ⟨ho, List.Perm.refl _⟩
  | x :: l, o, hl, ho, hx => by
    obtain ⟨h1, h2⟩ := List.pairwise_cons.1 hl
    have hp := insN_perm x o
    have := foldl_ins l (insN x o) h2 (insN_sorted ho (fun y hy => hx y hy x (List.mem_cons_self ..))) (fun y hy z hz => by
      rcases List.mem_cons.1 (hp.subset hy) with rfl | hy
      · exact h1 z hz
      · exact hx y hy z (List.mem_cons_of_mem _ hz))
    refine ⟨this.1, this.2.trans ?_⟩
    exact (hp.append_left l).trans List.perm_middle
theorem sortN_sorted {l : List Nt} (h : l.Pairwise (fun x y => x.n < y.n)) : (sortN l).Pairwise lexI := (foldl_ins l [] h List.Pairwise.nil (fun _ h => by cases h)).1
theorem sortN_perm {l : List Nt} (h : l.Pairwise (fun x y => x.n < y.n)) : (sortN l).Perm l := by
  have := (foldl_ins l [] h List.Pairwise.nil (fun _ h => by cases h)).2
  rwa [List.append_nil] at this
theorem due_keys (h : (kS S).Nodup) : ((kS S).filter (dueQ (fS S) core now)).map Prod.snd = (S.filter (dueI core now)).map Nt.t := by
  unfold kS
  rw [List.filter_map, List.map_map]
  have : S.filter (dueQ (fS S) core now ∘ Nt.key) = S.filter (dueI core now) := List.filter_congr fun x hx => by
    unfold dueQ dueI
    simp only [Function.comp]
    rw [fS_mem h hx]
    rfl
  rw [this]
  rfl
theorem turn_inj : ∀ {S : List Nt}, S.Pairwise (fun x y => x.n < y.n) → ∀ {x y : Nt}, x ∈ S → y ∈ S → x.n = y.n → x = y
  | [], _, x, y, h, _, _ => by cases h
  | z :: S, hp, x, y, hx, hy, e => by
    obtain ⟨h1, h2⟩ := List.pairwise_cons.1 hp
    rcases List.mem_cons.1 hx with e1 | h3 <;> rcases List.mem_cons.1 hy with e2 | h4
    · rw [e1, e2]
    · have := h1 y h4; rw [e1] at e; omega
    · have := h1 x h3; rw [e2] at e; omega
    · exact turn_inj h2 h3 h4 e
/-- What Take gives. -/
theorem take_is (h : NtInv cores turn S) {l : List Int} (ht : TakeR (fS S) (kS S) core now l) : l = (takeS S core now).map Nt.t := by
  have hp := ht.perm
  rw [due_keys h.nodup] at hp
  have hsub : (S.filter (dueI core now)).Sublist S := List.filter_sublist
  have hturn := h.turns.sublist hsub
  have hp2 : (takeS S core now).Perm (S.filter (dueI core now)) := sortN_perm hturn
  have hmem : ∀ x ∈ l, ∃ y ∈ S, y.c = core ∧ y.t = x ∧ gN (fS S) core x = (y.d, y.n) := fun x hx => by
    obtain ⟨y, hy, rfl⟩ := List.mem_map.1 (hp.subset hx)
    obtain ⟨hy1, hy2⟩ := List.mem_filter.1 hy
    have hc : y.c = core := by unfold dueI at hy2; simp at hy2; exact hy2.1
    refine ⟨y, hy1, hc, rfl, ?_⟩
    unfold gN
    rw [← hc, show (y.c, y.t) = y.key from rfl, fS_mem h.nodup hy1]
    rfl
  have hinj : ∀ x ∈ S, ∀ y ∈ S, x.n = y.n → x = y := fun x hx y hy e => turn_inj h.turns hx hy e
  have hnd : l.Nodup := by
    refine hp.symm.nodup ?_
    have h1 : ((S.filter (dueI core now)).map Nt.key).Nodup := (hsub.map Nt.key).nodup h.nodup
    rw [List.Nodup, List.pairwise_map] at h1 ⊢
    refine h1.imp_of_mem (fun {a b} ha hb hne e => hne ?_)
    have ha2 := (List.mem_filter.1 ha).2
    have hb2 := (List.mem_filter.1 hb).2
    unfold dueI at ha2 hb2
    simp at ha2 hb2
    unfold Nt.key
    rw [ha2.1, hb2.1, e]
  refine one_order (fun x y => lexLt (gN (fS S) core x) (gN (fS S) core y)) (fun x y h1 h2 => lexLt_asymm h1 h2) l _ (hp.trans (hp2.map Nt.t).symm) ?_ ?_
  · refine (ht.sorted.and hnd).imp_of_mem (fun {a b} ha hb hab => ?_)
    obtain ⟨x, hx, hxc, hxt, hxg⟩ := hmem a ha
    obtain ⟨y, hy, hyc, hyt, hyg⟩ := hmem b hb
    obtain ⟨h1, h2⟩ := hab
    rw [hxg, hyg] at h1 ⊢
    have hne : x.n ≠ y.n := fun e => h2 (by rw [← hxt, ← hyt, hinj x hx y hy e])
    unfold lexLt at h1 ⊢
    simp only at h1 ⊢
    omega
  · rw [List.pairwise_map]
    refine (sortN_sorted hturn).imp_of_mem (fun {a b} ha hb hab => ?_)
    have key : ∀ z ∈ sortN (S.filter (dueI core now)), gN (fS S) core z.t = (z.d, z.n) := fun z hz => by
      obtain ⟨hz1, hz2⟩ := List.mem_filter.1 (hp2.subset hz)
      have hc : z.c = core := by unfold dueI at hz2; simp at hz2; exact hz2.1
      unfold gN
      rw [← hc, show (z.c, z.t) = z.key from rfl, fS_mem h.nodup hz1]
      rfl
    rw [key a ha, key b hb]
    exact hab
theorem take_rest (h : NtInv cores turn S) : takeF (fS S) core ((takeS S core now).map Nt.t) = fS (restS S core now) := funext fun p => by
  have hsub : (S.filter (dueI core now)).Sublist S := List.filter_sublist
  have hp2 : (takeS S core now).Perm (S.filter (dueI core now)) := sortN_perm (h.turns.sublist hsub)
  have hr : (restS S core now).Sublist S := List.filter_sublist
  have hrn : (kS (restS S core now)).Nodup := (hr.map Nt.key).nodup h.nodup
  unfold takeF
  by_cases hd : p.1 = core ∧ p.2 ∈ (takeS S core now).map Nt.t
  · rw [if_pos hd]
    symm
    rw [fS_none]
    intro hk
    obtain ⟨x, hx, rfl⟩ := List.mem_map.1 hk
    obtain ⟨hx1, hx2⟩ := List.mem_filter.1 hx
    obtain ⟨y, hy, e⟩ := List.mem_map.1 hd.2
    obtain ⟨hy1, hy2⟩ := List.mem_filter.1 (hp2.subset hy)
    have hyc : y.c = core := by have := hy2; unfold dueI at this; simp at this; exact this.1
    have hkey : y.key = x.key := by
      have h1 : x.c = core := hd.1
      have h2 : y.t = x.t := e
      unfold Nt.key; rw [hyc, h1, h2]
    have hxy : y = x := by
      have h1 := fS_mem h.nodup hy1
      have h2 := fS_mem h.nodup hx1
      rw [hkey, h2] at h1
      injection h1 with h1
      obtain ⟨a1, a2, a3, a4⟩ := x
      obtain ⟨b1, b2, b3, b4⟩ := y
      simp [Nt.key] at h1 hkey
      simp [h1, hkey]
    rw [hxy] at hy2
    rw [hy2] at hx2
    simp at hx2
  · rw [if_neg hd]
    by_cases hm : p ∈ kS S
    · obtain ⟨x, hx, rfl⟩ := List.mem_map.1 hm
      have hxr : x ∈ restS S core now := by
        refine List.mem_filter.2 ⟨hx, ?_⟩
        by_cases hdx : dueI core now x = true
        · exfalso
          refine hd ⟨?_, List.mem_map_of_mem (hp2.symm.subset (List.mem_filter.2 ⟨hx, hdx⟩))⟩
          unfold dueI at hdx; simp at hdx; exact hdx.1
        · simp [hdx]
      rw [fS_mem h.nodup hx, fS_mem hrn hxr]
    · rw [fS_none.2 hm, fS_none.2 (fun h2 => hm ((hr.map Nt.key).subset h2))]
end
end Go.Proofs.Ytbkjlohlfkokpaa
