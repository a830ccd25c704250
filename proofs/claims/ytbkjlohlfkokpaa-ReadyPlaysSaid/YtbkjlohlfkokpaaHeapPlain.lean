/- Package heap, plain: a heap in a row, its order at one place broken and mended; the sorted list that it stands for. No program; no condition. -/
import Derived.Test.YtbkjlohlfkokpaaWords
set_option linter.unusedVariables false
set_option linter.unusedSimpArgs false
namespace Go.Proofs.Ytbkjlohlfkokpaa

/-- An item: its id, its key, its turn. -/
structure It where
  id : Int
  key : Int
  turn : Int
  deriving DecidableEq, Inhabited
def ltI (x y : It) : Prop := x.key < y.key ∨ (x.key = y.key ∧ x.turn < y.turn)
instance (x y : It) : Decidable (ltI x y) := by unfold ltI; infer_instance
def leI (x y : It) : Prop := ¬ ltI y x
theorem leI_trans {x y z : It} (h : leI x y) (k : leI y z) : leI x z := by unfold leI ltI at *; omega
theorem ltI_trans {x y z : It} (h : ltI x y) (k : ltI y z) : ltI x z := by unfold ltI at *; omega
theorem ltI_asymm {x y : It} (h : ltI x y) : ¬ ltI y x := by unfold ltI at *; omega
theorem leI_of_lt {x y : It} (h : ltI x y) : leI x y := by unfold leI ltI at *; omega
theorem leI_refl (x : It) : leI x x := by unfold leI ltI; omega

/-- The order holds but at place i. -/
structure HB (g : Nat → It) (n i : Nat) : Prop where
  edge : ∀ j, 0 < j → j < n → j ≠ i → (j - 1) / 2 ≠ i → leI (g ((j - 1) / 2)) (g j)
  skip : ∀ j, 0 < j → j < n → (j - 1) / 2 = i → 0 < i → leI (g ((i - 1) / 2)) (g j)
/-- The order holds but below place i. -/
structure HD (g : Nat → It) (n i : Nat) : Prop where
  edge : ∀ j, 0 < j → j < n → (j - 1) / 2 ≠ i → leI (g ((j - 1) / 2)) (g j)
  skip : ∀ j, 0 < j → j < n → (j - 1) / 2 = i → 0 < i → leI (g ((i - 1) / 2)) (g j)
def HP (g : Nat → It) (n : Nat) : Prop := ∀ j, 0 < j → j < n → leI (g ((j - 1) / 2)) (g j)
def sw (g : Nat → It) (i k : Nat) : Nat → It := fun j => if j = i then g k else if j = k then g i else g j
def upd (g : Nat → It) (i : Nat) (x : It) : Nat → It := fun j => if j = i then x else g j
section
variable {g g' : Nat → It} {n i k j : Nat} {x : It}
theorem sw_i : sw g i k i = g k := by unfold sw; rw [if_pos rfl]
theorem sw_k : sw g i k k = g i := by
  unfold sw
  by_cases h : k = i
  · rw [if_pos h, h]
  · rw [if_neg h, if_pos rfl]
theorem sw_o (h1 : j ≠ i) (h2 : j ≠ k) : sw g i k j = g j := by unfold sw; rw [if_neg h1, if_neg h2]
theorem HB.up (h : HB g n i) (h0 : 0 < i) (hi : i < n) (hl : ltI (g i) (g ((i - 1) / 2))) : HB (sw g i ((i - 1) / 2)) n ((i - 1) / 2) := by
  have hp : (i - 1) / 2 < i := by omega
  obtain ⟨p, hpe⟩ : ∃ p, (i - 1) / 2 = p := ⟨_, rfl⟩
  have hskip := h.skip
  rw [hpe] at hl hp hskip ⊢
  refine ⟨fun j hj hn h1 h2 => ?_, fun j hj hn h1 hpp => ?_⟩
  · have hji : j ≠ i := fun e => h2 (by rw [e, hpe])
    rw [sw_o hji h1]
    by_cases hq : (j - 1) / 2 = i
    · rw [hq, sw_i]; exact hskip j hj hn hq h0
    · rw [sw_o hq h2]; exact h.edge j hj hn hji hq
  · have e1 : (p - 1) / 2 ≠ i := by omega
    have e2 : (p - 1) / 2 ≠ p := by omega
    have hpp2 : leI (g ((p - 1) / 2)) (g p) := h.edge p hpp (by omega) (by omega) e1
    rw [sw_o e1 e2]
    by_cases hji : j = i
    · rw [hji, sw_i]; exact hpp2
    · have h3 : leI (g ((j - 1) / 2)) (g j) := h.edge j hj hn hji (by omega)
      rw [h1] at h3
      rw [sw_o hji (by omega)]
      exact leI_trans hpp2 h3
theorem HB.done (h : HB g n i) (hl : i = 0 ∨ leI (g ((i - 1) / 2)) (g i)) : HD g n i := by
  refine ⟨fun j hj hn h1 => ?_, h.skip⟩
  by_cases hji : j = i
  · subst hji
    exact hl.resolve_left (by omega)
  · exact h.edge j hj hn hji h1
theorem HD.down (h : HD g n i) (hk : (k - 1) / 2 = i) (h0 : 0 < k) (hn : k < n) (hc : ∀ c, 0 < c → c < n → (c - 1) / 2 = i → leI (g k) (g c)) (hl : ltI (g k) (g i)) : HD (sw g i k) n k := by
  refine ⟨fun j hj hjn h1 => ?_, fun j hj hjn h1 _ => ?_⟩
  · by_cases hq : (j - 1) / 2 = i
    · rw [hq, sw_i]
      by_cases hjk : j = k
      · rw [hjk, sw_k]; exact leI_of_lt hl
      · rw [sw_o (by omega) hjk]; exact hc j hj hjn hq
    · rw [sw_o hq h1]
      by_cases hji : j = i
      · rw [hji, sw_i]
        exact h.skip k h0 hn hk (by omega)
      · have hjk : j ≠ k := fun e => hq (by rw [e, hk])
        rw [sw_o hji hjk]
        exact h.edge j hj hjn hq
  · rw [hk, sw_i, sw_o (by omega) (by omega)]
    have := h.edge j hj hjn (by omega)
    rwa [h1] at this
theorem HD.done (h : HD g n i) (hc : ∀ c, 0 < c → c < n → (c - 1) / 2 = i → leI (g i) (g c)) : HP g n := fun j hj hn => by
  by_cases hq : (j - 1) / 2 = i
  · rw [hq]; exact hc j hj hn hq
  · exact h.edge j hj hn hq
theorem HP.min (h : HP g n) : ∀ j, j < n → leI (g 0) (g j) := by
  intro j
  induction j using Nat.strongRecOn with
  | _ j ih =>
    intro hj
    by_cases h0 : j = 0
    · rw [h0]; exact leI_refl _
    · exact leI_trans (ih ((j - 1) / 2) (by omega) (by omega)) (h j (by omega) hj)
theorem HP.upd (h : HP g n) (x : It) (hi : i < n) : HB (upd g i x) n i := by
  refine ⟨fun j hj hn h1 h2 => ?_, fun j hj hn h1 h0 => ?_⟩
  · unfold Go.Proofs.Ytbkjlohlfkokpaa.upd
    rw [if_neg h2, if_neg h1]; exact h j hj hn
  · unfold Go.Proofs.Ytbkjlohlfkokpaa.upd
    rw [if_neg (by omega), if_neg (by omega)]
    have h3 := h j hj hn
    rw [h1] at h3
    exact leI_trans (h i h0 hi) h3
theorem HP.snoc (h : HP g n) : HB g (n + 1) n := ⟨fun j hj hn h1 _ => h j hj (by omega), fun j hj hn h1 _ => by omega⟩
theorem HP.less {m : Nat} (h : HP g n) (hm : m ≤ n) : HP g m := fun j hj hn => h j hj (by omega)
theorem HB.congr (h : HB g n i) (e : ∀ j, j < n → g' j = g j) (hi : i < n) : HB g' n i :=
  ⟨fun j hj hn h1 h2 => by rw [e _ (by omega), e _ hn]; exact h.edge j hj hn h1 h2, fun j hj hn h1 h2 => by rw [e _ (by omega), e _ hn]; exact h.skip j hj hn h1 h2⟩
theorem HP.congr (h : HP g n) (e : ∀ j, j < n → g' j = g j) : HP g' n := fun j hj hn => by rw [e _ (by omega), e _ hn]; exact h j hj hn
end

/-! Rows -/
def gl (a : List It) (j : Nat) : It := a.getD j default
def swL (a : List It) (i k : Nat) : List It := (a.set i (gl a k)).set k (gl a i)
section
variable {a b S : List It} {i k j : Nat} {x y : It}
theorem gl_some (h : a[j]? = some x) : gl a j = x := by unfold gl; rw [List.getD_eq_getElem?_getD, h, Option.getD_some]
theorem gl_get (h : j < a.length) : a[j]? = some (gl a j) := by
  rw [List.getElem?_eq_getElem h, gl_some (List.getElem?_eq_getElem h)]
theorem gl_elem (h : j < a.length) : a[j] = gl a j := by
  have := gl_get h
  rw [List.getElem?_eq_getElem h] at this
  injection this
theorem gl_mem (h : j < a.length) : gl a j ∈ a := List.mem_of_getElem? (gl_get h)
theorem gl_set (hi : i < a.length) : gl (a.set i x) j = if j = i then x else gl a j := by
  unfold gl
  rw [List.getD_eq_getElem?_getD, List.getD_eq_getElem?_getD]
  by_cases h : j = i
  · subst h
    rw [if_pos rfl, List.getElem?_set_self hi, Option.getD_some]
  · rw [if_neg h, List.getElem?_set_ne (fun e => h e.symm)]
theorem gl_upd (hi : i < a.length) : gl (a.set i x) = upd (gl a) i x := funext fun j => gl_set hi
theorem swL_length : (swL a i k).length = a.length := by unfold swL; rw [List.length_set, List.length_set]
theorem gl_swL (hi : i < a.length) (hk : k < a.length) : gl (swL a i k) = sw (gl a) i k := funext fun j => by
  unfold swL sw
  rw [gl_set (by rw [List.length_set]; exact hk), gl_set hi]
  by_cases h1 : j = k
  · rw [if_pos h1]
    by_cases h2 : j = i
    · rw [if_pos h2, ← h2, h1]
    · rw [if_neg h2, if_pos h1]
  · rw [if_neg h1]
    by_cases h2 : j = i
    · rw [if_pos h2, if_pos h2]
    · rw [if_neg h2, if_neg h2, if_neg h1]
theorem swL_perm (hi : i < a.length) (hk : k < a.length) : (swL a i k).Perm a := by
  unfold swL
  rw [← gl_elem hi, ← gl_elem hk]
  exact List.set_set_perm hi hk
/-- Where an id stands. -/
def atF (a : List It) : Int → Option Int := fun t => (a.findIdx? (fun x => decide (x.id = t))).map (fun n : Nat => (n : Int))
def ids (a : List It) : List Int := a.map It.id
theorem atF_none {t : Int} : atF a t = none ↔ t ∉ ids a := by
  unfold atF ids
  rw [Option.map_eq_none_iff, List.findIdx?_eq_none_iff]
  constructor
  · intro h hm
    obtain ⟨x, hx, rfl⟩ := List.mem_map.1 hm
    simpa using h x hx
  · intro h x hx
    simp only [decide_eq_false_iff_not]
    exact fun e => h (e ▸ List.mem_map_of_mem hx)
theorem ids_inj (h : (ids a).Nodup) (hi : i < a.length) (hk : k < a.length) (e : (gl a i).id = (gl a k).id) : i = k := by
  have h1 : (ids a)[i]? = some (gl a i).id := by unfold ids; rw [List.getElem?_map, gl_get hi]; rfl
  have h2 : (ids a)[k]? = some (gl a k).id := by unfold ids; rw [List.getElem?_map, gl_get hk]; rfl
  exact (List.getElem?_inj (by unfold ids; rw [List.length_map]; exact hi) h).1 (h1.trans (by rw [h2, e]))
theorem atF_some {t : Int} {v : Int} (h : atF a t = some v) : ∃ n : Nat, v = n ∧ n < a.length ∧ (gl a n).id = t := by
  unfold atF at h
  rw [Option.map_eq_some_iff] at h
  obtain ⟨n, h1, h2⟩ := h
  rw [List.findIdx?_eq_some_iff_getElem] at h1
  obtain ⟨hn, hx, _⟩ := h1
  exact ⟨n, h2.symm, hn, by rw [← gl_elem hn]; simpa using hx⟩
theorem atF_is (h : (ids a).Nodup) (hj : j < a.length) : atF a (gl a j).id = some (j : Int) := by
  cases e : atF a (gl a j).id with
  | none => exact absurd (by unfold ids; exact List.mem_map_of_mem (gl_mem hj)) (atF_none.1 e)
  | some v =>
    obtain ⟨n, rfl, hn, hid⟩ := atF_some e
    rw [ids_inj h hn hj hid]
/-- The map is known by where each one stands. -/
theorem atF_ext (h : (ids a).Nodup) (f : Int → Option Int) (h1 : ∀ j, j < a.length → f (gl a j).id = some (j : Int)) (h2 : ∀ t, t ∉ ids a → f t = none) : f = atF a := funext fun t => by
  by_cases hm : t ∈ ids a
  · unfold ids at hm
    obtain ⟨x, hx, rfl⟩ := List.mem_map.1 hm
    obtain ⟨j, hj, e⟩ := List.mem_iff_getElem.1 hx
    have e2 : gl a j = x := by rw [← gl_elem hj]; exact e
    rw [← e2, h1 j hj, atF_is h hj]
  · rw [h2 t hm, atF_none.2 hm]
theorem ids_perm (h : a.Perm b) : (ids a).Perm (ids b) := h.map _
theorem nodup_perm (h : a.Perm b) (hn : (ids b).Nodup) : (ids a).Nodup := (ids_perm h).symm.nodup hn
theorem atF_swap (h : (ids a).Nodup) (hi : i < a.length) (hk : k < a.length) :
    (fun t => if t = (gl a i).id then some (k : Int) else if t = (gl a k).id then some (i : Int) else atF a t) = atF (swL a i k) := by
  have hp := swL_perm hi hk
  refine atF_ext (nodup_perm hp h) _ (fun j hj => ?_) (fun t ht => ?_)
  · rw [swL_length] at hj
    rw [gl_swL hi hk]
    by_cases h1 : j = i
    · subst h1
      rw [sw_i]
      by_cases h2 : (gl a k).id = (gl a j).id
      · rw [if_pos h2, ids_inj h hk hj h2]
      · rw [if_neg h2, if_pos rfl]
    · by_cases h2 : j = k
      · subst h2
        rw [sw_k, if_pos rfl]
      · rw [sw_o h1 h2, if_neg (fun e => h1 (ids_inj h hj hi e)), if_neg (fun e => h2 (ids_inj h hj hk e)), atF_is h hj]
  · have hm : t ∉ ids a := fun hm => ht ((ids_perm hp).symm.subset hm)
    have hne : ∀ j, j < a.length → t ≠ (gl a j).id := fun j hj e => hm (by unfold ids; rw [e]; exact List.mem_map_of_mem (gl_mem hj))
    show (if t = _ then _ else if t = _ then _ else _) = none
    rw [if_neg (hne i hi), if_neg (hne k hk), atF_none.2 hm]
theorem atF_push (h : (ids a).Nodup) (hx : x.id ∉ ids a) : (fun t => if t = x.id then some (a.length : Int) else atF a t) = atF (a ++ [x]) := by
  have hn : (ids (a ++ [x])).Nodup := by
    unfold ids
    rw [List.map_append, List.map_singleton]
    exact List.nodup_append.2 ⟨h, by simp, fun u hu v hv e => hx (by rw [List.mem_singleton.1 hv] at e; exact e ▸ hu)⟩
  refine atF_ext hn _ (fun j hj => ?_) (fun t ht => ?_)
  · rw [List.length_append, List.length_singleton] at hj
    by_cases h1 : j = a.length
    · subst h1
      have : gl (a ++ [x]) a.length = x := gl_some (by simp)
      rw [this, if_pos rfl]
    · have h2 : j < a.length := by omega
      have : gl (a ++ [x]) j = gl a j := gl_some (by rw [List.getElem?_append_left h2, gl_get h2])
      rw [this, if_neg (fun e => hx (by unfold ids; rw [← e]; exact List.mem_map_of_mem (gl_mem h2))), atF_is h h2]
  · have h1 : t ≠ x.id := fun e => ht (by unfold ids; rw [e, List.map_append]; simp)
    have h2 : t ∉ ids a := fun hm => ht (by unfold ids at hm ⊢; rw [List.map_append]; exact List.mem_append_left _ hm)
    show (if t = _ then _ else _) = none
    rw [if_neg h1, atF_none.2 h2]
theorem ids_set (hi : i < a.length) (hx : x.id = (gl a i).id) : ids (a.set i x) = ids a := by
  unfold ids
  rw [List.map_set]
  refine List.ext_getElem? fun j => ?_
  by_cases h : i = j
  · subst h
    rw [List.getElem?_set_self (by rw [List.length_map]; exact hi), hx, List.getElem?_map, gl_get hi]; rfl
  · rw [List.getElem?_set_ne h]
theorem atF_set (h : (ids a).Nodup) (hi : i < a.length) (hx : x.id = (gl a i).id) : (fun t => if t = x.id then some (i : Int) else atF a t) = atF (a.set i x) := by
  have e := ids_set hi hx
  refine atF_ext (by rw [e]; exact h) _ (fun j hj => ?_) (fun t ht => ?_)
  · rw [List.length_set] at hj
    rw [gl_set hi]
    by_cases h1 : j = i
    · rw [if_pos h1, if_pos rfl, h1]
    · rw [if_neg h1, if_neg (fun e2 => h1 (ids_inj h hj hi (e2.trans hx))), atF_is h hj]
  · rw [e] at ht
    show (if t = _ then _ else _) = none
    rw [if_neg (fun e2 => ht (by rw [e2, hx]; unfold ids; exact List.mem_map_of_mem (gl_mem hi))), atF_none.2 ht]
theorem ids_snoc (a : List It) (x : It) : ids (a ++ [x]) = ids a ++ [x.id] := by unfold ids; rw [List.map_append]; rfl
/-- The last one goes away. -/
theorem atF_drop (h : (ids (a ++ [x])).Nodup) : (fun t => if t = x.id then none else atF (a ++ [x]) t) = atF a := by
  have h' := h
  rw [ids_snoc, List.nodup_append] at h'
  obtain ⟨hn, _, hd⟩ := h'
  have hx : x.id ∉ ids a := fun hm => hd _ hm _ (List.mem_singleton.2 rfl) rfl
  refine atF_ext hn _ (fun j hj => ?_) (fun t ht => ?_)
  · have e : gl (a ++ [x]) j = gl a j := gl_some (by rw [List.getElem?_append_left hj, gl_get hj])
    rw [if_neg (fun e => hx (by unfold ids; rw [← e]; exact List.mem_map_of_mem (gl_mem hj))), ← e, atF_is h (by rw [List.length_append]; omega)]
  · show (if t = _ then _ else _) = none
    by_cases h1 : t = x.id
    · rw [if_pos h1]
    · rw [if_neg h1]
      exact atF_none.2 (fun hm => by rw [ids_snoc] at hm; rcases List.mem_append.1 hm with hm | hm; exact ht hm; exact h1 (List.mem_singleton.1 hm))

/-! The sorted list -/
def insI (x : It) (S : List It) : List It := S.filter (fun y => decide (y.key ≤ x.key)) ++ x :: S.filter (fun y => decide (x.key < y.key))
def offI (t : Int) (S : List It) : List It := S.filter (fun y => decide (y.id ≠ t))
/-- The row a is a heap of what S has in order. -/
structure HRep (turn : Int) (a S : List It) : Prop where
  perm : a.Perm S
  sorted : S.Pairwise ltI
  heap : HP (gl a) a.length
  nodup : (ids S).Nodup
  bd : ∀ x ∈ S, 0 ≤ x.id ∧ 0 < x.turn ∧ x.turn ≤ turn
theorem insI_perm (x : It) (S : List It) : (insI x S).Perm (x :: S) := by
  unfold insI
  refine List.perm_middle.trans (List.Perm.cons x ?_)
  have h := List.filter_append_perm (fun y : It => decide (y.key ≤ x.key)) S
  have e : (fun y : It => decide (x.key < y.key)) = (fun y => !decide (y.key ≤ x.key)) := funext fun y => by
    by_cases h : y.key ≤ x.key
    · simp [h]
    · simp [h]; omega
  rw [e]
  exact h
theorem insI_sorted {x : It} {S : List It} (h : S.Pairwise ltI) (hn : ∀ y ∈ S, y.turn < x.turn) : (insI x S).Pairwise ltI := by
  unfold insI
  refine List.pairwise_append.2 ⟨h.filter _, List.pairwise_cons.2 ⟨fun y hy => ?_, h.filter _⟩, fun a ha b hb => ?_⟩
  · have := (List.mem_filter.1 hy).2
    exact .inl (by simpa using this)
  · obtain ⟨ha1, ha2⟩ := List.mem_filter.1 ha
    have ha2 : a.key ≤ x.key := by simpa using ha2
    rcases List.mem_cons.1 hb with rfl | hb
    · have := hn a ha1
      unfold ltI; omega
    · have hb2 : x.key < b.key := by simpa using (List.mem_filter.1 hb).2
      exact .inl (by omega)
theorem HRep.nil (turn : Int) : HRep turn [] [] := ⟨List.Perm.refl _, List.Pairwise.nil, (fun j _ h => by simp at h), List.nodup_nil, (fun _ h => by cases h)⟩
variable {turn t : Int}
theorem HRep.nodupA (h : HRep turn a S) : (ids a).Nodup := nodup_perm h.perm h.nodup
theorem HRep.len (h : HRep turn a S) : a.length = S.length := h.perm.length_eq
theorem HRep.first (h : HRep turn a S) (h0 : 0 < a.length) : ∃ T, S = gl a 0 :: T := by
  rcases S with _ | ⟨y, T⟩
  · have := h.len; rw [List.length_nil] at this; omega
  · refine ⟨T, ?_⟩
    have h1 : gl a 0 ∈ y :: T := h.perm.subset (gl_mem h0)
    rcases List.mem_cons.1 h1 with e | h1
    · rw [e]
    · exfalso
      have h2 := (List.pairwise_cons.1 h.sorted).1 _ h1
      have h3 : y ∈ a := h.perm.symm.subset (List.mem_cons_self ..)
      obtain ⟨j, hj, e⟩ := List.mem_iff_getElem.1 h3
      have := h.heap.min j hj
      rw [← gl_elem hj, e] at this
      exact this h2
theorem HRep.push {a' : List It} (h : HRep turn a S) (hid : 0 ≤ x.id) (hx : x.id ∉ ids S) (ht : x.turn = turn + 1) (h0 : 0 ≤ turn) (hp : a'.Perm (a ++ [x])) (hh : HP (gl a') a'.length) : HRep (turn + 1) a' (insI x S) := by
  have hq := insI_perm x S
  refine ⟨?_, insI_sorted h.sorted (fun y hy => by have := h.bd y hy; omega), hh, ?_, fun y hy => ?_⟩
  · refine hp.trans (List.Perm.trans ?_ hq.symm)
    exact (List.perm_append_singleton x a).trans (h.perm.cons x)
  · refine nodup_perm hq ?_
    unfold ids
    rw [List.map_cons]
    exact List.nodup_cons.2 ⟨hx, h.nodup⟩
  · rcases List.mem_cons.1 (hq.subset hy) with rfl | hy
    · exact ⟨hid, by omega, by omega⟩
    · have := h.bd y hy; omega
theorem ids_off (S : List It) (t : Int) : ids (offI t S) = (ids S).filter (fun u => decide (u ≠ t)) := by
  unfold ids offI
  rw [List.filter_map]; rfl
theorem offI_perm (h : a.Perm b) (t : Int) : (offI t a).Perm (offI t b) := h.filter _
theorem offI_at (h : (ids a).Nodup) (hi : i < a.length) : offI (gl a i).id a = a.eraseIdx i := by
  unfold offI
  have h1 : a = a.take i ++ gl a i :: a.drop (i + 1) := by
    rw [← gl_elem hi, List.getElem_cons_drop, List.take_append_drop]
  have hd : ∀ y ∈ a.take i, y.id ≠ (gl a i).id := fun y hy e => by
    obtain ⟨j, hj, e2⟩ := List.mem_iff_getElem.1 hy
    rw [List.length_take] at hj
    have hji : j < a.length := by omega
    rw [List.getElem_take, gl_elem hji] at e2
    have := ids_inj h hji hi (by rw [e2]; exact e)
    omega
  have hd2 : ∀ y ∈ a.drop (i + 1), y.id ≠ (gl a i).id := fun y hy e => by
    obtain ⟨j, hj, e2⟩ := List.mem_iff_getElem.1 hy
    rw [List.length_drop] at hj
    have hji : i + 1 + j < a.length := by omega
    rw [List.getElem_drop, gl_elem hji] at e2
    have := ids_inj h hji hi (by rw [e2]; exact e)
    omega
  rw [List.eraseIdx_eq_take_drop_succ]
  obtain ⟨u, hu⟩ : ∃ u, u = gl a i := ⟨_, rfl⟩
  rw [← hu] at h1 hd hd2 ⊢
  conv => lhs; rw [h1]
  rw [List.filter_append, List.filter_cons, if_neg (by simp), List.filter_eq_self.2 (fun y hy => by simpa using hd y hy), List.filter_eq_self.2 (fun y hy => by simpa using hd2 y hy)]
theorem HRep.off {a' : List It} (h : HRep turn a S) (hp : a'.Perm (offI t a)) (hh : HP (gl a') a'.length) : HRep turn a' (offI t S) := by
  have hs : (offI t S).Sublist S := List.filter_sublist
  exact ⟨hp.trans (offI_perm h.perm t), h.sorted.sublist hs, hh, (hs.map It.id).nodup h.nodup, fun x hx => h.bd x (hs.subset hx)⟩
theorem HRep.change {a' : List It} (h : HRep turn a S) (hi : i < a.length) (hx : x.id = (gl a i).id) (ht : x.turn = turn + 1) (h0 : 0 ≤ turn) (hp : a'.Perm (a.set i x)) (hh : HP (gl a') a'.length) : HRep (turn + 1) a' (insI x (offI x.id S)) := by
  have hb := h.bd _ (h.perm.subset (gl_mem hi))
  have hoff : HRep turn (offI x.id a) (offI x.id S) ∨ True := .inr trivial
  have hs : (offI x.id S).Sublist S := List.filter_sublist
  have hq := insI_perm x (offI x.id S)
  have hxn : x.id ∉ ids (offI x.id S) := by rw [ids_off]; simp
  refine ⟨?_, insI_sorted (h.sorted.sublist hs) (fun y hy => by have := h.bd y (hs.subset hy); omega), hh, ?_, fun y hy => ?_⟩
  · refine hp.trans (List.Perm.trans ?_ hq.symm)
    have e : (a.set i x).Perm (x :: a.eraseIdx i) := by
      rw [List.set_eq_take_append_cons_drop, if_pos hi, List.eraseIdx_eq_take_drop_succ]
      exact List.perm_middle
    refine e.trans (List.Perm.cons x ?_)
    have h3 : a.eraseIdx i = offI x.id a := by rw [hx, offI_at h.nodupA hi]
    rw [h3]
    exact offI_perm h.perm _
  · refine nodup_perm hq ?_
    unfold ids
    rw [List.map_cons]
    exact List.nodup_cons.2 ⟨hxn, (hs.map It.id).nodup h.nodup⟩
  · rcases List.mem_cons.1 (hq.subset hy) with rfl | hy
    · omega
    · have := h.bd y (hs.subset hy); omega
/-- The one at i goes: it is swapped with the last one, which goes away. -/
theorem HRep.take_swap (h : HRep turn a S) (hi : i < a.length) : ((swL a i (a.length - 1)).take (a.length - 1)).Perm (offI (gl a i).id a) ∧
    (i < a.length - 1 → HB (gl ((swL a i (a.length - 1)).take (a.length - 1))) (a.length - 1) i) ∧ (i = a.length - 1 → HP (gl ((swL a i (a.length - 1)).take (a.length - 1))) (a.length - 1)) ∧
    swL a i (a.length - 1) = (swL a i (a.length - 1)).take (a.length - 1) ++ [gl a i] := by
  have hpos : 0 < a.length := Nat.lt_of_le_of_lt (Nat.zero_le _) hi
  have hl : a.length - 1 < a.length := by omega
  have hg := gl_swL hi hl
  have hlast : gl (swL a i (a.length - 1)) (a.length - 1) = gl a i := by rw [hg, sw_k]
  have hsn : swL a i (a.length - 1) = (swL a i (a.length - 1)).take (a.length - 1) ++ [gl a i] := by
    have h1 : (swL a i (a.length - 1)).length = a.length - 1 + 1 := by rw [swL_length]; omega
    have h2 : (swL a i (a.length - 1)).take (a.length - 1 + 1) = swL a i (a.length - 1) := List.take_of_length_le (by omega)
    rw [List.take_add_one, gl_get (by omega), hlast] at h2
    exact h2.symm
  have hpm : ((swL a i (a.length - 1)).take (a.length - 1)).Perm (offI (gl a i).id a) := by
    have h1 : (swL a i (a.length - 1)).Perm a := swL_perm hi hl
    rw [hsn] at h1
    have h2 : (gl a i :: (swL a i (a.length - 1)).take (a.length - 1)).Perm (gl a i :: a.eraseIdx i) := by
      refine (List.perm_append_singleton _ _).symm.trans (h1.trans ?_)
      have : a = a.take i ++ gl a i :: a.drop (i + 1) := by rw [← gl_elem hi, List.getElem_cons_drop, List.take_append_drop]
      rw [List.eraseIdx_eq_take_drop_succ]
      exact List.Perm.trans (by rw [← this]) List.perm_middle
    rw [offI_at h.nodupA hi]
    exact (List.perm_cons _).1 h2
  have hgt : ∀ j, j < a.length - 1 → gl ((swL a i (a.length - 1)).take (a.length - 1)) j = sw (gl a) i (a.length - 1) j := fun j hj => by
    rw [← hg]
    exact gl_some (by rw [List.getElem?_take_of_lt hj, gl_get (by rw [swL_length]; omega)])
  refine ⟨hpm, fun hil => ?_, fun hil => ?_, hsn⟩
  · refine ((h.heap.less (m := a.length - 1) (by omega)).upd (gl a (a.length - 1)) hil).congr (fun j hj => ?_) hil
    rw [hgt j hj]
    unfold sw upd
    by_cases h1 : j = i
    · rw [if_pos h1, if_pos h1]
    · rw [if_neg h1, if_neg h1, if_neg (by omega)]
  · refine (h.heap.less (m := a.length - 1) (by omega)).congr (fun j hj => ?_)
    rw [hgt j hj, sw_o (by omega) (by omega)]
end
end Go.Proofs.Ytbkjlohlfkokpaa
