/- Joined: Trace17. -/
import Derived.Test.YtmhochjpdedlgaaQ45
import Derived.Test.YtmhochjpdedlgaaQ44
import Derived.Test.YtmhochjpdedlgaaQ46
set_option linter.unusedVariables false
set_option linter.unusedSimpArgs false
/- Package trace: the look's holds (contract). -/
set_option linter.unusedVariables false
set_option linter.unusedSimpArgs false
namespace Go.Proofs.Ytmhochjpdedlgaa
open Go.RowKit Go.Shelf Go.Maps

/-- The look as rule r finds it: the map is there from the fifth on. -/
structure LkR (w : World) (K : Nat) (r : Nat) (T : Tb) (X : Tr) (At : Option Addr) (nt ct : Nat) (Ae : Option Addr) (ne ce : Nat) (cv : Value) (A : Option Addr) (n cp : Nat) (A2 : Option Addr) (m c2 : Nat) : Prop where
  blk : ∃ uv, w.heap[K]? = some (.cells (lkC T.sys (.slice At nt ct) (.slice Ae ne ce) cv (.slice A n cp) (.slice A2 m c2) uv) 83 (0, 0))
  map : 5 ≤ r → ∃ Z, LkW w K Z T X At nt ct Ae ne ce cv A n cp A2 m c2
  tr : IsTr w (.slice A n cp) (.slice A2 m c2) X
  ts : Rowp 4 tskR w (.slice At nt ct) T.sys.tasks
  es : Rowp 2 entR w (.slice Ae ne ce) T.ents
  n6 : n ≤ 1000000
  m6 : m ≤ 1000000
  arr : ∀ y ∈ X.jobs, I64 y.arr
/-- What is known of table and trace behind the second rule. -/
structure Pre (T : Tb) (X : Tr) : Prop where
  sys : RightS T.sys
  len : T.ents.length = T.sys.tasks.length
  bud : ∀ e ∈ T.ents, ∀ p ∈ e.ps, 0 ≤ p.bud
  shp : ∀ l ∈ X.slots, rowOk T.sys.cores.toNat T.sys.tasks.length l
section
variable {w w' : World} {K r : Nat} {T : Tb} {X : Tr} {At : Option Addr} {nt ct : Nat} {Ae : Option Addr} {ne ce : Nat} {cv : Value} {A : Option Addr} {n cp : Nat} {A2 : Option Addr} {m c2 : Nat}
theorem LkR.later (H : LkR w K r T X At nt ct Ae ne ce cv A n cp A2 m c2) (k : Below w.heap.size w w') : LkR w' K r T X At nt ct Ae ne ce cv A n cp A2 m c2 :=
  ⟨let ⟨uv, h⟩ := H.blk; ⟨uv, (fr0 k).blk h (fun h => h)⟩, fun h5 => let ⟨Z, h⟩ := H.map h5; ⟨Z, h.later k⟩, H.tr.later k, H.ts.later tskR.stays k, H.es.later entR.stays k, H.n6, H.m6, H.arr⟩
theorem tabB_pre {T : Tb} (h : tabB T = true) : RightS T.sys ∧ T.ents.length = T.sys.tasks.length ∧ ∀ e ∈ T.ents, ∀ p ∈ e.ps, 0 ≤ p.bud := by
  unfold tabB at h
  simp only [Bool.and_eq_true] at h
  have hp := planB_ok h.1.1
  have hl : T.ents.length = T.sys.tasks.length := by have := hp.len; unfold Tb.plan at this; rwa [List.length_map] at this
  refine ⟨hp.sys, hl, fun e he p hpe => ?_⟩
  obtain ⟨i, hi⟩ := List.mem_iff_getElem?.1 he
  have hi2 := (List.getElem?_eq_some_iff.1 hi).1
  have ht : T.sys.tasks[i]? = some (T.sys.tasks[i]'(by omega)) := List.getElem?_eq_getElem _
  have h1 := ((listOk_pcs hp.sys (hp.sys.tasks _ (List.mem_of_getElem? ht)) (hp.lists _ _ e.ps ht (by unfold Tb.plan; rw [List.getElem?_map, hi]; rfl))).2 p hpe).b0
  omega
theorem Pre.row (P : Pre T X) {t : Nat} {l : List Sl} (hl : X.slots[t]? = some l) : l.length = T.sys.cores.toNat := by
  have h := P.shp l (List.mem_of_getElem? hl)
  rcases Nat.lt_trichotomy l.length T.sys.cores.toNat with h1 | h1 | h1
  · have h2 := h l.length (.inl h1)
    unfold okC at h2
    rw [List.getElem?_eq_none (Nat.le_refl _)] at h2
    simp at h2
  · exact h1
  · have h2 := h T.sys.cores.toNat (.inr h1)
    unfold okC at h2
    rw [decide_eq_false (Nat.lt_irrefl _)] at h2
    simp at h2
theorem Pre.shape (P : Pre T X) {t c : Nat} {l : List Sl} {s : Sl} (hl : X.slots[t]? = some l) (hs : l[c]? = some s) : shapeB T.sys.tasks.length s = true := by
  have h2 := P.shp l (List.mem_of_getElem? hl) c (.inr (List.getElem?_eq_some_iff.1 hs).1)
  unfold okC at h2
  rw [hs] at h2
  simp at h2
  exact h2.2
/-- Every job is right by itself behind the third rule. -/
theorem RuleOk.head (h : RuleOk T X 3) {i : Nat} {j : Jb} (hj : X.jobs[i]? = some j) : jobHead T.sys.tasks.length X.slots.length j = true := by
  have h1 := h 0 i (by unfold ruleN; simp) (by unfold ruleM; simpa using (List.getElem?_eq_some_iff.1 hj).1)
  exact jobB_head (by simpa [ruleB] using h1) hj
theorem RuleOk.act (h : RuleOk T X 4) (P : Pre T X) {t c : Nat} {l : List Sl} {s : Sl} (hl : X.slots[t]? = some l) (hs : l[c]? = some s) (h2 : s.kind = 2) : (activeI X.jobs s.task t).isSome = true := by
  have h1 := h t c (by unfold ruleN; simpa using (List.getElem?_eq_some_iff.1 hl).1) (by unfold ruleM; have := P.row hl; have := (List.getElem?_eq_some_iff.1 hs).1; simp; omega)
  unfold ruleB at h1
  simp only [if_neg (show ¬ (4 = 3) by decide), if_pos] at h1
  rw [hl] at h1
  unfold onceB at h1
  simp only [Option.getD_some, hs, Option.map_some] at h1
  have hw : workerB s = true := by unfold workerB; simp [h2]
  have hT : workerT s = s.task := by unfold workerT; simp [h2]
  rw [hw, hT] at h1
  simp at h1
  exact h1.1
theorem ruleB_3 {t i : Nat} : ruleB T X 3 t i = jobB T.sys X i := rfl
theorem ruleB_4 {t i : Nat} {l : List Sl} (h : X.slots[t]? = some l) : ruleB T X 4 t i = onceB l X.jobs t i := by
  show onceB ((X.slots[t]?).getD []) X.jobs t i = _
  rw [h]
  rfl
theorem ruleB_5 {t i : Nat} : ruleB T X 5 t i = amountB T.sys X i := rfl
theorem ruleB_6 {t i : Nat} : ruleB T X 6 t i = placeB T X t i := rfl
theorem ruleB_7 {t i : Nat} : ruleB T X 7 t i = apartB T.sys X t i := rfl
end
section
variable {w : World}
set_option maxRecDepth 100000 in
set_option maxHeartbeats 6400000 in
theorem holds_any (K r : Nat) (T : Tb) (X : Tr) (At : Option Addr) (nt ct : Nat) (Ae : Option Addr) (ne ce : Nat) (cv : Value) (A : Option Addr) (n cp : Nat) (A2 : Option Addr) (m c2 : Nat) (t i : Nat)
    (H : LkR w K r T X At nt ct Ae ne ce cv A n cp A2 m c2) (P : Pre T X) (h3 : 3 ≤ r) (h7 : r ≤ 7) (ht : t < ruleN X r) (hi : i < ruleM T.sys.cores.toNat X r) (ok : ∀ r', 3 ≤ r' → r' < r → RuleOk T X r') (prev : ∀ c', c' < i → ruleB T X r t c' = true) :
    Calls Try.prog 35 #[.pointer (some ⟨K, 0, none⟩), .int .i64 r, .int .i64 t, .int .i64 i] w fun e w' => e = .returned (.bool (ruleB T X r t i)) ∧ Below w.heap.size w w' := by
  have hn := H.tr.slots.len
  have hm := H.tr.jobs.len
  have hnt := H.ts.len
  obtain ⟨uv, hK⟩ := H.blk
  have hr : r = 3 ∨ r = 4 ∨ r = 5 ∨ r = 6 ∨ r = 7 := by omega
  rcases hr with rfl | rfl | rfl | rfl | rfl
  · have hi' : i < m := by have : i < X.jobs.length := hi; omega
    have HC := hid (job_any (w := w) T.sys K X At nt ct A n cp A2 m c2 i (blk_cell hK 8) (blk_cell hK 11) (blk_cell hK 12) H.tr H.ts P.sys hi' H.n6 H.arr (fun k y hk hy => by
      have h1 := of_decide_eq_true (jobB_head (ruleB_3 (t := t) ▸ prev k hk) hy)
      exact h1.2.2.1))
    clear H P ht hi ok prev hn hm hnt hK
    rw [ruleB_3]
    go_enter Try.func35, Try.ntmps35
    go_wp2_with fail
    refine HC.out.mono ?_
    rintro e w1 ⟨rfl, hb1⟩
    have HB1 := hid hb1
    clear hb1
    go_wp2_with fail
    go_ret
    exact ⟨rfl, HB1.out⟩
  · have htn : t < X.slots.length := ht
    obtain ⟨l, hl⟩ : ∃ l, X.slots[t]? = some l := ⟨_, List.getElem?_eq_getElem htn⟩
    have hil : i < l.length := by have : i < T.sys.cores.toNat := hi; have := P.row hl; omega
    have HC := hid (once_any (w := w) K X A n cp A2 m c2 t i l (blk_cell hK 11) (blk_cell hK 12) H.tr hl hil)
    rw [ruleB_4 hl]
    clear H P ht hi ok prev hn hm hnt hK hl htn hil
    go_enter Try.func35, Try.ntmps35
    go_wp2_with fail
    refine HC.out.mono ?_
    rintro e w1 ⟨rfl, hb1⟩
    have HB1 := hid hb1
    clear hb1
    go_wp2_with fail
    go_ret
    exact ⟨rfl, HB1.out⟩
  · have hi' : i < X.jobs.length := hi
    obtain ⟨j, hj⟩ : ∃ j, X.jobs[i]? = some j := ⟨_, List.getElem?_eq_getElem hi'⟩
    obtain ⟨Z, HZ⟩ := H.map (by omega)
    have HC := hid (amount_any (w := w) K Z T X At nt ct Ae ne ce cv A n cp A2 m c2 i j HZ hj ((ok 3 (by omega) (by omega)).head hj))
    rw [ruleB_5]
    clear H P ht hi ok prev hn hm hnt hK hj HZ hi'
    go_enter Try.func35, Try.ntmps35
    go_wp2_with fail
    refine HC.out.mono ?_
    rintro e w1 ⟨rfl, hb1⟩
    have HB1 := hid hb1
    clear hb1
    go_wp2_with fail
    go_ret
    exact ⟨rfl, HB1.out⟩
  · have htn : t < X.slots.length := ht
    obtain ⟨l, hl⟩ : ∃ l, X.slots[t]? = some l := ⟨_, List.getElem?_eq_getElem htn⟩
    have hil : i < l.length := by have : i < T.sys.cores.toNat := hi; have := P.row hl; omega
    obtain ⟨s, hs⟩ : ∃ s, l[i]? = some s := ⟨_, List.getElem?_eq_getElem hil⟩
    obtain ⟨Z, HZ⟩ := H.map (by omega)
    have hlen : ne = nt := by have := H.es.len; have := P.len; omega
    have HC := hid (place_any (w := w) K Z T X At nt ct Ae ne ce cv A n cp A2 m c2 t i l s HZ hl hs (by rw [hnt]; exact P.shape hl hs) hlen (fun h2 => (ok 4 (by omega) (by omega)).act P hl hs h2) P.bud)
    rw [ruleB_6]
    clear H P ht hi ok prev hn hm hnt hK hl hs HZ htn hil hlen
    go_enter Try.func35, Try.ntmps35
    go_wp2_with fail
    refine HC.out.mono ?_
    rintro e w1 ⟨rfl, hb1⟩
    have HB1 := hid hb1
    clear hb1
    go_wp2_with fail
    go_ret
    exact ⟨rfl, HB1.out⟩
  · have htn : t < n := by have : t < X.slots.length := ht; omega
    have hi' : i < m := by have : i < X.jobs.length := hi; omega
    obtain ⟨Z, HZ⟩ := H.map (by omega)
    have HC := hid (apart_any (w := w) K Z T X At nt ct Ae ne ce cv A n cp A2 m c2 i t HZ hi' (fun k j hj => (ok 3 (by omega) (by omega)).head hj) htn P.sys)
    rw [ruleB_7]
    clear H P ht hi ok prev hn hm hnt hK HZ htn hi'
    go_enter Try.func35, Try.ntmps35
    go_wp2_with fail
    refine HC.out.mono ?_
    rintro e w1 ⟨rfl, hb1⟩
    have HB1 := hid hb1
    clear hb1
    go_wp2_with fail
    go_ret
    exact ⟨rfl, HB1.out⟩
end
end Go.Proofs.Ytmhochjpdedlgaa
