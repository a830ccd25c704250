/- Joined: Ex22. -/
import Derived.Test.YtmhochjpdedlgaaQ48
set_option linter.unusedVariables false
set_option linter.unusedSimpArgs false
/- Package tourbillonlaw22: the example's table (only: contract); what a literal slice holds; a trace that breaks no rule, by computing. -/
set_option linter.unusedVariables false
set_option linter.unusedSimpArgs false
namespace Go.Proofs.Ytmhochjpdedlgaa
open Go.RowKit Go.Shelf Go.Maps

/-- A slice over a whole block. -/
theorem Rowp.built {α : Type} {sz : Nat} {R : Reads α} {w : World} {b : Nat} {cs : Array Value} {t : TypeId} {f : Nat × Nat} (enc : α → List Value) (l : List α) (n : Nat) (hb : w.heap[b]? = some (.cells cs t f)) (hn : n = l.length) (hcs : cs.toList = flat enc l) (hs : ∀ x, (enc x).length = sz) (hsz : 0 < sz) (hm : l.length ≤ 1000000) (hR : ∀ x ∈ l, R w (enc x) x) :
    Rowp sz R w (.slice (some ⟨b, 0, none⟩) n n) l := by
  subst hn
  refine ⟨_, _, rfl, Nat.le_refl _, by unfold maxLen; omega, fun i x hx => ⟨b, 0, enc x, rfl, blk_lt hb, hs x, fun j c hj => ?_, hR x (List.mem_of_getElem? hx)⟩⟩
  have hj2 : j < sz := by rw [← hs x]; exact (List.getElem?_eq_some_iff.1 hj).1
  rw [Nat.zero_add, blk_cell hb]
  have h1 := flat_get hs l i j x hx hj2
  rw [← hcs] at h1
  rw [← Array.getElem?_toList, h1, hj]
def rowOkB (nc nt : Nat) (l : List Sl) : Bool := (List.range (max nc l.length)).all fun c => okC nc nt l c
theorem rowOkB_ok {nc nt : Nat} {l : List Sl} (h : rowOkB nc nt l = true) : rowOk nc nt l := fun c hc => by
  unfold rowOkB at h
  rw [List.all_eq_true] at h
  exact h c (by simp; omega)
def rulesB (T : Tb) (X : Tr) (r : Nat) : Bool := (List.range (ruleN X r)).all fun t => (List.range (ruleM T.sys.cores.toNat X r)).all fun c => ruleB T X r t c
theorem rulesB_ok {T : Tb} {X : Tr} {r : Nat} (h : rulesB T X r = true) : RuleOk T X r := fun t c ht hc => by
  unfold rulesB at h
  rw [List.all_eq_true] at h
  have h1 := h t (by simpa using ht)
  rw [List.all_eq_true] at h1
  exact h1 c (by simpa using hc)
def noneB (T : Tb) (X : Tr) : Bool := tabB T && X.slots.all (rowOkB T.sys.cores.toNat T.sys.tasks.length) && (rulesB T X 3 && rulesB T X 4 && rulesB T X 5 && rulesB T X 6 && rulesB T X 7)
theorem noneB_ok {T : Tb} {X : Tr} (h : noneB T X = true) : Fnd T X 0 (-1) (-1) := by
  unfold noneB at h
  simp only [Bool.and_eq_true, List.all_eq_true] at h
  obtain ⟨⟨h1, h2⟩, ⟨⟨⟨h3, h4⟩, h5⟩, h6⟩, h7⟩ := h
  refine .none h1 (.inl ⟨rfl, rfl, rfl, fun l hl => rowOkB_ok (h2 l hl)⟩) (fun r' k3 k7 => ?_)
  have : r' = 3 ∨ r' = 4 ∨ r' = 5 ∨ r' = 6 ∨ r' = 7 := by omega
  rcases this with rfl | rfl | rfl | rfl | rfl
  · exact rulesB_ok h3
  · exact rulesB_ok h4
  · exact rulesB_ok h5
  · exact rulesB_ok h6
  · exact rulesB_ok h7
def exS : Sy := ⟨1, 1, 1, 1, 2, 1, 1, 0, [⟨20, 20, 2, []⟩]⟩
def exP : Pl := [[⟨0, 2, 20, 0, false⟩]]
def exT : Tb := ⟨exS, [⟨[⟨0, 2, 20, 1, false⟩], 20⟩], [[]]⟩
theorem ex_make : makeB exS exP [20] = true := by decide
theorem ex_tab : mkT exS exP [20] = exT := rfl
def exX : Tr := ⟨[[⟨1, 0, 0⟩], [⟨1, 0, 0⟩], [⟨1, 0, 0⟩], [⟨2, 0, 0⟩], [⟨2, 0, 0⟩], [⟨1, 0, 0⟩]], [⟨0, 0, 5, true, false⟩]⟩
def exX2 : Tr := ⟨[[⟨1, 0, 0⟩], [⟨1, 0, 0⟩], [⟨1, 0, 0⟩, ⟨2, 0, 0⟩], [⟨2, 0, 0⟩], [⟨2, 0, 0⟩], [⟨1, 0, 0⟩]], [⟨0, 0, 5, true, false⟩]⟩
theorem ex_tabB : tabB exT = true := by decide
theorem ex_fnd : Fnd exT exX 0 (-1) (-1) := noneB_ok (by decide)
theorem ex_fnd2 : Fnd exT exX2 2 2 1 := by
  refine .shape ex_tabB (.inr ⟨rfl, 2, 1, _, rfl, rfl, rfl, by decide, by decide, ?_, ?_⟩)
  · intro c' h
    obtain rfl : c' = 0 := by omega
    decide
  · intro t' l' h h2
    have : t' = 0 ∨ t' = 1 := by omega
    rcases this with rfl | rfl
    · injection h2 with h2
      subst h2
      exact rowOkB_ok (by decide)
    · injection h2 with h2
      subst h2
      exact rowOkB_ok (by decide)
theorem ex_work : workL exX 0 = [3, 4] := by decide
/-- A row that does not lie in a block which is written. -/
theorem Rowp.off {α : Type} {sz : Nat} {R : Reads α} {w w' : World} {A : Option Addr} {n cap B : Nat} {l : List α} (h : Rowp sz R w (.slice A n cap) l) (f : Fr (One B) w w')
    (hne : ∀ x ∈ l, ∀ b o oo cs, A = some ⟨b, oo, none⟩ → (∀ (j : Nat) c, cs[j]? = some c → w.cell? ⟨b, o + j, none⟩ = some c) → R w cs x → b ≠ B) (hR : ∀ cs, ∀ x ∈ l, R w cs x → R w' cs x) : Rowp sz R w' (.slice A n cap) l := by
  have hn := h.len
  subst hn
  refine ⟨A, cap, rfl, h.room.1, h.room.2, fun i x hx => ?_⟩
  obtain ⟨b, o, cs, hA, hb, hl, hc, hr⟩ := h.at hx
  have h1 := hne x (List.mem_of_getElem? hx) b (o + i * sz) o cs hA hc hr
  exact ⟨b, o, cs, hA, Nat.lt_of_lt_of_le hb f.size, hl, fun j c hj => f.cell (p := ⟨b, o + i * sz + j, none⟩) (hc j c hj) h1, hR cs x (List.mem_of_getElem? hx) hr⟩
def zeroC : Array Value := #[.int .i64 0, .int .i64 0, .int .i64 0, .int .i64 0, .int .i64 0, .int .i64 0, .int .i64 0, .int .i64 0, .slice none 0 0, .slice none 0 0, .slice none 0 0]
theorem zeroC_no {k : Nat} {n : Int} (h : zeroC[k]? = some (.int .i64 n)) : n = 0 := by
  have h1 := Array.mem_of_getElem? h
  simp [zeroC] at h1
  exact h1
theorem ex_off {w w' : World} {B : Nat} {A0 : Option Addr} {n0 c0 : Nat} {A1 : Option Addr} {n1 c1 : Nat} {A3 : Option Addr} {n3 c3 : Nat} {t : TypeId} (h : IsTab w (.slice A0 n0 c0) (.slice A1 n1 c1) (.slice A3 n3 c3) exT) (f : Fr (One B) w w') (hB : w.heap[B]? = some (.cells zeroC t (0, 0))) (h3 : ∀ a, A3 = some a → a.block ≠ B) : IsTab w' (.slice A0 n0 c0) (.slice A1 n1 c1) (.slice A3 n3 c3) exT := by
  refine ⟨⟨h.sys.tasks.off f (fun x hx b o oo cs _ hc hr e => ?_) (fun cs x hx hr => ?_), h.sys.wf⟩, h.ents.off f (fun x hx b o oo cs _ hc hr e => ?_) (fun cs x hx hr => ?_), h.wf, h.bwf, h.ceil.off f (fun x hx b o oo cs hA hc hr e => ?_) (fun cs x hx hr => ?_)⟩
  · obtain ⟨u, rfl, _⟩ := hr
    subst e
    simp [exT, exS] at hx
    subst hx
    have h1 := (blk_cell hB (o + 0)).symm.trans (hc 0 _ rfl)
    have := zeroC_no h1
    simp at this
  · obtain ⟨u, rfl, hu⟩ := hr
    simp [exT, exS] at hx
    subst hx
    obtain ⟨A, c, rfl, _⟩ := hu.shape
    exact ⟨_, rfl, hu.off f (fun x hx => by cases hx) (fun cs x hx => by cases hx)⟩
  · obtain ⟨u, rfl, _⟩ := hr
    subst e
    simp [exT] at hx
    subst hx
    have h1 := (blk_cell hB (o + 1)).symm.trans (hc 1 _ rfl)
    have := zeroC_no h1
    simp at this
  · obtain ⟨u, rfl, hu⟩ := hr
    simp [exT] at hx
    subst hx
    obtain ⟨A, c, rfl, _⟩ := hu.shape
    refine ⟨_, rfl, hu.off f (fun x hx b o oo cs _ hc hr e => ?_) (fun cs x hx hr => hr)⟩
    simp at hx
    subst hx
    have hr' : cs = [.int .i64 0, .int .i64 2, .int .i64 20, .int .i64 1, .bool false] := hr
    subst hr'
    subst e
    have h1 := (blk_cell hB (o + 1)).symm.trans (hc 1 _ rfl)
    have := zeroC_no h1
    simp at this
  · exact h3 _ hA e
  · obtain ⟨u, rfl, hu⟩ := hr
    simp [exT] at hx
    subst hx
    obtain ⟨A, c, rfl, _⟩ := hu.shape
    exact ⟨_, rfl, hu.off f (fun x hx => by cases hx) (fun cs x hx => by cases hx)⟩
section
variable {w : World}
set_option maxRecDepth 100000 in
set_option maxHeartbeats 3200000 in
theorem only_any : Calls Try.prog 32 #[] w fun e w' => ∃ A0 n0 c0 A1 n1 c1 A3 n3 c3, e = .returned (tabV exS (.slice A0 n0 c0) (.slice A1 n1 c1) (.slice A3 n3 c3)) ∧ IsTab w' (.slice A0 n0 c0) (.slice A1 n1 c1) (.slice A3 n3 c3) exT ∧ Below w.heap.size w w' := by
  have hz : ∀ (w : World) o, (w.alloc o).heap.size = w.heap.size + 1 := fun w o => by simp
  have q0 := blk_old (blk_old (blk_new w (.cells #[.int .i64 0, .int .i64 0, .int .i64 0, .int .i64 0, .int .i64 0, .int .i64 0, .int .i64 0, .int .i64 0, .slice none 0 0, .slice none 0 0, .slice none 0 0] 28)) (.cells #[.int .i64 20, .int .i64 20, .int .i64 2, .slice none 0 0] 55)) (.cells #[.int .i64 1, .int .i64 1, .int .i64 1, .int .i64 1, .int .i64 2, .int .i64 1, .int .i64 1, .int .i64 0, .slice (some ⟨w.heap.size + 1, 0, none⟩) 1 1] 24)
  have q1 := blk_old (blk_new (w.alloc (.cells #[.int .i64 0, .int .i64 0, .int .i64 0, .int .i64 0, .int .i64 0, .int .i64 0, .int .i64 0, .int .i64 0, .slice none 0 0, .slice none 0 0, .slice none 0 0] 28)) (.cells #[.int .i64 20, .int .i64 20, .int .i64 2, .slice none 0 0] 55)) (.cells #[.int .i64 1, .int .i64 1, .int .i64 1, .int .i64 1, .int .i64 2, .int .i64 1, .int .i64 1, .int .i64 0, .slice (some ⟨w.heap.size + 1, 0, none⟩) 1 1] 24)
  have q2 := blk_new ((w.alloc (.cells #[.int .i64 0, .int .i64 0, .int .i64 0, .int .i64 0, .int .i64 0, .int .i64 0, .int .i64 0, .int .i64 0, .slice none 0 0, .slice none 0 0, .slice none 0 0] 28)).alloc (.cells #[.int .i64 20, .int .i64 20, .int .i64 2, .slice none 0 0] 55)) (.cells #[.int .i64 1, .int .i64 1, .int .i64 1, .int .i64 1, .int .i64 2, .int .i64 1, .int .i64 1, .int .i64 0, .slice (some ⟨w.heap.size + 1, 0, none⟩) 1 1] 24)
  have hbe := below_new (below_new (below_new (Below.refl w.heap.size w) (.cells #[.int .i64 0, .int .i64 0, .int .i64 0, .int .i64 0, .int .i64 0, .int .i64 0, .int .i64 0, .int .i64 0, .slice none 0 0, .slice none 0 0, .slice none 0 0] 28)) (.cells #[.int .i64 20, .int .i64 20, .int .i64 2, .slice none 0 0] 55)) (.cells #[.int .i64 1, .int .i64 1, .int .i64 1, .int .i64 1, .int .i64 2, .int .i64 1, .int .i64 1, .int .i64 0, .slice (some ⟨w.heap.size + 1, 0, none⟩) 1 1] 24)
  simp only [hz] at q1 q2
  clear hz
  go_enter Try.func32, Try.ntmps32
  go_upto_region 2 with fail
  generalize ((w.alloc (.cells #[.int .i64 0, .int .i64 0, .int .i64 0, .int .i64 0, .int .i64 0, .int .i64 0, .int .i64 0, .int .i64 0, .slice none 0 0, .slice none 0 0, .slice none 0 0] 28)).alloc (.cells #[.int .i64 20, .int .i64 20, .int .i64 2, .slice none 0 0] 55)).alloc (.cells #[.int .i64 1, .int .i64 1, .int .i64 1, .int .i64 1, .int .i64 2, .int .i64 1, .int .i64 1, .int .i64 0, .slice (some ⟨w.heap.size + 1, 0, none⟩) 1 1] 24) = w2 at *
  have s0 : w2.cell? ⟨w.heap.size + 1 + 1, 0, none⟩ = some (.int .i64 1) := blk_cell q2 0
  have s1 : w2.cell? ⟨w.heap.size + 1 + 1, 1, none⟩ = some (.int .i64 1) := blk_cell q2 1
  have s2 : w2.cell? ⟨w.heap.size + 1 + 1, 2, none⟩ = some (.int .i64 1) := blk_cell q2 2
  have s3 : w2.cell? ⟨w.heap.size + 1 + 1, 3, none⟩ = some (.int .i64 1) := blk_cell q2 3
  have s4 : w2.cell? ⟨w.heap.size + 1 + 1, 4, none⟩ = some (.int .i64 2) := blk_cell q2 4
  have s5 : w2.cell? ⟨w.heap.size + 1 + 1, 5, none⟩ = some (.int .i64 1) := blk_cell q2 5
  have s6 : w2.cell? ⟨w.heap.size + 1 + 1, 6, none⟩ = some (.int .i64 1) := blk_cell q2 6
  have s7 : w2.cell? ⟨w.heap.size + 1 + 1, 7, none⟩ = some (.int .i64 0) := blk_cell q2 7
  have s8 : w2.cell? ⟨w.heap.size + 1 + 1, 8, none⟩ = some (.slice (some ⟨w.heap.size + 1, 0, none⟩) 1 1) := blk_cell q2 8
  have hz : ∀ (w : World) o, (w.alloc o).heap.size = w.heap.size + 1 := fun w o => by simp
  have p0 := blk_old (blk_old (blk_new w2 (.cells #[.int .i64 0, .int .i64 2, .int .i64 20, .int .i64 0, .bool false] 62)) (.cells #[.slice (some ⟨w2.heap.size, 0, none⟩) 1 1] 52)) (.cells #[.int .i64 20] 3)
  have p1 := blk_old (blk_new (w2.alloc (.cells #[.int .i64 0, .int .i64 2, .int .i64 20, .int .i64 0, .bool false] 62)) (.cells #[.slice (some ⟨w2.heap.size, 0, none⟩) 1 1] 52)) (.cells #[.int .i64 20] 3)
  have p2 := blk_new ((w2.alloc (.cells #[.int .i64 0, .int .i64 2, .int .i64 20, .int .i64 0, .bool false] 62)).alloc (.cells #[.slice (some ⟨w2.heap.size, 0, none⟩) 1 1] 52)) (.cells #[.int .i64 20] 3)
  have pbe := below_new (below_new (below_new (Below.refl w2.heap.size w2) (.cells #[.int .i64 0, .int .i64 2, .int .i64 20, .int .i64 0, .bool false] 62)) (.cells #[.slice (some ⟨w2.heap.size, 0, none⟩) 1 1] 52)) (.cells #[.int .i64 20] 3)
  simp only [hz] at p1 p2
  obtain ⟨w5, hw5⟩ : ∃ w5, w5 = ((w2.alloc (.cells #[.int .i64 0, .int .i64 2, .int .i64 20, .int .i64 0, .bool false] 62)).alloc (.cells #[.slice (some ⟨w2.heap.size, 0, none⟩) 1 1] 52)).alloc (.cells #[.int .i64 20] 3) := ⟨_, rfl⟩
  rw [← hw5] at p0 p1 p2 pbe
  have HW5 := hid hw5
  have q15 := (fr0 pbe).blk q1 (fun h => h)
  have hsys : IsSys w5 (.slice (some ⟨w.heap.size + 1, 0, none⟩) 1 1) exS := ⟨Rowp.built (fun t : Tsk => [.int .i64 t.per, .int .i64 t.dl, .int .i64 t.wc, .slice none 0 0]) _ 1 q15 rfl rfl (fun x => rfl) (by decide) (by decide) (fun x hx => by
      simp [exS] at hx
      subst hx
      exact ⟨_, rfl, Rowp.nil _ _ _⟩), ⟨by unfold I64; decide, by unfold I64; decide, by unfold I64; decide, by unfold I64; decide, by unfold I64; decide, by unfold I64; decide, by unfold I64; decide, by unfold I64; decide, fun t ht => by
      simp [exS] at ht
      subst ht
      exact ⟨by unfold I64; decide, by unfold I64; decide, by unfold I64; decide, fun x hx => by cases hx⟩⟩⟩
  have hrow : Rowp 5 pcR w5 (.slice (some ⟨w2.heap.size, 0, none⟩) 1 1) [⟨0, 2, 20, 0, false⟩] := Rowp.built (fun p : Pc => [.int .i64 p.core, .int .i64 p.bud, .int .i64 p.dl, .int .i64 p.prio, .bool p.tight]) _ 1 p0 rfl rfl (fun x => rfl) (by decide) (by decide) (fun x hx => rfl)
  have hpl : IsPlan w5 (.slice (some ⟨w2.heap.size + 1, 0, none⟩) 1 1) exP := ⟨Rowp.built (fun _ : List Pc => [.slice (some ⟨w2.heap.size, 0, none⟩) 1 1]) _ 1 p1 rfl rfl (fun x => rfl) (by decide) (by decide) (fun x hx => by
      simp [exP] at hx
      subst hx
      exact ⟨_, rfl, hrow⟩), fun l hl p hp => by
      simp [exP] at hl
      subst hl
      simp at hp
      subst hp
      exact ⟨by unfold I64; decide, by unfold I64; decide, by unfold I64; decide, by unfold I64; decide⟩⟩
  have hbd : Rowp 1 IntR w5 (.slice (some ⟨w2.heap.size + 1 + 1, 0, none⟩) 1 1) [20] := Rowp.built (fun x : Int => [.int .i64 x]) _ 1 p2 rfl rfl (fun x => rfl) (by decide) (by decide) (fun x hx => rfl)
  have HMK := hid (rmake_any exS (some ⟨w.heap.size + 1, 0, none⟩) 1 1 (some ⟨w2.heap.size + 1, 0, none⟩) 1 1 exP (some ⟨w2.heap.size + 1 + 1, 0, none⟩) 1 1 [20] hsys hpl hbd (fun b hb => by
    simp at hb
    subst hb
    exact (show I64 20 from by unfold I64; decide)))
  unfold sysV at HMK
  have HB5 := hid (below_then hbe pbe)
  have HQ5 := hid ((fr0 pbe).blk q0 (fun h => h))
  clear hz p0 p1 p2 pbe hw5 q15 hsys hrow hpl hbd q0 q1 q2 hbe
  go_wp2_with fail
  rw [← HW5.out]
  refine HMK.out.mono ?_
  rintro e w6 (⟨hno, _, _⟩ | ⟨_, A1, n1, c1, A3, n3, c3, rfl, htab, hb6, hA3⟩)
  · rw [ex_make] at hno
    cases hno
  rw [ex_tab] at htab
  have HTAB := hid htab
  have HA3 := hid (show ∀ a, A3 = some a → a.block ≠ w.heap.size from fun a ha e => by have h1 := hA3 a ha; have h2 := blk_lt HQ5.out; omega)
  clear hA3
  have HB6 := hid (below_then HB5.out hb6)
  have HQ6 := hid ((fr0 hb6).blk HQ5.out (fun h => h))
  clear htab hb6 s0 s1 s2 s3 s4 s5 s6 s7 s8
  unfold tabV tabC exS
  simp only
  go_upto_region 3 with fail
  have HB7 := hid (below_new HB6.out (.cells #[.int .i64 1, .int .i64 1, .int .i64 1, .int .i64 1, .int .i64 2, .int .i64 1, .int .i64 1, .int .i64 0, .slice (some ⟨w.heap.size + 1, 0, none⟩) 1 1, .slice A1 n1 c1, .slice A3 n3 c3] 28))
  have HQ7 := hid (blk_old HQ6.out (.cells #[.int .i64 1, .int .i64 1, .int .i64 1, .int .i64 1, .int .i64 2, .int .i64 1, .int .i64 1, .int .i64 0, .slice (some ⟨w.heap.size + 1, 0, none⟩) 1 1, .slice A1 n1 c1, .slice A3 n3 c3] 28))
  have hn7 := blk_new w6 (.cells #[.int .i64 1, .int .i64 1, .int .i64 1, .int .i64 1, .int .i64 2, .int .i64 1, .int .i64 1, .int .i64 0, .slice (some ⟨w.heap.size + 1, 0, none⟩) 1 1, .slice A1 n1 c1, .slice A3 n3 c3] 28)
  have HT7 := hid (HTAB.out.later (below_new (Below.refl w6.heap.size w6) (.cells #[.int .i64 1, .int .i64 1, .int .i64 1, .int .i64 1, .int .i64 2, .int .i64 1, .int .i64 1, .int .i64 0, .slice (some ⟨w.heap.size + 1, 0, none⟩) 1 1, .slice A1 n1 c1, .slice A3 n3 c3] 28)))
  generalize w6.alloc (.cells #[.int .i64 1, .int .i64 1, .int .i64 1, .int .i64 1, .int .i64 2, .int .i64 1, .int .i64 1, .int .i64 0, .slice (some ⟨w.heap.size + 1, 0, none⟩) 1 1, .slice A1 n1 c1, .slice A3 n3 c3] 28) = w7 at *
  have r0 : w7.cell? ⟨w6.heap.size, 0, none⟩ = some (.int .i64 1) := blk_cell hn7 0
  have r1 : w7.cell? ⟨w6.heap.size, 1, none⟩ = some (.int .i64 1) := blk_cell hn7 1
  have r2 : w7.cell? ⟨w6.heap.size, 2, none⟩ = some (.int .i64 1) := blk_cell hn7 2
  have r3 : w7.cell? ⟨w6.heap.size, 3, none⟩ = some (.int .i64 1) := blk_cell hn7 3
  have r4 : w7.cell? ⟨w6.heap.size, 4, none⟩ = some (.int .i64 2) := blk_cell hn7 4
  have r5 : w7.cell? ⟨w6.heap.size, 5, none⟩ = some (.int .i64 1) := blk_cell hn7 5
  have r6 : w7.cell? ⟨w6.heap.size, 6, none⟩ = some (.int .i64 1) := blk_cell hn7 6
  have r7 : w7.cell? ⟨w6.heap.size, 7, none⟩ = some (.int .i64 0) := blk_cell hn7 7
  have r8 : w7.cell? ⟨w6.heap.size, 8, none⟩ = some (.slice (some ⟨w.heap.size + 1, 0, none⟩) 1 1) := blk_cell hn7 8
  have r9 : w7.cell? ⟨w6.heap.size, 9, none⟩ = some (.slice A1 n1 c1) := blk_cell hn7 9
  have r10 : w7.cell? ⟨w6.heap.size, 10, none⟩ = some (.slice A3 n3 c3) := blk_cell hn7 10
  have z0 : w7.cell? ⟨w.heap.size, 0, none⟩ = some (.int .i64 0) := blk_cell HQ7.out 0
  have z1 : w7.cell? ⟨w.heap.size, 1, none⟩ = some (.int .i64 0) := blk_cell HQ7.out 1
  have z2 : w7.cell? ⟨w.heap.size, 2, none⟩ = some (.int .i64 0) := blk_cell HQ7.out 2
  have z3 : w7.cell? ⟨w.heap.size, 3, none⟩ = some (.int .i64 0) := blk_cell HQ7.out 3
  have z4 : w7.cell? ⟨w.heap.size, 4, none⟩ = some (.int .i64 0) := blk_cell HQ7.out 4
  have z5 : w7.cell? ⟨w.heap.size, 5, none⟩ = some (.int .i64 0) := blk_cell HQ7.out 5
  have z6 : w7.cell? ⟨w.heap.size, 6, none⟩ = some (.int .i64 0) := blk_cell HQ7.out 6
  have z7 : w7.cell? ⟨w.heap.size, 7, none⟩ = some (.int .i64 0) := blk_cell HQ7.out 7
  have z8 : w7.cell? ⟨w.heap.size, 8, none⟩ = some (.slice none 0 0) := blk_cell HQ7.out 8
  have z9 : w7.cell? ⟨w.heap.size, 9, none⟩ = some (.slice none 0 0) := blk_cell HQ7.out 9
  have z10 : w7.cell? ⟨w.heap.size, 10, none⟩ = some (.slice none 0 0) := blk_cell HQ7.out 10
  have zf : ∀ k, w7.frozen? ⟨w.heap.size, k, none⟩ = false := fun k => blk_free HQ7.out k
  obtain ⟨wz, hwz⟩ : ∃ wz, wz = st11 w7 w.heap.size (.int .i64 1) (.int .i64 1) (.int .i64 1) (.int .i64 1) (.int .i64 2) (.int .i64 1) (.int .i64 1) (.int .i64 0) (.slice (some ⟨w.heap.size + 1, 0, none⟩) 1 1) (.slice A1 n1 c1) (.slice A3 n3 c3) := ⟨_, rfl⟩
  have hqz := blk_st11 (v0 := .int .i64 1) (v1 := .int .i64 1) (v2 := .int .i64 1) (v3 := .int .i64 1) (v4 := .int .i64 2) (v5 := .int .i64 1) (v6 := .int .i64 1) (v7 := .int .i64 0) (v8 := .slice (some ⟨w.heap.size + 1, 0, none⟩) 1 1) (v9 := .slice A1 n1 c1) (v10 := .slice A3 n3 c3) HQ7.out
  have hfz := fr_st11 (Fr.refl (One w.heap.size) w7) (.int .i64 1) (.int .i64 1) (.int .i64 1) (.int .i64 1) (.int .i64 2) (.int .i64 1) (.int .i64 1) (.int .i64 0) (.slice (some ⟨w.heap.size + 1, 0, none⟩) 1 1) (.slice A1 n1 c1) (.slice A3 n3 c3)
  rw [← hwz] at hqz hfz
  have HBZ := hid (show Below w.heap.size w wz from ((Fr.of_below (S := NoB) HB7.out).trans hfz (fun x hx => .inr (by rw [show x = w.heap.size from hx]; exact Nat.le_refl _))).no)
  have HTZ := hid (show IsTab wz (.slice (some ⟨w.heap.size + 1, 0, none⟩) 1 1) (.slice A1 n1 c1) (.slice A3 n3 c3) exT from ex_off HT7.out hfz HQ7.out HA3.out)
  unfold st11 at hwz
  have HWZ := hid hwz
  have HQZ := hid hqz
  clear hwz hqz hfz hn7
  go_wp2_with fail
  rw [← HWZ.out]
  clear r0 r1 r2 r3 r4 r5 r6 r7 r8 r9 r10 z0 z1 z2 z3 z4 z5 z6 z7 z8 z9 z10 zf
  have y0 : wz.cell? ⟨w.heap.size, 0, none⟩ = some (.int .i64 1) := blk_cell HQZ.out 0
  have y1 : wz.cell? ⟨w.heap.size, 1, none⟩ = some (.int .i64 1) := blk_cell HQZ.out 1
  have y2 : wz.cell? ⟨w.heap.size, 2, none⟩ = some (.int .i64 1) := blk_cell HQZ.out 2
  have y3 : wz.cell? ⟨w.heap.size, 3, none⟩ = some (.int .i64 1) := blk_cell HQZ.out 3
  have y4 : wz.cell? ⟨w.heap.size, 4, none⟩ = some (.int .i64 2) := blk_cell HQZ.out 4
  have y5 : wz.cell? ⟨w.heap.size, 5, none⟩ = some (.int .i64 1) := blk_cell HQZ.out 5
  have y6 : wz.cell? ⟨w.heap.size, 6, none⟩ = some (.int .i64 1) := blk_cell HQZ.out 6
  have y7 : wz.cell? ⟨w.heap.size, 7, none⟩ = some (.int .i64 0) := blk_cell HQZ.out 7
  have y8 : wz.cell? ⟨w.heap.size, 8, none⟩ = some (.slice (some ⟨w.heap.size + 1, 0, none⟩) 1 1) := blk_cell HQZ.out 8
  have y9 : wz.cell? ⟨w.heap.size, 9, none⟩ = some (.slice A1 n1 c1) := blk_cell HQZ.out 9
  have y10 : wz.cell? ⟨w.heap.size, 10, none⟩ = some (.slice A3 n3 c3) := blk_cell HQZ.out 10
  exact bodyPost_ret (v := .agg #[.int .i64 1, .int .i64 1, .int .i64 1, .int .i64 1, .int .i64 2, .int .i64 1, .int .i64 1, .int .i64 0, .slice (some ⟨w.heap.size + 1, 0, none⟩) 1 1, .slice A1 n1 c1, .slice A3 n3 c3]) (by simp [results, Try.results32, go_sem, y0, y1, y2, y3, y4, y5, y6, y7, y8, y9, y10]) rfl ⟨_, _, _, _, _, _, _, _, _, rfl, HTZ.out, HBZ.out⟩
end
end Go.Proofs.Ytmhochjpdedlgaa
