/- Joined: Ex17. -/
import Derived.Test.YtppildaahmlfmaaQ51
set_option linter.unusedVariables false
set_option linter.unusedSimpArgs false
/- Package tourbillonlaw17: the chapter's examples (contract). -/
set_option linter.unusedVariables false
set_option linter.unusedSimpArgs false
namespace Go.Proofs.Ytppildaahmlfmaa
open Go.RowKit

/-- A slice over a whole block. -/
theorem Rowp.built' {α : Type} {sz : Nat} {R : Reads α} {w : World} {b : Nat} {cs : Array Value} {t : TypeId} {f : Nat × Nat} (enc : α → List Value) (l : List α) (n : Nat) (hb : w.heap[b]? = some (.cells cs t f)) (hn : n = l.length) (hcs : cs.toList = flat enc l) (hs : ∀ x, (enc x).length = sz) (hl : n ≤ maxLen) (hR : ∀ x ∈ l, R w (enc x) x) :
    Rowp sz R w (.slice (some ⟨b, 0, none⟩) n n) l := by
  subst hn
  refine ⟨_, _, rfl, Nat.le_refl _, hl, fun i x hx => ⟨b, 0, enc x, rfl, blk_lt hb, hs x, fun j c hj => ?_, hR x (List.mem_of_getElem? hx)⟩⟩
  have hj2 : j < sz := by rw [← hs x]; exact (List.getElem?_eq_some_iff.1 hj).1
  rw [Nat.zero_add, blk_cell hb]
  have h1 := flat_get hs l i j x hx hj2
  rw [← hcs] at h1
  rw [← Array.getElem?_toList, h1, hj]
def exSy (l : List Tsk) : Sy := ⟨2, 1, 1, 0, 0, 0, 1, 0, l⟩
def exA : Sy := exSy [⟨10, 10, 3, []⟩, ⟨5, 5, 2, []⟩]
def exPA : Pl := [[⟨0, 3, 10, 0, false⟩], [⟨0, 2, 5, 0, false⟩]]
def exB : Sy := exSy [⟨10, 10, 8, []⟩]
def exPB : Pl := [[⟨0, 5, 5, 0, true⟩, ⟨1, 3, 5, 0, false⟩]]
def exC : Sy := exSy [⟨10, 10, 8, []⟩, ⟨5, 5, 2, []⟩]
def exPC : Pl := [[⟨0, 8, 10, 0, false⟩], [⟨0, 2, 5, 0, false⟩]]
set_option maxRecDepth 100000 in
theorem exA_chk : chkV exA exPA = (some [5, 2], -1, 0) := by decide +kernel
set_option maxRecDepth 100000 in
theorem exB_chk : chkV exB exPB = (some [8], -1, 0) := by decide +kernel
set_option maxRecDepth 100000 in
theorem exC_chk : chkV exC exPC = (none, 0, 12) := by decide +kernel
/-- A task without sections, as cells. -/
def encT0 (t : Tsk) : List Value := [.int .i64 t.per, .int .i64 t.dl, .int .i64 t.wc, .slice none 0 0]
theorem tasks_built {w : World} {b : Nat} {cs : Array Value} {t : TypeId} {f : Nat × Nat} (l : List Tsk) (n : Nat) (hb : w.heap[b]? = some (.cells cs t f)) (hn : n = l.length) (hcs : cs.toList = flat encT0 l) (hl : n ≤ 100) (h0 : ∀ x ∈ l, x.secs = []) :
    Rowp 4 tskR w (.slice (some ⟨b, 0, none⟩) n n) l :=
  Rowp.built' encT0 l n hb hn hcs (fun x => rfl) (by unfold maxLen; omega) (fun x hx => ⟨.slice none 0 0, rfl, by rw [h0 x hx]; exact Rowp.nil _ _ _⟩)
theorem exSy_wf {l : List Tsk} (h : ∀ t ∈ l, t.Wf) : (exSy l).Wf := by
  refine ⟨?_, ?_, ?_, ?_, ?_, ?_, ?_, ?_, h⟩ <;> (unfold I64 exSy; simp only; omega)
theorem tsk0_wf {t : Tsk} (h : t.secs = []) (h1 : 0 ≤ t.per ∧ t.per ≤ 100) (h2 : 0 ≤ t.dl ∧ t.dl ≤ 100) (h3 : 0 ≤ t.wc ∧ t.wc ≤ 100) : t.Wf :=
  ⟨by unfold I64; omega, by unfold I64; omega, by unfold I64; omega, by rw [h]; intro x hx; cases hx⟩
theorem plan_rows {W : World} {b : Nat} {cs : Array Value} {t : TypeId} {f : Nat × Nat} (L : Pl) (n : Nat) (h : W.heap[b]? = some (.cells cs t f)) (hn : n = L.length) (hc : cs.size = n) (hl : n ≤ 100) (hr : ∀ (i : Nat) v l, cs[i]? = some v → L[i]? = some l → Rowp 5 pcR W v l) :
    Rowp 1 (RowR 5 pcR) W (.slice (some ⟨b, 0, none⟩) n n) L := by
  subst hn
  refine ⟨_, _, rfl, Nat.le_refl _, by unfold maxLen; omega, fun i x hx => ?_⟩
  have hi := (List.getElem?_eq_some_iff.1 hx).1
  obtain ⟨v, hv⟩ : ∃ v, cs[i]? = some v := ⟨_, Array.getElem?_eq_getElem (by omega)⟩
  refine ⟨b, 0, [v], rfl, blk_lt h, rfl, fun j c hj => ?_, ⟨v, rfl, hr i v x hv hx⟩⟩
  have hj0 : j = 0 := by
    cases j with
    | zero => rfl
    | succ j => simp at hj
  subst hj0
  have hc : v = c := by simpa using hj
  rw [← hc, show 0 + i * 1 + 0 = i by omega, blk_cell h, hv]
theorem pcs_built {W : World} {b : Nat} {cs : Array Value} {t : TypeId} {f : Nat × Nat} (l : List Pc) (n : Nat) (h : W.heap[b]? = some (.cells cs t f)) (hn : n = l.length) (hcs : cs.toList = flat encPc l) (hl : n ≤ 100) : Rowp 5 pcR W (.slice (some ⟨b, 0, none⟩) n n) l :=
  Rowp.built' encPc l n h hn hcs (fun x => rfl) (by unfold maxLen; omega) (fun p _ => rfl)
theorem pl_wf {P : Pl} (h : ∀ l ∈ P, ∀ p ∈ l, (0 ≤ p.core ∧ p.core ≤ 100) ∧ (0 ≤ p.bud ∧ p.bud ≤ 100) ∧ (0 ≤ p.dl ∧ p.dl ≤ 100) ∧ (0 ≤ p.prio ∧ p.prio ≤ 100)) : ∀ l ∈ P, ∀ p ∈ l, Pc.Wf p := fun l hl p hp => by
  have := h l hl p hp
  refine ⟨?_, ?_, ?_, ?_⟩ <;> (unfold I64; omega)
theorem exA_wf : exA.Wf := exSy_wf (by intro t ht; simp at ht; rcases ht with rfl | rfl <;> exact tsk0_wf rfl (by decide) (by decide) (by decide))
theorem exB_wf : exB.Wf := exSy_wf (by intro t ht; simp at ht; rcases ht with rfl; exact tsk0_wf rfl (by decide) (by decide) (by decide))
theorem exC_wf : exC.Wf := exSy_wf (by intro t ht; simp at ht; rcases ht with rfl | rfl <;> exact tsk0_wf rfl (by decide) (by decide) (by decide))
theorem exPA_wf : ∀ l ∈ exPA, ∀ p ∈ l, Pc.Wf p := pl_wf (by decide)
theorem exPB_wf : ∀ l ∈ exPB, ∀ p ∈ l, Pc.Wf p := pl_wf (by decide)
theorem exPC_wf : ∀ l ∈ exPC, ∀ p ∈ l, Pc.Wf p := pl_wf (by decide)
theorem size_alloc (w : World) (o : Obj) : (w.alloc o).heap.size = w.heap.size + 1 := by simp
section
variable {w : World}
set_option maxRecDepth 100000 in
theorem base_any (A : Option Addr) (n c : Nat) : Calls Try.prog 23 #[.slice A n c] w fun e w' => e = .returned (.agg #[.int .i64 2, .int .i64 1, .int .i64 1, .int .i64 0, .int .i64 0, .int .i64 0, .int .i64 1, .int .i64 0, .slice A n c]) ∧ Below w.heap.size w w' := by
  have hb := below_new (Below.refl w.heap.size w) (.cells #[.int .i64 2, .int .i64 1, .int .i64 1, .int .i64 0, .int .i64 0, .int .i64 0, .int .i64 1, .int .i64 0, .slice A n c] 24)
  have hq := blk_new w (.cells #[.int .i64 2, .int .i64 1, .int .i64 1, .int .i64 0, .int .i64 0, .int .i64 0, .int .i64 1, .int .i64 0, .slice A n c] 24)
  go_enter Try.func23, Try.ntmps23
  go_wp2_with fail
  generalize w.alloc (.cells #[.int .i64 2, .int .i64 1, .int .i64 1, .int .i64 0, .int .i64 0, .int .i64 0, .int .i64 1, .int .i64 0, .slice A n c] 24) = wz at *
  have y0 := blk_cell hq 0
  have y1 := blk_cell hq 1
  have y2 := blk_cell hq 2
  have y3 := blk_cell hq 3
  have y4 := blk_cell hq 4
  have y5 := blk_cell hq 5
  have y6 := blk_cell hq 6
  have y7 := blk_cell hq 7
  have y8 := blk_cell hq 8
  exact bodyPost_ret (v := .agg #[.int .i64 2, .int .i64 1, .int .i64 1, .int .i64 0, .int .i64 0, .int .i64 0, .int .i64 1, .int .i64 0, .slice A n c]) (by simp [results, Try.results23, go_sem, y0, y1, y2, y3, y4, y5, y6, y7, y8]) rfl ⟨rfl, hb⟩
set_option maxRecDepth 100000 in
set_option maxHeartbeats 6400000 in
theorem examples17_any : Calls Try.prog 9 #[] w fun e w' => e = .returned (.bool true) ∧ Below w.heap.size w w' := by
  have HBA := hid (fun W A n c => base_any (w := W) A n c)
  go_enter Try.func9, Try.ntmps9
  go_wp2_with fail
  refine (HBA.out _ _ _ _).mono ?_
  rintro e w1A ⟨rfl, hb1⟩
  have hT1 := (fr0 hb1).blk (blk_new w (.cells #[.int .i64 10, .int .i64 10, .int .i64 3, .slice none 0 0, .int .i64 5, .int .i64 5, .int .i64 2, .slice none 0 0] 34)) (fun h => h)
  have HA1 := hid (below_then (below_new (Below.refl w.heap.size w) (.cells #[.int .i64 10, .int .i64 10, .int .i64 3, .slice none 0 0, .int .i64 5, .int .i64 5, .int .i64 2, .slice none 0 0] 34)) hb1)
  obtain ⟨TA, hT⟩ : ∃ T, w.heap.size = T := ⟨_, rfl⟩
  rw [hT] at hT1 ⊢
  have HT1A := hid hT1
  clear hb1 hT1 hT
  go_upto_region 2 with fail
  have HT2A := hid (blk_old HT1A.out (.cells #[.int .i64 2, .int .i64 1, .int .i64 1, .int .i64 0, .int .i64 0, .int .i64 0, .int .i64 1, .int .i64 0, .slice (some ⟨TA, 0, none⟩) 2 2] 24))
  have HA12 := hid (below_new HA1.out (.cells #[.int .i64 2, .int .i64 1, .int .i64 1, .int .i64 0, .int .i64 0, .int .i64 0, .int .i64 1, .int .i64 0, .slice (some ⟨TA, 0, none⟩) 2 2] 24))
  have hs := blk_new w1A (.cells #[.int .i64 2, .int .i64 1, .int .i64 1, .int .i64 0, .int .i64 0, .int .i64 0, .int .i64 1, .int .i64 0, .slice (some ⟨TA, 0, none⟩) 2 2] 24)
  obtain ⟨EA, hE⟩ : ∃ E, w1A.heap.size = E := ⟨_, rfl⟩
  rw [hE] at hs ⊢
  generalize w1A.alloc (.cells #[.int .i64 2, .int .i64 1, .int .i64 1, .int .i64 0, .int .i64 0, .int .i64 0, .int .i64 1, .int .i64 0, .slice (some ⟨TA, 0, none⟩) 2 2] 24) = w2A at *
  have s0 := blk_cell hs 0
  have s1 := blk_cell hs 1
  have s2 := blk_cell hs 2
  have s3 := blk_cell hs 3
  have s4 := blk_cell hs 4
  have s5 := blk_cell hs 5
  have s6 := blk_cell hs 6
  have s7 := blk_cell hs 7
  have s8 := blk_cell hs 8
  have hp0 := blk_old (blk_old (blk_new w2A (.cells #[.int .i64 0, .int .i64 3, .int .i64 10, .int .i64 0, .bool false] 41)) (.cells #[.int .i64 0, .int .i64 2, .int .i64 5, .int .i64 0, .bool false] 41)) (.cells #[.slice (some ⟨w2A.heap.size, 0, none⟩) 1 1, .slice (some ⟨w2A.heap.size + 1, 0, none⟩) 1 1] 31)
  have hp1 := blk_old (blk_new (w2A.alloc (.cells #[.int .i64 0, .int .i64 3, .int .i64 10, .int .i64 0, .bool false] 41)) (.cells #[.int .i64 0, .int .i64 2, .int .i64 5, .int .i64 0, .bool false] 41)) (.cells #[.slice (some ⟨w2A.heap.size, 0, none⟩) 1 1, .slice (some ⟨w2A.heap.size + 1, 0, none⟩) 1 1] 31)
  have hp2 := blk_new ((w2A.alloc (.cells #[.int .i64 0, .int .i64 3, .int .i64 10, .int .i64 0, .bool false] 41)).alloc (.cells #[.int .i64 0, .int .i64 2, .int .i64 5, .int .i64 0, .bool false] 41)) (.cells #[.slice (some ⟨w2A.heap.size, 0, none⟩) 1 1, .slice (some ⟨w2A.heap.size + 1, 0, none⟩) 1 1] 31)
  have hbp := below_new (below_new (below_new (Below.refl w2A.heap.size w2A) (.cells #[.int .i64 0, .int .i64 3, .int .i64 10, .int .i64 0, .bool false] 41)) (.cells #[.int .i64 0, .int .i64 2, .int .i64 5, .int .i64 0, .bool false] 41)) (.cells #[.slice (some ⟨w2A.heap.size, 0, none⟩) 1 1, .slice (some ⟨w2A.heap.size + 1, 0, none⟩) 1 1] 31)
  simp only [size_alloc] at hp1 hp2
  have HCH := hid (chk_any exA (some ⟨TA, 0, none⟩) 2 2 (some ⟨w2A.heap.size + 1 + 1, 0, none⟩) 2 2 exPA ⟨tasks_built exA.tasks 2 ((fr0 hbp).blk HT2A.out (fun h => h)) rfl rfl (by decide) (by decide), exA_wf⟩
    ⟨plan_rows exPA 2 hp2 rfl rfl (by decide) (fun i v l hv hl => by
      match i, hv, hl with
      | 0, hv, hl => injection hv with hv; injection hl with hl; subst hv hl; exact pcs_built _ 1 hp0 rfl rfl (by decide)
      | 1, hv, hl => injection hv with hv; injection hl with hl; subst hv hl; exact pcs_built _ 1 hp1 rfl rfl (by decide)
      | i + 2, hv, hl => cases hl), exPA_wf⟩)
  rw [exA_chk] at HCH
  have HBP := hid hbp
  clear hs hp0 hp1 hp2 hbp hE
  go_wp2_with fail
  refine HCH.out.mono ?_
  rintro e w3A ⟨uA, rfl, hret, hb3⟩
  have HA123 := hid (below_then HA12.out (below_then HBP.out hb3))
  have ho := hret.2
  obtain ⟨AA, cA, rfl⟩ := own_slice ho
  have HOA := hid ho
  clear ho
  have HZA := hid (Below.refl w3A.heap.size w3A)
  clear hret hb3 HBP HCH s0 s1 s2 s3 s4 s5 s6 s7 s8
  go_wp2_with fail
  refine (HBA.out _ _ _ _).mono ?_
  rintro e w1B ⟨rfl, hb1⟩
  have hT1 := (fr0 hb1).blk (blk_new w3A (.cells #[.int .i64 10, .int .i64 10, .int .i64 8, .slice none 0 0] 34)) (fun h => h)
  have HA123B1 := hid (below_then (below_new HA123.out (.cells #[.int .i64 10, .int .i64 10, .int .i64 8, .slice none 0 0] 34)) hb1)
  have HZAB1 := hid (below_then (below_new HZA.out (.cells #[.int .i64 10, .int .i64 10, .int .i64 8, .slice none 0 0] 34)) hb1)
  obtain ⟨TB, hT⟩ : ∃ T, w3A.heap.size = T := ⟨_, rfl⟩
  rw [hT] at hT1 ⊢
  have HT1B := hid hT1
  clear hb1 hT1 hT
  go_upto_region 4 with fail
  have HT2B := hid (blk_old HT1B.out (.cells #[.int .i64 2, .int .i64 1, .int .i64 1, .int .i64 0, .int .i64 0, .int .i64 0, .int .i64 1, .int .i64 0, .slice (some ⟨TB, 0, none⟩) 1 1] 24))
  have HA123B12 := hid (below_new HA123B1.out (.cells #[.int .i64 2, .int .i64 1, .int .i64 1, .int .i64 0, .int .i64 0, .int .i64 0, .int .i64 1, .int .i64 0, .slice (some ⟨TB, 0, none⟩) 1 1] 24))
  have HZAB12 := hid (below_new HZAB1.out (.cells #[.int .i64 2, .int .i64 1, .int .i64 1, .int .i64 0, .int .i64 0, .int .i64 0, .int .i64 1, .int .i64 0, .slice (some ⟨TB, 0, none⟩) 1 1] 24))
  have hs := blk_new w1B (.cells #[.int .i64 2, .int .i64 1, .int .i64 1, .int .i64 0, .int .i64 0, .int .i64 0, .int .i64 1, .int .i64 0, .slice (some ⟨TB, 0, none⟩) 1 1] 24)
  obtain ⟨EB, hE⟩ : ∃ E, w1B.heap.size = E := ⟨_, rfl⟩
  rw [hE] at hs ⊢
  generalize w1B.alloc (.cells #[.int .i64 2, .int .i64 1, .int .i64 1, .int .i64 0, .int .i64 0, .int .i64 0, .int .i64 1, .int .i64 0, .slice (some ⟨TB, 0, none⟩) 1 1] 24) = w2B at *
  have s0 := blk_cell hs 0
  have s1 := blk_cell hs 1
  have s2 := blk_cell hs 2
  have s3 := blk_cell hs 3
  have s4 := blk_cell hs 4
  have s5 := blk_cell hs 5
  have s6 := blk_cell hs 6
  have s7 := blk_cell hs 7
  have s8 := blk_cell hs 8
  have hp0 := blk_old (blk_new w2B (.cells #[.int .i64 0, .int .i64 5, .int .i64 5, .int .i64 0, .bool true, .int .i64 1, .int .i64 3, .int .i64 5, .int .i64 0, .bool false] 41)) (.cells #[.slice (some ⟨w2B.heap.size, 0, none⟩) 2 2] 31)
  have hp1 := blk_new (w2B.alloc (.cells #[.int .i64 0, .int .i64 5, .int .i64 5, .int .i64 0, .bool true, .int .i64 1, .int .i64 3, .int .i64 5, .int .i64 0, .bool false] 41)) (.cells #[.slice (some ⟨w2B.heap.size, 0, none⟩) 2 2] 31)
  have hbp := below_new (below_new (Below.refl w2B.heap.size w2B) (.cells #[.int .i64 0, .int .i64 5, .int .i64 5, .int .i64 0, .bool true, .int .i64 1, .int .i64 3, .int .i64 5, .int .i64 0, .bool false] 41)) (.cells #[.slice (some ⟨w2B.heap.size, 0, none⟩) 2 2] 31)
  simp only [size_alloc] at hp1
  have HCH := hid (chk_any exB (some ⟨TB, 0, none⟩) 1 1 (some ⟨w2B.heap.size + 1, 0, none⟩) 1 1 exPB ⟨tasks_built exB.tasks 1 ((fr0 hbp).blk HT2B.out (fun h => h)) rfl rfl (by decide) (by decide), exB_wf⟩
    ⟨plan_rows exPB 1 hp1 rfl rfl (by decide) (fun i v l hv hl => by
      match i, hv, hl with
      | 0, hv, hl => injection hv with hv; injection hl with hl; subst hv hl; exact pcs_built _ 2 hp0 rfl rfl (by decide)
      | i + 1, hv, hl => cases hl), exPB_wf⟩)
  rw [exB_chk] at HCH
  have HBP := hid hbp
  clear hs hp0 hp1 hbp hE
  go_wp2_with fail
  refine HCH.out.mono ?_
  rintro e w3B ⟨uB, rfl, hret, hb3⟩
  have HA123B123 := hid (below_then HA123B12.out (below_then HBP.out hb3))
  have HZAB123 := hid (below_then HZAB12.out (below_then HBP.out hb3))
  have ho := hret.2
  obtain ⟨AB, cB, rfl⟩ := own_slice ho
  have HOB := hid ho
  clear ho
  have HZB := hid (Below.refl w3B.heap.size w3B)
  clear hret hb3 HBP HCH s0 s1 s2 s3 s4 s5 s6 s7 s8
  go_wp2_with fail
  refine (HBA.out _ _ _ _).mono ?_
  rintro e w1C ⟨rfl, hb1⟩
  have hT1 := (fr0 hb1).blk (blk_new w3B (.cells #[.int .i64 10, .int .i64 10, .int .i64 8, .slice none 0 0, .int .i64 5, .int .i64 5, .int .i64 2, .slice none 0 0] 34)) (fun h => h)
  have HA123B123C1 := hid (below_then (below_new HA123B123.out (.cells #[.int .i64 10, .int .i64 10, .int .i64 8, .slice none 0 0, .int .i64 5, .int .i64 5, .int .i64 2, .slice none 0 0] 34)) hb1)
  have HZAB123C1 := hid (below_then (below_new HZAB123.out (.cells #[.int .i64 10, .int .i64 10, .int .i64 8, .slice none 0 0, .int .i64 5, .int .i64 5, .int .i64 2, .slice none 0 0] 34)) hb1)
  have HZBC1 := hid (below_then (below_new HZB.out (.cells #[.int .i64 10, .int .i64 10, .int .i64 8, .slice none 0 0, .int .i64 5, .int .i64 5, .int .i64 2, .slice none 0 0] 34)) hb1)
  obtain ⟨TC, hT⟩ : ∃ T, w3B.heap.size = T := ⟨_, rfl⟩
  rw [hT] at hT1 ⊢
  have HT1C := hid hT1
  clear hb1 hT1 hT
  go_upto_region 6 with fail
  have HT2C := hid (blk_old HT1C.out (.cells #[.int .i64 2, .int .i64 1, .int .i64 1, .int .i64 0, .int .i64 0, .int .i64 0, .int .i64 1, .int .i64 0, .slice (some ⟨TC, 0, none⟩) 2 2] 24))
  have HA123B123C12 := hid (below_new HA123B123C1.out (.cells #[.int .i64 2, .int .i64 1, .int .i64 1, .int .i64 0, .int .i64 0, .int .i64 0, .int .i64 1, .int .i64 0, .slice (some ⟨TC, 0, none⟩) 2 2] 24))
  have HZAB123C12 := hid (below_new HZAB123C1.out (.cells #[.int .i64 2, .int .i64 1, .int .i64 1, .int .i64 0, .int .i64 0, .int .i64 0, .int .i64 1, .int .i64 0, .slice (some ⟨TC, 0, none⟩) 2 2] 24))
  have HZBC12 := hid (below_new HZBC1.out (.cells #[.int .i64 2, .int .i64 1, .int .i64 1, .int .i64 0, .int .i64 0, .int .i64 0, .int .i64 1, .int .i64 0, .slice (some ⟨TC, 0, none⟩) 2 2] 24))
  have hs := blk_new w1C (.cells #[.int .i64 2, .int .i64 1, .int .i64 1, .int .i64 0, .int .i64 0, .int .i64 0, .int .i64 1, .int .i64 0, .slice (some ⟨TC, 0, none⟩) 2 2] 24)
  obtain ⟨EC, hE⟩ : ∃ E, w1C.heap.size = E := ⟨_, rfl⟩
  rw [hE] at hs ⊢
  generalize w1C.alloc (.cells #[.int .i64 2, .int .i64 1, .int .i64 1, .int .i64 0, .int .i64 0, .int .i64 0, .int .i64 1, .int .i64 0, .slice (some ⟨TC, 0, none⟩) 2 2] 24) = w2C at *
  have s0 := blk_cell hs 0
  have s1 := blk_cell hs 1
  have s2 := blk_cell hs 2
  have s3 := blk_cell hs 3
  have s4 := blk_cell hs 4
  have s5 := blk_cell hs 5
  have s6 := blk_cell hs 6
  have s7 := blk_cell hs 7
  have s8 := blk_cell hs 8
  have hp0 := blk_old (blk_old (blk_new w2C (.cells #[.int .i64 0, .int .i64 8, .int .i64 10, .int .i64 0, .bool false] 41)) (.cells #[.int .i64 0, .int .i64 2, .int .i64 5, .int .i64 0, .bool false] 41)) (.cells #[.slice (some ⟨w2C.heap.size, 0, none⟩) 1 1, .slice (some ⟨w2C.heap.size + 1, 0, none⟩) 1 1] 31)
  have hp1 := blk_old (blk_new (w2C.alloc (.cells #[.int .i64 0, .int .i64 8, .int .i64 10, .int .i64 0, .bool false] 41)) (.cells #[.int .i64 0, .int .i64 2, .int .i64 5, .int .i64 0, .bool false] 41)) (.cells #[.slice (some ⟨w2C.heap.size, 0, none⟩) 1 1, .slice (some ⟨w2C.heap.size + 1, 0, none⟩) 1 1] 31)
  have hp2 := blk_new ((w2C.alloc (.cells #[.int .i64 0, .int .i64 8, .int .i64 10, .int .i64 0, .bool false] 41)).alloc (.cells #[.int .i64 0, .int .i64 2, .int .i64 5, .int .i64 0, .bool false] 41)) (.cells #[.slice (some ⟨w2C.heap.size, 0, none⟩) 1 1, .slice (some ⟨w2C.heap.size + 1, 0, none⟩) 1 1] 31)
  have hbp := below_new (below_new (below_new (Below.refl w2C.heap.size w2C) (.cells #[.int .i64 0, .int .i64 8, .int .i64 10, .int .i64 0, .bool false] 41)) (.cells #[.int .i64 0, .int .i64 2, .int .i64 5, .int .i64 0, .bool false] 41)) (.cells #[.slice (some ⟨w2C.heap.size, 0, none⟩) 1 1, .slice (some ⟨w2C.heap.size + 1, 0, none⟩) 1 1] 31)
  simp only [size_alloc] at hp1 hp2
  have HCH := hid (chk_any exC (some ⟨TC, 0, none⟩) 2 2 (some ⟨w2C.heap.size + 1 + 1, 0, none⟩) 2 2 exPC ⟨tasks_built exC.tasks 2 ((fr0 hbp).blk HT2C.out (fun h => h)) rfl rfl (by decide) (by decide), exC_wf⟩
    ⟨plan_rows exPC 2 hp2 rfl rfl (by decide) (fun i v l hv hl => by
      match i, hv, hl with
      | 0, hv, hl => injection hv with hv; injection hl with hl; subst hv hl; exact pcs_built _ 1 hp0 rfl rfl (by decide)
      | 1, hv, hl => injection hv with hv; injection hl with hl; subst hv hl; exact pcs_built _ 1 hp1 rfl rfl (by decide)
      | i + 2, hv, hl => cases hl), exPC_wf⟩)
  rw [exC_chk] at HCH
  have HBP := hid hbp
  clear hs hp0 hp1 hp2 hbp hE
  go_wp2_with fail
  refine HCH.out.mono ?_
  rintro e w3C ⟨uC, rfl, hret, hb3⟩
  have HA123B123C123 := hid (below_then HA123B123C12.out (below_then HBP.out hb3))
  have HZAB123C123 := hid (below_then HZAB123C12.out (below_then HBP.out hb3))
  have HZBC123 := hid (below_then HZBC12.out (below_then HBP.out hb3))
  obtain rfl : uC = .slice none 0 0 := hret
  clear hb3 HBP HCH s0 s1 s2 s3 s4 s5 s6 s7 s8
  have hoA := own_kept HOA.out (fr0 HZAB123C123.out) (fun _ _ h => h)
  have hoB := own_kept HOB.out (fr0 HZBC123.out) (fun _ _ h => h)
  obtain ⟨gA, cA', curA, hA1, _, _⟩ := own_shape hoA (by decide)
  injection hA1 with hA2 _ hA3
  subst hA2 hA3
  obtain ⟨gB, cB', curB, hB1, _, _⟩ := own_shape hoB (by decide)
  injection hB1 with hB2 _ hB3
  subst hB2 hB3
  have a0 : w3C.cell? ⟨gA, 0, none⟩ = some (.int .i64 5) := own_cell0 hoA rfl
  have a1 : w3C.cell? ⟨gA, 1, none⟩ = some (.int .i64 2) := own_cell0 hoA rfl
  have b0 : w3C.cell? ⟨gB, 0, none⟩ = some (.int .i64 8) := own_cell0 hoB rfl
  have HBE := hid HA123B123C123.out
  clear hoA hoB
  go_wp2_with fail
  go_ret
  exact ⟨rfl, HBE.out⟩
end
end Go.Proofs.Ytppildaahmlfmaa
