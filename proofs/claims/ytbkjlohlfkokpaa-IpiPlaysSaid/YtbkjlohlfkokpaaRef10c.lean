/- The document's boxes: Take (contract). -/
import Derived.Test.YtbkjlohlfkokpaaRef10b
set_option linter.unusedVariables false
set_option linter.unusedSimpArgs false
namespace Go.Proofs.Ytbkjlohlfkokpaa
open Go.RowKit

def dueB (c now : Int) (p : Nd) : Bool := decide (p.1 = c) && decide (p.2.2 ≤ now)
def restL (L : List Nd) (c now : Int) : List Nd := L.filter (fun p => !dueB c now p)
def insL (x : Nd) (l : List Nd) : List Nd := l.filter (fun y => decide (y.2.2 ≤ x.2.2)) ++ x :: l.filter (fun y => decide (x.2.2 < y.2.2))
def sortL (l : List Nd) : List Nd := l.foldl (fun o x => insL x o) []
def takeL (L : List Nd) (c now : Int) : List Nd := sortL (L.filter (dueB c now))
theorem insL_len (x : Nd) (l : List Nd) : (insL x l).length = l.length + 1 := by
  unfold insL
  have h := (List.filter_append_perm (fun y : Nd => decide (y.2.2 ≤ x.2.2)) l).length_eq
  have e : (fun y : Nd => decide (x.2.2 < y.2.2)) = (fun y => !decide (y.2.2 ≤ x.2.2)) := funext fun y => by
    by_cases h : y.2.2 ≤ x.2.2
    · simp [h]
    · simp [h]; omega
  rw [e]
  simp at h ⊢
  omega
theorem sortL_snoc (l : List Nd) (x : Nd) : sortL (l ++ [x]) = insL x (sortL l) := by unfold sortL; rw [List.foldl_append]; rfl
theorem sortL_len (l : List Nd) : (sortL l).length = l.length := by
  rw [← List.reverse_reverse l]
  induction l.reverse with
  | nil => rfl
  | cons x l ih => rw [List.reverse_cons, sortL_snoc, insL_len, ih, List.length_append]; rfl
theorem insL_up {x : Nd} {l : List Nd} (h : l.Pairwise (fun a b => a.2.2 ≤ b.2.2)) : (insL x l).Pairwise (fun a b => a.2.2 ≤ b.2.2) := by
  unfold insL
  refine List.pairwise_append.2 ⟨h.filter _, List.pairwise_cons.2 ⟨fun y hy => ?_, h.filter _⟩, fun a ha b hb => ?_⟩
  · have := (List.mem_filter.1 hy).2
    simp at this; omega
  · have ha2 : a.2.2 ≤ x.2.2 := by simpa using (List.mem_filter.1 ha).2
    rcases List.mem_cons.1 hb with rfl | hb
    · exact ha2
    · have hb2 : x.2.2 < b.2.2 := by simpa using (List.mem_filter.1 hb).2
      omega
theorem sortL_up (l : List Nd) : (sortL l).Pairwise (fun a b => a.2.2 ≤ b.2.2) := by
  rw [← List.reverse_reverse l]
  induction l.reverse with
  | nil => exact List.Pairwise.nil
  | cons x l ih => rw [List.reverse_cons, sortL_snoc]; exact insL_up ih
/-- Where the walk back ends, the list is parted. -/
theorem part_at {l : List Nd} {k : Nat} {a : Int} (h : l.Pairwise (fun a b => a.2.2 ≤ b.2.2)) (hk : k ≤ l.length) (h1 : ∀ (j : Nat) (p : Nd), k ≤ j → l[j]? = some p → a < p.2.2) (h2 : ∀ p, 0 < k → l[k - 1]? = some p → p.2.2 ≤ a) :
    l.take k = l.filter (fun y => decide (y.2.2 ≤ a)) ∧ l.drop k = l.filter (fun y => decide (a < y.2.2)) := by
  have ht : ∀ p ∈ l.take k, p.2.2 ≤ a := fun p hp => by
    obtain ⟨j, hj, e⟩ := List.mem_iff_getElem.1 hp
    rw [List.length_take] at hj
    rw [List.getElem_take] at e
    have hl : k - 1 < l.length := by omega
    have h3 := h2 l[k - 1] (by omega) (List.getElem?_eq_getElem hl)
    rcases Nat.lt_or_ge j (k - 1) with hlt | hge
    · have := List.pairwise_iff_getElem.1 h j (k - 1) (by omega) hl hlt
      rw [e] at this
      omega
    · have : j = k - 1 := by omega
      subst this
      rw [e] at h3
      exact h3
  have hd : ∀ p ∈ l.drop k, a < p.2.2 := fun p hp => by
    obtain ⟨j, hj, e⟩ := List.mem_iff_getElem.1 hp
    rw [List.length_drop] at hj
    rw [List.getElem_drop] at e
    exact h1 (k + j) p (by omega) (by rw [List.getElem?_eq_getElem (by omega), e])
  have e := (List.take_append_drop k l)
  constructor
  · conv => rhs; rw [← e]
    rw [List.filter_append, List.filter_eq_self.2 (fun p hp => by simpa using ht p hp), List.filter_eq_nil_iff.2 (fun p hp => by have := hd p hp; simp; omega), List.append_nil]
  · conv => rhs; rw [← e]
    rw [List.filter_append, List.filter_eq_nil_iff.2 (fun p hp => by have := ht p hp; simp; omega), List.filter_eq_self.2 (fun p hp => by simpa using hd p hp), List.nil_append]
section
variable {w w' : World} {base x : Nat} {v : Value} {cores : Int} {L : List Nd}
theorem below_one_new (w : World) (cs : Array Value) (t : TypeId) : Below w.heap.size w (w.alloc (.cells cs t)) := (Below.refl _ w).alloc (Nat.le_refl _) _
/-- Rows of notes: what is taken, what stays. -/
structure TK (w wr : World) (v7 v8 : Value) (o r : List Nd) : Prop where
  a : wr.ownsRow w.heap.size 91 3 v7 o.length (flat enc3 o)
  b : wr.ownsRow w.heap.size 91 3 v8 r.length (flat enc3 r)
  ap : Apart v7 v8
  below : Below w.heap.size w wr
theorem TK.start (w : World) : TK w w (.slice none 0 0) (.slice none 0 0) [] [] := ⟨World.ownsRow_nil _ _ _ _, World.ownsRow_nil _ _ _ _, Apart.nil _, Below.refl _ _⟩
theorem TK.later {wr wx : World} {v7 v8 : Value} {o r : List Nd} (h : TK w wr v7 v8 o r) (k : Below wr.heap.size wr wx) : TK w wx v7 v8 o r :=
  ⟨own_kept h.a (fr0 k) (fun _ _ h => h), own_kept h.b (fr0 k) (fun _ _ h => h), h.ap, below_then h.below k⟩
set_option maxRecDepth 1000000 in
set_option maxHeartbeats 3200000 in
theorem r10_take (H : R10 w base x v cores L) (core now : Int) (hm : L.length < 1000000) :
    Calls Try.prog 23 #[.pointer (some ⟨x, 0, none⟩), .int .i64 core, .int .i64 now] w fun e w' => ∃ u, e = .returned u ∧ w'.ownsRow w.heap.size 3 1 u ((takeL L core now).map (·.2.1)).length (intCells ((takeL L core now).map (·.2.1))) ∧ R10Behind w base x v cores (restL L core now) w' ∧ (∀ k, u.ownBlock = some k → w.heap.size ≤ k) := by
  have HH := hid H
  have hrow := H.row
  have hxx := H.hx
  have hxl := blk_lt hxx
  have hbx := H.bx
  obtain ⟨m, hm2⟩ : ∃ m, m = L.length := ⟨_, rfl⟩
  rw [← hm2] at hrow hm
  obtain ⟨A, cap, rfl⟩ := own_slice hrow
  have c1 : w.cell? ⟨x, 1, none⟩ = some (.slice A m cap) := blk_cell hxx 1
  have HM := hid hm2
  have HR := hid hrow
  have HX := hid hxx
  have HAP := hid H.ap
  clear H hm2 hrow hxx
  obtain ⟨i0, hi, hz0, hz1, hz2⟩ := info_parts Try.info_nd
  obtain ⟨i1, hi1, hy0, hy1, hy2⟩ := info_parts Try.info_int
  go_enter Try.func23, Try.ntmps23
  go_wp2_with fail
  go_loopw [7, 8, 9] (fun v7 v8 i wr => ∃ k : Nat, k ≤ m ∧ i = .int .i64 k ∧ TK w wr v7 v8 (sortL ((L.take k).filter (dueB core now))) ((L.take k).filter (fun p => !dueB core now p))) (fun _ _ i _ => m - (intOf i).toNat)
  case atStart => exact ⟨0, by omega, rfl, TK.start _⟩
  case round =>
    obtain ⟨k, hk, rfl, hT⟩ := hrel
    obtain ⟨o, ho⟩ : ∃ o, sortL ((L.take k).filter (dueB core now)) = o := ⟨_, rfl⟩
    obtain ⟨r, hr⟩ : ∃ r, (L.take k).filter (fun p => !dueB core now p) = r := ⟨_, rfl⟩
    have hol : o.length ≤ k := by
      rw [← ho, sortL_len]
      exact Nat.le_trans (List.length_filter_le _ _) (by rw [List.length_take]; omega)
    have hrl : r.length ≤ k := by
      rw [← hr]
      exact Nat.le_trans (List.length_filter_le _ _) (by rw [List.length_take]; omega)
    have hup : o.Pairwise (fun a b => a.2.2 ≤ b.2.2) := by rw [← ho]; exact sortL_up _
    rw [ho, hr] at hT
    have HT := hid hT
    have HO := hid ho
    have HRR := hid hr
    have HUP := hid hup
    have c1r : wr.cell? ⟨x, 1, none⟩ = some (.slice A m cap) := (hT.below.cell hxl).trans c1
    clear hT ho hr hup
    by_cases hlt : k < m
    · obtain ⟨y, hy⟩ : ∃ y, L[k]? = some y := ⟨_, List.getElem?_eq_getElem (by have := HM.out; omega)⟩
      obtain ⟨g, rfl, d0⟩ := row_cell (j := 0) enc3_len HR.out hy rfl
      obtain ⟨g', e1, d1⟩ := row_cell (j := 1) enc3_len HR.out hy rfl
      obtain ⟨g'', e2, d2⟩ := row_cell (j := 2) enc3_len HR.out hy rfl
      cases e1
      cases e2
      simp only [Nat.add_zero] at d0
      have hgl := World.block_lt_of_cell? _ _ d0
      have d0r := (HT.out.below.cell (p := ⟨g, k * 3, none⟩) hgl).trans d0
      have d1r := (HT.out.below.cell (p := ⟨g, k * 3 + 1, none⟩) hgl).trans d1
      have d2r := (HT.out.below.cell (p := ⟨g, k * 3 + 2, none⟩) hgl).trans d2
      have HL := hid (show (L.take (k + 1)) = L.take k ++ [y] by rw [List.take_add_one, hy]; rfl)
      clear hy d0 d1 d2
      obtain ⟨ya, yb, yc⟩ := y
      simp only at d0r d1r d2r
      have HT1 := hid (HT.out.later (below_one_new wr #[.int .i64 ya, .int .i64 yb, .int .i64 yc] 91))
      have hszr := HT.out.below.size
      by_cases hd : dueB core now (ya, yb, yc) = true
      · have HO2 : Hid (sortL ((L.take (k + 1)).filter (dueB core now)) = insL (ya, yb, yc) o) := by rw [HL.out, List.filter_append, List.filter_cons, if_pos hd, List.filter_nil, sortL_snoc, HO.out]; exact hid rfl
        have HR2 : Hid ((L.take (k + 1)).filter (fun p => !dueB core now p) = r) := by rw [HL.out, List.filter_append, List.filter_cons, if_neg (by simp [hd]), List.filter_nil, List.append_nil, HRR.out]; exact hid rfl
        have g1 : ya = core := by unfold dueB at hd; simp at hd; exact hd.1
        have g2 : yc ≤ now := by unfold dueB at hd; simp at hd; exact hd.2
        have b1 : (ya == core) = true := beq_iff_eq.2 g1
        have b2 : (ya != core) = false := by rw [bne, b1]; rfl
        have b3 : decide (now < yc) = false := decide_eq_false (by omega)
        obtain ⟨A7, cap7, rfl⟩ := own_slice HT.out.a
        clear hd g1
        go_upto_block 2 with fail
        obtain ⟨w1, hw1⟩ : ∃ w1, wr.alloc (.cells #[.int .i64 ya, .int .i64 yb, .int .i64 yc] 91) = w1 := ⟨_, rfl⟩
        have xk := blk_new wr (.cells #[.int .i64 ya, .int .i64 yb, .int .i64 yc] 91)
        have hsz1 : w1.heap.size = wr.heap.size + 1 := by rw [← hw1]; simp
        rw [hw1] at HT1 xk ⊢
        have XK := hid xk
        have HSZ1 := hid hsz1
        have HA1 := hid HT1.out.a
        clear xk hw1 hsz1 d0r d1r d2r c1r
        obtain ⟨no, hno⟩ : ∃ no, o.length = no := ⟨_, rfl⟩
        rw [hno] at hol HA1 HT HT1 ⊢
        have HNO := hid hno
        clear hno
        go_cut [11] (fun v wx => ∃ s nq : Nat, s ≤ no ∧ v = .int .i64 s ∧ wx = w1.drewN nq ∧ Hid (o.take s = o.filter (fun y => decide (y.2.2 ≤ yc)) ∧ o.drop s = o.filter (fun y => decide (yc < y.2.2))))
        case first =>
          go_wp2_with fail
          go_loopw [11] (fun i wx => ∃ q nq : Nat, q ≤ no ∧ i = .int .i64 q ∧ wx = w1.drewN nq ∧ Hid (∀ (j : Nat) (p : Nd), q ≤ j → o[j]? = some p → yc < p.2.2)) (fun i _ => (intOf i).toNat)
          case atStart => exact ⟨no, 0, by omega, rfl, rfl, hid (fun j p hj hp => by have := (List.getElem?_eq_some_iff.1 hp).1; have := HNO.out; omega)⟩
          case round =>
            obtain ⟨q, nq0, hq, rfl, rfl, hgt⟩ := hrel
            have x2 : w1.cell? ⟨wr.heap.size, 2, none⟩ = some (.int .i64 yc) := blk_cell XK.out 2
            rcases q with _ | q
            · have hfin := hid (part_at (l := o) (k := 0) (a := yc) HUP.out (by omega) hgt.out (fun p h => absurd h (by omega)))
              go_wp2_with fail
              go_quiet (fail)
              go_wp2_with fail
              go_meet
              exact ⟨0, nq0 + nq, by omega, rfl, by simp, hfin⟩
            · obtain ⟨p, hp⟩ : ∃ p, o[q]? = some p := ⟨_, List.getElem?_eq_getElem (by have := HNO.out; omega)⟩
              obtain ⟨g7, e7, p2⟩ := row_cell (j := 2) enc3_len HA1.out hp rfl
              obtain rfl := e7
              have p2n : w1.cell? ⟨g7, q * 3 + 2, none⟩ = some (.int .i64 p.2.2) := p2
              have HP := hid hp
              have hlast : q < no := by omega
              obtain ⟨pc, hpc⟩ : ∃ pc, p.2.2 = pc := ⟨_, rfl⟩
              rw [hpc] at p2n
              have HPC := hid hpc
              have hw1 : IntKind.i64.wrap (q : Int) = q := wraps_i64 _ (by omega) (by omega)
              clear hp p2 hpc
              by_cases hc : yc < pc
              · have hdc : decide (yc < pc) = true := decide_eq_true hc
                have HGT : Hid (∀ (j : Nat) (p : Nd), q ≤ j → o[j]? = some p → yc < p.2.2) := hid (fun j p' hj hp' => by
                  rcases Nat.lt_or_ge q j with h | h
                  · exact hgt.out j p' h hp'
                  · obtain rfl : q = j := by omega
                    rw [HP.out] at hp'
                    cases hp'
                    rw [HPC.out]; exact hc)
                clear hc
                go_wp2_with fail
                go_quiet (fail)
                go_wp2_with fail
                go_roundw
                case rel => exact ⟨q, nq0 + nq, by omega, rfl, by simp, HGT⟩
                case measure => simp [intOf]
              · have hdc : decide (yc < pc) = false := decide_eq_false hc
                have hfin := hid (part_at (l := o) (k := q + 1) (a := yc) HUP.out (by have := HNO.out; omega) hgt.out (fun p' _ hp' => by
                  rw [Nat.add_sub_cancel, HP.out] at hp'
                  cases hp'
                  rw [HPC.out]; omega))
                clear hc
                go_wp2_with fail
                go_quiet (fail)
                go_wp2_with fail
                go_meet
                exact ⟨q + 1, nq0 + nq, by omega, by go_num, by simp, hfin⟩
        obtain ⟨s, nq, hs, rfl, rfl, hpart⟩ := hcut
        obtain ⟨w2, hw2⟩ : ∃ w2, w1.drewN nq = w2 := ⟨_, rfl⟩
        have HT2 : Hid (TK w w2 (.slice A7 no cap7) u8 o r) := by rw [← hw2]; exact hid (HT1.out.later (below_drewN' (Below.refl _ _) nq))
        have XK2 : Hid (w2.heap[wr.heap.size]? = some (.cells #[.int .i64 ya, .int .i64 yb, .int .i64 yc] 91 (0, 0))) := by rw [← hw2]; exact hid (blk_drewN XK.out nq)
        rw [hw2]
        have hsz2 := HT2.out.below.size
        have hown2 := HT2.out.a
        rw [HNO.out] at hown2
        have hcap := own_cap hown2
        have hsrc := own_src hown2
        have hs1 : Src w2 A7 (flat enc3 (o.take s)) := by rw [← flat_take enc3_len]; exact hsrc.take _
        have hol : (flat enc3 (o.take s)).length = s * 3 := by rw [flat_length enc3_len, List.length_take, HNO.out, Nat.min_eq_left hs]
        have hc1 := hcap.1
        have hc2 : cap7 ≤ 9223372036854775807 := by have := hcap.2; unfold maxLen at this; omega
        clear hw2 HT1 XK HSZ1 HA1 HT hown2 hsrc hcap
        go_wp2_with (at_builtin; refine append_src rfl _ _ 81 rfl w.heap.size 91 i0 _ 3 24 Try.underlying81 hi hz0 hz1 hz2 rfl (by decide) (.slice none 0 0) 0 [] rfl (World.ownsRow_nil _ _ _ _) A7 s cap7 (flat enc3 (o.take s)) rfl hol hs1 (flat_one enc3_one _) (by unfold maxLen; omega) (by omega) hsz2 ?_)
        intro v3 w3 hown3 hf3 hl3
        obtain ⟨A3, c3, rfl⟩ := own_slice hown3
        have hb3 : Below w2.heap.size w2 w3 := hf3.to_below (fun x h => by cases h)
        have HT3 := hid (HT2.out.later hb3)
        have XK3 := (fr0 hb3).blk XK2.out (fun h => h)
        have k30 : w3.cell? ⟨wr.heap.size, 0, none⟩ = some (.int .i64 ya) := blk_cell XK3 0
        have k31 : w3.cell? ⟨wr.heap.size, 1, none⟩ = some (.int .i64 yb) := blk_cell XK3 1
        have k32 : w3.cell? ⟨wr.heap.size, 2, none⟩ = some (.int .i64 yc) := blk_cell XK3 2
        have AP37 : Hid (Apart (.slice A3 s c3) (.slice A7 no cap7)) := hid (Apart.grown (Apart.nil _) hl3 (HT2.out.a) (Nat.le_refl _))
        have AP38 : Hid (Apart (.slice A3 s c3) u8) := hid (Apart.grown (Apart.nil _) hl3 (HT2.out.b) (Nat.le_refl _))
        have hsz3 := HT3.out.below.size
        clear hf3 hl3 hb3 XK3 hs1
        have hsm : s < 1000000 := by omega
        go_wp2_with (at_builtin; refine append_new rfl _ _ 81 rfl w.heap.size 91 i0 _ 3 24 Try.underlying81 hi hz0 hz1 hz2 rfl (by decide) #[.int .i64 ya, .int .i64 yb, .int .i64 yc] (.slice A3 s c3) s (flat enc3 (o.take s)) rfl _ rfl rfl hown3 rfl (enc3_one (ya, yb, yc)) (by unfold maxLen; omega) (by omega) hsz3 ?_)
        intro v4 w4 hown4 hf4 hl4
        have hown4' : w4.ownsRow w.heap.size 91 3 v4 (s + 1) (flat enc3 (o.take s ++ [(ya, yb, yc)])) := by rw [flat_snoc]; exact hown4
        obtain ⟨g4, c4, cur4, rfl, _⟩ := own_shape hown4' (Nat.succ_pos _)
        have AP47 : Hid (Apart (.slice (some ⟨g4, 0, none⟩) (s + 1) c4) (.slice A7 no cap7)) := hid (Apart.grown AP37.out hl4 HT3.out.a (by omega))
        have AP48 : Hid (Apart (.slice (some ⟨g4, 0, none⟩) (s + 1) c4) u8) := hid (Apart.grown AP38.out hl4 HT3.out.b (by omega))
        have hb4 : Below w.heap.size w w4 := ((Fr.of_below (S := NoB) HT3.out.below).trans hf4 (fun b hb => .inr (own_ge hown3 b hb))).no
        have HT4 : Hid (TK w w4 (.slice A7 no cap7) u8 o r) := hid ⟨own_kept HT3.out.a hf4 (fun b hb e => AP37.out b e hb), own_kept HT3.out.b hf4 (fun b hb e => AP38.out b e hb), HT3.out.ap, hb4⟩
        have HO4 := hid hown4'
        have hsz4 := hb4.size
        have hsrc := own_src (by have h := HT4.out.a; rw [HNO.out] at h; exact h : w4.ownsRow w.heap.size 91 3 (.slice A7 no cap7) no (flat enc3 o))
        have hs4 := Src.rest hsrc (by rw [flat_length enc3_len, HNO.out]) hc1 s
        rw [flat_drop enc3_len] at hs4
        have hdl : (flat enc3 (o.drop s)).length = (no - s) * 3 := by rw [flat_length enc3_len, List.length_drop, HNO.out]
        clear hown3 hown4 hf4 hl4 hsrc hb4 HT3 HT2 k30 k31 k32
        have hown5 := hown4'
        clear hown4'
        have HINS : Hid (insL (ya, yb, yc) o = o.take s ++ [(ya, yb, yc)] ++ o.drop s) := by
          unfold insL
          rw [hpart.out.1, hpart.out.2]
          exact hid (by simp)
        by_cases hcs : cap7 = s
        · rw [if_pos hcs] at hs4
          obtain rfl : s = cap7 := hcs.symm
          obtain rfl : s = no := by omega
          rw [Nat.sub_self] at hdl
          go_wp2_with (at_builtin; refine append_src rfl _ _ 81 rfl w.heap.size 91 i0 _ 3 24 Try.underlying81 hi hz0 hz1 hz2 rfl (by decide) (.slice (some ⟨g4, 0, none⟩) (s + 1) c4) (s + 1) _ rfl hown5 A7 0 0 (flat enc3 (o.drop s)) rfl hdl hs4 (flat_one enc3_one _) (by unfold maxLen; omega) (by omega) hsz4 ?_)
          intro v5 w5 hown6 hf5 hl5
          have hT5 : TK w w5 v5 u8 (insL (ya, yb, yc) o) r := ⟨by rw [insL_len, HNO.out, HINS.out, flat_append]; exact hown6, own_kept HT4.out.b hf5 (fun b hb e => AP48.out b e hb), Apart.grown AP48.out hl5 HT4.out.b (Nat.le_refl _), ((Fr.of_below (S := NoB) HT4.out.below).trans hf5 (fun b hb => .inr (own_ge HO4.out b hb))).no⟩
          have HT5 := hid hT5
          clear hown6 hf5 hl5 hT5 hown5 hs4
          go_wp2_with fail
          go_roundw
          case rel => exact ⟨k + 1, by omega, by go_num, by rw [HO2.out, HR2.out]; exact HT5.out⟩
          case measure => simp [intOf]; omega
        · rw [if_neg hcs] at hs4
          go_wp2_with (at_builtin; refine append_src rfl _ _ 81 rfl w.heap.size 91 i0 _ 3 24 Try.underlying81 hi hz0 hz1 hz2 rfl (by decide) (.slice (some ⟨g4, 0, none⟩) (s + 1) c4) (s + 1) _ rfl hown5 (A7.map (·.add (s * 3))) (no - s) (cap7 - s) (flat enc3 (o.drop s)) rfl hdl hs4 (flat_one enc3_one _) (by unfold maxLen; omega) (by omega) hsz4 ?_)
          intro v5 w5 hown6 hf5 hl5
          have hT5 : TK w w5 v5 u8 (insL (ya, yb, yc) o) r := ⟨by rw [insL_len, HNO.out, HINS.out, flat_append]; rw [show s + 1 + (no - s) = no + 1 by omega] at hown6; exact hown6, own_kept HT4.out.b hf5 (fun b hb e => AP48.out b e hb), Apart.grown AP48.out hl5 HT4.out.b (Nat.le_refl _), ((Fr.of_below (S := NoB) HT4.out.below).trans hf5 (fun b hb => .inr (own_ge HO4.out b hb))).no⟩
          have HT5 := hid hT5
          clear hown6 hf5 hl5 hT5 hown5 hs4
          go_wp2_with fail
          go_roundw
          case rel => exact ⟨k + 1, by omega, by go_num, by rw [HO2.out, HR2.out]; exact HT5.out⟩
          case measure => simp [intOf]; omega
      · have HR2 : Hid ((L.take (k + 1)).filter (fun p => !dueB core now p) = r ++ [(ya, yb, yc)]) := by rw [HL.out, List.filter_append, List.filter_cons, if_pos (by simp [hd]), List.filter_nil, HRR.out]; exact hid rfl
        have HO2 : Hid (sortL ((L.take (k + 1)).filter (dueB core now)) = o) := by rw [HL.out, List.filter_append, List.filter_cons, if_neg hd, List.filter_nil, List.append_nil, HO.out]; exact hid rfl
        have hcase : ya ≠ core ∨ (ya = core ∧ now < yc) := by
          unfold dueB at hd
          simp at hd
          by_cases h : ya = core
          · exact .inr ⟨h, hd h⟩
          · exact .inl h
        have HCASE := hid hcase
        have hownb := HT1.out.b
        clear hd hcase
        rcases HCASE.out with h | ⟨h1, h2⟩
        · have b1 : (ya == core) = false := beq_eq_false_iff_ne.2 h
          have b2 : (ya != core) = true := by rw [bne, b1]; rfl
          clear h
          go_wp2_with (at_builtin; refine append_new (W := wr.alloc (.cells #[.int .i64 ya, .int .i64 yb, .int .i64 yc] 91)) rfl _ _ 81 rfl w.heap.size 91 i0 _ 3 24 Try.underlying81 hi hz0 hz1 hz2 rfl (by decide) #[.int .i64 ya, .int .i64 yb, .int .i64 yc] u8 r.length (flat enc3 r) rfl (wr.heap.size + 1) rfl (by simp) hownb rfl (enc3_one (ya, yb, yc)) (by unfold maxLen; omega) (by omega) (by simp; omega) ?_)
          intro v8 w2 hown2 hf2 hl2
          have hap2 : Apart u7 v8 := (Apart.grown HT1.out.ap.symm hl2 HT1.out.a (by simp)).symm
          have HT2 : Hid (TK w w2 u7 v8 o (r ++ [(ya, yb, yc)])) := hid ⟨own_kept HT1.out.a hf2 (fun b hb e => HT1.out.ap b hb e), by rw [flat_snoc, List.length_append]; exact hown2, hap2, ((Fr.of_below (S := NoB) HT1.out.below).trans hf2 (fun b hb => .inr (own_ge HT1.out.b b hb))).no⟩
          clear hown2 hf2 hl2 hap2 hownb
          go_wp2_with fail
          go_roundw
          case rel => exact ⟨k + 1, by omega, by go_num, by rw [HO2.out, HR2.out]; exact HT2.out⟩
          case measure => simp [intOf]; omega
        · have b1 : (ya == core) = true := beq_iff_eq.2 h1
          have b2 : (ya != core) = false := by rw [bne, b1]; rfl
          clear h1
          go_wp2_with (at_builtin; refine append_new (W := wr.alloc (.cells #[.int .i64 ya, .int .i64 yb, .int .i64 yc] 91)) rfl _ _ 81 rfl w.heap.size 91 i0 _ 3 24 Try.underlying81 hi hz0 hz1 hz2 rfl (by decide) #[.int .i64 ya, .int .i64 yb, .int .i64 yc] u8 r.length (flat enc3 r) rfl (wr.heap.size + 1) rfl (by simp) hownb rfl (enc3_one (ya, yb, yc)) (by unfold maxLen; omega) (by omega) (by simp; omega) ?_)
          intro v8 w2 hown2 hf2 hl2
          have hap2 : Apart u7 v8 := (Apart.grown HT1.out.ap.symm hl2 HT1.out.a (by simp)).symm
          have HT2 : Hid (TK w w2 u7 v8 o (r ++ [(ya, yb, yc)])) := hid ⟨own_kept HT1.out.a hf2 (fun b hb e => HT1.out.ap b hb e), by rw [flat_snoc, List.length_append]; exact hown2, hap2, ((Fr.of_below (S := NoB) HT1.out.below).trans hf2 (fun b hb => .inr (own_ge HT1.out.b b hb))).no⟩
          clear hown2 hf2 hl2 hap2 hownb
          go_wp2_with fail
          go_roundw
          case rel => exact ⟨k + 1, by omega, by go_num, by rw [HO2.out, HR2.out]; exact HT2.out⟩
          case measure => simp [intOf]; omega
    · have hkm : L.take k = L := List.take_of_length_le (by have := HM.out; omega)
      have ho2 : takeL L core now = o := by unfold takeL; rw [← hkm]; exact HO.out
      have hr2 : restL L core now = r := by unfold restL; rw [← hkm]; exact HRR.out
      have HOE := hid ho2
      have HRE := hid hr2
      obtain ⟨A8, c8, rfl⟩ := own_slice HT.out.b
      have hxr := (fr0 HT.out.below).blk HX.out (fun h => h)
      have f1 : wr.frozen? ⟨x, 1, none⟩ = false := blk_free hxr 1
      have HXR := hid hxr
      clear hkm ho2 hr2 hxr
      go_upto_region 17 with fail
      obtain ⟨ws, hws⟩ : ∃ ws, wr.setCell ⟨x, 1, none⟩ (.slice A8 r.length c8) = ws := ⟨_, rfl⟩
      have hFs : Fr (One x) wr ws := by rw [← hws]; exact (Fr.refl (One x) wr).one 1 _
      have hX2 : ws.heap[x]? = some (.cells #[.int .i64 cores, .slice A8 r.length c8] 83 (0, 0)) := by rw [← hws]; simpa using blk_set HXR.out 1 (.slice A8 r.length c8)
      have hne7 : ∀ b, u7.ownBlock = some b → ¬ One x b := fun b hb e => by have h1 := own_ge HT.out.a b hb; have h2 : b = x := e; omega
      have hne8 : ∀ b, (Value.slice A8 r.length c8).ownBlock = some b → ¬ One x b := fun b hb e => by have h1 := own_ge HT.out.b b hb; have h2 : b = x := e; omega
      have hO7 := own_kept HT.out.a hFs hne7
      have hO8 := own_kept HT.out.b hFs hne8
      have hwsz : w.heap.size ≤ ws.heap.size := Nat.le_trans HT.out.below.size hFs.size
      have hR : R10 ws base x (.slice A8 r.length c8) cores r := ⟨hX2, own_mono hO8 (by omega), hbx⟩
      have hF0 : Fr (One x) w ws := (Fr.of_below (S := One x) HT.out.below).trans hFs (fun b hb => .inl hb)
      rw [hws]
      obtain ⟨no, hno⟩ : ∃ no, o.length = no := ⟨_, rfl⟩
      rw [hno] at hol hO7
      obtain ⟨A7, c7, rfl⟩ := own_slice hO7
      have HO7 := hid hO7
      have HNO := hid hno
      have HF0 := hid hF0
      have HRS := hid hR
      have HGE8 := hid (own_ge HT.out.b)
      have htl : (o.map (·.2.1)).length = no := by rw [List.length_map, hno]
      have HTL := hid htl
      clear hws hFs hX2 hne7 hne8 hO7 hO8 hno hF0 hR c1r f1 htl HT
      go_wp2_with fail
      go_loopw [13, 14] (fun v13 i wx => ∃ j : Nat, j ≤ no ∧ i = .int .i64 j ∧ wx.ownsRow ws.heap.size 3 1 v13 j (intCells ((o.map (·.2.1)).take j)) ∧ Below ws.heap.size ws wx) (fun _ i _ => no - (intOf i).toNat)
      case atStart => exact ⟨0, by omega, rfl, World.ownsRow_nil _ _ _ _, Below.refl _ _⟩
      case round =>
        obtain ⟨j, hj, rfl, hown, hb⟩ := hrel
        have HB := hid hb
        have hszx := hb.size
        by_cases hjn : j < no
        · obtain ⟨p, hp⟩ : ∃ p, o[j]? = some p := ⟨_, List.getElem?_eq_getElem (by have := HNO.out; omega)⟩
          obtain ⟨g7, e7, d1⟩ := row_cell (j := 1) enc3_len HO7.out hp rfl
          obtain rfl := e7
          have d1x := (hb.cell (World.block_lt_of_cell? _ _ d1)).trans d1
          have hp2 : (o.map (·.2.1))[j]? = some p.2.1 := by rw [List.getElem?_map, hp]; rfl
          have HIT := hid (int_take hp2)
          have HOW := hid hown
          clear hp hp2 d1 hb
          go_wp2_with (at_builtin; refine append_new rfl _ _ 34 rfl ws.heap.size 3 i1 _ 1 8 Try.underlying34 hi1 hy0 hy1 hy2 rfl (by decide) #[.int .i64 p.2.1] u13 j (intCells ((o.map (·.2.1)).take j)) rfl _ rfl rfl hown rfl (one_one _) (by unfold maxLen; omega) (by omega) hszx ?_)
          intro v6 w6 hown6 hf6 hl6
          have HO6 : Hid (w6.ownsRow ws.heap.size 3 1 v6 (j + 1) (intCells ((o.map (·.2.1)).take (j + 1)))) := by rw [HIT.out]; exact hid hown6
          have HB6 : Hid (Below ws.heap.size ws w6) := hid ((Fr.of_below (S := NoB) HB.out).trans hf6 (fun b hb => .inr (own_ge HOW.out b hb))).no
          clear hown6 hf6 hl6 hown
          go_wp2_with fail
          go_roundw
          case rel => exact ⟨j + 1, by omega, by go_num, HO6.out, HB6.out⟩
          case measure => simp [intOf]; omega
        · obtain rfl : j = no := by omega
          have hown2 : wr.ownsRow ws.heap.size 3 1 u13 j (intCells (o.map (·.2.1))) := by rw [List.take_of_length_le (by have := HTL.out; omega)] at hown; exact hown
          have HO2 := hid hown2
          obtain ⟨A13, c13, rfl⟩ := own_slice hown2
          have HB2 := hid hb
          clear hown hown2 hb HB
          go_wp2_with fail
          go_ret
          have hF : Fr (R10Set x (.slice A m cap)) w wr := (HF0.out.mono (fun b hb => .inl (.inl hb))).andBelow HB2.out
          refine ⟨_, rfl, ?_, ⟨.slice A8 r.length c8, ?_, hF, fun b hb => ?_⟩, fun b hb => Nat.le_trans hwsz (own_ge HO2.out b hb)⟩
          · rw [HOE.out, HTL.out]
            exact own_mono HO2.out hwsz
          · rw [HRE.out]; exact HRS.out.later HB2.out
          · rcases hb with hb | hb
            · exact .inl (.inl hb)
            · exact .inr (HGE8.out b hb)
end
end Go.Proofs.Ytbkjlohlfkokpaa
