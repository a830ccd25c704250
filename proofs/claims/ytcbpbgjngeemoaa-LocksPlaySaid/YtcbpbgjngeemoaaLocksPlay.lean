/- LocksPlay: locks do, deed by deed, just what the document's locks do: the walk. Whatever number of resources, whatever deeds. -/
import Derived.Test.YtcbpbgjngeemoaaRef13c
import Derived.Test.YtcbpbgjngeemoaaLocksApart
import Derived.Deep.QuietTactic
set_option linter.unusedVariables false
set_option linter.unusedSimpArgs false
namespace Go.Proofs.Ytcbpbgjngeemoaa
open Go.RowKit

theorem wp_region_class {P : Program} {C : World → Prop} {id : Nat} {Q : Exit → Act → World → Prop} {a : Act} {w : World} {l : List Oper} (hm : P.follows .mixedOrders = true) (hB : Region.lexB .any l.toArray = true) (hC : C w.drew)
    (h : wpQuiet P l.toArray C (fun a' => ∀ w', C w' → Q .normal a' w') l a) : (Code.region id l.toArray true).wp P Q a w :=
  wp_region_quiet (C := C) hm hB hC (by simpa using h)
theorem QInv.few {Q : List (List Int)} (h : QInv Q) : ∀ q ∈ Q, q.length ≤ 24 := fun q hq => by
  obtain ⟨i, hi, rfl⟩ := List.getElem_of_mem hq
  obtain ⟨a, b⟩ := h.nodup i _ (List.getElem?_eq_getElem hi)
  exact nodup_bound 24 _ a b
/-- A lock and the document's, behind a call's start. -/
structure LP (w wx : World) (b bm : Nat) (qv : Value) (P : List (Nat × Nat)) (x g : Nat) (vs : List Value) (c : Nat) (Qa Qb : List (List Int)) : Prop where
  below : Below w.heap.size w wx
  lock : LockAt wx w.heap.size b bm qv P c Qa
  ref : R13 wx w.heap.size x g vs Qb
  ap : ∀ k, LSet b bm qv P k → ¬ RSet x g vs k
/-- A block beside both. -/
structure By (wx : World) (D : Nat) (o : Obj) (b bm : Nat) (qv : Value) (P : List (Nat × Nat)) (x g : Nat) (vs : List Value) : Prop where
  blk : wx.heap[D]? = some o
  nl : ¬ LSet b bm qv P D
  nr : ¬ RSet x g vs D
section
variable {w wx w' : World} {b bm : Nat} {qv : Value} {P : List (Nat × Nat)} {x g : Nat} {vs : List Value} {c D : Nat} {Qa Qb Q' : List (List Int)} {o : Obj}
theorem LP.later (h : LP w wx b bm qv P x g vs c Qa Qb) (hb : Below wx.heap.size wx w') : LP w w' b bm qv P x g vs c Qa Qb := ⟨below_then h.below hb, h.lock.later hb, h.ref.later hb, h.ap⟩
theorem By.later (h : By wx D o b bm qv P x g vs) (hb : Below wx.heap.size wx w') : By w' D o b bm qv P x g vs := ⟨(fr0 hb).blk h.blk (fun h => h), h.nl, h.nr⟩
theorem LP.mono (h : LP w wx b bm qv P x g vs c Qa Qb) {c' : Nat} (hc : c ≤ c') : LP w wx b bm qv P x g vs c' Qa Qb := ⟨h.below, h.lock.mono hc, h.ref, h.ap⟩
theorem LP.lockStep (h : LP w wx b bm qv P x g vs c Qa Qb) (hB : LockBehind wx w.heap.size b bm c qv P Q' w') : LP w w' b bm qv P x g vs (c + 2) Q' Qb :=
  ⟨((Fr.of_below (S := NoB) h.below).trans hB.2 (fun y hy => .inr (h.lock.part.lt y hy).1)).no, hB.1, h.ref.kept hB.2 (fun j hj hl => h.ap j hl hj), h.ap⟩
theorem By.lockStep (h : By wx D o b bm qv P x g vs) {base : Nat} (hB : LockBehind wx base b bm c qv P Q' w') : By w' D o b bm qv P x g vs := ⟨hB.2.blk h.blk h.nl, h.nl, h.nr⟩
theorem LP.refStep (h : LP w wx b bm qv P x g vs c Qa Qb) (hB : R13Behind wx w.heap.size x g vs Q' w') : ∃ vs', LP w w' b bm qv P x g vs' c Qa Q' ∧ ∀ D o, By wx D o b bm qv P x g vs → By w' D o b bm qv P x g vs' := by
  obtain ⟨vs', hR, hF, hN⟩ := hB
  refine ⟨vs', ⟨((Fr.of_below (S := NoB) h.below).trans hF (fun y hy => .inr (h.ref.lt y hy).1)).no, h.lock.kept hF (fun j hj hl => h.ap j hj hl), hR, fun k hk e => ?_⟩, fun D o hD => ⟨hF.blk hD.blk hD.nr, hD.nl, fun e => ?_⟩⟩
  · rcases hN k e with e | e
    · exact h.ap k hk e
    · have := (h.lock.part.lt k hk).2; omega
  · rcases hN D e with e | e
    · exact hD.nr e
    · have := blk_lt hD.blk; omega
theorem LP.beside (h : LP w wx b bm qv P x g vs c Qa Qb) (o : Obj) : LP w (wx.alloc o) b bm qv P x g vs c Qa Qb ∧ By (wx.alloc o) wx.heap.size o b bm qv P x g vs :=
  ⟨h.later ((Below.refl _ _).alloc (Nat.le_refl _) _), blk_new _ _, fun e => by have := (h.lock.part.lt _ e).2; omega, fun e => by have := (h.ref.lt _ e).2; omega⟩
theorem LP.setRow (h : LP w wx b bm qv P x g vs c Qa Qb) {k : Nat} (hg : ¬ LSet b bm qv P k ∧ ¬ RSet x g vs k ∧ w.heap.size ≤ k) (i : Nat) (u : Value) : LP w (wx.setCell ⟨k, i, none⟩ u) b bm qv P x g vs c Qa Qb :=
  have hF : Fr (One k) wx (wx.setCell ⟨k, i, none⟩ u) := (Fr.refl (One k) wx).one i u
  ⟨((Fr.of_below (S := NoB) h.below).trans hF (fun j hj => .inr (by rw [show j = k from hj]; exact hg.2.2))).no, h.lock.kept hF (fun j hj e => hg.1 (by rw [← show j = k from e]; exact hj)), h.ref.kept hF (fun j hj e => hg.2.1 (by rw [← show j = k from e]; exact hj)), h.ap⟩
end

set_option maxRecDepth 1000000 in
set_option maxHeartbeats 1600000 in
theorem locksplay_no {w : World} (n : Int) (A : Option Addr) (len cap : Nat) (h0 : n < 0 ∨ 8 < n) :
    Calls Try.prog 10 #[.int .i64 n, .slice A len cap] w fun e w' => e = .returned (.bool true) ∧ Below w.heap.size w w' := by
  go_enter Try.func10, Try.ntmps10
  go_wp2_with fail
  refine lockex_any.mono ?_
  rintro e w1 ⟨rfl, hb1⟩
  go_wp2_with fail
  refine (locks_new_no n h0).mono ?_
  rintro e w2 ⟨rfl, rfl⟩
  go_wp2_with fail
  refine (r13_new_no n h0).mono ?_
  rintro e w3 ⟨rfl, rfl⟩
  go_wp2_with fail
  go_ret
  exact ⟨rfl, hb1⟩
set_option maxRecDepth 1000000 in
set_option maxHeartbeats 1600000 in
theorem locksplay_yes {w : World} (n : Nat) (A : Option Addr) (len cap : Nat) (hn8 : n ≤ 8) (hlen : len ≤ 9223372036854775807) (Z : Nat → Nat → Int) (hz : IntRows w A len 3 Z) :
    Calls Try.prog 10 #[.int .i64 n, .slice A len cap] w fun e w' => e = .returned (.bool true) ∧ Below w.heap.size w w' := by
  have HZ := hid hz
  clear hz
  go_enter Try.func10, Try.ntmps10
  go_wp2_with fail
  refine lockex_any.mono ?_
  rintro e w1 ⟨rfl, hb1⟩
  go_wp2_with fail
  refine (locks_new_yes n hn8).mono ?_
  rintro e w2 ⟨b, bm, qv, P, rfl, H0, hb2⟩
  go_wp2_with fail
  refine (r13_new_yes n hn8).mono ?_
  rintro e w3 ⟨x, g, vs0, rfl, H1, hb3⟩
  have hsz := hb1.size
  have hsz2 := hb2.size
  have hHA : LP w w3 b bm qv P x g vs0 0 (List.replicate n []) (List.replicate n []) := ⟨below_then (below_then hb1 hb2) hb3, (H0.later hb3).base hsz, H1.weak (by omega), fun k h1 h2 => by have := (H0.part.lt k h1).2; have := (H1.lt k h2).1; omega⟩
  have HA := hid hHA
  clear H0 H1 hb1 hb2 hb3 hsz hsz2 hHA
  obtain ⟨Q0, hQ0⟩ : ∃ v : List (List Int), v = List.replicate n [] := ⟨_, rfl⟩
  have hl0 : Q0.length = n := by rw [hQ0]; simp
  rw [← hQ0] at HA
  clear hQ0
  go_wp2_with fail
  go_loopw [9] (fun i wr => ∃ (k : Nat) (vs : List Value) (Q : List (List Int)), k ≤ len ∧ k ≤ 300 ∧ i = .int .i64 k ∧ LP w wr b bm qv P x g vs (2 * k) Q Q ∧ Hid (Q.length = n)) (fun i _ => 300 - (intOf i).toNat)
  case atStart => exact ⟨0, vs0, Q0, by omega, by omega, rfl, HA.out, hl0⟩
  case round =>
    obtain ⟨k, vs, Q, hk1, hk2, rfl, hI, hV⟩ := hrel
    by_cases h1 : k < len
    · by_cases h2 : k < 300
      · obtain ⟨ab, ao, rfl, hbl, hcs⟩ := HZ.out k h1
        obtain ⟨hc0, hd0, hd1⟩ := hcs 0 (by omega)
        obtain ⟨hc1, hr0, hr1⟩ := hcs 1 (by omega)
        obtain ⟨hc2, ht0, ht1⟩ := hcs 2 (by omega)
        have c0 : wr.cell? ⟨ab, ao + k * 3, none⟩ = some (.int .i64 (Z k 0)) := (hI.below.cell hbl).trans hc0
        have c1 : wr.cell? ⟨ab, ao + k * 3 + 1, none⟩ = some (.int .i64 (Z k 1)) := (hI.below.cell hbl).trans hc1
        have c2 : wr.cell? ⟨ab, ao + k * 3 + 2, none⟩ = some (.int .i64 (Z k 2)) := (hI.below.cell hbl).trans hc2
        clear hc0 hc1 hc2 hcs
        generalize Z k 0 = d0 at *
        generalize Z k 1 = d1 at *
        generalize Z k 2 = d2 at *
        have hK := pickN_bd d0 2 (by omega)
        have HKp := hid (fun W => lockpick_any (w := W) d0 2 hd0 hd1 (by omega) (by omega))
        generalize pickN d0 2 = K at *
        obtain ⟨hI1, hD1⟩ := hI.beside (.cells #[.int .i64 d0, .int .i64 d1, .int .i64 d2] 75)
        have f1 : (wr.alloc (.cells #[.int .i64 d0, .int .i64 d1, .int .i64 d2] 75)).cell? ⟨wr.heap.size, 1, none⟩ = some (.int .i64 d1) := blk_cell (blk_new _ _) 1
        have f2 : (wr.alloc (.cells #[.int .i64 d0, .int .i64 d1, .int .i64 d2] 75)).cell? ⟨wr.heap.size, 2, none⟩ = some (.int .i64 d2) := blk_cell (blk_new _ _) 2
        have HI := hid hI1
        have HD := hid hD1
        have hV8 := hid (show Q.length ≤ 8 by have := hV.out; omega)
        have hV9 := hid (show ∀ q ∈ Q, q.length < 100000 from fun q hq => by have := hI1.lock.inv.few q hq; omega)
        clear hI hI1 hD1
        go_upto_if 60 with (go_at_call_of 45 (Value.int IntKind.i64 d0); refine (HKp.out _).mono ?_; rintro e w' ⟨rfl, rfl⟩)
        go_cut [11, 12, 13, 14] (fun a b' f g' wx => ∃ (p y : Int) (vs : List Value) (Q : List (List Int)), a = .int .i64 p ∧ b' = .int .i64 p ∧ f = .int .i64 y ∧ g' = .int .i64 y ∧ LP w wx b bm qv P x g vs (2 * (k + 1)) Q Q ∧ By wx wr.heap.size (.cells #[.int .i64 d0, .int .i64 d1, .int .i64 d2] 75) b bm qv P x g vs ∧ Hid (Q.length = n))
        case first =>
          as_aux_lemma =>
            rcases (show K = 0 ∨ K = 1 by omega) with rfl | rfl
            · obtain ⟨p, hp⟩ : ∃ p, askQ Q d1 d2 = p := ⟨_, rfl⟩
              obtain ⟨p, y, Q'⟩ := p
              have HP := hid hp
              have hlq := hid (show Q'.length = n by
                have h := hV.out
                unfold askQ at hp
                split at hp
                · simp only [Prod.mk.injEq] at hp; rw [← hp.2.2]; exact h
                · split at hp
                  · simp only [Prod.mk.injEq] at hp; rw [← hp.2.2]; exact h
                  · simp only [Prod.mk.injEq] at hp; rw [← hp.2.2, List.length_set]; exact h)
              clear hp
              go_wp2_with fail
              refine (lock_ask HI.out.lock d1 d2 hV8.out (by omega) HP.out).mono ?_
              rintro e w4 ⟨rfl, hB4⟩
              have HI4 := hid (HI.out.lockStep hB4)
              have HD4 := hid (HD.out.lockStep hB4)
              have f14 : w4.cell? ⟨wr.heap.size, 1, none⟩ = some (.int .i64 d1) := blk_cell HD4.out.blk 1
              have f24 : w4.cell? ⟨wr.heap.size, 2, none⟩ = some (.int .i64 d2) := blk_cell HD4.out.blk 2
              clear hB4
              go_wp2_with fail
              refine (r13_ask HI4.out.ref d1 d2 hV8.out hV9.out HP.out).mono ?_
              rintro e w5 ⟨rfl, hB5⟩
              obtain ⟨vs', hI5, hD5⟩ := HI4.out.refStep hB5
              have HI5 := hid hI5
              have HD5 := hid (hD5 _ _ HD4.out)
              clear hB5 hI5 hD5
              go_wp2_with fail
              go_meet
              exact ⟨p, y, vs', Q', rfl, rfl, rfl, rfl, HI5.out.mono (by omega), HD5.out, hlq.out⟩
            · obtain ⟨p, hp⟩ : ∃ p, freeQ Q d2 = p := ⟨_, rfl⟩
              obtain ⟨p, y, Q'⟩ := p
              have HP := hid hp
              have hlq := hid (show Q'.length = n by
                have h := hV.out
                unfold freeQ freedQ at hp
                split at hp
                · simp only [Prod.mk.injEq] at hp; rw [← hp.2.2, List.length_set]; exact h
                · simp only [Prod.mk.injEq] at hp; rw [← hp.2.2]; exact h)
              clear hp
              go_wp2_with fail
              refine (lock_free HI.out.lock ht0 ht1 (by omega) HP.out).mono ?_
              rintro e w4 ⟨rfl, hB4⟩
              have HI4 := hid (HI.out.lockStep hB4)
              have HD4 := hid (HD.out.lockStep hB4)
              have f24 : w4.cell? ⟨wr.heap.size, 2, none⟩ = some (.int .i64 d2) := blk_cell HD4.out.blk 2
              clear hB4
              go_wp2_with fail
              refine (r13_free HI4.out.ref HI.out.lock.inv hV8.out hV9.out HP.out).mono ?_
              rintro e w5 ⟨rfl, hB5⟩
              obtain ⟨vs', hI5, hD5⟩ := HI4.out.refStep hB5
              have HI5 := hid hI5
              have HD5 := hid (hD5 _ _ HD4.out)
              clear hB5 hI5 hD5
              go_wp2_with fail
              go_meet
              exact ⟨p, y, vs', Q', rfl, rfl, rfl, rfl, HI5.out.mono (by omega), HD5.out, hlq.out⟩
        obtain ⟨p, y, vs', Q', rfl, rfl, rfl, rfl, hJ, hD, hV'⟩ := hcut
        have HJ := hid hJ
        have HD' := hid hD
        clear hJ hD
        obtain ⟨C, hCd⟩ : ∃ C : World → Prop, C = fun W => LP w W b bm qv P x g vs' (2 * (k + 1)) Q' Q' ∧ By W wr.heap.size (.cells #[.int .i64 d0, .int .i64 d1, .int .i64 d2] 75) b bm qv P x g vs' := ⟨_, rfl⟩
        have HC0 := hid (show ∀ W W', C W → Below W.heap.size W W' → C W' from fun W W' h hb => by rw [hCd] at h ⊢; exact ⟨h.1.later hb, h.2.later hb⟩)
        have HCl := hid (show ∀ W, C W → LP w W b bm qv P x g vs' (2 * (k + 1)) Q' Q' from fun W h => by rw [hCd] at h; exact h.1)
        have HCd := hid (show ∀ W, C W → By W wr.heap.size (.cells #[.int .i64 d0, .int .i64 d1, .int .i64 d2] 75) b bm qv P x g vs' from fun W h => by rw [hCd] at h; exact h.2)
        have HCs := hid (show C wc from by rw [hCd]; exact ⟨HJ.out, HD'.out⟩)
        have h8 : Q'.length ≤ 8 := by have := hV'.out; omega
        have hl2 := hid (show ∀ q ∈ Q', q.length < 4611686018427387904 from fun q hq => by have := HJ.out.lock.inv.few q hq; omega)
        have hl1 := hid (show ∀ q ∈ Q', q.length < 100000 from fun q hq => by have := HJ.out.lock.inv.few q hq; omega)
        have F1 := hid (show ∀ W, C W → W.cell? ⟨wr.heap.size, 1, none⟩ = some (.int .i64 d1) from fun W h => blk_cell (HCd.out W h).blk 1)
        have F2 := hid (show ∀ W, C W → W.cell? ⟨wr.heap.size, 2, none⟩ = some (.int .i64 d2) from fun W h => blk_cell (HCd.out W h).blk 2)
        obtain ⟨hh, hhh⟩ : ∃ hh, holderQ Q' d1 = hh := ⟨_, rfl⟩
        obtain ⟨ww, hww⟩ : ∃ ww, wantsQ Q' d2 = ww := ⟨_, rfl⟩
        obtain ⟨ss, hss⟩ : ∃ ss, hasQ Q' d2 = ss := ⟨_, rfl⟩
        have A1 := hid (show ∀ W, C W → Calls Try.prog 50 #[.pointer (some ⟨b, 0, none⟩), .int .i64 d1] W (fun e w' => e = .returned (.int .i64 hh) ∧ C w') from fun W h => (lock_holder (HCl.out W h).lock d1).mono fun e w' ⟨he, hb⟩ => ⟨by rw [he, hhh], HC0.out W w' h hb⟩)
        have A2 := hid (show ∀ W, C W → Calls Try.prog 51 #[.pointer (some ⟨x, 0, none⟩), .int .i64 d1] W (fun e w' => e = .returned (.int .i64 hh) ∧ C w') from fun W h => (r13_holder (HCl.out W h).ref d1 h8 hl2.out).mono fun e w' ⟨he, hb⟩ => ⟨by rw [he, hhh], by rw [hb]; exact h⟩)
        have A3 := hid (show ∀ W, C W → Calls Try.prog 52 #[.pointer (some ⟨b, 0, none⟩), .int .i64 d2] W (fun e w' => e = .returned (.int .i64 ww) ∧ C w') from fun W h => (lock_wants (HCl.out W h).lock ht0 ht1).mono fun e w' ⟨he, hb⟩ => ⟨by rw [he, hww], by rw [hb]; exact h⟩)
        have A4 := hid (show ∀ W, C W → Calls Try.prog 53 #[.pointer (some ⟨x, 0, none⟩), .int .i64 d2] W (fun e w' => e = .returned (.int .i64 ww) ∧ C w') from fun W h => (r13_wants (HCl.out W h).ref d2 h8 hl2.out).mono fun e w' ⟨he, hb⟩ => ⟨by rw [he, hww], by rw [hb]; exact h⟩)
        have A5 := hid (show ∀ W, C W → Calls Try.prog 54 #[.pointer (some ⟨b, 0, none⟩), .int .i64 d2] W (fun e w' => e = .returned (.bool ss) ∧ C w') from fun W h => (lock_has (HCl.out W h).lock ht0 ht1).mono fun e w' ⟨he, nn, hb⟩ => ⟨by rw [he, hss], HC0.out W w' h (by rw [hb]; exact below_drewN' (Below.refl _ _) nn)⟩)
        have A6 := hid (show ∀ W, C W → Calls Try.prog 55 #[.pointer (some ⟨x, 0, none⟩), .int .i64 d2] W (fun e w' => e = .returned (.bool ss) ∧ C w') from fun W h => (r13_has (HCl.out W h).ref d2 h8 hl2.out).mono fun e w' ⟨he, hb⟩ => ⟨by rw [he, hss], by rw [hb]; exact h⟩)
        clear hCd hhh hww hss
        go_upto_region 21 with fail
        refine wp_region_class (C := C) (by kernel_rfl) (by kernel_rfl) (HC0.out _ _ HCs.out (below_drewN' (Below.refl _ wc) 1)) ?_
        refine wpQuiet_step (fun K hK => ?_)
        rw [if_pos (by rfl)]
        refine Exists.intro ?_ (And.intro (fun W HW => ?_) (hK _ ?_))
        rotate_left
        · ((go_simp); all_goals (with_reducible rfl))
        clear hK K
        try simp only [Act.put, List.setIfInBounds_toArray, List.set_cons_zero, List.set_cons_succ]
        refine wpQuiet_step (fun K hK => ?_)
        rw [if_pos (by rfl)]
        refine Exists.intro ?_ (And.intro (fun W HW => ?_) (hK _ ?_))
        rotate_left
        · ((go_simp); all_goals (with_reducible rfl))
        clear hK K
        try simp only [Act.put, List.setIfInBounds_toArray, List.set_cons_zero, List.set_cons_succ]
        refine wpQuiet_step (fun K hK => ?_)
        rw [if_pos (by rfl)]
        refine Exists.intro ?_ (And.intro (fun W HW => ?_) (hK _ ?_))
        rotate_left
        · ((go_simp); all_goals (with_reducible rfl))
        clear hK K
        try simp only [Act.put, List.setIfInBounds_toArray, List.set_cons_zero, List.set_cons_succ]
        refine wpQuiet_step (fun K hK => ?_)
        rw [if_pos (by rfl)]
        refine Exists.intro ?_ (And.intro (fun W HW => ?_) (hK _ ?_))
        rotate_left
        · ((go_simp); all_goals (with_reducible rfl))
        clear hK K
        try simp only [Act.put, List.setIfInBounds_toArray, List.set_cons_zero, List.set_cons_succ]
        refine wpQuiet_step (fun K hK => ?_)
        rw [if_pos (by rfl)]
        refine Exists.intro ?_ (And.intro (fun W HW => ?_) (hK _ ?_))
        rotate_left
        · ((go_simp); all_goals (with_reducible rfl))
        clear hK K
        try simp only [Act.put, List.setIfInBounds_toArray, List.set_cons_zero, List.set_cons_succ]
        refine wpQuiet_step (fun K hK => ?_)
        rw [if_pos (by rfl)]
        refine Exists.intro ?_ (And.intro (fun W HW => ?_) (hK _ ?_))
        rotate_left
        · ((go_simp); all_goals (with_reducible rfl))
        clear hK K
        try simp only [Act.put, List.setIfInBounds_toArray, List.set_cons_zero, List.set_cons_succ]
        refine wpQuiet_step (fun K hK => ?_)
        rw [if_pos (by rfl)]
        refine Exists.intro ?_ (And.intro (fun W HW => ?_) (hK _ ?_))
        rotate_left
        · ((go_simp); all_goals (with_reducible rfl))
        clear hK K
        try simp only [Act.put, List.setIfInBounds_toArray, List.set_cons_zero, List.set_cons_succ]
        refine wpQuiet_step (fun K hK => ?_)
        rw [if_pos (by rfl)]
        refine Exists.intro ?_ (And.intro (fun W HW => ?_) (hK _ ?_))
        rotate_left
        · ((go_simp); all_goals (with_reducible rfl))
        clear hK K
        try simp only [Act.put, List.setIfInBounds_toArray, List.set_cons_zero, List.set_cons_succ]
        refine wpQuiet_step (fun K hK => ?_)
        rw [if_pos (by rfl)]
        refine Exists.intro ?_ (And.intro (fun W HW => ?_) (hK _ ?_))
        rotate_left
        · ((go_simp); all_goals (with_reducible rfl))
        clear hK K
        try simp only [Act.put, List.setIfInBounds_toArray, List.set_cons_zero, List.set_cons_succ]
        refine wpQuiet_step (fun K hK => ?_)
        rw [if_pos (by rfl)]
        refine Exists.intro ?_ (And.intro (fun W HW => ?_) (hK _ ?_))
        rotate_left
        · ((go_simp); all_goals (with_reducible rfl))
        clear hK K
        try simp only [Act.put, List.setIfInBounds_toArray, List.set_cons_zero, List.set_cons_succ]
        refine wpQuiet_step (fun K hK => ?_)
        rw [if_pos (by rfl)]
        refine Exists.intro ?_ (And.intro (fun W HW => ?_) (hK _ ?_))
        rotate_left
        · ((go_simp); all_goals (with_reducible rfl))
        clear hK K
        try simp only [Act.put, List.setIfInBounds_toArray, List.set_cons_zero, List.set_cons_succ]
        refine wpQuiet_step (fun K hK => ?_)
        rw [if_pos (by rfl)]
        refine Exists.intro ?_ (And.intro (fun W HW => ?_) (hK _ ?_))
        rotate_left
        · (have q0 := F1.out W HW; (go_simp); all_goals (with_reducible rfl))
        clear hK K
        try simp only [Act.put, List.setIfInBounds_toArray, List.set_cons_zero, List.set_cons_succ]
        refine wpQuiet_step (fun K hK => ?_)
        rw [if_pos (by rfl)]
        refine Exists.intro ?_ (And.intro (fun W HW => ?_) (hK _ ?_))
        rotate_left
        · (go_simp; exact A1.out W HW)
        clear hK K
        try simp only [Act.put, List.setIfInBounds_toArray, List.set_cons_zero, List.set_cons_succ]
        refine wpQuiet_step (fun K hK => ?_)
        rw [if_pos (by rfl)]
        refine Exists.intro ?_ (And.intro (fun W HW => ?_) (hK _ ?_))
        rotate_left
        · ((go_simp); all_goals (with_reducible rfl))
        clear hK K
        try simp only [Act.put, List.setIfInBounds_toArray, List.set_cons_zero, List.set_cons_succ]
        refine wpQuiet_step (fun K hK => ?_)
        rw [if_pos (by rfl)]
        refine Exists.intro ?_ (And.intro (fun W HW => ?_) (hK _ ?_))
        rotate_left
        · ((go_simp); all_goals (with_reducible rfl))
        clear hK K
        try simp only [Act.put, List.setIfInBounds_toArray, List.set_cons_zero, List.set_cons_succ]
        refine wpQuiet_step (fun K hK => ?_)
        rw [if_pos (by rfl)]
        refine Exists.intro ?_ (And.intro (fun W HW => ?_) (hK _ ?_))
        rotate_left
        · (have q0 := F1.out W HW; (go_simp); all_goals (with_reducible rfl))
        clear hK K
        try simp only [Act.put, List.setIfInBounds_toArray, List.set_cons_zero, List.set_cons_succ]
        refine wpQuiet_step (fun K hK => ?_)
        rw [if_pos (by rfl)]
        refine Exists.intro ?_ (And.intro (fun W HW => ?_) (hK _ ?_))
        rotate_left
        · (go_simp; exact A2.out W HW)
        clear hK K
        try simp only [Act.put, List.setIfInBounds_toArray, List.set_cons_zero, List.set_cons_succ]
        refine wpQuiet_step (fun K hK => ?_)
        rw [if_pos (by rfl)]
        refine Exists.intro ?_ (And.intro (fun W HW => ?_) (hK _ ?_))
        rotate_left
        · ((go_simp); all_goals (with_reducible rfl))
        clear hK K
        try simp only [Act.put, List.setIfInBounds_toArray, List.set_cons_zero, List.set_cons_succ]
        refine wpQuiet_step (fun K hK => ?_)
        rw [if_pos (by rfl)]
        refine Exists.intro ?_ (And.intro (fun W HW => ?_) (hK _ ?_))
        rotate_left
        · ((go_simp); all_goals (with_reducible rfl))
        clear hK K
        try simp only [Act.put, List.setIfInBounds_toArray, List.set_cons_zero, List.set_cons_succ]
        refine wpQuiet_step (fun K hK => ?_)
        rw [if_pos (by rfl)]
        refine Exists.intro ?_ (And.intro (fun W HW => ?_) (hK _ ?_))
        rotate_left
        · ((go_simp); all_goals (with_reducible rfl))
        clear hK K
        try simp only [Act.put, List.setIfInBounds_toArray, List.set_cons_zero, List.set_cons_succ]
        refine wpQuiet_step (fun K hK => ?_)
        rw [if_pos (by rfl)]
        refine Exists.intro ?_ (And.intro (fun W HW => ?_) (hK _ ?_))
        rotate_left
        · ((go_simp); all_goals (with_reducible rfl))
        clear hK K
        try simp only [Act.put, List.setIfInBounds_toArray, List.set_cons_zero, List.set_cons_succ]
        refine wpQuiet_step (fun K hK => ?_)
        rw [if_pos (by rfl)]
        refine Exists.intro ?_ (And.intro (fun W HW => ?_) (hK _ ?_))
        rotate_left
        · ((go_simp); all_goals (with_reducible rfl))
        clear hK K
        try simp only [Act.put, List.setIfInBounds_toArray, List.set_cons_zero, List.set_cons_succ]
        refine wpQuiet_step (fun K hK => ?_)
        rw [if_pos (by rfl)]
        refine Exists.intro ?_ (And.intro (fun W HW => ?_) (hK _ ?_))
        rotate_left
        · (have q0 := F2.out W HW; (go_simp); all_goals (with_reducible rfl))
        clear hK K
        try simp only [Act.put, List.setIfInBounds_toArray, List.set_cons_zero, List.set_cons_succ]
        refine wpQuiet_step (fun K hK => ?_)
        rw [if_pos (by rfl)]
        refine Exists.intro ?_ (And.intro (fun W HW => ?_) (hK _ ?_))
        rotate_left
        · (go_simp; exact A3.out W HW)
        clear hK K
        try simp only [Act.put, List.setIfInBounds_toArray, List.set_cons_zero, List.set_cons_succ]
        refine wpQuiet_step (fun K hK => ?_)
        rw [if_pos (by rfl)]
        refine Exists.intro ?_ (And.intro (fun W HW => ?_) (hK _ ?_))
        rotate_left
        · ((go_simp); all_goals (with_reducible rfl))
        clear hK K
        try simp only [Act.put, List.setIfInBounds_toArray, List.set_cons_zero, List.set_cons_succ]
        refine wpQuiet_step (fun K hK => ?_)
        rw [if_pos (by rfl)]
        refine Exists.intro ?_ (And.intro (fun W HW => ?_) (hK _ ?_))
        rotate_left
        · ((go_simp); all_goals (with_reducible rfl))
        clear hK K
        try simp only [Act.put, List.setIfInBounds_toArray, List.set_cons_zero, List.set_cons_succ]
        refine wpQuiet_step (fun K hK => ?_)
        rw [if_pos (by rfl)]
        refine Exists.intro ?_ (And.intro (fun W HW => ?_) (hK _ ?_))
        rotate_left
        · (have q0 := F2.out W HW; (go_simp); all_goals (with_reducible rfl))
        clear hK K
        try simp only [Act.put, List.setIfInBounds_toArray, List.set_cons_zero, List.set_cons_succ]
        refine wpQuiet_step (fun K hK => ?_)
        rw [if_pos (by rfl)]
        refine Exists.intro ?_ (And.intro (fun W HW => ?_) (hK _ ?_))
        rotate_left
        · (go_simp; exact A4.out W HW)
        clear hK K
        try simp only [Act.put, List.setIfInBounds_toArray, List.set_cons_zero, List.set_cons_succ]
        refine wpQuiet_step (fun K hK => ?_)
        rw [if_pos (by rfl)]
        refine Exists.intro ?_ (And.intro (fun W HW => ?_) (hK _ ?_))
        rotate_left
        · ((go_simp); all_goals (with_reducible rfl))
        clear hK K
        try simp only [Act.put, List.setIfInBounds_toArray, List.set_cons_zero, List.set_cons_succ]
        refine wpQuiet_step (fun K hK => ?_)
        rw [if_pos (by rfl)]
        refine Exists.intro ?_ (And.intro (fun W HW => ?_) (hK _ ?_))
        rotate_left
        · ((go_simp); all_goals (with_reducible rfl))
        clear hK K
        try simp only [Act.put, List.setIfInBounds_toArray, List.set_cons_zero, List.set_cons_succ]
        refine wpQuiet_step (fun K hK => ?_)
        rw [if_pos (by rfl)]
        refine Exists.intro ?_ (And.intro (fun W HW => ?_) (hK _ ?_))
        rotate_left
        · ((go_simp); all_goals (with_reducible rfl))
        clear hK K
        try simp only [Act.put, List.setIfInBounds_toArray, List.set_cons_zero, List.set_cons_succ]
        refine wpQuiet_step (fun K hK => ?_)
        rw [if_pos (by rfl)]
        refine Exists.intro ?_ (And.intro (fun W HW => ?_) (hK _ ?_))
        rotate_left
        · ((go_simp); all_goals (with_reducible rfl))
        clear hK K
        try simp only [Act.put, List.setIfInBounds_toArray, List.set_cons_zero, List.set_cons_succ]
        refine wpQuiet_step (fun K hK => ?_)
        rw [if_pos (by rfl)]
        refine Exists.intro ?_ (And.intro (fun W HW => ?_) (hK _ ?_))
        rotate_left
        · ((go_simp); all_goals (with_reducible rfl))
        clear hK K
        try simp only [Act.put, List.setIfInBounds_toArray, List.set_cons_zero, List.set_cons_succ]
        refine wpQuiet_step (fun K hK => ?_)
        rw [if_pos (by rfl)]
        refine Exists.intro ?_ (And.intro (fun W HW => ?_) (hK _ ?_))
        rotate_left
        · (have q0 := F2.out W HW; (go_simp); all_goals (with_reducible rfl))
        clear hK K
        try simp only [Act.put, List.setIfInBounds_toArray, List.set_cons_zero, List.set_cons_succ]
        refine wpQuiet_step (fun K hK => ?_)
        rw [if_pos (by rfl)]
        refine Exists.intro ?_ (And.intro (fun W HW => ?_) (hK _ ?_))
        rotate_left
        · (go_simp; exact A5.out W HW)
        clear hK K
        try simp only [Act.put, List.setIfInBounds_toArray, List.set_cons_zero, List.set_cons_succ]
        refine wpQuiet_step (fun K hK => ?_)
        rw [if_pos (by rfl)]
        refine Exists.intro ?_ (And.intro (fun W HW => ?_) (hK _ ?_))
        rotate_left
        · ((go_simp); all_goals (with_reducible rfl))
        clear hK K
        try simp only [Act.put, List.setIfInBounds_toArray, List.set_cons_zero, List.set_cons_succ]
        refine wpQuiet_step (fun K hK => ?_)
        rw [if_pos (by rfl)]
        refine Exists.intro ?_ (And.intro (fun W HW => ?_) (hK _ ?_))
        rotate_left
        · ((go_simp); all_goals (with_reducible rfl))
        clear hK K
        try simp only [Act.put, List.setIfInBounds_toArray, List.set_cons_zero, List.set_cons_succ]
        refine wpQuiet_step (fun K hK => ?_)
        rw [if_pos (by rfl)]
        refine Exists.intro ?_ (And.intro (fun W HW => ?_) (hK _ ?_))
        rotate_left
        · (have q0 := F2.out W HW; (go_simp); all_goals (with_reducible rfl))
        clear hK K
        try simp only [Act.put, List.setIfInBounds_toArray, List.set_cons_zero, List.set_cons_succ]
        refine wpQuiet_step (fun K hK => ?_)
        rw [if_pos (by rfl)]
        refine Exists.intro ?_ (And.intro (fun W HW => ?_) (hK _ ?_))
        rotate_left
        · (go_simp; exact A6.out W HW)
        clear hK K
        try simp only [Act.put, List.setIfInBounds_toArray, List.set_cons_zero, List.set_cons_succ]
        refine wpQuiet_step (fun K hK => ?_)
        rw [if_pos (by rfl)]
        refine Exists.intro ?_ (And.intro (fun W HW => ?_) (hK _ ?_))
        rotate_left
        · ((go_simp); all_goals (with_reducible rfl))
        clear hK K
        try simp only [Act.put, List.setIfInBounds_toArray, List.set_cons_zero, List.set_cons_succ]
        refine wpQuiet_step (fun K hK => ?_)
        rw [if_pos (by rfl)]
        refine Exists.intro ?_ (And.intro (fun W HW => ?_) (hK _ ?_))
        rotate_left
        · ((go_simp); all_goals (with_reducible rfl))
        clear hK K
        try simp only [Act.put, List.setIfInBounds_toArray, List.set_cons_zero, List.set_cons_succ]
        refine wpQuiet_nil ?_
        intro wd hCw
        have HJd := hid (HCl.out wd hCw)
        have HDd := hid (HCd.out wd hCw)
        have f1d : wd.cell? ⟨wr.heap.size, 1, none⟩ = some (.int .i64 d1) := F1.out wd hCw
        obtain ⟨L, hL⟩ : ∃ L, queueQ Q' d1 = L := ⟨_, rfl⟩
        have hL24 : L.length ≤ 24 := by
          rw [← hL]
          unfold queueQ
          split
          · rw [List.getD_eq_getElem?_getD]
            cases hq : Q'[d1.toNat]? with
            | none => simp
            | some q => exact HJ.out.lock.inv.few q (List.mem_of_getElem? hq)
          · simp
        obtain ⟨nl, hnl⟩ : ∃ nl, nl = L.length := ⟨_, rfl⟩
        rw [← hnl] at hL24
        have HNL := hid hnl
        have HL := hid hL
        clear hnl hL
        clear A1 A2 A3 A4 A5 A6 F1 F2 HC0 HCl HCs hCw
        go_wp2_with fail
        refine (lock_queue HJd.out.lock d1).mono ?_
        rintro e w6 ⟨v6, rfl, hb6, hown6, _⟩
        rw [HL.out, ← HNL.out] at hown6
        obtain ⟨A6, c6, rfl⟩ := own_slice hown6
        have HJ6 := hid (HJd.out.later hb6)
        have f16 : w6.cell? ⟨wr.heap.size, 1, none⟩ = some (.int .i64 d1) := blk_cell (HDd.out.later hb6).blk 1
        have HB6 := hid hb6
        have HO6 := hid hown6
        clear hb6 hown6
        go_wp2_with fail
        refine (r13_queue HJ6.out.ref d1 h8 hl1.out).mono ?_
        rintro e w7 ⟨v7, rfl, hb7, hown7⟩
        rw [HL.out, ← HNL.out] at hown7
        obtain ⟨A7, c7, rfl⟩ := own_slice hown7
        have HJ7 := hid (HJ6.out.later hb7)
        have HO67 := hid (own_kept HO6.out (fr0 hb7) (fun _ _ h => h))
        have HO7 := hid hown7
        have HLT := hid (show ∀ k, (Value.slice A6 nl c6).ownBlock = some k → wd.heap.size ≤ k ∧ k < w6.heap.size from fun k hk => HO6.out.lt k hk)
        have HBX := hid (show w.heap.size ≤ wd.heap.size from HJd.out.below.size)
        clear hb7 hown7 f1d f16
        go_wp2_with fail
        go_loopw [17] (fun i wx => ∃ (j : Nat) (xs : List Value), j ≤ nl ∧ i = .int .i64 j ∧ LP w wx b bm qv P x g vs' (2 * (k + 1)) Q' Q' ∧ wx.ownsRow wd.heap.size 3 1 (.slice A6 nl c6) nl xs ∧ wx.ownsRow w6.heap.size 3 1 (.slice A7 nl c7) nl (intCells L) ∧ Hid (∀ i, j ≤ i → xs[i]? = (intCells L)[i]?)) (fun i _ => nl - (intOf i).toNat)
        case atStart => exact ⟨0, _, by omega, rfl, HJ7.out, HO67.out, HO7.out, fun i _ => rfl⟩
        case round =>
          obtain ⟨j, xs, hj, rfl, hJ8, hO8, hP8, hxs⟩ := hrel
          by_cases hj2 : j < nl
          · obtain ⟨z, hz⟩ : ∃ z, L[j]? = some z := ⟨_, List.getElem?_eq_getElem (by have := HNL.out; omega)⟩
            have hzc : (intCells L)[j]? = some (.int .i64 z) := by simp [intCells, hz]
            obtain ⟨g6, gc6, cu6, hv6, _⟩ := own_shape hO8 (by omega)
            cases hv6
            obtain ⟨g7, gc7, cu7, hv7, hlo7, _⟩ := own_shape hP8 (by omega)
            cases hv7
            have q6 : wr.cell? ⟨g6, j, none⟩ = some (.int .i64 z) := own_cell0 hO8 ((hxs.out j (Nat.le_refl j)).trans hzc)
            have q7 : wr.cell? ⟨g7, j, none⟩ = some (.int .i64 z) := own_cell0 hP8 hzc
            have fj : wr.frozen? ⟨g6, j, none⟩ = false := own_free hO8 j
            have hlt6 := HLT.out g6 rfl
            have HNE := hid (show g7 ≠ g6 by omega)
            have HJ8 := hid hJ8
            have HO8 := hid hO8
            have HP8 := hid hP8
            have hg6 := hid (show ¬ LSet b bm qv P g6 ∧ ¬ RSet x g vs' g6 ∧ w.heap.size ≤ g6 from ⟨fun e => by have := (HJd.out.lock.part.lt g6 e).2; omega, fun e => by have := (HJd.out.ref.lt g6 e).2; omega, by have := HBX.out; omega⟩)
            clear hJ8 hO8 hP8 hz hzc
            go_wp2_with fail
            go_quiet (fail)
            go_wp2_with fail
            go_roundw
            case rel =>
              refine ⟨j + 1, _, by omega, by go_num, (HJ8.out.later (w' := wr.drewN nq) (below_drewN' (Below.refl _ _) nq)).setRow hg6.out j (.int .i64 (-1)), own_set (own_drewN HO8.out nq) j (.int .i64 (-1)) (by omega), own_set_ne (own_drewN HP8.out nq) (fun bb hbb e => ?_) j (.int .i64 (-1)), fun i hi => ?_⟩
              · cases hbb; exact HNE.out e
              · rw [List.getElem?_set_ne (by omega)]; exact hxs.out i (by omega)
            case measure => simp [intOf]; omega
          · have HJ8 := hid hJ8
            clear hJ8 hO8 hP8
            go_wp2_with fail
            go_roundw
            case rel => exact ⟨k + 1, vs', Q', by omega, by omega, by go_num, HJ8.out, hV'⟩
            case measure => simp [intOf]; omega
      · have HI := hid hI
        clear hI
        go_wp2_with fail
        go_ret
        exact ⟨rfl, HI.out.below⟩
    · have HI := hid hI
      clear hI
      go_wp2_with fail
      go_ret
      exact ⟨rfl, HI.out.below⟩
theorem locksplay_walk {w : World} (n : Int) (A : Option Addr) (len cap : Nat) (hlen : len ≤ 9223372036854775807) (Z : Nat → Nat → Int) (hz : IntRows w A len 3 Z) :
    Calls Try.prog 10 #[.int .i64 n, .slice A len cap] w fun e w' => e = .returned (.bool true) ∧ Below w.heap.size w w' := by
  by_cases h : n < 0 ∨ 8 < n
  · exact locksplay_no n A len cap h
  · obtain ⟨m, rfl⟩ : ∃ m : Nat, n = m := ⟨n.toNat, by omega⟩
    exact locksplay_yes m A len cap (by omega) hlen Z hz
end Go.Proofs.Ytcbpbgjngeemoaa
