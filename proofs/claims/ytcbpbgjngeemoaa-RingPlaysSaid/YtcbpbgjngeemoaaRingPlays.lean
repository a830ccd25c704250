/- RingPlays: a ring does, deed by deed, just what the document's ring does: the walk. Whatever room, whatever deeds. -/
import Derived.Test.YtcbpbgjngeemoaaRefRing
import Derived.Deep.CutBlock
import Derived.Deep.DeepCutAuto
import Derived.Deep.RegionWith
set_option linter.unusedVariables false
set_option linter.unusedSimpArgs false
namespace Go.Proofs.Ytcbpbgjngeemoaa
open Go.RowKit
theorem putR_bd {R R' : RS} {id a b : Int} (h : putR R id = (a, b, R')) : R'.room = R.room ∧ R'.last ≤ R.last + 1 := by
  unfold putR at h
  split at h
  · simp only [Prod.mk.injEq] at h
    rw [← h.2.2]; exact ⟨rfl, by omega⟩
  · split at h
    · simp only [Prod.mk.injEq] at h
      rw [← h.2.2]; exact ⟨rfl, by omega⟩
    · simp only [Prod.mk.injEq] at h
      rw [← h.2.2]; exact ⟨rfl, Nat.le_refl _⟩
theorem takeR_bd (R : RS) : (takeR R).room = R.room ∧ (takeR R).last = R.last := ⟨rfl, rfl⟩
attribute [local irreducible] putR place ticketOf headOf takeR dropL pickN
theorem RefAt.mono {w : World} {base base' x : Nat} {vi vt : Value} {R : RS} (h : RefAt w base x vi vt R) (hb : base' ≤ base) : RefAt w base' x vi vt R :=
  ⟨h.hx, ⟨own_mono h.rows.a hb, own_mono h.rows.b hb, h.rows.ap⟩, Nat.le_trans hb h.bx, h.ap⟩
/-- A ring and the document's, behind a call's start. -/
structure RP (w wx : World) (r s x : Nat) (vi vt : Value) (Ra Rb : RS) : Prop where
  below : Below w.heap.size w wx
  ring : IsRing wx r s Ra
  ref : RefAt wx w.heap.size x vi vt Rb
  lo : w.heap.size ≤ r ∧ w.heap.size ≤ s
  apart : ¬ RefSet x vi vt r ∧ ¬ RefSet x vi vt s
/-- A block beside both. -/
structure Beside (wx : World) (D : Nat) (o : Obj) (r s x : Nat) (vi vt : Value) : Prop where
  blk : wx.heap[D]? = some o
  nr : D ≠ r ∧ D ≠ s
  nx : ¬ RefSet x vi vt D
section
variable {w wx w' : World} {r s x D : Nat} {vi vt : Value} {Ra Rb R' : RS} {o : Obj}
theorem RP.stepRing (h : RP w wx r s x vi vt Ra Rb) (hB : IsRing w' r s R') (hF : Fr (Two r s) wx w') : RP w w' r s x vi vt R' Rb :=
  ⟨below_two h.below hF h.lo.1 h.lo.2, hB, h.ref.kept hF (fun k hk e => by rcases e with rfl | rfl; exact h.apart.1 hk; exact h.apart.2 hk), h.lo, h.apart⟩
theorem Beside.ring (h : Beside wx D o r s x vi vt) (hF : Fr (Two r s) wx w') : Beside w' D o r s x vi vt :=
  ⟨hF.blk h.blk (fun e => by rcases e with e | e; exact h.nr.1 e; exact h.nr.2 e), h.nr, h.nx⟩
theorem RP.stepRef (h : RP w wx r s x vi vt Ra Rb) (hB : RefBehind wx w.heap.size x vi vt R' w') :
    ∃ vi' vt', RP w w' r s x vi' vt' Ra R' ∧ ∀ D o, Beside wx D o r s x vi vt → Beside w' D o r s x vi' vt' := by
  obtain ⟨vi', vt', hR, hF, hN⟩ := hB
  have hlt := h.ring.lt
  refine ⟨vi', vt', ⟨?_, h.ring.kept hF h.apart.1 h.apart.2, hR, h.lo, fun e => (hN r e).elim h.apart.1 (fun h => by omega), fun e => (hN s e).elim h.apart.2 (fun h => by omega)⟩, fun D o hD => ⟨hF.blk hD.blk hD.nx, hD.nr, fun e => (hN D e).elim hD.nx (fun h => by have := blk_lt hD.blk; omega)⟩⟩
  exact ((Fr.of_below (S := NoB) h.below).trans hF (fun k hk => .inr (h.ref.lt k hk).1)).no
theorem RP.later (h : RP w wx r s x vi vt Ra Rb) (hb : Below wx.heap.size wx w') : RP w w' r s x vi vt Ra Rb :=
  ⟨below_then h.below hb, h.ring.kept (fr0 hb) (fun h => h) (fun h => h), h.ref.kept (fr0 hb) (fun _ _ h => h), h.lo, h.apart⟩
theorem Beside.later (h : Beside wx D o r s x vi vt) (hb : Below wx.heap.size wx w') : Beside w' D o r s x vi vt := ⟨(fr0 hb).blk h.blk (fun h => h), h.nr, h.nx⟩
theorem RP.drewN (h : RP w wx r s x vi vt Ra Rb) (q : Nat) : RP w (wx.drewN q) r s x vi vt Ra Rb :=
  ⟨below_drewN' h.below q, h.ring.drewN q, h.ref.drewN q, h.lo, h.apart⟩
theorem Beside.drewN (h : Beside wx D o r s x vi vt) (q : Nat) : Beside (wx.drewN q) D o r s x vi vt := ⟨h.blk, h.nr, h.nx⟩
theorem RP.beside (h : RP w wx r s x vi vt Ra Rb) (o : Obj) : RP w (wx.alloc o) r s x vi vt Ra Rb ∧ Beside (wx.alloc o) wx.heap.size o r s x vi vt := by
  have hlt := h.ring.lt
  refine ⟨h.later ((Below.refl _ _).alloc (Nat.le_refl _) _), ⟨blk_new _ _, ⟨by omega, by omega⟩, fun e => ?_⟩⟩
  have := (h.ref.lt _ e).2
  omega
/-- A store into a row of one's own that is new. -/
theorem RP.setRow (h : RP w wx r s x vi vt Ra Rb) {g : Nat} (hg : g ≠ r ∧ g ≠ s ∧ ¬ RefSet x vi vt g) (hl : w.heap.size ≤ g) (i : Nat) (u : Value) : RP w (wx.setCell ⟨g, i, none⟩ u) r s x vi vt Ra Rb :=
  have hF := (Fr.refl (One g) wx).one i u
  ⟨((Fr.of_below (S := NoB) h.below).trans hF (fun k hk => .inr (by rw [show k = g from hk]; exact hl))).no, h.ring.kept hF (fun e => hg.1 e.symm) (fun e => hg.2.1 e.symm), h.ref.kept hF (fun k hk e => hg.2.2 (by rw [← show k = g from e]; exact hk)), h.lo, h.apart⟩
end

set_option maxRecDepth 1000000 in
set_option maxHeartbeats 3200000 in
theorem ringplays_no {w : World} (room : Int) (A : Option Addr) (len cap : Nat) (h0 : room < 0 ∨ 256 < room) :
    Calls Try.prog 8 #[.int .i64 room, .slice A len cap] w fun e w' => e = .returned (.bool true) ∧ Below w.heap.size w w' := by
  go_enter Try.func8, Try.ntmps8
  go_wp2_with fail
  refine ringex_any.mono ?_
  rintro e w1 ⟨rfl, hb1⟩
  go_wp2_with fail
  refine (new_no room h0).mono ?_
  rintro e w2 ⟨rfl, rfl⟩
  go_wp2_with fail
  refine (refnew_no room h0).mono ?_
  rintro e w3 ⟨rfl, rfl⟩
  go_wp2_with fail
  go_ret
  exact ⟨rfl, hb1⟩

set_option maxRecDepth 1000000 in
set_option maxHeartbeats 3200000 in
theorem ringplays_yes {w : World} (room : Nat) (A : Option Addr) (len cap : Nat) (h0 : room ≤ 256) (hlen : len ≤ 9223372036854775807) (Z : Nat → Nat → Int) (hz : IntRows w A len 2 Z) :
    Calls Try.prog 8 #[.int .i64 room, .slice A len cap] w fun e w' => e = .returned (.bool true) ∧ Below w.heap.size w w' := by
  have HZ := hid hz
  clear hz
  go_enter Try.func8, Try.ntmps8
  go_wp2_with fail
  refine ringex_any.mono ?_
  rintro e w1 ⟨rfl, hb1⟩
  go_wp2_with fail
  refine (new_yes room h0).mono ?_
  rintro e w2 ⟨r, s, rfl, H0, hb2, hr, hs⟩
  go_wp2_with fail
  refine (refnew_yes room h0).mono ?_
  rintro e w3 ⟨rfl, H1, hb3⟩
  obtain ⟨x, hx⟩ : ∃ x, x = w2.heap.size := ⟨_, rfl⟩
  rw [← hx] at H1 hb3 ⊢
  have hlt2 := H0.lt
  have hsz := hb1.size
  have hsz2 := hb2.size
  have hb3' : Below w2.heap.size w2 w3 := hx ▸ hb3
  have HA := hid (RP.mk (w := w) (below_then (below_then hb1 hb2) hb3') (H0.kept (fr0 hb3') (fun h => h) (fun h => h)) (H1.mono (base' := w.heap.size) (by omega)) ⟨by omega, by omega⟩ ⟨fun h => (by rcases h with h | h | h <;> first | omega | cases h), fun h => (by rcases h with h | h | h <;> first | omega | cases h)⟩)
  clear H0 H1 hb1 hb2 hb3 hb3' hx hr hs hsz hsz2 hlt2
  go_wp2_with fail
  go_loopw [9] (fun i wr => ∃ (k : Nat) (R : RS) (vi vt : Value), k ≤ len ∧ k ≤ 400 ∧ i = .int .i64 k ∧ RP w wr r s x vi vt R R ∧ Hid (R.room = room ∧ R.last ≤ k)) (fun i _ => 400 - (intOf i).toNat)
  case atStart => exact ⟨0, _, _, _, by omega, by omega, rfl, HA.out, rfl, Nat.le_refl _⟩
  case round =>
    obtain ⟨k, R, vi, vt, hk1, hk2, rfl, hI, hV⟩ := hrel
    by_cases h1 : k < len
    · by_cases h2 : k < 400
      · obtain ⟨ab, ao, rfl, hbl, hcs⟩ := HZ.out k h1
        obtain ⟨hc0, hd1, hd2⟩ := hcs 0 (by omega)
        have hc1 := (hcs 1 (by omega)).1
        have c0 : wr.cell? ⟨ab, ao + k * 2, none⟩ = some (.int .i64 (Z k 0)) := (hI.below.cell hbl).trans hc0
        have c1 : wr.cell? ⟨ab, ao + k * 2 + 1, none⟩ = some (.int .i64 (Z k 1)) := (hI.below.cell hbl).trans hc1
        clear hc0 hc1 hcs
        generalize Z k 0 = d0 at *
        generalize Z k 1 = d1 at *
        have hK := pickN_bd d0 3 (by omega)
        have hKp := fun W => ringpick_any (w := W) d0 3 hd1 hd2 (by omega) (by omega)
        generalize pickN d0 3 = K at *
        have HK := hid hKp
        clear hKp
        obtain ⟨hI1, hD1⟩ := hI.beside (.cells #[.int .i64 d0, .int .i64 d1] 54)
        have f1 : (wr.alloc (.cells #[.int .i64 d0, .int .i64 d1] 54)).cell? ⟨wr.heap.size, 1, none⟩ = some (.int .i64 d1) := blk_cell (blk_new _ _) 1
        have HI := hid hI1
        have HD := hid hD1
        clear hI hI1 hD1
        have hlast : R.last < 4611686018427387904 := by have := hV.out.2; omega
        have hlen1 := HI.out.ring.len
        have hlen2 : R.l.length ≤ 256 := by omega
        go_upto_block 2 with (go_at_call 16; refine (HK.out _).mono ?_; rintro e w' ⟨rfl, rfl⟩)
        go_cut [11] (fun g wx => g = .bool true ∧ ∃ vi vt R', RP w wx r s x vi vt R' R' ∧ Beside wx wr.heap.size (.cells #[.int .i64 d0, .int .i64 d1] 54) r s x vi vt ∧ Hid (R'.room = room ∧ R'.last ≤ k + 1))
        case first =>
          as_aux_lemma =>
            rcases (show K = 0 ∨ K = 1 ∨ K = 2 by omega) with rfl | rfl | rfl
            · obtain ⟨p, hp⟩ : ∃ p, putR R d1 = p := ⟨_, rfl⟩
              obtain ⟨a, b, R'⟩ := p
              have hbd := putR_bd hp
              have HP := hid hp
              clear hp
              go_wp2_with fail
              refine (ring_put_is HI.out.ring d1 hlast HP.out).mono ?_
              rintro e w3 ⟨rfl, hR3, hF3⟩
              have HI3 := hid (HI.out.stepRing hR3 hF3)
              have HD3 := hid (HD.out.ring hF3)
              have f13 : w3.cell? ⟨wr.heap.size, 1, none⟩ = some (.int .i64 d1) := blk_cell HD3.out.blk 1
              clear hR3 hF3
              go_wp2_with fail
              refine (ref_put HI3.out.ref d1 hlast (by omega) (by omega) HP.out).mono ?_
              rintro e w4 ⟨rfl, hB4⟩
              obtain ⟨vi', vt', hI4, hD4⟩ := HI3.out.stepRef hB4
              have HI4 := hid hI4
              have HD4 := hid (hD4 _ _ HD3.out)
              clear hB4 hI4 hD4
              go_wp2_with fail
              go_meet
              exact ⟨rfl, vi', vt', R', HI4.out, HD4.out, hbd.1.trans hV.out.1, by have := hV.out.2; have := hbd.2; omega⟩
            · obtain ⟨a, ha⟩ : ∃ a, headOf R.l = a := ⟨_, rfl⟩
              obtain ⟨b, hb⟩ : ∃ b, (!R.l.isEmpty) = b := ⟨_, rfl⟩
              have HA2 := hid ha
              have HB2 := hid hb
              clear ha hb
              go_wp2_with fail
              refine (ring_take_is HI.out.ring HA2.out HB2.out).mono ?_
              rintro e w3 ⟨rfl, hR3, hF3⟩
              have HI3 := hid (HI.out.stepRing hR3 hF3)
              have HD3 := hid (HD.out.ring hF3)
              clear hR3 hF3
              go_wp2_with fail
              refine (ref_take HI3.out.ref hlen2 HA2.out HB2.out).mono ?_
              rintro e w4 ⟨rfl, hB4⟩
              obtain ⟨vi', vt', hI4, hD4⟩ := HI3.out.stepRef hB4
              have HI4 := hid hI4
              have HD4 := hid (hD4 _ _ HD3.out)
              clear hB4 hI4 hD4
              go_wp2_with fail
              go_meet
              exact ⟨rfl, vi', vt', _, HI4.out, HD4.out, (takeR_bd R).1.trans hV.out.1, by have := hV.out.2; have := (takeR_bd R).2; omega⟩
            · obtain ⟨b, hb⟩ : ∃ b, decide (0 ≤ place R.l d1) = b := ⟨_, rfl⟩
              obtain ⟨R', hR'⟩ : ∃ R', (⟨R.room, R.last, dropL R.l d1⟩ : RS) = R' := ⟨_, rfl⟩
              have hbd : R'.room = R.room ∧ R'.last = R.last := by rw [← hR']; exact ⟨rfl, rfl⟩
              have HB2 := hid hb
              have HR2 := hid hR'
              clear hb hR'
              have f1d : (wr.alloc (.cells #[.int .i64 d0, .int .i64 d1] 54)).drew.cell? ⟨wr.heap.size, 1, none⟩ = some (.int .i64 d1) := f1
              go_wp2_with fail
              go_region_with (first
                | (go_at_call 33; refine (ring_drop_is (HI.out.drewN 1).ring d1 HB2.out HR2.out).mono ?_
                   rintro e w3 ⟨rfl, hR3, hF3⟩
                   have HI3 := hid ((HI.out.drewN 1).stepRing hR3 hF3)
                   have HD3 := hid ((HD.out.drewN 1).ring hF3)
                   have f13 : w3.cell? ⟨wr.heap.size, 1, none⟩ = some (.int .i64 d1) := blk_cell HD3.out.blk 1
                   clear hR3 hF3)
                | (go_at_call 38; refine (ref_drop_is HI3.out.ref d1 hlen2 HB2.out HR2.out).mono ?_
                   rintro e w4 ⟨rfl, hB4⟩
                   obtain ⟨vi', vt', hI4, hD4⟩ := HI3.out.stepRef hB4
                   have HI4 := hid hI4
                   have HD4 := hid (hD4 _ _ HD3.out)
                   clear hB4 hI4 hD4)
                | (go_at_call 38; refine (ref_drop_is (HI.out.drewN 1).ref d1 hlen2 HB2.out HR2.out).mono ?_
                   rintro e w4 ⟨rfl, hB4⟩
                   obtain ⟨vi', vt', hI4, hD4⟩ := (HI.out.drewN 1).stepRef hB4
                   have HI5 := hid hI4
                   have HD5 := hid (hD4 _ _ (HD.out.drewN 1))
                   have f15 : w4.cell? ⟨wr.heap.size, 1, none⟩ = some (.int .i64 d1) := blk_cell HD5.out.blk 1
                   clear hB4 hI4 hD4)
                | (go_at_call 33; refine (ring_drop_is HI5.out.ring d1 HB2.out HR2.out).mono ?_
                   rintro e w3 ⟨rfl, hR3, hF3⟩
                   have HI4 := hid (HI5.out.stepRing hR3 hF3)
                   have HD4 := hid (HD5.out.ring hF3)
                   clear hR3 hF3))
              all_goals
                go_wp2_with fail
                go_meet
                exact ⟨rfl, _, _, R', HI4.out, HD4.out, hbd.1.trans hV.out.1, by have := hV.out.2; have := hbd.2; omega⟩
        obtain ⟨rfl, vi', vt', R', hJ, hD, hV'⟩ := hcut
        have HJ := hid hJ
        have HD := hid hD
        clear hJ hD
        go_wp2_with fail
        refine (ring_all HJ.out.ring).mono ?_
        rintro e w5 ⟨v, rfl, hb5, hown, _⟩
        have HJ5 := hid (HJ.out.later hb5)
        have HD5 := hid (HD.out.later hb5)
        obtain ⟨n, hnn⟩ : ∃ n, n = (ids R'.l).length := ⟨_, rfl⟩
        have hnn2 : n = R'.l.length := by rw [hnn]; simp [ids]
        rw [← hnn] at hown
        obtain ⟨A5, c5, rfl⟩ := own_slice hown
        obtain ⟨Ai, ci, hvi⟩ := own_slice HJ5.out.ref.rows.a
        rw [← hnn] at hvi
        subst hvi
        have c1x : w5.cell? ⟨x, 1, none⟩ = some (.slice Ai n ci) := blk_cell HJ5.out.ref.hx 1
        have hn256 : n ≤ 256 := by have := HJ5.out.ring.len; omega
        have HO := hid hown
        have HN := hid hnn
        have HN2 := hid hnn2
        have HA5 := hid (own_holds (hnn ▸ hown))
        have HAi := hid (own_holds (hnn ▸ HJ5.out.ref.rows.a))
        have HB5 := hid hb5
        clear hb5 hown hnn hnn2
        go_wp2_with fail
        refine (numbers_same A5 Ai n c5 ci (ids R'.l) HN.out HA5.out HAi.out (by omega)).mono ?_
        rintro e w6 ⟨rfl, q6, hw6⟩
        have HJ6 := hid (show RP w w6 r s x (.slice Ai n ci) vt' R' R' by rw [hw6]; exact HJ5.out.drewN q6)
        have HD6 := hid (show Beside w6 wr.heap.size _ r s x (.slice Ai n ci) vt' by rw [hw6]; exact HD5.out.drewN q6)
        have HO6 := hid (show w6.ownsRow wc.heap.size 3 1 (.slice A5 n c5) n (intCells (ids R'.l)) by rw [hw6]; exact HO.out)
        clear hw6 c1x
        obtain ⟨hh, hhd⟩ : ∃ hh, headOf R'.l = hh := ⟨_, rfl⟩
        have HHD := hid hhd
        clear hhd
        obtain ⟨bb, hbb⟩ : ∃ bb, (!R'.l.isEmpty) = bb := ⟨_, rfl⟩
        have HBB := hid hbb
        clear hbb
        go_wp2_with fail
        refine (ring_head_is HJ6.out.ring HHD.out HBB.out).mono ?_
        rintro e w7 ⟨rfl, q7, hw7⟩
        have HJ7 := hid (show RP w w7 r s x (.slice Ai n ci) vt' R' R' by rw [hw7]; exact HJ6.out.drewN q7)
        have HD7 := hid (show Beside w7 wr.heap.size _ r s x (.slice Ai n ci) vt' by rw [hw7]; exact HD6.out.drewN q7)
        have HO7 := hid (show w7.ownsRow wc.heap.size 3 1 (.slice A5 n c5) n (intCells (ids R'.l)) by rw [hw7]; exact HO6.out)
        clear hw7
        have c1x : w7.cell? ⟨x, 1, none⟩ = some (.slice Ai n ci) := blk_cell HJ7.out.ref.hx 1
        have f17 : w7.cell? ⟨wr.heap.size, 1, none⟩ = some (.int .i64 d1) := blk_cell HD7.out.blk 1
        obtain ⟨pl, hpl⟩ : ∃ pl, place R'.l d1 = pl := ⟨_, rfl⟩
        obtain ⟨tk, htk⟩ : ∃ tk, ticketOf R'.l d1 = tk := ⟨_, rfl⟩
        have hL62 : R'.l.length < 4611686018427387904 := by rw [← HN2.out]; omega
        have QLEN := hid (fun q => (ring_len (HJ7.out.drewN q).ring))
        rw [← HN2.out] at QLEN
        have QP1 := hid (fun q => ring_place_is (HJ7.out.drewN q).ring d1 hpl)
        have QT1 := hid (fun q => ring_ticket_is (HJ7.out.drewN q).ring d1 htk)
        have QP2 := hid (fun q => ref_place (HJ7.out.drewN q).ref d1 hL62)
        rw [hpl] at QP2
        have QT2 := hid (fun q => ref_ticket (HJ7.out.drewN q).ref d1 hL62)
        rw [htk] at QT2
        clear hpl htk hL62
        by_cases hn0 : n = 0
        · have hb : bb = false := by rw [← HBB.out, List.length_eq_zero_iff.1 (HN2.out.symm.trans hn0)]; rfl
          subst hb
          have hn1 : decide ((0 : Int) < (n : Int)) = false := decide_eq_false (by omega)
          go_upto_region 26 with fail
          go_quiet ((first
            | (go_at_call 19; exact Calls.quiet_of_same (QLEN.out _))
            | (go_at_call 18; exact Calls.quiet_of (QP1.out _))
            | (go_at_call 31; exact Calls.quiet_of (QT1.out _))
            | (go_at_call 40; exact Calls.quiet_of_same (QP2.out _))
            | (go_at_call 41; exact Calls.quiet_of_same (QT2.out _))))
          go_wp2_with fail
          go_loopw [24] (fun i wx => i = .int .i64 0 ∧ RP w wx r s x (.slice Ai n ci) vt' R' R') (fun _ _ => 0)
          case atStart => exact ⟨rfl, HJ7.out.drewN _⟩
          case round =>
            obtain ⟨rfl, hJ8⟩ := hrel
            have HJ8 := hid hJ8
            have hn2 : decide ((0 : Int) < (n : Int)) = false := decide_eq_false (by omega)
            clear hJ8
            go_wp2_with fail
            go_roundw
            case rel => exact ⟨k + 1, R', _, vt', by omega, by omega, by go_num, HJ8.out, hV'⟩
            case measure => simp [intOf]; omega
        · obtain ⟨g, gc, cur, hgv, hg1, _⟩ := own_shape HO7.out (by omega)
          cases hgv
          obtain ⟨y, hy⟩ : ∃ y, R'.l[0]? = some y := ⟨_, List.getElem?_eq_getElem (by rw [← HN2.out]; omega)⟩
          have hb : bb = true ∧ hh = y.1 := by
            rw [← HBB.out, ← HHD.out]
            cases hl : R'.l with
            | nil => rw [hl] at hy; cases hy
            | cons z l => rw [hl] at hy; injection hy with hy; rw [hy]; exact ⟨rfl, by unfold headOf; rfl⟩
          obtain ⟨rfl, rfl⟩ := hb
          have cg : w7.cell? ⟨g, 0, none⟩ = some (.int .i64 y.1) := own_cell HO7.out (by simp [intCells, ids, hy])
          have hn1 : decide ((0 : Int) < (n : Int)) = true := decide_eq_true (by omega)
          have hn3 : (0 : Int) < (n : Int) := by omega
          have hn4 : decide (0 < n) = true := decide_eq_true (by omega)
          have hn5 : decide ((n : Int) ≤ 0) = false := decide_eq_false (by omega)
          have hn6 : decide (n = 0) = false := decide_eq_false (by omega)
          have hn7 : decide (n ≤ 0) = false := decide_eq_false (by omega)
          have hgr : g ≠ r ∧ g ≠ s ∧ ¬ RefSet x (.slice Ai n ci) vt' g ∧ w.heap.size ≤ g := by
            have h1 := HJ.out.ring.lt
            have h2 := HJ.out.below.size
            have h3 := (HJ.out.ref.lt g)
            have h4 := HB5.out.size
            exact ⟨by omega, by omega, fun h => by have := h3 h; omega, by omega⟩
          have HGR := hid hgr
          clear hgr hy hg1
          go_upto_region 26 with fail
          go_quiet ((first
            | (go_at_call 19; exact Calls.quiet_of_same (QLEN.out _))
            | (go_at_call 18; exact Calls.quiet_of (QP1.out _))
            | (go_at_call 31; exact Calls.quiet_of (QT1.out _))
            | (go_at_call 40; exact Calls.quiet_of_same (QP2.out _))
            | (go_at_call 41; exact Calls.quiet_of_same (QT2.out _))))
          go_wp2_with fail
          go_loopw [24] (fun i wx => ∃ (j : Nat) (xs : List Value), j ≤ n ∧ i = .int .i64 j ∧ RP w wx r s x (.slice Ai n ci) vt' R' R' ∧ wx.ownsRow wc.heap.size 3 1 (.slice (some ⟨g, 0, none⟩) n c5) n xs) (fun i _ => n - (intOf i).toNat)
          case atStart => exact ⟨0, _, by omega, rfl, HJ7.out.drewN _, own_drewN HO7.out _⟩
          case round =>
            obtain ⟨j, xs, hj, rfl, hJ8, hO8⟩ := hrel
            by_cases hj2 : j < n
            · obtain ⟨u, hu⟩ : ∃ u, xs[j]? = some u := ⟨_, List.getElem?_eq_getElem (by have := hO8.1; omega)⟩
              have cj : wr.cell? ⟨g, j, none⟩ = some u := own_cell0 hO8 hu
              have fj : wr.frozen? ⟨g, j, none⟩ = false := own_free hO8 j
              have HJ9 := hid (hJ8.setRow ⟨HGR.out.1, HGR.out.2.1, HGR.out.2.2.1⟩ HGR.out.2.2.2 j (.int .i64 (-1)))
              have HO9 := hid (own_set hO8 j (.int .i64 (-1)) (by omega))
              clear hJ8 hO8 hu
              go_wp2_with fail
              go_roundw
              case rel => exact ⟨j + 1, _, by omega, by go_num, HJ9.out, HO9.out⟩
              case measure => simp [intOf]; omega
            · have HJ8 := hid hJ8
              clear hJ8 hO8
              go_wp2_with fail
              go_roundw
              case rel => exact ⟨k + 1, R', _, vt', by omega, by omega, by go_num, HJ8.out, hV'⟩
              case measure => simp [intOf]; omega
      · go_wp2_with fail
        go_ret
        exact ⟨rfl, hI.below⟩
    · go_wp2_with fail
      go_ret
      exact ⟨rfl, hI.below⟩
theorem ringplays_walk {w : World} (room : Int) (A : Option Addr) (len cap : Nat) (hlen : len ≤ 9223372036854775807) (Z : Nat → Nat → Int) (hz : IntRows w A len 2 Z) :
    Calls Try.prog 8 #[.int .i64 room, .slice A len cap] w fun e w' => e = .returned (.bool true) ∧ Below w.heap.size w w' := by
  by_cases h : room < 0 ∨ 256 < room
  · exact ringplays_no room A len cap h
  · obtain ⟨m, rfl⟩ : ∃ m : Nat, room = m := ⟨room.toNat, by omega⟩
    exact ringplays_yes m A len cap (by omega) hlen Z hz
end Go.Proofs.Ytcbpbgjngeemoaa
