/- HeapPlays: a heap does, deed by deed, just what the document's heap does: the walk. Whatever room, whatever deeds. -/
import Derived.Test.YtbkjlohlfkokpaaRef02b
set_option linter.unusedVariables false
set_option linter.unusedSimpArgs false
namespace Go.Proofs.Ytbkjlohlfkokpaa
open Go.RowKit

/-- A heap and the document's, behind a call's start. -/
structure HR (w wx : World) (h : Nat) (Q : Nat → Prop) (room T x : Nat) (v : Value) (L L2 : List (Int × Int)) : Prop where
  below : Below w.heap.size w wx
  heap : IsHeap wx w.heap.size h Q room T L
  ref : R02 wx w.heap.size x v room L2
  apart : ∀ k, Q k → ¬ R02Set x v k
/-- A block beside both. -/
structure Bsd (wx : World) (D : Nat) (o : Obj) (Q : Nat → Prop) (x : Nat) (v : Value) : Prop where
  blk : wx.heap[D]? = some o
  ni : ¬ Q D
  nx : ¬ R02Set x v D
section
variable {w wx w' : World} {h room T T' x D : Nat} {Q : Nat → Prop} {v : Value} {L L' L2 : List (Int × Int)} {o : Obj}
theorem HR.stepH (H : HR w wx h Q room T x v L L2) (hB : HBehind wx w.heap.size h Q room T' L' w') :
    ∃ Q', HR w w' h Q' room T' x v L' L2 ∧ ∀ D o, Bsd wx D o Q x v → Bsd w' D o Q' x v := by
  obtain ⟨Q', hI, hF, hN⟩ := hB
  refine ⟨Q', ⟨((Fr.of_below (S := NoB) H.below).trans hF (fun k hk => .inr (H.heap.lt k hk).1)).no, hI, H.ref.kept hF (fun k hk e => H.apart k e hk), fun k hk e => ?_⟩, fun D o hD => ⟨hF.blk hD.blk hD.ni, fun e => (hN D e).elim hD.ni (fun h => by have := blk_lt hD.blk; omega), hD.nx⟩⟩
  have := (H.ref.lt k e).2
  exact (hN k hk).elim (fun h => H.apart k h e) (fun h => by omega)
theorem HR.stepR (H : HR w wx h Q room T x v L L2) (hB : R02Behind wx w.heap.size x v room L' w') :
    ∃ v', HR w w' h Q room T x v' L L' ∧ ∀ D o, Bsd wx D o Q x v → Bsd w' D o Q x v' := by
  obtain ⟨v', hR, hF, hN⟩ := hB
  refine ⟨v', ⟨((Fr.of_below (S := NoB) H.below).trans hF (fun k hk => .inr (H.ref.lt k hk).1)).no, H.heap.kept hF H.apart, hR, fun k hk e => ?_⟩, fun D o hD => ⟨hF.blk hD.blk hD.nx, hD.ni, fun e => (hN D e).elim hD.nx (fun h => by have := blk_lt hD.blk; omega)⟩⟩
  have := (H.heap.lt k hk).2
  exact (hN k e).elim (H.apart k hk) (fun h => by omega)
theorem HR.kept {P : Nat → Prop} (H : HR w wx h Q room T x v L L2) (k : Fr P wx w') (h1 : ∀ j, Q j → ¬ P j) (h2 : ∀ j, R02Set x v j → ¬ P j) (hlo : ∀ j, P j → w.heap.size ≤ j) : HR w w' h Q room T x v L L2 :=
  ⟨((Fr.of_below (S := NoB) H.below).trans k (fun j hj => .inr (hlo j hj))).no, H.heap.kept k h1, H.ref.kept k h2, H.apart⟩
theorem HR.later (H : HR w wx h Q room T x v L L2) (hb : Below wx.heap.size wx w') : HR w w' h Q room T x v L L2 := ⟨below_then H.below hb, H.heap.later hb, H.ref.later hb, H.apart⟩
theorem HR.more (H : HR w wx h Q room T x v L L2) (hT : T ≤ T') : HR w wx h Q room T' x v L L2 := ⟨H.below, H.heap.more hT, H.ref, H.apart⟩
theorem Bsd.later (H : Bsd wx D o Q x v) (hb : Below wx.heap.size wx w') : Bsd w' D o Q x v := ⟨(fr0 hb).blk H.blk (fun h => h), H.ni, H.nx⟩
theorem HR.beside (H : HR w wx h Q room T x v L L2) (o : Obj) : HR w (wx.alloc o) h Q room T x v L L2 ∧ Bsd (wx.alloc o) wx.heap.size o Q x v := by
  refine ⟨H.later ((Below.refl _ _).alloc (Nat.le_refl _) _), ⟨blk_new _ _, fun e => ?_, fun e => ?_⟩⟩
  · have := (H.heap.lt _ e).2; omega
  · have := (H.ref.lt _ e).2; omega
theorem HR.new (H : HR w wx h Q room T x v L L2) (hb : wx.heap.size ≤ D) : ¬ Q D ∧ ¬ R02Set x v D :=
  ⟨fun e => by have := (H.heap.lt _ e).2; omega, fun e => by have := (H.ref.lt _ e).2; omega⟩
end
/-- A deed, by both. -/
structure Both (F G : FuncId) (hargs : List Value) (room : Nat) (L : List (Int × Int)) (r : Int) (L' : List (Int × Int)) : Prop where
  a : ∀ (w W : World) (h : Nat) (Q : Nat → Prop) (T x : Nat) (v : Value) (L2 : List (Int × Int)), T < 1000 → HR w W h Q room T x v L L2 → Calls Try.prog F (#[.pointer (some ⟨h, 0, none⟩)] ++ hargs.toArray) W fun e w' => e = .returned (.int .i64 r) ∧ HBehind W w.heap.size h Q room (T + 1) L' w'
  b : ∀ (w W : World) (h : Nat) (Q : Nat → Prop) (T x : Nat) (v : Value) (L1 : List (Int × Int)), HR w W h Q room T x v L1 L → Calls Try.prog G (#[.pointer (some ⟨x, 0, none⟩)] ++ hargs.toArray) W fun e w' => e = .returned (.int .i64 r) ∧ R02Behind W w.heap.size x v room L' w'
/-- What holds of the list. -/
structure LOk (room : Nat) (L : List (Int × Int)) : Prop where
  nd : (fsts L).Nodup
  so : L.Pairwise (fun p q => p.2 ≤ q.2)
  len : L.length ≤ room
theorem both_push {room : Nat} {L : List (Int × Int)} (hok : LOk room L) (hr : room ≤ 256) (t k : Int) (ht : -9223372036854775808 ≤ t ∧ t ≤ 9223372036854775807) :
    ∃ r L', Both 30 39 [.int .i64 t, .int .i64 k] room L r L' :=
  ⟨(pushP room L t k).1, (pushP room L t k).2, fun w W h Q T x v L2 hT H => heap_push H.heap ht (by omega) rfl, fun w W h Q T x v L1 H => r02_push H.ref hok.so hok.nd t k (by have := hok.len; omega) hr⟩
theorem both_change {room : Nat} {L : List (Int × Int)} (hok : LOk room L) (hr : room ≤ 256) (t k : Int) (ht : -9223372036854775808 ≤ t ∧ t ≤ 9223372036854775807) :
    ∃ r L', Both 33 41 [.int .i64 t, .int .i64 k] room L r L' := by
  refine ⟨(chgP L t k).1, (chgP L t k).2, fun w W h Q T x v L2 hT H => ?_, fun w W h Q T x v L1 H => r02_change H.ref hok.so hok.nd t k (by have := hok.len; omega)⟩
  unfold chgP
  by_cases hin : t ∈ fsts L
  · rw [if_pos hin]
    exact heap_change_yes H.heap hin (by omega)
  · rw [if_neg hin]
    refine (heap_change_no H.heap ht hin).mono ?_
    rintro e w' ⟨rfl, rfl⟩
    exact ⟨rfl, H.heap.behind (Below.refl _ _) (by omega)⟩
theorem both_remove {room : Nat} {L : List (Int × Int)} (hok : LOk room L) (hr : room ≤ 256) (t : Int) (ht : -9223372036854775808 ≤ t ∧ t ≤ 9223372036854775807) :
    ∃ r L', Both 34 42 [.int .i64 t] room L r L' := by
  refine ⟨if t ∈ fsts L then 0 else 5, offP t L, fun w W h Q T x v L2 hT H => ?_, fun w W h Q T x v L1 H => r02_remove H.ref hok.nd t (by have := hok.len; omega)⟩
  by_cases hin : t ∈ fsts L
  · rw [if_pos hin]
    exact heap_remove_yes H.heap hin (by omega)
  · rw [if_neg hin, offP_out hin]
    refine (heap_remove_no H.heap ht hin).mono ?_
    rintro e w' ⟨rfl, rfl⟩
    exact ⟨rfl, H.heap.behind (Below.refl _ _) (by omega)⟩
attribute [local irreducible] pushP insP offP fsts keyP headP chgP
set_option maxRecDepth 1000000 in
set_option maxHeartbeats 3200000 in
theorem heapplays_no {w : World} (c : Int) (A : Option Addr) (len cap : Nat) (h0 : c < 0 ∨ 256 < c) :
    Calls Try.prog 11 #[.int .i64 c, .slice A len cap] w fun e w' => e = .returned (.bool true) ∧ Below w.heap.size w w' := by
  go_enter Try.func11, Try.ntmps11
  go_wp2_with fail
  refine heapex_any.mono ?_
  rintro e w1 ⟨rfl, hb1⟩
  go_wp2_with fail
  refine (heap_new_no c h0).mono ?_
  rintro e w2 ⟨rfl, rfl⟩
  go_wp2_with fail
  refine (r02_new_no c h0).mono ?_
  rintro e w3 ⟨rfl, rfl⟩
  go_wp2_with fail
  go_ret
  exact ⟨rfl, hb1⟩
set_option maxRecDepth 1000000 in
set_option maxHeartbeats 6400000 in
theorem heapplays_yes {w : World} (room : Nat) (A : Option Addr) (len cap : Nat) (h0 : room ≤ 256) (hlen : len ≤ 9223372036854775807) (Z : Nat → Nat → Int) (hz : IntRows w A len 3 Z) :
    Calls Try.prog 11 #[.int .i64 room, .slice A len cap] w fun e w' => e = .returned (.bool true) ∧ Below w.heap.size w w' := by
  have HZ := hid hz
  clear hz
  go_enter Try.func11, Try.ntmps11
  go_wp2_with fail
  refine heapex_any.mono ?_
  rintro e w1 ⟨rfl, hb1⟩
  go_wp2_with fail
  refine (heap_new room h0).mono ?_
  rintro e w2 ⟨h, Q0, rfl, hI2, hb2⟩
  go_wp2_with fail
  refine (r02_new_yes room h0).mono ?_
  rintro e w3 ⟨rfl, hR3, hb3⟩
  obtain ⟨x, hx⟩ : ∃ x, x = w2.heap.size := ⟨_, rfl⟩
  have hb3' : Below w2.heap.size w2 w3 := hb3
  have hsz := hb1.size
  have HA : Hid (HR w w3 h Q0 room 0 x (.slice none 0 0) [] []) := hid ⟨below_then (below_then hb1 hb2) hb3', (hI2.later hb3').weak hsz, by
      have h := hR3
      rw [← hx] at h
      exact ⟨h.hx, own_mono h.row (by have := hb2.size; omega), by have := hb2.size; omega⟩, fun k hk e => by
      have h1 := (hI2.lt k hk).2
      rcases e with e | e
      · omega
      · cases e⟩
  rw [← hx]
  clear hI2 hR3 hb1 hb2 hb3 hb3' hsz hx
  go_wp2_with fail
  go_loopw [9] (fun i wr => ∃ (k T : Nat) (L : List (Int × Int)) (Q : Nat → Prop) (v : Value), k ≤ len ∧ k ≤ 300 ∧ i = .int .i64 k ∧ T ≤ k ∧ HR w wr h Q room T x v L L) (fun i _ => 300 - (intOf i).toNat)
  case atStart => exact ⟨0, 0, [], Q0, _, by omega, by omega, rfl, by omega, HA.out⟩
  case round =>
    obtain ⟨k, T, L, Q, v, hk1, hk2, rfl, hT, hI⟩ := hrel
    by_cases h1 : k < len
    · by_cases h2 : k < 300
      · obtain ⟨ab, ao, rfl, hbl, hcs⟩ := HZ.out k h1
        obtain ⟨hc0, hd01, hd02⟩ := hcs 0 (by omega)
        obtain ⟨hc1, hd11, hd12⟩ := hcs 1 (by omega)
        obtain ⟨hc2, hd21, hd22⟩ := hcs 2 (by omega)
        have c0 : wr.cell? ⟨ab, ao + k * 3, none⟩ = some (.int .i64 (Z k 0)) := (hI.below.cell hbl).trans hc0
        have c1 : wr.cell? ⟨ab, ao + k * 3 + 1, none⟩ = some (.int .i64 (Z k 1)) := (hI.below.cell hbl).trans hc1
        have c2 : wr.cell? ⟨ab, ao + k * 3 + 2, none⟩ = some (.int .i64 (Z k 2)) := (hI.below.cell hbl).trans hc2
        clear hc0 hc1 hc2 hcs
        generalize Z k 0 = d0 at *
        generalize Z k 1 = d1 at *
        generalize Z k 2 = d2 at *
        have hK := pickN_bd d0 5 (by omega)
        have hKp := fun W => heappick_any (w := W) d0 5 hd01 hd02 (by omega) (by omega)
        generalize pickN d0 5 = K at *
        have HK := hid hKp
        clear hKp
        obtain ⟨hI1, hD1⟩ := hI.beside (.cells #[.int .i64 d0, .int .i64 d1, .int .i64 d2] 47)
        have HI := hid hI1
        have HD := hid hD1
        have HOK := hid (LOk.mk hI.heap.facts.1 hI.heap.facts.2.1 hI.heap.facts.2.2.2.1)
        clear hI hI1 hD1
        go_upto_block 2 with (go_at_call 32; refine (HK.out _).mono ?_; rintro e w' ⟨rfl, rfl⟩)
        generalize hw1 : wr.alloc (.cells #[.int .i64 d0, .int .i64 d1, .int .i64 d2] 47) = w1
        rw [hw1] at HI HD
        obtain ⟨D, hDe⟩ : ∃ D, wr.heap.size = D := ⟨_, rfl⟩
        rw [hDe] at HD ⊢
        clear hw1 hDe c0 c1 c2
        go_cut [11] (fun g wx => g = .bool true ∧ ∃ T' L' Q' v', T' ≤ k + 1 ∧ HR w wx h Q' room T' x v' L' L')
        case first =>
          as_aux_lemma =>
            have F1 := hid (fun (W : World) (h : W.heap[D]? = some (.cells #[.int .i64 d0, .int .i64 d1, .int .i64 d2] 47 (0, 0))) => (blk_cell h 1 : W.cell? ⟨D, 1, none⟩ = some (.int .i64 d1)))
            have F2 := hid (fun (W : World) (h : W.heap[D]? = some (.cells #[.int .i64 d0, .int .i64 d1, .int .i64 d2] 47 (0, 0))) => (blk_cell h 2 : W.cell? ⟨D, 2, none⟩ = some (.int .i64 d2)))
            rcases (show K = 0 ∨ K = 1 ∨ K = 2 ∨ K = 3 ∨ K = 4 by omega) with rfl | rfl | rfl | rfl | rfl
            · obtain ⟨r, L', hB⟩ := both_push HOK.out h0 d1 d2 ⟨hd11, hd12⟩
              have HSA := hid hB.a
              have HSB := hid hB.b
              clear hB HOK
              go_upto_region 18 with fail
              have HI1 := hid (HI.out.later (w' := w1.drew) (below_drewN' (Below.refl _ w1) 1))
              have HD1 := hid (HD.out.later (w' := w1.drew) (below_drewN' (Below.refl _ w1) 1))
              clear HI HD
              refine wp_region_held_drew (S := fun W => W.heap[D]? = some (.cells #[.int .i64 d0, .int .i64 d1, .int .i64 d2] 47 (0, 0))) (by kernel_rfl) HD1.out.blk (fun hHeld => ?_)
              refine wpAnyH_take (i := 0) (oi := ?ois0) (v := ?vs0) ?his0 (by kernel_rfl) (by kernel_rfl) (by kernel_rfl) ?hqs0 (Or.inl ⟨?was0, ?hys0⟩) (by assumption) ?hrs0
              case his0 => (simp only [List.getElem?_toArray, List.getElem?_cons_succ, List.getElem?_cons_zero]; rfl)
              case was0 => rfl
              case hys0 => ((intro w hSw; (try dsimp only at hSw); go_simp); all_goals (with_reducible rfl))
              case hqs0 => exact fun _ _ _ h => h
              try simp only [Act.put, List.setIfInBounds_toArray, List.set_cons_zero, List.set_cons_succ]
              refine wpAnyH_take (i := 1) (oi := ?ois1) (v := ?vs1) ?his1 (by kernel_rfl) (by kernel_rfl) (by kernel_rfl) ?hqs1 (Or.inl ⟨?was1, ?hys1⟩) (by assumption) ?hrs1
              case his1 => (simp only [List.getElem?_toArray, List.getElem?_cons_succ, List.getElem?_cons_zero]; rfl)
              case was1 => rfl
              case hys1 => ((intro w hSw; (try dsimp only at hSw); go_simp); all_goals (with_reducible rfl))
              case hqs1 => exact fun _ _ _ h => h
              try simp only [Act.put, List.setIfInBounds_toArray, List.set_cons_zero, List.set_cons_succ]
              refine wpAnyH_take (i := 2) (oi := ?ois2) (v := ?vs2) ?his2 (by kernel_rfl) (by kernel_rfl) (by kernel_rfl) ?hqs2 (Or.inl ⟨?was2, ?hys2⟩) (by assumption) ?hrs2
              case his2 => (simp only [List.getElem?_toArray, List.getElem?_cons_succ, List.getElem?_cons_zero]; rfl)
              case was2 => rfl
              case hys2 => ((intro w hSw; have q0 := F1.out w hSw; (try dsimp only at hSw); go_simp); all_goals (with_reducible rfl))
              case hqs2 => exact fun _ _ _ h => h
              try simp only [Act.put, List.setIfInBounds_toArray, List.set_cons_zero, List.set_cons_succ]
              refine wpAnyH_take (i := 3) (oi := ?ois3) (v := ?vs3) ?his3 (by kernel_rfl) (by kernel_rfl) (by kernel_rfl) ?hqs3 (Or.inl ⟨?was3, ?hys3⟩) (by assumption) ?hrs3
              case his3 => (simp only [List.getElem?_toArray, List.getElem?_cons_succ, List.getElem?_cons_zero]; rfl)
              case was3 => rfl
              case hys3 => ((intro w hSw; (try dsimp only at hSw); go_simp); all_goals (with_reducible rfl))
              case hqs3 => exact fun _ _ _ h => h
              try simp only [Act.put, List.setIfInBounds_toArray, List.set_cons_zero, List.set_cons_succ]
              refine wpAnyH_take (i := 4) (oi := ?ois4) (v := ?vs4) ?his4 (by kernel_rfl) (by kernel_rfl) (by kernel_rfl) ?hqs4 (Or.inl ⟨?was4, ?hys4⟩) (by assumption) ?hrs4
              case his4 => (simp only [List.getElem?_toArray, List.getElem?_cons_succ, List.getElem?_cons_zero]; rfl)
              case was4 => rfl
              case hys4 => ((intro w hSw; have q0 := F2.out w hSw; (try dsimp only at hSw); go_simp); all_goals (with_reducible rfl))
              case hqs4 => exact fun _ _ _ h => h
              try simp only [Act.put, List.setIfInBounds_toArray, List.set_cons_zero, List.set_cons_succ]
              refine wpAnyH_take (i := 6) (oi := ?ois6) (v := ?vs6) ?his6 (by kernel_rfl) (by kernel_rfl) (by kernel_rfl) ?hqs6 (Or.inl ⟨?was6, ?hys6⟩) (by assumption) ?hrs6
              case his6 => (simp only [List.getElem?_toArray, List.getElem?_cons_succ, List.getElem?_cons_zero]; rfl)
              case was6 => rfl
              case hys6 => ((intro w hSw; (try dsimp only at hSw); go_simp); all_goals (with_reducible rfl))
              case hqs6 => exact fun _ _ _ h => h
              try simp only [Act.put, List.setIfInBounds_toArray, List.set_cons_zero, List.set_cons_succ]
              refine wpAnyH_take (i := 7) (oi := ?ois7) (v := ?vs7) ?his7 (by kernel_rfl) (by kernel_rfl) (by kernel_rfl) ?hqs7 (Or.inl ⟨?was7, ?hys7⟩) (by assumption) ?hrs7
              case his7 => (simp only [List.getElem?_toArray, List.getElem?_cons_succ, List.getElem?_cons_zero]; rfl)
              case was7 => rfl
              case hys7 => ((intro w hSw; (try dsimp only at hSw); go_simp); all_goals (with_reducible rfl))
              case hqs7 => exact fun _ _ _ h => h
              try simp only [Act.put, List.setIfInBounds_toArray, List.set_cons_zero, List.set_cons_succ]
              refine wpAnyH_take (i := 8) (oi := ?ois8) (v := ?vs8) ?his8 (by kernel_rfl) (by kernel_rfl) (by kernel_rfl) ?hqs8 (Or.inl ⟨?was8, ?hys8⟩) (by assumption) ?hrs8
              case his8 => (simp only [List.getElem?_toArray, List.getElem?_cons_succ, List.getElem?_cons_zero]; rfl)
              case was8 => rfl
              case hys8 => ((intro w hSw; have q0 := F1.out w hSw; (try dsimp only at hSw); go_simp); all_goals (with_reducible rfl))
              case hqs8 => exact fun _ _ _ h => h
              try simp only [Act.put, List.setIfInBounds_toArray, List.set_cons_zero, List.set_cons_succ]
              refine wpAnyH_take (i := 9) (oi := ?ois9) (v := ?vs9) ?his9 (by kernel_rfl) (by kernel_rfl) (by kernel_rfl) ?hqs9 (Or.inl ⟨?was9, ?hys9⟩) (by assumption) ?hrs9
              case his9 => (simp only [List.getElem?_toArray, List.getElem?_cons_succ, List.getElem?_cons_zero]; rfl)
              case was9 => rfl
              case hys9 => ((intro w hSw; (try dsimp only at hSw); go_simp); all_goals (with_reducible rfl))
              case hqs9 => exact fun _ _ _ h => h
              try simp only [Act.put, List.setIfInBounds_toArray, List.set_cons_zero, List.set_cons_succ]
              refine wpAnyH_take (i := 10) (oi := ?ois10) (v := ?vs10) ?his10 (by kernel_rfl) (by kernel_rfl) (by kernel_rfl) ?hqs10 (Or.inl ⟨?was10, ?hys10⟩) (by assumption) ?hrs10
              case his10 => (simp only [List.getElem?_toArray, List.getElem?_cons_succ, List.getElem?_cons_zero]; rfl)
              case was10 => rfl
              case hys10 => ((intro w hSw; have q0 := F2.out w hSw; (try dsimp only at hSw); go_simp); all_goals (with_reducible rfl))
              case hqs10 => exact fun _ _ _ h => h
              try simp only [Act.put, List.setIfInBounds_toArray, List.set_cons_zero, List.set_cons_succ]
              refine wpAnyH_ready (rs := [5]) (by kernel_rfl) (by simp) ?_
              refine (AllReadyH.cons (i := 5) (o := ?os5) ?his5 ?sts5 AllReadyH.nil)
              case his5 => (simp only [List.getElem?_toArray, List.getElem?_cons_succ, List.getElem?_cons_zero]; rfl)
              case sts5 =>
                intro K hK
                go_simp
                refine (HSA.out _ _ _ _ _ _ _ _ (by omega) HI1.out).mono ?_
                rintro e w6 ⟨rfl, hB6⟩
                obtain ⟨Q6, hI6, hD6⟩ := HI1.out.stepH hB6
                have HIA := hid hI6
                have HDA := hid (hD6 _ _ HD1.out)
                clear hB6 hI6 hD6
                go_wp2_with fail
                refine hK.out _ _ ?_ (fun hHeld => ?_)
                · exact HDA.out.blk
                clear hK K
                try simp only [Act.put, List.setIfInBounds_toArray, List.set_cons_zero, List.set_cons_succ]
                refine wpAnyH_ready (rs := [11]) (by kernel_rfl) (by simp) ?_
                refine (AllReadyH.cons (i := 11) (o := ?os5_11) ?his5_11 ?sts5_11 AllReadyH.nil)
                case his5_11 => (simp only [List.getElem?_toArray, List.getElem?_cons_succ, List.getElem?_cons_zero]; rfl)
                case sts5_11 =>
                  intro K hK
                  go_simp
                  refine (HSB.out _ _ _ _ _ _ _ _ HIA.out).mono ?_
                  rintro e w7 ⟨rfl, hB7⟩
                  obtain ⟨v7, hI7, hD7⟩ := HIA.out.stepR hB7
                  have HIZ := hid hI7
                  have HDZ := hid (hD7 _ _ HDA.out)
                  clear hB7 hI7 hD7
                  go_wp2_with fail
                  refine hK.out _ _ ?_ (fun hHeld => ?_)
                  · exact HDZ.out.blk
                  clear hK K
                  try simp only [Act.put, List.setIfInBounds_toArray, List.set_cons_zero, List.set_cons_succ]
                  refine wpAnyH_ready (rs := [12]) (by kernel_rfl) (by simp) ?_
                  refine (AllReadyH.cons (i := 12) (o := ?os5_11_12) ?his5_11_12 ?sts5_11_12 AllReadyH.nil)
                  case his5_11_12 => (simp only [List.getElem?_toArray, List.getElem?_cons_succ, List.getElem?_cons_zero]; rfl)
                  case sts5_11_12 =>
                    intro K hK
                    go_simp
                    go_wp2_with fail
                    refine hK.out _ _ ?_ (fun hHeld => ?_)
                    · assumption
                    clear hK K
                    try simp only [Act.put, List.setIfInBounds_toArray, List.set_cons_zero, List.set_cons_succ]
                    refine wpAnyH_ready (rs := [13]) (by kernel_rfl) (by simp) ?_
                    refine (AllReadyH.cons (i := 13) (o := ?os5_11_12_13) ?his5_11_12_13 ?sts5_11_12_13 AllReadyH.nil)
                    case his5_11_12_13 => (simp only [List.getElem?_toArray, List.getElem?_cons_succ, List.getElem?_cons_zero]; rfl)
                    case sts5_11_12_13 =>
                      intro K hK
                      go_simp
                      go_wp2_with fail
                      refine hK.out _ _ ?_ (fun hHeld => ?_)
                      · assumption
                      clear hK K
                      try simp only [Act.put, List.setIfInBounds_toArray, List.set_cons_zero, List.set_cons_succ]
                      refine wpAnyH_done (by kernel_rfl) ?_ _
                      go_wp2_with fail
                      go_meet
                      exact ⟨by simp, T + 1, L', _, _, by omega, HIZ.out⟩
            · go_wp2_with fail
              refine (heap_pop HI.out.heap (by omega)).mono ?_
              rintro e w4 ⟨rfl, hB⟩
              obtain ⟨Q4, hI4, hD4⟩ := HI.out.stepH hB
              have HI4 := hid hI4
              clear hB hI4 hD4
              go_wp2_with fail
              refine (r02_pop HI4.out.ref (by have := HOK.out.len; omega)).mono ?_
              rintro e w5 ⟨rfl, hB⟩
              obtain ⟨v5, hI5, -⟩ := HI4.out.stepR hB
              have HI5 := hid hI5
              clear hB hI5 HI4 HI
              obtain ⟨p1, hp1⟩ : ∃ p1, (headP L).1 = p1 := ⟨_, rfl⟩
              obtain ⟨p2, hp2⟩ : ∃ p2, (headP L).2 = p2 := ⟨_, rfl⟩
              obtain ⟨p3, hp3⟩ : ∃ p3, (!L.isEmpty) = p3 := ⟨_, rfl⟩
              rw [hp1, hp2, hp3]
              clear hp1 hp2 hp3
              cases p3
              all_goals
                go_wp2_with fail
                go_meet
                exact ⟨rfl, T + 1, _, _, _, by omega, HI5.out⟩
            · obtain ⟨r, L', hB⟩ := both_change HOK.out h0 d1 d2 ⟨hd11, hd12⟩
              have HSA := hid hB.a
              have HSB := hid hB.b
              clear hB HOK
              go_upto_region 24 with fail
              have HI1 := hid (HI.out.later (w' := w1.drew) (below_drewN' (Below.refl _ w1) 1))
              have HD1 := hid (HD.out.later (w' := w1.drew) (below_drewN' (Below.refl _ w1) 1))
              clear HI HD
              refine wp_region_held_drew (S := fun W => W.heap[D]? = some (.cells #[.int .i64 d0, .int .i64 d1, .int .i64 d2] 47 (0, 0))) (by kernel_rfl) HD1.out.blk (fun hHeld => ?_)
              refine wpAnyH_take (i := 0) (oi := ?oic0) (v := ?vc0) ?hic0 (by kernel_rfl) (by kernel_rfl) (by kernel_rfl) ?hqc0 (Or.inl ⟨?wac0, ?hyc0⟩) (by assumption) ?hrc0
              case hic0 => (simp only [List.getElem?_toArray, List.getElem?_cons_succ, List.getElem?_cons_zero]; rfl)
              case wac0 => rfl
              case hyc0 => ((intro w hSw; (try dsimp only at hSw); go_simp); all_goals (with_reducible rfl))
              case hqc0 => exact fun _ _ _ h => h
              try simp only [Act.put, List.setIfInBounds_toArray, List.set_cons_zero, List.set_cons_succ]
              refine wpAnyH_take (i := 1) (oi := ?oic1) (v := ?vc1) ?hic1 (by kernel_rfl) (by kernel_rfl) (by kernel_rfl) ?hqc1 (Or.inl ⟨?wac1, ?hyc1⟩) (by assumption) ?hrc1
              case hic1 => (simp only [List.getElem?_toArray, List.getElem?_cons_succ, List.getElem?_cons_zero]; rfl)
              case wac1 => rfl
              case hyc1 => ((intro w hSw; (try dsimp only at hSw); go_simp); all_goals (with_reducible rfl))
              case hqc1 => exact fun _ _ _ h => h
              try simp only [Act.put, List.setIfInBounds_toArray, List.set_cons_zero, List.set_cons_succ]
              refine wpAnyH_take (i := 2) (oi := ?oic2) (v := ?vc2) ?hic2 (by kernel_rfl) (by kernel_rfl) (by kernel_rfl) ?hqc2 (Or.inl ⟨?wac2, ?hyc2⟩) (by assumption) ?hrc2
              case hic2 => (simp only [List.getElem?_toArray, List.getElem?_cons_succ, List.getElem?_cons_zero]; rfl)
              case wac2 => rfl
              case hyc2 => ((intro w hSw; have q0 := F1.out w hSw; (try dsimp only at hSw); go_simp); all_goals (with_reducible rfl))
              case hqc2 => exact fun _ _ _ h => h
              try simp only [Act.put, List.setIfInBounds_toArray, List.set_cons_zero, List.set_cons_succ]
              refine wpAnyH_take (i := 3) (oi := ?oic3) (v := ?vc3) ?hic3 (by kernel_rfl) (by kernel_rfl) (by kernel_rfl) ?hqc3 (Or.inl ⟨?wac3, ?hyc3⟩) (by assumption) ?hrc3
              case hic3 => (simp only [List.getElem?_toArray, List.getElem?_cons_succ, List.getElem?_cons_zero]; rfl)
              case wac3 => rfl
              case hyc3 => ((intro w hSw; (try dsimp only at hSw); go_simp); all_goals (with_reducible rfl))
              case hqc3 => exact fun _ _ _ h => h
              try simp only [Act.put, List.setIfInBounds_toArray, List.set_cons_zero, List.set_cons_succ]
              refine wpAnyH_take (i := 4) (oi := ?oic4) (v := ?vc4) ?hic4 (by kernel_rfl) (by kernel_rfl) (by kernel_rfl) ?hqc4 (Or.inl ⟨?wac4, ?hyc4⟩) (by assumption) ?hrc4
              case hic4 => (simp only [List.getElem?_toArray, List.getElem?_cons_succ, List.getElem?_cons_zero]; rfl)
              case wac4 => rfl
              case hyc4 => ((intro w hSw; have q0 := F2.out w hSw; (try dsimp only at hSw); go_simp); all_goals (with_reducible rfl))
              case hqc4 => exact fun _ _ _ h => h
              try simp only [Act.put, List.setIfInBounds_toArray, List.set_cons_zero, List.set_cons_succ]
              refine wpAnyH_take (i := 6) (oi := ?oic6) (v := ?vc6) ?hic6 (by kernel_rfl) (by kernel_rfl) (by kernel_rfl) ?hqc6 (Or.inl ⟨?wac6, ?hyc6⟩) (by assumption) ?hrc6
              case hic6 => (simp only [List.getElem?_toArray, List.getElem?_cons_succ, List.getElem?_cons_zero]; rfl)
              case wac6 => rfl
              case hyc6 => ((intro w hSw; (try dsimp only at hSw); go_simp); all_goals (with_reducible rfl))
              case hqc6 => exact fun _ _ _ h => h
              try simp only [Act.put, List.setIfInBounds_toArray, List.set_cons_zero, List.set_cons_succ]
              refine wpAnyH_take (i := 7) (oi := ?oic7) (v := ?vc7) ?hic7 (by kernel_rfl) (by kernel_rfl) (by kernel_rfl) ?hqc7 (Or.inl ⟨?wac7, ?hyc7⟩) (by assumption) ?hrc7
              case hic7 => (simp only [List.getElem?_toArray, List.getElem?_cons_succ, List.getElem?_cons_zero]; rfl)
              case wac7 => rfl
              case hyc7 => ((intro w hSw; (try dsimp only at hSw); go_simp); all_goals (with_reducible rfl))
              case hqc7 => exact fun _ _ _ h => h
              try simp only [Act.put, List.setIfInBounds_toArray, List.set_cons_zero, List.set_cons_succ]
              refine wpAnyH_take (i := 8) (oi := ?oic8) (v := ?vc8) ?hic8 (by kernel_rfl) (by kernel_rfl) (by kernel_rfl) ?hqc8 (Or.inl ⟨?wac8, ?hyc8⟩) (by assumption) ?hrc8
              case hic8 => (simp only [List.getElem?_toArray, List.getElem?_cons_succ, List.getElem?_cons_zero]; rfl)
              case wac8 => rfl
              case hyc8 => ((intro w hSw; have q0 := F1.out w hSw; (try dsimp only at hSw); go_simp); all_goals (with_reducible rfl))
              case hqc8 => exact fun _ _ _ h => h
              try simp only [Act.put, List.setIfInBounds_toArray, List.set_cons_zero, List.set_cons_succ]
              refine wpAnyH_take (i := 9) (oi := ?oic9) (v := ?vc9) ?hic9 (by kernel_rfl) (by kernel_rfl) (by kernel_rfl) ?hqc9 (Or.inl ⟨?wac9, ?hyc9⟩) (by assumption) ?hrc9
              case hic9 => (simp only [List.getElem?_toArray, List.getElem?_cons_succ, List.getElem?_cons_zero]; rfl)
              case wac9 => rfl
              case hyc9 => ((intro w hSw; (try dsimp only at hSw); go_simp); all_goals (with_reducible rfl))
              case hqc9 => exact fun _ _ _ h => h
              try simp only [Act.put, List.setIfInBounds_toArray, List.set_cons_zero, List.set_cons_succ]
              refine wpAnyH_take (i := 10) (oi := ?oic10) (v := ?vc10) ?hic10 (by kernel_rfl) (by kernel_rfl) (by kernel_rfl) ?hqc10 (Or.inl ⟨?wac10, ?hyc10⟩) (by assumption) ?hrc10
              case hic10 => (simp only [List.getElem?_toArray, List.getElem?_cons_succ, List.getElem?_cons_zero]; rfl)
              case wac10 => rfl
              case hyc10 => ((intro w hSw; have q0 := F2.out w hSw; (try dsimp only at hSw); go_simp); all_goals (with_reducible rfl))
              case hqc10 => exact fun _ _ _ h => h
              try simp only [Act.put, List.setIfInBounds_toArray, List.set_cons_zero, List.set_cons_succ]
              refine wpAnyH_ready (rs := [5]) (by kernel_rfl) (by simp) ?_
              refine (AllReadyH.cons (i := 5) (o := ?oc5) ?hic5 ?stc5 AllReadyH.nil)
              case hic5 => (simp only [List.getElem?_toArray, List.getElem?_cons_succ, List.getElem?_cons_zero]; rfl)
              case stc5 =>
                intro K hK
                go_simp
                refine (HSA.out _ _ _ _ _ _ _ _ (by omega) HI1.out).mono ?_
                rintro e w6 ⟨rfl, hB6⟩
                obtain ⟨Q6, hI6, hD6⟩ := HI1.out.stepH hB6
                have HIA := hid hI6
                have HDA := hid (hD6 _ _ HD1.out)
                clear hB6 hI6 hD6
                go_wp2_with fail
                refine hK.out _ _ ?_ (fun hHeld => ?_)
                · exact HDA.out.blk
                clear hK K
                try simp only [Act.put, List.setIfInBounds_toArray, List.set_cons_zero, List.set_cons_succ]
                refine wpAnyH_ready (rs := [11]) (by kernel_rfl) (by simp) ?_
                refine (AllReadyH.cons (i := 11) (o := ?oc5_11) ?hic5_11 ?stc5_11 AllReadyH.nil)
                case hic5_11 => (simp only [List.getElem?_toArray, List.getElem?_cons_succ, List.getElem?_cons_zero]; rfl)
                case stc5_11 =>
                  intro K hK
                  go_simp
                  refine (HSB.out _ _ _ _ _ _ _ _ HIA.out).mono ?_
                  rintro e w7 ⟨rfl, hB7⟩
                  obtain ⟨v7, hI7, hD7⟩ := HIA.out.stepR hB7
                  have HIZ := hid hI7
                  have HDZ := hid (hD7 _ _ HDA.out)
                  clear hB7 hI7 hD7
                  go_wp2_with fail
                  refine hK.out _ _ ?_ (fun hHeld => ?_)
                  · exact HDZ.out.blk
                  clear hK K
                  try simp only [Act.put, List.setIfInBounds_toArray, List.set_cons_zero, List.set_cons_succ]
                  refine wpAnyH_ready (rs := [12]) (by kernel_rfl) (by simp) ?_
                  refine (AllReadyH.cons (i := 12) (o := ?oc5_11_12) ?hic5_11_12 ?stc5_11_12 AllReadyH.nil)
                  case hic5_11_12 => (simp only [List.getElem?_toArray, List.getElem?_cons_succ, List.getElem?_cons_zero]; rfl)
                  case stc5_11_12 =>
                    intro K hK
                    go_simp
                    go_wp2_with fail
                    refine hK.out _ _ ?_ (fun hHeld => ?_)
                    · assumption
                    clear hK K
                    try simp only [Act.put, List.setIfInBounds_toArray, List.set_cons_zero, List.set_cons_succ]
                    refine wpAnyH_ready (rs := [13]) (by kernel_rfl) (by simp) ?_
                    refine (AllReadyH.cons (i := 13) (o := ?oc5_11_12_13) ?hic5_11_12_13 ?stc5_11_12_13 AllReadyH.nil)
                    case hic5_11_12_13 => (simp only [List.getElem?_toArray, List.getElem?_cons_succ, List.getElem?_cons_zero]; rfl)
                    case stc5_11_12_13 =>
                      intro K hK
                      go_simp
                      go_wp2_with fail
                      refine hK.out _ _ ?_ (fun hHeld => ?_)
                      · assumption
                      clear hK K
                      try simp only [Act.put, List.setIfInBounds_toArray, List.set_cons_zero, List.set_cons_succ]
                      refine wpAnyH_done (by kernel_rfl) ?_ _
                      go_wp2_with fail
                      go_meet
                      exact ⟨by simp, T + 1, L', _, _, by omega, HIZ.out⟩
            · obtain ⟨r, L', hB⟩ := both_remove HOK.out h0 d1 ⟨hd11, hd12⟩
              have HSA := hid hB.a
              have HSB := hid hB.b
              clear hB HOK
              go_upto_region 26 with fail
              have HI1 := hid (HI.out.later (w' := w1.drew) (below_drewN' (Below.refl _ w1) 1))
              have HD1 := hid (HD.out.later (w' := w1.drew) (below_drewN' (Below.refl _ w1) 1))
              clear HI HD
              refine wp_region_held_drew (S := fun W => W.heap[D]? = some (.cells #[.int .i64 d0, .int .i64 d1, .int .i64 d2] 47 (0, 0))) (by kernel_rfl) HD1.out.blk (fun hHeld => ?_)
              refine wpAnyH_take (i := 0) (oi := ?oir0) (v := ?vr0) ?hir0 (by kernel_rfl) (by kernel_rfl) (by kernel_rfl) ?hqr0 (Or.inl ⟨?war0, ?hyr0⟩) (by assumption) ?hrr0
              case hir0 => (simp only [List.getElem?_toArray, List.getElem?_cons_succ, List.getElem?_cons_zero]; rfl)
              case war0 => rfl
              case hyr0 => ((intro w hSw; (try dsimp only at hSw); go_simp); all_goals (with_reducible rfl))
              case hqr0 => exact fun _ _ _ h => h
              try simp only [Act.put, List.setIfInBounds_toArray, List.set_cons_zero, List.set_cons_succ]
              refine wpAnyH_take (i := 1) (oi := ?oir1) (v := ?vr1) ?hir1 (by kernel_rfl) (by kernel_rfl) (by kernel_rfl) ?hqr1 (Or.inl ⟨?war1, ?hyr1⟩) (by assumption) ?hrr1
              case hir1 => (simp only [List.getElem?_toArray, List.getElem?_cons_succ, List.getElem?_cons_zero]; rfl)
              case war1 => rfl
              case hyr1 => ((intro w hSw; (try dsimp only at hSw); go_simp); all_goals (with_reducible rfl))
              case hqr1 => exact fun _ _ _ h => h
              try simp only [Act.put, List.setIfInBounds_toArray, List.set_cons_zero, List.set_cons_succ]
              refine wpAnyH_take (i := 2) (oi := ?oir2) (v := ?vr2) ?hir2 (by kernel_rfl) (by kernel_rfl) (by kernel_rfl) ?hqr2 (Or.inl ⟨?war2, ?hyr2⟩) (by assumption) ?hrr2
              case hir2 => (simp only [List.getElem?_toArray, List.getElem?_cons_succ, List.getElem?_cons_zero]; rfl)
              case war2 => rfl
              case hyr2 => ((intro w hSw; have q0 := F1.out w hSw; (try dsimp only at hSw); go_simp); all_goals (with_reducible rfl))
              case hqr2 => exact fun _ _ _ h => h
              try simp only [Act.put, List.setIfInBounds_toArray, List.set_cons_zero, List.set_cons_succ]
              refine wpAnyH_take (i := 4) (oi := ?oir4) (v := ?vr4) ?hir4 (by kernel_rfl) (by kernel_rfl) (by kernel_rfl) ?hqr4 (Or.inl ⟨?war4, ?hyr4⟩) (by assumption) ?hrr4
              case hir4 => (simp only [List.getElem?_toArray, List.getElem?_cons_succ, List.getElem?_cons_zero]; rfl)
              case war4 => rfl
              case hyr4 => ((intro w hSw; (try dsimp only at hSw); go_simp); all_goals (with_reducible rfl))
              case hqr4 => exact fun _ _ _ h => h
              try simp only [Act.put, List.setIfInBounds_toArray, List.set_cons_zero, List.set_cons_succ]
              refine wpAnyH_take (i := 5) (oi := ?oir5) (v := ?vr5) ?hir5 (by kernel_rfl) (by kernel_rfl) (by kernel_rfl) ?hqr5 (Or.inl ⟨?war5, ?hyr5⟩) (by assumption) ?hrr5
              case hir5 => (simp only [List.getElem?_toArray, List.getElem?_cons_succ, List.getElem?_cons_zero]; rfl)
              case war5 => rfl
              case hyr5 => ((intro w hSw; (try dsimp only at hSw); go_simp); all_goals (with_reducible rfl))
              case hqr5 => exact fun _ _ _ h => h
              try simp only [Act.put, List.setIfInBounds_toArray, List.set_cons_zero, List.set_cons_succ]
              refine wpAnyH_take (i := 6) (oi := ?oir6) (v := ?vr6) ?hir6 (by kernel_rfl) (by kernel_rfl) (by kernel_rfl) ?hqr6 (Or.inl ⟨?war6, ?hyr6⟩) (by assumption) ?hrr6
              case hir6 => (simp only [List.getElem?_toArray, List.getElem?_cons_succ, List.getElem?_cons_zero]; rfl)
              case war6 => rfl
              case hyr6 => ((intro w hSw; have q0 := F1.out w hSw; (try dsimp only at hSw); go_simp); all_goals (with_reducible rfl))
              case hqr6 => exact fun _ _ _ h => h
              try simp only [Act.put, List.setIfInBounds_toArray, List.set_cons_zero, List.set_cons_succ]
              refine wpAnyH_ready (rs := [3]) (by kernel_rfl) (by simp) ?_
              refine (AllReadyH.cons (i := 3) (o := ?or3) ?hir3 ?str3 AllReadyH.nil)
              case hir3 => (simp only [List.getElem?_toArray, List.getElem?_cons_succ, List.getElem?_cons_zero]; rfl)
              case str3 =>
                intro K hK
                go_simp
                refine (HSA.out _ _ _ _ _ _ _ _ (by omega) HI1.out).mono ?_
                rintro e w6 ⟨rfl, hB6⟩
                obtain ⟨Q6, hI6, hD6⟩ := HI1.out.stepH hB6
                have HIA := hid hI6
                have HDA := hid (hD6 _ _ HD1.out)
                clear hB6 hI6 hD6
                go_wp2_with fail
                refine hK.out _ _ ?_ (fun hHeld => ?_)
                · exact HDA.out.blk
                clear hK K
                try simp only [Act.put, List.setIfInBounds_toArray, List.set_cons_zero, List.set_cons_succ]
                refine wpAnyH_ready (rs := [7]) (by kernel_rfl) (by simp) ?_
                refine (AllReadyH.cons (i := 7) (o := ?or3_7) ?hir3_7 ?str3_7 AllReadyH.nil)
                case hir3_7 => (simp only [List.getElem?_toArray, List.getElem?_cons_succ, List.getElem?_cons_zero]; rfl)
                case str3_7 =>
                  intro K hK
                  go_simp
                  refine (HSB.out _ _ _ _ _ _ _ _ HIA.out).mono ?_
                  rintro e w7 ⟨rfl, hB7⟩
                  obtain ⟨v7, hI7, hD7⟩ := HIA.out.stepR hB7
                  have HIZ := hid hI7
                  have HDZ := hid (hD7 _ _ HDA.out)
                  clear hB7 hI7 hD7
                  go_wp2_with fail
                  refine hK.out _ _ ?_ (fun hHeld => ?_)
                  · exact HDZ.out.blk
                  clear hK K
                  try simp only [Act.put, List.setIfInBounds_toArray, List.set_cons_zero, List.set_cons_succ]
                  refine wpAnyH_ready (rs := [8]) (by kernel_rfl) (by simp) ?_
                  refine (AllReadyH.cons (i := 8) (o := ?or3_7_8) ?hir3_7_8 ?str3_7_8 AllReadyH.nil)
                  case hir3_7_8 => (simp only [List.getElem?_toArray, List.getElem?_cons_succ, List.getElem?_cons_zero]; rfl)
                  case str3_7_8 =>
                    intro K hK
                    go_simp
                    go_wp2_with fail
                    refine hK.out _ _ ?_ (fun hHeld => ?_)
                    · assumption
                    clear hK K
                    try simp only [Act.put, List.setIfInBounds_toArray, List.set_cons_zero, List.set_cons_succ]
                    refine wpAnyH_ready (rs := [9]) (by kernel_rfl) (by simp) ?_
                    refine (AllReadyH.cons (i := 9) (o := ?or3_7_8_9) ?hir3_7_8_9 ?str3_7_8_9 AllReadyH.nil)
                    case hir3_7_8_9 => (simp only [List.getElem?_toArray, List.getElem?_cons_succ, List.getElem?_cons_zero]; rfl)
                    case str3_7_8_9 =>
                      intro K hK
                      go_simp
                      go_wp2_with fail
                      refine hK.out _ _ ?_ (fun hHeld => ?_)
                      · assumption
                      clear hK K
                      try simp only [Act.put, List.setIfInBounds_toArray, List.set_cons_zero, List.set_cons_succ]
                      refine wpAnyH_done (by kernel_rfl) ?_ _
                      go_wp2_with fail
                      go_meet
                      exact ⟨by simp, T + 1, L', _, _, by omega, HIZ.out⟩
            · have f11 : w1.cell? ⟨D, 1, none⟩ = some (.int .i64 d1) := blk_cell HD.out.blk 1
              go_wp2_with fail
              refine (heap_key HI.out.heap ⟨hd11, hd12⟩).mono ?_
              rintro e w4 ⟨rfl, rfl⟩
              go_wp2_with fail
              refine (r02_key HI.out.ref HOK.out.nd d1 (by have := HOK.out.len; omega)).mono ?_
              rintro e w5 ⟨rfl, rfl⟩
              generalize (keyP L d1).getD 0 = p1 at *
              generalize (keyP L d1).isSome = p3 at *
              cases p3
              all_goals
                go_wp2_with fail
                go_meet
                exact ⟨rfl, T, _, _, _, by omega, HI.out⟩
        obtain ⟨rfl, T4, L4, Q4, v4, hT4, hI4⟩ := hcut
        have HI4 := hid hI4
        have HL4 := hid (show L4.length ≤ 256 by have := hI4.heap.facts; omega)
        clear hI4 HI HD
        go_wp2_with fail
        refine (heap_all HI4.out.heap).mono ?_
        rintro e w5 ⟨u, rfl, hu, hb5⟩
        have hlf : (fsts L4).length = L4.length := by unfold fsts; rw [List.length_map]
        have hnew : ∀ b, u.ownBlock = some b → ¬ Q4 b ∧ ¬ R02Set x v4 b ∧ w.heap.size ≤ b := fun b hb => by
          have h1 := own_ge hu b hb
          have h2 := HI4.out.new h1
          exact ⟨h2.1, h2.2, Nat.le_trans HI4.out.below.size h1⟩
        have HNEW := hid hnew
        have HI5 := hid (HI4.out.later hb5)
        obtain ⟨m, hm⟩ : ∃ m, L4.length = m := ⟨_, rfl⟩
        rw [hm] at hu hlf
        have hlm : m ≤ 256 := by have := HL4.out; omega
        obtain ⟨Au, cu, rfl⟩ := own_slice hu
        have HU := hid hu
        have HLF := hid hlf
        have HLM := hid hm
        generalize wc.heap.size = B0 at *
        clear hu hb5 hlf hnew HI4 hm
        go_wp2_with fail
        refine (r02_ids HI5.out.ref (by have := HL4.out; omega)).mono ?_
        rintro e w6 ⟨u2, rfl, hu2, hb6⟩
        rw [HLM.out] at hu2
        obtain ⟨A2, c2, rfl⟩ := own_slice hu2
        have HI6 := hid (HI5.out.later hb6)
        have HU6 := hid (own_kept HU.out (fr0 hb6) (fun _ _ h => h))
        have HN6 := hid (own_holds hu2)
        clear hu2 hb6 HI5 HU
        go_wp2_with fail
        refine (heapnumbers_same Au A2 m cu c2 (fsts L4) HLF.out.symm (own_holds HU6.out) HN6.out (by omega)).mono ?_
        rintro e w7 ⟨rfl, q, hq⟩
        have HI7 : Hid (HR w w7 h Q4 room T4 x v4 L4 L4) := by rw [hq]; exact hid (HI6.out.later (below_drewN' (Below.refl _ _) q))
        have HU7 : Hid (w7.ownsRow B0 3 1 (.slice Au m cu) m (intCells (fsts L4))) := by rw [hq]; exact hid (own_drewN HU6.out q)
        clear hq HI6 HU6 HN6
        go_wp2_with fail
        refine (heap_first HI7.out.heap).mono ?_
        rintro e w8 ⟨rfl, q, hq⟩
        have HI8 : Hid (HR w w8 h Q4 room T4 x v4 L4 L4) := by rw [hq]; exact hid (HI7.out.later (below_drewN' (Below.refl _ _) q))
        have HU8 : Hid (w8.ownsRow B0 3 1 (.slice Au m cu) m (intCells (fsts L4))) := by rw [hq]; exact hid (own_drewN HU7.out q)
        clear hq HI7 HU7
        go_wp2_with fail
        refine (r02_first HI8.out.ref (by have := HL4.out; omega)).mono ?_
        rintro e w9 ⟨rfl, q, hq⟩
        have HI9 : Hid (HR w w9 h Q4 room T4 x v4 L4 L4) := by rw [hq]; exact hid (HI8.out.later (below_drewN' (Below.refl _ _) q))
        have HU9 : Hid (w9.ownsRow B0 3 1 (.slice Au m cu) m (intCells (fsts L4))) := by rw [hq]; exact hid (own_drewN HU8.out q)
        clear hq HI8 HU8
        obtain ⟨p1, hp1⟩ : ∃ p1, (headP L4).1 = p1 := ⟨_, rfl⟩
        obtain ⟨p2, hp2⟩ : ∃ p2, (headP L4).2 = p2 := ⟨_, rfl⟩
        obtain ⟨p3, hp3⟩ : ∃ p3, (!L4.isEmpty) = p3 := ⟨_, rfl⟩
        rw [hp1, hp2, hp3]
        clear hp1 hp2 hp3
        have hlen9 := fun q => heap_len (w := w9.drewN q) (HI9.out.heap.later (below_drewN' (Below.refl _ _) q))
        obtain ⟨Ax, cx, hvx, c1x⟩ := r02_len_cell HI9.out.ref
        subst hvx
        rw [HLM.out] at hlen9 c1x
        have HLEN := hid hlen9
        have hn1 : (p1 != p1) = false := by simp
        have hn2 : (p2 != p2) = false := by simp
        have hn3 : (p3 != p3) = false := by simp
        clear hlen9
        go_upto_region 31 with fail
        go_quiet ((go_at_call 37; exact Calls.quiet_of_same (HLEN.out _)))
        have HIA := hid (HI9.out.later (w' := w9.drewN nq) (below_drewN' (Below.refl _ _) nq))
        have HUA := hid (own_drewN HU9.out nq)
        generalize w9.drewN nq = wa at *
        clear HI9 HU9 c1x HLEN
        go_wp2_with fail
        go_loopw [30] (fun i wq => ∃ (j : Nat) (xs : List Value), j ≤ m ∧ i = .int .i64 j ∧ HR w wq h Q4 room T4 x (.slice Ax L4.length cx) L4 L4 ∧ wq.ownsRow B0 3 1 (.slice Au m cu) m xs) (fun i _ => m - (intOf i).toNat)
        case atStart => exact ⟨0, _, by omega, rfl, HIA.out, HUA.out⟩
        case round =>
          obtain ⟨j, xs, hj, rfl, hI, hown⟩ := hrel
          by_cases hlt : j < m
          · obtain ⟨g, cap', cur, hsl, _, hg, hcc, _, hsz, hcur⟩ := own_shape hown (by omega)
            cases hsl
            have f0 : wr.frozen? ⟨g, j, none⟩ = false := blk_free hg j
            have hgs : ∃ y, wr.cell? ⟨g, j, none⟩ = some y := ⟨_, (blk_cell hg j).trans (Array.getElem?_eq_getElem (by omega))⟩
            obtain ⟨y, hy⟩ := hgs
            obtain ⟨n1, n2, n3⟩ := HNEW.out g rfl
            have HIN := hid (hI.kept (P := One g) ((Fr.refl _ _).one j (.int .i64 (-1))) (fun k hk e => n1 (by rw [show g = k from e.symm]; exact hk)) (fun k hk e => n2 (by rw [show g = k from e.symm]; exact hk)) (fun k hk => by rw [show k = g from hk]; exact n3))
            have HON := hid (own_set hown j (.int .i64 (-1)) (by omega))
            clear hI hown hg hcur hsz n1 n2 n3
            go_wp2_with fail
            go_roundw
            case rel => exact ⟨j + 1, _, by omega, by go_num, HIN.out, HON.out⟩
            case measure => simp [intOf]; omega
          · have HIN := hid hI
            clear hI hown
            go_wp2_with fail
            go_roundw
            case rel => exact ⟨k + 1, T4, L4, Q4, _, by omega, by omega, by go_num, by omega, HIN.out⟩
            case measure => simp [intOf]; omega
      · have HI := hid hI
        clear hI
        go_wp2_with fail
        go_ret
        exact ⟨rfl, HI.out.below⟩
    · have HI := hid hI
      clear hI
      go_wp2_with fail
      go_ret
      exact ⟨rfl, HI.out.below⟩
end Go.Proofs.Ytbkjlohlfkokpaa
