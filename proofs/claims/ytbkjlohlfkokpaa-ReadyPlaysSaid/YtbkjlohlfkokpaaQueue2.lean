/- Package ready: the queue: Add, Raise, Fall (contracts). -/
import Derived.Test.YtbkjlohlfkokpaaQueue
set_option linter.unusedVariables false
set_option linter.unusedSimpArgs false
namespace Go.Proofs.Ytbkjlohlfkokpaa
open Go.RowKit Go.Maps

/-- Between the heap's change and the map's. -/
structure QMid (w wx : World) (base q h bm n : Nat) (policy : Int) (Qh Qh' : Nat → Prop) (T : Nat) (f : Int → Option Rk) (L' : List (Int × Int)) (D : Nat) (o : Obj) : Prop where
  hx : wx.heap[q]? = some (.cells #[.int .i64 policy, .pointer (some ⟨h, 0, none⟩), .map (some bm)] 114 (0, 0))
  heap : IsHeap wx base h Qh' 24 T L'
  map : MapR wx bm n f
  blk : wx.heap[D]? = some o
  fr : Fr (QSet q bm Qh) w wx
  grow : ∀ k, Qh' k → Qh k ∨ w.heap.size ≤ k
section
variable {w wx w' : World} {base q h bm n n' : Nat} {policy : Int} {Qh Qh' Q : Nat → Prop} {T T' : Nat} {f f' f0 : Int → Option Rk} {L L' : List (Int × Int)} {D : Nat} {o : Obj}
theorem QMid.start (H : QAt w base q h bm n policy Qh T f L) (hb : Below w.heap.size w wx) (hD : wx.heap[D]? = some o) : QMid w wx base q h bm n policy Qh Qh T f L D o :=
  ⟨(H.later hb).hx, H.heap.later hb, (H.later hb).map, hD, Fr.of_below hb, fun _ h => .inl h⟩
theorem QMid.later (H : QMid w wx base q h bm n policy Qh Qh' T f L' D o) (hb : Below wx.heap.size wx w') : QMid w w' base q h bm n policy Qh Qh' T f L' D o :=
  ⟨(fr0 hb).blk H.hx (fun h => h), H.heap.later hb, H.map.kept (fr0 hb) (fun h => h), (fr0 hb).blk H.blk (fun h => h), H.fr.andBelow hb, H.grow⟩
theorem QMid.step {T0 n0 : Nat} {L0 : List (Int × Int)} (A : QAt w base q h bm n0 policy Qh T0 f0 L0) (hD : w.heap.size ≤ D) (H : QMid w wx base q h bm n policy Qh Qh T f L D o) (hB : HBehind wx base h Qh 24 T' L' w') : ∃ Qh', QMid w w' base q h bm n policy Qh Qh' T' f L' D o := by
  obtain ⟨Qh', h1, h2, h3⟩ := hB
  refine ⟨Qh', h2.blk H.hx A.nq, h1, H.map.kept h2 A.nbm, h2.blk H.blk (fun e => ?_), H.fr.trans h2 (fun _ h => .inl (.inr (.inr h))), fun k hk => (h3 k hk).imp id (fun h => Nat.le_trans H.fr.size h)⟩
  have := (A.heap.lt D e).2
  omega
theorem QMid.new {T0 n0 : Nat} {L0 : List (Int × Int)} (A : QAt w base q h bm n0 policy Qh T0 f0 L0) (H : QMid w wx base q h bm n policy Qh Qh' T f L D o) : ∀ k, k < w.heap.size → ¬ Qh k → ¬ Qh' k := fun k hk hn e => (H.grow k e).elim hn (fun h => by omega)
theorem QMid.done {T0 n0 : Nat} {L0 : List (Int × Int)} (A : QAt w base q h bm n0 policy Qh T0 f0 L0) (H : QMid w wx base q h bm n policy Qh Qh' T' f L' D o) (hT : n ≤ T') (hv : RqInv f L') : QBehind w base q (QSet q bm Qh) policy T' f L' wx := by
  refine ⟨QSet q bm Qh', ⟨h, bm, n, Qh', ⟨H.hx, H.heap, H.map, hT, A.bq, A.bbm, H.new A q (blk_lt A.hx) A.nq, H.new A bm A.map.lt A.nbm, A.ne, hv⟩, rfl⟩, H.fr, ?_⟩
  rintro k (hk | hk | hk)
  · exact .inl (.inl hk)
  · exact .inl (.inr (.inl hk))
  · exact (H.grow k hk).imp (fun h => .inr (.inr h)) id
theorem QMid.mput {T0 n0 : Nat} {L0 : List (Int × Int)} (A : QAt w base q h bm n0 policy Qh T0 f0 L0) (hD : w.heap.size ≤ D) (H : QMid w wx base q h bm n policy Qh Qh' T f L' D o) (hM : MapR w' bm n' f') (hF : Fr (One bm) wx w') : QMid w w' base q h bm n' policy Qh Qh' T f' L' D o :=
  ⟨hF.blk H.hx A.ne, H.heap.kept hF (fun j hj e => H.new A bm A.map.lt A.nbm (by rw [show bm = j from e.symm]; exact hj)), hM, hF.blk H.blk (fun e => by have h1 : D = bm := e; have := A.map.lt; omega), H.fr.trans hF (fun k hk => .inl (.inr (.inl hk))), H.grow⟩
theorem QMid.put {T0 n0 : Nat} {L0 : List (Int × Int)} (A : QAt w base q h bm n0 policy Qh T0 f0 L0) (hD : w.heap.size ≤ D) (H : QMid w wx base q h bm n policy Qh Qh' T' f L' D o) (hT : n' ≤ T') (hM : MapR w' bm n' f') (hF : Fr (One bm) wx w') (hv : RqInv f' L') : QBehind w base q (QSet q bm Qh) policy T' f' L' w' :=
  QMid.done A (QMid.mput A hD H hM hF) hT hv
set_option maxRecDepth 100000 in
theorem q_add_arg (H : IsQ w base q Q policy T f L) {t l : Int} (hl : l ≤ 9223372036854775807) (hm : mayB t l = false) : Calls Try.prog 51 #[.pointer (some ⟨q, 0, none⟩), .int .i64 t, .int .i64 l] w fun e w' => e = .returned (.int .i64 1) ∧ w' = w := by
  have HMY := hid (ready_may (w := w) t l hl)
  rw [hm] at HMY
  clear H hm
  go_enter Try.func51, Try.ntmps51
  go_wp2_with fail
  refine HMY.out.mono ?_
  rintro e w1 ⟨rfl, rfl⟩
  go_wp2_with fail
  go_ret
  exact ⟨rfl, rfl⟩
/-- Adding, once it may be: the heap's answer, and, where that is 0, the map's change. -/
theorem add_cases (H : QAt w base q h bm n policy Qh T f L) {t l : Int} (hm : mayB t l = true) (hT : T < 10000) :
    (t ∈ fsts L ∧ ∀ W, IsHeap W base h Qh 24 T L → Calls Try.prog 30 #[.pointer (some ⟨h, 0, none⟩), .int .i64 t, .int .i64 (Rk.key ⟨l, 0, false⟩ t)] W fun e w' => e = .returned (.int .i64 4) ∧ HBehind W base h Qh 24 (T + 1) L w') ∨
    (t ∉ fsts L ∧ RqInv (fun s => if s = t then some ⟨l, 0, false⟩ else f s) (insP (t, Rk.key ⟨l, 0, false⟩ t) L) ∧ ∀ W, IsHeap W base h Qh 24 T L → Calls Try.prog 30 #[.pointer (some ⟨h, 0, none⟩), .int .i64 t, .int .i64 (Rk.key ⟨l, 0, false⟩ t)] W fun e w' => e = .returned (.int .i64 0) ∧ HBehind W base h Qh 24 (T + 1) (insP (t, Rk.key ⟨l, 0, false⟩ t) L) w') := by
  unfold mayB at hm
  have hm2 := of_decide_eq_true hm
  have hok : (Rk.mk l 0 false).Ok := ⟨hm2.2.2.1, hm2.2.2.2, by simp, by simp⟩
  by_cases hin : t ∈ fsts L
  · exact .inl ⟨hin, fun W hI => heap_push hI (by omega) (by omega) (by unfold pushP; rw [if_neg (by omega), if_pos hin])⟩
  · have hroom := H.inv.room ⟨hm2.1, hm2.2.1⟩ H.heap.facts.1 hin
    exact .inr ⟨hin, H.inv.add _ ⟨hm2.1, hm2.2.1⟩ hok hin, fun W hI => heap_push hI (by omega) (by omega) (by unfold pushP; rw [if_neg (by omega), if_neg hin, if_neg (by omega)])⟩
set_option maxRecDepth 1000000 in
set_option maxHeartbeats 3200000 in
theorem q_add (H : IsQ w base q Q policy T f L) {t l : Int} (hl : l ≤ 9223372036854775807) (hm : mayB t l = true) (hT : T < 10000) :
    Calls Try.prog 51 #[.pointer (some ⟨q, 0, none⟩), .int .i64 t, .int .i64 l] w fun e w' =>
      (t ∈ fsts L ∧ e = .returned (.int .i64 4) ∧ QBehind w base q Q policy (T + 1) f L w') ∨
      (t ∉ fsts L ∧ e = .returned (.int .i64 0) ∧ QBehind w base q Q policy (T + 1) (fun s => if s = t then some ⟨l, 0, false⟩ else f s) (insP (t, Rk.key ⟨l, 0, false⟩ t) L) w') := by
  obtain ⟨h, bm, n, Qh, H, rfl⟩ := H
  have hm2 : 0 ≤ t ∧ t < 24 ∧ 0 ≤ l ∧ l < 9007199254740992 := by
    have := hm
    unfold mayB at this
    exact of_decide_eq_true this
  have HCS := add_cases H hm hT
  have HMY := hid (ready_may (w := w) t l hl)
  rw [hm] at HMY
  have HKEY := hid (fun W => (show Calls Try.prog 81 #[.agg #[.int .i64 l, .int .i64 0, .bool false], .int .i64 t] W _ from rank_key (w := W) ⟨l, 0, false⟩ t ⟨hm2.2.2.1, hm2.2.2.2, by simp, by simp⟩ ⟨hm2.1, hm2.2.1⟩))
  have hb1 := (Below.refl w.heap.size w).alloc (Nat.le_refl _) (.cells #[.int .i64 l, .int .i64 0, .bool false] 117)
  have hD := blk_new w (.cells #[.int .i64 l, .int .i64 0, .bool false] 117)
  obtain ⟨w1, hw1⟩ : ∃ w1, w.alloc (.cells #[.int .i64 l, .int .i64 0, .bool false] 117) = w1 := ⟨_, rfl⟩
  rw [hw1] at hb1 hD
  have HW1 := hid hw1
  have HA := hid H
  have HQ1 := hid (QMid.start H hb1 hD)
  have HTW := hid (wfI (show -9223372036854775808 ≤ t by omega) (show t ≤ 9223372036854775807 by omega))
  have HNT := hid (show n < maxLen by have := H.nT; unfold maxLen; omega)
  obtain ⟨D, hDe⟩ : ∃ D, w.heap.size = D := ⟨_, rfl⟩
  rw [hDe] at HQ1
  have HDE := hid hDe
  clear hw1 hDe
  generalize Rk.key ⟨l, 0, false⟩ t = key at *
  have F1 := hid (fun (W : World) (hS : W.heap[q]? = some (.cells #[.int .i64 policy, .pointer (some ⟨h, 0, none⟩), .map (some bm)] 114 (0, 0)) ∧ W.heap[D]? = some (.cells #[.int .i64 l, .int .i64 0, .bool false] 117 (0, 0))) => (blk_cell hS.1 1 : W.cell? ⟨q, 1, none⟩ = some (.pointer (some ⟨h, 0, none⟩))))
  have F2 := hid (fun (W : World) (hS : W.heap[q]? = some (.cells #[.int .i64 policy, .pointer (some ⟨h, 0, none⟩), .map (some bm)] 114 (0, 0)) ∧ W.heap[D]? = some (.cells #[.int .i64 l, .int .i64 0, .bool false] 117 (0, 0))) => (blk_cell hS.2 0 : W.cell? ⟨D, 0, none⟩ = some (.int .i64 l)))
  have F3 := hid (fun (W : World) (hS : W.heap[q]? = some (.cells #[.int .i64 policy, .pointer (some ⟨h, 0, none⟩), .map (some bm)] 114 (0, 0)) ∧ W.heap[D]? = some (.cells #[.int .i64 l, .int .i64 0, .bool false] 117 (0, 0))) => (blk_cell hS.2 1 : W.cell? ⟨D, 1, none⟩ = some (.int .i64 0)))
  have F4 := hid (fun (W : World) (hS : W.heap[q]? = some (.cells #[.int .i64 policy, .pointer (some ⟨h, 0, none⟩), .map (some bm)] 114 (0, 0)) ∧ W.heap[D]? = some (.cells #[.int .i64 l, .int .i64 0, .bool false] 117 (0, 0))) => (blk_cell hS.2 2 : W.cell? ⟨D, 2, none⟩ = some (.bool false)))
  obtain ⟨r, L', hp, hc⟩ : ∃ r L', (∀ W, IsHeap W base h Qh 24 T L → Calls Try.prog 30 #[.pointer (some ⟨h, 0, none⟩), .int .i64 t, .int .i64 key] W fun e w' => e = .returned (.int .i64 r) ∧ HBehind W base h Qh 24 (T + 1) L' w') ∧
      ((t ∈ fsts L ∧ r = 4 ∧ L' = L) ∨ (t ∉ fsts L ∧ r = 0 ∧ L' = insP (t, key) L ∧ RqInv (fun s => if s = t then some ⟨l, 0, false⟩ else f s) (insP (t, key) L))) := by
    rcases HCS with ⟨h1, h2⟩ | ⟨h1, h2, h3⟩
    · exact ⟨4, L, h2, .inl ⟨h1, rfl, rfl⟩⟩
    · exact ⟨0, _, h3, .inr ⟨h1, rfl, rfl, h2⟩⟩
  have HP := hid hp
  have HC := hid hc
  clear H hb1 hD hm hm2 HCS hp hc
  go_enter Try.func51, Try.ntmps51
  go_upto_region 4 with (go_at_call 80; refine HMY.out.mono ?_; rintro e w0 ⟨rfl, hw0⟩; obtain rfl := hw0.symm)
  rw [HW1.out, HDE.out]
  go_cut [8] (fun v wx => v = .int .i64 r ∧ ∃ Qh', QMid w wx base q h bm n policy Qh Qh' (T + 1) f L' D (.cells #[.int .i64 l, .int .i64 0, .bool false] 117 (0, 0)))
  case first =>
    as_aux_lemma =>
      have HQ1 := hid (HQ1.out.later (w' := w1.drew) (below_drewN' (Below.refl _ w1) 1))
      refine wp_region_held_drew (S := fun W => W.heap[q]? = some (.cells #[.int .i64 policy, .pointer (some ⟨h, 0, none⟩), .map (some bm)] 114 (0, 0)) ∧ W.heap[D]? = some (.cells #[.int .i64 l, .int .i64 0, .bool false] 117 (0, 0))) (by kernel_rfl) ⟨HQ1.out.hx, HQ1.out.blk⟩ (fun hHeld => ?_)
      refine wpAnyH_take (i := 0) (oi := ?oia0) (v := ?va0) ?hia0 (by kernel_rfl) (by kernel_rfl) (by kernel_rfl) ?hqa0 (Or.inl ⟨?waa0, ?hya0⟩) (by assumption) ?hra0
      case hia0 => (simp only [List.getElem?_toArray, List.getElem?_cons_succ, List.getElem?_cons_zero]; rfl)
      case waa0 => rfl
      case hya0 => ((intro w hSw; (try dsimp only at hSw); go_simp); all_goals (with_reducible rfl))
      case hqa0 => exact fun _ _ _ h => h
      try simp only [Act.put, List.setIfInBounds_toArray, List.set_cons_zero, List.set_cons_succ]
      refine wpAnyH_take (i := 1) (oi := ?oia1) (v := ?va1) ?hia1 (by kernel_rfl) (by kernel_rfl) (by kernel_rfl) ?hqa1 (Or.inl ⟨?waa1, ?hya1⟩) (by assumption) ?hra1
      case hia1 => (simp only [List.getElem?_toArray, List.getElem?_cons_succ, List.getElem?_cons_zero]; rfl)
      case waa1 => rfl
      case hya1 => ((intro w hSw; (try dsimp only at hSw); go_simp); all_goals (with_reducible rfl))
      case hqa1 => exact fun _ _ _ h => h
      try simp only [Act.put, List.setIfInBounds_toArray, List.set_cons_zero, List.set_cons_succ]
      refine wpAnyH_take (i := 2) (oi := ?oia2) (v := ?va2) ?hia2 (by kernel_rfl) (by kernel_rfl) (by kernel_rfl) ?hqa2 (Or.inl ⟨?waa2, ?hya2⟩) (by assumption) ?hra2
      case hia2 => (simp only [List.getElem?_toArray, List.getElem?_cons_succ, List.getElem?_cons_zero]; rfl)
      case waa2 => rfl
      case hya2 => ((intro w hSw; (try dsimp only at hSw); go_simp); all_goals (with_reducible rfl))
      case hqa2 => exact fun _ _ _ h => h
      try simp only [Act.put, List.setIfInBounds_toArray, List.set_cons_zero, List.set_cons_succ]
      refine wpAnyH_take (i := 3) (oi := ?oia3) (v := ?va3) ?hia3 (by kernel_rfl) (by kernel_rfl) (by kernel_rfl) ?hqa3 (Or.inl ⟨?waa3, ?hya3⟩) (by assumption) ?hra3
      case hia3 => (simp only [List.getElem?_toArray, List.getElem?_cons_succ, List.getElem?_cons_zero]; rfl)
      case waa3 => rfl
      case hya3 => ((intro w hSw; have q0 := F1.out w hSw; (try dsimp only at hSw); go_simp); all_goals (with_reducible rfl))
      case hqa3 => exact fun _ _ _ h => h
      try simp only [Act.put, List.setIfInBounds_toArray, List.set_cons_zero, List.set_cons_succ]
      refine wpAnyH_take (i := 4) (oi := ?oia4) (v := ?va4) ?hia4 (by kernel_rfl) (by kernel_rfl) (by kernel_rfl) ?hqa4 (Or.inl ⟨?waa4, ?hya4⟩) (by assumption) ?hra4
      case hia4 => (simp only [List.getElem?_toArray, List.getElem?_cons_succ, List.getElem?_cons_zero]; rfl)
      case waa4 => rfl
      case hya4 => ((intro w hSw; (try dsimp only at hSw); go_simp); all_goals (with_reducible rfl))
      case hqa4 => exact fun _ _ _ h => h
      try simp only [Act.put, List.setIfInBounds_toArray, List.set_cons_zero, List.set_cons_succ]
      refine wpAnyH_take (i := 5) (oi := ?oia5) (v := ?va5) ?hia5 (by kernel_rfl) (by kernel_rfl) (by kernel_rfl) ?hqa5 (Or.inl ⟨?waa5, ?hya5⟩) (by assumption) ?hra5
      case hia5 => (simp only [List.getElem?_toArray, List.getElem?_cons_succ, List.getElem?_cons_zero]; rfl)
      case waa5 => rfl
      case hya5 => ((intro w hSw; have q0 := F2.out w hSw; have q1 := F3.out w hSw; have q2 := F4.out w hSw; (try dsimp only at hSw); go_simp); all_goals (with_reducible rfl))
      case hqa5 => exact fun _ _ _ h => h
      try simp only [Act.put, List.setIfInBounds_toArray, List.set_cons_zero, List.set_cons_succ]
      refine wpAnyH_take (i := 6) (oi := ?oia6) (v := ?va6) ?hia6 (by kernel_rfl) (by kernel_rfl) (by kernel_rfl) ?hqa6 (Or.inl ⟨?waa6, ?hya6⟩) (by assumption) ?hra6
      case hia6 => (simp only [List.getElem?_toArray, List.getElem?_cons_succ, List.getElem?_cons_zero]; rfl)
      case waa6 => rfl
      case hya6 => ((intro w hSw; (try dsimp only at hSw); go_simp); all_goals (with_reducible rfl))
      case hqa6 => exact fun _ _ _ h => h
      try simp only [Act.put, List.setIfInBounds_toArray, List.set_cons_zero, List.set_cons_succ]
      refine wpAnyH_ready (rs := [7]) (by kernel_rfl) (by simp) ?_
      refine (AllReadyH.cons (i := 7) (o := ?oa7) ?hia7 ?sta7 AllReadyH.nil)
      case hia7 => (simp only [List.getElem?_toArray, List.getElem?_cons_succ, List.getElem?_cons_zero]; rfl)
      case sta7 =>
        intro K hK
        go_simp
        refine (HKEY.out _).mono ?_
        rintro e w6 ⟨rfl, hb6⟩
        have HQA := hid (HQ1.out.later hb6)
        clear hb6
        go_wp2_with fail
        refine hK.out _ _ ?_ (fun hHeld => ?_)
        · exact ⟨HQA.out.hx, HQA.out.blk⟩
        clear hK K
        try simp only [Act.put, List.setIfInBounds_toArray, List.set_cons_zero, List.set_cons_succ]
        refine wpAnyH_ready (rs := [8]) (by kernel_rfl) (by simp) ?_
        refine (AllReadyH.cons (i := 8) (o := ?oa7_8) ?hia7_8 ?sta7_8 AllReadyH.nil)
        case hia7_8 => (simp only [List.getElem?_toArray, List.getElem?_cons_succ, List.getElem?_cons_zero]; rfl)
        case sta7_8 =>
          intro K hK
          go_simp
          refine (HP.out _ HQA.out.heap).mono ?_
          rintro e w7 ⟨rfl, hB7⟩
          obtain ⟨Qh7, hQ7⟩ := QMid.step HA.out (Nat.le_of_eq HDE.out) HQA.out hB7
          have HQZ := hid hQ7
          clear hB7 hQ7
          go_wp2_with fail
          refine hK.out _ _ ?_ (fun hHeld => ?_)
          · exact ⟨HQZ.out.hx, HQZ.out.blk⟩
          clear hK K
          try simp only [Act.put, List.setIfInBounds_toArray, List.set_cons_zero, List.set_cons_succ]
          refine wpAnyH_ready (rs := [9]) (by kernel_rfl) (by simp) ?_
          refine (AllReadyH.cons (i := 9) (o := ?oa7_8_9) ?hia7_8_9 ?sta7_8_9 AllReadyH.nil)
          case hia7_8_9 => (simp only [List.getElem?_toArray, List.getElem?_cons_succ, List.getElem?_cons_zero]; rfl)
          case sta7_8_9 =>
            intro K hK
            go_simp
            go_wp2_with fail
            refine hK.out _ _ ?_ (fun hHeld => ?_)
            · assumption
            clear hK K
            try simp only [Act.put, List.setIfInBounds_toArray, List.set_cons_zero, List.set_cons_succ]
            refine wpAnyH_done (by kernel_rfl) ?_ _
            go_wp2_with fail
            go_meet
            exact ⟨rfl, _, HQZ.out⟩
  obtain ⟨rfl, Qh', hQ⟩ := hcut
  have HQ := hid hQ
  clear hQ HQ1 HP HKEY F1 F2 F3 F4
  rcases HC.out with ⟨hin, rfl, rfl⟩ | ⟨hin, rfl, rfl, hv⟩
  · have hin2 := hid hin
    clear hin
    go_wp2_with fail
    go_ret
    exact .inl ⟨hin2.out, rfl, QMid.done HA.out HQ.out (by have := HA.out.nT; omega) HA.out.inv⟩
  · have hM := HQ.out.map.kept (Fr.refl NoB wc).drew (fun h => h)
    obtain ⟨w5, hrun, hM5, hF5⟩ := hM.update_eq Try.underlying112 ⟨l, 0, false⟩ HTW.out HNT.out
    unfold rkV at hrun
    have m2 : wc.cell? ⟨q, 2, none⟩ = some (.map (some bm)) := blk_cell HQ.out.hx 2
    have k0 : wc.cell? ⟨D, 0, none⟩ = some (.int .i64 l) := blk_cell HQ.out.blk 0
    have k1 : wc.cell? ⟨D, 1, none⟩ = some (.int .i64 0) := blk_cell HQ.out.blk 1
    have k2 : wc.cell? ⟨D, 2, none⟩ = some (.bool false) := blk_cell HQ.out.blk 2
    have HM5 := hid hM5
    have HF5 := hid hF5
    have HV := hid hv
    have hin2 := hid hin
    clear hM hM5 hF5 hv hin HC
    go_upto_region 7 with fail
    go_region
    all_goals
      go_wp2_with fail
      go_ret
      exact .inr ⟨hin2.out, rfl, QMid.put HA.out (Nat.le_of_eq HDE.out) HQ.out (by have := HA.out.nT; omega) HM5.out ((Fr.refl (One bm) wc).drew.trans HF5.out (fun _ h => .inl h)) HV.out⟩
/-! The closures -/
theorem fall_fn {W : World} {D : Nat} {o u : Int} {ra : Bool} (hD : W.heap[D]? = some (.cells #[.int .i64 o, .int .i64 u, .bool ra] 117 (0, 0))) :
    Calls Try.prog 85 #[.pointer (some ⟨D, 0, none⟩)] W fun e w' => e = .returned (.tuple #[]) ∧ w'.heap[D]? = some (.cells #[.int .i64 o, .int .i64 u, .bool false] 117 (0, 0)) ∧ Fr (One D) W w' := by
  have k2 : W.cell? ⟨D, 2, none⟩ = some (.bool ra) := blk_cell hD 2
  have f2 : W.frozen? ⟨D, 2, none⟩ = false := blk_free hD 2
  have HD := hid hD
  clear hD
  go_enter Try.func85, Try.ntmps85
  go_wp2_with fail
  go_end0
  exact ⟨rfl, by simpa using blk_set HD.out 2 (.bool false), (Fr.refl _ _).one 2 _⟩
theorem raise_fn {W : World} {D c : Nat} {o u l : Int} {ra : Bool} (hD : W.heap[D]? = some (.cells #[.int .i64 o, .int .i64 u, .bool ra] 117 (0, 0))) (hc : W.cell? ⟨c, 0, none⟩ = some (.int .i64 l)) :
    Calls Try.prog 83 #[.pointer (some ⟨D, 0, none⟩), .pointer (some ⟨c, 0, none⟩)] W fun e w' => e = .returned (.tuple #[]) ∧ w'.heap[D]? = some (.cells #[.int .i64 o, .int .i64 l, .bool true] 117 (0, 0)) ∧ Fr (One D) W w' := by
  have k1 : W.cell? ⟨D, 1, none⟩ = some (.int .i64 u) := blk_cell hD 1
  have f1 : W.frozen? ⟨D, 1, none⟩ = false := blk_free hD 1
  have k2 : W.cell? ⟨D, 2, none⟩ = some (.bool ra) := blk_cell hD 2
  have f2 : W.frozen? ⟨D, 2, none⟩ = false := blk_free hD 2
  have HD := hid hD
  clear hD
  go_enter Try.func83, Try.ntmps83
  go_wp2_with fail
  go_end0
  have h1 := blk_set HD.out 1 (.int .i64 l)
  have h2 := blk_set h1 2 (.bool true)
  exact ⟨rfl, by simpa using h2, ((Fr.refl (One D) W).one 1 _).one 2 _⟩
set_option maxRecDepth 1000000 in
set_option maxHeartbeats 3200000 in
theorem move_fall (H : QAt w base q h bm n policy Qh T f L) {t o0 u0 : Int} {ra0 : Bool} (hf : f t = some ⟨o0, u0, ra0⟩) (hT : T < 10000) :
    Calls Try.prog 82 #[.pointer (some ⟨q, 0, none⟩), .int .i64 t, .func (.func 85) #[] #[]] w fun e w' => e = .returned (.int .i64 0) ∧ QBehind w base q (QSet q bm Qh) policy (T + 1) (fun s => if s = t then some ⟨o0, u0, false⟩ else f s) (insP (t, Rk.key ⟨o0, u0, false⟩ t) (offP t L)) w' := by
  obtain ⟨hin, ht0, ht1, hr0⟩ := H.inv.bwd t _ hf
  have hv := H.inv.change ⟨o0, u0, false⟩ ⟨ht0, ht1⟩ ⟨hr0.o0, hr0.o1, hr0.u0, hr0.u1⟩
  have hb0 := (Below.refl w.heap.size w).alloc (Nat.le_refl _) (.cells #[.int .i64 o0, .int .i64 u0, .bool ra0] 117)
  have hD0 := blk_new w (.cells #[.int .i64 o0, .int .i64 u0, .bool ra0] 117)
  have HFN := hid (fall_fn hD0)
  have HKEY := hid (fun W => (show Calls Try.prog 81 #[.agg #[.int .i64 o0, .int .i64 u0, .bool false], .int .i64 t] W _ from rank_key (w := W) ⟨o0, u0, false⟩ t ⟨hr0.o0, hr0.o1, hr0.u0, hr0.u1⟩ ⟨ht0, ht1⟩))
  have HP := hid (fun W (hI : IsHeap W base h Qh 24 T L) => heap_change_yes hI (k := Rk.key ⟨o0, u0, false⟩ t) hin (by omega))
  have c2 : w.cell? ⟨q, 2, none⟩ = some (.map (some bm)) := blk_cell H.hx 2
  have HM := hid H.map
  have HW := hid (wfI (show -9223372036854775808 ≤ t by omega) (show t ≤ 9223372036854775807 by omega))
  have HNT := hid (show n < maxLen by have := H.nT; unfold maxLen; omega)
  have HF := hid hf
  have HA := hid H
  have HB0 := hid hb0
  have HV := hid hv
  generalize Rk.key ⟨o0, u0, false⟩ t = key at *
  clear H hf hb0 hD0 hv hin hr0
  go_enter Try.func82, Try.ntmps82
  go_upto_region 5 with (first | (at_lookup; refine wp_rlook_ok rfl _ _ _ rfl Try.underlying112 HM.out rfl t rfl HW.out ?_; rw [HF.out]; simp only [Option.getD_some, Option.isSome_some]; unfold rkV) | (go_at_call 85; refine HFN.out.mono ?_; rintro e w2 ⟨rfl, hD2, hF2⟩; have hD2 := hid hD2; have hF2 := hid hF2))
  have hb2 : Below w.heap.size w w2 := ((Fr.of_below (S := NoB) HB0.out).trans hF2.out (fun k hk => .inr (by rw [show k = w.heap.size from hk]; exact Nat.le_refl _))).no
  have hq1 := QMid.start HA.out hb2 hD2.out
  obtain ⟨D, hDe⟩ : ∃ D, w.heap.size = D := ⟨_, rfl⟩
  rw [hDe] at hq1 ⊢
  have HDE := hid hDe
  have HQ2 := hid hq1
  clear hb2 hq1 hDe HB0 HFN HM hD2 hF2 c2
  have hM := HQ2.out.map.kept (Fr.refl NoB w2).drew (fun h => h)
  obtain ⟨w5, hrun, hM5, hF5⟩ := hM.update_eq Try.underlying112 ⟨o0, u0, false⟩ HW.out HNT.out
  unfold rkV at hrun
  have m2 : w2.cell? ⟨q, 2, none⟩ = some (.map (some bm)) := blk_cell HQ2.out.hx 2
  have k0 : w2.cell? ⟨D, 0, none⟩ = some (.int .i64 o0) := blk_cell HQ2.out.blk 0
  have k1 : w2.cell? ⟨D, 1, none⟩ = some (.int .i64 u0) := blk_cell HQ2.out.blk 1
  have k2 : w2.cell? ⟨D, 2, none⟩ = some (.bool false) := blk_cell HQ2.out.blk 2
  have HQ3 := hid (QMid.mput HA.out (Nat.le_of_eq HDE.out) (HQ2.out.later (w' := w2.drew) (below_drewN' (Below.refl _ w2) 1)) hM5 hF5)
  clear hM hM5 hF5 HQ2
  have F1 := hid (fun (W : World) (hS : W.heap[q]? = some (.cells #[.int .i64 policy, .pointer (some ⟨h, 0, none⟩), .map (some bm)] 114 (0, 0)) ∧ W.heap[D]? = some (.cells #[.int .i64 o0, .int .i64 u0, .bool false] 117 (0, 0))) => (blk_cell hS.1 1 : W.cell? ⟨q, 1, none⟩ = some (.pointer (some ⟨h, 0, none⟩))))
  have F2 := hid (fun (W : World) (hS : W.heap[q]? = some (.cells #[.int .i64 policy, .pointer (some ⟨h, 0, none⟩), .map (some bm)] 114 (0, 0)) ∧ W.heap[D]? = some (.cells #[.int .i64 o0, .int .i64 u0, .bool false] 117 (0, 0))) => (blk_cell hS.2 0 : W.cell? ⟨D, 0, none⟩ = some (.int .i64 o0)))
  have F3 := hid (fun (W : World) (hS : W.heap[q]? = some (.cells #[.int .i64 policy, .pointer (some ⟨h, 0, none⟩), .map (some bm)] 114 (0, 0)) ∧ W.heap[D]? = some (.cells #[.int .i64 o0, .int .i64 u0, .bool false] 117 (0, 0))) => (blk_cell hS.2 1 : W.cell? ⟨D, 1, none⟩ = some (.int .i64 u0)))
  have F4 := hid (fun (W : World) (hS : W.heap[q]? = some (.cells #[.int .i64 policy, .pointer (some ⟨h, 0, none⟩), .map (some bm)] 114 (0, 0)) ∧ W.heap[D]? = some (.cells #[.int .i64 o0, .int .i64 u0, .bool false] 117 (0, 0))) => (blk_cell hS.2 2 : W.cell? ⟨D, 2, none⟩ = some (.bool false)))
  go_region
  all_goals
    clear m2 k0 k1 k2 hrun
    go_upto_region 6 with fail
    have HQ1 := hid (HQ3.out.later (w' := w5.drew) (below_drewN' (Below.refl _ w5) 1))
    refine wp_region_held_drew (S := fun W => W.heap[q]? = some (.cells #[.int .i64 policy, .pointer (some ⟨h, 0, none⟩), .map (some bm)] 114 (0, 0)) ∧ W.heap[D]? = some (.cells #[.int .i64 o0, .int .i64 u0, .bool false] 117 (0, 0))) (by kernel_rfl) ⟨HQ1.out.hx, HQ1.out.blk⟩ (fun hHeld => ?_)
    refine wpAnyH_take (i := 0) (oi := ?oim0) (v := ?vm0) ?him0 (by kernel_rfl) (by kernel_rfl) (by kernel_rfl) ?hqm0 (Or.inl ⟨?wam0, ?hym0⟩) (by assumption) ?hrm0
    case him0 => (simp only [List.getElem?_toArray, List.getElem?_cons_succ, List.getElem?_cons_zero]; rfl)
    case wam0 => rfl
    case hym0 => ((intro w hSw; (try dsimp only at hSw); go_simp); all_goals (with_reducible rfl))
    case hqm0 => exact fun _ _ _ h => h
    try simp only [Act.put, List.setIfInBounds_toArray, List.set_cons_zero, List.set_cons_succ]
    refine wpAnyH_take (i := 1) (oi := ?oim1) (v := ?vm1) ?him1 (by kernel_rfl) (by kernel_rfl) (by kernel_rfl) ?hqm1 (Or.inl ⟨?wam1, ?hym1⟩) (by assumption) ?hrm1
    case him1 => (simp only [List.getElem?_toArray, List.getElem?_cons_succ, List.getElem?_cons_zero]; rfl)
    case wam1 => rfl
    case hym1 => ((intro w hSw; (try dsimp only at hSw); go_simp); all_goals (with_reducible rfl))
    case hqm1 => exact fun _ _ _ h => h
    try simp only [Act.put, List.setIfInBounds_toArray, List.set_cons_zero, List.set_cons_succ]
    refine wpAnyH_take (i := 2) (oi := ?oim2) (v := ?vm2) ?him2 (by kernel_rfl) (by kernel_rfl) (by kernel_rfl) ?hqm2 (Or.inl ⟨?wam2, ?hym2⟩) (by assumption) ?hrm2
    case him2 => (simp only [List.getElem?_toArray, List.getElem?_cons_succ, List.getElem?_cons_zero]; rfl)
    case wam2 => rfl
    case hym2 => ((intro w hSw; (try dsimp only at hSw); go_simp); all_goals (with_reducible rfl))
    case hqm2 => exact fun _ _ _ h => h
    try simp only [Act.put, List.setIfInBounds_toArray, List.set_cons_zero, List.set_cons_succ]
    refine wpAnyH_take (i := 3) (oi := ?oim3) (v := ?vm3) ?him3 (by kernel_rfl) (by kernel_rfl) (by kernel_rfl) ?hqm3 (Or.inl ⟨?wam3, ?hym3⟩) (by assumption) ?hrm3
    case him3 => (simp only [List.getElem?_toArray, List.getElem?_cons_succ, List.getElem?_cons_zero]; rfl)
    case wam3 => rfl
    case hym3 => ((intro w hSw; have q0 := F1.out w hSw; (try dsimp only at hSw); go_simp); all_goals (with_reducible rfl))
    case hqm3 => exact fun _ _ _ h => h
    try simp only [Act.put, List.setIfInBounds_toArray, List.set_cons_zero, List.set_cons_succ]
    refine wpAnyH_take (i := 4) (oi := ?oim4) (v := ?vm4) ?him4 (by kernel_rfl) (by kernel_rfl) (by kernel_rfl) ?hqm4 (Or.inl ⟨?wam4, ?hym4⟩) (by assumption) ?hrm4
    case him4 => (simp only [List.getElem?_toArray, List.getElem?_cons_succ, List.getElem?_cons_zero]; rfl)
    case wam4 => rfl
    case hym4 => ((intro w hSw; (try dsimp only at hSw); go_simp); all_goals (with_reducible rfl))
    case hqm4 => exact fun _ _ _ h => h
    try simp only [Act.put, List.setIfInBounds_toArray, List.set_cons_zero, List.set_cons_succ]
    refine wpAnyH_take (i := 5) (oi := ?oim5) (v := ?vm5) ?him5 (by kernel_rfl) (by kernel_rfl) (by kernel_rfl) ?hqm5 (Or.inl ⟨?wam5, ?hym5⟩) (by assumption) ?hrm5
    case him5 => (simp only [List.getElem?_toArray, List.getElem?_cons_succ, List.getElem?_cons_zero]; rfl)
    case wam5 => rfl
    case hym5 => ((intro w hSw; have q0 := F2.out w hSw; have q1 := F3.out w hSw; have q2 := F4.out w hSw; (try dsimp only at hSw); go_simp); all_goals (with_reducible rfl))
    case hqm5 => exact fun _ _ _ h => h
    try simp only [Act.put, List.setIfInBounds_toArray, List.set_cons_zero, List.set_cons_succ]
    refine wpAnyH_take (i := 6) (oi := ?oim6) (v := ?vm6) ?him6 (by kernel_rfl) (by kernel_rfl) (by kernel_rfl) ?hqm6 (Or.inl ⟨?wam6, ?hym6⟩) (by assumption) ?hrm6
    case him6 => (simp only [List.getElem?_toArray, List.getElem?_cons_succ, List.getElem?_cons_zero]; rfl)
    case wam6 => rfl
    case hym6 => ((intro w hSw; (try dsimp only at hSw); go_simp); all_goals (with_reducible rfl))
    case hqm6 => exact fun _ _ _ h => h
    try simp only [Act.put, List.setIfInBounds_toArray, List.set_cons_zero, List.set_cons_succ]
    refine wpAnyH_ready (rs := [7]) (by kernel_rfl) (by simp) ?_
    refine (AllReadyH.cons (i := 7) (o := ?om7) ?him7 ?stm7 AllReadyH.nil)
    case him7 => (simp only [List.getElem?_toArray, List.getElem?_cons_succ, List.getElem?_cons_zero]; rfl)
    case stm7 =>
      intro K hK
      go_simp
      refine (HKEY.out _).mono ?_
      rintro e w6 ⟨rfl, hb6⟩
      have HQA := hid (HQ1.out.later hb6)
      clear hb6
      go_wp2_with fail
      refine hK.out _ _ ?_ (fun hHeld => ?_)
      · exact ⟨HQA.out.hx, HQA.out.blk⟩
      clear hK K
      try simp only [Act.put, List.setIfInBounds_toArray, List.set_cons_zero, List.set_cons_succ]
      refine wpAnyH_ready (rs := [8]) (by kernel_rfl) (by simp) ?_
      refine (AllReadyH.cons (i := 8) (o := ?om7_8) ?him7_8 ?stm7_8 AllReadyH.nil)
      case him7_8 => (simp only [List.getElem?_toArray, List.getElem?_cons_succ, List.getElem?_cons_zero]; rfl)
      case stm7_8 =>
        intro K hK
        go_simp
        refine (HP.out _ HQA.out.heap).mono ?_
        rintro e w7 ⟨rfl, hB7⟩
        obtain ⟨Qh7, hQ7⟩ := QMid.step HA.out (Nat.le_of_eq HDE.out) HQA.out hB7
        have HQZ := hid hQ7
        clear hB7 hQ7
        go_wp2_with fail
        refine hK.out _ _ ?_ (fun hHeld => ?_)
        · exact ⟨HQZ.out.hx, HQZ.out.blk⟩
        clear hK K
        try simp only [Act.put, List.setIfInBounds_toArray, List.set_cons_zero, List.set_cons_succ]
        refine wpAnyH_ready (rs := [9]) (by kernel_rfl) (by simp) ?_
        refine (AllReadyH.cons (i := 9) (o := ?om7_8_9) ?him7_8_9 ?stm7_8_9 AllReadyH.nil)
        case him7_8_9 => (simp only [List.getElem?_toArray, List.getElem?_cons_succ, List.getElem?_cons_zero]; rfl)
        case stm7_8_9 =>
          intro K hK
          go_simp
          go_wp2_with fail
          refine hK.out _ _ ?_ (fun hHeld => ?_)
          · assumption
          clear hK K
          try simp only [Act.put, List.setIfInBounds_toArray, List.set_cons_zero, List.set_cons_succ]
          refine wpAnyH_done (by kernel_rfl) ?_ _
          go_wp2_with fail
          go_ret
          exact ⟨rfl, QMid.done HA.out HQZ.out (by have := HA.out.nT; omega) HV.out⟩

set_option maxRecDepth 1000000 in
set_option maxHeartbeats 3200000 in
theorem move_raise {c : Nat} {l : Int} (H : QAt w base q h bm n policy Qh T f L) {t o0 u0 : Int} {ra0 : Bool} (hf : f t = some ⟨o0, u0, ra0⟩) (hT : T < 10000) (hc : w.cell? ⟨c, 0, none⟩ = some (.int .i64 l)) (hl : 0 ≤ l ∧ l < 9007199254740992) :
    Calls Try.prog 82 #[.pointer (some ⟨q, 0, none⟩), .int .i64 t, .func (.func 83) #[] #[.pointer (some ⟨c, 0, none⟩)]] w fun e w' => e = .returned (.int .i64 0) ∧ QBehind w base q (QSet q bm Qh) policy (T + 1) (fun s => if s = t then some ⟨o0, l, true⟩ else f s) (insP (t, Rk.key ⟨o0, l, true⟩ t) (offP t L)) w' := by
  obtain ⟨hin, ht0, ht1, hr0⟩ := H.inv.bwd t _ hf
  have hv := H.inv.change ⟨o0, l, true⟩ ⟨ht0, ht1⟩ ⟨hr0.o0, hr0.o1, hl.1, hl.2⟩
  have hb0 := (Below.refl w.heap.size w).alloc (Nat.le_refl _) (.cells #[.int .i64 o0, .int .i64 u0, .bool ra0] 117)
  have hD0 := blk_new w (.cells #[.int .i64 o0, .int .i64 u0, .bool ra0] 117)
  have HFN := hid (raise_fn hD0 ((hb0.cell (World.block_lt_of_cell? _ _ hc)).trans hc))
  have HKEY := hid (fun W => (show Calls Try.prog 81 #[.agg #[.int .i64 o0, .int .i64 l, .bool true], .int .i64 t] W _ from rank_key (w := W) ⟨o0, l, true⟩ t ⟨hr0.o0, hr0.o1, hl.1, hl.2⟩ ⟨ht0, ht1⟩))
  have HP := hid (fun W (hI : IsHeap W base h Qh 24 T L) => heap_change_yes hI (k := Rk.key ⟨o0, l, true⟩ t) hin (by omega))
  have c2 : w.cell? ⟨q, 2, none⟩ = some (.map (some bm)) := blk_cell H.hx 2
  have HM := hid H.map
  have HW := hid (wfI (show -9223372036854775808 ≤ t by omega) (show t ≤ 9223372036854775807 by omega))
  have HNT := hid (show n < maxLen by have := H.nT; unfold maxLen; omega)
  have HF := hid hf
  have HA := hid H
  have HB0 := hid hb0
  have HV := hid hv
  generalize Rk.key ⟨o0, l, true⟩ t = key at *
  clear H hf hb0 hD0 hv hin hr0
  go_enter Try.func82, Try.ntmps82
  go_upto_region 5 with (first | (at_lookup; refine wp_rlook_ok rfl _ _ _ rfl Try.underlying112 HM.out rfl t rfl HW.out ?_; rw [HF.out]; simp only [Option.getD_some, Option.isSome_some]; unfold rkV) | (go_at_call 83; refine HFN.out.mono ?_; rintro e w2 ⟨rfl, hD2, hF2⟩; have hD2 := hid hD2; have hF2 := hid hF2))
  have hb2 : Below w.heap.size w w2 := ((Fr.of_below (S := NoB) HB0.out).trans hF2.out (fun k hk => .inr (by rw [show k = w.heap.size from hk]; exact Nat.le_refl _))).no
  have hq1 := QMid.start HA.out hb2 hD2.out
  obtain ⟨D, hDe⟩ : ∃ D, w.heap.size = D := ⟨_, rfl⟩
  rw [hDe] at hq1 ⊢
  have HDE := hid hDe
  have HQ2 := hid hq1
  clear hb2 hq1 hDe HB0 HFN HM hD2 hF2 c2
  have hM := HQ2.out.map.kept (Fr.refl NoB w2).drew (fun h => h)
  obtain ⟨w5, hrun, hM5, hF5⟩ := hM.update_eq Try.underlying112 ⟨o0, l, true⟩ HW.out HNT.out
  unfold rkV at hrun
  have m2 : w2.cell? ⟨q, 2, none⟩ = some (.map (some bm)) := blk_cell HQ2.out.hx 2
  have k0 : w2.cell? ⟨D, 0, none⟩ = some (.int .i64 o0) := blk_cell HQ2.out.blk 0
  have k1 : w2.cell? ⟨D, 1, none⟩ = some (.int .i64 l) := blk_cell HQ2.out.blk 1
  have k2 : w2.cell? ⟨D, 2, none⟩ = some (.bool true) := blk_cell HQ2.out.blk 2
  have HQ3 := hid (QMid.mput HA.out (Nat.le_of_eq HDE.out) (HQ2.out.later (w' := w2.drew) (below_drewN' (Below.refl _ w2) 1)) hM5 hF5)
  clear hM hM5 hF5 HQ2
  have F1 := hid (fun (W : World) (hS : W.heap[q]? = some (.cells #[.int .i64 policy, .pointer (some ⟨h, 0, none⟩), .map (some bm)] 114 (0, 0)) ∧ W.heap[D]? = some (.cells #[.int .i64 o0, .int .i64 l, .bool true] 117 (0, 0))) => (blk_cell hS.1 1 : W.cell? ⟨q, 1, none⟩ = some (.pointer (some ⟨h, 0, none⟩))))
  have F2 := hid (fun (W : World) (hS : W.heap[q]? = some (.cells #[.int .i64 policy, .pointer (some ⟨h, 0, none⟩), .map (some bm)] 114 (0, 0)) ∧ W.heap[D]? = some (.cells #[.int .i64 o0, .int .i64 l, .bool true] 117 (0, 0))) => (blk_cell hS.2 0 : W.cell? ⟨D, 0, none⟩ = some (.int .i64 o0)))
  have F3 := hid (fun (W : World) (hS : W.heap[q]? = some (.cells #[.int .i64 policy, .pointer (some ⟨h, 0, none⟩), .map (some bm)] 114 (0, 0)) ∧ W.heap[D]? = some (.cells #[.int .i64 o0, .int .i64 l, .bool true] 117 (0, 0))) => (blk_cell hS.2 1 : W.cell? ⟨D, 1, none⟩ = some (.int .i64 l)))
  have F4 := hid (fun (W : World) (hS : W.heap[q]? = some (.cells #[.int .i64 policy, .pointer (some ⟨h, 0, none⟩), .map (some bm)] 114 (0, 0)) ∧ W.heap[D]? = some (.cells #[.int .i64 o0, .int .i64 l, .bool true] 117 (0, 0))) => (blk_cell hS.2 2 : W.cell? ⟨D, 2, none⟩ = some (.bool true)))
  go_region
  all_goals
    clear m2 k0 k1 k2 hrun
    go_upto_region 6 with fail
    have HQ1 := hid (HQ3.out.later (w' := w5.drew) (below_drewN' (Below.refl _ w5) 1))
    refine wp_region_held_drew (S := fun W => W.heap[q]? = some (.cells #[.int .i64 policy, .pointer (some ⟨h, 0, none⟩), .map (some bm)] 114 (0, 0)) ∧ W.heap[D]? = some (.cells #[.int .i64 o0, .int .i64 l, .bool true] 117 (0, 0))) (by kernel_rfl) ⟨HQ1.out.hx, HQ1.out.blk⟩ (fun hHeld => ?_)
    refine wpAnyH_take (i := 0) (oi := ?oim0) (v := ?vm0) ?him0 (by kernel_rfl) (by kernel_rfl) (by kernel_rfl) ?hqm0 (Or.inl ⟨?wam0, ?hym0⟩) (by assumption) ?hrm0
    case him0 => (simp only [List.getElem?_toArray, List.getElem?_cons_succ, List.getElem?_cons_zero]; rfl)
    case wam0 => rfl
    case hym0 => ((intro w hSw; (try dsimp only at hSw); go_simp); all_goals (with_reducible rfl))
    case hqm0 => exact fun _ _ _ h => h
    try simp only [Act.put, List.setIfInBounds_toArray, List.set_cons_zero, List.set_cons_succ]
    refine wpAnyH_take (i := 1) (oi := ?oim1) (v := ?vm1) ?him1 (by kernel_rfl) (by kernel_rfl) (by kernel_rfl) ?hqm1 (Or.inl ⟨?wam1, ?hym1⟩) (by assumption) ?hrm1
    case him1 => (simp only [List.getElem?_toArray, List.getElem?_cons_succ, List.getElem?_cons_zero]; rfl)
    case wam1 => rfl
    case hym1 => ((intro w hSw; (try dsimp only at hSw); go_simp); all_goals (with_reducible rfl))
    case hqm1 => exact fun _ _ _ h => h
    try simp only [Act.put, List.setIfInBounds_toArray, List.set_cons_zero, List.set_cons_succ]
    refine wpAnyH_take (i := 2) (oi := ?oim2) (v := ?vm2) ?him2 (by kernel_rfl) (by kernel_rfl) (by kernel_rfl) ?hqm2 (Or.inl ⟨?wam2, ?hym2⟩) (by assumption) ?hrm2
    case him2 => (simp only [List.getElem?_toArray, List.getElem?_cons_succ, List.getElem?_cons_zero]; rfl)
    case wam2 => rfl
    case hym2 => ((intro w hSw; (try dsimp only at hSw); go_simp); all_goals (with_reducible rfl))
    case hqm2 => exact fun _ _ _ h => h
    try simp only [Act.put, List.setIfInBounds_toArray, List.set_cons_zero, List.set_cons_succ]
    refine wpAnyH_take (i := 3) (oi := ?oim3) (v := ?vm3) ?him3 (by kernel_rfl) (by kernel_rfl) (by kernel_rfl) ?hqm3 (Or.inl ⟨?wam3, ?hym3⟩) (by assumption) ?hrm3
    case him3 => (simp only [List.getElem?_toArray, List.getElem?_cons_succ, List.getElem?_cons_zero]; rfl)
    case wam3 => rfl
    case hym3 => ((intro w hSw; have q0 := F1.out w hSw; (try dsimp only at hSw); go_simp); all_goals (with_reducible rfl))
    case hqm3 => exact fun _ _ _ h => h
    try simp only [Act.put, List.setIfInBounds_toArray, List.set_cons_zero, List.set_cons_succ]
    refine wpAnyH_take (i := 4) (oi := ?oim4) (v := ?vm4) ?him4 (by kernel_rfl) (by kernel_rfl) (by kernel_rfl) ?hqm4 (Or.inl ⟨?wam4, ?hym4⟩) (by assumption) ?hrm4
    case him4 => (simp only [List.getElem?_toArray, List.getElem?_cons_succ, List.getElem?_cons_zero]; rfl)
    case wam4 => rfl
    case hym4 => ((intro w hSw; (try dsimp only at hSw); go_simp); all_goals (with_reducible rfl))
    case hqm4 => exact fun _ _ _ h => h
    try simp only [Act.put, List.setIfInBounds_toArray, List.set_cons_zero, List.set_cons_succ]
    refine wpAnyH_take (i := 5) (oi := ?oim5) (v := ?vm5) ?him5 (by kernel_rfl) (by kernel_rfl) (by kernel_rfl) ?hqm5 (Or.inl ⟨?wam5, ?hym5⟩) (by assumption) ?hrm5
    case him5 => (simp only [List.getElem?_toArray, List.getElem?_cons_succ, List.getElem?_cons_zero]; rfl)
    case wam5 => rfl
    case hym5 => ((intro w hSw; have q0 := F2.out w hSw; have q1 := F3.out w hSw; have q2 := F4.out w hSw; (try dsimp only at hSw); go_simp); all_goals (with_reducible rfl))
    case hqm5 => exact fun _ _ _ h => h
    try simp only [Act.put, List.setIfInBounds_toArray, List.set_cons_zero, List.set_cons_succ]
    refine wpAnyH_take (i := 6) (oi := ?oim6) (v := ?vm6) ?him6 (by kernel_rfl) (by kernel_rfl) (by kernel_rfl) ?hqm6 (Or.inl ⟨?wam6, ?hym6⟩) (by assumption) ?hrm6
    case him6 => (simp only [List.getElem?_toArray, List.getElem?_cons_succ, List.getElem?_cons_zero]; rfl)
    case wam6 => rfl
    case hym6 => ((intro w hSw; (try dsimp only at hSw); go_simp); all_goals (with_reducible rfl))
    case hqm6 => exact fun _ _ _ h => h
    try simp only [Act.put, List.setIfInBounds_toArray, List.set_cons_zero, List.set_cons_succ]
    refine wpAnyH_ready (rs := [7]) (by kernel_rfl) (by simp) ?_
    refine (AllReadyH.cons (i := 7) (o := ?om7) ?him7 ?stm7 AllReadyH.nil)
    case him7 => (simp only [List.getElem?_toArray, List.getElem?_cons_succ, List.getElem?_cons_zero]; rfl)
    case stm7 =>
      intro K hK
      go_simp
      refine (HKEY.out _).mono ?_
      rintro e w6 ⟨rfl, hb6⟩
      have HQA := hid (HQ1.out.later hb6)
      clear hb6
      go_wp2_with fail
      refine hK.out _ _ ?_ (fun hHeld => ?_)
      · exact ⟨HQA.out.hx, HQA.out.blk⟩
      clear hK K
      try simp only [Act.put, List.setIfInBounds_toArray, List.set_cons_zero, List.set_cons_succ]
      refine wpAnyH_ready (rs := [8]) (by kernel_rfl) (by simp) ?_
      refine (AllReadyH.cons (i := 8) (o := ?om7_8) ?him7_8 ?stm7_8 AllReadyH.nil)
      case him7_8 => (simp only [List.getElem?_toArray, List.getElem?_cons_succ, List.getElem?_cons_zero]; rfl)
      case stm7_8 =>
        intro K hK
        go_simp
        refine (HP.out _ HQA.out.heap).mono ?_
        rintro e w7 ⟨rfl, hB7⟩
        obtain ⟨Qh7, hQ7⟩ := QMid.step HA.out (Nat.le_of_eq HDE.out) HQA.out hB7
        have HQZ := hid hQ7
        clear hB7 hQ7
        go_wp2_with fail
        refine hK.out _ _ ?_ (fun hHeld => ?_)
        · exact ⟨HQZ.out.hx, HQZ.out.blk⟩
        clear hK K
        try simp only [Act.put, List.setIfInBounds_toArray, List.set_cons_zero, List.set_cons_succ]
        refine wpAnyH_ready (rs := [9]) (by kernel_rfl) (by simp) ?_
        refine (AllReadyH.cons (i := 9) (o := ?om7_8_9) ?him7_8_9 ?stm7_8_9 AllReadyH.nil)
        case him7_8_9 => (simp only [List.getElem?_toArray, List.getElem?_cons_succ, List.getElem?_cons_zero]; rfl)
        case stm7_8_9 =>
          intro K hK
          go_simp
          go_wp2_with fail
          refine hK.out _ _ ?_ (fun hHeld => ?_)
          · assumption
          clear hK K
          try simp only [Act.put, List.setIfInBounds_toArray, List.set_cons_zero, List.set_cons_succ]
          refine wpAnyH_done (by kernel_rfl) ?_ _
          go_wp2_with fail
          go_ret
          exact ⟨rfl, QMid.done HA.out HQZ.out (by have := HA.out.nT; omega) HV.out⟩

end
end Go.Proofs.Ytbkjlohlfkokpaa
