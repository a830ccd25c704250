/- Package locks: Wants, Holder, Has, Queue (contracts). -/
import Derived.Test.YtcbpbgjngeemoaaLocks
set_option linter.unusedVariables false
set_option linter.unusedSimpArgs false
namespace Go.Proofs.Ytcbpbgjngeemoaa
open Go.RowKit

theorem place_ids {l : List (Int × Int)} {t : Int} (h : t ∉ ids l) : place l t = -1 :=
  place_none l t fun j q hq e => h (by rw [← e]; exact List.mem_map.2 ⟨q, List.mem_of_getElem? hq, rfl⟩)
theorem ids_some {l : List (Int × Int)} {j : Nat} {p : Int × Int} (h : l[j]? = some p) : (ids l)[j]? = some p.1 := by simp [ids, h]
theorem place_at {l : List (Int × Int)} {q : List Int} {t : Int} (h : ids l = q ++ [t]) (hn : t ∉ q) : place l t = q.length := by
  have hl : l.length = q.length + 1 := by have := congrArg List.length h; simpa [ids] using this
  obtain ⟨p, hp⟩ : ∃ p, l[q.length]? = some p := ⟨_, List.getElem?_eq_getElem (by omega)⟩
  refine place_hit l t q.length p (fun j r hj hr e => hn ?_) hp ?_
  · have := ids_some hr
    rw [h, List.getElem?_append_left hj, e] at this
    exact List.mem_of_getElem? this
  · have := ids_some hp
    rw [h, List.getElem?_append_right (Nat.le_refl _), Nat.sub_self] at this
    simpa using this.symm
theorem LockAt.len {w : World} {base b bm c : Nat} {qv : Value} {P : List (Nat × Nat)} {Q : List (List Int)} (H : LockAt w base b bm qv P c Q) : P.length = Q.length := H.part.len
theorem LockAt.kept {w w' : World} {base b bm c : Nat} {qv : Value} {P : List (Nat × Nat)} {Q : List (List Int)} {S : Nat → Prop} (H : LockAt w base b bm qv P c Q) (k : Fr S w w') (hn : ∀ j, LSet b bm qv P j → ¬ S j) : LockAt w' base b bm qv P c Q := ⟨H.part.kept k hn, H.inv⟩
theorem LockAt.later {w w' : World} {base b bm c : Nat} {qv : Value} {P : List (Nat × Nat)} {Q : List (List Int)} (H : LockAt w base b bm qv P c Q) (k : Below w.heap.size w w') : LockAt w' base b bm qv P c Q := H.kept (fr0 k) (fun _ _ h => h)
theorem LockAt.drewN {w : World} {base b bm c : Nat} {qv : Value} {P : List (Nat × Nat)} {Q : List (List Int)} (H : LockAt w base b bm qv P c Q) (q : Nat) : LockAt (w.drewN q) base b bm qv P c Q := H.kept ((Fr.refl NoB w).drewN q) (fun _ _ h => h)
theorem LockAt.mono {w : World} {base b bm c c' : Nat} {qv : Value} {P : List (Nat × Nat)} {Q : List (List Int)} (H : LockAt w base b bm qv P c Q) (hc : c ≤ c') : LockAt w base b bm qv P c' Q :=
  ⟨⟨H.part.hb, H.part.row, H.part.len, fun i p q hp hq => (H.part.rings i p q hp hq).mono hc, H.part.pw, H.part.map.mono hc, H.part.lo⟩, H.inv⟩
section
variable {w : World} {base b bm c : Nat} {qv : Value} {P : List (Nat × Nat)} {Q : List (List Int)}
set_option maxHeartbeats 400000 in
theorem lock_wants (H : LockAt w base b bm qv P c Q) {t : Int} (h0 : -9223372036854775808 ≤ t) (h1 : t ≤ 9223372036854775807) :
    Calls Try.prog 52 #[.pointer (some ⟨b, 0, none⟩), .int .i64 t] w fun e w' => e = .returned (.int .i64 (wantsQ Q t)) ∧ w' = w := by
  have c1 : w.cell? ⟨b, 1, none⟩ = some (.map (some bm)) := blk_cell H.part.hb 1
  have HM := hid H.part.map
  have hw := hid (wfI h0 h1)
  by_cases hq : wantsQ Q t < 0
  · have e1 : wantF Q t = none := by unfold wantF; rw [if_pos hq]
    have e2 := hid (show wantsQ Q t = -1 by have := wants_bd Q t; omega)
    clear H h0 h1 hq
    generalize hv : wantF Q t = v at *
    subst e1
    have HV := hid hv
    clear hv
    go_enter Try.func52, Try.ntmps52
    go_wp2_with (at_lookup; refine wp_look_ok rfl _ _ _ rfl Try.underlying3 Try.underlying3 Try.underlying110 (Try.zero_int _) HM.out rfl t rfl hw.out ?_; rw [HV.out])
    go_ret
    exact ⟨ret_eq (by rw [e2.out]; rfl), rfl⟩
  · have e1 : wantF Q t = some (wantsQ Q t) := by unfold wantF; rw [if_neg hq]
    clear H h0 h1 hq
    generalize hv : wantF Q t = v at *
    generalize wantsQ Q t = u at *
    subst e1
    have HV := hid hv
    clear hv
    go_enter Try.func52, Try.ntmps52
    go_wp2_with (at_lookup; refine wp_look_ok rfl _ _ _ rfl Try.underlying3 Try.underlying3 Try.underlying110 (Try.zero_int _) HM.out rfl t rfl hw.out ?_; rw [HV.out])
    go_ret
    exact ⟨rfl, rfl⟩
theorem holder_get {res : Int} (hr : 0 ≤ res ∧ res < (Q.length : Int)) {q : List Int} (hq : Q[res.toNat]? = some q) : holderQ Q res = headQ q := by
  unfold holderQ
  rw [if_pos hr, List.getD_eq_getElem?_getD, hq]
  rfl
set_option maxHeartbeats 400000 in
theorem lock_holder_in (H : LockAt w base b bm qv P c Q) {i : Nat} {q : List Int} (hq : Q[i]? = some q) :
    Calls Try.prog 50 #[.pointer (some ⟨b, 0, none⟩), .int .i64 i] w fun e w' => e = .returned (.int .i64 (headQ q)) ∧ ∃ n, w' = w.drewN n := by
  have hi := (List.getElem?_eq_some_iff.1 hq).1
  obtain ⟨p, hp⟩ : ∃ p, P[i]? = some p := ⟨_, List.getElem?_eq_getElem (by rw [H.len]; exact hi)⟩
  have HQ := hid (queue_in H.part hp)
  obtain ⟨R, hR, _, _, he⟩ := H.part.rings i p q hp hq
  cases hl : R.l with
  | nil =>
    have e1 : q = [] := by rw [← he, hl]; rfl
    subst e1
    have HH := hid (ring_head_is hR (a := 0) (b := false) (by rw [hl]; rfl) (by rw [hl]; rfl))
    clear H hR he hl hp hq
    go_enter Try.func50, Try.ntmps50
    go_wp2_with fail
    refine HQ.out.mono ?_
    rintro e w1 ⟨rfl, rfl⟩
    go_wp2_with fail
    refine HH.out.mono ?_
    rintro e w2 ⟨rfl, n2, rfl⟩
    go_wp2_with fail
    go_ret
    exact ⟨rfl, _, rfl⟩
  | cons x l =>
    have e1 : q = x.1 :: ids l := by rw [← he, hl]; rfl
    subst e1
    have HH := hid (ring_head_is hR (a := x.1) (b := true) (by rw [hl]; rfl) (by rw [hl]; rfl))
    clear H hR he hl hp hq
    go_enter Try.func50, Try.ntmps50
    go_wp2_with fail
    refine HQ.out.mono ?_
    rintro e w1 ⟨rfl, rfl⟩
    go_wp2_with fail
    refine HH.out.mono ?_
    rintro e w2 ⟨rfl, n2, rfl⟩
    go_wp2_with fail
    go_ret
    exact ⟨rfl, _, rfl⟩
set_option maxHeartbeats 400000 in
theorem lock_holder_out (H : LockAt w base b bm qv P c Q) {res : Int} (hr : res < 0 ∨ (Q.length : Int) ≤ res) :
    Calls Try.prog 50 #[.pointer (some ⟨b, 0, none⟩), .int .i64 res] w fun e w' => e = .returned (.int .i64 (-1)) ∧ Below w.heap.size w w' := by
  have HQ := hid (queue_out H.part (res := res) (by rw [H.len]; exact hr))
  clear H hr
  go_enter Try.func50, Try.ntmps50
  go_wp2_with fail
  refine HQ.out.mono ?_
  rintro e w1 ⟨rfl, hw1⟩
  have c3 : w1.cell? ⟨w.heap.size, 3, none⟩ = some (.int .i64 0) := by rw [hw1]; exact blk_cell (blk_new _ _) 3
  have HB := hid (show Below w.heap.size w w1 by rw [hw1]; exact (Below.refl _ _).alloc (Nat.le_refl _) _)
  clear hw1
  go_wp2_with fail
  refine (head_zero c3).mono ?_
  rintro e w2 ⟨rfl, rfl⟩
  go_wp2_with fail
  go_ret
  exact ⟨rfl, HB.out⟩
theorem lock_holder (H : LockAt w base b bm qv P c Q) (res : Int) :
    Calls Try.prog 50 #[.pointer (some ⟨b, 0, none⟩), .int .i64 res] w fun e w' => e = .returned (.int .i64 (holderQ Q res)) ∧ Below w.heap.size w w' := by
  by_cases hr : 0 ≤ res ∧ res < (Q.length : Int)
  · obtain ⟨i, rfl⟩ : ∃ i : Nat, res = i := ⟨res.toNat, by omega⟩
    obtain ⟨q, hq⟩ : ∃ q, Q[i]? = some q := ⟨_, List.getElem?_eq_getElem (by omega)⟩
    rw [holder_get hr (by simpa using hq)]
    exact (lock_holder_in H hq).mono fun e w' ⟨he, n, hw⟩ => ⟨he, by rw [hw]; exact below_drewN' (Below.refl _ _) n⟩
  · have : holderQ Q res = -1 := by unfold holderQ; rw [if_neg hr]
    rw [this]
    exact lock_holder_out H (by omega)
set_option maxHeartbeats 400000 in
theorem lock_has (H : LockAt w base b bm qv P c Q) {t : Int} (h0 : -9223372036854775808 ≤ t) (h1 : t ≤ 9223372036854775807) :
    Calls Try.prog 54 #[.pointer (some ⟨b, 0, none⟩), .int .i64 t] w fun e w' => e = .returned (.bool (hasQ Q t)) ∧ ∃ n, w' = w.drewN n := by
  have HW := hid (lock_wants H h0 h1)
  rcases wants_cases Q t with ⟨e1, _⟩ | ⟨i, q, e1, hq, _⟩
  · have e2 := hid (show hasQ Q t = false by unfold hasQ; rw [e1]; rfl)
    rw [e1] at HW
    clear H h0 h1 e1
    go_enter Try.func54, Try.ntmps54
    go_wp2_with fail
    refine HW.out.mono ?_
    rintro e w1 ⟨rfl, rfl⟩
    go_wp2_with fail
    go_ret
    exact ⟨ret_eq (by rw [e2.out]; rfl), 0, rfl⟩
  · have hi := (List.getElem?_eq_some_iff.1 hq).1
    have HH := hid (lock_holder_in H hq)
    have e2 := hid (show hasQ Q t = decide (headQ q = t) by unfold hasQ; rw [e1, holder_get ⟨by omega, by omega⟩ (by simpa using hq)]; simp)
    rw [e1] at HW
    clear H h0 h1 e1 hq
    generalize headQ q = h at *
    go_enter Try.func54, Try.ntmps54
    go_wp2_with fail
    refine HW.out.mono ?_
    rintro e w1 ⟨rfl, rfl⟩
    go_wp2_with fail
    refine HH.out.mono ?_
    rintro e w2 ⟨rfl, n2, rfl⟩
    go_wp2_with fail
    go_ret
    exact ⟨ret_eq (by rw [e2.out]; rfl), _, rfl⟩
set_option maxHeartbeats 400000 in
theorem lock_queue (H : LockAt w base b bm qv P c Q) (res : Int) :
    Calls Try.prog 56 #[.pointer (some ⟨b, 0, none⟩), .int .i64 res] w (OwnedInts w (queueQ Q res)) := by
  by_cases hr : 0 ≤ res ∧ res < (Q.length : Int)
  · obtain ⟨i, rfl⟩ : ∃ i : Nat, res = i := ⟨res.toNat, by omega⟩
    obtain ⟨q, hq⟩ : ∃ q, Q[i]? = some q := ⟨_, List.getElem?_eq_getElem (by omega)⟩
    obtain ⟨p, hp⟩ : ∃ p, P[i]? = some p := ⟨_, List.getElem?_eq_getElem (by rw [H.len]; omega)⟩
    have HQ := hid (queue_in H.part hp)
    obtain ⟨R, hR, _, _, he⟩ := H.part.rings i p q hp hq
    have e1 : queueQ Q i = ids R.l := by unfold queueQ; rw [if_pos hr, List.getD_eq_getElem?_getD]; simp [hq, he]
    have HA := hid (ring_all hR)
    rw [e1]
    clear H hR he hp hq e1 hr
    go_enter Try.func56, Try.ntmps56
    go_wp2_with fail
    refine HQ.out.mono ?_
    rintro e w1 ⟨rfl, rfl⟩
    go_wp2_with fail
    refine HA.out.mono ?_
    rintro e w2 ⟨v, rfl, hv⟩
    have HV := hid hv
    clear hv
    go_wp2_with fail
    go_ret
    exact ⟨v, rfl, HV.out⟩
  · have e1 : queueQ Q res = [] := by unfold queueQ; rw [if_neg hr]
    have HQ := hid (queue_out H.part (res := res) (by rw [H.len]; omega))
    rw [e1]
    clear H e1 hr
    go_enter Try.func56, Try.ntmps56
    go_wp2_with fail
    refine HQ.out.mono ?_
    rintro e w1 ⟨rfl, hw1⟩
    have c3 : w1.cell? ⟨w.heap.size, 3, none⟩ = some (.int .i64 0) := by rw [hw1]; exact blk_cell (blk_new _ _) 3
    have HB := hid (show Below w.heap.size w w1 by rw [hw1]; exact (Below.refl _ _).alloc (Nat.le_refl _) _)
    clear hw1
    go_wp2_with fail
    refine (all_zero c3).mono ?_
    rintro e w2 ⟨rfl, rfl⟩
    go_wp2_with fail
    go_ret
    exact ⟨_, rfl, HB.out, World.ownsRow_nil _ _ _ _, fun _ => rfl⟩

/-! ### what turns a lock -/
/-- A call's blocks are the lock's own. -/
def LockBehind (w : World) (base b bm c : Nat) (qv : Value) (P : List (Nat × Nat)) (Q' : List (List Int)) (w' : World) : Prop :=
  LockAt w' base b bm qv P (c + 2) Q' ∧ Fr (LSet b bm qv P) w w'
theorem LockBehind.same (H : LockAt w base b bm qv P c Q) {w' : World} (hb : Below w.heap.size w w') : LockBehind w base b bm c qv P Q w' :=
  ⟨(H.later hb).mono (by omega), Fr.of_below hb⟩
theorem ring_two {p : Nat × Nat} (hp : p ∈ P) (x : Nat) (h : Two p.1 p.2 x) : LSet b bm qv P x := .inr (.inr (.inr ⟨p, hp, h⟩))
set_option maxHeartbeats 400000 in
theorem lock_ask_arg (H : LockAt w base b bm qv P c Q) {res t : Int} (h : res < 0 ∨ (Q.length : Int) ≤ res ∨ t < 0 ∨ 24 ≤ t) :
    Calls Try.prog 46 #[.pointer (some ⟨b, 0, none⟩), .int .i64 res, .int .i64 t] w fun e w' => e = .returned (.tuple #[.int .i64 0, .int .i64 1]) ∧ w' = w := by
  obtain ⟨n, hn⟩ : ∃ n, n = P.length := ⟨_, rfl⟩
  have hrow := H.part.row
  rw [← hn] at hrow
  rw [← H.len, ← hn] at h
  obtain ⟨A, cap, rfl⟩ := own_slice hrow
  have c0 : w.cell? ⟨b, 0, none⟩ = some (.slice A n cap) := blk_cell H.part.hb 0
  clear H hn hrow
  by_cases h1 : res < 0
  · go_enter Try.func46, Try.ntmps46
    go_wp2_with fail
    go_ret2
    exact ⟨rfl, rfl⟩
  · by_cases h2 : (n : Int) ≤ res
    · go_enter Try.func46, Try.ntmps46
      go_wp2_with fail
      go_ret2
      exact ⟨rfl, rfl⟩
    · by_cases h3 : t < 0
      · go_enter Try.func46, Try.ntmps46
        go_wp2_with fail
        go_ret2
        exact ⟨rfl, rfl⟩
      · have h4 : 24 ≤ t := by omega
        clear h
        go_enter Try.func46, Try.ntmps46
        go_wp2_with fail
        go_ret2
        exact ⟨rfl, rfl⟩
set_option maxHeartbeats 400000 in
theorem lock_ask_there (H : LockAt w base b bm qv P c Q) {t : Int} {i : Nat} (hi : i < Q.length) (h3 : 0 ≤ t) (h4 : t < 24) (h5 : 0 ≤ wantsQ Q t) :
    Calls Try.prog 46 #[.pointer (some ⟨b, 0, none⟩), .int .i64 i, .int .i64 t] w fun e w' => e = .returned (.tuple #[.int .i64 0, .int .i64 4]) ∧ w' = w := by
  have HW := hid (lock_wants H (t := t) (by omega) (by omega))
  obtain ⟨n, hn⟩ : ∃ n, n = P.length := ⟨_, rfl⟩
  have hrow := H.part.row
  rw [← hn] at hrow
  rw [← H.len, ← hn] at hi
  obtain ⟨A, cap, rfl⟩ := own_slice hrow
  have c0 : w.cell? ⟨b, 0, none⟩ = some (.slice A n cap) := blk_cell H.part.hb 0
  clear H hn hrow
  generalize wantsQ Q t = u at *
  go_enter Try.func46, Try.ntmps46
  go_wp2_with fail
  refine HW.out.mono ?_
  rintro e w1 ⟨rfl, rfl⟩
  go_wp2_with fail
  go_ret2
  exact ⟨rfl, rfl⟩
set_option maxHeartbeats 400000 in
theorem lock_ask_new (H : LockAt w base b bm qv P c Q) {t : Int} {i : Nat} {q : List Int} (hq : Q[i]? = some q) (h3 : 0 ≤ t) (h4 : t < 24) (h5 : wantsQ Q t < 0) (h6 : Q.length ≤ 8) (hc : c < 1000000) :
    Calls Try.prog 46 #[.pointer (some ⟨b, 0, none⟩), .int .i64 i, .int .i64 t] w fun e w' => e = .returned (.tuple #[.int .i64 q.length, .int .i64 0]) ∧ LockBehind w base b bm c qv P (Q.set i (q ++ [t])) w' := by
  have HW := hid (lock_wants H (t := t) (by omega) (by omega))
  have HI := hid (H.inv.ask hq ⟨h3, h4⟩ h5)
  have HWA := hid (fun s => want_ask H.inv hq ⟨h3, h4⟩ h5 s)
  have hi := (List.getElem?_eq_some_iff.1 hq).1
  obtain ⟨p, hp⟩ : ∃ p, P[i]? = some p := ⟨_, List.getElem?_eq_getElem (by rw [H.len]; exact hi)⟩
  have HQ := hid (queue_in H.part hp)
  obtain ⟨R, hR, hroom, hlast, he⟩ := H.part.rings i p q hp hq
  have hno : t ∉ ids R.l := fun hm => by
    have := H.inv.wants hq (by rw [← he]; exact hm)
    omega
  have hlen : R.l.length < 24 := by have := H.inv.room hq ⟨h3, h4⟩ h5; rw [← he] at this; simpa [ids] using this
  have hput : putR R t = ((R.last : Int) + 1, 0, ⟨R.room, R.last + 1, R.l ++ [(t, (R.last : Int) + 1)]⟩) := by
    unfold putR
    rw [if_neg (by rw [place_ids hno]; omega), if_neg (by omega)]
  have HP := hid (ring_put_is hR t (by omega) hput)
  have hnq := hid (show t ∉ q by rw [← he]; exact hno)
  have hql : q.length = R.l.length := by rw [← he]; simp [ids]
  have HH := hid H
  have hids : ids (R.l ++ [(t, (R.last : Int) + 1)]) = q ++ [t] := by rw [← he]; simp [ids]
  have hwf := hid (wfI (t := t) (by omega) (by omega))
  have hwi := hid (wfI (t := (i : Int)) (by omega) (by omega))
  obtain ⟨n, hn⟩ : ∃ n, n = P.length := ⟨_, rfl⟩
  have hrow := H.part.row
  rw [← hn] at hrow
  have hin : i < n := by rw [hn, H.len]; exact hi
  obtain ⟨A, cap, rfl⟩ := own_slice hrow
  have c0 : w.cell? ⟨b, 0, none⟩ = some (.slice A n cap) := blk_cell H.part.hb 0
  have HIDS := hid hids
  have HL := hid hlast
  have HRO := hid hroom
  have HQL := hid hql
  clear H hrow hR he hno hput hids hlast hroom hql
  generalize hu : wantsQ Q t = u at HW h5
  have HU := hid hu
  clear hu
  go_enter Try.func46, Try.ntmps46
  go_wp2_with fail
  refine HW.out.mono ?_
  rintro e w1 ⟨rfl, hw1⟩
  obtain rfl : w1 = w := hw1
  go_wp2_with fail
  refine HQ.out.mono ?_
  rintro e w2 ⟨rfl, hw2⟩
  obtain rfl : w2 = w1 := hw2
  go_wp2_with fail
  refine HP.out.mono ?_
  rintro e w3 ⟨rfl, hR3, hF3⟩
  have hL3 := HH.out.part.stepRing (q' := q ++ [t]) (c' := c + 1) hp hq ⟨_, hR3, HRO.out, by have := HL.out; show R.last + 1 ≤ c + 1; omega, HIDS.out⟩ hF3 (Nat.le_succ c)
  have c13 : w3.cell? ⟨b, 1, none⟩ = some (.map (some bm)) := blk_cell hL3.hb 1
  have HL3 := hid hL3
  have HF3 := hid hF3
  clear hR3 hF3 hL3
  have hPm := List.mem_of_getElem? hp
  go_wp2_with (at_mapUpdate; refine wp_store rfl _ _ _ _ rfl Try.underlying3 Try.underlying3 Try.underlying110 HL3.out.map (by unfold maxLen; omega) rfl t i rfl rfl hwf.out hwi.out ?_)
  intro w4 hM4 hF4
  have hL4 := HL3.out.stepMap hM4 hF4 (by omega : c + 1 ≤ c + 1 + 1)
  have HL4 := hid hL4
  have HF4 := hid hF4
  have HQ4 := hid (queue_in hL4 hp)
  obtain ⟨R4, hR4, _, _, he4⟩ := hL4.rings i p _ hp (List.getElem?_set_self hi)
  have HP4 := hid (ring_place_is hR4 t (place_at he4 hnq.out))
  clear hM4 hF4 hL4 hR4 he4 c13
  go_wp2_with fail
  refine HQ4.out.mono ?_
  rintro e w5 ⟨rfl, hw5⟩
  obtain rfl : w5 = w4 := hw5
  go_wp2_with fail
  refine HP4.out.mono ?_
  rintro e w6 ⟨rfl, n6, rfl⟩
  go_wp2_with fail
  go_ret2
  refine ⟨rfl, LockAt.drewN ⟨?_, HI.out⟩ n6, Fr.drewN ((HF3.out.mono (fun x hx => .inl (ring_two hPm x hx))).trans HF4.out (fun x hx => .inl (.inr (.inl hx)))) n6⟩
  refine ⟨HL4.out.hb, HL4.out.row, HL4.out.len, HL4.out.rings, HL4.out.pw, HL4.out.map.congr (fun s => ?_), HL4.out.lo⟩
  unfold wantF
  rw [HWA.out s]
  by_cases e : s = t
  · rw [if_pos e, if_pos e, if_neg (by omega)]
  · rw [if_neg e, if_neg e]
theorem lock_ask (H : LockAt w base b bm qv P c Q) (res t : Int) (h6 : Q.length ≤ 8) (hc : c < 1000000) {x y : Int} {Q' : List (List Int)} (ha : askQ Q res t = (x, y, Q')) :
    Calls Try.prog 46 #[.pointer (some ⟨b, 0, none⟩), .int .i64 res, .int .i64 t] w fun e w' => e = .returned (.tuple #[.int .i64 x, .int .i64 y]) ∧ LockBehind w base b bm c qv P Q' w' := by
  unfold askQ at ha
  by_cases h : res < 0 ∨ (Q.length : Int) ≤ res ∨ t < 0 ∨ 24 ≤ t
  · rw [if_pos h] at ha
    simp only [Prod.mk.injEq] at ha
    obtain ⟨rfl, rfl, rfl⟩ := ha
    exact (lock_ask_arg H h).mono fun e w' ⟨he, hw⟩ => ⟨he, hw ▸ LockBehind.same H (Below.refl _ _)⟩
  · rw [if_neg h] at ha
    obtain ⟨i, rfl⟩ : ∃ i : Nat, res = i := ⟨res.toNat, by omega⟩
    obtain ⟨q, hq⟩ : ∃ q, Q[i]? = some q := ⟨_, List.getElem?_eq_getElem (by omega)⟩
    by_cases h2 : 0 ≤ wantsQ Q t
    · rw [if_pos h2] at ha
      simp only [Prod.mk.injEq] at ha
      obtain ⟨rfl, rfl, rfl⟩ := ha
      exact (lock_ask_there H (by omega) (by omega) (by omega) h2).mono fun e w' ⟨he, hw⟩ => ⟨he, hw ▸ LockBehind.same H (Below.refl _ _)⟩
    · rw [if_neg h2] at ha
      have hg : Q.getD ((i : Int)).toNat [] = q := by rw [List.getD_eq_getElem?_getD]; simp [hq]
      rw [hg] at ha
      simp only [Prod.mk.injEq, Int.toNat_natCast] at ha
      obtain ⟨rfl, rfl, rfl⟩ := ha
      exact lock_ask_new H hq (by omega) (by omega) (by omega) h6 hc
theorem has_split {t : Int} (hI : QInv Q) (h : hasQ Q t = true) : ∃ (i : Nat) (q : List Int), Q[i]? = some (t :: q) ∧ wantsQ Q t = i := by
  unfold hasQ at h
  simp only [Bool.and_eq_true, decide_eq_true_eq] at h
  rcases wants_cases Q t with ⟨h1, _⟩ | ⟨i, q, h1, hq, hm⟩
  · omega
  · have hi := (List.getElem?_eq_some_iff.1 hq).1
    rw [h1, holder_get ⟨by omega, by omega⟩ (by simpa using hq)] at h
    cases q with
    | nil => cases hm
    | cons x q => exact ⟨i, q, by rw [hq, ← h.2]; rfl, h1⟩
set_option maxHeartbeats 400000 in
theorem lock_free_no (H : LockAt w base b bm qv P c Q) {t : Int} (h0 : -9223372036854775808 ≤ t) (h1 : t ≤ 9223372036854775807) (h : hasQ Q t = false) :
    Calls Try.prog 48 #[.pointer (some ⟨b, 0, none⟩), .int .i64 t] w fun e w' => e = .returned (.tuple #[.int .i64 0, .int .i64 5]) ∧ ∃ n, w' = w.drewN n := by
  have HA := hid (lock_has H h0 h1)
  rw [h] at HA
  clear H h h0 h1
  go_enter Try.func48, Try.ntmps48
  go_wp2_with fail
  refine HA.out.mono ?_
  rintro e w1 ⟨rfl, n1, rfl⟩
  go_wp2_with fail
  go_ret2
  exact ⟨rfl, _, rfl⟩
set_option maxHeartbeats 400000 in
theorem lock_free_yes (H : LockAt w base b bm qv P c Q) {t : Int} {i : Nat} {q : List Int} (hq : Q[i]? = some (t :: q)) (hc : c < 1000000) :
    Calls Try.prog 48 #[.pointer (some ⟨b, 0, none⟩), .int .i64 t] w fun e w' => e = .returned (.tuple #[.int .i64 (headQ q), .int .i64 0]) ∧ LockBehind w base b bm c qv P (Q.set i q) w' := by
  have ht := (H.inv.nodup i _ hq).2 t (by simp)
  have hwq := H.inv.wants hq (t := t) (by simp)
  have hi := (List.getElem?_eq_some_iff.1 hq).1
  have hhas : hasQ Q t = true := by
    unfold hasQ
    rw [hwq, holder_get ⟨by omega, by omega⟩ (by simpa using hq)]
    simp [headQ]
  have HA := hid (lock_has H (t := t) (by omega) (by omega))
  rw [hhas] at HA
  have HI := hid (H.inv.sub hq (List.sublist_cons_self t q))
  have HWA := hid (fun s => want_free H.inv hq s)
  obtain ⟨p, hp⟩ : ∃ p, P[i]? = some p := ⟨_, List.getElem?_eq_getElem (by rw [H.len]; exact hi)⟩
  have hwf := hid (wfI (t := t) (by omega) (by omega))
  have HH := hid H
  have HQI := hid hq
  have hPm := List.mem_of_getElem? hp
  clear H hhas
  go_enter Try.func48, Try.ntmps48
  go_wp2_with fail
  refine HA.out.mono ?_
  rintro e w1 ⟨rfl, n1, hw1⟩
  have HH1 := hid (show LockAt w1 base b bm qv P c Q by rw [hw1]; exact HH.out.drewN n1)
  have HF1 := hid (show Fr (LSet b bm qv P) w w1 by rw [hw1]; exact (Fr.refl _ w).drewN n1)
  have HW1 := hid (lock_wants HH1.out (t := t) (by omega) (by omega))
  rw [hwq] at HW1
  have HQ1 := hid (queue_in HH1.out.part hp)
  obtain ⟨R, hR, hroom, hlast, he⟩ := HH1.out.part.rings i p _ hp HQI.out
  obtain ⟨x, l, hl⟩ : ∃ x l, R.l = x :: l := by cases hl : R.l with | nil => rw [hl] at he; cases he | cons x l => exact ⟨x, l, rfl⟩
  have he1 : x.1 = t ∧ ids l = q := by rw [hl] at he; simpa [ids] using he
  have HT := hid (ring_take_is hR (a := t) (b := true) (by rw [hl]; exact he1.1) (by rw [hl]; rfl))
  have hidt := hid (show (takeR R).room = 24 ∧ (takeR R).last ≤ c + 1 ∧ ids (takeR R).l = q from ⟨hroom, by show R.last ≤ c + 1; omega, by show ids R.l.tail = q; rw [hl]; exact he1.2⟩)
  clear hw1 hR hroom hlast he hl he1 hwq
  go_wp2_with fail
  refine HW1.out.mono ?_
  rintro e w2 ⟨rfl, hw2⟩
  obtain rfl : w2 = w1 := hw2
  go_wp2_with fail
  refine HQ1.out.mono ?_
  rintro e w3 ⟨rfl, hw3⟩
  obtain rfl : w3 = w2 := hw3
  go_wp2_with fail
  refine HT.out.mono ?_
  rintro e w4 ⟨rfl, hR4, hF4⟩
  have hL4 := HH1.out.part.stepRing (q' := q) (c' := c + 1) hp HQI.out ⟨_, hR4, hidt.out⟩ hF4 (Nat.le_succ c)
  have c14 : w4.cell? ⟨b, 1, none⟩ = some (.map (some bm)) := blk_cell hL4.hb 1
  have HL4 := hid hL4
  have HF4 := hid hF4
  clear hR4 hF4 hL4
  go_wp2_with (at_delete; refine wp_delete rfl _ _ _ rfl Try.underlying3 Try.underlying110 HL4.out.map rfl t rfl hwf.out ?_)
  intro w5 hM5 hF5
  have hL5 := HL4.out.stepMap hM5 hF5 (Nat.le_refl _)
  have HF5 := hid hF5
  have hL6 : LockAt w5 base b bm qv P (c + 1) (Q.set i q) := ⟨⟨hL5.hb, hL5.row, hL5.len, hL5.rings, hL5.pw, hL5.map.congr (fun s => by
    unfold wantF
    rw [HWA.out s]
    by_cases e : s = t
    · rw [if_pos e, if_pos e, if_pos (by omega)]
    · rw [if_neg e, if_neg e]), hL5.lo⟩, HI.out⟩
  have HL6 := hid hL6
  have HH6 := hid (lock_holder_in hL6 (i := i) (q := q) (List.getElem?_set_self hi))
  clear hM5 hF5 hL5 hL6 c14
  go_wp2_with fail
  refine HH6.out.mono ?_
  rintro e w6 ⟨rfl, n6, rfl⟩
  go_wp2_with fail
  go_ret2
  exact ⟨rfl, (HL6.out.mono (by omega)).drewN n6, Fr.drewN ((HF1.out.trans HF4.out (fun x hx => .inl (ring_two hPm x hx))).trans HF5.out (fun x hx => .inl (.inr (.inl hx)))) n6⟩
theorem lock_free (H : LockAt w base b bm qv P c Q) {t : Int} (h0 : -9223372036854775808 ≤ t) (h1 : t ≤ 9223372036854775807) (hc : c < 1000000) {x y : Int} {Q' : List (List Int)} (ha : freeQ Q t = (x, y, Q')) :
    Calls Try.prog 48 #[.pointer (some ⟨b, 0, none⟩), .int .i64 t] w fun e w' => e = .returned (.tuple #[.int .i64 x, .int .i64 y]) ∧ LockBehind w base b bm c qv P Q' w' := by
  unfold freeQ at ha
  by_cases h : hasQ Q t = true
  · rw [if_pos h] at ha
    obtain ⟨i, q, hq, hw⟩ := has_split H.inv h
    have hi := (List.getElem?_eq_some_iff.1 hq).1
    have hfr : freedQ Q t = Q.set i q := by
      unfold freedQ
      rw [hw, Int.toNat_natCast, List.getD_eq_getElem?_getD, hq]
      rfl
    rw [hfr, hw, holder_get (q := q) ⟨by omega, by rw [List.length_set]; omega⟩ (by rw [Int.toNat_natCast]; exact List.getElem?_set_self hi)] at ha
    simp only [Prod.mk.injEq] at ha
    obtain ⟨rfl, rfl, rfl⟩ := ha
    exact lock_free_yes H hq hc
  · rw [if_neg h] at ha
    simp only [Prod.mk.injEq] at ha
    obtain ⟨rfl, rfl, rfl⟩ := ha
    exact (lock_free_no H h0 h1 (by simpa using h)).mono fun e w' ⟨he, n, hw⟩ => ⟨he, by rw [hw]; exact LockBehind.same H (below_drewN' (Below.refl _ _) n)⟩
end
end Go.Proofs.Ytcbpbgjngeemoaa
